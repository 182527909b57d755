/- Rings of slices: what each function of the program does. -/
import Derived.Test.YtppkeemdbhmkgaaRingW
import Derived.Test.YtppkeemdbhmkgaaStqG
namespace Go.Proofs.Ytppkeemdbhmkgaa.Eng
open Go Go.RowKit Go.Proofs
set_option linter.unusedVariables false
set_option linter.unusedSimpArgs false
set_option maxRecDepth 1000000
theorem maxmin0 {n m : Int} (hm : 0 ≤ m) : maxI (0 : Int) (minI n m) = ((max 0 (min n m)).toNat : Int) := by
  unfold maxI minI
  split <;> split <;> omega
abbrev Sl3 : Type := Option Addr × Nat × Nat
abbrev slV (p : Sl3) : Value := .slice p.1 p.2.1 p.2.2
abbrev sl0 : Sl3 := (none, 0, 0)
/-- A ring: its places, the things, its room. -/
def ringO {α : Type} (T E : TypeId) (f : α → Value) (g : Nat) (xs : List α) (room : Nat) : HP :=
  exH fun q => exH fun c => exH fun L => exH fun front => exH fun buf => puH (RingOk L front buf xs room) (allH [blk g T [.slice q L c, .int .i64 (front : Int), .int .i64 (xs.length : Nat), .int .i64 (room : Int)], slO E 1 q L c (buf.map f)])
section
variable {e w : World} {F : List HP} {α : Type} {T E : TypeId} {f : α → Value} {g : Nat} {xs : List α} {room : Nat}
theorem ringO.op (h : Own e w (ringO T E f g xs room :: F)) : ∃ q c L front buf, RingOk L front buf xs room ∧ Own e w (blk g T [.slice q L c, .int .i64 (front : Int), .int .i64 (xs.length : Nat), .int .i64 (room : Int)] :: slO E 1 q L c (buf.map f) :: F) := by
  obtain ⟨q, h⟩ := h.ex
  obtain ⟨c, h⟩ := h.ex
  obtain ⟨L, h⟩ := h.ex
  obtain ⟨fr, h⟩ := h.ex
  obtain ⟨buf, h⟩ := h.ex
  obtain ⟨hok, h⟩ := h.pu
  exact ⟨q, c, L, fr, buf, hok, h.open_⟩
theorem ringO.cl {q : Option Addr} {c L front : Nat} {buf : List α} (hok : RingOk L front buf xs room) (h : Own e w (blk g T [.slice q L c, .int .i64 (front : Int), .int .i64 (xs.length : Nat), .int .i64 (room : Int)] :: slO E 1 q L c (buf.map f) :: F)) : Own e w (ringO T E f g xs room :: F) := by
  have h : Own e w ([blk g T [.slice q L c, .int .i64 (front : Int), .int .i64 (xs.length : Nat), .int .i64 (room : Int)], slO E 1 q L c (buf.map f)] ++ F) := h
  exact Own.mkEx q (Own.mkEx c (Own.mkEx L (Own.mkEx front (Own.mkEx buf (Own.mkPu hok h.close_)))))
end
section
variable {e w : World} {F : List HP} {g : Nat} {xs ys : List Sl3} {room : Nat} {q q2 : Option Addr} {n c m c2 : Nat}
abbrev ring_int (g : Nat) (xs : List Sl3) (room : Nat) : HP := ringO 61 33 slV g xs room
abbrev sl_int (q : Option Addr) (n c : Nat) (xs : List Sl3) : HP := slO 33 1 q n c (xs.map slV)
theorem one_int {l : List Sl3} : ∀ u ∈ l.map slV, u.oneCell' = true := fun u hu => by
  obtain ⟨x, _, rfl⟩ := List.mem_map.1 hu; rfl
theorem app_int {k : Value → World → Prop} (h : Own e w (sl_int q n c xs :: F)) (hr : RdC w q2 (ys.map slV)) (hl : ys.length = m) (hn : n + m ≤ 1000000)
    (hk : ∀ q' c' w', Own e w' (sl_int q' (n + m) c' (xs ++ ys) :: F) → k (.slice q' (n + m) c') w') :
    RunR Try.prog (builtinV .append #[48, 48] 48 #[.slice q n c, .slice q2 m c2]) w k := by
  refine Own.append (z := [.slice none 0 0]) (b := 24) (news := ys.map slV) h (by kernel_rfl) (by kernel_rfl) (by kernel_rfl) (by kernel_rfl) (by kernel_rfl) (by omega) hr ?_ one_int ?_ (by omega) ?_
  · rw [List.length_map, hl]; omega
  · unfold maxLen; omega
  · intro q' c' w' h _
    rw [← List.map_append] at h
    exact hk q' c' w' h
theorem put_int {k : Value → World → Prop} {g : Nat} {y : Sl3} (h : Own e w (blk g 33 [slV y] :: sl_int q n c xs :: F)) (hn : n + 1 ≤ 1000000)
    (hk : ∀ q' c' w', Own e w' (sl_int q' (n + 1) c' (xs ++ [y]) :: F) → k (.slice q' (n + 1) c') w') :
    RunR Try.prog (builtinV .append #[48, 48] 48 #[.slice q n c, .slice (some ⟨g, 0, none⟩) 1 c2]) w k :=
  app_int (ys := [y]) h.swap h.blkRd rfl hn fun q' c' w' h => hk q' c' w' h.swap.drop
theorem clone_int (h : Own e w F) (hr : ∀ w, Own e w F → RdC w q (xs.map slV)) (hl : xs.length = n) (hn : n ≤ 1000000) :
    Rets Try.prog 51 #[.slice q n c] w fun v w' => ∃ q' c', v = .slice q' n c' ∧ Own e w' (sl_int q' n c' xs :: F) := by
  refine slices_Clone_int_int_go _ _ _ ?_
  refine ⟨fun hc => ?_, fun hc => ?_⟩
  · cases q with
    | some a => cases hc
    | none =>
      have hb : xs = [] := by
        rcases hr w h with hr | ⟨a, ha, _⟩
        · simpa using hr
        · cases ha
      subst hb
      obtain rfl : n = 0 := hl.symm
      exact ⟨_, _, rfl, h.slNil⟩
  · refine h.newR fun g w1 h => ?_
    have h0 : Own e w1 (sl_int (some ⟨g, 0, none⟩) 0 0 [] :: F) := Own.slMk (rest := []) (by rfl) (by omega) (by omega) (by rfl) h
    refine app_int h0 (hr _ h.drop) hl (by omega) fun q' c' w' h => ?_
    rw [List.nil_append] at h
    simp only [Nat.zero_add] at h ⊢
    exact ⟨_, _, _, rfl, _, _, rfl, h⟩
theorem rgNew_int {r : Int} (h : Own e w F) : Rets Try.prog 36 #[.int .i64 r] w fun v w' => ∃ g, v = .pointer (some ⟨g, 0, none⟩) ∧ Own e w' (ring_int g [] (max 0 (min r 65536)).toNat :: F) := by
  refine ring_New_int_go _ (h.newR fun g w h => ⟨g, rfl, ?_⟩)
  rw [maxmin0 (by omega)] at h
  exact ringO.cl (xs := []) (q := none) (c := 0) (RingOk.nil _) ((h.slNil).swap)
theorem rgLen_int (h : Own e w (ring_int g xs room :: F)) : Rets Try.prog 34 #[.pointer (some ⟨g, 0, none⟩)] w fun v w' => v = .int .i64 (xs.length : Nat) ∧ Own e w' (ring_int g xs room :: F) := by
  refine ring_Ring_int_Len_go _ ⟨fun hc => (by cases hc), fun _ => ?_⟩
  obtain ⟨q, c, L, fr, buf, hok, h⟩ := ringO.op h
  exact ⟨_, (Own.ld h (by repeat (first | with_reducible exact Pick.here | apply Pick.there)) (by rfl)), rfl, ringO.cl hok h⟩
abbrev rgB_int (g : Nat) (q : Option Addr) (L c front n room : Nat) (buf : List Sl3) (F : List HP) : List HP :=
  blk g 61 [.slice q L c, .int .i64 (front : Int), .int .i64 (n : Int), .int .i64 (room : Int)] :: slO 33 1 q L c (buf.map slV) :: F
theorem rgPlace_int {L front n : Nat} {buf : List Sl3} {i : Nat} (h : Own e w (rgB_int g q L c front n room buf F)) (hL : 0 < L) (hb : front + i ≤ 1000000) : Rets Try.prog 40 #[.pointer (some ⟨g, 0, none⟩), .int .i64 (i : Int)] w fun v w' => v = .int .i64 (rix L front i : Nat) ∧ Own e w' (rgB_int g q L c front n room buf F) := by
  refine ring_Ring_int_place_go _ _ (h.drw fun w h => ⟨_, (Own.ld h (by repeat (first | with_reducible exact Pick.here | apply Pick.there)) (by rfl)), _, _, _, (Own.ld h (by repeat (first | with_reducible exact Pick.here | apply Pick.there)) (by rfl)), by omega, ?_, h⟩)
  rw [wI64 (by omega) (by omega), rix_int]
theorem rgClone_int (h : Own e w (ring_int g xs room :: F)) (hr : room ≤ 65536) : Rets Try.prog 48 #[.pointer (some ⟨g, 0, none⟩)] w fun v w' => ∃ g', v = .pointer (some ⟨g', 0, none⟩) ∧ Own e w' (ring_int g' xs room :: ring_int g xs room :: F) := by
  refine ring_Ring_int_Clone_go _ ⟨fun hc => (by cases hc), fun _ => ?_⟩
  obtain ⟨q, c, L, fr, buf, hok, h⟩ := ringO.op h
  have hL := hok.big
  refine h.drw fun w h => ⟨fun w => Own _ w _, h, ?_⟩
  refine ⟨_, _, _, (fun w h => (Own.ld h (by repeat (first | with_reducible exact Pick.here | apply Pick.there)) (by rfl))), _, (fun w h => (Own.ld h (by repeat (first | with_reducible exact Pick.here | apply Pick.there)) (by rfl))), _, (fun w h => (Own.ld h (by repeat (first | with_reducible exact Pick.here | apply Pick.there)) (by rfl))), _, (fun w h => (Own.ld h (by repeat (first | with_reducible exact Pick.here | apply Pick.there)) (by rfl))), ?_⟩
  refine Rets.mono (clone_int (xs := buf) h (fun w h => (Own.rdP h (by repeat (first | with_reducible exact Pick.here | apply Pick.there)))) hok.len (by omega)) ?_
  rintro _ w ⟨q', c', rfl, h⟩
  refine ⟨_, _, _, rfl, (Own.sub (h) (by repeat (first | exact Sub.nil _ | exact Sub.rfl _ | (apply Sub.cons; focus ((repeat (first | with_reducible exact Pick.here | apply Pick.there)); done)) | apply Sub.drop))), h.newR fun g' w h => ⟨g', rfl, ?_⟩⟩
  have h := ringO.cl (T := 61) (E := 33) (f := slV) (g := g) hok (Own.pk2 h (by repeat (first | with_reducible exact Pick.here | apply Pick.there)) (by repeat (first | with_reducible exact Pick.here | apply Pick.there)))
  have h : Own e w (blk g' 61 _ :: slO 33 1 q' L c' (buf.map slV) :: _) := (Own.pk2 h (by repeat (first | with_reducible exact Pick.here | apply Pick.there)) (by repeat (first | with_reducible exact Pick.here | apply Pick.there)))
  exact ringO.cl hok h
theorem rgAt_int {i : Int} (h : Own e w (ring_int g xs room :: F)) (hr : room ≤ 65536) : Rets Try.prog 49 #[.pointer (some ⟨g, 0, none⟩), .int .i64 i] w fun v w' => v = .tuple #[slV (if 0 ≤ i then (xs[i.toNat]?).getD sl0 else sl0), .bool (decide (0 ≤ i ∧ i < xs.length))] ∧ Own e w' (ring_int g xs room :: F) := by
  refine ring_Ring_int_At_go _ _ ⟨fun _ => ⟨fun hi => ?_, fun hi => ?_⟩, fun hc => (by cases hc)⟩
  · have hi := dec_f hi
    obtain ⟨q, c, L, fr, buf, hok, h⟩ := ringO.op h
    have hL := hok.big
    refine ⟨_, (Own.ld h (by repeat (first | with_reducible exact Pick.here | apply Pick.there)) (by rfl)), fun hj => ?_, fun hj => ?_⟩
    · have hj := dec_t hj
      rw [if_pos (by omega), List.getElem?_eq_none (by omega), decide_eq_false (by omega)]
      exact ⟨rfl, ringO.cl hok h⟩
    · have hj := dec_f hj
      obtain ⟨k, rfl⟩ := Int.eq_ofNat_of_zero_le (show 0 ≤ i by omega)
      have hk : k < xs.length := by omega
      have hfit := hok.fit
      have hmax := hok.max
      have hfr : fr < L := by rcases hok.fr with h | ⟨h, _⟩ <;> omega
      have hat := hok.at_ k hk
      have hlt := rix_lt (L := L) (front := fr) (i := k) (by omega)
      refine h.drw fun w h => ⟨fun w => Own _ w _, h, ?_⟩
      refine ⟨_, _, _, (fun w h => (Own.ld h (by repeat (first | with_reducible exact Pick.here | apply Pick.there)) (by rfl))), ?_⟩
      refine Rets.mono (rgPlace_int h (by omega) (by omega)) ?_
      rintro _ w ⟨rfl, h⟩
      have hb : (buf.map slV)[rix L fr k]? = some (slV xs[k]) := by rw [List.getElem?_map, hat]; rfl
      obtain ⟨ad, rfl, hc⟩ := (Own.rdP (T := 33) (q := q) h (by repeat (first | with_reducible exact Pick.here | apply Pick.there))).addr hb
      refine ⟨_, rfl, fun w => Own _ w _, fun w h => h, h, by omega, by omega, ?_⟩
      refine ⟨xs[k].1, xs[k].2.1, xs[k].2.2, fun w h => ?_, ?_, ?_⟩
      · obtain ⟨ad', ead', hc'⟩ := (Own.rdP (T := 33) (q := some ad) h (by repeat (first | with_reducible exact Pick.here | apply Pick.there))).addr hb
        cases ead'
        rw [Int.toNat_natCast, Nat.mul_one]; exact hc' _ _ hb
      · rw [if_pos (by omega), Int.toNat_natCast, List.getElem?_eq_getElem hk, decide_eq_true (by omega)]; rfl
      · exact ringO.cl hok h
  · have hi := dec_t hi
    rw [if_neg (by omega), decide_eq_false (by omega)]
    exact ⟨rfl, h⟩
theorem rgAll_int {q : Option Addr} (h : Own e w F) : Rets Try.prog 43 #[.pointer q] w fun v w' => ∃ b, v = .func (.func 47) #[] #[.pointer (some ⟨b, 0, none⟩)] ∧ Own e w' (blk b 49 [.pointer q] :: F) :=
  ring_Ring_int_All_go _ (h.newR fun b w h => ⟨b, rfl, h⟩)
theorem rgAll1_int {lp b : Nat} {Fr : Nat → List HP} {Fin : World → Prop} (hr : room ≤ 65536)
    (hround : ∀ (R : HP) (i : Nat) w (hi : i < xs.length), Own e w (R :: blk b 49 [.pointer (some ⟨g, 0, none⟩)] :: ring_int g xs room :: Fr i) →
      RoundR Try.prog lp #[.int .i64 (i : Int), slV xs[i]] w fun v w' => (v = .bool true ∧ Own e w' (R :: blk b 49 [.pointer (some ⟨g, 0, none⟩)] :: ring_int g xs room :: Fr (i + 1))) ∨ (v = .bool false ∧ Fin w'))
    (h : Own e w (blk b 49 [.pointer (some ⟨g, 0, none⟩)] :: ring_int g xs room :: Fr 0)) :
    Rets Try.prog 47 #[.func (.yield lp) #[] #[], .pointer (some ⟨b, 0, none⟩)] w fun v w' => Own e w' (blk b 49 [.pointer (some ⟨g, 0, none⟩)] :: ring_int g xs room :: Fr xs.length) ∨ Fin w' := by
  refine ring_Ring_int_All_1_go _ _ ?_
  refine ⟨_, (Own.ld' h (by repeat (first | with_reducible exact Pick.here | apply Pick.there)) (by rfl)), ?_⟩
  refine Rets.mono (rgClone_int (Own.pk h (by repeat (first | with_reducible exact Pick.here | apply Pick.there))) hr) ?_
  rintro _ w ⟨g', rfl, h⟩
  refine ⟨_, rfl, ?_⟩
  refine Rets.mono (rgLen_int h) ?_
  rintro _ w ⟨rfl, h⟩
  have hmax : xs.length ≤ room := by
    obtain ⟨_, _, _, _, _, hok, _⟩ := ringO.op h
    exact hok.max
  refine ⟨_, rfl, fun m vs w => ∃ i : Nat, vs = [.int .i64 (i : Int)] ∧ m + i = xs.length ∧ Own e w (ring_int g' xs room :: blk b 49 [.pointer (some ⟨g, 0, none⟩)] :: ring_int g xs room :: Fr i), ⟨xs.length, 0, rfl, rfl, (Own.sub (h) (by repeat (first | exact Sub.nil _ | exact Sub.rfl _ | (apply Sub.cons; focus ((repeat (first | with_reducible exact Pick.here | apply Pick.there)); done)) | apply Sub.drop)))⟩, ?_⟩
  rintro m w v1 v2 v3 n2
  intros
  rename_i hI
  obtain ⟨i, hvs, hm, h⟩ := hI
  obtain rfl : n2 = (i : Int) := by simpa using hvs
  refine ⟨fun hc => ?_, fun hc => ?_⟩
  · have hc := dec_t hc
    have hi : i < xs.length := by omega
    refine Rets.mono (rgAt_int (i := (i : Int)) h hr) ?_
    rintro _ w ⟨rfl, h⟩
    rw [if_pos (by omega), Int.toNat_natCast, List.getElem?_eq_getElem hi]
    refine ⟨_, _, _, _, rfl, ?_⟩
    refine RoundR.mono (hround _ i w hi h) ?_
    rintro v w (⟨rfl, h⟩ | ⟨rfl, h⟩)
    · exact ⟨_, rfl, fun hx => (by cases hx), fun _ => ⟨m - 1, by omega, i + 1, by rw [wI64 (by omega) (by omega)]; rfl, by omega, h⟩⟩
    · exact ⟨_, rfl, fun _ => .inr h, fun hx => (by cases hx)⟩
  · have hc := dec_f hc
    obtain rfl : i = xs.length := by omega
    exact .inl h.drop
theorem rgGrow_int (h : Own e w (ring_int g xs room :: F)) (hr : room ≤ 65536) (hlt : xs.length < room) : Rets Try.prog 41 #[.pointer (some ⟨g, 0, none⟩)] w fun v w' => v = .tuple #[] ∧ ∃ q c L front buf, RingOk L front buf xs room ∧ xs.length < L ∧ Own e w' (rgB_int g q L c front xs.length room buf F) := by
  refine ring_Ring_int_grow_go _ ?_
  obtain ⟨q, c, L, fr, buf, hok, h⟩ := ringO.op h
  refine h.drw fun w h => ⟨_, (Own.ld h (by repeat (first | with_reducible exact Pick.here | apply Pick.there)) (by rfl)), _, _, _, (Own.ld h (by repeat (first | with_reducible exact Pick.here | apply Pick.there)) (by rfl)), fun hx => ?_, fun hx => ?_⟩
  · have hx := dec_t hx
    exact ⟨rfl, q, c, L, fr, buf, hok, by omega, h⟩
  · have hx := dec_f hx
    have hfit := hok.fit
    refine ⟨_, (Own.ld h (by repeat (first | with_reducible exact Pick.here | apply Pick.there)) (by rfl)), h.makeR ⟨by omega, by omega, by omega, by omega⟩ fun g1 w h => ?_⟩
    have h := Own.slMk (T := 33) (s := 1) (n := 0) (c := xs.length) (xs := []) (rest := zrep [.slice none 0 0] xs.length) rfl (Nat.zero_le _) (by unfold maxLen; omega) (by simp [zrep]) h
    rw [Int.toNat_natCast]
    refine h.newR fun g2 w h => Own.stP' h (by repeat (first | with_reducible exact Pick.here | apply Pick.there)) (by simp) (by simp [Value.oneCell']) fun w h => ?_
    simp only [setFrom, List.set_cons_zero, List.set_cons_succ, List.set_nil] at h
    refine Rets.mono (rgAll_int h) ?_
    rintro _ w ⟨b, rfl, h⟩
    refine ⟨_, _, _, rfl, _, rfl, h.loopR fun mk lp L' w h hround => ?_⟩
    have h : Own e w (blk g 61 _ :: slO 33 1 q L c (buf.map slV) :: _) := (Own.pk2 h (by repeat (first | with_reducible exact Pick.here | apply Pick.there)) (by repeat (first | with_reducible exact Pick.here | apply Pick.there)))
    have h := ringO.cl (T := 61) (E := 33) (f := slV) (g := g) hok h
    let Got : List Sl3 → HP := fun l => exH fun q' => exH fun c' => allH [blk g2 48 [.slice q' l.length c'], sl_int q' l.length c' l]
    have gotOp : ∀ {w} {l : List Sl3} {R : List HP}, Own e w (Got l :: R) → ∃ q' c', Own e w (blk g2 48 [.slice q' l.length c'] :: sl_int q' l.length c' l :: R) := fun h => by
      obtain ⟨q', h⟩ := h.ex
      obtain ⟨c', h⟩ := h.ex
      exact ⟨q', c', h.open_⟩
    have gotCl : ∀ {w} {l : List Sl3} {R : List HP} {q' c'}, Own e w (blk g2 48 [.slice q' l.length c'] :: sl_int q' l.length c' l :: R) → Own e w (Got l :: R) := fun {w} {l} {R} {q'} {c'} h => by
      have h : Own e w ([blk g2 48 [.slice q' l.length c'], sl_int q' l.length c' l] ++ R) := h
      exact Own.mkEx q' (Own.mkEx c' h.close_)
    let Fr : Nat → List HP := fun i => Got (xs.take i) :: pt lp (LoopObj L' .ready none) :: pt mk (.deferred (some [])) :: F
    have h : Own e w (blk g2 48 [.slice (some ⟨g1, 0, none⟩) 0 xs.length] :: slO 33 1 (some ⟨g1, 0, none⟩) 0 xs.length [] :: _) := (Own.pk2 h (by repeat (first | with_reducible exact Pick.here | apply Pick.there)) (by repeat (first | with_reducible exact Pick.here | apply Pick.there)))
    have h := gotCl (l := []) h
    have h : Own e w (Got (xs.take 0) :: _) := h
    refine Rets.mono (rgAll1_int (xs := xs) (Fr := Fr) (Fin := fun _ => False) hr (fun R i w hi h => ?_) (Own.sub (h) (by repeat (first | exact Sub.nil _ | exact Sub.rfl _ | (apply Sub.cons; focus ((repeat (first | with_reducible exact Pick.here | apply Pick.there)); done)) | apply Sub.drop)))) ?_
    · refine hround _ _ _ _ w _ (Own.recR (l := lp) (L := L') (Own.pk h (by repeat (first | with_reducible exact Pick.here | apply Pick.there)))) ?_
      refine Own.begR (l := lp) (L := L') (Own.pk h (by repeat (first | with_reducible exact Pick.here | apply Pick.there))) fun w h => ?_
      have h : Own e w (Got (xs.take i) :: _) := (Own.pk h (by repeat (first | with_reducible exact Pick.here | apply Pick.there)))
      obtain ⟨q', c', h⟩ := gotOp h
      have hti : (xs.take i).length = i := by simp; omega
      refine ⟨_, _, _, (Own.ld' h (by repeat (first | with_reducible exact Pick.here | apply Pick.there)) (by rfl)), h.newR fun g3 w h => ?_⟩
      have h : Own e w (blk g3 33 [slV xs[i]] :: sl_int q' (xs.take i).length c' (xs.take i) :: _) := (Own.pk2 h (by repeat (first | with_reducible exact Pick.here | apply Pick.there)) (by repeat (first | with_reducible exact Pick.here | apply Pick.there)))
      refine put_int h (by omega) fun q'' c'' w h => ⟨_, _, _, rfl, Own.stP' h (by repeat (first | with_reducible exact Pick.here | apply Pick.there)) (by simp) (by simp [Value.oneCell']) fun w h => ?_⟩
      simp only [setFrom, List.set_cons_zero, List.set_cons_succ, List.set_nil] at h
      refine Own.finT (l := lp) (L := L') (Own.pk h (by repeat (first | with_reducible exact Pick.here | apply Pick.there))) fun w h => .inl ⟨rfl, ?_⟩
      have e1 : xs.take (i + 1) = xs.take i ++ [xs[i]] := List.take_succ_eq_append_getElem hi
      have e2 : (xs.take i).length + 1 = (xs.take (i + 1)).length := by rw [e1, List.length_append]; rfl
      rw [e2, ← e1] at h
      have h := gotCl (l := xs.take (i + 1)) (Own.pk2 h (by repeat (first | with_reducible exact Pick.here | apply Pick.there)) (by repeat (first | with_reducible exact Pick.here | apply Pick.there)))
      exact (Own.sub (h) (by repeat (first | exact Sub.nil _ | exact Sub.rfl _ | (apply Sub.cons; focus ((repeat (first | with_reducible exact Pick.here | apply Pick.there)); done)) | apply Sub.drop)))
    · rintro v w (h | h)
      · refine Own.endR (l := lp) (L := L') (Own.pk h (by repeat (first | with_reducible exact Pick.here | apply Pick.there))) (by simp) fun w h => ?_
        have h : Own e w (Got (xs.take xs.length) :: _) := (Own.pk h (by repeat (first | with_reducible exact Pick.here | apply Pick.there)))
        rw [List.take_length] at h
        obtain ⟨q', c', h⟩ := gotOp h
        have h : Own e w (ring_int g xs room :: _) := (Own.pk h (by repeat (first | with_reducible exact Pick.here | apply Pick.there)))
        obtain ⟨q2, c2, L2, fr2, buf2, hok2, h⟩ := ringO.op h
        refine h.drw fun w h => ⟨_, (Own.ld h (by repeat (first | with_reducible exact Pick.here | apply Pick.there)) (by rfl)), _, (Own.ld h (by repeat (first | with_reducible exact Pick.here | apply Pick.there)) (by rfl)), ?_⟩
        obtain ⟨N, hN⟩ : ∃ N : Nat, N = min room (max 4 (2 * xs.length)) := ⟨_, rfl⟩
        have eN : minI (room : Int) (maxI (4 : Int) (IntKind.wrap IntKind.i64 ((2 : Int) * (xs.length : Nat)))) = (N : Int) := by
          rw [wI64 (by omega) (by omega)]; unfold minI maxI; split <;> split <;> omega
        rw [eN]
        refine h.makeR ⟨by omega, by omega, by omega, by omega⟩ fun g5 w h => ?_
        rw [Int.toNat_natCast] at h ⊢
        rw [zrep_one] at h
        have e3 : List.replicate N (.slice none 0 0 : Value) = (List.replicate N sl0).map slV := by simp
        rw [e3] at h
        have h : Own e w (sl_int (some ⟨g5, 0, none⟩) N N (List.replicate N sl0) :: _) := Own.slMk (rest := []) (by simp) (Nat.le_refl _) (by unfold maxLen; omega) (by simp) (by rw [List.append_nil]; exact h)
        refine ⟨_, _, _, (Own.ld' h (by repeat (first | with_reducible exact Pick.here | apply Pick.there)) (by rfl)), ?_⟩
        refine Own.copy (elem := 33) (news := xs.map slV) h (by kernel_rfl) (by kernel_rfl) (Own.rdP (T := 33) (q := q') h (by repeat (first | with_reducible exact Pick.here | apply Pick.there))) (by simp) (by omega) (by omega) one_int fun w h => ⟨_, rfl, ?_⟩
        refine Own.stP h (by repeat (first | with_reducible exact Pick.here | apply Pick.there)) (by simp) (by simp [Value.oneCell']) fun w h => ?_
        simp only [setFrom, List.set_cons_zero, List.set_cons_succ, List.set_nil] at h
        refine Own.stP h (by repeat (first | with_reducible exact Pick.here | apply Pick.there)) (by simp) (by simp [Value.oneCell']) fun w h => ?_
        simp only [setFrom, List.set_cons_zero, List.set_cons_succ, List.set_nil] at h
        refine Own.markR (g := mk) (Own.pk h (by repeat (first | with_reducible exact Pick.here | apply Pick.there))) fun w h => ⟨rfl, some ⟨g5, 0, none⟩, N, N, 0, xs ++ List.replicate (N - xs.length) sl0, RingOk.grown _ (by omega) (by omega) (by omega) (by omega), by omega, ?_⟩
        show Own e w (blk g 61 [.slice (some ⟨g5, 0, none⟩) N N, .int .i64 ((0 : Nat) : Int), .int .i64 (xs.length : Int), .int .i64 (room : Int)] :: slO 33 1 (some ⟨g5, 0, none⟩) N N ((xs ++ List.replicate (N - xs.length) sl0).map slV) :: F)
        rw [List.map_append, List.map_replicate]
        rw [List.map_replicate, List.drop_replicate] at h
        have h : Own e w (blk g 61 [.slice (some ⟨g5, 0, none⟩) N N, .int .i64 0, .int .i64 (xs.length : Int), .int .i64 (room : Int)] :: _) := (Own.pk h (by repeat (first | with_reducible exact Pick.here | apply Pick.there)))
        have h : Own e w (blk g 61 [.slice (some ⟨g5, 0, none⟩) N N, .int .i64 ((0 : Nat) : Int), .int .i64 (xs.length : Int), .int .i64 (room : Int)] :: _) := h
        exact (Own.sub (h) (by repeat (first | exact Sub.nil _ | exact Sub.rfl _ | (apply Sub.cons; focus ((repeat (first | with_reducible exact Pick.here | apply Pick.there)); done)) | apply Sub.drop)))
      · exact h.elim
theorem rgSend_int {x : Sl3} (h : Own e w (ring_int g xs room :: F)) (hr : room ≤ 65536) : Rets Try.prog 32 #[.pointer (some ⟨g, 0, none⟩), slV x] w fun v w' => v = .bool (decide (xs.length < room)) ∧ Own e w' (ring_int g (if xs.length < room then xs ++ [x] else xs) room :: F) := by
  refine ring_Ring_int_Send_go _ _ _ _ ?_
  obtain ⟨q, c, L, fr, buf, hok, h⟩ := ringO.op h
  refine h.drw fun w h => ⟨fun _ => ⟨_, (Own.ld h (by repeat (first | with_reducible exact Pick.here | apply Pick.there)) (by rfl)), _, (Own.ld h (by repeat (first | with_reducible exact Pick.here | apply Pick.there)) (by rfl)), fun hx => ?_, fun hx => ?_⟩, fun hc => (by cases hc)⟩
  · have hx := dec_t hx
    rw [if_neg (by omega), decide_eq_false (by omega)]
    exact ⟨rfl, ringO.cl hok h⟩
  · have hx := dec_f hx
    rw [if_pos (by omega), decide_eq_true (by omega)]
    refine Rets.mono (rgGrow_int (ringO.cl hok h) hr (by omega)) ?_
    clear h hok
    rintro _ w ⟨rfl, q, c, L, fr, buf, hok, hlt, h⟩
    have hbig := hok.big
    have hfr : fr < L := by rcases hok.fr with h | ⟨h, _⟩ <;> omega
    refine ⟨rfl, h.drw fun w h => ⟨fun w => Own _ w _, h, ?_⟩⟩
    refine ⟨_, _, _, (fun w h => (Own.ld h (by repeat (first | with_reducible exact Pick.here | apply Pick.there)) (by rfl))), _, (fun w h => (Own.ld h (by repeat (first | with_reducible exact Pick.here | apply Pick.there)) (by rfl))), ?_⟩
    refine Rets.mono (rgPlace_int h (by omega) (by omega)) ?_
    rintro _ w ⟨rfl, h⟩
    have hix := rix_lt (L := L) (front := fr) (i := xs.length) (by omega)
    refine ⟨_, rfl, h, by omega, by omega, ?_⟩
    rw [Int.toNat_natCast, Nat.mul_one]
    have hlen := hok.len
    have h : Own e w (slO 33 1 q L c (buf.map slV) :: _) := (Own.pk h (by repeat (first | with_reducible exact Pick.here | apply Pick.there)))
    refine h.slStore (i := rix L fr xs.length) (by simp; omega) (by simp) (by simp [Value.oneCell']) fun w h => ⟨_, (Own.ld h (by repeat (first | with_reducible exact Pick.here | apply Pick.there)) (by rfl)), Own.stP h (by repeat (first | with_reducible exact Pick.here | apply Pick.there)) (by simp) (by simp [Value.oneCell']) fun w h => ⟨rfl, ?_⟩⟩
    simp only [setFrom, List.set_cons_zero, List.set_cons_succ, List.set_nil] at h
    rw [← List.map_set, wI64 (by omega) (by omega)] at h
    refine ringO.cl (q := q) (c := c) (hok.send (x := x) hlt (by omega)) ?_
    have e2 : ((xs ++ [x]).length : Int) = (xs.length : Int) + 1 := by simp
    rw [e2]
    exact (Own.sub (h) (by repeat (first | exact Sub.nil _ | exact Sub.rfl _ | (apply Sub.cons; focus ((repeat (first | with_reducible exact Pick.here | apply Pick.there)); done)) | apply Sub.drop)))

end
section
variable {e w : World} {F : List HP} {g : Nat} {xs ys : List Sl3} {room : Nat} {q q2 : Option Addr} {n c m c2 : Nat}
abbrev ring_string (g : Nat) (xs : List Sl3) (room : Nat) : HP := ringO 57 22 slV g xs room
abbrev sl_string (q : Option Addr) (n c : Nat) (xs : List Sl3) : HP := slO 22 1 q n c (xs.map slV)
theorem one_string {l : List Sl3} : ∀ u ∈ l.map slV, u.oneCell' = true := fun u hu => by
  obtain ⟨x, _, rfl⟩ := List.mem_map.1 hu; rfl
theorem app_string {k : Value → World → Prop} (h : Own e w (sl_string q n c xs :: F)) (hr : RdC w q2 (ys.map slV)) (hl : ys.length = m) (hn : n + m ≤ 1000000)
    (hk : ∀ q' c' w', Own e w' (sl_string q' (n + m) c' (xs ++ ys) :: F) → k (.slice q' (n + m) c') w') :
    RunR Try.prog (builtinV .append #[40, 40] 40 #[.slice q n c, .slice q2 m c2]) w k := by
  refine Own.append (z := [.slice none 0 0]) (b := 24) (news := ys.map slV) h (by kernel_rfl) (by kernel_rfl) (by kernel_rfl) (by kernel_rfl) (by kernel_rfl) (by omega) hr ?_ one_string ?_ (by omega) ?_
  · rw [List.length_map, hl]; omega
  · unfold maxLen; omega
  · intro q' c' w' h _
    rw [← List.map_append] at h
    exact hk q' c' w' h
theorem put_string {k : Value → World → Prop} {g : Nat} {y : Sl3} (h : Own e w (blk g 22 [slV y] :: sl_string q n c xs :: F)) (hn : n + 1 ≤ 1000000)
    (hk : ∀ q' c' w', Own e w' (sl_string q' (n + 1) c' (xs ++ [y]) :: F) → k (.slice q' (n + 1) c') w') :
    RunR Try.prog (builtinV .append #[40, 40] 40 #[.slice q n c, .slice (some ⟨g, 0, none⟩) 1 c2]) w k :=
  app_string (ys := [y]) h.swap h.blkRd rfl hn fun q' c' w' h => hk q' c' w' h.swap.drop
theorem clone_string (h : Own e w F) (hr : ∀ w, Own e w F → RdC w q (xs.map slV)) (hl : xs.length = n) (hn : n ≤ 1000000) :
    Rets Try.prog 50 #[.slice q n c] w fun v w' => ∃ q' c', v = .slice q' n c' ∧ Own e w' (sl_string q' n c' xs :: F) := by
  refine slices_Clone_string_string_go _ _ _ ?_
  refine ⟨fun hc => ?_, fun hc => ?_⟩
  · cases q with
    | some a => cases hc
    | none =>
      have hb : xs = [] := by
        rcases hr w h with hr | ⟨a, ha, _⟩
        · simpa using hr
        · cases ha
      subst hb
      obtain rfl : n = 0 := hl.symm
      exact ⟨_, _, rfl, h.slNil⟩
  · refine h.newR fun g w1 h => ?_
    have h0 : Own e w1 (sl_string (some ⟨g, 0, none⟩) 0 0 [] :: F) := Own.slMk (rest := []) (by rfl) (by omega) (by omega) (by rfl) h
    refine app_string h0 (hr _ h.drop) hl (by omega) fun q' c' w' h => ?_
    rw [List.nil_append] at h
    simp only [Nat.zero_add] at h ⊢
    exact ⟨_, _, _, rfl, _, _, rfl, h⟩
theorem rgNew_string {r : Int} (h : Own e w F) : Rets Try.prog 20 #[.int .i64 r] w fun v w' => ∃ g, v = .pointer (some ⟨g, 0, none⟩) ∧ Own e w' (ring_string g [] (max 0 (min r 65536)).toNat :: F) := by
  refine ring_New_string_go _ (h.newR fun g w h => ⟨g, rfl, ?_⟩)
  rw [maxmin0 (by omega)] at h
  exact ringO.cl (xs := []) (q := none) (c := 0) (RingOk.nil _) ((h.slNil).swap)
theorem rgLen_string (h : Own e w (ring_string g xs room :: F)) : Rets Try.prog 26 #[.pointer (some ⟨g, 0, none⟩)] w fun v w' => v = .int .i64 (xs.length : Nat) ∧ Own e w' (ring_string g xs room :: F) := by
  refine ring_Ring_string_Len_go _ ⟨fun hc => (by cases hc), fun _ => ?_⟩
  obtain ⟨q, c, L, fr, buf, hok, h⟩ := ringO.op h
  exact ⟨_, (Own.ld h (by repeat (first | with_reducible exact Pick.here | apply Pick.there)) (by rfl)), rfl, ringO.cl hok h⟩
abbrev rgB_string (g : Nat) (q : Option Addr) (L c front n room : Nat) (buf : List Sl3) (F : List HP) : List HP :=
  blk g 57 [.slice q L c, .int .i64 (front : Int), .int .i64 (n : Int), .int .i64 (room : Int)] :: slO 22 1 q L c (buf.map slV) :: F
theorem rgPlace_string {L front n : Nat} {buf : List Sl3} {i : Nat} (h : Own e w (rgB_string g q L c front n room buf F)) (hL : 0 < L) (hb : front + i ≤ 1000000) : Rets Try.prog 39 #[.pointer (some ⟨g, 0, none⟩), .int .i64 (i : Int)] w fun v w' => v = .int .i64 (rix L front i : Nat) ∧ Own e w' (rgB_string g q L c front n room buf F) := by
  refine ring_Ring_string_place_go _ _ (h.drw fun w h => ⟨_, (Own.ld h (by repeat (first | with_reducible exact Pick.here | apply Pick.there)) (by rfl)), _, _, _, (Own.ld h (by repeat (first | with_reducible exact Pick.here | apply Pick.there)) (by rfl)), by omega, ?_, h⟩)
  rw [wI64 (by omega) (by omega), rix_int]
theorem rgClone_string (h : Own e w (ring_string g xs room :: F)) (hr : room ≤ 65536) : Rets Try.prog 45 #[.pointer (some ⟨g, 0, none⟩)] w fun v w' => ∃ g', v = .pointer (some ⟨g', 0, none⟩) ∧ Own e w' (ring_string g' xs room :: ring_string g xs room :: F) := by
  refine ring_Ring_string_Clone_go _ ⟨fun hc => (by cases hc), fun _ => ?_⟩
  obtain ⟨q, c, L, fr, buf, hok, h⟩ := ringO.op h
  have hL := hok.big
  refine h.drw fun w h => ⟨fun w => Own _ w _, h, ?_⟩
  refine ⟨_, _, _, (fun w h => (Own.ld h (by repeat (first | with_reducible exact Pick.here | apply Pick.there)) (by rfl))), _, (fun w h => (Own.ld h (by repeat (first | with_reducible exact Pick.here | apply Pick.there)) (by rfl))), _, (fun w h => (Own.ld h (by repeat (first | with_reducible exact Pick.here | apply Pick.there)) (by rfl))), _, (fun w h => (Own.ld h (by repeat (first | with_reducible exact Pick.here | apply Pick.there)) (by rfl))), ?_⟩
  refine Rets.mono (clone_string (xs := buf) h (fun w h => (Own.rdP h (by repeat (first | with_reducible exact Pick.here | apply Pick.there)))) hok.len (by omega)) ?_
  rintro _ w ⟨q', c', rfl, h⟩
  refine ⟨_, _, _, rfl, (Own.sub (h) (by repeat (first | exact Sub.nil _ | exact Sub.rfl _ | (apply Sub.cons; focus ((repeat (first | with_reducible exact Pick.here | apply Pick.there)); done)) | apply Sub.drop))), h.newR fun g' w h => ⟨g', rfl, ?_⟩⟩
  have h := ringO.cl (T := 57) (E := 22) (f := slV) (g := g) hok (Own.pk2 h (by repeat (first | with_reducible exact Pick.here | apply Pick.there)) (by repeat (first | with_reducible exact Pick.here | apply Pick.there)))
  have h : Own e w (blk g' 57 _ :: slO 22 1 q' L c' (buf.map slV) :: _) := (Own.pk2 h (by repeat (first | with_reducible exact Pick.here | apply Pick.there)) (by repeat (first | with_reducible exact Pick.here | apply Pick.there)))
  exact ringO.cl hok h
theorem rgAt_string {i : Int} (h : Own e w (ring_string g xs room :: F)) (hr : room ≤ 65536) : Rets Try.prog 46 #[.pointer (some ⟨g, 0, none⟩), .int .i64 i] w fun v w' => v = .tuple #[slV (if 0 ≤ i then (xs[i.toNat]?).getD sl0 else sl0), .bool (decide (0 ≤ i ∧ i < xs.length))] ∧ Own e w' (ring_string g xs room :: F) := by
  refine ring_Ring_string_At_go _ _ ⟨fun _ => ⟨fun hi => ?_, fun hi => ?_⟩, fun hc => (by cases hc)⟩
  · have hi := dec_f hi
    obtain ⟨q, c, L, fr, buf, hok, h⟩ := ringO.op h
    have hL := hok.big
    refine ⟨_, (Own.ld h (by repeat (first | with_reducible exact Pick.here | apply Pick.there)) (by rfl)), fun hj => ?_, fun hj => ?_⟩
    · have hj := dec_t hj
      rw [if_pos (by omega), List.getElem?_eq_none (by omega), decide_eq_false (by omega)]
      exact ⟨rfl, ringO.cl hok h⟩
    · have hj := dec_f hj
      obtain ⟨k, rfl⟩ := Int.eq_ofNat_of_zero_le (show 0 ≤ i by omega)
      have hk : k < xs.length := by omega
      have hfit := hok.fit
      have hmax := hok.max
      have hfr : fr < L := by rcases hok.fr with h | ⟨h, _⟩ <;> omega
      have hat := hok.at_ k hk
      have hlt := rix_lt (L := L) (front := fr) (i := k) (by omega)
      refine h.drw fun w h => ⟨fun w => Own _ w _, h, ?_⟩
      refine ⟨_, _, _, (fun w h => (Own.ld h (by repeat (first | with_reducible exact Pick.here | apply Pick.there)) (by rfl))), ?_⟩
      refine Rets.mono (rgPlace_string h (by omega) (by omega)) ?_
      rintro _ w ⟨rfl, h⟩
      have hb : (buf.map slV)[rix L fr k]? = some (slV xs[k]) := by rw [List.getElem?_map, hat]; rfl
      obtain ⟨ad, rfl, hc⟩ := (Own.rdP (T := 22) (q := q) h (by repeat (first | with_reducible exact Pick.here | apply Pick.there))).addr hb
      refine ⟨_, rfl, fun w => Own _ w _, fun w h => h, h, by omega, by omega, ?_⟩
      refine ⟨xs[k].1, xs[k].2.1, xs[k].2.2, fun w h => ?_, ?_, ?_⟩
      · obtain ⟨ad', ead', hc'⟩ := (Own.rdP (T := 22) (q := some ad) h (by repeat (first | with_reducible exact Pick.here | apply Pick.there))).addr hb
        cases ead'
        rw [Int.toNat_natCast, Nat.mul_one]; exact hc' _ _ hb
      · rw [if_pos (by omega), Int.toNat_natCast, List.getElem?_eq_getElem hk, decide_eq_true (by omega)]; rfl
      · exact ringO.cl hok h
  · have hi := dec_t hi
    rw [if_neg (by omega), decide_eq_false (by omega)]
    exact ⟨rfl, h⟩
theorem rgAll_string {q : Option Addr} (h : Own e w F) : Rets Try.prog 42 #[.pointer q] w fun v w' => ∃ b, v = .func (.func 44) #[] #[.pointer (some ⟨b, 0, none⟩)] ∧ Own e w' (blk b 41 [.pointer q] :: F) :=
  ring_Ring_string_All_go _ (h.newR fun b w h => ⟨b, rfl, h⟩)
theorem rgAll1_string {lp b : Nat} {Fr : Nat → List HP} {Fin : World → Prop} (hr : room ≤ 65536)
    (hround : ∀ (R : HP) (i : Nat) w (hi : i < xs.length), Own e w (R :: blk b 41 [.pointer (some ⟨g, 0, none⟩)] :: ring_string g xs room :: Fr i) →
      RoundR Try.prog lp #[.int .i64 (i : Int), slV xs[i]] w fun v w' => (v = .bool true ∧ Own e w' (R :: blk b 41 [.pointer (some ⟨g, 0, none⟩)] :: ring_string g xs room :: Fr (i + 1))) ∨ (v = .bool false ∧ Fin w'))
    (h : Own e w (blk b 41 [.pointer (some ⟨g, 0, none⟩)] :: ring_string g xs room :: Fr 0)) :
    Rets Try.prog 44 #[.func (.yield lp) #[] #[], .pointer (some ⟨b, 0, none⟩)] w fun v w' => Own e w' (blk b 41 [.pointer (some ⟨g, 0, none⟩)] :: ring_string g xs room :: Fr xs.length) ∨ Fin w' := by
  refine ring_Ring_string_All_1_go _ _ ?_
  refine ⟨_, (Own.ld' h (by repeat (first | with_reducible exact Pick.here | apply Pick.there)) (by rfl)), ?_⟩
  refine Rets.mono (rgClone_string (Own.pk h (by repeat (first | with_reducible exact Pick.here | apply Pick.there))) hr) ?_
  rintro _ w ⟨g', rfl, h⟩
  refine ⟨_, rfl, ?_⟩
  refine Rets.mono (rgLen_string h) ?_
  rintro _ w ⟨rfl, h⟩
  have hmax : xs.length ≤ room := by
    obtain ⟨_, _, _, _, _, hok, _⟩ := ringO.op h
    exact hok.max
  refine ⟨_, rfl, fun m vs w => ∃ i : Nat, vs = [.int .i64 (i : Int)] ∧ m + i = xs.length ∧ Own e w (ring_string g' xs room :: blk b 41 [.pointer (some ⟨g, 0, none⟩)] :: ring_string g xs room :: Fr i), ⟨xs.length, 0, rfl, rfl, (Own.sub (h) (by repeat (first | exact Sub.nil _ | exact Sub.rfl _ | (apply Sub.cons; focus ((repeat (first | with_reducible exact Pick.here | apply Pick.there)); done)) | apply Sub.drop)))⟩, ?_⟩
  rintro m w v1 v2 v3 n2
  intros
  rename_i hI
  obtain ⟨i, hvs, hm, h⟩ := hI
  obtain rfl : n2 = (i : Int) := by simpa using hvs
  refine ⟨fun hc => ?_, fun hc => ?_⟩
  · have hc := dec_t hc
    have hi : i < xs.length := by omega
    refine Rets.mono (rgAt_string (i := (i : Int)) h hr) ?_
    rintro _ w ⟨rfl, h⟩
    rw [if_pos (by omega), Int.toNat_natCast, List.getElem?_eq_getElem hi]
    refine ⟨_, _, _, _, rfl, ?_⟩
    refine RoundR.mono (hround _ i w hi h) ?_
    rintro v w (⟨rfl, h⟩ | ⟨rfl, h⟩)
    · exact ⟨_, rfl, fun hx => (by cases hx), fun _ => ⟨m - 1, by omega, i + 1, by rw [wI64 (by omega) (by omega)]; rfl, by omega, h⟩⟩
    · exact ⟨_, rfl, fun _ => .inr h, fun hx => (by cases hx)⟩
  · have hc := dec_f hc
    obtain rfl : i = xs.length := by omega
    exact .inl h.drop
theorem rgGrow_string (h : Own e w (ring_string g xs room :: F)) (hr : room ≤ 65536) (hlt : xs.length < room) : Rets Try.prog 38 #[.pointer (some ⟨g, 0, none⟩)] w fun v w' => v = .tuple #[] ∧ ∃ q c L front buf, RingOk L front buf xs room ∧ xs.length < L ∧ Own e w' (rgB_string g q L c front xs.length room buf F) := by
  refine ring_Ring_string_grow_go _ ?_
  obtain ⟨q, c, L, fr, buf, hok, h⟩ := ringO.op h
  refine h.drw fun w h => ⟨_, (Own.ld h (by repeat (first | with_reducible exact Pick.here | apply Pick.there)) (by rfl)), _, _, _, (Own.ld h (by repeat (first | with_reducible exact Pick.here | apply Pick.there)) (by rfl)), fun hx => ?_, fun hx => ?_⟩
  · have hx := dec_t hx
    exact ⟨rfl, q, c, L, fr, buf, hok, by omega, h⟩
  · have hx := dec_f hx
    have hfit := hok.fit
    refine ⟨_, (Own.ld h (by repeat (first | with_reducible exact Pick.here | apply Pick.there)) (by rfl)), h.makeR ⟨by omega, by omega, by omega, by omega⟩ fun g1 w h => ?_⟩
    have h := Own.slMk (T := 22) (s := 1) (n := 0) (c := xs.length) (xs := []) (rest := zrep [.slice none 0 0] xs.length) rfl (Nat.zero_le _) (by unfold maxLen; omega) (by simp [zrep]) h
    rw [Int.toNat_natCast]
    refine h.newR fun g2 w h => Own.stP' h (by repeat (first | with_reducible exact Pick.here | apply Pick.there)) (by simp) (by simp [Value.oneCell']) fun w h => ?_
    simp only [setFrom, List.set_cons_zero, List.set_cons_succ, List.set_nil] at h
    refine Rets.mono (rgAll_string h) ?_
    rintro _ w ⟨b, rfl, h⟩
    refine ⟨_, _, _, rfl, _, rfl, h.loopR fun mk lp L' w h hround => ?_⟩
    have h : Own e w (blk g 57 _ :: slO 22 1 q L c (buf.map slV) :: _) := (Own.pk2 h (by repeat (first | with_reducible exact Pick.here | apply Pick.there)) (by repeat (first | with_reducible exact Pick.here | apply Pick.there)))
    have h := ringO.cl (T := 57) (E := 22) (f := slV) (g := g) hok h
    let Got : List Sl3 → HP := fun l => exH fun q' => exH fun c' => allH [blk g2 40 [.slice q' l.length c'], sl_string q' l.length c' l]
    have gotOp : ∀ {w} {l : List Sl3} {R : List HP}, Own e w (Got l :: R) → ∃ q' c', Own e w (blk g2 40 [.slice q' l.length c'] :: sl_string q' l.length c' l :: R) := fun h => by
      obtain ⟨q', h⟩ := h.ex
      obtain ⟨c', h⟩ := h.ex
      exact ⟨q', c', h.open_⟩
    have gotCl : ∀ {w} {l : List Sl3} {R : List HP} {q' c'}, Own e w (blk g2 40 [.slice q' l.length c'] :: sl_string q' l.length c' l :: R) → Own e w (Got l :: R) := fun {w} {l} {R} {q'} {c'} h => by
      have h : Own e w ([blk g2 40 [.slice q' l.length c'], sl_string q' l.length c' l] ++ R) := h
      exact Own.mkEx q' (Own.mkEx c' h.close_)
    let Fr : Nat → List HP := fun i => Got (xs.take i) :: pt lp (LoopObj L' .ready none) :: pt mk (.deferred (some [])) :: F
    have h : Own e w (blk g2 40 [.slice (some ⟨g1, 0, none⟩) 0 xs.length] :: slO 22 1 (some ⟨g1, 0, none⟩) 0 xs.length [] :: _) := (Own.pk2 h (by repeat (first | with_reducible exact Pick.here | apply Pick.there)) (by repeat (first | with_reducible exact Pick.here | apply Pick.there)))
    have h := gotCl (l := []) h
    have h : Own e w (Got (xs.take 0) :: _) := h
    refine Rets.mono (rgAll1_string (xs := xs) (Fr := Fr) (Fin := fun _ => False) hr (fun R i w hi h => ?_) (Own.sub (h) (by repeat (first | exact Sub.nil _ | exact Sub.rfl _ | (apply Sub.cons; focus ((repeat (first | with_reducible exact Pick.here | apply Pick.there)); done)) | apply Sub.drop)))) ?_
    · refine hround _ _ _ _ w _ (Own.recR (l := lp) (L := L') (Own.pk h (by repeat (first | with_reducible exact Pick.here | apply Pick.there)))) ?_
      refine Own.begR (l := lp) (L := L') (Own.pk h (by repeat (first | with_reducible exact Pick.here | apply Pick.there))) fun w h => ?_
      have h : Own e w (Got (xs.take i) :: _) := (Own.pk h (by repeat (first | with_reducible exact Pick.here | apply Pick.there)))
      obtain ⟨q', c', h⟩ := gotOp h
      have hti : (xs.take i).length = i := by simp; omega
      refine ⟨_, _, _, (Own.ld' h (by repeat (first | with_reducible exact Pick.here | apply Pick.there)) (by rfl)), h.newR fun g3 w h => ?_⟩
      have h : Own e w (blk g3 22 [slV xs[i]] :: sl_string q' (xs.take i).length c' (xs.take i) :: _) := (Own.pk2 h (by repeat (first | with_reducible exact Pick.here | apply Pick.there)) (by repeat (first | with_reducible exact Pick.here | apply Pick.there)))
      refine put_string h (by omega) fun q'' c'' w h => ⟨_, _, _, rfl, Own.stP' h (by repeat (first | with_reducible exact Pick.here | apply Pick.there)) (by simp) (by simp [Value.oneCell']) fun w h => ?_⟩
      simp only [setFrom, List.set_cons_zero, List.set_cons_succ, List.set_nil] at h
      refine Own.finT (l := lp) (L := L') (Own.pk h (by repeat (first | with_reducible exact Pick.here | apply Pick.there))) fun w h => .inl ⟨rfl, ?_⟩
      have e1 : xs.take (i + 1) = xs.take i ++ [xs[i]] := List.take_succ_eq_append_getElem hi
      have e2 : (xs.take i).length + 1 = (xs.take (i + 1)).length := by rw [e1, List.length_append]; rfl
      rw [e2, ← e1] at h
      have h := gotCl (l := xs.take (i + 1)) (Own.pk2 h (by repeat (first | with_reducible exact Pick.here | apply Pick.there)) (by repeat (first | with_reducible exact Pick.here | apply Pick.there)))
      exact (Own.sub (h) (by repeat (first | exact Sub.nil _ | exact Sub.rfl _ | (apply Sub.cons; focus ((repeat (first | with_reducible exact Pick.here | apply Pick.there)); done)) | apply Sub.drop)))
    · rintro v w (h | h)
      · refine Own.endR (l := lp) (L := L') (Own.pk h (by repeat (first | with_reducible exact Pick.here | apply Pick.there))) (by simp) fun w h => ?_
        have h : Own e w (Got (xs.take xs.length) :: _) := (Own.pk h (by repeat (first | with_reducible exact Pick.here | apply Pick.there)))
        rw [List.take_length] at h
        obtain ⟨q', c', h⟩ := gotOp h
        have h : Own e w (ring_string g xs room :: _) := (Own.pk h (by repeat (first | with_reducible exact Pick.here | apply Pick.there)))
        obtain ⟨q2, c2, L2, fr2, buf2, hok2, h⟩ := ringO.op h
        refine h.drw fun w h => ⟨_, (Own.ld h (by repeat (first | with_reducible exact Pick.here | apply Pick.there)) (by rfl)), _, (Own.ld h (by repeat (first | with_reducible exact Pick.here | apply Pick.there)) (by rfl)), ?_⟩
        obtain ⟨N, hN⟩ : ∃ N : Nat, N = min room (max 4 (2 * xs.length)) := ⟨_, rfl⟩
        have eN : minI (room : Int) (maxI (4 : Int) (IntKind.wrap IntKind.i64 ((2 : Int) * (xs.length : Nat)))) = (N : Int) := by
          rw [wI64 (by omega) (by omega)]; unfold minI maxI; split <;> split <;> omega
        rw [eN]
        refine h.makeR ⟨by omega, by omega, by omega, by omega⟩ fun g5 w h => ?_
        rw [Int.toNat_natCast] at h ⊢
        rw [zrep_one] at h
        have e3 : List.replicate N (.slice none 0 0 : Value) = (List.replicate N sl0).map slV := by simp
        rw [e3] at h
        have h : Own e w (sl_string (some ⟨g5, 0, none⟩) N N (List.replicate N sl0) :: _) := Own.slMk (rest := []) (by simp) (Nat.le_refl _) (by unfold maxLen; omega) (by simp) (by rw [List.append_nil]; exact h)
        refine ⟨_, _, _, (Own.ld' h (by repeat (first | with_reducible exact Pick.here | apply Pick.there)) (by rfl)), ?_⟩
        refine Own.copy (elem := 22) (news := xs.map slV) h (by kernel_rfl) (by kernel_rfl) (Own.rdP (T := 22) (q := q') h (by repeat (first | with_reducible exact Pick.here | apply Pick.there))) (by simp) (by omega) (by omega) one_string fun w h => ⟨_, rfl, ?_⟩
        refine Own.stP h (by repeat (first | with_reducible exact Pick.here | apply Pick.there)) (by simp) (by simp [Value.oneCell']) fun w h => ?_
        simp only [setFrom, List.set_cons_zero, List.set_cons_succ, List.set_nil] at h
        refine Own.stP h (by repeat (first | with_reducible exact Pick.here | apply Pick.there)) (by simp) (by simp [Value.oneCell']) fun w h => ?_
        simp only [setFrom, List.set_cons_zero, List.set_cons_succ, List.set_nil] at h
        refine Own.markR (g := mk) (Own.pk h (by repeat (first | with_reducible exact Pick.here | apply Pick.there))) fun w h => ⟨rfl, some ⟨g5, 0, none⟩, N, N, 0, xs ++ List.replicate (N - xs.length) sl0, RingOk.grown _ (by omega) (by omega) (by omega) (by omega), by omega, ?_⟩
        show Own e w (blk g 57 [.slice (some ⟨g5, 0, none⟩) N N, .int .i64 ((0 : Nat) : Int), .int .i64 (xs.length : Int), .int .i64 (room : Int)] :: slO 22 1 (some ⟨g5, 0, none⟩) N N ((xs ++ List.replicate (N - xs.length) sl0).map slV) :: F)
        rw [List.map_append, List.map_replicate]
        rw [List.map_replicate, List.drop_replicate] at h
        have h : Own e w (blk g 57 [.slice (some ⟨g5, 0, none⟩) N N, .int .i64 0, .int .i64 (xs.length : Int), .int .i64 (room : Int)] :: _) := (Own.pk h (by repeat (first | with_reducible exact Pick.here | apply Pick.there)))
        have h : Own e w (blk g 57 [.slice (some ⟨g5, 0, none⟩) N N, .int .i64 ((0 : Nat) : Int), .int .i64 (xs.length : Int), .int .i64 (room : Int)] :: _) := h
        exact (Own.sub (h) (by repeat (first | exact Sub.nil _ | exact Sub.rfl _ | (apply Sub.cons; focus ((repeat (first | with_reducible exact Pick.here | apply Pick.there)); done)) | apply Sub.drop)))
      · exact h.elim
theorem rgSend_string {x : Sl3} (h : Own e w (ring_string g xs room :: F)) (hr : room ≤ 65536) : Rets Try.prog 24 #[.pointer (some ⟨g, 0, none⟩), slV x] w fun v w' => v = .bool (decide (xs.length < room)) ∧ Own e w' (ring_string g (if xs.length < room then xs ++ [x] else xs) room :: F) := by
  refine ring_Ring_string_Send_go _ _ _ _ ?_
  obtain ⟨q, c, L, fr, buf, hok, h⟩ := ringO.op h
  refine h.drw fun w h => ⟨fun _ => ⟨_, (Own.ld h (by repeat (first | with_reducible exact Pick.here | apply Pick.there)) (by rfl)), _, (Own.ld h (by repeat (first | with_reducible exact Pick.here | apply Pick.there)) (by rfl)), fun hx => ?_, fun hx => ?_⟩, fun hc => (by cases hc)⟩
  · have hx := dec_t hx
    rw [if_neg (by omega), decide_eq_false (by omega)]
    exact ⟨rfl, ringO.cl hok h⟩
  · have hx := dec_f hx
    rw [if_pos (by omega), decide_eq_true (by omega)]
    refine Rets.mono (rgGrow_string (ringO.cl hok h) hr (by omega)) ?_
    clear h hok
    rintro _ w ⟨rfl, q, c, L, fr, buf, hok, hlt, h⟩
    have hbig := hok.big
    have hfr : fr < L := by rcases hok.fr with h | ⟨h, _⟩ <;> omega
    refine ⟨rfl, h.drw fun w h => ⟨fun w => Own _ w _, h, ?_⟩⟩
    refine ⟨_, _, _, (fun w h => (Own.ld h (by repeat (first | with_reducible exact Pick.here | apply Pick.there)) (by rfl))), _, (fun w h => (Own.ld h (by repeat (first | with_reducible exact Pick.here | apply Pick.there)) (by rfl))), ?_⟩
    refine Rets.mono (rgPlace_string h (by omega) (by omega)) ?_
    rintro _ w ⟨rfl, h⟩
    have hix := rix_lt (L := L) (front := fr) (i := xs.length) (by omega)
    refine ⟨_, rfl, h, by omega, by omega, ?_⟩
    rw [Int.toNat_natCast, Nat.mul_one]
    have hlen := hok.len
    have h : Own e w (slO 22 1 q L c (buf.map slV) :: _) := (Own.pk h (by repeat (first | with_reducible exact Pick.here | apply Pick.there)))
    refine h.slStore (i := rix L fr xs.length) (by simp; omega) (by simp) (by simp [Value.oneCell']) fun w h => ⟨_, (Own.ld h (by repeat (first | with_reducible exact Pick.here | apply Pick.there)) (by rfl)), Own.stP h (by repeat (first | with_reducible exact Pick.here | apply Pick.there)) (by simp) (by simp [Value.oneCell']) fun w h => ⟨rfl, ?_⟩⟩
    simp only [setFrom, List.set_cons_zero, List.set_cons_succ, List.set_nil] at h
    rw [← List.map_set, wI64 (by omega) (by omega)] at h
    refine ringO.cl (q := q) (c := c) (hok.send (x := x) hlt (by omega)) ?_
    have e2 : ((xs ++ [x]).length : Int) = (xs.length : Int) + 1 := by simp
    rw [e2]
    exact (Own.sub (h) (by repeat (first | exact Sub.nil _ | exact Sub.rfl _ | (apply Sub.cons; focus ((repeat (first | with_reducible exact Pick.here | apply Pick.there)); done)) | apply Sub.drop)))

end
section
variable {e w : World} {F : List HP} {g : Nat} {xs ys : List Sl3} {room : Nat} {q q2 : Option Addr} {n c m c2 : Nat}
theorem rgTake_string (h : Own e w (ring_string g xs room :: F)) : Rets Try.prog 27 #[.pointer (some ⟨g, 0, none⟩)] w fun v w' => v = .tuple #[slV (xs.head?.getD sl0), .bool (decide (0 < xs.length))] ∧ Own e w' (ring_string g xs.tail room :: F) := by
  refine ring_Ring_string_Take_go _ ⟨fun _ => ?_, fun hc => (by cases hc)⟩
  obtain ⟨q, c, L, fr, buf, hok, h⟩ := ringO.op h
  cases xs with
  | nil =>
    refine ⟨_, (Own.ld h (by repeat (first | with_reducible exact Pick.here | apply Pick.there)) (by rfl)), fun _ => ⟨rfl, ringO.cl hok h⟩, fun hx => absurd rfl (beq_f hx)⟩
  | cons x r =>
    obtain ⟨hfr, hb0, hok2⟩ := hok.take sl0
    have hbig := hok.big
    have hfit := hok.fit
    have hlen := hok.len
    simp only [List.length_cons] at hfit
    have hb : (buf.map slV)[fr]? = some (slV x) := by rw [List.getElem?_map, hb0]; rfl
    refine ⟨_, (Own.ld h (by repeat (first | with_reducible exact Pick.here | apply Pick.there)) (by rfl)), fun hx => ?_, fun hx => ?_⟩
    · have hx := beq_t hx
      simp at hx; omega
    obtain ⟨ad, rfl, hcell⟩ := (Own.rdP (T := 22) (q := q) h (by repeat (first | with_reducible exact Pick.here | apply Pick.there))).addr hb
    refine h.drw fun w h => ?_
    obtain ⟨ad', ead, hcell⟩ := (Own.rdP (T := 22) (q := some ad) h (by repeat (first | with_reducible exact Pick.here | apply Pick.there))).addr hb
    cases ead
    refine ⟨_, _, _, (Own.ld h (by repeat (first | with_reducible exact Pick.here | apply Pick.there)) (by rfl)), ?_⟩
    refine ⟨_, (Own.ld h (by repeat (first | with_reducible exact Pick.here | apply Pick.there)) (by rfl)), ?_⟩
    refine ⟨_, _, _, (Own.ld h (by repeat (first | with_reducible exact Pick.here | apply Pick.there)) (by rfl)), ?_⟩
    refine ⟨_, (Own.ld h (by repeat (first | with_reducible exact Pick.here | apply Pick.there)) (by rfl)), ?_⟩
    refine ⟨by omega, by omega, x.1, x.2.1, x.2.2, ?_, by omega, by omega, ?_⟩
    · rw [Int.toNat_natCast, Nat.mul_one]; exact hcell _ _ hb
    rw [Int.toNat_natCast, Nat.mul_one]
    have h : Own e w (slO 22 1 (some ad) L c (buf.map slV) :: _) := (Own.pk h (by repeat (first | with_reducible exact Pick.here | apply Pick.there)))
    refine h.slStore (i := fr) (us := [.slice none 0 0]) (by simp; omega) (by simp) (by simp [Value.oneCell']) fun w h => ?_
    have e1 : setFrom (buf.map slV) fr [.slice none 0 0] = (buf.set fr sl0).map slV := by simp [setFrom, List.map_set]
    rw [e1] at h
    have h : Own e w (rgB_string g (some ad) L c fr (x :: r).length room (buf.set fr sl0) F) := (Own.sub (h) (by repeat (first | exact Sub.nil _ | exact Sub.rfl _ | (apply Sub.cons; focus ((repeat (first | with_reducible exact Pick.here | apply Pick.there)); done)) | apply Sub.drop)))
    have hxl : (x :: r).length = r.length + 1 := rfl
    refine h.drw fun w h => ⟨fun w => Own _ w _, h, ?_⟩
    refine ⟨_, (fun w h => (Own.ld h (by repeat (first | with_reducible exact Pick.here | apply Pick.there)) (by rfl))), ?_⟩
    refine Rets.mono (rgPlace_string (i := 1) h (by omega) (by omega)) ?_
    rintro _ w ⟨rfl, h⟩
    refine ⟨_, rfl, h, Own.stP h (by repeat (first | with_reducible exact Pick.here | apply Pick.there)) (by simp) (by simp [Value.oneCell']) fun w h => ?_⟩
    simp only [setFrom, List.set_cons_zero, List.set_cons_succ, List.set_nil] at h
    refine Own.stP h (by repeat (first | with_reducible exact Pick.here | apply Pick.there)) (by simp) (by simp [Value.oneCell']) fun w h => ⟨rfl, ?_⟩
    simp only [setFrom, List.set_cons_zero, List.set_cons_succ, List.set_nil] at h
    rw [wI64 (by omega) (by omega), show (((x :: r).length : Nat) : Int) - 1 = (r.length : Nat) by omega] at h
    exact ringO.cl hok2 (Own.sub (h) (by repeat (first | exact Sub.nil _ | exact Sub.rfl _ | (apply Sub.cons; focus ((repeat (first | with_reducible exact Pick.here | apply Pick.there)); done)) | apply Sub.drop)))
end
end Go.Proofs.Ytppkeemdbhmkgaa.Eng
