/- Rings of items: what each function does. -/
import Derived.Test.YtipcbhaeoeghnaaRgW
import Derived.Test.YtipcbhaeoeghnaaRingIG
import Derived.Test.YtipcbhaeoeghnaaRingSG
namespace Go.Proofs.Ytipcbhaeoeghnaa.Eng
open Go Go.RowKit Go.Proofs
set_option linter.unusedVariables false
set_option linter.unusedSimpArgs false
set_option maxRecDepth 1000000
set_option maxHeartbeats 2000000
theorem maxmin0 {n m : Int} (hm : 0 ≤ m) : maxI (0 : Int) (minI n m) = ((max 0 (min n m)).toNat : Int) := by
  unfold maxI minI
  split <;> split <;> omega
section
variable {e w : World} {F : List HP} {g : Nat} {xs ys : List (Itm Int)} {room : Nat} {q q2 : Option Addr} {n c m c2 : Nat}
abbrev rng_int (g : Nat) (xs : List (Itm Int)) (room : Nat) : HP := ringM 165 83 (Value.int .i64) g xs room
abbrev sli_int (q : Option Addr) (n c : Nat) (xs : List (Itm Int)) : HP := slO 83 9 q n c (xs.flatMap (itC (Value.int .i64)))
theorem vo_int : ∀ v, ((Value.int .i64) v).oneCell' = true := fun _ => rfl
theorem apI_int {K : Value → World → Prop} (h : Own e w (sli_int q xs.length c xs :: F)) (hr : RdC w q2 (ys.flatMap (itC (Value.int .i64)))) (hn : xs.length + ys.length ≤ 200000)
    (hk : ∀ q' c' w', Own e w' (sli_int q' (xs ++ ys).length c' (xs ++ ys) :: F) → K (.slice q' (xs ++ ys).length c') w') :
    RunR Try.prog (builtinV .append #[163, 163] 163 #[.slice q xs.length c, .slice q2 ys.length c2]) w K := by
  refine Own.append (z := itC (Value.int .i64) (itZ (0 : Int))) (b := 72) (m := ys.length) (news := ys.flatMap (itC (Value.int .i64))) h (by kernel_rfl) (by kernel_rfl) (by kernel_rfl) (by kernel_rfl) (by kernel_rfl) (by omega) hr (flat_len (itC_len _) ys) (itC_one vo_int ys) (by unfold maxLen; omega) (by omega) fun q' c' w' h _ => ?_
  rw [← List.flatMap_append, ← List.length_append] at h
  rw [← List.length_append]
  exact hk q' c' w' h
theorem scl_int (h : Own e w F) (hr : ∀ w, Own e w F → RdC w q (xs.flatMap (itC (Value.int .i64)))) (hn : xs.length ≤ 100000) :
    Rets Try.prog 124 #[.slice q xs.length c] w fun v w' => ∃ q' c', v = .slice q' xs.length c' ∧ Own e w' (sli_int q' xs.length c' xs :: F) := by
  refine rg_int_sClone_go _ _ _ ⟨fun hc => ?_, fun hc => ?_⟩
  · cases q with
    | some a => cases hc
    | none =>
      have hb : xs = [] := by
        cases xs with
        | nil => rfl
        | cons x r =>
          rcases hr w h with hr | ⟨a, ha, _⟩
          · simp at hr
          · cases ha
      subst hb
      exact ⟨_, _, rfl, h.slNil⟩
  · refine h.newR fun g w1 h => ?_
    have h0 : Own e w1 (sli_int (some ⟨g, 0, none⟩) 0 0 [] :: F) := Own.slMk (rest := []) (by rfl) (by omega) (by omega) (by rfl) h
    refine apI_int (xs := []) h0 (hr _ h.drop) (by simp; omega) fun q' c' w' h => ⟨_, _, _, rfl, _, _, rfl, h⟩
theorem rnNew_int {r : Int} (h : Own e w F) : Rets Try.prog 92 #[.int .i64 r] w fun v w' => ∃ g, v = .pointer (some ⟨g, 0, none⟩) ∧ Own e w' (rng_int g [] (max 0 (min r 65536)).toNat :: F) := by
  refine rg_int_New_go _ (h.newR fun g w h => ⟨g, rfl, ?_⟩)
  rw [maxmin0 (by omega)] at h
  exact ringM.cl (xs := []) (q := none) (c := 0) (RingOk.nil _) ((h.slNil).swap)
theorem rnLen_int (h : Own e w (rng_int g xs room :: F)) : Rets Try.prog 95 #[.pointer (some ⟨g, 0, none⟩)] w fun v w' => v = .int .i64 (xs.length : Nat) ∧ Own e w' (rng_int g xs room :: F) := by
  refine rg_int_Len_go _ ⟨fun hc => (by cases hc), fun _ => ?_⟩
  obtain ⟨q, c, L, fr, buf, hok, h⟩ := ringM.op h
  exact ⟨_, (Own.ld h (by repeat (first | with_reducible exact Pick.here | apply Pick.there)) (by rfl)), rfl, ringM.cl hok h⟩
theorem rnRoom_int (h : Own e w (rng_int g xs room :: F)) : Rets Try.prog 96 #[.pointer (some ⟨g, 0, none⟩)] w fun v w' => v = .int .i64 (room : Nat) ∧ Own e w' (rng_int g xs room :: F) := by
  refine rg_int_Room_go _ ⟨fun hc => (by cases hc), fun _ => ?_⟩
  obtain ⟨q, c, L, fr, buf, hok, h⟩ := ringM.op h
  exact ⟨_, (Own.ld h (by repeat (first | with_reducible exact Pick.here | apply Pick.there)) (by rfl)), rfl, ringM.cl hok h⟩
abbrev rnB_int (g : Nat) (q : Option Addr) (L c front n room : Nat) (buf : List (Itm Int)) (F : List HP) : List HP :=
  blk g 165 [.slice q L c, .int .i64 (front : Int), .int .i64 (n : Int), .int .i64 (room : Int)] :: sli_int q L c buf :: F
theorem rnPlace_int {L front n : Nat} {buf : List (Itm Int)} {i : Nat} (h : Own e w (rnB_int g q L c front n room buf F)) (hL : 0 < L) (hb : front + i ≤ 1000000) : Rets Try.prog 113 #[.pointer (some ⟨g, 0, none⟩), .int .i64 (i : Int)] w fun v w' => v = .int .i64 (rix L front i : Nat) ∧ Own e w' (rnB_int g q L c front n room buf F) := by
  refine rg_int_place_go _ _ (h.drw fun w h => ⟨_, (Own.ld h (by repeat (first | with_reducible exact Pick.here | apply Pick.there)) (by rfl)), _, _, _, (Own.ld h (by repeat (first | with_reducible exact Pick.here | apply Pick.there)) (by rfl)), by omega, ?_, h⟩)
  rw [wI64 (by omega) (by omega), rix_int]
theorem rnClone_int (h : Own e w (rng_int g xs room :: F)) (hr : room ≤ 65536) : Rets Try.prog 116 #[.pointer (some ⟨g, 0, none⟩)] w fun v w' => ∃ g', v = .pointer (some ⟨g', 0, none⟩) ∧ Own e w' (rng_int g' xs room :: rng_int g xs room :: F) := by
  refine rg_int_Clone_go _ ⟨fun hc => (by cases hc), fun _ => ?_⟩
  obtain ⟨q, c, L, fr, buf, hok, h⟩ := ringM.op h
  have hL := hok.big
  have hlen := hok.len
  refine h.drw fun w h => ⟨fun w => Own _ w _, h, ?_⟩
  refine ⟨_, _, _, (fun w h => (Own.ld h (by repeat (first | with_reducible exact Pick.here | apply Pick.there)) (by rfl))), _, (fun w h => (Own.ld h (by repeat (first | with_reducible exact Pick.here | apply Pick.there)) (by rfl))), _, (fun w h => (Own.ld h (by repeat (first | with_reducible exact Pick.here | apply Pick.there)) (by rfl))), _, (fun w h => (Own.ld h (by repeat (first | with_reducible exact Pick.here | apply Pick.there)) (by rfl))), ?_⟩
  have hcl := scl_int (xs := buf) (q := q) (c := c) h (fun w h => (Own.rdP h (by repeat (first | with_reducible exact Pick.here | apply Pick.there)))) (by omega)
  rw [hlen] at hcl
  refine Rets.mono hcl ?_
  clear hcl
  rintro _ w ⟨q', c', rfl, h⟩
  refine ⟨_, _, _, rfl, (Own.sub (h) (by repeat (first | with_reducible exact Sub.nil _ | with_reducible exact Sub.rfl _ | (apply Sub.cons; focus ((repeat (first | with_reducible exact Pick.here | apply Pick.there)); done)) | apply Sub.drop))), h.newR fun g' w h => ⟨g', rfl, ?_⟩⟩
  have h := ringM.cl (T := 165) (E := 83) (vf := (Value.int .i64)) (g := g) hok (Own.pk2 h (by repeat (first | with_reducible exact Pick.here | apply Pick.there)) (by repeat (first | with_reducible exact Pick.here | apply Pick.there)))
  have h : Own e w (blk g' 165 _ :: slO 83 9 q' L c' (buf.flatMap (itC (Value.int .i64))) :: _) := (Own.pk2 h (by repeat (first | with_reducible exact Pick.here | apply Pick.there)) (by repeat (first | with_reducible exact Pick.here | apply Pick.there)))
  exact ringM.cl hok h
theorem rnAt_int {k : Nat} (hk : k < xs.length) (hr : room ≤ 65536) (h : Own e w (rng_int g xs room :: F)) : Rets Try.prog 117 #[.pointer (some ⟨g, 0, none⟩), .int .i64 (k : Int)] w fun v w' => v = .tuple #[itV (Value.int .i64) xs[k], .bool true] ∧ Own e w' (rng_int g xs room :: F) := by
  refine rg_int_At_go _ _ (h.newR fun a w h => ⟨fun _ => ⟨fun _ => ?_, fun hi => (by have := dec_t hi; omega)⟩, fun hc => (by cases hc)⟩)
  obtain ⟨q, c, L, fr, buf, hok, h⟩ := ringM.op h.swap
  have hL := hok.big
  have hlen := hok.len
  have hfit := hok.fit
  have hmax := hok.max
  have hfr : fr < L := by rcases hok.fr with h | ⟨h, _⟩ <;> omega
  have hat := hok.at_ k hk
  have hlt := rix_lt (L := L) (front := fr) (i := k) (by omega)
  have hbx : buf[rix L fr k]'(by omega) = xs[k] := by
    rw [List.getElem?_eq_getElem (by omega)] at hat
    injection hat
  refine ⟨_, Own.ld (g := g) (k := 2) h (by repeat (first | with_reducible exact Pick.here | apply Pick.there)) rfl, fun hj => (by have := dec_t hj; omega), fun _ => ?_⟩
  refine h.drw fun w h => ⟨fun w => Own _ w _, h, _, _, _, fun w h => Own.ld (g := g) (k := 0) h (by repeat (first | with_reducible exact Pick.here | apply Pick.there)) rfl, ?_⟩
  refine Rets.mono (rnPlace_int h (by omega) (by omega)) ?_
  clear h
  rintro _ w ⟨rfl, h⟩
  obtain ⟨ad, rfl, rd⟩ := sl_adr (i := rix L fr k) (by omega) h.drop
  rw [hbx] at rd
  refine ⟨_, rfl, fun w => Own _ w _, fun w h => h, h, by omega, by omega, smR ⟨_, _, _, _, _, _, _, _, _, ⟨fun w h => rd _ w _ h.drop 0 _ rfl, fun w h => rd _ w _ h.drop 1 _ rfl, fun w h => rd _ w _ h.drop 2 _ rfl, fun w h => rd _ w _ h.drop 3 _ rfl, fun w h => rd _ w _ h.drop 4 _ rfl, fun w h => rd _ w _ h.drop 5 _ rfl, fun w h => rd _ w _ h.drop 6 _ rfl, fun w h => rd _ w _ h.drop 7 _ rfl, fun w h => rd _ w _ h.drop 8 _ rfl⟩, Own.stP' (g := a) h (by repeat (first | with_reducible exact Pick.here | apply Pick.there)) (by simp) (by simp [Value.oneCell']) fun w h => ?_⟩⟩
  simp only [setFrom, List.set_cons_zero, List.set_cons_succ, List.set_nil] at h
  exact ⟨_, _, _, _, _, _, _, _, _, ⟨Own.ld (g := a) h (by repeat (first | with_reducible exact Pick.here | apply Pick.there)) rfl, Own.ld (g := a) h (by repeat (first | with_reducible exact Pick.here | apply Pick.there)) rfl, Own.ld (g := a) h (by repeat (first | with_reducible exact Pick.here | apply Pick.there)) rfl, Own.ld (g := a) h (by repeat (first | with_reducible exact Pick.here | apply Pick.there)) rfl, Own.ld (g := a) h (by repeat (first | with_reducible exact Pick.here | apply Pick.there)) rfl, Own.ld (g := a) h (by repeat (first | with_reducible exact Pick.here | apply Pick.there)) rfl, Own.ld (g := a) h (by repeat (first | with_reducible exact Pick.here | apply Pick.there)) rfl, Own.ld (g := a) h (by repeat (first | with_reducible exact Pick.here | apply Pick.there)) rfl, Own.ld (g := a) h (by repeat (first | with_reducible exact Pick.here | apply Pick.there)) rfl⟩, rfl, ringM.cl hok (Own.sub (h) (by repeat (first | with_reducible exact Sub.nil _ | with_reducible exact Sub.rfl _ | (apply Sub.cons; focus ((repeat (first | with_reducible exact Pick.here | apply Pick.there)); done)) | apply Sub.drop)))⟩
theorem rnAll_int {q : Option Addr} (h : Own e w F) : Rets Try.prog 97 #[.pointer q] w fun v w' => ∃ b, v = .func (.func 115) #[] #[.pointer (some ⟨b, 0, none⟩)] ∧ Own e w' (blk b 137 [.pointer q] :: F) :=
  rg_int_All_go _ (h.newR fun b w h => ⟨b, rfl, h⟩)
theorem rnAll1_int {lp b : Nat} {Fr : Nat → List HP} {Fin : World → Prop} (hr : room ≤ 65536)
    (hround : ∀ (R : HP) (i : Nat) w (hi : i < xs.length), Own e w (R :: blk b 137 [.pointer (some ⟨g, 0, none⟩)] :: rng_int g xs room :: Fr i) →
      RoundR Try.prog lp #[.int .i64 (i : Int), itV (Value.int .i64) xs[i]] w fun v w' => (v = .bool true ∧ Own e w' (R :: blk b 137 [.pointer (some ⟨g, 0, none⟩)] :: rng_int g xs room :: Fr (i + 1))) ∨ (v = .bool false ∧ Fin w'))
    (h : Own e w (blk b 137 [.pointer (some ⟨g, 0, none⟩)] :: rng_int g xs room :: Fr 0)) :
    Rets Try.prog 115 #[.func (.yield lp) #[] #[], .pointer (some ⟨b, 0, none⟩)] w fun v w' => Own e w' (blk b 137 [.pointer (some ⟨g, 0, none⟩)] :: rng_int g xs room :: Fr xs.length) ∨ Fin w' := by
  refine rg_int_All1_go _ _ ⟨_, Own.ld' (g := b) h (by repeat (first | with_reducible exact Pick.here | apply Pick.there)) rfl, ?_⟩
  refine Rets.mono (rnClone_int h.swap hr) ?_
  clear h
  rintro _ w ⟨g', rfl, h⟩
  refine ⟨_, rfl, ?_⟩
  refine Rets.mono (rnLen_int h) ?_
  clear h
  rintro _ w ⟨rfl, h⟩
  have hmax : xs.length ≤ room := by
    obtain ⟨_, _, _, _, _, hok, _⟩ := ringM.op h
    exact hok.max
  refine ⟨_, rfl, fun m vs w => ∃ i : Nat, vs = [.int .i64 (i : Int)] ∧ m + i = xs.length ∧ Own e w (rng_int g' xs room :: blk b 137 [.pointer (some ⟨g, 0, none⟩)] :: rng_int g xs room :: Fr i), ⟨xs.length, 0, rfl, rfl, (Own.sub (h) (by repeat (first | with_reducible exact Sub.nil _ | with_reducible exact Sub.rfl _ | (apply Sub.cons; focus ((repeat (first | with_reducible exact Pick.here | apply Pick.there)); done)) | apply Sub.drop)))⟩, ?_⟩
  clear h
  intro m w
  intros
  rename_i hI
  obtain ⟨i, hvs, hm, h⟩ := hI
  simp at hvs
  subst hvs
  refine ⟨fun hc => ?_, fun hc => ?_⟩
  · have hc := dec_t hc
    have hi : i < xs.length := by omega
    refine Rets.mono (rnAt_int hi hr h) ?_
    clear h
    rintro _ w ⟨rfl, h⟩
    refine ⟨_, _, _, _, _, _, _, _, _, _, rfl, h.newR fun a w h => Own.stP' (g := a) h (by repeat (first | with_reducible exact Pick.here | apply Pick.there)) (by simp) (by simp [Value.oneCell']) fun w h => ?_⟩
    simp only [setFrom, List.set_cons_zero, List.set_cons_succ, List.set_nil] at h
    refine ⟨_, _, _, _, _, _, _, _, _, ⟨Own.ld (g := a) h (by repeat (first | with_reducible exact Pick.here | apply Pick.there)) rfl, Own.ld (g := a) h (by repeat (first | with_reducible exact Pick.here | apply Pick.there)) rfl, Own.ld (g := a) h (by repeat (first | with_reducible exact Pick.here | apply Pick.there)) rfl, Own.ld (g := a) h (by repeat (first | with_reducible exact Pick.here | apply Pick.there)) rfl, Own.ld (g := a) h (by repeat (first | with_reducible exact Pick.here | apply Pick.there)) rfl, Own.ld (g := a) h (by repeat (first | with_reducible exact Pick.here | apply Pick.there)) rfl, Own.ld (g := a) h (by repeat (first | with_reducible exact Pick.here | apply Pick.there)) rfl, Own.ld (g := a) h (by repeat (first | with_reducible exact Pick.here | apply Pick.there)) rfl, Own.ld (g := a) h (by repeat (first | with_reducible exact Pick.here | apply Pick.there)) rfl⟩, ?_⟩
    refine RoundR.mono (hround _ i w hi h.drop) ?_
    rintro v w (⟨rfl, h⟩ | ⟨rfl, h⟩)
    · exact ⟨_, rfl, fun hx => (by cases hx), fun _ => ⟨m - 1, by omega, i + 1, by rw [wI64 (by omega) (by omega)]; rfl, by omega, h⟩⟩
    · exact ⟨_, rfl, fun _ => .inr h, fun hx => (by cases hx)⟩
  · have hc := dec_f hc
    obtain rfl : i = xs.length := by omega
    exact .inl h.drop
theorem rnGrow_int (h : Own e w (rng_int g xs room :: F)) (hr : room ≤ 65536) (hlt : xs.length < room) : Rets Try.prog 114 #[.pointer (some ⟨g, 0, none⟩)] w fun v w' => v = .tuple #[] ∧ ∃ q c L front buf, RingOk L front buf xs room ∧ xs.length < L ∧ Own e w' (rnB_int g q L c front xs.length room buf F) := by
  refine rg_int_grow_go _ ?_
  obtain ⟨q, c, L, fr, buf, hok, h⟩ := ringM.op h
  refine h.drw fun w h => ⟨_, (Own.ld h (by repeat (first | with_reducible exact Pick.here | apply Pick.there)) (by rfl)), _, _, _, (Own.ld h (by repeat (first | with_reducible exact Pick.here | apply Pick.there)) (by rfl)), fun hx => ?_, fun hx => ?_⟩
  · have hx := dec_t hx
    exact ⟨rfl, q, c, L, fr, buf, hok, by omega, h⟩
  · have hx := dec_f hx
    have hfit := hok.fit
    refine ⟨_, (Own.ld h (by repeat (first | with_reducible exact Pick.here | apply Pick.there)) (by rfl)), h.makeR ⟨by omega, by omega, by omega, by omega⟩ fun g1 w h => ?_⟩
    have zf : ∀ n, zrep [.int .i64 0, .int .u64 0, .int .u64 0, .int .i64 0, .int .i64 0, .int .i64 0, .int .i64 0, .int .i64 0, .int .i64 0] n = (List.replicate n (itZ (0 : Int))).flatMap (itC (Value.int .i64)) := fun n => zrep_flat (f := itC (Value.int .i64)) (itZ (0 : Int)) (by decide) n
    rw [zf] at h
    have h := Own.slMk (T := 83) (s := 9) (n := 0) (c := Int.toNat ((xs.length : Nat) : Int)) (xs := []) (rest := (List.replicate (Int.toNat ((xs.length : Nat) : Int)) (itZ (0 : Int))).flatMap (itC (Value.int .i64))) rfl (Nat.zero_le _) (by unfold maxLen; omega) (by rw [List.nil_append, flat_len (itC_len _), List.length_replicate]) h
    rw [Int.toNat_natCast] at h ⊢
    refine h.newR fun g2 w h => Own.stP' (g := g2) h (by repeat (first | with_reducible exact Pick.here | apply Pick.there)) (by simp) (by simp [Value.oneCell']) fun w h => ?_
    simp only [setFrom, List.set_cons_zero, List.set_cons_succ, List.set_nil] at h
    refine Rets.mono (rnAll_int h) ?_
    clear h
    rintro _ w ⟨b, rfl, h⟩
    refine ⟨_, _, _, rfl, _, rfl, h.loopR fun mk lp L' w h hround => ?_⟩
    have h : Own e w (blk g 165 _ :: slO 83 9 q L c (buf.flatMap (itC (Value.int .i64))) :: _) := (Own.pk2 h (by repeat (first | with_reducible exact Pick.here | apply Pick.there)) (by repeat (first | with_reducible exact Pick.here | apply Pick.there)))
    have h := ringM.cl (T := 165) (E := 83) (vf := (Value.int .i64)) (g := g) hok h
    let Got : List (Itm Int) → HP := fun l => exH fun q' => exH fun c' => allH [blk g2 163 [.slice q' l.length c'], sli_int q' l.length c' l]
    have gotOp : ∀ {w} {l : List (Itm Int)} {R : List HP}, Own e w (Got l :: R) → ∃ q' c', Own e w (blk g2 163 [.slice q' l.length c'] :: sli_int q' l.length c' l :: R) := fun h => by
      obtain ⟨q', h⟩ := h.ex
      obtain ⟨c', h⟩ := h.ex
      exact ⟨q', c', h.open_⟩
    have gotCl : ∀ {w} {l : List (Itm Int)} {R : List HP} {q' c'}, Own e w (blk g2 163 [.slice q' l.length c'] :: sli_int q' l.length c' l :: R) → Own e w (Got l :: R) := fun {w} {l} {R} {q'} {c'} h => by
      have h : Own e w ([blk g2 163 [.slice q' l.length c'], sli_int q' l.length c' l] ++ R) := h
      exact Own.mkEx q' (Own.mkEx c' h.close_)
    let Fr : Nat → List HP := fun i => Got (xs.take i) :: pt lp (LoopObj L' .ready none) :: pt mk (.deferred (some [])) :: F
    have h : Own e w (blk g2 163 [.slice (some ⟨g1, 0, none⟩) 0 xs.length] :: slO 83 9 (some ⟨g1, 0, none⟩) 0 xs.length [] :: _) := (Own.pk2 h (by repeat (first | with_reducible exact Pick.here | apply Pick.there)) (by repeat (first | with_reducible exact Pick.here | apply Pick.there)))
    have h := gotCl (l := []) h
    have h : Own e w (Got (xs.take 0) :: _) := h
    refine Rets.mono (rnAll1_int (g := g) (b := b) (room := room) (xs := xs) (Fr := Fr) (Fin := fun _ => False) hr (fun R i w hi h => ?_) (Own.sub (h) (by repeat (first | with_reducible exact Sub.nil _ | with_reducible exact Sub.rfl _ | (apply Sub.cons; focus ((repeat (first | with_reducible exact Pick.here | apply Pick.there)); done)) | apply Sub.drop)))) ?_
    · refine hround _ _ _ _ _ _ _ _ _ _ w _ (Own.recR (l := lp) (L := L') (Own.pk h (by repeat (first | with_reducible exact Pick.here | apply Pick.there)))) ?_
      refine h.newR fun a4 w h => Own.stP' (g := a4) h (by repeat (first | with_reducible exact Pick.here | apply Pick.there)) (by simp) (by simp [Value.oneCell']) fun w h => ?_
      simp only [setFrom, List.set_cons_zero, List.set_cons_succ, List.set_nil] at h
      refine Own.begR (l := lp) (L := L') (Own.pk h (by repeat (first | with_reducible exact Pick.here | apply Pick.there))) fun w h => ?_
      have h : Own e w (Got (xs.take i) :: _) := (Own.pk h (by repeat (first | with_reducible exact Pick.here | apply Pick.there)))
      obtain ⟨q', c', h⟩ := gotOp h
      have hti : (xs.take i).length = i := by simp; omega
      refine ⟨_, _, _, Own.ld' (g := g2) h (by repeat (first | with_reducible exact Pick.here | apply Pick.there)) rfl, _, _, _, _, _, _, _, _, _, ⟨Own.ld (g := a4) h (by repeat (first | with_reducible exact Pick.here | apply Pick.there)) rfl, Own.ld (g := a4) h (by repeat (first | with_reducible exact Pick.here | apply Pick.there)) rfl, Own.ld (g := a4) h (by repeat (first | with_reducible exact Pick.here | apply Pick.there)) rfl, Own.ld (g := a4) h (by repeat (first | with_reducible exact Pick.here | apply Pick.there)) rfl, Own.ld (g := a4) h (by repeat (first | with_reducible exact Pick.here | apply Pick.there)) rfl, Own.ld (g := a4) h (by repeat (first | with_reducible exact Pick.here | apply Pick.there)) rfl, Own.ld (g := a4) h (by repeat (first | with_reducible exact Pick.here | apply Pick.there)) rfl, Own.ld (g := a4) h (by repeat (first | with_reducible exact Pick.here | apply Pick.there)) rfl, Own.ld (g := a4) h (by repeat (first | with_reducible exact Pick.here | apply Pick.there)) rfl⟩, h.newR fun g3 w h => ?_⟩
      have hsrc : RdC w (some ⟨g3, 0, none⟩) ([xs[i]].flatMap (itC (Value.int .i64))) := by
        have := h.blkRd
        simpa using this
      have h : Own e w (sli_int q' (xs.take i).length c' (xs.take i) :: _) := Own.pk h.drop (by repeat (first | with_reducible exact Pick.here | apply Pick.there))
      refine apI_int (ys := [xs[i]]) h hsrc (by rw [hti]; simp; omega) fun q'' c'' w h => ⟨_, _, _, rfl, Own.stP' (g := g2) h (by repeat (first | with_reducible exact Pick.here | apply Pick.there)) (by simp) (by simp [Value.oneCell']) fun w h => ?_⟩
      simp only [setFrom, List.set_cons_zero, List.set_cons_succ, List.set_nil] at h
      refine Own.finT (l := lp) (L := L') (Own.pk h (by repeat (first | with_reducible exact Pick.here | apply Pick.there))) fun w h => .inl ⟨rfl, ?_⟩
      have e1 : xs.take (i + 1) = xs.take i ++ [xs[i]] := List.take_succ_eq_append_getElem hi
      rw [← e1] at h
      have h := gotCl (l := xs.take (i + 1)) (Own.pk2 h (by repeat (first | with_reducible exact Pick.here | apply Pick.there)) (by repeat (first | with_reducible exact Pick.here | apply Pick.there)))
      have h : Own e w (R :: blk b 137 [.pointer (some ⟨g, 0, none⟩)] :: rng_int g xs room :: Got (xs.take (i + 1)) :: pt lp (LoopObj L' .ready none) :: pt mk (.deferred (some [])) :: F) := (Own.sub (h) (by repeat (first | with_reducible exact Sub.nil _ | with_reducible exact Sub.rfl _ | (apply Sub.cons; focus ((repeat (first | with_reducible exact Pick.here | apply Pick.there)); done)) | apply Sub.drop)))
      exact h
    · clear h
      rintro v w (h | h)
      · have h : Own e w (blk b 137 [.pointer (some ⟨g, 0, none⟩)] :: rng_int g xs room :: Got (xs.take xs.length) :: pt lp (LoopObj L' .ready none) :: pt mk (.deferred (some [])) :: F) := h
        refine Own.endR (l := lp) (L := L') (Own.pk h (by repeat (first | with_reducible exact Pick.here | apply Pick.there))) (by simp) fun w h => ?_
        rw [List.take_length] at h
        have h : Own e w (Got xs :: rng_int g xs room :: pt mk (.deferred (some [])) :: F) := (Own.sub (h) (by repeat (first | with_reducible exact Sub.nil _ | with_reducible exact Sub.rfl _ | (apply Sub.cons; focus ((repeat (first | with_reducible exact Pick.here | apply Pick.there)); done)) | apply Sub.drop)))
        obtain ⟨q', c', h⟩ := gotOp h
        have h : Own e w (rng_int g xs room :: blk g2 163 [.slice q' xs.length c'] :: sli_int q' xs.length c' xs :: pt mk (.deferred (some [])) :: F) := (Own.sub (h) (by repeat (first | with_reducible exact Sub.nil _ | with_reducible exact Sub.rfl _ | (apply Sub.cons; focus ((repeat (first | with_reducible exact Pick.here | apply Pick.there)); done)) | apply Sub.drop)))
        obtain ⟨q2, c2, L2, fr2, buf2, hok2, h⟩ := ringM.op h
        refine h.drw fun w h => ⟨_, Own.ld (g := g) (k := 3) h (by repeat (first | with_reducible exact Pick.here | apply Pick.there)) rfl, _, Own.ld (g := g) (k := 2) h (by repeat (first | with_reducible exact Pick.here | apply Pick.there)) rfl, ?_⟩
        obtain ⟨N, hN⟩ : ∃ N : Nat, N = min room (max 4 (2 * xs.length)) := ⟨_, rfl⟩
        have eN : minI (room : Int) (maxI (4 : Int) (IntKind.wrap IntKind.i64 ((2 : Int) * (xs.length : Nat)))) = (N : Int) := by
          rw [wI64 (by omega) (by omega)]; unfold minI maxI; split <;> split <;> omega
        rw [eN]
        refine h.makeR ⟨by omega, by omega, by omega, by omega⟩ fun g5 w h => ?_
        rw [Int.toNat_natCast] at h ⊢
        rw [zf] at h
        have h : Own e w (sli_int (some ⟨g5, 0, none⟩) N N (List.replicate N (itZ (0 : Int))) :: _) := Own.slMk (rest := []) (by rw [flat_len (itC_len _), List.length_replicate]) (Nat.le_refl _) (by unfold maxLen; omega) (by rw [List.append_nil, flat_len (itC_len _), List.length_replicate]) (by rw [List.append_nil]; exact h)
        refine ⟨_, _, _, Own.ld' (g := g2) h (by repeat (first | with_reducible exact Pick.here | apply Pick.there)) rfl, ?_⟩
        refine Own.copyS (elem := 83) (m := xs.length) (news := xs.flatMap (itC (Value.int .i64))) h (by kernel_rfl) (by kernel_rfl) (Own.rdP (T := 83) (q := q') h (by repeat (first | with_reducible exact Pick.here | apply Pick.there))) (flat_len (itC_len _) xs) (by omega) (by omega) (by omega) (itC_one vo_int xs) fun w h => ⟨_, rfl, ?_⟩
        have e4 : xs.flatMap (itC (Value.int .i64)) ++ ((List.replicate N (itZ (0 : Int))).flatMap (itC (Value.int .i64))).drop (xs.length * 9) = (xs ++ List.replicate (N - xs.length) (itZ (0 : Int))).flatMap (itC (Value.int .i64)) := by
          rw [List.flatMap_append]
          congr 1
          have e5 : List.replicate N (itZ (0 : Int)) = List.replicate xs.length (itZ (0 : Int)) ++ List.replicate (N - xs.length) (itZ (0 : Int)) := by rw [List.replicate_append_replicate]; congr 1; omega
          rw [e5, List.flatMap_append, List.drop_left' (by rw [flat_len (itC_len _), List.length_replicate])]
        rw [e4] at h
        refine Own.stP (g := g) (k := 0) h (by repeat (first | with_reducible exact Pick.here | apply Pick.there)) (by simp) (by simp [Value.oneCell']) fun w h => ?_
        simp only [setFrom, List.set_cons_zero, List.set_cons_succ, List.set_nil] at h
        refine Own.stP (g := g) (k := 1) h (by repeat (first | with_reducible exact Pick.here | apply Pick.there)) (by simp) (by simp [Value.oneCell']) fun w h => ?_
        simp only [setFrom, List.set_cons_zero, List.set_cons_succ, List.set_nil] at h
        refine Own.markR (g := mk) (Own.pk h (by repeat (first | with_reducible exact Pick.here | apply Pick.there))) fun w h => ⟨rfl, some ⟨g5, 0, none⟩, N, N, 0, xs ++ List.replicate (N - xs.length) (itZ (0 : Int)), RingOk.grown _ (by omega) (by omega) (by omega) (by omega), by omega, ?_⟩
        show Own e w (blk g 165 [.slice (some ⟨g5, 0, none⟩) N N, .int .i64 ((0 : Nat) : Int), .int .i64 (xs.length : Int), .int .i64 (room : Int)] :: sli_int (some ⟨g5, 0, none⟩) N N (xs ++ List.replicate (N - xs.length) (itZ (0 : Int))) :: F)
        have h : Own e w (blk g 165 [.slice (some ⟨g5, 0, none⟩) N N, .int .i64 0, .int .i64 (xs.length : Int), .int .i64 (room : Int)] :: sli_int (some ⟨g5, 0, none⟩) N N (xs ++ List.replicate (N - xs.length) (itZ (0 : Int))) :: F) := (Own.sub (h) (by repeat (first | with_reducible exact Sub.nil _ | with_reducible exact Sub.rfl _ | (apply Sub.cons; focus ((repeat (first | with_reducible exact Pick.here | apply Pick.there)); done)) | apply Sub.drop)))
        exact h
      · exact h.elim
theorem rnSend_int {x : Itm Int} (h : Own e w (rng_int g xs room :: F)) (hr : room ≤ 65536) : Rets Try.prog 94 #[.pointer (some ⟨g, 0, none⟩), itV (Value.int .i64) x] w fun v w' => v = .bool (decide (xs.length < room)) ∧ Own e w' (rng_int g (if xs.length < room then xs ++ [x] else xs) room :: F) := by
  refine rg_int_Send_go _ _ _ _ _ _ _ _ _ _ (h.newR fun a w h => ?_)
  have h : Own e w (rng_int g xs room :: blk a 83 (itC (Value.int .i64) x) :: F) := h.swap
  obtain ⟨q, c, L, fr, buf, hok, h⟩ := ringM.op h
  refine h.drw fun w h => ⟨fun _ => ⟨_, (Own.ld h (by repeat (first | with_reducible exact Pick.here | apply Pick.there)) (by rfl)), _, (Own.ld h (by repeat (first | with_reducible exact Pick.here | apply Pick.there)) (by rfl)), fun hx => ?_, fun hx => ?_⟩, fun hc => (by cases hc)⟩
  · have hx := dec_t hx
    rw [if_neg (by omega), decide_eq_false (by omega)]
    exact ⟨rfl, (ringM.cl hok h).swap.drop⟩
  · have hx := dec_f hx
    rw [if_pos (by omega), decide_eq_true (by omega)]
    refine Rets.mono (rnGrow_int (ringM.cl hok h) hr (by omega)) ?_
    clear h hok
    rintro _ w ⟨rfl, q, c, L, fr, buf, hok, hlt, h⟩
    have hbig := hok.big
    have hfr : fr < L := by rcases hok.fr with h | ⟨h, _⟩ <;> omega
    refine ⟨rfl, h.drw fun w h => ⟨fun w => Own _ w _, h, ?_⟩⟩
    refine ⟨_, _, _, fun w h => Own.ld (g := g) (k := 0) h (by repeat (first | with_reducible exact Pick.here | apply Pick.there)) rfl, _, fun w h => Own.ld (g := g) (k := 2) h (by repeat (first | with_reducible exact Pick.here | apply Pick.there)) rfl, _, _, _, _, _, _, _, _, _, ⟨fun w h => Own.ld (g := a) h (by repeat (first | with_reducible exact Pick.here | apply Pick.there)) rfl, fun w h => Own.ld (g := a) h (by repeat (first | with_reducible exact Pick.here | apply Pick.there)) rfl, fun w h => Own.ld (g := a) h (by repeat (first | with_reducible exact Pick.here | apply Pick.there)) rfl, fun w h => Own.ld (g := a) h (by repeat (first | with_reducible exact Pick.here | apply Pick.there)) rfl, fun w h => Own.ld (g := a) h (by repeat (first | with_reducible exact Pick.here | apply Pick.there)) rfl, fun w h => Own.ld (g := a) h (by repeat (first | with_reducible exact Pick.here | apply Pick.there)) rfl, fun w h => Own.ld (g := a) h (by repeat (first | with_reducible exact Pick.here | apply Pick.there)) rfl, fun w h => Own.ld (g := a) h (by repeat (first | with_reducible exact Pick.here | apply Pick.there)) rfl, fun w h => Own.ld (g := a) h (by repeat (first | with_reducible exact Pick.here | apply Pick.there)) rfl⟩, ?_⟩
    refine Rets.mono (rnPlace_int h (by omega) (by omega)) ?_
    clear h
    rintro _ w ⟨rfl, h⟩
    have hix := rix_lt (L := L) (front := fr) (i := xs.length) (by omega)
    refine ⟨_, rfl, h, by omega, by omega, ?_⟩
    rw [Int.toNat_natCast]
    have hlen := hok.len
    have h : Own e w (slO 83 9 q L c (buf.flatMap (itC (Value.int .i64))) :: _) := (Own.pk h (by repeat (first | with_reducible exact Pick.here | apply Pick.there)))
    refine h.slStore (i := rix L fr xs.length * 9) (us := itC (Value.int .i64) x) (by rw [flat_len (itC_len _), itC_len, hlen]; omega) (by simp) (itC_onex vo_int x) fun w h => ⟨_, Own.ld (g := g) (k := 2) h (by repeat (first | with_reducible exact Pick.here | apply Pick.there)) rfl, Own.stP (g := g) (k := 2) h (by repeat (first | with_reducible exact Pick.here | apply Pick.there)) (by simp) (by simp [Value.oneCell']) fun w h => ⟨rfl, ?_⟩⟩
    rw [flat_set (itC_len (Value.int .i64)) buf (rix L fr xs.length) x (by omega)] at h
    simp only [setFrom, List.set_cons_zero, List.set_cons_succ, List.set_nil] at h
    rw [wI64 (by omega) (by omega)] at h
    refine ringM.cl (q := q) (c := c) (hok.send (x := x) hlt (by omega)) ?_
    have e2 : ((xs ++ [x]).length : Int) = (xs.length : Int) + 1 := by simp
    rw [e2]
    exact (Own.sub (h) (by repeat (first | with_reducible exact Sub.nil _ | with_reducible exact Sub.rfl _ | (apply Sub.cons; focus ((repeat (first | with_reducible exact Pick.here | apply Pick.there)); done)) | apply Sub.drop)))
theorem rnTake_int (h : Own e w (rng_int g xs room :: F)) : Rets Try.prog 93 #[.pointer (some ⟨g, 0, none⟩)] w fun v w' => v = .tuple #[itV (Value.int .i64) (xs.head?.getD (itZ (0 : Int))), .bool (decide (0 < xs.length))] ∧ Own e w' (rng_int g xs.tail room :: F) := by
  refine rg_int_Take_go _ (h.newR fun a1 w h => ⟨fun _ => ?_, fun hc => (by cases hc)⟩)
  obtain ⟨q, c, L, fr, buf, hok, h⟩ := ringM.op h.swap
  cases xs with
  | nil =>
    refine ⟨_, Own.ld (g := g) (k := 2) h (by repeat (first | with_reducible exact Pick.here | apply Pick.there)) rfl, fun _ => ⟨_, _, _, _, _, _, _, _, _, ⟨Own.ld (g := a1) h (by repeat (first | with_reducible exact Pick.here | apply Pick.there)) rfl, Own.ld (g := a1) h (by repeat (first | with_reducible exact Pick.here | apply Pick.there)) rfl, Own.ld (g := a1) h (by repeat (first | with_reducible exact Pick.here | apply Pick.there)) rfl, Own.ld (g := a1) h (by repeat (first | with_reducible exact Pick.here | apply Pick.there)) rfl, Own.ld (g := a1) h (by repeat (first | with_reducible exact Pick.here | apply Pick.there)) rfl, Own.ld (g := a1) h (by repeat (first | with_reducible exact Pick.here | apply Pick.there)) rfl, Own.ld (g := a1) h (by repeat (first | with_reducible exact Pick.here | apply Pick.there)) rfl, Own.ld (g := a1) h (by repeat (first | with_reducible exact Pick.here | apply Pick.there)) rfl, Own.ld (g := a1) h (by repeat (first | with_reducible exact Pick.here | apply Pick.there)) rfl⟩, Own.stP' (g := a1) h (by repeat (first | with_reducible exact Pick.here | apply Pick.there)) (by simp) (by simp [Value.oneCell']) fun w h => ?_⟩, fun hx => absurd rfl (beq_f hx)⟩
    simp only [setFrom, List.set_cons_zero, List.set_cons_succ, List.set_nil] at h
    have ho := h
    have h : Own e w (blk g 165 [.slice q L c, .int .i64 (fr : Int), .int .i64 ((([] : List (Itm Int)).length : Nat) : Int), .int .i64 (room : Int)] :: slO 83 9 q L c (buf.flatMap (itC (Value.int .i64))) :: F) := (Own.sub (h) (by repeat (first | with_reducible exact Sub.nil _ | with_reducible exact Sub.rfl _ | (apply Sub.cons; focus ((repeat (first | with_reducible exact Pick.here | apply Pick.there)); done)) | apply Sub.drop)))
    have h2 := ringM.cl (xs := []) hok h
    have h := ho
    exact ⟨_, _, _, _, _, _, _, _, _, ⟨Own.ld (g := a1) h (by repeat (first | with_reducible exact Pick.here | apply Pick.there)) rfl, Own.ld (g := a1) h (by repeat (first | with_reducible exact Pick.here | apply Pick.there)) rfl, Own.ld (g := a1) h (by repeat (first | with_reducible exact Pick.here | apply Pick.there)) rfl, Own.ld (g := a1) h (by repeat (first | with_reducible exact Pick.here | apply Pick.there)) rfl, Own.ld (g := a1) h (by repeat (first | with_reducible exact Pick.here | apply Pick.there)) rfl, Own.ld (g := a1) h (by repeat (first | with_reducible exact Pick.here | apply Pick.there)) rfl, Own.ld (g := a1) h (by repeat (first | with_reducible exact Pick.here | apply Pick.there)) rfl, Own.ld (g := a1) h (by repeat (first | with_reducible exact Pick.here | apply Pick.there)) rfl, Own.ld (g := a1) h (by repeat (first | with_reducible exact Pick.here | apply Pick.there)) rfl⟩, rfl, h2⟩
  | cons x r =>
    obtain ⟨hfr, hb0, hok2⟩ := hok.take (itZ (0 : Int))
    have hbig := hok.big
    have hfit := hok.fit
    have hlen := hok.len
    simp only [List.length_cons] at hfit
    have hbx : buf[fr]'(by omega) = x := by
      rw [List.getElem?_eq_getElem (by omega)] at hb0
      injection hb0
    refine ⟨_, Own.ld (g := g) (k := 2) h (by repeat (first | with_reducible exact Pick.here | apply Pick.there)) rfl, fun hx => ?_, fun hx => ?_⟩
    · have hx := beq_t hx
      simp at hx; omega
    have h : Own e w (slO 83 9 q L c (buf.flatMap (itC (Value.int .i64))) :: blk g 165 [.slice q L c, .int .i64 (fr : Int), .int .i64 (((x :: r).length : Nat) : Int), .int .i64 (room : Int)] :: blk a1 83 _ :: F) := h.swap
    obtain ⟨ad, rfl, rd⟩ := sl_adr (i := fr) (by omega) h
    rw [hbx] at rd
    refine h.newR fun a2 w h => ?_
    have h : Own e w (blk a2 83 (itC (Value.int .i64) (itZ (0 : Int))) :: slO 83 9 (some ad) L c (buf.flatMap (itC (Value.int .i64))) :: blk g 165 [.slice (some ad) L c, .int .i64 (fr : Int), .int .i64 (((x :: r).length : Nat) : Int), .int .i64 (room : Int)] :: blk a1 83 (itC (Value.int .i64) (itZ (0 : Int))) :: F) := h
    refine h.drw fun w h => ⟨fun w => Own e w (blk a2 83 (itC (Value.int .i64) (itZ (0 : Int))) :: slO 83 9 (some ad) L c (buf.flatMap (itC (Value.int .i64))) :: blk g 165 [.slice (some ad) L c, .int .i64 (fr : Int), .int .i64 (((x :: r).length : Nat) : Int), .int .i64 (room : Int)] :: F), (Own.sub (h) (by repeat (first | with_reducible exact Sub.nil _ | with_reducible exact Sub.rfl _ | (apply Sub.cons; focus ((repeat (first | with_reducible exact Pick.here | apply Pick.there)); done)) | apply Sub.drop))), _, _, _, fun w h => Own.ld (g := g) (k := 0) h (by repeat (first | with_reducible exact Pick.here | apply Pick.there)) rfl, _, fun w h => Own.ld (g := g) (k := 1) h (by repeat (first | with_reducible exact Pick.here | apply Pick.there)) rfl, _, _, _, fun w h => Own.ld (g := g) (k := 0) h (by repeat (first | with_reducible exact Pick.here | apply Pick.there)) rfl, _, fun w h => Own.ld (g := g) (k := 1) h (by repeat (first | with_reducible exact Pick.here | apply Pick.there)) rfl, by omega, by omega, smR ⟨_, _, _, _, _, _, _, _, _, ⟨fun w h => rd _ w _ h.drop 0 _ rfl, fun w h => rd _ w _ h.drop 1 _ rfl, fun w h => rd _ w _ h.drop 2 _ rfl, fun w h => rd _ w _ h.drop 3 _ rfl, fun w h => rd _ w _ h.drop 4 _ rfl, fun w h => rd _ w _ h.drop 5 _ rfl, fun w h => rd _ w _ h.drop 6 _ rfl, fun w h => rd _ w _ h.drop 7 _ rfl, fun w h => rd _ w _ h.drop 8 _ rfl⟩, _, _, _, _, _, _, _, _, _, ⟨fun w h => Own.ld (g := a2) h (by repeat (first | with_reducible exact Pick.here | apply Pick.there)) rfl, fun w h => Own.ld (g := a2) h (by repeat (first | with_reducible exact Pick.here | apply Pick.there)) rfl, fun w h => Own.ld (g := a2) h (by repeat (first | with_reducible exact Pick.here | apply Pick.there)) rfl, fun w h => Own.ld (g := a2) h (by repeat (first | with_reducible exact Pick.here | apply Pick.there)) rfl, fun w h => Own.ld (g := a2) h (by repeat (first | with_reducible exact Pick.here | apply Pick.there)) rfl, fun w h => Own.ld (g := a2) h (by repeat (first | with_reducible exact Pick.here | apply Pick.there)) rfl, fun w h => Own.ld (g := a2) h (by repeat (first | with_reducible exact Pick.here | apply Pick.there)) rfl, fun w h => Own.ld (g := a2) h (by repeat (first | with_reducible exact Pick.here | apply Pick.there)) rfl, fun w h => Own.ld (g := a2) h (by repeat (first | with_reducible exact Pick.here | apply Pick.there)) rfl⟩, Own.stP' (g := a1) h (by repeat (first | with_reducible exact Pick.here | apply Pick.there)) (by simp) (by simp [Value.oneCell']) fun w h => ?_⟩⟩
    have h : Own e w (blk a1 83 (itC (Value.int .i64) x) :: blk a2 83 (itC (Value.int .i64) (itZ (0 : Int))) :: slO 83 9 (some ad) L c (buf.flatMap (itC (Value.int .i64))) :: blk g 165 [.slice (some ad) L c, .int .i64 (fr : Int), .int .i64 (((x :: r).length : Nat) : Int), .int .i64 (room : Int)] :: F) := h
    refine ⟨h.drop, by omega, by omega, ?_⟩
    rw [Int.toNat_natCast]
    have h : Own e w (slO 83 9 (some ad) L c (buf.flatMap (itC (Value.int .i64))) :: blk g 165 [.slice (some ad) L c, .int .i64 (fr : Int), .int .i64 (((x :: r).length : Nat) : Int), .int .i64 (room : Int)] :: blk a1 83 (itC (Value.int .i64) x) :: F) := (Own.sub (h) (by repeat (first | with_reducible exact Sub.nil _ | with_reducible exact Sub.rfl _ | (apply Sub.cons; focus ((repeat (first | with_reducible exact Pick.here | apply Pick.there)); done)) | apply Sub.drop)))
    refine h.slStore (i := fr * 9) (us := itC (Value.int .i64) (itZ (0 : Int))) (by rw [flat_len (itC_len _), itC_len, hlen]; omega) (by simp) (itC_onex vo_int _) fun w h => ?_
    rw [flat_set (itC_len (Value.int .i64)) buf fr (itZ (0 : Int)) (by omega)] at h
    have h : Own e w (rnB_int g (some ad) L c fr (x :: r).length room (buf.set fr (itZ (0 : Int))) (blk a1 83 (itC (Value.int .i64) x) :: F)) := h.swap
    refine h.drw fun w h => ⟨fun w => Own e w (rnB_int g (some ad) L c fr (x :: r).length room (buf.set fr (itZ (0 : Int))) (blk a1 83 (itC (Value.int .i64) x) :: F)), h, _, fun w h => Own.ld (g := g) (k := 2) h (by repeat (first | with_reducible exact Pick.here | apply Pick.there)) rfl, ?_⟩
    refine Rets.mono (rnPlace_int (i := 1) h (by omega) (by omega)) ?_
    clear h
    rintro _ w ⟨rfl, h⟩
    refine ⟨_, rfl, h, Own.stP (g := g) (k := 1) h (by repeat (first | with_reducible exact Pick.here | apply Pick.there)) (by simp) (by simp [Value.oneCell']) fun w h => ?_⟩
    simp only [setFrom, List.set_cons_zero, List.set_cons_succ, List.set_nil] at h
    refine Own.stP (g := g) (k := 2) h (by repeat (first | with_reducible exact Pick.here | apply Pick.there)) (by simp) (by simp [Value.oneCell']) fun w h => ?_
    simp only [setFrom, List.set_cons_zero, List.set_cons_succ, List.set_nil] at h
    have e1 : IntKind.wrap .i64 ((((x :: r).length : Nat) : Int) - 1) = ((r.length : Nat) : Int) := by rw [List.length_cons, wI64 (by omega) (by omega)]; omega
    rw [e1] at h
    refine ⟨_, _, _, _, _, _, _, _, _, ⟨Own.ld (g := a1) h (by repeat (first | with_reducible exact Pick.here | apply Pick.there)) rfl, Own.ld (g := a1) h (by repeat (first | with_reducible exact Pick.here | apply Pick.there)) rfl, Own.ld (g := a1) h (by repeat (first | with_reducible exact Pick.here | apply Pick.there)) rfl, Own.ld (g := a1) h (by repeat (first | with_reducible exact Pick.here | apply Pick.there)) rfl, Own.ld (g := a1) h (by repeat (first | with_reducible exact Pick.here | apply Pick.there)) rfl, Own.ld (g := a1) h (by repeat (first | with_reducible exact Pick.here | apply Pick.there)) rfl, Own.ld (g := a1) h (by repeat (first | with_reducible exact Pick.here | apply Pick.there)) rfl, Own.ld (g := a1) h (by repeat (first | with_reducible exact Pick.here | apply Pick.there)) rfl, Own.ld (g := a1) h (by repeat (first | with_reducible exact Pick.here | apply Pick.there)) rfl⟩, Own.stP' (g := a1) h (by repeat (first | with_reducible exact Pick.here | apply Pick.there)) (by simp) (by simp [Value.oneCell']) fun w h => ?_⟩
    simp only [setFrom, List.set_cons_zero, List.set_cons_succ, List.set_nil] at h
    have ho := h
    have h : Own e w (blk g 165 [.slice (some ad) L c, .int .i64 ((rix L fr 1 : Nat) : Int), .int .i64 ((r.length : Nat) : Int), .int .i64 (room : Int)] :: slO 83 9 (some ad) L c ((buf.set fr (itZ (0 : Int))).flatMap (itC (Value.int .i64))) :: F) := (Own.sub (h) (by repeat (first | with_reducible exact Sub.nil _ | with_reducible exact Sub.rfl _ | (apply Sub.cons; focus ((repeat (first | with_reducible exact Pick.here | apply Pick.there)); done)) | apply Sub.drop)))
    have h2 := ringM.cl (xs := r) hok2 h
    have h := ho
    exact ⟨_, _, _, _, _, _, _, _, _, ⟨Own.ld (g := a1) h (by repeat (first | with_reducible exact Pick.here | apply Pick.there)) rfl, Own.ld (g := a1) h (by repeat (first | with_reducible exact Pick.here | apply Pick.there)) rfl, Own.ld (g := a1) h (by repeat (first | with_reducible exact Pick.here | apply Pick.there)) rfl, Own.ld (g := a1) h (by repeat (first | with_reducible exact Pick.here | apply Pick.there)) rfl, Own.ld (g := a1) h (by repeat (first | with_reducible exact Pick.here | apply Pick.there)) rfl, Own.ld (g := a1) h (by repeat (first | with_reducible exact Pick.here | apply Pick.there)) rfl, Own.ld (g := a1) h (by repeat (first | with_reducible exact Pick.here | apply Pick.there)) rfl, Own.ld (g := a1) h (by repeat (first | with_reducible exact Pick.here | apply Pick.there)) rfl, Own.ld (g := a1) h (by repeat (first | with_reducible exact Pick.here | apply Pick.there)) rfl⟩, rfl, h2⟩
end
section
variable {e w : World} {F : List HP} {g : Nat} {xs ys : List (Itm ByteArray)} {room : Nat} {q q2 : Option Addr} {n c m c2 : Nat}
abbrev rng_string (g : Nat) (xs : List (Itm ByteArray)) (room : Nat) : HP := ringM 171 99 Value.string g xs room
abbrev sli_string (q : Option Addr) (n c : Nat) (xs : List (Itm ByteArray)) : HP := slO 99 9 q n c (xs.flatMap (itC Value.string))
theorem vo_string : ∀ v, (Value.string v).oneCell' = true := fun _ => rfl
theorem apI_string {K : Value → World → Prop} (h : Own e w (sli_string q xs.length c xs :: F)) (hr : RdC w q2 (ys.flatMap (itC Value.string))) (hn : xs.length + ys.length ≤ 200000)
    (hk : ∀ q' c' w', Own e w' (sli_string q' (xs ++ ys).length c' (xs ++ ys) :: F) → K (.slice q' (xs ++ ys).length c') w') :
    RunR Try.prog (builtinV .append #[169, 169] 169 #[.slice q xs.length c, .slice q2 ys.length c2]) w K := by
  refine Own.append (z := itC Value.string (itZ (⟨#[]⟩ : ByteArray))) (b := 80) (m := ys.length) (news := ys.flatMap (itC Value.string)) h (by kernel_rfl) (by kernel_rfl) (by kernel_rfl) (by kernel_rfl) (by kernel_rfl) (by omega) hr (flat_len (itC_len _) ys) (itC_one vo_string ys) (by unfold maxLen; omega) (by omega) fun q' c' w' h _ => ?_
  rw [← List.flatMap_append, ← List.length_append] at h
  rw [← List.length_append]
  exact hk q' c' w' h
theorem scl_string (h : Own e w F) (hr : ∀ w, Own e w F → RdC w q (xs.flatMap (itC Value.string))) (hn : xs.length ≤ 100000) :
    Rets Try.prog 129 #[.slice q xs.length c] w fun v w' => ∃ q' c', v = .slice q' xs.length c' ∧ Own e w' (sli_string q' xs.length c' xs :: F) := by
  refine rg_string_sClone_go _ _ _ ⟨fun hc => ?_, fun hc => ?_⟩
  · cases q with
    | some a => cases hc
    | none =>
      have hb : xs = [] := by
        cases xs with
        | nil => rfl
        | cons x r =>
          rcases hr w h with hr | ⟨a, ha, _⟩
          · simp at hr
          · cases ha
      subst hb
      exact ⟨_, _, rfl, h.slNil⟩
  · refine h.newR fun g w1 h => ?_
    have h0 : Own e w1 (sli_string (some ⟨g, 0, none⟩) 0 0 [] :: F) := Own.slMk (rest := []) (by rfl) (by omega) (by omega) (by rfl) h
    refine apI_string (xs := []) h0 (hr _ h.drop) (by simp; omega) fun q' c' w' h => ⟨_, _, _, rfl, _, _, rfl, h⟩
theorem rnNew_string {r : Int} (h : Own e w F) : Rets Try.prog 98 #[.int .i64 r] w fun v w' => ∃ g, v = .pointer (some ⟨g, 0, none⟩) ∧ Own e w' (rng_string g [] (max 0 (min r 65536)).toNat :: F) := by
  refine rg_string_New_go _ (h.newR fun g w h => ⟨g, rfl, ?_⟩)
  rw [maxmin0 (by omega)] at h
  exact ringM.cl (xs := []) (q := none) (c := 0) (RingOk.nil _) ((h.slNil).swap)
theorem rnLen_string (h : Own e w (rng_string g xs room :: F)) : Rets Try.prog 102 #[.pointer (some ⟨g, 0, none⟩)] w fun v w' => v = .int .i64 (xs.length : Nat) ∧ Own e w' (rng_string g xs room :: F) := by
  refine rg_string_Len_go _ ⟨fun hc => (by cases hc), fun _ => ?_⟩
  obtain ⟨q, c, L, fr, buf, hok, h⟩ := ringM.op h
  exact ⟨_, (Own.ld h (by repeat (first | with_reducible exact Pick.here | apply Pick.there)) (by rfl)), rfl, ringM.cl hok h⟩
theorem rnRoom_string (h : Own e w (rng_string g xs room :: F)) : Rets Try.prog 118 #[.pointer (some ⟨g, 0, none⟩)] w fun v w' => v = .int .i64 (room : Nat) ∧ Own e w' (rng_string g xs room :: F) := by
  refine rg_string_Room_go _ ⟨fun hc => (by cases hc), fun _ => ?_⟩
  obtain ⟨q, c, L, fr, buf, hok, h⟩ := ringM.op h
  exact ⟨_, (Own.ld h (by repeat (first | with_reducible exact Pick.here | apply Pick.there)) (by rfl)), rfl, ringM.cl hok h⟩
abbrev rnB_string (g : Nat) (q : Option Addr) (L c front n room : Nat) (buf : List (Itm ByteArray)) (F : List HP) : List HP :=
  blk g 171 [.slice q L c, .int .i64 (front : Int), .int .i64 (n : Int), .int .i64 (room : Int)] :: sli_string q L c buf :: F
theorem rnPlace_string {L front n : Nat} {buf : List (Itm ByteArray)} {i : Nat} (h : Own e w (rnB_string g q L c front n room buf F)) (hL : 0 < L) (hb : front + i ≤ 1000000) : Rets Try.prog 120 #[.pointer (some ⟨g, 0, none⟩), .int .i64 (i : Int)] w fun v w' => v = .int .i64 (rix L front i : Nat) ∧ Own e w' (rnB_string g q L c front n room buf F) := by
  refine rg_string_place_go _ _ (h.drw fun w h => ⟨_, (Own.ld h (by repeat (first | with_reducible exact Pick.here | apply Pick.there)) (by rfl)), _, _, _, (Own.ld h (by repeat (first | with_reducible exact Pick.here | apply Pick.there)) (by rfl)), by omega, ?_, h⟩)
  rw [wI64 (by omega) (by omega), rix_int]
theorem rnClone_string (h : Own e w (rng_string g xs room :: F)) (hr : room ≤ 65536) : Rets Try.prog 127 #[.pointer (some ⟨g, 0, none⟩)] w fun v w' => ∃ g', v = .pointer (some ⟨g', 0, none⟩) ∧ Own e w' (rng_string g' xs room :: rng_string g xs room :: F) := by
  refine rg_string_Clone_go _ ⟨fun hc => (by cases hc), fun _ => ?_⟩
  obtain ⟨q, c, L, fr, buf, hok, h⟩ := ringM.op h
  have hL := hok.big
  have hlen := hok.len
  refine h.drw fun w h => ⟨fun w => Own _ w _, h, ?_⟩
  refine ⟨_, _, _, (fun w h => (Own.ld h (by repeat (first | with_reducible exact Pick.here | apply Pick.there)) (by rfl))), _, (fun w h => (Own.ld h (by repeat (first | with_reducible exact Pick.here | apply Pick.there)) (by rfl))), _, (fun w h => (Own.ld h (by repeat (first | with_reducible exact Pick.here | apply Pick.there)) (by rfl))), _, (fun w h => (Own.ld h (by repeat (first | with_reducible exact Pick.here | apply Pick.there)) (by rfl))), ?_⟩
  have hcl := scl_string (xs := buf) (q := q) (c := c) h (fun w h => (Own.rdP h (by repeat (first | with_reducible exact Pick.here | apply Pick.there)))) (by omega)
  rw [hlen] at hcl
  refine Rets.mono hcl ?_
  clear hcl
  rintro _ w ⟨q', c', rfl, h⟩
  refine ⟨_, _, _, rfl, (Own.sub (h) (by repeat (first | with_reducible exact Sub.nil _ | with_reducible exact Sub.rfl _ | (apply Sub.cons; focus ((repeat (first | with_reducible exact Pick.here | apply Pick.there)); done)) | apply Sub.drop))), h.newR fun g' w h => ⟨g', rfl, ?_⟩⟩
  have h := ringM.cl (T := 171) (E := 99) (vf := Value.string) (g := g) hok (Own.pk2 h (by repeat (first | with_reducible exact Pick.here | apply Pick.there)) (by repeat (first | with_reducible exact Pick.here | apply Pick.there)))
  have h : Own e w (blk g' 171 _ :: slO 99 9 q' L c' (buf.flatMap (itC Value.string)) :: _) := (Own.pk2 h (by repeat (first | with_reducible exact Pick.here | apply Pick.there)) (by repeat (first | with_reducible exact Pick.here | apply Pick.there)))
  exact ringM.cl hok h
theorem rnAt_string {k : Nat} (hk : k < xs.length) (hr : room ≤ 65536) (h : Own e w (rng_string g xs room :: F)) : Rets Try.prog 128 #[.pointer (some ⟨g, 0, none⟩), .int .i64 (k : Int)] w fun v w' => v = .tuple #[itV Value.string xs[k], .bool true] ∧ Own e w' (rng_string g xs room :: F) := by
  refine rg_string_At_go _ _ (h.newR fun a w h => ⟨fun _ => ⟨fun _ => ?_, fun hi => (by have := dec_t hi; omega)⟩, fun hc => (by cases hc)⟩)
  obtain ⟨q, c, L, fr, buf, hok, h⟩ := ringM.op h.swap
  have hL := hok.big
  have hlen := hok.len
  have hfit := hok.fit
  have hmax := hok.max
  have hfr : fr < L := by rcases hok.fr with h | ⟨h, _⟩ <;> omega
  have hat := hok.at_ k hk
  have hlt := rix_lt (L := L) (front := fr) (i := k) (by omega)
  have hbx : buf[rix L fr k]'(by omega) = xs[k] := by
    rw [List.getElem?_eq_getElem (by omega)] at hat
    injection hat
  refine ⟨_, Own.ld (g := g) (k := 2) h (by repeat (first | with_reducible exact Pick.here | apply Pick.there)) rfl, fun hj => (by have := dec_t hj; omega), fun _ => ?_⟩
  refine h.drw fun w h => ⟨fun w => Own _ w _, h, _, _, _, fun w h => Own.ld (g := g) (k := 0) h (by repeat (first | with_reducible exact Pick.here | apply Pick.there)) rfl, ?_⟩
  refine Rets.mono (rnPlace_string h (by omega) (by omega)) ?_
  clear h
  rintro _ w ⟨rfl, h⟩
  obtain ⟨ad, rfl, rd⟩ := sl_adr (i := rix L fr k) (by omega) h.drop
  rw [hbx] at rd
  refine ⟨_, rfl, fun w => Own _ w _, fun w h => h, h, by omega, by omega, smR ⟨_, _, _, _, _, _, _, _, _, ⟨fun w h => rd _ w _ h.drop 0 _ rfl, fun w h => rd _ w _ h.drop 1 _ rfl, fun w h => rd _ w _ h.drop 2 _ rfl, fun w h => rd _ w _ h.drop 3 _ rfl, fun w h => rd _ w _ h.drop 4 _ rfl, fun w h => rd _ w _ h.drop 5 _ rfl, fun w h => rd _ w _ h.drop 6 _ rfl, fun w h => rd _ w _ h.drop 7 _ rfl, fun w h => rd _ w _ h.drop 8 _ rfl⟩, Own.stP' (g := a) h (by repeat (first | with_reducible exact Pick.here | apply Pick.there)) (by simp) (by simp [Value.oneCell']) fun w h => ?_⟩⟩
  simp only [setFrom, List.set_cons_zero, List.set_cons_succ, List.set_nil] at h
  exact ⟨_, _, _, _, _, _, _, _, _, ⟨Own.ld (g := a) h (by repeat (first | with_reducible exact Pick.here | apply Pick.there)) rfl, Own.ld (g := a) h (by repeat (first | with_reducible exact Pick.here | apply Pick.there)) rfl, Own.ld (g := a) h (by repeat (first | with_reducible exact Pick.here | apply Pick.there)) rfl, Own.ld (g := a) h (by repeat (first | with_reducible exact Pick.here | apply Pick.there)) rfl, Own.ld (g := a) h (by repeat (first | with_reducible exact Pick.here | apply Pick.there)) rfl, Own.ld (g := a) h (by repeat (first | with_reducible exact Pick.here | apply Pick.there)) rfl, Own.ld (g := a) h (by repeat (first | with_reducible exact Pick.here | apply Pick.there)) rfl, Own.ld (g := a) h (by repeat (first | with_reducible exact Pick.here | apply Pick.there)) rfl, Own.ld (g := a) h (by repeat (first | with_reducible exact Pick.here | apply Pick.there)) rfl⟩, rfl, ringM.cl hok (Own.sub (h) (by repeat (first | with_reducible exact Sub.nil _ | with_reducible exact Sub.rfl _ | (apply Sub.cons; focus ((repeat (first | with_reducible exact Pick.here | apply Pick.there)); done)) | apply Sub.drop)))⟩
theorem rnAll_string {q : Option Addr} (h : Own e w F) : Rets Try.prog 125 #[.pointer q] w fun v w' => ∃ b, v = .func (.func 126) #[] #[.pointer (some ⟨b, 0, none⟩)] ∧ Own e w' (blk b 142 [.pointer q] :: F) :=
  rg_string_All_go _ (h.newR fun b w h => ⟨b, rfl, h⟩)
theorem rnAll1_string {lp b : Nat} {Fr : Nat → List HP} {Fin : World → Prop} (hr : room ≤ 65536)
    (hround : ∀ (R : HP) (i : Nat) w (hi : i < xs.length), Own e w (R :: blk b 142 [.pointer (some ⟨g, 0, none⟩)] :: rng_string g xs room :: Fr i) →
      RoundR Try.prog lp #[.int .i64 (i : Int), itV Value.string xs[i]] w fun v w' => (v = .bool true ∧ Own e w' (R :: blk b 142 [.pointer (some ⟨g, 0, none⟩)] :: rng_string g xs room :: Fr (i + 1))) ∨ (v = .bool false ∧ Fin w'))
    (h : Own e w (blk b 142 [.pointer (some ⟨g, 0, none⟩)] :: rng_string g xs room :: Fr 0)) :
    Rets Try.prog 126 #[.func (.yield lp) #[] #[], .pointer (some ⟨b, 0, none⟩)] w fun v w' => Own e w' (blk b 142 [.pointer (some ⟨g, 0, none⟩)] :: rng_string g xs room :: Fr xs.length) ∨ Fin w' := by
  refine rg_string_All1_go _ _ ⟨_, Own.ld' (g := b) h (by repeat (first | with_reducible exact Pick.here | apply Pick.there)) rfl, ?_⟩
  refine Rets.mono (rnClone_string h.swap hr) ?_
  clear h
  rintro _ w ⟨g', rfl, h⟩
  refine ⟨_, rfl, ?_⟩
  refine Rets.mono (rnLen_string h) ?_
  clear h
  rintro _ w ⟨rfl, h⟩
  have hmax : xs.length ≤ room := by
    obtain ⟨_, _, _, _, _, hok, _⟩ := ringM.op h
    exact hok.max
  refine ⟨_, rfl, fun m vs w => ∃ i : Nat, vs = [.int .i64 (i : Int)] ∧ m + i = xs.length ∧ Own e w (rng_string g' xs room :: blk b 142 [.pointer (some ⟨g, 0, none⟩)] :: rng_string g xs room :: Fr i), ⟨xs.length, 0, rfl, rfl, (Own.sub (h) (by repeat (first | with_reducible exact Sub.nil _ | with_reducible exact Sub.rfl _ | (apply Sub.cons; focus ((repeat (first | with_reducible exact Pick.here | apply Pick.there)); done)) | apply Sub.drop)))⟩, ?_⟩
  clear h
  intro m w
  intros
  rename_i hI
  obtain ⟨i, hvs, hm, h⟩ := hI
  simp at hvs
  subst hvs
  refine ⟨fun hc => ?_, fun hc => ?_⟩
  · have hc := dec_t hc
    have hi : i < xs.length := by omega
    refine Rets.mono (rnAt_string hi hr h) ?_
    clear h
    rintro _ w ⟨rfl, h⟩
    refine ⟨_, _, _, _, _, _, _, _, _, _, rfl, h.newR fun a w h => Own.stP' (g := a) h (by repeat (first | with_reducible exact Pick.here | apply Pick.there)) (by simp) (by simp [Value.oneCell']) fun w h => ?_⟩
    simp only [setFrom, List.set_cons_zero, List.set_cons_succ, List.set_nil] at h
    refine ⟨_, _, _, _, _, _, _, _, _, ⟨Own.ld (g := a) h (by repeat (first | with_reducible exact Pick.here | apply Pick.there)) rfl, Own.ld (g := a) h (by repeat (first | with_reducible exact Pick.here | apply Pick.there)) rfl, Own.ld (g := a) h (by repeat (first | with_reducible exact Pick.here | apply Pick.there)) rfl, Own.ld (g := a) h (by repeat (first | with_reducible exact Pick.here | apply Pick.there)) rfl, Own.ld (g := a) h (by repeat (first | with_reducible exact Pick.here | apply Pick.there)) rfl, Own.ld (g := a) h (by repeat (first | with_reducible exact Pick.here | apply Pick.there)) rfl, Own.ld (g := a) h (by repeat (first | with_reducible exact Pick.here | apply Pick.there)) rfl, Own.ld (g := a) h (by repeat (first | with_reducible exact Pick.here | apply Pick.there)) rfl, Own.ld (g := a) h (by repeat (first | with_reducible exact Pick.here | apply Pick.there)) rfl⟩, ?_⟩
    refine RoundR.mono (hround _ i w hi h.drop) ?_
    rintro v w (⟨rfl, h⟩ | ⟨rfl, h⟩)
    · exact ⟨_, rfl, fun hx => (by cases hx), fun _ => ⟨m - 1, by omega, i + 1, by rw [wI64 (by omega) (by omega)]; rfl, by omega, h⟩⟩
    · exact ⟨_, rfl, fun _ => .inr h, fun hx => (by cases hx)⟩
  · have hc := dec_f hc
    obtain rfl : i = xs.length := by omega
    exact .inl h.drop
theorem rnGrow_string (h : Own e w (rng_string g xs room :: F)) (hr : room ≤ 65536) (hlt : xs.length < room) : Rets Try.prog 119 #[.pointer (some ⟨g, 0, none⟩)] w fun v w' => v = .tuple #[] ∧ ∃ q c L front buf, RingOk L front buf xs room ∧ xs.length < L ∧ Own e w' (rnB_string g q L c front xs.length room buf F) := by
  refine rg_string_grow_go _ ?_
  obtain ⟨q, c, L, fr, buf, hok, h⟩ := ringM.op h
  refine h.drw fun w h => ⟨_, (Own.ld h (by repeat (first | with_reducible exact Pick.here | apply Pick.there)) (by rfl)), _, _, _, (Own.ld h (by repeat (first | with_reducible exact Pick.here | apply Pick.there)) (by rfl)), fun hx => ?_, fun hx => ?_⟩
  · have hx := dec_t hx
    exact ⟨rfl, q, c, L, fr, buf, hok, by omega, h⟩
  · have hx := dec_f hx
    have hfit := hok.fit
    refine ⟨_, (Own.ld h (by repeat (first | with_reducible exact Pick.here | apply Pick.there)) (by rfl)), h.makeR ⟨by omega, by omega, by omega, by omega⟩ fun g1 w h => ?_⟩
    have zf : ∀ n, zrep [.int .i64 0, .int .u64 0, .int .u64 0, .string ⟨#[]⟩, .int .i64 0, .int .i64 0, .int .i64 0, .int .i64 0, .int .i64 0] n = (List.replicate n (itZ (⟨#[]⟩ : ByteArray))).flatMap (itC Value.string) := fun n => zrep_flat (f := itC Value.string) (itZ (⟨#[]⟩ : ByteArray)) (by decide) n
    rw [zf] at h
    have h := Own.slMk (T := 99) (s := 9) (n := 0) (c := Int.toNat ((xs.length : Nat) : Int)) (xs := []) (rest := (List.replicate (Int.toNat ((xs.length : Nat) : Int)) (itZ (⟨#[]⟩ : ByteArray))).flatMap (itC Value.string)) rfl (Nat.zero_le _) (by unfold maxLen; omega) (by rw [List.nil_append, flat_len (itC_len _), List.length_replicate]) h
    rw [Int.toNat_natCast] at h ⊢
    refine h.newR fun g2 w h => Own.stP' (g := g2) h (by repeat (first | with_reducible exact Pick.here | apply Pick.there)) (by simp) (by simp [Value.oneCell']) fun w h => ?_
    simp only [setFrom, List.set_cons_zero, List.set_cons_succ, List.set_nil] at h
    refine Rets.mono (rnAll_string h) ?_
    clear h
    rintro _ w ⟨b, rfl, h⟩
    refine ⟨_, _, _, rfl, _, rfl, h.loopR fun mk lp L' w h hround => ?_⟩
    have h : Own e w (blk g 171 _ :: slO 99 9 q L c (buf.flatMap (itC Value.string)) :: _) := (Own.pk2 h (by repeat (first | with_reducible exact Pick.here | apply Pick.there)) (by repeat (first | with_reducible exact Pick.here | apply Pick.there)))
    have h := ringM.cl (T := 171) (E := 99) (vf := Value.string) (g := g) hok h
    let Got : List (Itm ByteArray) → HP := fun l => exH fun q' => exH fun c' => allH [blk g2 169 [.slice q' l.length c'], sli_string q' l.length c' l]
    have gotOp : ∀ {w} {l : List (Itm ByteArray)} {R : List HP}, Own e w (Got l :: R) → ∃ q' c', Own e w (blk g2 169 [.slice q' l.length c'] :: sli_string q' l.length c' l :: R) := fun h => by
      obtain ⟨q', h⟩ := h.ex
      obtain ⟨c', h⟩ := h.ex
      exact ⟨q', c', h.open_⟩
    have gotCl : ∀ {w} {l : List (Itm ByteArray)} {R : List HP} {q' c'}, Own e w (blk g2 169 [.slice q' l.length c'] :: sli_string q' l.length c' l :: R) → Own e w (Got l :: R) := fun {w} {l} {R} {q'} {c'} h => by
      have h : Own e w ([blk g2 169 [.slice q' l.length c'], sli_string q' l.length c' l] ++ R) := h
      exact Own.mkEx q' (Own.mkEx c' h.close_)
    let Fr : Nat → List HP := fun i => Got (xs.take i) :: pt lp (LoopObj L' .ready none) :: pt mk (.deferred (some [])) :: F
    have h : Own e w (blk g2 169 [.slice (some ⟨g1, 0, none⟩) 0 xs.length] :: slO 99 9 (some ⟨g1, 0, none⟩) 0 xs.length [] :: _) := (Own.pk2 h (by repeat (first | with_reducible exact Pick.here | apply Pick.there)) (by repeat (first | with_reducible exact Pick.here | apply Pick.there)))
    have h := gotCl (l := []) h
    have h : Own e w (Got (xs.take 0) :: _) := h
    refine Rets.mono (rnAll1_string (g := g) (b := b) (room := room) (xs := xs) (Fr := Fr) (Fin := fun _ => False) hr (fun R i w hi h => ?_) (Own.sub (h) (by repeat (first | with_reducible exact Sub.nil _ | with_reducible exact Sub.rfl _ | (apply Sub.cons; focus ((repeat (first | with_reducible exact Pick.here | apply Pick.there)); done)) | apply Sub.drop)))) ?_
    · refine hround _ _ _ _ _ _ _ _ _ _ w _ (Own.recR (l := lp) (L := L') (Own.pk h (by repeat (first | with_reducible exact Pick.here | apply Pick.there)))) ?_
      refine h.newR fun a4 w h => Own.stP' (g := a4) h (by repeat (first | with_reducible exact Pick.here | apply Pick.there)) (by simp) (by simp [Value.oneCell']) fun w h => ?_
      simp only [setFrom, List.set_cons_zero, List.set_cons_succ, List.set_nil] at h
      refine Own.begR (l := lp) (L := L') (Own.pk h (by repeat (first | with_reducible exact Pick.here | apply Pick.there))) fun w h => ?_
      have h : Own e w (Got (xs.take i) :: _) := (Own.pk h (by repeat (first | with_reducible exact Pick.here | apply Pick.there)))
      obtain ⟨q', c', h⟩ := gotOp h
      have hti : (xs.take i).length = i := by simp; omega
      refine ⟨_, _, _, Own.ld' (g := g2) h (by repeat (first | with_reducible exact Pick.here | apply Pick.there)) rfl, _, _, _, _, _, _, _, _, _, ⟨Own.ld (g := a4) h (by repeat (first | with_reducible exact Pick.here | apply Pick.there)) rfl, Own.ld (g := a4) h (by repeat (first | with_reducible exact Pick.here | apply Pick.there)) rfl, Own.ld (g := a4) h (by repeat (first | with_reducible exact Pick.here | apply Pick.there)) rfl, Own.ld (g := a4) h (by repeat (first | with_reducible exact Pick.here | apply Pick.there)) rfl, Own.ld (g := a4) h (by repeat (first | with_reducible exact Pick.here | apply Pick.there)) rfl, Own.ld (g := a4) h (by repeat (first | with_reducible exact Pick.here | apply Pick.there)) rfl, Own.ld (g := a4) h (by repeat (first | with_reducible exact Pick.here | apply Pick.there)) rfl, Own.ld (g := a4) h (by repeat (first | with_reducible exact Pick.here | apply Pick.there)) rfl, Own.ld (g := a4) h (by repeat (first | with_reducible exact Pick.here | apply Pick.there)) rfl⟩, h.newR fun g3 w h => ?_⟩
      have hsrc : RdC w (some ⟨g3, 0, none⟩) ([xs[i]].flatMap (itC Value.string)) := by
        have := h.blkRd
        simpa using this
      have h : Own e w (sli_string q' (xs.take i).length c' (xs.take i) :: _) := Own.pk h.drop (by repeat (first | with_reducible exact Pick.here | apply Pick.there))
      refine apI_string (ys := [xs[i]]) h hsrc (by rw [hti]; simp; omega) fun q'' c'' w h => ⟨_, _, _, rfl, Own.stP' (g := g2) h (by repeat (first | with_reducible exact Pick.here | apply Pick.there)) (by simp) (by simp [Value.oneCell']) fun w h => ?_⟩
      simp only [setFrom, List.set_cons_zero, List.set_cons_succ, List.set_nil] at h
      refine Own.finT (l := lp) (L := L') (Own.pk h (by repeat (first | with_reducible exact Pick.here | apply Pick.there))) fun w h => .inl ⟨rfl, ?_⟩
      have e1 : xs.take (i + 1) = xs.take i ++ [xs[i]] := List.take_succ_eq_append_getElem hi
      rw [← e1] at h
      have h := gotCl (l := xs.take (i + 1)) (Own.pk2 h (by repeat (first | with_reducible exact Pick.here | apply Pick.there)) (by repeat (first | with_reducible exact Pick.here | apply Pick.there)))
      have h : Own e w (R :: blk b 142 [.pointer (some ⟨g, 0, none⟩)] :: rng_string g xs room :: Got (xs.take (i + 1)) :: pt lp (LoopObj L' .ready none) :: pt mk (.deferred (some [])) :: F) := (Own.sub (h) (by repeat (first | with_reducible exact Sub.nil _ | with_reducible exact Sub.rfl _ | (apply Sub.cons; focus ((repeat (first | with_reducible exact Pick.here | apply Pick.there)); done)) | apply Sub.drop)))
      exact h
    · clear h
      rintro v w (h | h)
      · have h : Own e w (blk b 142 [.pointer (some ⟨g, 0, none⟩)] :: rng_string g xs room :: Got (xs.take xs.length) :: pt lp (LoopObj L' .ready none) :: pt mk (.deferred (some [])) :: F) := h
        refine Own.endR (l := lp) (L := L') (Own.pk h (by repeat (first | with_reducible exact Pick.here | apply Pick.there))) (by simp) fun w h => ?_
        rw [List.take_length] at h
        have h : Own e w (Got xs :: rng_string g xs room :: pt mk (.deferred (some [])) :: F) := (Own.sub (h) (by repeat (first | with_reducible exact Sub.nil _ | with_reducible exact Sub.rfl _ | (apply Sub.cons; focus ((repeat (first | with_reducible exact Pick.here | apply Pick.there)); done)) | apply Sub.drop)))
        obtain ⟨q', c', h⟩ := gotOp h
        have h : Own e w (rng_string g xs room :: blk g2 169 [.slice q' xs.length c'] :: sli_string q' xs.length c' xs :: pt mk (.deferred (some [])) :: F) := (Own.sub (h) (by repeat (first | with_reducible exact Sub.nil _ | with_reducible exact Sub.rfl _ | (apply Sub.cons; focus ((repeat (first | with_reducible exact Pick.here | apply Pick.there)); done)) | apply Sub.drop)))
        obtain ⟨q2, c2, L2, fr2, buf2, hok2, h⟩ := ringM.op h
        refine h.drw fun w h => ⟨_, Own.ld (g := g) (k := 3) h (by repeat (first | with_reducible exact Pick.here | apply Pick.there)) rfl, _, Own.ld (g := g) (k := 2) h (by repeat (first | with_reducible exact Pick.here | apply Pick.there)) rfl, ?_⟩
        obtain ⟨N, hN⟩ : ∃ N : Nat, N = min room (max 4 (2 * xs.length)) := ⟨_, rfl⟩
        have eN : minI (room : Int) (maxI (4 : Int) (IntKind.wrap IntKind.i64 ((2 : Int) * (xs.length : Nat)))) = (N : Int) := by
          rw [wI64 (by omega) (by omega)]; unfold minI maxI; split <;> split <;> omega
        rw [eN]
        refine h.makeR ⟨by omega, by omega, by omega, by omega⟩ fun g5 w h => ?_
        rw [Int.toNat_natCast] at h ⊢
        rw [zf] at h
        have h : Own e w (sli_string (some ⟨g5, 0, none⟩) N N (List.replicate N (itZ (⟨#[]⟩ : ByteArray))) :: _) := Own.slMk (rest := []) (by rw [flat_len (itC_len _), List.length_replicate]) (Nat.le_refl _) (by unfold maxLen; omega) (by rw [List.append_nil, flat_len (itC_len _), List.length_replicate]) (by rw [List.append_nil]; exact h)
        refine ⟨_, _, _, Own.ld' (g := g2) h (by repeat (first | with_reducible exact Pick.here | apply Pick.there)) rfl, ?_⟩
        refine Own.copyS (elem := 99) (m := xs.length) (news := xs.flatMap (itC Value.string)) h (by kernel_rfl) (by kernel_rfl) (Own.rdP (T := 99) (q := q') h (by repeat (first | with_reducible exact Pick.here | apply Pick.there))) (flat_len (itC_len _) xs) (by omega) (by omega) (by omega) (itC_one vo_string xs) fun w h => ⟨_, rfl, ?_⟩
        have e4 : xs.flatMap (itC Value.string) ++ ((List.replicate N (itZ (⟨#[]⟩ : ByteArray))).flatMap (itC Value.string)).drop (xs.length * 9) = (xs ++ List.replicate (N - xs.length) (itZ (⟨#[]⟩ : ByteArray))).flatMap (itC Value.string) := by
          rw [List.flatMap_append]
          congr 1
          have e5 : List.replicate N (itZ (⟨#[]⟩ : ByteArray)) = List.replicate xs.length (itZ (⟨#[]⟩ : ByteArray)) ++ List.replicate (N - xs.length) (itZ (⟨#[]⟩ : ByteArray)) := by rw [List.replicate_append_replicate]; congr 1; omega
          rw [e5, List.flatMap_append, List.drop_left' (by rw [flat_len (itC_len _), List.length_replicate])]
        rw [e4] at h
        refine Own.stP (g := g) (k := 0) h (by repeat (first | with_reducible exact Pick.here | apply Pick.there)) (by simp) (by simp [Value.oneCell']) fun w h => ?_
        simp only [setFrom, List.set_cons_zero, List.set_cons_succ, List.set_nil] at h
        refine Own.stP (g := g) (k := 1) h (by repeat (first | with_reducible exact Pick.here | apply Pick.there)) (by simp) (by simp [Value.oneCell']) fun w h => ?_
        simp only [setFrom, List.set_cons_zero, List.set_cons_succ, List.set_nil] at h
        refine Own.markR (g := mk) (Own.pk h (by repeat (first | with_reducible exact Pick.here | apply Pick.there))) fun w h => ⟨rfl, some ⟨g5, 0, none⟩, N, N, 0, xs ++ List.replicate (N - xs.length) (itZ (⟨#[]⟩ : ByteArray)), RingOk.grown _ (by omega) (by omega) (by omega) (by omega), by omega, ?_⟩
        show Own e w (blk g 171 [.slice (some ⟨g5, 0, none⟩) N N, .int .i64 ((0 : Nat) : Int), .int .i64 (xs.length : Int), .int .i64 (room : Int)] :: sli_string (some ⟨g5, 0, none⟩) N N (xs ++ List.replicate (N - xs.length) (itZ (⟨#[]⟩ : ByteArray))) :: F)
        have h : Own e w (blk g 171 [.slice (some ⟨g5, 0, none⟩) N N, .int .i64 0, .int .i64 (xs.length : Int), .int .i64 (room : Int)] :: sli_string (some ⟨g5, 0, none⟩) N N (xs ++ List.replicate (N - xs.length) (itZ (⟨#[]⟩ : ByteArray))) :: F) := (Own.sub (h) (by repeat (first | with_reducible exact Sub.nil _ | with_reducible exact Sub.rfl _ | (apply Sub.cons; focus ((repeat (first | with_reducible exact Pick.here | apply Pick.there)); done)) | apply Sub.drop)))
        exact h
      · exact h.elim
theorem rnSend_string {x : Itm ByteArray} (h : Own e w (rng_string g xs room :: F)) (hr : room ≤ 65536) : Rets Try.prog 100 #[.pointer (some ⟨g, 0, none⟩), itV Value.string x] w fun v w' => v = .bool (decide (xs.length < room)) ∧ Own e w' (rng_string g (if xs.length < room then xs ++ [x] else xs) room :: F) := by
  refine rg_string_Send_go _ _ _ _ _ _ _ _ _ _ (h.newR fun a w h => ?_)
  have h : Own e w (rng_string g xs room :: blk a 99 (itC Value.string x) :: F) := h.swap
  obtain ⟨q, c, L, fr, buf, hok, h⟩ := ringM.op h
  refine h.drw fun w h => ⟨fun _ => ⟨_, (Own.ld h (by repeat (first | with_reducible exact Pick.here | apply Pick.there)) (by rfl)), _, (Own.ld h (by repeat (first | with_reducible exact Pick.here | apply Pick.there)) (by rfl)), fun hx => ?_, fun hx => ?_⟩, fun hc => (by cases hc)⟩
  · have hx := dec_t hx
    rw [if_neg (by omega), decide_eq_false (by omega)]
    exact ⟨rfl, (ringM.cl hok h).swap.drop⟩
  · have hx := dec_f hx
    rw [if_pos (by omega), decide_eq_true (by omega)]
    refine Rets.mono (rnGrow_string (ringM.cl hok h) hr (by omega)) ?_
    clear h hok
    rintro _ w ⟨rfl, q, c, L, fr, buf, hok, hlt, h⟩
    have hbig := hok.big
    have hfr : fr < L := by rcases hok.fr with h | ⟨h, _⟩ <;> omega
    refine ⟨rfl, h.drw fun w h => ⟨fun w => Own _ w _, h, ?_⟩⟩
    refine ⟨_, _, _, fun w h => Own.ld (g := g) (k := 0) h (by repeat (first | with_reducible exact Pick.here | apply Pick.there)) rfl, _, fun w h => Own.ld (g := g) (k := 2) h (by repeat (first | with_reducible exact Pick.here | apply Pick.there)) rfl, _, _, _, _, _, _, _, _, _, ⟨fun w h => Own.ld (g := a) h (by repeat (first | with_reducible exact Pick.here | apply Pick.there)) rfl, fun w h => Own.ld (g := a) h (by repeat (first | with_reducible exact Pick.here | apply Pick.there)) rfl, fun w h => Own.ld (g := a) h (by repeat (first | with_reducible exact Pick.here | apply Pick.there)) rfl, fun w h => Own.ld (g := a) h (by repeat (first | with_reducible exact Pick.here | apply Pick.there)) rfl, fun w h => Own.ld (g := a) h (by repeat (first | with_reducible exact Pick.here | apply Pick.there)) rfl, fun w h => Own.ld (g := a) h (by repeat (first | with_reducible exact Pick.here | apply Pick.there)) rfl, fun w h => Own.ld (g := a) h (by repeat (first | with_reducible exact Pick.here | apply Pick.there)) rfl, fun w h => Own.ld (g := a) h (by repeat (first | with_reducible exact Pick.here | apply Pick.there)) rfl, fun w h => Own.ld (g := a) h (by repeat (first | with_reducible exact Pick.here | apply Pick.there)) rfl⟩, ?_⟩
    refine Rets.mono (rnPlace_string h (by omega) (by omega)) ?_
    clear h
    rintro _ w ⟨rfl, h⟩
    have hix := rix_lt (L := L) (front := fr) (i := xs.length) (by omega)
    refine ⟨_, rfl, h, by omega, by omega, ?_⟩
    rw [Int.toNat_natCast]
    have hlen := hok.len
    have h : Own e w (slO 99 9 q L c (buf.flatMap (itC Value.string)) :: _) := (Own.pk h (by repeat (first | with_reducible exact Pick.here | apply Pick.there)))
    refine h.slStore (i := rix L fr xs.length * 9) (us := itC Value.string x) (by rw [flat_len (itC_len _), itC_len, hlen]; omega) (by simp) (itC_onex vo_string x) fun w h => ⟨_, Own.ld (g := g) (k := 2) h (by repeat (first | with_reducible exact Pick.here | apply Pick.there)) rfl, Own.stP (g := g) (k := 2) h (by repeat (first | with_reducible exact Pick.here | apply Pick.there)) (by simp) (by simp [Value.oneCell']) fun w h => ⟨rfl, ?_⟩⟩
    rw [flat_set (itC_len Value.string) buf (rix L fr xs.length) x (by omega)] at h
    simp only [setFrom, List.set_cons_zero, List.set_cons_succ, List.set_nil] at h
    rw [wI64 (by omega) (by omega)] at h
    refine ringM.cl (q := q) (c := c) (hok.send (x := x) hlt (by omega)) ?_
    have e2 : ((xs ++ [x]).length : Int) = (xs.length : Int) + 1 := by simp
    rw [e2]
    exact (Own.sub (h) (by repeat (first | with_reducible exact Sub.nil _ | with_reducible exact Sub.rfl _ | (apply Sub.cons; focus ((repeat (first | with_reducible exact Pick.here | apply Pick.there)); done)) | apply Sub.drop)))
theorem rnTake_string (h : Own e w (rng_string g xs room :: F)) : Rets Try.prog 101 #[.pointer (some ⟨g, 0, none⟩)] w fun v w' => v = .tuple #[itV Value.string (xs.head?.getD (itZ (⟨#[]⟩ : ByteArray))), .bool (decide (0 < xs.length))] ∧ Own e w' (rng_string g xs.tail room :: F) := by
  refine rg_string_Take_go _ (h.newR fun a1 w h => ⟨fun _ => ?_, fun hc => (by cases hc)⟩)
  obtain ⟨q, c, L, fr, buf, hok, h⟩ := ringM.op h.swap
  cases xs with
  | nil =>
    refine ⟨_, Own.ld (g := g) (k := 2) h (by repeat (first | with_reducible exact Pick.here | apply Pick.there)) rfl, fun _ => ⟨_, _, _, _, _, _, _, _, _, ⟨Own.ld (g := a1) h (by repeat (first | with_reducible exact Pick.here | apply Pick.there)) rfl, Own.ld (g := a1) h (by repeat (first | with_reducible exact Pick.here | apply Pick.there)) rfl, Own.ld (g := a1) h (by repeat (first | with_reducible exact Pick.here | apply Pick.there)) rfl, Own.ld (g := a1) h (by repeat (first | with_reducible exact Pick.here | apply Pick.there)) rfl, Own.ld (g := a1) h (by repeat (first | with_reducible exact Pick.here | apply Pick.there)) rfl, Own.ld (g := a1) h (by repeat (first | with_reducible exact Pick.here | apply Pick.there)) rfl, Own.ld (g := a1) h (by repeat (first | with_reducible exact Pick.here | apply Pick.there)) rfl, Own.ld (g := a1) h (by repeat (first | with_reducible exact Pick.here | apply Pick.there)) rfl, Own.ld (g := a1) h (by repeat (first | with_reducible exact Pick.here | apply Pick.there)) rfl⟩, Own.stP' (g := a1) h (by repeat (first | with_reducible exact Pick.here | apply Pick.there)) (by simp) (by simp [Value.oneCell']) fun w h => ?_⟩, fun hx => absurd rfl (beq_f hx)⟩
    simp only [setFrom, List.set_cons_zero, List.set_cons_succ, List.set_nil] at h
    have ho := h
    have h : Own e w (blk g 171 [.slice q L c, .int .i64 (fr : Int), .int .i64 ((([] : List (Itm ByteArray)).length : Nat) : Int), .int .i64 (room : Int)] :: slO 99 9 q L c (buf.flatMap (itC Value.string)) :: F) := (Own.sub (h) (by repeat (first | with_reducible exact Sub.nil _ | with_reducible exact Sub.rfl _ | (apply Sub.cons; focus ((repeat (first | with_reducible exact Pick.here | apply Pick.there)); done)) | apply Sub.drop)))
    have h2 := ringM.cl (xs := []) hok h
    have h := ho
    exact ⟨_, _, _, _, _, _, _, _, _, ⟨Own.ld (g := a1) h (by repeat (first | with_reducible exact Pick.here | apply Pick.there)) rfl, Own.ld (g := a1) h (by repeat (first | with_reducible exact Pick.here | apply Pick.there)) rfl, Own.ld (g := a1) h (by repeat (first | with_reducible exact Pick.here | apply Pick.there)) rfl, Own.ld (g := a1) h (by repeat (first | with_reducible exact Pick.here | apply Pick.there)) rfl, Own.ld (g := a1) h (by repeat (first | with_reducible exact Pick.here | apply Pick.there)) rfl, Own.ld (g := a1) h (by repeat (first | with_reducible exact Pick.here | apply Pick.there)) rfl, Own.ld (g := a1) h (by repeat (first | with_reducible exact Pick.here | apply Pick.there)) rfl, Own.ld (g := a1) h (by repeat (first | with_reducible exact Pick.here | apply Pick.there)) rfl, Own.ld (g := a1) h (by repeat (first | with_reducible exact Pick.here | apply Pick.there)) rfl⟩, rfl, h2⟩
  | cons x r =>
    obtain ⟨hfr, hb0, hok2⟩ := hok.take (itZ (⟨#[]⟩ : ByteArray))
    have hbig := hok.big
    have hfit := hok.fit
    have hlen := hok.len
    simp only [List.length_cons] at hfit
    have hbx : buf[fr]'(by omega) = x := by
      rw [List.getElem?_eq_getElem (by omega)] at hb0
      injection hb0
    refine ⟨_, Own.ld (g := g) (k := 2) h (by repeat (first | with_reducible exact Pick.here | apply Pick.there)) rfl, fun hx => ?_, fun hx => ?_⟩
    · have hx := beq_t hx
      simp at hx; omega
    have h : Own e w (slO 99 9 q L c (buf.flatMap (itC Value.string)) :: blk g 171 [.slice q L c, .int .i64 (fr : Int), .int .i64 (((x :: r).length : Nat) : Int), .int .i64 (room : Int)] :: blk a1 99 _ :: F) := h.swap
    obtain ⟨ad, rfl, rd⟩ := sl_adr (i := fr) (by omega) h
    rw [hbx] at rd
    refine h.newR fun a2 w h => ?_
    have h : Own e w (blk a2 99 (itC Value.string (itZ (⟨#[]⟩ : ByteArray))) :: slO 99 9 (some ad) L c (buf.flatMap (itC Value.string)) :: blk g 171 [.slice (some ad) L c, .int .i64 (fr : Int), .int .i64 (((x :: r).length : Nat) : Int), .int .i64 (room : Int)] :: blk a1 99 (itC Value.string (itZ (⟨#[]⟩ : ByteArray))) :: F) := h
    refine h.drw fun w h => ⟨fun w => Own e w (blk a2 99 (itC Value.string (itZ (⟨#[]⟩ : ByteArray))) :: slO 99 9 (some ad) L c (buf.flatMap (itC Value.string)) :: blk g 171 [.slice (some ad) L c, .int .i64 (fr : Int), .int .i64 (((x :: r).length : Nat) : Int), .int .i64 (room : Int)] :: F), (Own.sub (h) (by repeat (first | with_reducible exact Sub.nil _ | with_reducible exact Sub.rfl _ | (apply Sub.cons; focus ((repeat (first | with_reducible exact Pick.here | apply Pick.there)); done)) | apply Sub.drop))), _, _, _, fun w h => Own.ld (g := g) (k := 0) h (by repeat (first | with_reducible exact Pick.here | apply Pick.there)) rfl, _, fun w h => Own.ld (g := g) (k := 1) h (by repeat (first | with_reducible exact Pick.here | apply Pick.there)) rfl, _, _, _, fun w h => Own.ld (g := g) (k := 0) h (by repeat (first | with_reducible exact Pick.here | apply Pick.there)) rfl, _, fun w h => Own.ld (g := g) (k := 1) h (by repeat (first | with_reducible exact Pick.here | apply Pick.there)) rfl, by omega, by omega, smR ⟨_, _, _, _, _, _, _, _, _, ⟨fun w h => rd _ w _ h.drop 0 _ rfl, fun w h => rd _ w _ h.drop 1 _ rfl, fun w h => rd _ w _ h.drop 2 _ rfl, fun w h => rd _ w _ h.drop 3 _ rfl, fun w h => rd _ w _ h.drop 4 _ rfl, fun w h => rd _ w _ h.drop 5 _ rfl, fun w h => rd _ w _ h.drop 6 _ rfl, fun w h => rd _ w _ h.drop 7 _ rfl, fun w h => rd _ w _ h.drop 8 _ rfl⟩, _, _, _, _, _, _, _, _, _, ⟨fun w h => Own.ld (g := a2) h (by repeat (first | with_reducible exact Pick.here | apply Pick.there)) rfl, fun w h => Own.ld (g := a2) h (by repeat (first | with_reducible exact Pick.here | apply Pick.there)) rfl, fun w h => Own.ld (g := a2) h (by repeat (first | with_reducible exact Pick.here | apply Pick.there)) rfl, fun w h => Own.ld (g := a2) h (by repeat (first | with_reducible exact Pick.here | apply Pick.there)) rfl, fun w h => Own.ld (g := a2) h (by repeat (first | with_reducible exact Pick.here | apply Pick.there)) rfl, fun w h => Own.ld (g := a2) h (by repeat (first | with_reducible exact Pick.here | apply Pick.there)) rfl, fun w h => Own.ld (g := a2) h (by repeat (first | with_reducible exact Pick.here | apply Pick.there)) rfl, fun w h => Own.ld (g := a2) h (by repeat (first | with_reducible exact Pick.here | apply Pick.there)) rfl, fun w h => Own.ld (g := a2) h (by repeat (first | with_reducible exact Pick.here | apply Pick.there)) rfl⟩, Own.stP' (g := a1) h (by repeat (first | with_reducible exact Pick.here | apply Pick.there)) (by simp) (by simp [Value.oneCell']) fun w h => ?_⟩⟩
    have h : Own e w (blk a1 99 (itC Value.string x) :: blk a2 99 (itC Value.string (itZ (⟨#[]⟩ : ByteArray))) :: slO 99 9 (some ad) L c (buf.flatMap (itC Value.string)) :: blk g 171 [.slice (some ad) L c, .int .i64 (fr : Int), .int .i64 (((x :: r).length : Nat) : Int), .int .i64 (room : Int)] :: F) := h
    refine ⟨h.drop, by omega, by omega, ?_⟩
    rw [Int.toNat_natCast]
    have h : Own e w (slO 99 9 (some ad) L c (buf.flatMap (itC Value.string)) :: blk g 171 [.slice (some ad) L c, .int .i64 (fr : Int), .int .i64 (((x :: r).length : Nat) : Int), .int .i64 (room : Int)] :: blk a1 99 (itC Value.string x) :: F) := (Own.sub (h) (by repeat (first | with_reducible exact Sub.nil _ | with_reducible exact Sub.rfl _ | (apply Sub.cons; focus ((repeat (first | with_reducible exact Pick.here | apply Pick.there)); done)) | apply Sub.drop)))
    refine h.slStore (i := fr * 9) (us := itC Value.string (itZ (⟨#[]⟩ : ByteArray))) (by rw [flat_len (itC_len _), itC_len, hlen]; omega) (by simp) (itC_onex vo_string _) fun w h => ?_
    rw [flat_set (itC_len Value.string) buf fr (itZ (⟨#[]⟩ : ByteArray)) (by omega)] at h
    have h : Own e w (rnB_string g (some ad) L c fr (x :: r).length room (buf.set fr (itZ (⟨#[]⟩ : ByteArray))) (blk a1 99 (itC Value.string x) :: F)) := h.swap
    refine h.drw fun w h => ⟨fun w => Own e w (rnB_string g (some ad) L c fr (x :: r).length room (buf.set fr (itZ (⟨#[]⟩ : ByteArray))) (blk a1 99 (itC Value.string x) :: F)), h, _, fun w h => Own.ld (g := g) (k := 2) h (by repeat (first | with_reducible exact Pick.here | apply Pick.there)) rfl, ?_⟩
    refine Rets.mono (rnPlace_string (i := 1) h (by omega) (by omega)) ?_
    clear h
    rintro _ w ⟨rfl, h⟩
    refine ⟨_, rfl, h, Own.stP (g := g) (k := 1) h (by repeat (first | with_reducible exact Pick.here | apply Pick.there)) (by simp) (by simp [Value.oneCell']) fun w h => ?_⟩
    simp only [setFrom, List.set_cons_zero, List.set_cons_succ, List.set_nil] at h
    refine Own.stP (g := g) (k := 2) h (by repeat (first | with_reducible exact Pick.here | apply Pick.there)) (by simp) (by simp [Value.oneCell']) fun w h => ?_
    simp only [setFrom, List.set_cons_zero, List.set_cons_succ, List.set_nil] at h
    have e1 : IntKind.wrap .i64 ((((x :: r).length : Nat) : Int) - 1) = ((r.length : Nat) : Int) := by rw [List.length_cons, wI64 (by omega) (by omega)]; omega
    rw [e1] at h
    refine ⟨_, _, _, _, _, _, _, _, _, ⟨Own.ld (g := a1) h (by repeat (first | with_reducible exact Pick.here | apply Pick.there)) rfl, Own.ld (g := a1) h (by repeat (first | with_reducible exact Pick.here | apply Pick.there)) rfl, Own.ld (g := a1) h (by repeat (first | with_reducible exact Pick.here | apply Pick.there)) rfl, Own.ld (g := a1) h (by repeat (first | with_reducible exact Pick.here | apply Pick.there)) rfl, Own.ld (g := a1) h (by repeat (first | with_reducible exact Pick.here | apply Pick.there)) rfl, Own.ld (g := a1) h (by repeat (first | with_reducible exact Pick.here | apply Pick.there)) rfl, Own.ld (g := a1) h (by repeat (first | with_reducible exact Pick.here | apply Pick.there)) rfl, Own.ld (g := a1) h (by repeat (first | with_reducible exact Pick.here | apply Pick.there)) rfl, Own.ld (g := a1) h (by repeat (first | with_reducible exact Pick.here | apply Pick.there)) rfl⟩, Own.stP' (g := a1) h (by repeat (first | with_reducible exact Pick.here | apply Pick.there)) (by simp) (by simp [Value.oneCell']) fun w h => ?_⟩
    simp only [setFrom, List.set_cons_zero, List.set_cons_succ, List.set_nil] at h
    have ho := h
    have h : Own e w (blk g 171 [.slice (some ad) L c, .int .i64 ((rix L fr 1 : Nat) : Int), .int .i64 ((r.length : Nat) : Int), .int .i64 (room : Int)] :: slO 99 9 (some ad) L c ((buf.set fr (itZ (⟨#[]⟩ : ByteArray))).flatMap (itC Value.string)) :: F) := (Own.sub (h) (by repeat (first | with_reducible exact Sub.nil _ | with_reducible exact Sub.rfl _ | (apply Sub.cons; focus ((repeat (first | with_reducible exact Pick.here | apply Pick.there)); done)) | apply Sub.drop)))
    have h2 := ringM.cl (xs := r) hok2 h
    have h := ho
    exact ⟨_, _, _, _, _, _, _, _, _, ⟨Own.ld (g := a1) h (by repeat (first | with_reducible exact Pick.here | apply Pick.there)) rfl, Own.ld (g := a1) h (by repeat (first | with_reducible exact Pick.here | apply Pick.there)) rfl, Own.ld (g := a1) h (by repeat (first | with_reducible exact Pick.here | apply Pick.there)) rfl, Own.ld (g := a1) h (by repeat (first | with_reducible exact Pick.here | apply Pick.there)) rfl, Own.ld (g := a1) h (by repeat (first | with_reducible exact Pick.here | apply Pick.there)) rfl, Own.ld (g := a1) h (by repeat (first | with_reducible exact Pick.here | apply Pick.there)) rfl, Own.ld (g := a1) h (by repeat (first | with_reducible exact Pick.here | apply Pick.there)) rfl, Own.ld (g := a1) h (by repeat (first | with_reducible exact Pick.here | apply Pick.there)) rfl, Own.ld (g := a1) h (by repeat (first | with_reducible exact Pick.here | apply Pick.there)) rfl⟩, rfl, h2⟩
end
end Go.Proofs.Ytipcbhaeoeghnaa.Eng
