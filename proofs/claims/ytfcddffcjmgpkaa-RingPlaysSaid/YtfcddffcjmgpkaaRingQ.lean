/- RingPlays. -/
import Derived.Test.YtfcddffcjmgpkaaRingR
namespace Go.Proofs.Ytfcddffcjmgpkaa.Eng
open Go Go.RowKit Go.Proofs
set_option linter.unusedVariables false
set_option linter.unusedSimpArgs false
set_option maxRecDepth 1000000
/-! ### The document's answer -/
abbrev roI (q : Option Addr) (c : Nat) (xs : List Int) : HP := roO 3 q c (xs.map (Value.int .i64))
section
variable {e w : World} {F : List HP} {g : Nat} {xs : List Int} {room : Nat} {q q2 : Option Addr} {n c m c2 : Nat}
theorem qNew_spec {r : Int} (h : Own e w F) : Rets Try.prog 63 #[.int .i64 r] w fun v w' => v = .agg #[.slice none 0 0, .int .i64 ((max 0 (min r 65536)).toNat : Int)] ∧ Own e w' F := by
  refine cortadoref07_New_go _ (h.newR fun g w h => Own.stP' h (by repeat (first | with_reducible exact Pick.here | apply Pick.there)) (by simp) (by simp [Value.oneCell']) fun w h => ?_)
  simp only [setFrom, List.set_cons_zero, List.set_cons_succ, List.set_nil] at h
  rw [maxmin0 (by omega)] at h
  refine ⟨_, _, _, _, ⟨(Own.ld h (by repeat (first | with_reducible exact Pick.here | apply Pick.there)) (by rfl)), (Own.ld h (by repeat (first | with_reducible exact Pick.here | apply Pick.there)) (by rfl))⟩, rfl, h.drop⟩
theorem qSend_spec {x : Int} (h : Own e w (roI q c xs :: F)) (hl : xs.length ≤ 1000) : Rets Try.prog 64 #[.agg #[.slice q xs.length c, .int .i64 (room : Int)], .int .i64 x] w fun v w' =>
    ∃ q' c', v = .tuple #[.agg #[.slice q' (if xs.length < room then xs ++ [x] else xs).length c', .int .i64 (room : Int)], .bool (decide (xs.length < room))] ∧ Own e w' (roI q' c' (if xs.length < room then xs ++ [x] else xs) :: F) := by
  refine cortadoref07_Send_go _ _ _ _ _ ?_
  refine h.newR fun g1 w h => h.newR fun g2 w h => ?_
  refine ⟨_, _, _, (Own.ld h (by repeat (first | with_reducible exact Pick.here | apply Pick.there)) (by rfl)), _, (Own.ld h (by repeat (first | with_reducible exact Pick.here | apply Pick.there)) (by rfl)), fun hx => ?_, fun hx => ?_⟩
  · have hx := dec_t hx
    refine ⟨_, _, _, _, ⟨(Own.ld h (by repeat (first | with_reducible exact Pick.here | apply Pick.there)) (by rfl)), (Own.ld h (by repeat (first | with_reducible exact Pick.here | apply Pick.there)) (by rfl))⟩, Own.stP' h (by repeat (first | with_reducible exact Pick.here | apply Pick.there)) (by simp) (by simp [Value.oneCell']) fun w h => ?_⟩
    simp only [setFrom, List.set_cons_zero, List.set_cons_succ, List.set_nil] at h
    refine ⟨_, _, _, _, ⟨(Own.ld h (by repeat (first | with_reducible exact Pick.here | apply Pick.there)) (by rfl)), (Own.ld h (by repeat (first | with_reducible exact Pick.here | apply Pick.there)) (by rfl))⟩, ?_⟩
    rw [if_neg (by omega), decide_eq_false (by omega)]
    exact ⟨_, _, rfl, (Own.sub (h) (by repeat (first | exact Sub.nil _ | exact Sub.rfl _ | (apply Sub.cons; focus ((repeat (first | with_reducible exact Pick.here | apply Pick.there)); done)) | apply Sub.drop)))⟩
  · have hx := dec_f hx
    rw [if_pos (by omega), decide_eq_true (by omega)]
    refine h.drw fun w h => ⟨fun w => Own _ w _, h, ?_⟩
    refine ⟨_, _, _, (fun w h => (Own.ld h (by repeat (first | with_reducible exact Pick.here | apply Pick.there)) (by rfl))), _, (fun w h => (Own.ld h (by repeat (first | with_reducible exact Pick.here | apply Pick.there)) (by rfl))), ?_⟩
    have app1 : ∀ {kk : Value → World → Prop} {g' : Nat} {R : List HP} {w : World}, Own e w (blk g' 3 [] :: roI q c xs :: R) → (∀ q' c' w', Own e w' (sl_int q' xs.length c' xs :: roI q c xs :: R) → kk (.slice q' xs.length c') w') →
        RunR Try.prog (builtinV .append #[22, 22] 22 #[.slice (some ⟨g', 0, none⟩) 0 0, .slice q xs.length c]) w kk := by
      intro kk g' R w h hk
      have h : Own e w (sl_int (some ⟨g', 0, none⟩) 0 0 [] :: roI q c xs :: R) := Own.slMk (rest := []) rfl (Nat.le_refl _) (by unfold maxLen; omega) rfl h
      refine app_int (xs := []) h h.drop.roRd rfl (by omega) fun q' c' w' h => ?_
      rw [List.nil_append] at h
      simp only [Nat.zero_add] at h ⊢
      exact hk q' c' w' h
    have fin : ∀ (q' : Option Addr) (c' : Nat) w (R : List HP), Own e w (sl_int q' (xs.length + 1) c' (xs ++ [x]) :: R) → Own e w (roI q' c' (xs ++ [x]) :: R) := fun q' c' w R h => h.toRo
    have el : xs.length + 1 = (xs ++ [x]).length := by simp
    refine ⟨h.newR fun g3 w h => ⟨(Own.sub (h) (by repeat (first | exact Sub.nil _ | exact Sub.rfl _ | (apply Sub.cons; focus ((repeat (first | with_reducible exact Pick.here | apply Pick.there)); done)) | apply Sub.drop))), ?_, ?_⟩, h.newR fun g3 w h => ⟨(Own.sub (h) (by repeat (first | exact Sub.nil _ | exact Sub.rfl _ | (apply Sub.cons; focus ((repeat (first | with_reducible exact Pick.here | apply Pick.there)); done)) | apply Sub.drop))), h.newR fun g4 w h => ⟨(Own.sub (h) (by repeat (first | exact Sub.nil _ | exact Sub.rfl _ | (apply Sub.cons; focus ((repeat (first | with_reducible exact Pick.here | apply Pick.there)); done)) | apply Sub.drop))), ?_⟩⟩⟩
    · refine app1 (Own.pk2 h (by repeat (first | with_reducible exact Pick.here | apply Pick.there)) (by repeat (first | with_reducible exact Pick.here | apply Pick.there))) fun q' c' w h => ⟨_, _, _, rfl, (Own.sub (h) (by repeat (first | exact Sub.nil _ | exact Sub.rfl _ | (apply Sub.cons; focus ((repeat (first | with_reducible exact Pick.here | apply Pick.there)); done)) | apply Sub.drop))), h.newR fun g4 w h => ⟨(Own.sub (h) (by repeat (first | exact Sub.nil _ | exact Sub.rfl _ | (apply Sub.cons; focus ((repeat (first | with_reducible exact Pick.here | apply Pick.there)); done)) | apply Sub.drop))), ?_⟩⟩
      refine put_int h (by omega) fun q' c' w h => ⟨_, _, _, rfl, (Own.sub (h) (by repeat (first | exact Sub.nil _ | exact Sub.rfl _ | (apply Sub.cons; focus ((repeat (first | with_reducible exact Pick.here | apply Pick.there)); done)) | apply Sub.drop))), Own.stP' h (by repeat (first | with_reducible exact Pick.here | apply Pick.there)) (by simp) (by simp [Value.oneCell']) fun w h => ?_⟩
      simp only [setFrom, List.set_cons_zero, List.set_cons_succ, List.set_nil] at h
      refine ⟨_, _, _, _, ⟨(Own.ld h (by repeat (first | with_reducible exact Pick.here | apply Pick.there)) (by rfl)), (Own.ld h (by repeat (first | with_reducible exact Pick.here | apply Pick.there)) (by rfl))⟩, q', c', by rw [el], ?_⟩
      have h := fin q' c' w _ (Own.pk h (by repeat (first | with_reducible exact Pick.here | apply Pick.there)))
      exact (Own.sub (h) (by repeat (first | exact Sub.nil _ | exact Sub.rfl _ | (apply Sub.cons; focus ((repeat (first | with_reducible exact Pick.here | apply Pick.there)); done)) | apply Sub.drop)))
    · refine h.newR fun g4 w h => ⟨(Own.sub (h) (by repeat (first | exact Sub.nil _ | exact Sub.rfl _ | (apply Sub.cons; focus ((repeat (first | with_reducible exact Pick.here | apply Pick.there)); done)) | apply Sub.drop))), ?_⟩
      refine app1 (g' := g3) (Own.pk2 h (by repeat (first | with_reducible exact Pick.here | apply Pick.there)) (by repeat (first | with_reducible exact Pick.here | apply Pick.there))) fun q' c' w h => ⟨_, _, _, rfl, (Own.sub (h) (by repeat (first | exact Sub.nil _ | exact Sub.rfl _ | (apply Sub.cons; focus ((repeat (first | with_reducible exact Pick.here | apply Pick.there)); done)) | apply Sub.drop))), ?_⟩
      have h : Own e w (blk g4 3 [.int .i64 x] :: sl_int q' xs.length c' xs :: _) := (Own.pk2 h (by repeat (first | with_reducible exact Pick.here | apply Pick.there)) (by repeat (first | with_reducible exact Pick.here | apply Pick.there)))
      refine put_int h (by omega) fun q' c' w h => ⟨_, _, _, rfl, (Own.sub (h) (by repeat (first | exact Sub.nil _ | exact Sub.rfl _ | (apply Sub.cons; focus ((repeat (first | with_reducible exact Pick.here | apply Pick.there)); done)) | apply Sub.drop))), Own.stP' h (by repeat (first | with_reducible exact Pick.here | apply Pick.there)) (by simp) (by simp [Value.oneCell']) fun w h => ?_⟩
      simp only [setFrom, List.set_cons_zero, List.set_cons_succ, List.set_nil] at h
      refine ⟨_, _, _, _, ⟨(Own.ld h (by repeat (first | with_reducible exact Pick.here | apply Pick.there)) (by rfl)), (Own.ld h (by repeat (first | with_reducible exact Pick.here | apply Pick.there)) (by rfl))⟩, q', c', by rw [el], ?_⟩
      have h := fin q' c' w _ (Own.pk h (by repeat (first | with_reducible exact Pick.here | apply Pick.there)))
      exact (Own.sub (h) (by repeat (first | exact Sub.nil _ | exact Sub.rfl _ | (apply Sub.cons; focus ((repeat (first | with_reducible exact Pick.here | apply Pick.there)); done)) | apply Sub.drop)))
    · refine app1 (g' := g4) (Own.pk2 h (by repeat (first | with_reducible exact Pick.here | apply Pick.there)) (by repeat (first | with_reducible exact Pick.here | apply Pick.there))) fun q' c' w h => ⟨_, _, _, rfl, (Own.sub (h) (by repeat (first | exact Sub.nil _ | exact Sub.rfl _ | (apply Sub.cons; focus ((repeat (first | with_reducible exact Pick.here | apply Pick.there)); done)) | apply Sub.drop))), ?_⟩
      have h : Own e w (blk g3 3 [.int .i64 x] :: sl_int q' xs.length c' xs :: _) := (Own.pk2 h (by repeat (first | with_reducible exact Pick.here | apply Pick.there)) (by repeat (first | with_reducible exact Pick.here | apply Pick.there)))
      refine put_int h (by omega) fun q' c' w h => ⟨_, _, _, rfl, (Own.sub (h) (by repeat (first | exact Sub.nil _ | exact Sub.rfl _ | (apply Sub.cons; focus ((repeat (first | with_reducible exact Pick.here | apply Pick.there)); done)) | apply Sub.drop))), Own.stP' h (by repeat (first | with_reducible exact Pick.here | apply Pick.there)) (by simp) (by simp [Value.oneCell']) fun w h => ?_⟩
      simp only [setFrom, List.set_cons_zero, List.set_cons_succ, List.set_nil] at h
      refine ⟨_, _, _, _, ⟨(Own.ld h (by repeat (first | with_reducible exact Pick.here | apply Pick.there)) (by rfl)), (Own.ld h (by repeat (first | with_reducible exact Pick.here | apply Pick.there)) (by rfl))⟩, q', c', by rw [el], ?_⟩
      have h := fin q' c' w _ (Own.pk h (by repeat (first | with_reducible exact Pick.here | apply Pick.there)))
      exact (Own.sub (h) (by repeat (first | exact Sub.nil _ | exact Sub.rfl _ | (apply Sub.cons; focus ((repeat (first | with_reducible exact Pick.here | apply Pick.there)); done)) | apply Sub.drop)))
theorem qTake_spec (h : Own e w (roI q c xs :: F)) : Rets Try.prog 66 #[.agg #[.slice q xs.length c, .int .i64 (room : Int)]] w fun v w' =>
    ∃ q' c', v = .tuple #[.agg #[.slice q' xs.tail.length c', .int .i64 (room : Int)], .int .i64 (xs.head?.getD 0), .bool (decide (0 < xs.length))] ∧ Own e w' (roI q' c' xs.tail :: F) := by
  refine cortadoref07_Take_go _ _ _ _ ?_
  refine h.newR fun g1 w h => h.newR fun g2 w h => ⟨_, _, _, (Own.ld h (by repeat (first | with_reducible exact Pick.here | apply Pick.there)) (by rfl)), fun hx => ?_, fun hx => ?_⟩
  · have hx := beq_t hx
    obtain rfl : xs = [] := List.eq_nil_of_length_eq_zero (by omega)
    refine ⟨_, _, _, _, ⟨(Own.ld h (by repeat (first | with_reducible exact Pick.here | apply Pick.there)) (by rfl)), (Own.ld h (by repeat (first | with_reducible exact Pick.here | apply Pick.there)) (by rfl))⟩, Own.stP' h (by repeat (first | with_reducible exact Pick.here | apply Pick.there)) (by simp) (by simp [Value.oneCell']) fun w h => ?_⟩
    simp only [setFrom, List.set_cons_zero, List.set_cons_succ, List.set_nil] at h
    refine ⟨_, _, _, _, ⟨(Own.ld h (by repeat (first | with_reducible exact Pick.here | apply Pick.there)) (by rfl)), (Own.ld h (by repeat (first | with_reducible exact Pick.here | apply Pick.there)) (by rfl))⟩, _, _, rfl, (Own.sub (h) (by repeat (first | exact Sub.nil _ | exact Sub.rfl _ | (apply Sub.cons; focus ((repeat (first | with_reducible exact Pick.here | apply Pick.there)); done)) | apply Sub.drop)))⟩
  · have hx := beq_f hx
    cases xs with
    | nil => exact absurd rfl hx
    | cons x r =>
      have h : Own e w (roI q c (x :: r) :: _) := (Own.pk h (by repeat (first | with_reducible exact Pick.here | apply Pick.there)))
      have hle := h.roLe
      simp only [List.length_map, List.length_cons] at hle
      obtain ⟨ad, rfl, hcell⟩ := h.roRd.addr (j := 0) (u := .int .i64 x) rfl
      refine h.drw fun w h => ⟨fun w => Own e w [roI (some ad) c (x :: r), blk g1 85 [.slice (some ad) (x :: r).length c, .int .i64 (room : Int)]], (Own.sub (h) (by repeat (first | exact Sub.nil _ | exact Sub.rfl _ | (apply Sub.cons; focus ((repeat (first | with_reducible exact Pick.here | apply Pick.there)); done)) | apply Sub.drop))), ?_⟩
      refine ⟨_, _, _, (fun w h => (Own.ld h (by repeat (first | with_reducible exact Pick.here | apply Pick.there)) (by rfl))), ?_⟩
      refine ⟨by omega, by simp; omega, _, (fun w h => (Own.ld h (by repeat (first | with_reducible exact Pick.here | apply Pick.there)) (by rfl))), ?_⟩
      refine ⟨_, _, _, (fun w h => (Own.ld h (by repeat (first | with_reducible exact Pick.here | apply Pick.there)) (by rfl))), ?_⟩
      refine ⟨by omega, by simp, x, fun w h => ?_, ?_⟩
      · obtain ⟨ad', ead, hc⟩ := Own.roRd h |>.addr (j := 0) (u := .int .i64 x) rfl
        cases ead
        exact hc 0 _ rfl
      refine Own.stP' h (by repeat (first | with_reducible exact Pick.here | apply Pick.there)) (by simp) (by simp [Value.oneCell']) fun w h => ⟨(Own.sub (h) (by repeat (first | exact Sub.nil _ | exact Sub.rfl _ | (apply Sub.cons; focus ((repeat (first | with_reducible exact Pick.here | apply Pick.there)); done)) | apply Sub.drop))), ?_⟩
      simp only [setFrom, List.set_cons_zero, List.set_cons_succ, List.set_nil] at h
      refine ⟨_, _, _, _, ⟨(Own.ld h (by repeat (first | with_reducible exact Pick.here | apply Pick.there)) (by rfl)), (Own.ld h (by repeat (first | with_reducible exact Pick.here | apply Pick.there)) (by rfl))⟩, slcA (some ad) 1 c 1, c - 1, rfl, ?_⟩
      have h : Own e w (roI (some ad) c (x :: r) :: _) := (Own.pk h (by repeat (first | with_reducible exact Pick.here | apply Pick.there)))
      have h : Own e w (roO 3 (slcA (some ad) 1 c 1) (c - 1) (((x :: r).map (Value.int .i64)).drop 1) :: _) := Own.roDrop (k := 1) (by simp) h
      have h : Own e w (roI (slcA (some ad) 1 c 1) (c - 1) r :: _) := h
      show Own e w (roI (slcA (some ad) 1 c 1) (c - 1) r :: F)
      exact (Own.sub (h) (by repeat (first | exact Sub.nil _ | exact Sub.rfl _ | (apply Sub.cons; focus ((repeat (first | with_reducible exact Pick.here | apply Pick.there)); done)) | apply Sub.drop)))
theorem qAt_spec {i : Int} (h : Own e w (roI q c xs :: F)) : Rets Try.prog 68 #[.agg #[.slice q xs.length c, .int .i64 (room : Int)], .int .i64 i] w fun v w' => v = .tuple #[.int .i64 (if 0 ≤ i then (xs[i.toNat]?).getD 0 else 0), .bool (decide (0 ≤ i ∧ i < xs.length))] ∧ Own e w' (roI q c xs :: F) := by
  refine cortadoref07_At_go _ _ _ _ _ ?_
  refine h.newR fun g1 w h => ⟨fun hi => ?_, fun hi => ?_⟩
  · have hi := dec_f hi
    refine ⟨_, _, _, (Own.ld h (by repeat (first | with_reducible exact Pick.here | apply Pick.there)) (by rfl)), fun hj => ?_, fun hj => ?_⟩
    · have hj := dec_t hj
      rw [if_pos (by omega), List.getElem?_eq_none (by omega), decide_eq_false (by omega)]
      exact ⟨rfl, h.drop⟩
    · have hj := dec_f hj
      obtain ⟨k, rfl⟩ := Int.eq_ofNat_of_zero_le (show 0 ≤ i by omega)
      have hk : k < xs.length := by omega
      refine ⟨_, _, _, (Own.ld h (by repeat (first | with_reducible exact Pick.here | apply Pick.there)) (by rfl)), ?_⟩
      refine ⟨by omega, by omega, RdC.mp (h.drop.roRd) hk fun a ha => ⟨xs[k], by rw [Int.toNat_natCast]; exact ha, ?_, h.drop⟩⟩
      rw [if_pos (by omega), Int.toNat_natCast, List.getElem?_eq_getElem hk, decide_eq_true (by omega)]; rfl
  · have hi := dec_t hi
    rw [if_neg (by omega), decide_eq_false (by omega)]
    exact ⟨rfl, h.drop⟩
theorem qSame_spec (h : Own e w F) (hr : ∀ w, Own e w F → RdC w q (xs.map (Value.int .i64))) (hr2 : ∀ w, Own e w F → RdC w q2 (xs.map (Value.int .i64))) (hl : xs.length ≤ 1000) : Rets Try.prog 70 #[.slice q xs.length c, .slice q2 xs.length c2] w fun v w' => v = .bool true ∧ Own e w' F := by
  refine cortadoref07_Same_go _ _ _ _ _ _ ⟨fun hx => absurd rfl (bool_ne hx), fun _ => ?_⟩
  refine ⟨fun m vs w => ∃ i : Nat, vs = [.int .i64 (i : Int)] ∧ m + i = xs.length ∧ Own e w F, ⟨xs.length, 0, rfl, rfl, h⟩, ?_⟩
  rintro m w v1 n1
  intros
  rename_i hI
  obtain ⟨i, hvs, hm, h⟩ := hI
  obtain rfl : n1 = (i : Int) := by simpa using hvs
  refine ⟨fun hc => ?_, fun hc => ⟨rfl, h⟩⟩
  have hc := dec_t hc
  have hi : i < xs.length := by omega
  refine h.drw fun w h => ⟨by omega, by omega, RdC.mp (hr _ h) hi fun a ha => ⟨by omega, by omega, RdC.mp (hr2 _ h) hi fun a2 ha2 => ⟨_, by rw [Int.toNat_natCast]; exact ha, _, by rw [Int.toNat_natCast]; exact ha2, fun hx => absurd rfl (bool_ne hx), fun _ => ⟨m - 1, by omega, i + 1, by rw [wI64 (by omega) (by omega)]; rfl, by omega, h⟩⟩⟩⟩
theorem qStands_spec (h : Own e w (ring_int g xs room :: F)) (hr : room ≤ 65536) (hrd : ∀ w, Own e w (ring_int g xs room :: F) → RdC w q (xs.map (Value.int .i64))) (hl : xs.length ≤ 1000) : Rets Try.prog 74 #[.pointer (some ⟨g, 0, none⟩), .slice q xs.length c] w fun v w' => v = .bool true ∧ Own e w' (ring_int g xs room :: F) := by
  refine cortadolaw07_stands_go _ _ _ _ ⟨fun m vs w => ∃ i : Nat, vs = [.int .i64 (i : Int)] ∧ m + i = xs.length ∧ Own e w (ring_int g xs room :: F), ⟨xs.length, 0, rfl, rfl, h⟩, ?_⟩
  rintro m w v1 n1
  intros
  rename_i hI
  obtain ⟨i, hvs, hm, h⟩ := hI
  obtain rfl : n1 = (i : Int) := by simpa using hvs
  refine ⟨fun hc => ?_, fun hc => ⟨rfl, h⟩⟩
  have hc := dec_t hc
  have hi : i < xs.length := by omega
  refine Rets.mono (rgAt_int (i := (i : Int)) h hr) ?_
  rintro _ w ⟨rfl, h⟩
  rw [if_pos (by omega), Int.toNat_natCast, List.getElem?_eq_getElem hi, decide_eq_true (by omega)]
  refine ⟨_, _, rfl, fun _ => ⟨by omega, by omega, RdC.mp (hrd _ h) hi fun a ha => ⟨xs[i], ha, fun hx => absurd rfl (bool_ne hx), fun _ => ⟨m - 1, by omega, i + 1, by rw [wI64 (by omega) (by omega)]; rfl, by omega, h⟩⟩⟩, fun hx => (by cases hx)⟩
end
/-! ### The law -/
abbrev encS (s : Int × Int) : List Value := [.int .u64 s.1, .int .i64 s.2]
theorem encS_len (s : Int × Int) : (encS s).length = 2 := rfl
section
variable {W : World} {q : Option Addr} {c : Nat} {ls : List (Int × Int)}
theorem RingPlays_spec {r : Int} (hrw : (Lit.int .i64 r).wf = true) (hb : RdC W q (ls.flatMap encS)) (hm : ls.length ≤ maxLen) (hc : ls.length ≤ c) (hw : ∀ s ∈ ls, (Lit.int .u64 s.1).wf = true ∧ (Lit.int .i64 s.2).wf = true) :
    Rets Try.prog 11 #[.int .i64 r, .slice q ls.length c] W fun v w' => v = .bool true ∧ Below W.heap.size W w' := by
  refine Rets.mono (k := fun v w' => v = .bool true ∧ Own W w' [snap W]) ?_ (fun v w' h => ⟨h.1, h.2.below⟩)
  have h := Own.begin W
  refine cortadolaw07_RingPlays_go _ _ _ _ ?_
  unfold cortadolaw07_RingPlays_m
  refine ⟨fun hc1 => ?_, fun hc1 => ?_⟩
  · refine Rets.mono (rgAwake h) ?_
    rintro _ w ⟨rfl, h⟩
    exact ⟨_, rfl, rfl, h⟩
  have hc1 := dec_f hc1
  refine Rets.mono (rgNew_int h) ?_
  rintro _ w ⟨g, rfl, h⟩
  refine ⟨_, rfl, ?_⟩
  refine Rets.mono (qNew_spec h) ?_
  rintro _ w ⟨rfl, h⟩
  generalize hR : (max 0 (min r 65536)).toNat = room at h ⊢
  have hroom : room ≤ 65536 := by omega
  refine ⟨_, _, _, _, rfl, h.newR fun g1 w h => Own.stP' h (by repeat (first | with_reducible exact Pick.here | apply Pick.there)) (by simp) (by simp [Value.oneCell']) fun w h => ?_⟩
  simp only [setFrom, List.set_cons_zero, List.set_cons_succ, List.set_nil] at h
  let B : List Int → World → Prop := fun xs w => ∃ (qx : Option Addr) (cx : Nat), Own W w (blk g1 85 [.slice qx xs.length cx, .int .i64 (room : Int)] :: roI qx cx xs :: ring_int g xs room :: [snap W])
  have hB0 : B [] w := ⟨none, 0, by
    have h := Own.toRo (Own.slNil (T := 3) (s := 1) h)
    show Own W w (blk g1 85 [.slice none 0 0, .int .i64 (room : Int)] :: roO 3 none 0 [] :: ring_int g [] room :: [snap W])
    exact (Own.sub (h) (by repeat (first | exact Sub.nil _ | exact Sub.rfl _ | (apply Sub.cons; focus ((repeat (first | with_reducible exact Pick.here | apply Pick.there)); done)) | apply Sub.drop)))⟩
  refine ⟨fun m vs w => ∃ (i : Nat) (xs : List Int), vs = [.int .i64 (i : Int)] ∧ m + i = ls.length ∧ xs.length ≤ i ∧ B xs w, ⟨ls.length, 0, [], rfl, rfl, by simp, hB0⟩, ?_⟩
  rintro m w v4 n2
  intros
  rename_i hI
  obtain ⟨i, xs, hvs, hm', hxi, qx, cx, h⟩ := hI
  obtain rfl : n2 = (i : Int) := by simpa using hvs
  have rdB : ∀ {w : World} {R : List HP}, Own W w (roI qx cx xs :: R) → RdC w qx (xs.map (Value.int .i64)) := fun h => h.roRd
  refine ⟨fun hx => ?_, fun hx => ?_⟩
  · have hx := dec_t hx
    have hi : i < ls.length := by omega
    obtain ⟨ad, rfl, hW⟩ := hb.rec encS_len hi (by omega)
    have hk : ∀ w, Own W w [snap W] → cellAt w ((ad.add (Int.toNat (i : Int) * 2)).add 0) (.int .u64 ls[i].1) := fun w h => by rw [Int.toNat_natCast]; exact h.snapCell (hW i hi 0 _ rfl)
    have ha : ∀ w, Own W w [snap W] → cellAt w ((ad.add (Int.toNat (i : Int) * 2)).add 1) (.int .i64 ls[i].2) := fun w h => by rw [Int.toNat_natCast]; exact h.snapCell (hW i hi 1 _ rfl)
    have hkw := wfU64 (hw _ (List.getElem_mem hi)).1
    generalize ls[i].1 = kd at *
    generalize ls[i].2 = x at *
    refine ⟨by omega, by omega, _, hk _ (Own.sub (h) (by repeat (first | exact Sub.nil _ | exact Sub.rfl _ | (apply Sub.cons; focus ((repeat (first | with_reducible exact Pick.here | apply Pick.there)); done)) | apply Sub.drop))), by omega, fun vs w => ∃ xs' : List Int, xs'.length ≤ i + 1 ∧ B xs' w, ⟨fun hy => ?_, fun hy => ⟨fun hz => ?_, fun hz => ⟨fun hu => ?_, fun hu => ?_⟩⟩⟩, ?_⟩
    · -- sent
      refine h.drw fun w h => ⟨fun w => Own W w [blk g1 85 [.slice qx xs.length cx, .int .i64 (room : Int)], snap W], (Own.sub (h) (by repeat (first | exact Sub.nil _ | exact Sub.rfl _ | (apply Sub.cons; focus ((repeat (first | with_reducible exact Pick.here | apply Pick.there)); done)) | apply Sub.drop))), ?_⟩
      refine ⟨by omega, by omega, _, _, _, _, ⟨(fun w h => (Own.ld h (by repeat (first | with_reducible exact Pick.here | apply Pick.there)) (by rfl))), (fun w h => (Own.ld h (by repeat (first | with_reducible exact Pick.here | apply Pick.there)) (by rfl)))⟩, _, fun w h => ha w (Own.sub (h) (by repeat (first | exact Sub.nil _ | exact Sub.rfl _ | (apply Sub.cons; focus ((repeat (first | with_reducible exact Pick.here | apply Pick.there)); done)) | apply Sub.drop))), ?_, ?_⟩
      · have h : Own W w (roI qx cx xs :: _) := (Own.pk h (by repeat (first | with_reducible exact Pick.here | apply Pick.there)))
        refine Rets.mono (qSend_spec (x := x) (room := room) h (by omega)) ?_
        rintro _ w ⟨q', c', rfl, h⟩
        refine ⟨_, _, _, _, _, rfl, (Own.sub (h) (by repeat (first | exact Sub.nil _ | exact Sub.rfl _ | (apply Sub.cons; focus ((repeat (first | with_reducible exact Pick.here | apply Pick.there)); done)) | apply Sub.drop))), h.newR fun g4 w h => ⟨(Own.sub (h) (by repeat (first | exact Sub.nil _ | exact Sub.rfl _ | (apply Sub.cons; focus ((repeat (first | with_reducible exact Pick.here | apply Pick.there)); done)) | apply Sub.drop))), Own.stP' h (by repeat (first | with_reducible exact Pick.here | apply Pick.there)) (by simp) (by simp [Value.oneCell']) fun w h => ⟨(Own.sub (h) (by repeat (first | exact Sub.nil _ | exact Sub.rfl _ | (apply Sub.cons; focus ((repeat (first | with_reducible exact Pick.here | apply Pick.there)); done)) | apply Sub.drop))), by omega, by omega, ?_⟩⟩⟩
        simp only [setFrom, List.set_cons_zero, List.set_cons_succ, List.set_nil] at h
        refine ⟨_, ha _ (Own.sub (h) (by repeat (first | exact Sub.nil _ | exact Sub.rfl _ | (apply Sub.cons; focus ((repeat (first | with_reducible exact Pick.here | apply Pick.there)); done)) | apply Sub.drop))), ?_⟩
        have h : Own W w (ring_int g xs room :: _) := (Own.pk h (by repeat (first | with_reducible exact Pick.here | apply Pick.there)))
        refine Rets.mono (rgSend_int (x := x) h hroom) ?_
        rintro _ w ⟨rfl, h⟩
        refine ⟨_, rfl, fun hv => (by simp at hv), fun _ => ⟨_, _, _, _, ⟨(Own.ld h (by repeat (first | with_reducible exact Pick.here | apply Pick.there)) (by rfl)), (Own.ld h (by repeat (first | with_reducible exact Pick.here | apply Pick.there)) (by rfl))⟩, Own.stP' h (by repeat (first | with_reducible exact Pick.here | apply Pick.there)) (by simp) (by simp [Value.oneCell']) fun w h => ?_⟩⟩
        simp only [setFrom, List.set_cons_zero, List.set_cons_succ, List.set_nil] at h
        exact ⟨if xs.length < room then xs ++ [x] else xs, by split <;> first | (simp; done) | (simp; omega) | omega, q', c', (Own.sub (h) (by repeat (first | exact Sub.nil _ | exact Sub.rfl _ | (apply Sub.cons; focus ((repeat (first | with_reducible exact Pick.here | apply Pick.there)); done)) | apply Sub.drop)))⟩
      · refine h.newR fun g4 w h => ⟨(Own.sub (h) (by repeat (first | exact Sub.nil _ | exact Sub.rfl _ | (apply Sub.cons; focus ((repeat (first | with_reducible exact Pick.here | apply Pick.there)); done)) | apply Sub.drop))), ?_⟩
        have h : Own W w (roI qx cx xs :: _) := (Own.pk h (by repeat (first | with_reducible exact Pick.here | apply Pick.there)))
        refine Rets.mono (qSend_spec (x := x) (room := room) h (by omega)) ?_
        rintro _ w ⟨q', c', rfl, h⟩
        refine ⟨_, _, _, _, _, rfl, (Own.sub (h) (by repeat (first | exact Sub.nil _ | exact Sub.rfl _ | (apply Sub.cons; focus ((repeat (first | with_reducible exact Pick.here | apply Pick.there)); done)) | apply Sub.drop))), Own.stP' h (by repeat (first | with_reducible exact Pick.here | apply Pick.there)) (by simp) (by simp [Value.oneCell']) fun w h => ⟨(Own.sub (h) (by repeat (first | exact Sub.nil _ | exact Sub.rfl _ | (apply Sub.cons; focus ((repeat (first | with_reducible exact Pick.here | apply Pick.there)); done)) | apply Sub.drop))), by omega, by omega, ?_⟩⟩
        simp only [setFrom, List.set_cons_zero, List.set_cons_succ, List.set_nil] at h
        refine ⟨_, ha _ (Own.sub (h) (by repeat (first | exact Sub.nil _ | exact Sub.rfl _ | (apply Sub.cons; focus ((repeat (first | with_reducible exact Pick.here | apply Pick.there)); done)) | apply Sub.drop))), ?_⟩
        have h : Own W w (ring_int g xs room :: _) := (Own.pk h (by repeat (first | with_reducible exact Pick.here | apply Pick.there)))
        refine Rets.mono (rgSend_int (x := x) h hroom) ?_
        rintro _ w ⟨rfl, h⟩
        refine ⟨_, rfl, fun hv => (by simp at hv), fun _ => ⟨_, _, _, _, ⟨(Own.ld h (by repeat (first | with_reducible exact Pick.here | apply Pick.there)) (by rfl)), (Own.ld h (by repeat (first | with_reducible exact Pick.here | apply Pick.there)) (by rfl))⟩, Own.stP' h (by repeat (first | with_reducible exact Pick.here | apply Pick.there)) (by simp) (by simp [Value.oneCell']) fun w h => ?_⟩⟩
        simp only [setFrom, List.set_cons_zero, List.set_cons_succ, List.set_nil] at h
        exact ⟨if xs.length < room then xs ++ [x] else xs, by split <;> first | (simp; done) | (simp; omega) | omega, q', c', (Own.sub (h) (by repeat (first | exact Sub.nil _ | exact Sub.rfl _ | (apply Sub.cons; focus ((repeat (first | with_reducible exact Pick.here | apply Pick.there)); done)) | apply Sub.drop)))⟩
    · -- taken
      refine ⟨_, _, _, _, ⟨(Own.ld h (by repeat (first | with_reducible exact Pick.here | apply Pick.there)) (by rfl)), (Own.ld h (by repeat (first | with_reducible exact Pick.here | apply Pick.there)) (by rfl))⟩, ?_⟩
      have h : Own W w (roI qx cx xs :: _) := (Own.pk h (by repeat (first | with_reducible exact Pick.here | apply Pick.there)))
      refine Rets.mono (qTake_spec (room := room) h) ?_
      rintro _ w ⟨q', c', rfl, h⟩
      refine ⟨_, _, _, _, _, _, rfl, h.newR fun g4 w h => Own.stP' h (by repeat (first | with_reducible exact Pick.here | apply Pick.there)) (by simp) (by simp [Value.oneCell']) fun w h => ?_⟩
      simp only [setFrom, List.set_cons_zero, List.set_cons_succ, List.set_nil] at h
      have h : Own W w (ring_int g xs room :: _) := (Own.pk h (by repeat (first | with_reducible exact Pick.here | apply Pick.there)))
      refine Rets.mono (rgTake_int h) ?_
      rintro _ w ⟨rfl, h⟩
      refine ⟨_, _, rfl, fun _ => ⟨fun hv => (by simp at hv), fun _ => ⟨_, _, _, _, ⟨(Own.ld h (by repeat (first | with_reducible exact Pick.here | apply Pick.there)) (by rfl)), (Own.ld h (by repeat (first | with_reducible exact Pick.here | apply Pick.there)) (by rfl))⟩, Own.stP' h (by repeat (first | with_reducible exact Pick.here | apply Pick.there)) (by simp) (by simp [Value.oneCell']) fun w h => ?_⟩⟩, fun hv => absurd rfl (bool_ne hv)⟩
      simp only [setFrom, List.set_cons_zero, List.set_cons_succ, List.set_nil] at h
      exact ⟨xs.tail, by simp; omega, q', c', (Own.sub (h) (by repeat (first | exact Sub.nil _ | exact Sub.rfl _ | (apply Sub.cons; focus ((repeat (first | with_reducible exact Pick.here | apply Pick.there)); done)) | apply Sub.drop)))⟩
    · -- asked for
      refine h.drw fun w h => ⟨by omega, by omega, _, _, _, _, ⟨(Own.ld h (by repeat (first | with_reducible exact Pick.here | apply Pick.there)) (by rfl)), (Own.ld h (by repeat (first | with_reducible exact Pick.here | apply Pick.there)) (by rfl))⟩, _, ha _ (Own.sub (h) (by repeat (first | exact Sub.nil _ | exact Sub.rfl _ | (apply Sub.cons; focus ((repeat (first | with_reducible exact Pick.here | apply Pick.there)); done)) | apply Sub.drop))), ?_⟩
      have h : Own W w (roI qx cx xs :: _) := (Own.pk h (by repeat (first | with_reducible exact Pick.here | apply Pick.there)))
      refine Rets.mono (qAt_spec (i := x) (room := room) h) ?_
      rintro _ w ⟨rfl, h⟩
      refine ⟨_, _, rfl, by omega, by omega, _, ha _ (Own.sub (h) (by repeat (first | exact Sub.nil _ | exact Sub.rfl _ | (apply Sub.cons; focus ((repeat (first | with_reducible exact Pick.here | apply Pick.there)); done)) | apply Sub.drop))), ?_⟩
      have h : Own W w (ring_int g xs room :: _) := (Own.pk h (by repeat (first | with_reducible exact Pick.here | apply Pick.there)))
      refine Rets.mono (rgAt_int (i := x) h hroom) ?_
      rintro _ w ⟨rfl, h⟩
      refine ⟨_, _, rfl, fun _ => ⟨fun hv => (by simp at hv), fun _ => ⟨xs, by omega, qx, cx, (Own.sub (h) (by repeat (first | exact Sub.nil _ | exact Sub.rfl _ | (apply Sub.cons; focus ((repeat (first | with_reducible exact Pick.here | apply Pick.there)); done)) | apply Sub.drop)))⟩⟩, fun hv => absurd rfl (bool_ne hv)⟩
    · -- drained
      refine h.drw fun w h => ⟨by omega, by omega, _, ha _ (Own.sub (h) (by repeat (first | exact Sub.nil _ | exact Sub.rfl _ | (apply Sub.cons; focus ((repeat (first | with_reducible exact Pick.here | apply Pick.there)); done)) | apply Sub.drop))), _, _, _, (Own.ld h (by repeat (first | with_reducible exact Pick.here | apply Pick.there)) (by rfl)), ?_⟩
      refine h.drw fun w h => ⟨fun w => Own W w [blk g1 85 [.slice qx xs.length cx, .int .i64 (room : Int)], snap W], (Own.sub (h) (by repeat (first | exact Sub.nil _ | exact Sub.rfl _ | (apply Sub.cons; focus ((repeat (first | with_reducible exact Pick.here | apply Pick.there)); done)) | apply Sub.drop))), ?_⟩
      have hle : xs.length ≤ cx := by
        have h : Own W w (roI qx cx xs :: _) := (Own.pk h (by repeat (first | with_reducible exact Pick.here | apply Pick.there)))
        have := h.roLe; simpa using this
      have hn0 : 0 ≤ maxI (0 : Int) (minI x (xs.length : Nat)) ∧ maxI (0 : Int) (minI x (xs.length : Nat)) ≤ (xs.length : Nat) := by unfold maxI minI; split <;> split <;> omega
      refine ⟨by omega, by omega, _, fun w h => ha w (Own.sub (h) (by repeat (first | exact Sub.nil _ | exact Sub.rfl _ | (apply Sub.cons; focus ((repeat (first | with_reducible exact Pick.here | apply Pick.there)); done)) | apply Sub.drop))), _, _, _, (fun w h => (Own.ld h (by repeat (first | with_reducible exact Pick.here | apply Pick.there)) (by rfl))), by omega, by omega, ?_⟩
      have h : Own W w (ring_int g xs room :: _) := (Own.pk h (by repeat (first | with_reducible exact Pick.here | apply Pick.there)))
      refine Rets.mono (drained_spec (most := x) h (by omega)) ?_
      rintro _ w ⟨n, q', c', hn, rfl, h⟩
      rw [← hn] at hn0 ⊢
      rw [Int.toNat_natCast, Nat.sub_zero]
      have eln : n = (xs.take n).length := by simp; omega
      refine ⟨_, _, _, rfl, (Own.sub (h) (by repeat (first | exact Sub.nil _ | exact Sub.rfl _ | (apply Sub.cons; focus ((repeat (first | with_reducible exact Pick.here | apply Pick.there)); done)) | apply Sub.drop))), ?_⟩
      have hr2 : ∀ w, Own W w (sl_int q' (xs.take n).length c' (xs.take n) :: ring_int g (xs.drop n) room :: [roI qx cx xs, blk g1 85 [.slice qx xs.length cx, .int .i64 (room : Int)], snap W]) → RdC w (slcA qx 0 cx 1) ((xs.take n).map (Value.int .i64)) := fun w h => by
        have h1 : RdC w qx (xs.map (Value.int .i64)) := (h.drop.drop).roRd
        have e3 : xs.map (Value.int .i64) = (xs.take n).map (Value.int .i64) ++ (xs.drop n).map (Value.int .i64) := by rw [← List.map_append, List.take_append_drop]
        rcases h1.slice (l := 0) (m := cx) (z := 1) (by omega) with h2 | h2
        · rw [Nat.zero_mul, List.drop_zero, e3] at h2
          exact h2.pre
        · left
          have : xs = [] := List.eq_nil_of_length_eq_zero (by omega)
          rw [this]; simp
      have h' : Own W w (sl_int q' (xs.take n).length c' (xs.take n) :: ring_int g (xs.drop n) room :: [roI qx cx xs, blk g1 85 [.slice qx xs.length cx, .int .i64 (room : Int)], snap W]) := (Own.sub (h) (by repeat (first | exact Sub.nil _ | exact Sub.rfl _ | (apply Sub.cons; focus ((repeat (first | with_reducible exact Pick.here | apply Pick.there)); done)) | apply Sub.drop)))
      have hS := qSame_spec (c := c') (c2 := cx) h' (fun w h => h.slRd) hr2 (by omega)
      rw [← eln] at hS ⊢
      refine Rets.mono hS ?_
      rintro _ w ⟨rfl, h⟩
      refine ⟨_, rfl, fun hv => (by cases hv), fun _ => ⟨_, _, _, (Own.ld h (by repeat (first | with_reducible exact Pick.here | apply Pick.there)) (by rfl)), by omega, by omega, Own.stP h (by repeat (first | with_reducible exact Pick.here | apply Pick.there)) (by simp) (by simp [Value.oneCell']) fun w h => ?_⟩⟩
      simp only [setFrom, List.set_cons_zero, List.set_cons_succ, List.set_nil] at h
      refine ⟨xs.drop n, by simp; omega, slcA qx n cx 1, cx - n, ?_⟩
      have h : Own W w (roI qx cx xs :: _) := (Own.pk h (by repeat (first | with_reducible exact Pick.here | apply Pick.there)))
      have h : Own W w (roO 3 (slcA qx n cx 1) (cx - n) ((xs.map (Value.int .i64)).drop n) :: _) := Own.roDrop (k := n) (by simp; omega) h
      rw [← List.map_drop] at h
      rw [List.length_drop]
      exact (Own.sub (h) (by repeat (first | exact Sub.nil _ | exact Sub.rfl _ | (apply Sub.cons; focus ((repeat (first | with_reducible exact Pick.here | apply Pick.there)); done)) | apply Sub.drop)))
    · rintro w
      intros
      rename_i hJ
      obtain ⟨xs', hxl, qy, cy, h⟩ := hJ
      refine h.drw fun w h => ⟨fun w => Own _ w _, h, ?_⟩
      refine ⟨_, _, _, (fun w h => (Own.ld h (by repeat (first | with_reducible exact Pick.here | apply Pick.there)) (by rfl))), ?_⟩
      have h' : Own W w (ring_int g xs' room :: _) := (Own.pk h (by repeat (first | with_reducible exact Pick.here | apply Pick.there)))
      refine Rets.mono (rgLen_int h') ?_
      rintro _ w ⟨rfl, h⟩
      refine ⟨_, rfl, (Own.sub (h) (by repeat (first | exact Sub.nil _ | exact Sub.rfl _ | (apply Sub.cons; focus ((repeat (first | with_reducible exact Pick.here | apply Pick.there)); done)) | apply Sub.drop))), fun _ => ?_, fun hv => absurd rfl (bool_ne hv)⟩
      refine ⟨_, (fun w h => (Own.ld h (by repeat (first | with_reducible exact Pick.here | apply Pick.there)) (by rfl))), ?_⟩
      refine Rets.mono (rgRoom_int h) ?_
      rintro _ w ⟨rfl, h⟩
      refine ⟨_, rfl, (Own.sub (h) (by repeat (first | exact Sub.nil _ | exact Sub.rfl _ | (apply Sub.cons; focus ((repeat (first | with_reducible exact Pick.here | apply Pick.there)); done)) | apply Sub.drop))), fun _ => ?_, fun hv => absurd rfl (bool_ne hv)⟩
      refine ⟨_, _, _, (fun w h => (Own.ld h (by repeat (first | with_reducible exact Pick.here | apply Pick.there)) (by rfl))), ?_⟩
      refine Rets.mono (qStands_spec (q := qy) (c := cy) h hroom (fun w h => Own.roRd (E := 3) (c := cy) (Own.pk h (by repeat (first | with_reducible exact Pick.here | apply Pick.there)))) (by omega)) ?_
      rintro _ w ⟨rfl, h⟩
      exact ⟨_, rfl, fun hv => (by cases hv), fun _ => ⟨m - 1, by omega, i + 1, xs', by rw [wI64 (by omega) (by omega)]; rfl, by omega, hxl, qy, cy, (Own.sub (h) (by repeat (first | exact Sub.nil _ | exact Sub.rfl _ | (apply Sub.cons; focus ((repeat (first | with_reducible exact Pick.here | apply Pick.there)); done)) | apply Sub.drop)))⟩⟩
  · have hx := dec_f hx
    refine h.drw fun w h => ⟨fun w => Own _ w _, h, ?_⟩
    refine ⟨_, _, _, (fun w h => (Own.ld h (by repeat (first | with_reducible exact Pick.here | apply Pick.there)) (by rfl))), ?_⟩
    have h' : Own W w (ring_int g xs room :: _) := (Own.pk h (by repeat (first | with_reducible exact Pick.here | apply Pick.there)))
    refine Rets.mono (told_spec (most := 50) h' hroom (by omega) (by omega)) ?_
    rintro _ w ⟨q', c', rfl, h⟩
    refine ⟨_, _, _, rfl, (Own.sub (h) (by repeat (first | exact Sub.nil _ | exact Sub.rfl _ | (apply Sub.cons; focus ((repeat (first | with_reducible exact Pick.here | apply Pick.there)); done)) | apply Sub.drop))), ?_⟩
    refine Rets.mono (qSame_spec h (fun w h => h.slRd) (fun w h => Own.roRd (E := 3) (c := cx) (Own.pk h (by repeat (first | with_reducible exact Pick.here | apply Pick.there)))) (by omega)) ?_
    rintro _ w ⟨rfl, h⟩
    refine ⟨_, rfl, fun _ => ?_, fun hv => (by cases hv)⟩
    refine Rets.mono (rgAwake h) ?_
    rintro _ w ⟨rfl, h⟩
    exact ⟨_, rfl, rfl, (Own.sub (h) (by repeat (first | exact Sub.nil _ | exact Sub.rfl _ | (apply Sub.cons; focus ((repeat (first | with_reducible exact Pick.here | apply Pick.there)); done)) | apply Sub.drop)))⟩
end
end Go.Proofs.Ytfcddffcjmgpkaa.Eng
