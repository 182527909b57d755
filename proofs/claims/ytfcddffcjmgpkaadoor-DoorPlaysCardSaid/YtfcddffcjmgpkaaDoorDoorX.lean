/- DoorPlays: the document's Put. -/
import Derived.Test.YtfcddffcjmgpkaaDoorDoorV
namespace Go.Proofs.YtfcddffcjmgpkaaDoor.Eng
open Go Go.RowKit Go.Proofs
set_option linter.unusedVariables false
set_option linter.unusedSimpArgs false
set_option maxRecDepth 1000000
section
variable {e w : World} {F : List HP} {s hh : Int} {q q2 : Option Addr} {n c c2 m : Nat} {ws : List Nat} {xs ys : List Bool}
theorem appBl {k : Value → World → Prop} (h : Own e w (blB q n c xs :: F)) (hr : RdC w q2 (ys.map Value.bool)) (hl : ys.length = m) (hn : n + m ≤ 2000000)
    (hk : ∀ q' c' w', Own e w' (blB q' (n + m) c' (xs ++ ys) :: F) → k (.slice q' (n + m) c') w') :
    RunR Tryd.prog (builtinV .append #[27, 27] 27 #[.slice q n c, .slice q2 m c2]) w k := by
  refine Own.append (z := [.bool false]) (b := 1) (news := ys.map Value.bool) h (by kernel_rfl) (by kernel_rfl) (by kernel_rfl) (by kernel_rfl) (by kernel_rfl) (by omega) hr ?_ ?_ ?_ (by omega) ?_
  · simp; omega
  · intro u hu
    obtain ⟨b, _, rfl⟩ := List.mem_map.1 hu
    rfl
  · unfold maxLen; omega
  · intro q' c' w' h _
    rw [← List.map_append] at h
    exact hk q' c' w' h
theorem clBl {k : Value → World → Prop} {g : Nat} (h : Own e w (blk g 4 [] :: F)) (hr : RdC w q2 (ys.map Value.bool)) (hl : ys.length = m) (hn : m ≤ 2000000)
    (hk : ∀ q' c' w', Own e w' (blB q' m c' ys :: F) → k (.slice q' m c') w') :
    RunR Tryd.prog (builtinV .append #[27, 27] 27 #[.slice (some ⟨g, 0, none⟩) 0 0, .slice q2 m c2]) w k := by
  have h0 : Own e w (blB (some ⟨g, 0, none⟩) 0 0 [] :: F) := Own.slMk (rest := []) (by rfl) (by omega) (by omega) (by rfl) h
  refine appBl h0 hr hl (by omega) fun q' c' w' h => ?_
  rw [List.nil_append] at h
  simp only [Nat.zero_add] at h ⊢
  exact hk q' c' w' h
theorem rdPut (hm20 : m ≤ 20) (hs : M64 s) (hl : ws.length = (2 ^ m + 63) / 64) (h : Own e w (blB q (2 ^ m) c (rl (2 ^ m) ws) :: F)) :
    Rets Tryd.prog 13 #[.agg #[.slice q (2 ^ m) c, .int .u64 s], .int .u64 hh] w fun v w' => ∃ q' c', v = .tuple #[.agg #[.slice q' (2 ^ m) c', .int .u64 s], .bool (!hasB (mixI s) hh (2 ^ m) ws)] ∧ Own e w' (blB q' (2 ^ m) c' (rl (2 ^ m) (putB (mixI s) hh (2 ^ m) ws)) :: F) := by
  obtain ⟨p1, p2⟩ := p20 hm20
  refine cortadoref12_Put_go _ _ _ _ _ (h.newR fun g1 w h => h.newR fun g2 w h => ⟨_, _, _, _, ⟨Own.ld (g := g1) h (by repeat (first | with_reducible exact Pick.here | apply Pick.there)) rfl, Own.ld (g := g1) h (by repeat (first | with_reducible exact Pick.here | apply Pick.there)) rfl⟩, ?_⟩)
  refine Rets.mono (rdHas (ws := ws) hm20 hs (fun w h => Own.rdP (T := 4) (q := q) h (by repeat (first | with_reducible exact Pick.here | apply Pick.there))) h) ?_
  clear h
  rintro _ w ⟨rfl, h⟩
  obtain ⟨t, ht⟩ : ∃ t, t = mixI s := ⟨_, rfl⟩
  rw [← ht]
  refine ⟨_, rfl, fun hx => ?_, fun hx => ?_⟩
  · refine ⟨_, _, _, _, ⟨Own.ld (g := g1) h (by repeat (first | with_reducible exact Pick.here | apply Pick.there)) rfl, Own.ld (g := g1) h (by repeat (first | with_reducible exact Pick.here | apply Pick.there)) rfl⟩, Own.stP' (g := g2) h (by repeat (first | with_reducible exact Pick.here | apply Pick.there)) (by simp) (by simp [Value.oneCell']) fun w h => ?_⟩
    simp only [setFrom, List.set_cons_zero, List.set_cons_succ, List.set_nil] at h
    have e1 : putB t hh (2 ^ m) ws = ws := by unfold putB; rw [if_pos hx]
    rw [e1, hx]
    exact ⟨_, _, _, _, ⟨Own.ld (g := g2) h (by repeat (first | with_reducible exact Pick.here | apply Pick.there)) rfl, Own.ld (g := g2) h (by repeat (first | with_reducible exact Pick.here | apply Pick.there)) rfl⟩, _, _, rfl, h.drop.drop⟩
  have e1 : putB t hh (2 ^ m) ws = ptW t hh (2 ^ m) ws 4 := by unfold putB; rw [if_neg (by rw [hx]; simp)]
  rw [e1, hx]
  let R : List HP := blk g2 29 [.slice none 0 0, .int .u64 0] :: blk g1 29 [.slice q (2 ^ m) c, .int .u64 s] :: blB q (2 ^ m) c (rl (2 ^ m) ws) :: F
  have h : Own e w R := h
  have hrd : ∀ w, Own e w R → RdC w q ((rl (2 ^ m) ws).map Value.bool) := fun w h => Own.rdP (T := 4) (q := q) h (by repeat (first | with_reducible exact Pick.here | apply Pick.there))
  have hll := rl_len (2 ^ m) ws
  refine ⟨fun vs w => ∃ g3 q' c', vs = [.pointer (some ⟨g3, 0, none⟩)] ∧ Own e w (blk g3 29 [.slice q' (2 ^ m) c', .int .u64 s] :: blB q' (2 ^ m) c' (rl (2 ^ m) ws) :: R), ?_, ?_⟩
  · refine h.drw fun w h => ⟨fun w => Own e w R, h, _, _, _, fun w h => Own.ld (g := g1) h (by repeat (first | with_reducible exact Pick.here | apply Pick.there)) rfl, _, fun w h => Own.ld (g := g1) h (by repeat (first | with_reducible exact Pick.here | apply Pick.there)) rfl, h.newR fun g3 w h => ⟨h.drop, ?_, ?_⟩, h.newR fun g3 w h => ⟨h.drop, h.newR fun g4 w h => ⟨h.drop.drop, ?_⟩⟩⟩
    · refine clBl h (hrd _ h.drop) hll (by omega) fun q' c' w h => ⟨_, _, _, rfl, h.drop, h.newR fun g4 w h => ⟨h.drop.drop, Own.stP' (g := g4) h (by repeat (first | with_reducible exact Pick.here | apply Pick.there)) (by simp) (by simp [Value.oneCell']) fun w h => ?_⟩⟩
      simp only [setFrom, List.set_cons_zero, List.set_cons_succ, List.set_nil] at h
      exact ⟨_, _, _, rfl, h⟩
    · refine h.newR fun g4 w h => ⟨h.drop.drop, clBl h.swap (hrd _ h.drop.drop) hll (by omega) fun q' c' w h => ⟨_, _, _, rfl, h.drop.drop, Own.stP' (g := g4) h (by repeat (first | with_reducible exact Pick.here | apply Pick.there)) (by simp) (by simp [Value.oneCell']) fun w h => ?_⟩⟩
      simp only [setFrom, List.set_cons_zero, List.set_cons_succ, List.set_nil] at h
      exact ⟨_, _, _, rfl, h⟩
    · refine clBl h (hrd _ h.drop.drop) hll (by omega) fun q' c' w h => ⟨_, _, _, rfl, h.drop.drop, Own.stP' (g := g3) h (by repeat (first | with_reducible exact Pick.here | apply Pick.there)) (by simp) (by simp [Value.oneCell']) fun w h => ?_⟩
      simp only [setFrom, List.set_cons_zero, List.set_cons_succ, List.set_nil] at h
      exact ⟨_, _, _, rfl, h⟩
  clear h
  rintro w q8
  intros
  rename_i hI
  obtain ⟨g3, q', c', hvs, h⟩ := hI
  obtain rfl : q8 = some ⟨g3, 0, none⟩ := by simpa using hvs
  refine ⟨_, _, _, _, ⟨Own.ld (g := g1) h (by repeat (first | with_reducible exact Pick.here | apply Pick.there)) rfl, Own.ld (g := g1) h (by repeat (first | with_reducible exact Pick.here | apply Pick.there)) rfl⟩, ?_⟩
  refine Rets.mono (rdPlaces (hh := hh) hm20 hs h) ?_
  clear h
  rintro _ w ⟨qp, cp, rfl, h⟩
  rw [← ht] at h
  have h : Own e w (blB q' (2 ^ m) c' (rl (2 ^ m) ws) :: inB qp 4 cp (plL t hh (2 ^ m) 4) :: blk g3 29 [.slice q' (2 ^ m) c', .int .u64 s] :: blk g2 29 [.slice none 0 0, .int .u64 0] :: F) := (Own.sub (h) (by repeat (first | exact Sub.nil _ | exact Sub.rfl _ | (apply Sub.cons; focus ((repeat (first | with_reducible exact Pick.here | apply Pick.there)); done)) | apply Sub.drop)))
  refine ⟨_, _, _, rfl, fun k vs w => ∃ i : Nat, vs = [.int .i64 (i : Int)] ∧ k + i = 4 ∧ Own e w (blB q' (2 ^ m) c' (rl (2 ^ m) (ptW t hh (2 ^ m) ws i)) :: inB qp 4 cp (plL t hh (2 ^ m) 4) :: blk g3 29 [.slice q' (2 ^ m) c', .int .u64 s] :: blk g2 29 [.slice none 0 0, .int .u64 0] :: F), ⟨4, 0, rfl, rfl, h⟩, ?_⟩
  clear h hrd
  rintro k w n6
  intros
  rename_i hI
  obtain ⟨i, hvs, hk, h⟩ := hI
  obtain rfl : n6 = (i : Int) := by simpa using hvs
  refine ⟨fun hc => ?_, fun hc => ?_⟩
  · have hc := dec_t hc
    have hi : i < 4 := by omega
    have hpl := plN_lt (s := t) (h := hh) (i := i) p1
    have hnext : rl (2 ^ m) (ptW t hh (2 ^ m) ws (i + 1)) = (rl (2 ^ m) (ptW t hh (2 ^ m) ws i)).set (plN t hh (2 ^ m) i) true := rl_set hpl (by rw [ptW_len, hl]; omega)
    obtain ⟨W, hW⟩ : ∃ W, W = rl (2 ^ m) (ptW t hh (2 ^ m) ws i) := ⟨_, rfl⟩
    have hWl : W.length = 2 ^ m := by rw [hW, rl_len]
    rw [← hW] at h hnext
    refine h.drw fun w h => smR ⟨by omega, by omega, (Own.rdP (T := 3) (q := qp) h (by repeat (first | with_reducible exact Pick.here | apply Pick.there))).int (i := i) (by simp [plL]; exact hi) fun a ha => ⟨_, _, _, Own.ld (g := g3) h (by repeat (first | with_reducible exact Pick.here | apply Pick.there)) rfl, (plN t hh (2 ^ m) i : Int), ?_, by omega, by omega, ?_⟩⟩
    · rw [Int.toNat_natCast, ← plL_get hi]; exact ha
    rw [Int.toNat_natCast, Nat.mul_one]
    refine h.slStore (i := plN t hh (2 ^ m) i) (us := [.bool true]) (by simp; omega) (by simp) (by simp [Value.oneCell']) fun w h => ⟨k - 1, by omega, i + 1, by rw [wI64 (by omega) (by omega)]; rfl, by omega, ?_⟩
    have e5 : setFrom (W.map Value.bool) (plN t hh (2 ^ m) i) [.bool true] = (W.set (plN t hh (2 ^ m) i) true).map Value.bool := by simp [setFrom]
    rw [e5, ← hnext] at h
    exact h
  · have hc := dec_f hc
    obtain rfl : i = 4 := by omega
    refine smR ⟨_, _, _, _, ⟨Own.ld (g := g3) h (by repeat (first | with_reducible exact Pick.here | apply Pick.there)) rfl, Own.ld (g := g3) h (by repeat (first | with_reducible exact Pick.here | apply Pick.there)) rfl⟩, Own.stP' (g := g2) h (by repeat (first | with_reducible exact Pick.here | apply Pick.there)) (by simp) (by simp [Value.oneCell']) fun w h => ?_⟩
    simp only [setFrom, List.set_cons_zero, List.set_cons_succ, List.set_nil] at h
    exact ⟨_, _, _, _, ⟨Own.ld (g := g2) h (by repeat (first | with_reducible exact Pick.here | apply Pick.there)) rfl, Own.ld (g := g2) h (by repeat (first | with_reducible exact Pick.here | apply Pick.there)) rfl⟩, _, _, rfl, (Own.sub (h) (by repeat (first | exact Sub.nil _ | exact Sub.rfl _ | (apply Sub.cons; focus ((repeat (first | with_reducible exact Pick.here | apply Pick.there)); done)) | apply Sub.drop)))⟩
end
end Go.Proofs.YtfcddffcjmgpkaaDoor.Eng
