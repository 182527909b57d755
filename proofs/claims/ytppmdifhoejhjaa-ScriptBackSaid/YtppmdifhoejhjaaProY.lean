/- ProgReads. -/
import Derived.Test.YtppmdifhoejhjaaProW
namespace Go.Proofs.Ytppmdifhoejhjaa.Eng
open Go Go.RowKit Go.Proofs
set_option linter.unusedVariables false
set_option linter.unusedSimpArgs false
set_option maxRecDepth 1000000
theorem rc13 {bs : List Int} {a : Nat} {k : Int} (hk : tbV bs a = k) (h : k = 1 ∨ k = 3) : rdCall bs a = ([k, (tInt bs (tbA bs a)).1, 0, 0, 0], (tInt bs (tbA bs a)).2) := by
  unfold rdCall; rw [hk]
  rcases h with rfl | rfl <;> rfl
theorem rc2 {bs : List Int} {a a1 a2 a3 a4 : Nat} {v1 v2 v3 v4 : Int} (hk : tbV bs a = 2) (h1 : tInt bs (tbA bs a) = (v1, a1)) (h2 : tInt bs a1 = (v2, a2)) (h3 : tInt bs a2 = (v3, a3)) (h4 : tInt bs a3 = (v4, a4)) : rdCall bs a = ([2, v1, v2, v3, v4], a4) := by
  unfold rdCall; rw [hk]
  show ([1, 2, 3, 4].foldl (cStep bs) ([2, 0, 0, 0, 0], tbA bs a)) = _
  simp only [List.foldl_cons, List.foldl_nil, cStep, h1, h2, h3, h4]
  rfl
theorem rc456 {bs : List Int} {a : Nat} {k : Int} (hk : tbV bs a = k) (h : k = 4 ∨ k = 5 ∨ k = 6) : rdCall bs a = ([k, 0, 0, 0, 0], tbA bs a) := by
  unfold rdCall; rw [hk]
  rcases h with rfl | rfl | rfl <;> rfl
theorem rc7 {bs : List Int} {a : Nat} (hk : tbV bs a = 7) : rdCall bs a = ([7, 0, 0, (tInt bs (tbA bs a)).1, 0], (tInt bs (tbA bs a)).2) := by
  unfold rdCall; rw [hk]; rfl
theorem rc0 {bs : List Int} {a : Nat} (hk : ¬ (1 ≤ tbV bs a ∧ tbV bs a ≤ 7)) : rdCall bs a = ([0, 0, 0, 0, 0], tbA bs a) := by
  unfold rdCall
  by_cases h0 : tbV bs a = 0
  · rw [h0]; rfl
  · rw [if_neg (by unfold knownB; simp; omega)]
section
variable {e w : World} {F : List HP} {g at_ c : Nat} {q : Option Addr} {bs : List Int}
end
end Go.Proofs.Ytppmdifhoejhjaa.Eng
