/- Any two numbers added, which numbers are costs, and the nearest cost of any number are as the document tells; no condition. -/
import Derived.Test.YtjmlahdnbedkcaaPCostAddsx1
import Derived.Test.YtjmlahdnbedkcaaWd
namespace Go.Proofs.Ytjmlahdnbedkcaa.Pure
open Go.RowKit Go.Proofs.Ytjmlahdnbedkcaa.PCostAdds Go.Proofs.YtjmlahdnbedkcaaW.PrintWords Go.Proofs.YtjmlahdnbedkcaaW.PrintLast Go.Proofs.YtjmlahdnbedkcaaW.PrintMore Go.Proofs.Ytjmlahdnbedkcaa.Wd
namespace CostL
/-- The sum of two costs, as the document tells it. -/
def sadd (a b : Int) : Int × Bool := if 0 ≤ a ∧ a ≤ 4611686018427387904 ∧ 0 ≤ b ∧ b ≤ 4611686018427387904 ∧ a + b ≤ 4611686018427387904 then (a + b, true) else (0, false)
theorem right_f (a : Int) : cost_Right.f a = some (decide (0 ≤ a ∧ a ≤ 4611686018427387904)) := by
  unfold cost_Right.f
  by_cases h : a ≥ 0
  · rw [if_pos h]; simp [show 0 ≤ a from h]
  · rw [if_neg h]; simp; omega
theorem rright_f (a : Int) : cortadoref02_Right.f a = some (decide (0 ≤ a ∧ a ≤ 4611686018427387904)) := by
  unfold cortadoref02_Right.f
  by_cases h : a ≥ 0
  · rw [if_pos h]; simp [show 0 ≤ a from h]
  · rw [if_neg h]; simp; omega
theorem add_f (a b : Int) : cost_Add.f a b = some (sadd a b) := by
  unfold cost_Add.f sadd
  rw [right_f]
  simp only [Option.bind_some]
  by_cases h1 : 0 ≤ a ∧ a ≤ 4611686018427387904
  · rw [if_pos (by simpa using h1), right_f]
    simp only [Option.bind_some]
    by_cases h2 : 0 ≤ b ∧ b ≤ 4611686018427387904
    · rw [if_pos (by simpa using h2)]
      have e1 : wrap64 (4611686018427387904 - b) = 4611686018427387904 - b := by unfold wrap64; omega
      rw [e1]
      by_cases h3 : a > 4611686018427387904 - b
      · rw [if_pos h3, if_neg (by omega)]
      · have e2 : wrap64 (a + b) = a + b := by unfold wrap64; omega
        rw [if_neg h3, if_pos (by omega), e2]
    · rw [if_neg (by simpa using h2), if_neg (by omega)]
  · rw [if_neg (by simpa using h1), if_neg (by omega)]
theorem radd_f (k : Nat) (a b : Int) : cortadoref02_Add.f (k + 1) a b = some (sadd a b) := by
  unfold cortadoref02_Add.f sadd
  rw [rright_f]
  simp only [Option.bind_some]
  by_cases h1 : 0 ≤ a ∧ a ≤ 4611686018427387904
  · rw [if_pos (by simpa using h1), rright_f]
    simp only [Option.bind_some, cortadoref02_Add.j0]
    by_cases h2 : 0 ≤ b ∧ b ≤ 4611686018427387904
    · rw [if_neg (by simpa using h2)]
      have e1 : IntKind.u64.wrap (IntKind.u64.wrap a + IntKind.u64.wrap b) = a + b := by
        rw [wrap_u64, wrap_u64, wrap_u64]; omega
      have e2 : wrap64 (a + b) = if a + b < 9223372036854775808 then a + b else a + b - 18446744073709551616 := by unfold wrap64; split <;> omega
      rw [e1, e2]
      by_cases h3 : a + b > 4611686018427387904
      · rw [if_pos h3, if_neg (by omega)]
      · rw [if_neg h3, if_pos (show a + b < 9223372036854775808 by omega), if_pos (by omega)]
    · rw [if_pos (by simp; omega), if_neg (by omega)]
  · rw [if_neg (by simpa using h1), if_neg (by omega)]
    simp only [cortadoref02_Add.j0, if_true]
end CostL
open CostL in
theorem CostAdds : cortadolaw02_CostAdds.Pure := by
  intro a b ha hb
  refine ⟨1, ?_⟩
  unfold cortadolaw02_CostAdds.f
  have hc : cost_Cut.f a = cortadoref02_Cut.f a := by
    have e : mx 0 (mn a 4611686018427387904) = if a < 0 then 0 else if a ≤ 4611686018427387904 then a else 4611686018427387904 := by
      unfold mx mn
      repeat' split
      all_goals omega
    unfold cost_Cut.f cortadoref02_Cut.f
    rw [e, rright_f]
    by_cases h0 : a < 0
    · rw [if_pos h0, if_pos h0]
    · rw [if_neg h0, if_neg h0]
      simp only [Option.bind_some]
      by_cases h1 : a ≤ 4611686018427387904
      · rw [if_pos h1, if_pos (by simp; omega)]
      · rw [if_neg h1, if_neg (by simp; omega)]
  have hw : cortadolaw02_awake.f = some true := by decide +kernel
  obtain ⟨c, hc1⟩ : ∃ c, cost_Cut.f a = some c := ⟨_, rfl⟩
  rw [add_f, radd_f 0, right_f, rright_f, ← hc, hc1, hw]
  simp

end Go.Proofs.Ytjmlahdnbedkcaa.Pure
