/- How much room is left, and a cost moved, are the document's; a cost moved back is as it was; no condition. -/
import Derived.Test.YtjmlahdnbedkcaaHCostMovesx1
import Derived.Test.YtjmlahdnbedkcaaWd
namespace Go.Proofs.Ytjmlahdnbedkcaa.Pure
open Go.RowKit Go.Proofs.Ytjmlahdnbedkcaa.HCostMoves Go.Proofs.YtjmlahdnbedkcaaW.PrintWords Go.Proofs.YtjmlahdnbedkcaaW.PrintLast Go.Proofs.YtjmlahdnbedkcaaW.PrintMore Go.Proofs.Ytjmlahdnbedkcaa.Wd
namespace CostL
/-- The sum of two costs, as the document tells it. -/
def sadd (a b : Int) : Int × Bool := if 0 ≤ a ∧ a ≤ 4611686018427387904 ∧ 0 ≤ b ∧ b ≤ 4611686018427387904 ∧ a + b ≤ 4611686018427387904 then (a + b, true) else (0, false)
theorem right_f (a : Int) : cost_Right.f a = some (decide (0 ≤ a ∧ a ≤ 4611686018427387904)) := by
  unfold cost_Right.f
  by_cases h : a ≥ 0
  · rw [if_pos h]; simp [show 0 ≤ a from h]
  · rw [if_neg h]; simp; omega
theorem rright_f (a : Int) : cortadoref02_Right.f a = some (decide (0 ≤ a ∧ a ≤ 4611686018427387904)) := by
  unfold cortadoref02_Right.f
  by_cases h : a ≥ 0
  · rw [if_pos h]; simp [show 0 ≤ a from h]
  · rw [if_neg h]; simp; omega
theorem add_f (a b : Int) : cost_Add.f a b = some (sadd a b) := by
  unfold cost_Add.f sadd
  rw [right_f]
  simp only [Option.bind_some]
  by_cases h1 : 0 ≤ a ∧ a ≤ 4611686018427387904
  · rw [if_pos (by simpa using h1), right_f]
    simp only [Option.bind_some]
    by_cases h2 : 0 ≤ b ∧ b ≤ 4611686018427387904
    · rw [if_pos (by simpa using h2)]
      have e1 : wrap64 (4611686018427387904 - b) = 4611686018427387904 - b := by unfold wrap64; omega
      rw [e1]
      by_cases h3 : a > 4611686018427387904 - b
      · rw [if_pos h3, if_neg (by omega)]
      · have e2 : wrap64 (a + b) = a + b := by unfold wrap64; omega
        rw [if_neg h3, if_pos (by omega), e2]
    · rw [if_neg (by simpa using h2), if_neg (by omega)]
  · rw [if_neg (by simpa using h1), if_neg (by omega)]
theorem radd_f (k : Nat) (a b : Int) : cortadoref02_Add.f (k + 1) a b = some (sadd a b) := by
  unfold cortadoref02_Add.f sadd
  rw [rright_f]
  simp only [Option.bind_some]
  by_cases h1 : 0 ≤ a ∧ a ≤ 4611686018427387904
  · rw [if_pos (by simpa using h1), rright_f]
    simp only [Option.bind_some, cortadoref02_Add.j0]
    by_cases h2 : 0 ≤ b ∧ b ≤ 4611686018427387904
    · rw [if_neg (by simpa using h2)]
      have e1 : IntKind.u64.wrap (IntKind.u64.wrap a + IntKind.u64.wrap b) = a + b := by
        rw [wrap_u64, wrap_u64, wrap_u64]; omega
      have e2 : wrap64 (a + b) = if a + b < 9223372036854775808 then a + b else a + b - 18446744073709551616 := by unfold wrap64; split <;> omega
      rw [e1, e2]
      by_cases h3 : a + b > 4611686018427387904
      · rw [if_pos h3, if_neg (by omega)]
      · rw [if_neg h3, if_pos (show a + b < 9223372036854775808 by omega), if_pos (by omega)]
    · rw [if_pos (by simp; omega), if_neg (by omega)]
  · rw [if_neg (by simpa using h1), if_neg (by omega)]
    simp only [cortadoref02_Add.j0, if_true]
end CostL
namespace CostMovesP
open CostL
def C (a : Int) : Prop := 0 ≤ a ∧ a ≤ 4611686018427387904
instance (a : Int) : Decidable (C a) := by unfold C; infer_instance
def sroom (m u : Int) : Int × Bool := if C m ∧ C u ∧ u ≤ m then (m - u, true) else (0, false)
theorem room_f (m u : Int) : cost_Room.f m u = some (sroom m u) := by
  unfold cost_Room.f sroom C
  rw [right_f]
  simp only [Option.bind_some]
  by_cases h1 : 0 ≤ m ∧ m ≤ 4611686018427387904
  · rw [if_pos (by simpa using h1), right_f]
    simp only [Option.bind_some]
    by_cases h2 : 0 ≤ u ∧ u ≤ 4611686018427387904
    · rw [if_pos (by simpa using h2)]
      by_cases h3 : u > m
      · rw [if_pos h3, if_neg (by omega)]
      · rw [if_neg h3, if_pos (by omega), wrap64_id (by omega) (by omega)]
    · rw [if_neg (by simpa using h2), if_neg (by omega)]
  · rw [if_neg (by simpa using h1), if_neg (by omega)]
theorem rroom_f (m u : Int) : cortadoref02_Room.f m u = some (sroom m u) := by
  unfold cortadoref02_Room.f sroom C
  rw [rright_f]
  simp only [Option.bind_some]
  by_cases h1 : 0 ≤ m ∧ m ≤ 4611686018427387904
  · rw [if_pos (by simpa using h1), rright_f]
    simp only [Option.bind_some]
    by_cases h2 : 0 ≤ u ∧ u ≤ 4611686018427387904
    · rw [if_pos (by simpa using h2)]
      by_cases h3 : u > m
      · rw [if_pos h3, if_neg (by omega)]
      · rw [if_neg h3, if_pos (by omega), wrap64_id (by omega) (by omega)]
    · rw [if_neg (by simpa using h2), if_neg (by omega)]
  · rw [if_neg (by simpa using h1), if_neg (by omega)]
def smove (u o n : Int) : Int × Bool := if C u ∧ C o ∧ C n ∧ o ≤ u ∧ u - o + n ≤ 4611686018427387904 then (u - o + n, true) else (0, false)
theorem move_f (u o n : Int) : cost_Move.f u o n = some (smove u o n) := by
  unfold cost_Move.f smove
  rw [room_f]
  simp only [Option.bind_some]
  by_cases h1 : C u ∧ C o ∧ o ≤ u
  · have e : sroom u o = (u - o, true) := by unfold sroom; rw [if_pos h1]
    rw [e, add_f]
    simp only [Option.bind_some, if_true]
    unfold sadd C at *
    by_cases h2 : 0 ≤ u - o ∧ u - o ≤ 4611686018427387904 ∧ 0 ≤ n ∧ n ≤ 4611686018427387904 ∧ u - o + n ≤ 4611686018427387904
    · rw [if_pos h2, if_pos (by omega)]
    · rw [if_neg h2, if_neg (by omega)]
  · have e : sroom u o = (0, false) := by unfold sroom; rw [if_neg h1]
    rw [e, if_neg (by simp), if_neg (fun h => h1 ⟨h.1, h.2.1, h.2.2.2.1⟩)]
theorem rmove_f (k : Nat) (u o n : Int) : cortadoref02_Move.f (k + 1) u o n = some (smove u o n) := by
  unfold cortadoref02_Move.f smove C
  rw [rright_f, rright_f, rright_f]
  simp only [Option.bind_some]
  by_cases h1 : 0 ≤ u ∧ u ≤ 4611686018427387904
  · rw [if_pos (by simpa using h1)]
    by_cases h2 : 0 ≤ o ∧ o ≤ 4611686018427387904
    · rw [if_pos (by simpa using h2)]
      by_cases h3 : 0 ≤ n ∧ n ≤ 4611686018427387904
      · rw [if_pos (by simpa using h3)]
        by_cases h4 : o > u
        · rw [if_pos h4, if_neg (by omega)]
        · rw [if_neg h4, wrap64_id (by omega) (by omega), radd_f]
          simp only [Option.bind_some]
          unfold sadd
          by_cases h5 : 0 ≤ u - o ∧ u - o ≤ 4611686018427387904 ∧ 0 ≤ n ∧ n ≤ 4611686018427387904 ∧ u - o + n ≤ 4611686018427387904
          · rw [if_pos h5, if_pos (by omega)]
          · rw [if_neg h5, if_neg (by omega)]
      · rw [if_neg (by simpa using h3), if_neg (by omega)]
    · rw [if_neg (by simpa using h2), if_neg (by omega)]
  · rw [if_neg (by simpa using h1), if_neg (by omega)]
theorem awake_f : cortadolaw02_awake.f = some true := by decide +kernel
end CostMovesP
open CostMovesP CostL in
theorem CostMoves (m u o n : Int) (_ : (Lit.int .i64 m).wf = true) (_ : (Lit.int .i64 u).wf = true) (_ : (Lit.int .i64 o).wf = true) (_ : (Lit.int .i64 n).wf = true) : ∃ k, cortadolaw02_CostMoves.f k m u o n = some true := by
  refine ⟨2, ?_⟩
  unfold cortadolaw02_CostMoves.f
  rw [room_f, rroom_f, move_f, rmove_f 1]
  simp only [Option.bind_some, if_true, bne_self_eq_false, Bool.false_eq_true, if_false, cortadolaw02_CostMoves.j0]
  by_cases h : C u ∧ C o ∧ C n ∧ o ≤ u ∧ u - o + n ≤ 4611686018427387904
  · have e : smove u o n = (u - o + n, true) := by unfold smove; rw [if_pos h]
    rw [e]
    simp only [if_true]
    have e2 : smove (u - o + n) n o = (u, true) := by
      unfold smove C at *
      rw [if_pos (by omega)]
      congr 1
      omega
    rw [move_f, e2, awake_f]
    simp
  · have e : smove u o n = (0, false) := by unfold smove; rw [if_neg h]
    rw [e, awake_f]
    simp

end Go.Proofs.Ytjmlahdnbedkcaa.Pure
