/- What the code of these functions asks for: printed by a program of this session's (gens.py) out of the seat's own functions; the kernel checks each row. -/
import Derived.Test.YtggflkjdgcdcmaaGreatDoorEngH
import Derived.Test.YtggflkjdgcdcmaaGreatDoorProg
import Derived.Test.YtggflkjdgcdcmaaGreatDoorBase
namespace Go.Proofs.YtggflkjdgcdcmaaGreatDoor.Eng
open Go Go.Proofs
set_option linter.unusedVariables false
set_option maxRecDepth 1000000
def mix_Fold_m (x k : Int) (w : World) (K : Value → World → Prop) : Prop :=
  (decide (k < (1 : Int)) = false →
  (decide (k ≥ (64 : Int)) = true → K (Value.int IntKind.u64 x) w) ∧
  (decide (k ≥ (64 : Int)) = false →
  (0 : Int) ≤ IntKind.wrap IntKind.u64 k ∧
  K (Value.int IntKind.u64 (bits BinOp.xor IntKind.u64 x (shrI IntKind.u64 x (IntKind.wrap IntKind.u64 k)))) w)) ∧
  (decide (k < (1 : Int)) = true → K (Value.int IntKind.u64 x) w)
theorem mix_Fold_eq (x k : Int) (w : World) (K : Value → World → Prop) : fw Tryz.prog Tryz.f122 (annL []) (ordL []) [.int .u64 x, .int .i64 k] w K = mix_Fold_m x k w K := by kernel_rfl
theorem mix_Fold_go (x k : Int) {w : World} {K : Value → World → Prop} (h : mix_Fold_m x k w K) : Rets Tryz.prog 122 #[.int .u64 x, .int .i64 k] w K :=
  calls_of_fw plain mixed Tryz.func122 (by kernel_rfl) (by rw [mix_Fold_eq]; exact h)
def cortadoref03_Fold_m (x k : Int) (w : World) (K : Value → World → Prop) : Prop :=
  (decide (k < (1 : Int)) = false →
  (decide (k > (63 : Int)) = true → K (Value.int IntKind.u64 x) w) ∧
  (decide (k > (63 : Int)) = false →
  ∃ (h1 : Nat → List Value → World → Prop),
  (∃ (k1 : Nat), h1 k1 [Value.int IntKind.u64 x, Value.int IntKind.i64 (0 : Int)] w) ∧
  ∀ (k2 : Nat) (w1 : World) (n1 n2 : Int) (v1 v2 v3 v4 v5 v6 v7 : Value),
  h1 k2 [Value.int IntKind.u64 n1, Value.int IntKind.i64 n2] w1 →
  (decide (n2 < k) = true →
  (2 : Int) ≠ (0 : Int) ∧
  ∃ (k3 : Nat),
  k3 < k2 ∧
  h1 k3
  [Value.int IntKind.u64 (IntKind.wrap IntKind.u64 (Int.tdiv n1 (2 : Int))),
  Value.int IntKind.i64 (IntKind.wrap IntKind.i64 (n2 + (1 : Int)))]
  w1) ∧
  (decide (n2 < k) = false → K (Value.int IntKind.u64 (bits BinOp.xor IntKind.u64 x n1)) w1))) ∧
  (decide (k < (1 : Int)) = true → K (Value.int IntKind.u64 x) w)
theorem cortadoref03_Fold_eq (x k : Int) (w : World) (K : Value → World → Prop) : fw Tryz.prog Tryz.f118 (annL [(2, [(5, some 30), (6, some 3), (15, none), (16, none), (17, none), (18, none), (19, none), (20, none), (21, none)])]) (ordL []) [.int .u64 x, .int .i64 k] w K = cortadoref03_Fold_m x k w K := by kernel_rfl
theorem cortadoref03_Fold_go (x k : Int) {w : World} {K : Value → World → Prop} (h : cortadoref03_Fold_m x k w K) : Rets Tryz.prog 118 #[.int .u64 x, .int .i64 k] w K :=
  calls_of_fw plain mixed Tryz.func118 (by kernel_rfl) (by rw [cortadoref03_Fold_eq]; exact h)
end Go.Proofs.YtggflkjdgcdcmaaGreatDoor.Eng
