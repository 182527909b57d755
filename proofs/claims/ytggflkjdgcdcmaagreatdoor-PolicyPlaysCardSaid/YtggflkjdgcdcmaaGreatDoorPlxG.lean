/- What the code of these functions asks for: printed by a program of this session's (gens.py) out of the seat's own functions; the kernel checks each row. -/
import Derived.Test.YtggflkjdgcdcmaaGreatDoorEngH
import Derived.Test.YtggflkjdgcdcmaaGreatDoorProg
import Derived.Test.YtggflkjdgcdcmaaGreatDoorBase
namespace Go.Proofs.YtggflkjdgcdcmaaGreatDoor.Eng
open Go Go.Proofs
set_option linter.unusedVariables false
set_option maxRecDepth 1000000
def policy_Policy_Del_m (g : Nat) (k : Int) (w : World) (K : Value → World → Prop) : Prop :=
  Rets Tryz.prog (10 : Nat) { toList := [Value.pointer (some { block := g, off := (0 : Nat) })] } w
  fun (v1 : Value) (w1 : World) =>
  ∃ (q1 : Option Addr),
  v1 = Value.pointer q1 ∧
  Rets Tryz.prog (53 : Nat) { toList := [Value.pointer q1, Value.int IntKind.u64 k] } w1 fun (v2 : Value) (w2 : World) =>
  ∃ (n1 : Int),
  ∃ (b1 : Bool),
  v2 = Value.tuple { toList := [Value.int IntKind.i64 n1, Value.bool b1] } ∧
  K (Value.tuple { toList := [Value.int IntKind.i64 n1, Value.bool b1] }) w2
theorem policy_Policy_Del_eq (g : Nat) (k : Int) (w : World) (K : Value → World → Prop) : fw Tryz.prog Tryz.f27 (annL []) (ordL []) [.pointer (some ⟨g, 0, none⟩), .int .u64 k] w K = policy_Policy_Del_m g k w K := by kernel_rfl
theorem policy_Policy_Del_go (g : Nat) (k : Int) {w : World} {K : Value → World → Prop} (h : policy_Policy_Del_m g k w K) : Rets Tryz.prog 27 #[.pointer (some ⟨g, 0, none⟩), .int .u64 k] w K :=
  calls_of_fw plain mixed Tryz.func27 (by kernel_rfl) (by rw [policy_Policy_Del_eq]; exact h)
def policy_Policy_Clear_m (g : Nat) (w : World) (K : Value → World → Prop) : Prop :=
  Rets Tryz.prog (10 : Nat) { toList := [Value.pointer (some { block := g, off := (0 : Nat) })] } w
  fun (v1 : Value) (w1 : World) =>
  ∃ (q1 : Option Addr),
  v1 = Value.pointer q1 ∧
  Rets Tryz.prog (60 : Nat) { toList := [Value.pointer q1] } w1 fun (v2 : Value) (w2 : World) =>
  v2 = Value.tuple { toList := [] } ∧
  Rets Tryz.prog (19 : Nat) { toList := [Value.pointer (some { block := g, off := (0 : Nat) })] } w2
  fun (v3 : Value) (w3 : World) =>
  ∃ (q2 : Option Addr),
  v3 = Value.pointer q2 ∧
  Rets Tryz.prog (61 : Nat) { toList := [Value.pointer q2] } w3 fun (v4 : Value) (w4 : World) =>
  v4 = Value.tuple { toList := [] } ∧ K (Value.tuple { toList := [] }) w4
theorem policy_Policy_Clear_eq (g : Nat) (w : World) (K : Value → World → Prop) : fw Tryz.prog Tryz.f34 (annL []) (ordL []) [.pointer (some ⟨g, 0, none⟩)] w K = policy_Policy_Clear_m g w K := by kernel_rfl
theorem policy_Policy_Clear_go (g : Nat) {w : World} {K : Value → World → Prop} (h : policy_Policy_Clear_m g w K) : Rets Tryz.prog 34 #[.pointer (some ⟨g, 0, none⟩)] w K :=
  calls_of_fw plain mixed Tryz.func34 (by kernel_rfl) (by rw [policy_Policy_Clear_eq]; exact h)
end Go.Proofs.YtggflkjdgcdcmaaGreatDoor.Eng
