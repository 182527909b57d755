/- What the code of these functions asks for: printed by a program of this session's (gens.py) out of the seat's own functions; the kernel checks each row. -/
import Derived.Test.YtppmdifhoejhjaaEngH
import Derived.Test.YtppmdifhoejhjaaProg
import Derived.Test.YtppmdifhoejhjaaBase
namespace Go.Proofs.Ytppmdifhoejhjaa.Eng
open Go Go.Proofs
set_option linter.unusedVariables false
set_option maxRecDepth 1000000
def slices_Clone_byte_byte_m (q : Option Addr) (l c : Nat) (w : World) (K : Value → World → Prop) : Prop :=
  (Option.isNone q = true → K (Value.slice none (0 : Nat) (0 : Nat)) w) ∧
  (Option.isNone q = false →
  NewR (5 : Nat) [] w fun (a1 : Addr) (w1 : World) =>
  RunR Try.prog
  (builtinV Builtin.append { toList := [(35 : Nat), (35 : Nat)] } (nat_lit 35)
  { toList := [Value.slice (some a1) (0 : Nat) (0 : Nat), Value.slice q l c] })
  w1 fun (v1 : Value) (w2 : World) =>
  ∃ (q1 : Option Addr), ∃ (k1 : Nat), ∃ (k2 : Nat), v1 = Value.slice q1 k1 k2 ∧ K (Value.slice q1 k1 k2) w2)
theorem slices_Clone_byte_byte_eq (q : Option Addr) (l c : Nat) (w : World) (K : Value → World → Prop) : fw Try.prog Try.f49 (annL []) (ordL []) [.slice q l c] w K = slices_Clone_byte_byte_m q l c w K := by kernel_rfl
theorem slices_Clone_byte_byte_go (q : Option Addr) (l c : Nat) {w : World} {K : Value → World → Prop} (h : slices_Clone_byte_byte_m q l c w K) : Rets Try.prog 49 #[.slice q l c] w K :=
  calls_of_fw plain mixed Try.func49 (by kernel_rfl) (by rw [slices_Clone_byte_byte_eq]; exact h)
end Go.Proofs.Ytppmdifhoejhjaa.Eng
