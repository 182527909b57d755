/- What holds of the seat's program as a whole. -/
import Derived.Test.YtppmdifhoejhjaaEngH
import Derived.Test.YtppmdifhoejhjaaProg
namespace Go.Proofs.Ytppmdifhoejhjaa.Eng
open Go Go.Proofs
set_option maxRecDepth 1000000
theorem plainB : (Try.prog.funcs.all fun fn => !(fn.name == "runtime.NumGoroutine")) = true := by kernel_rfl
theorem plain : Plain Try.prog := fun f fn h => by
  have h1 := Array.all_eq_true_iff_forall_mem.1 plainB fn (Array.mem_of_getElem? h)
  simpa using h1
theorem mixed : Try.prog.follows .mixedOrders = true := by kernel_rfl
end Go.Proofs.Ytppmdifhoejhjaa.Eng
