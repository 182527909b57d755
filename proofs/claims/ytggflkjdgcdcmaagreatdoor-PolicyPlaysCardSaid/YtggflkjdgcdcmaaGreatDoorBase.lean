/- What holds of the seat's program as a whole. -/
import Derived.Test.YtggflkjdgcdcmaaGreatDoorEngH
import Derived.Test.YtggflkjdgcdcmaaGreatDoorProg
namespace Go.Proofs.YtggflkjdgcdcmaaGreatDoor.Eng
open Go Go.Proofs
set_option maxRecDepth 1000000
theorem plainB : (Tryz.prog.funcs.all fun fn => !(fn.name == "runtime.NumGoroutine")) = true := by kernel_rfl
theorem plain : Plain Tryz.prog := fun f fn h => by
  have h1 := Array.all_eq_true_iff_forall_mem.1 plainB fn (Array.mem_of_getElem? h)
  simpa using h1
theorem mixed : Tryz.prog.follows .mixedOrders = true := by kernel_rfl
end Go.Proofs.YtggflkjdgcdcmaaGreatDoor.Eng
