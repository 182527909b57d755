/- Things that are only read. -/
import Derived.Test.YtggflkjdgcdcmaaGreatDoorEngU
namespace Go.Proofs.YtggflkjdgcdcmaaGreatDoor.Eng
open Go Go.RowKit
set_option linter.unusedVariables false
set_option linter.unusedSimpArgs false
section
variable {e w : World} {F : List HP} {E : TypeId} {q : Option Addr} {n c : Nat} {xs : List Value}
end
theorem RdC.pre {w : World} {q : Option Addr} {us vs : List Value} (h : RdC w q (us ++ vs)) : RdC w q us := by
  have := h.take us.length
  rwa [List.take_left' rfl] at this
end Go.Proofs.YtggflkjdgcdcmaaGreatDoor.Eng
