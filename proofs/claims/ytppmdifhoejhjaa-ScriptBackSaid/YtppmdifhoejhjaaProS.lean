/- Calls: names; the example. -/
import Derived.Test.YtppmdifhoejhjaaProR
namespace Go.Proofs.Ytppmdifhoejhjaa.Eng
open Go Go.RowKit Go.Proofs
set_option linter.unusedVariables false
set_option linter.unusedSimpArgs false
set_option maxRecDepth 1000000
/-- The names that are laid. -/
def nmL : List ByteArray := [⟨#[110, 111, 110, 101]⟩, ⟨#[103, 101, 116]⟩, ⟨#[115, 101, 116]⟩, ⟨#[100, 101, 108]⟩, ⟨#[119, 97, 105, 116]⟩, ⟨#[99, 108, 101, 97, 114]⟩, ⟨#[99, 108, 111, 115, 101]⟩, ⟨#[108, 105, 109, 105, 116]⟩]
def nmC : List Value := nmL.map Value.string
abbrev nmQ : Option Addr := some ⟨0, 0, none⟩
def nameP (k : Int) : ByteArray := if knownB k = true then (nmL[k.toNat]?).getD ⟨#[]⟩ else ⟨#[]⟩
section
variable {e w : World} {F : List HP} {k : Int}
end
end Go.Proofs.Ytppmdifhoejhjaa.Eng
