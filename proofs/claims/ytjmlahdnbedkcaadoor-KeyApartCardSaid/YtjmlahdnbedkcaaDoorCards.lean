/-
  DERIVED. GIVEN WITH THE SEED: THE CARDS: each row of YtjmlahdnbedkcaaDoorRows.lean that lists a variable, with what it lists TIED to the program's text (the seventh form; the later family's looks); each row that meets fmt, with fmt's text TOLD by the authors' own Lean function (tested against real Go, not proved from fmt's source: count such statements apart). THE CARD IS WHAT COUNTS. Prove the row's statement (the work); the ties are given (YtjmlahdnbedkcaaDoorTie.lean); close each card by the builder's one call (the guide's Derived/Test/ToyasCard.lean, 'card_holds'). Laid BY PROGRAM, IN A SANDBOX (cutbox-door.mjs). By AI agents, Wed Nov 11 2026. No macro, syntax, notation, axiom, sorry.
-/
import Derived.Test.YtjmlahdnbedkcaaDoorRows
import GoSem.ClaimSeven
namespace Go.Proofs.YtjmlahdnbedkcaaDoor
namespace Rows

/-- THE TIED CARD OF 'cortadolaw06.KeyApart'. -/
def keyApartCard : Claim7 := { stood := { row := keyApartRow, standIns := [], harness := (true, "93887e18c25d4fdde4079ca271a0a8b01ce550dbb52a9a1c0ee3e28ffa1c0109"), looks := false }, kinds := [], alts := [], laidByText := true, laidKinds := [.data, .data], laidTests := true, laidLooks := .later }
def KeyApartCardSaid : Prop := Claim7.holds Tryd.pinned (.plain (OpenSpec.ofChange keyApartSpec)) keyApartCard

/-- THE SECOND FORM's CARD OF 'cortadolaw06.KeyApart'. -/
def keyApartUptoCard : Claim7 := { stood := { row := keyApartUptoRow, standIns := [], harness := (true, "93887e18c25d4fdde4079ca271a0a8b01ce550dbb52a9a1c0ee3e28ffa1c0109"), looks := false }, kinds := [], alts := [], laidByText := true, laidKinds := [.data, .data], laidTests := true, laidLooks := .later }
def KeyApartUptoCardSaid : Prop := Claim7.holds Tryd.pinned (.plain (OpenSpec.upto keyApartSpec)) keyApartUptoCard
end Rows
end Go.Proofs.YtjmlahdnbedkcaaDoor
