/-
  DERIVED. GIVEN WITH THE SEED: THE CARDS: each row of YtfcddffcjmgpkaaDoorRows.lean that lists a variable, with what it lists TIED to the program's text (the seventh form; the later family's looks); each row that meets fmt, with fmt's text TOLD by the authors' own Lean function (tested against real Go, not proved from fmt's source: count such statements apart). THE CARD IS WHAT COUNTS. Prove the row's statement (the work); the ties are given (YtfcddffcjmgpkaaDoorTie.lean); close each card by the builder's one call (the guide's Derived/Test/ToyasCard.lean, 'card_holds'). Laid BY PROGRAM, IN A SANDBOX (cutbox-door.mjs). By AI agents, Wed Nov 11 2026. No macro, syntax, notation, axiom, sorry.
-/
import Derived.Test.YtfcddffcjmgpkaaDoorRows
import GoSem.ClaimSeven
namespace Go.Proofs.YtfcddffcjmgpkaaDoor
namespace Rows

/-- THE TIED CARD OF 'cortadolaw12.DoorPlays'. -/
def doorPlaysCard : Claim7 := { stood := { row := doorPlaysRow, standIns := [], harness := (true, "d4c60fcad12ef2a678d7335ce7ac7fa55edb3991b0ac1a01b8de182a63c02abe"), looks := false }, kinds := [], alts := [], laidByText := true, laidKinds := [.data, .data], laidTests := true, laidLooks := .later }
def DoorPlaysCardSaid : Prop := Claim7.holds Tryd.pinned (.plain (OpenSpec.ofChange doorPlaysSpec)) doorPlaysCard

/-- THE TIED CARD OF 'cortadolaw12.DoorKeeps'. -/
def doorKeepsCard : Claim7 := { stood := { row := doorKeepsRow, standIns := [], harness := (true, "d4c60fcad12ef2a678d7335ce7ac7fa55edb3991b0ac1a01b8de182a63c02abe"), looks := false }, kinds := [], alts := [], laidByText := true, laidKinds := [.data, .data], laidTests := true, laidLooks := .later }
def DoorKeepsCardSaid : Prop := Claim7.holds Tryd.pinned (.plain (OpenSpec.ofChange doorKeepsSpec)) doorKeepsCard

/-- THE SECOND FORM's CARD OF 'cortadolaw12.DoorPlays'. -/
def doorPlaysUptoCard : Claim7 := { stood := { row := doorPlaysUptoRow, standIns := [], harness := (true, "d4c60fcad12ef2a678d7335ce7ac7fa55edb3991b0ac1a01b8de182a63c02abe"), looks := false }, kinds := [], alts := [], laidByText := true, laidKinds := [.data, .data], laidTests := true, laidLooks := .later }
def DoorPlaysUptoCardSaid : Prop := Claim7.holds Tryd.pinned (.plain (OpenSpec.upto doorPlaysSpec)) doorPlaysUptoCard

/-- THE SECOND FORM's CARD OF 'cortadolaw12.DoorKeeps'. -/
def doorKeepsUptoCard : Claim7 := { stood := { row := doorKeepsUptoRow, standIns := [], harness := (true, "d4c60fcad12ef2a678d7335ce7ac7fa55edb3991b0ac1a01b8de182a63c02abe"), looks := false }, kinds := [], alts := [], laidByText := true, laidKinds := [.data, .data], laidTests := true, laidLooks := .later }
def DoorKeepsUptoCardSaid : Prop := Claim7.holds Tryd.pinned (.plain (OpenSpec.upto doorKeepsSpec)) doorKeepsUptoCard
end Rows
end Go.Proofs.YtfcddffcjmgpkaaDoor
