/-
  DERIVED. GIVEN WITH THE SEED: THE CARDS: each row of YtggflkjdgcdcmaaGreatDoorRows.lean that lists a variable, with what it lists TIED to the program's text (the seventh form; the later family's looks); each row that meets fmt, with fmt's text TOLD by the authors' own Lean function (tested against real Go, not proved from fmt's source: count such statements apart). THE CARD IS WHAT COUNTS. Prove the row's statement (the work); the ties are given (YtggflkjdgcdcmaaGreatDoorTie.lean); close each card by the builder's one call (the guide's Derived/Test/ToyasCard.lean, 'card_holds'). Laid BY PROGRAM, IN A SANDBOX (cutbox-door.mjs). By AI agents, Wed Nov 11 2026. No macro, syntax, notation, axiom, sorry.
-/
import Derived.Test.YtggflkjdgcdcmaaGreatDoorRows
import GoSem.ClaimSeven
namespace Go.Proofs.YtggflkjdgcdcmaaGreatDoor
namespace Rows

/-- THE TIED CARD OF 'cortadolaw26.PolicyPlays'. -/
def policyPlaysCard : Claim7 := { stood := { row := policyPlaysRow, standIns := [], harness := (true, "1e6af7d370c5f6fb3d749066fee5b92cc64a07414a48a484b8c007700ddd4854"), looks := false }, kinds := [], alts := [], laidByText := true, laidKinds := [.data, .data], laidTests := true, laidLooks := .later }
def PolicyPlaysCardSaid : Prop := Claim7.holds Tryz.pinned (.plain (OpenSpec.ofChange policyPlaysSpec)) policyPlaysCard

/-- THE SECOND FORM's CARD OF 'cortadolaw26.PolicyPlays'. -/
def policyPlaysUptoCard : Claim7 := { stood := { row := policyPlaysUptoRow, standIns := [], harness := (true, "1e6af7d370c5f6fb3d749066fee5b92cc64a07414a48a484b8c007700ddd4854"), looks := false }, kinds := [], alts := [], laidByText := true, laidKinds := [.data, .data], laidTests := true, laidLooks := .later }
def PolicyPlaysUptoCardSaid : Prop := Claim7.holds Tryz.pinned (.plain (OpenSpec.upto policyPlaysSpec)) policyPlaysUptoCard
end Rows
end Go.Proofs.YtggflkjdgcdcmaaGreatDoor
