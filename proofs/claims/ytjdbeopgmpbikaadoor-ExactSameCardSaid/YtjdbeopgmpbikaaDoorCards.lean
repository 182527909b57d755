/-
  DERIVED. GIVEN WITH THE SEED: THE CARDS: each row of YtjdbeopgmpbikaaDoorRows.lean that lists a variable, with what it lists TIED to the program's text (the seventh form; the later family's looks); each row that meets fmt, with fmt's text TOLD by the authors' own Lean function (tested against real Go, not proved from fmt's source: count such statements apart). THE CARD IS WHAT COUNTS. Prove the row's statement (the work); the ties are given (YtjdbeopgmpbikaaDoorTie.lean); close each card by the builder's one call (the guide's Derived/Test/ToyasCard.lean, 'card_holds'). Laid BY PROGRAM, IN A SANDBOX (cutbox-door.mjs). By AI agents, Wed Nov 11 2026. No macro, syntax, notation, axiom, sorry.
-/
import Derived.Test.YtjdbeopgmpbikaaDoorRows
import GoSem.ClaimSeven
namespace Go.Proofs.YtjdbeopgmpbikaaDoor
namespace Rows

/-- THE TIED CARD OF 'cortadolaw14.ExactBelow'. -/
def exactBelowCard : Claim7 := { stood := { row := exactBelowRow, standIns := [], harness := (true, "76126d9bf7fe4c83995a68cb68d513c2de61e7259548a29484dcd1371d04eabd"), looks := false }, kinds := [], alts := [], laidByText := true, laidKinds := [.data, .data], laidTests := true, laidLooks := .later }
def ExactBelowCardSaid : Prop := Claim7.holds Tryd.pinned (.plain (OpenSpec.ofChange exactBelowSpec)) exactBelowCard

/-- THE TIED CARD OF 'cortadolaw14.ExactSame'. -/
def exactSameCard : Claim7 := { stood := { row := exactSameRow, standIns := [], harness := (true, "76126d9bf7fe4c83995a68cb68d513c2de61e7259548a29484dcd1371d04eabd"), looks := false }, kinds := [], alts := [], laidByText := true, laidKinds := [.data, .data], laidTests := true, laidLooks := .later }
def ExactSameCardSaid : Prop := Claim7.holds Tryd.pinned (.plain (OpenSpec.ofChange exactSameSpec)) exactSameCard

/-- THE SECOND FORM's CARD OF 'cortadolaw14.ExactBelow'. -/
def exactBelowUptoCard : Claim7 := { stood := { row := exactBelowUptoRow, standIns := [], harness := (true, "76126d9bf7fe4c83995a68cb68d513c2de61e7259548a29484dcd1371d04eabd"), looks := false }, kinds := [], alts := [], laidByText := true, laidKinds := [.data, .data], laidTests := true, laidLooks := .later }
def ExactBelowUptoCardSaid : Prop := Claim7.holds Tryd.pinned (.plain (OpenSpec.upto exactBelowSpec)) exactBelowUptoCard

/-- THE SECOND FORM's CARD OF 'cortadolaw14.ExactSame'. -/
def exactSameUptoCard : Claim7 := { stood := { row := exactSameUptoRow, standIns := [], harness := (true, "76126d9bf7fe4c83995a68cb68d513c2de61e7259548a29484dcd1371d04eabd"), looks := false }, kinds := [], alts := [], laidByText := true, laidKinds := [.data, .data], laidTests := true, laidLooks := .later }
def ExactSameUptoCardSaid : Prop := Claim7.holds Tryd.pinned (.plain (OpenSpec.upto exactSameSpec)) exactSameUptoCard
end Rows
end Go.Proofs.YtjdbeopgmpbikaaDoor
