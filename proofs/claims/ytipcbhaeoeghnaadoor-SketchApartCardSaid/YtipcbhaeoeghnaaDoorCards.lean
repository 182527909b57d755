/-
  DERIVED. GIVEN WITH THE SEED: THE CARDS: each row of YtipcbhaeoeghnaaDoorRows.lean that lists a variable, with what it lists TIED to the program's text (the seventh form; the later family's looks); each row that meets fmt, with fmt's text TOLD by the authors' own Lean function (tested against real Go, not proved from fmt's source: count such statements apart). THE CARD IS WHAT COUNTS. Prove the row's statement (the work); the ties are given (YtipcbhaeoeghnaaDoorTie.lean); close each card by the builder's one call (the guide's Derived/Test/ToyasCard.lean, 'card_holds'). Laid BY PROGRAM, IN A SANDBOX (cutbox-door.mjs). By AI agents, Wed Nov 11 2026. No macro, syntax, notation, axiom, sorry.
-/
import Derived.Test.YtipcbhaeoeghnaaDoorRows
import GoSem.ClaimSeven
namespace Go.Proofs.YtipcbhaeoeghnaaDoor
namespace Rows

/-- THE TIED CARD OF 'cortadolaw17.ProgRight'. -/
def progRightCard : Claim7 := { stood := { row := progRightRow, standIns := [], harness := (true, "d81c2305288f4b1c1dca921ad85726805c29db222b59e084894cc926d4c2b3a7"), looks := false }, kinds := [], alts := [], laidByText := true, laidKinds := [.data], laidTests := true, laidLooks := .later }
def ProgRightCardSaid : Prop := Claim7.holds Tryd.pinned (.plain (OpenSpec.ofChange progRightSpec)) progRightCard

/-- THE TIED CARD OF 'cortadolaw06.KeyPairs'. -/
def keyPairsCard : Claim7 := { stood := { row := keyPairsRow, standIns := [], harness := (true, "d81c2305288f4b1c1dca921ad85726805c29db222b59e084894cc926d4c2b3a7"), looks := false }, kinds := [], alts := [], laidByText := true, laidKinds := [.data, .data], laidTests := true, laidLooks := .later }
def KeyPairsCardSaid : Prop := Claim7.holds Tryd.pinned (.plain (OpenSpec.ofChange keyPairsSpec)) keyPairsCard

/-- THE TIED CARD OF 'cortadolaw11.SketchApart'. -/
def sketchApartCard : Claim7 := { stood := { row := sketchApartRow, standIns := [], harness := (true, "d81c2305288f4b1c1dca921ad85726805c29db222b59e084894cc926d4c2b3a7"), looks := false }, kinds := [], alts := [], laidByText := true, laidKinds := [.data], laidTests := true, laidLooks := .later }
def SketchApartCardSaid : Prop := Claim7.holds Tryd.pinned (.plain (OpenSpec.ofChange sketchApartSpec)) sketchApartCard

/-- THE TIED CARD OF 'cortadolaw17.ProgBack'. -/
def progBackCard : Claim7 := { stood := { row := progBackRow, standIns := [], harness := (true, "d81c2305288f4b1c1dca921ad85726805c29db222b59e084894cc926d4c2b3a7"), looks := false }, kinds := [], alts := [], laidByText := true, laidKinds := [.data], laidTests := true, laidLooks := .later }
def ProgBackCardSaid : Prop := Claim7.holds Tryd.pinned (.plain (OpenSpec.ofChange progBackSpec)) progBackCard

/-- THE SECOND FORM's CARD OF 'cortadolaw17.ProgRight'. -/
def progRightUptoCard : Claim7 := { stood := { row := progRightUptoRow, standIns := [], harness := (true, "d81c2305288f4b1c1dca921ad85726805c29db222b59e084894cc926d4c2b3a7"), looks := false }, kinds := [], alts := [], laidByText := true, laidKinds := [.data], laidTests := true, laidLooks := .later }
def ProgRightUptoCardSaid : Prop := Claim7.holds Tryd.pinned (.plain (OpenSpec.upto progRightSpec)) progRightUptoCard

/-- THE SECOND FORM's CARD OF 'cortadolaw06.KeyPairs'. -/
def keyPairsUptoCard : Claim7 := { stood := { row := keyPairsUptoRow, standIns := [], harness := (true, "d81c2305288f4b1c1dca921ad85726805c29db222b59e084894cc926d4c2b3a7"), looks := false }, kinds := [], alts := [], laidByText := true, laidKinds := [.data, .data], laidTests := true, laidLooks := .later }
def KeyPairsUptoCardSaid : Prop := Claim7.holds Tryd.pinned (.plain (OpenSpec.upto keyPairsSpec)) keyPairsUptoCard

/-- THE SECOND FORM's CARD OF 'cortadolaw11.SketchApart'. -/
def sketchApartUptoCard : Claim7 := { stood := { row := sketchApartUptoRow, standIns := [], harness := (true, "d81c2305288f4b1c1dca921ad85726805c29db222b59e084894cc926d4c2b3a7"), looks := false }, kinds := [], alts := [], laidByText := true, laidKinds := [.data], laidTests := true, laidLooks := .later }
def SketchApartUptoCardSaid : Prop := Claim7.holds Tryd.pinned (.plain (OpenSpec.upto sketchApartSpec)) sketchApartUptoCard

/-- THE SECOND FORM's CARD OF 'cortadolaw17.ProgBack'. -/
def progBackUptoCard : Claim7 := { stood := { row := progBackUptoRow, standIns := [], harness := (true, "d81c2305288f4b1c1dca921ad85726805c29db222b59e084894cc926d4c2b3a7"), looks := false }, kinds := [], alts := [], laidByText := true, laidKinds := [.data], laidTests := true, laidLooks := .later }
def ProgBackUptoCardSaid : Prop := Claim7.holds Tryd.pinned (.plain (OpenSpec.upto progBackSpec)) progBackUptoCard
end Rows
end Go.Proofs.YtipcbhaeoeghnaaDoor
