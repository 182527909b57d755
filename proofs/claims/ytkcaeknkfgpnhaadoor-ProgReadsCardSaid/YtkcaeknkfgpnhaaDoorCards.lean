/-
  DERIVED. GIVEN WITH THE SEED: THE CARDS: each row of YtkcaeknkfgpnhaaDoorRows.lean that lists a variable, with what it lists TIED to the program's text (the seventh form; the later family's looks); each row that meets fmt, with fmt's text TOLD by the authors' own Lean function (tested against real Go, not proved from fmt's source: count such statements apart). THE CARD IS WHAT COUNTS. Prove the row's statement (the work); the ties are given (YtkcaeknkfgpnhaaDoorTie.lean); close each card by the builder's one call (the guide's Derived/Test/ToyasCard.lean, 'card_holds'). Laid BY PROGRAM, IN A SANDBOX (cutbox-door.mjs). By AI agents, Wed Nov 11 2026. No macro, syntax, notation, axiom, sorry.
-/
import Derived.Test.YtkcaeknkfgpnhaaDoorRows
import GoSem.ClaimSeven
namespace Go.Proofs.YtkcaeknkfgpnhaaDoor
namespace Rows

/-- THE TIED CARD OF 'cortadolaw17.ProgReads'. -/
def progReadsCard : Claim7 := { stood := { row := progReadsRow, standIns := [], harness := (true, "f98049f0432b48e0092d7a3175acd8cdaff1851e10cfc3ea1717de23e2ce4c2a"), looks := false }, kinds := [], alts := [], laidByText := true, laidKinds := [.data], laidTests := true, laidLooks := .later }
def ProgReadsCardSaid : Prop := Claim7.holds Tryd.pinned (.plain (OpenSpec.ofChange progReadsSpec)) progReadsCard

/-- THE TIED CARD OF 'cortadolaw13.TinyPlays'. -/
def tinyPlaysCard : Claim7 := { stood := { row := tinyPlaysRow, standIns := [], harness := (true, "f98049f0432b48e0092d7a3175acd8cdaff1851e10cfc3ea1717de23e2ce4c2a"), looks := false }, kinds := [], alts := [], laidByText := true, laidKinds := [.data, .data], laidTests := true, laidLooks := .later }
def TinyPlaysCardSaid : Prop := Claim7.holds Tryd.pinned (.plain (OpenSpec.ofChange tinyPlaysSpec)) tinyPlaysCard

/-- THE TIED CARD OF 'cortadolaw13.TinyRises'. -/
def tinyRisesCard : Claim7 := { stood := { row := tinyRisesRow, standIns := [], harness := (true, "f98049f0432b48e0092d7a3175acd8cdaff1851e10cfc3ea1717de23e2ce4c2a"), looks := false }, kinds := [], alts := [], laidByText := true, laidKinds := [.data, .data], laidTests := true, laidLooks := .later }
def TinyRisesCardSaid : Prop := Claim7.holds Tryd.pinned (.plain (OpenSpec.ofChange tinyRisesSpec)) tinyRisesCard

/-- THE TIED CARD OF 'cortadolaw25.SampleWhole'. -/
def sampleWholeCard : Claim7 := { stood := { row := sampleWholeRow, standIns := [], harness := (true, "f98049f0432b48e0092d7a3175acd8cdaff1851e10cfc3ea1717de23e2ce4c2a"), looks := false }, kinds := [], alts := [], laidByText := true, laidKinds := [.data], laidTests := true, laidLooks := .later }
def SampleWholeCardSaid : Prop := Claim7.holds Tryd.pinned (.plain (OpenSpec.ofChange sampleWholeSpec)) sampleWholeCard

/-- THE SECOND FORM's CARD OF 'cortadolaw17.ProgReads'. -/
def progReadsUptoCard : Claim7 := { stood := { row := progReadsUptoRow, standIns := [], harness := (true, "f98049f0432b48e0092d7a3175acd8cdaff1851e10cfc3ea1717de23e2ce4c2a"), looks := false }, kinds := [], alts := [], laidByText := true, laidKinds := [.data], laidTests := true, laidLooks := .later }
def ProgReadsUptoCardSaid : Prop := Claim7.holds Tryd.pinned (.plain (OpenSpec.upto progReadsSpec)) progReadsUptoCard

/-- THE SECOND FORM's CARD OF 'cortadolaw13.TinyPlays'. -/
def tinyPlaysUptoCard : Claim7 := { stood := { row := tinyPlaysUptoRow, standIns := [], harness := (true, "f98049f0432b48e0092d7a3175acd8cdaff1851e10cfc3ea1717de23e2ce4c2a"), looks := false }, kinds := [], alts := [], laidByText := true, laidKinds := [.data, .data], laidTests := true, laidLooks := .later }
def TinyPlaysUptoCardSaid : Prop := Claim7.holds Tryd.pinned (.plain (OpenSpec.upto tinyPlaysSpec)) tinyPlaysUptoCard

/-- THE SECOND FORM's CARD OF 'cortadolaw13.TinyRises'. -/
def tinyRisesUptoCard : Claim7 := { stood := { row := tinyRisesUptoRow, standIns := [], harness := (true, "f98049f0432b48e0092d7a3175acd8cdaff1851e10cfc3ea1717de23e2ce4c2a"), looks := false }, kinds := [], alts := [], laidByText := true, laidKinds := [.data, .data], laidTests := true, laidLooks := .later }
def TinyRisesUptoCardSaid : Prop := Claim7.holds Tryd.pinned (.plain (OpenSpec.upto tinyRisesSpec)) tinyRisesUptoCard

/-- THE SECOND FORM's CARD OF 'cortadolaw25.SampleWhole'. -/
def sampleWholeUptoCard : Claim7 := { stood := { row := sampleWholeUptoRow, standIns := [], harness := (true, "f98049f0432b48e0092d7a3175acd8cdaff1851e10cfc3ea1717de23e2ce4c2a"), looks := false }, kinds := [], alts := [], laidByText := true, laidKinds := [.data], laidTests := true, laidLooks := .later }
def SampleWholeUptoCardSaid : Prop := Claim7.holds Tryd.pinned (.plain (OpenSpec.upto sampleWholeSpec)) sampleWholeUptoCard
end Rows
end Go.Proofs.YtkcaeknkfgpnhaaDoor
