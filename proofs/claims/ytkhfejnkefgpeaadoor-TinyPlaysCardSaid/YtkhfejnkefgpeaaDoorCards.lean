/-
  DERIVED. GIVEN WITH THE SEED: THE CARDS: each row of YtkhfejnkefgpeaaDoorRows.lean that lists a variable, with what it lists TIED to the program's text (the seventh form; the later family's looks); each row that meets fmt, with fmt's text TOLD by the authors' own Lean function (tested against real Go, not proved from fmt's source: count such statements apart). THE CARD IS WHAT COUNTS. Prove the row's statement (the work); the ties are given (YtkhfejnkefgpeaaDoorTie.lean); close each card by the builder's one call (the guide's Derived/Test/ToyasCard.lean, 'card_holds'). Laid BY PROGRAM, IN A SANDBOX (cutbox-door.mjs). By AI agents, Wed Nov 11 2026. No macro, syntax, notation, axiom, sorry.
-/
import Derived.Test.YtkhfejnkefgpeaaDoorRows
import GoSem.ClaimSeven
namespace Go.Proofs.YtkhfejnkefgpeaaDoor
namespace Rows

/-- THE TIED CARD OF 'cortadolaw13.TinyPlays'. -/
def tinyPlaysCard : Claim7 := { stood := { row := tinyPlaysRow, standIns := [], harness := (true, "2f26a2ab7add6d17d4949132475a080690783693413db798185df5de055455cd"), looks := false }, kinds := [], alts := [], laidByText := true, laidKinds := [.data, .data], laidTests := true, laidLooks := .later }
def TinyPlaysCardSaid : Prop := Claim7.holds Tryd.pinned (.plain (OpenSpec.ofChange tinyPlaysSpec)) tinyPlaysCard

/-- THE TIED CARD OF 'cortadolaw13.TinyRises'. -/
def tinyRisesCard : Claim7 := { stood := { row := tinyRisesRow, standIns := [], harness := (true, "2f26a2ab7add6d17d4949132475a080690783693413db798185df5de055455cd"), looks := false }, kinds := [], alts := [], laidByText := true, laidKinds := [.data, .data], laidTests := true, laidLooks := .later }
def TinyRisesCardSaid : Prop := Claim7.holds Tryd.pinned (.plain (OpenSpec.ofChange tinyRisesSpec)) tinyRisesCard

/-- THE SECOND FORM's CARD OF 'cortadolaw13.TinyPlays'. -/
def tinyPlaysUptoCard : Claim7 := { stood := { row := tinyPlaysUptoRow, standIns := [], harness := (true, "2f26a2ab7add6d17d4949132475a080690783693413db798185df5de055455cd"), looks := false }, kinds := [], alts := [], laidByText := true, laidKinds := [.data, .data], laidTests := true, laidLooks := .later }
def TinyPlaysUptoCardSaid : Prop := Claim7.holds Tryd.pinned (.plain (OpenSpec.upto tinyPlaysSpec)) tinyPlaysUptoCard

/-- THE SECOND FORM's CARD OF 'cortadolaw13.TinyRises'. -/
def tinyRisesUptoCard : Claim7 := { stood := { row := tinyRisesUptoRow, standIns := [], harness := (true, "2f26a2ab7add6d17d4949132475a080690783693413db798185df5de055455cd"), looks := false }, kinds := [], alts := [], laidByText := true, laidKinds := [.data, .data], laidTests := true, laidLooks := .later }
def TinyRisesUptoCardSaid : Prop := Claim7.holds Tryd.pinned (.plain (OpenSpec.upto tinyRisesSpec)) tinyRisesUptoCard
end Rows
end Go.Proofs.YtkhfejnkefgpeaaDoor
