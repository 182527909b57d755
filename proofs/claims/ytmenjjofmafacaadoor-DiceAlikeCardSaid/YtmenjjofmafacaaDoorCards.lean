/-
  DERIVED. GIVEN WITH THE SEED: THE CARDS: each row of YtmenjjofmafacaaDoorRows.lean that lists a variable, with what it lists TIED to the program's text (the seventh form; the later family's looks); each row that meets fmt, with fmt's text TOLD by the authors' own Lean function (tested against real Go, not proved from fmt's source: count such statements apart). THE CARD IS WHAT COUNTS. Prove the row's statement (the work); the ties are given (YtmenjjofmafacaaDoorTie.lean); close each card by the builder's one call (the guide's Derived/Test/ToyasCard.lean, 'card_holds'). Laid BY PROGRAM, IN A SANDBOX (cutbox-door.mjs). By AI agents, Wed Nov 11 2026. No macro, syntax, notation, axiom, sorry.
-/
import Derived.Test.YtmenjjofmafacaaDoorRows
import GoSem.ClaimSeven
namespace Go.Proofs.YtmenjjofmafacaaDoor
namespace Rows

/-- THE TIED CARD OF 'cortadolaw03.MixBack'. -/
def mixBackCard : Claim7 := { stood := { row := mixBackRow, standIns := [], harness := (true, "40a4bc79528c5238c5aac3102e46dbacf58cbbabd79182cd0d35997860c4fba7"), looks := false }, kinds := [], alts := [], laidByText := true, laidKinds := [.data, .data], laidTests := true, laidLooks := .later }
def MixBackCardSaid : Prop := Claim7.holds Tryd.pinned (.plain (OpenSpec.ofChange mixBackSpec)) mixBackCard

/-- THE TIED CARD OF 'cortadolaw15.DiceDraws'. -/
def diceDrawsCard : Claim7 := { stood := { row := diceDrawsRow, standIns := [], harness := (true, "40a4bc79528c5238c5aac3102e46dbacf58cbbabd79182cd0d35997860c4fba7"), looks := false }, kinds := [], alts := [], laidByText := true, laidKinds := [.data], laidTests := true, laidLooks := .later }
def DiceDrawsCardSaid : Prop := Claim7.holds Tryd.pinned (.plain (OpenSpec.ofChange diceDrawsSpec)) diceDrawsCard

/-- THE TIED CARD OF 'cortadolaw06.KeyBack'. -/
def keyBackCard : Claim7 := { stood := { row := keyBackRow, standIns := [], harness := (true, "40a4bc79528c5238c5aac3102e46dbacf58cbbabd79182cd0d35997860c4fba7"), looks := false }, kinds := [], alts := [], laidByText := true, laidKinds := [.data, .data], laidTests := true, laidLooks := .later }
def KeyBackCardSaid : Prop := Claim7.holds Tryd.pinned (.plain (OpenSpec.ofChange keyBackSpec)) keyBackCard

/-- THE TIED CARD OF 'cortadolaw15.DiceAlike'. -/
def diceAlikeCard : Claim7 := { stood := { row := diceAlikeRow, standIns := [], harness := (true, "40a4bc79528c5238c5aac3102e46dbacf58cbbabd79182cd0d35997860c4fba7"), looks := false }, kinds := [], alts := [], laidByText := true, laidKinds := [.data], laidTests := true, laidLooks := .later }
def DiceAlikeCardSaid : Prop := Claim7.holds Tryd.pinned (.plain (OpenSpec.ofChange diceAlikeSpec)) diceAlikeCard

/-- THE SECOND FORM's CARD OF 'cortadolaw03.MixBack'. -/
def mixBackUptoCard : Claim7 := { stood := { row := mixBackUptoRow, standIns := [], harness := (true, "40a4bc79528c5238c5aac3102e46dbacf58cbbabd79182cd0d35997860c4fba7"), looks := false }, kinds := [], alts := [], laidByText := true, laidKinds := [.data, .data], laidTests := true, laidLooks := .later }
def MixBackUptoCardSaid : Prop := Claim7.holds Tryd.pinned (.plain (OpenSpec.upto mixBackSpec)) mixBackUptoCard

/-- THE SECOND FORM's CARD OF 'cortadolaw15.DiceDraws'. -/
def diceDrawsUptoCard : Claim7 := { stood := { row := diceDrawsUptoRow, standIns := [], harness := (true, "40a4bc79528c5238c5aac3102e46dbacf58cbbabd79182cd0d35997860c4fba7"), looks := false }, kinds := [], alts := [], laidByText := true, laidKinds := [.data], laidTests := true, laidLooks := .later }
def DiceDrawsUptoCardSaid : Prop := Claim7.holds Tryd.pinned (.plain (OpenSpec.upto diceDrawsSpec)) diceDrawsUptoCard

/-- THE SECOND FORM's CARD OF 'cortadolaw06.KeyBack'. -/
def keyBackUptoCard : Claim7 := { stood := { row := keyBackUptoRow, standIns := [], harness := (true, "40a4bc79528c5238c5aac3102e46dbacf58cbbabd79182cd0d35997860c4fba7"), looks := false }, kinds := [], alts := [], laidByText := true, laidKinds := [.data, .data], laidTests := true, laidLooks := .later }
def KeyBackUptoCardSaid : Prop := Claim7.holds Tryd.pinned (.plain (OpenSpec.upto keyBackSpec)) keyBackUptoCard

/-- THE SECOND FORM's CARD OF 'cortadolaw15.DiceAlike'. -/
def diceAlikeUptoCard : Claim7 := { stood := { row := diceAlikeUptoRow, standIns := [], harness := (true, "40a4bc79528c5238c5aac3102e46dbacf58cbbabd79182cd0d35997860c4fba7"), looks := false }, kinds := [], alts := [], laidByText := true, laidKinds := [.data], laidTests := true, laidLooks := .later }
def DiceAlikeUptoCardSaid : Prop := Claim7.holds Tryd.pinned (.plain (OpenSpec.upto diceAlikeSpec)) diceAlikeUptoCard
end Rows
end Go.Proofs.YtmenjjofmafacaaDoor
