/-
  DERIVED. GIVEN WITH THE SEED: THE CARDS: each row of YtajckpjlliiekaaDoorRows.lean that lists a variable, with what it lists TIED to the program's text (the seventh form; the later family's looks); each row that meets fmt, with fmt's text TOLD by the authors' own Lean function (tested against real Go, not proved from fmt's source: count such statements apart). THE CARD IS WHAT COUNTS. Prove the row's statement (the work); the ties are given (YtajckpjlliiekaaDoorTie.lean); close each card by the builder's one call (the guide's Derived/Test/ToyasCard.lean, 'card_holds'). Laid BY PROGRAM, IN A SANDBOX (cutbox-door.mjs). By AI agents, Wed Nov 11 2026. No macro, syntax, notation, axiom, sorry.
-/
import Derived.Test.YtajckpjlliiekaaDoorRows
import GoSem.ClaimSeven
namespace Go.Proofs.YtajckpjlliiekaaDoor
namespace Rows

/-- THE TIED CARD OF 'cortadolaw25.SampleWhole'. -/
def sampleWholeCard : Claim7 := { stood := { row := sampleWholeRow, standIns := [], harness := (true, "52201012b0f2aff87d729fc35669531b50b989f93f2f4d140b1e36fcf65f897a"), looks := false }, kinds := [], alts := [], laidByText := true, laidKinds := [.data], laidTests := true, laidLooks := .later }
def SampleWholeCardSaid : Prop := Claim7.holds Tryd.pinned (.plain (OpenSpec.ofChange sampleWholeSpec)) sampleWholeCard

/-- THE TIED CARD OF 'cortadolaw25.SampleFills'. -/
def sampleFillsCard : Claim7 := { stood := { row := sampleFillsRow, standIns := [], harness := (true, "52201012b0f2aff87d729fc35669531b50b989f93f2f4d140b1e36fcf65f897a"), looks := false }, kinds := [], alts := [], laidByText := true, laidKinds := [.data], laidTests := true, laidLooks := .later }
def SampleFillsCardSaid : Prop := Claim7.holds Tryd.pinned (.plain (OpenSpec.ofChange sampleFillsSpec)) sampleFillsCard

/-- THE TIED CARD OF 'cortadolaw25.SampleLeast'. -/
def sampleLeastCard : Claim7 := { stood := { row := sampleLeastRow, standIns := [], harness := (true, "52201012b0f2aff87d729fc35669531b50b989f93f2f4d140b1e36fcf65f897a"), looks := false }, kinds := [], alts := [], laidByText := true, laidKinds := [.data], laidTests := true, laidLooks := .later }
def SampleLeastCardSaid : Prop := Claim7.holds Tryd.pinned (.plain (OpenSpec.ofChange sampleLeastSpec)) sampleLeastCard

/-- THE TIED CARD OF 'cortadolaw26.PolicyAdmits'. -/
def policyAdmitsCard : Claim7 := { stood := { row := policyAdmitsRow, standIns := [], harness := (true, "52201012b0f2aff87d729fc35669531b50b989f93f2f4d140b1e36fcf65f897a"), looks := false }, kinds := [], alts := [], laidByText := true, laidKinds := [.data, .data], laidTests := true, laidLooks := .later }
def PolicyAdmitsCardSaid : Prop := Claim7.holds Tryd.pinned (.plain (OpenSpec.ofChange policyAdmitsSpec)) policyAdmitsCard

/-- THE TIED CARD OF 'cortadolaw26.PolicyKeeps'. -/
def policyKeepsCard : Claim7 := { stood := { row := policyKeepsRow, standIns := [], harness := (true, "52201012b0f2aff87d729fc35669531b50b989f93f2f4d140b1e36fcf65f897a"), looks := false }, kinds := [], alts := [], laidByText := true, laidKinds := [.data, .data], laidTests := true, laidLooks := .later }
def PolicyKeepsCardSaid : Prop := Claim7.holds Tryd.pinned (.plain (OpenSpec.ofChange policyKeepsSpec)) policyKeepsCard

/-- THE SECOND FORM's CARD OF 'cortadolaw25.SampleWhole'. -/
def sampleWholeUptoCard : Claim7 := { stood := { row := sampleWholeUptoRow, standIns := [], harness := (true, "52201012b0f2aff87d729fc35669531b50b989f93f2f4d140b1e36fcf65f897a"), looks := false }, kinds := [], alts := [], laidByText := true, laidKinds := [.data], laidTests := true, laidLooks := .later }
def SampleWholeUptoCardSaid : Prop := Claim7.holds Tryd.pinned (.plain (OpenSpec.upto sampleWholeSpec)) sampleWholeUptoCard

/-- THE SECOND FORM's CARD OF 'cortadolaw25.SampleFills'. -/
def sampleFillsUptoCard : Claim7 := { stood := { row := sampleFillsUptoRow, standIns := [], harness := (true, "52201012b0f2aff87d729fc35669531b50b989f93f2f4d140b1e36fcf65f897a"), looks := false }, kinds := [], alts := [], laidByText := true, laidKinds := [.data], laidTests := true, laidLooks := .later }
def SampleFillsUptoCardSaid : Prop := Claim7.holds Tryd.pinned (.plain (OpenSpec.upto sampleFillsSpec)) sampleFillsUptoCard

/-- THE SECOND FORM's CARD OF 'cortadolaw25.SampleLeast'. -/
def sampleLeastUptoCard : Claim7 := { stood := { row := sampleLeastUptoRow, standIns := [], harness := (true, "52201012b0f2aff87d729fc35669531b50b989f93f2f4d140b1e36fcf65f897a"), looks := false }, kinds := [], alts := [], laidByText := true, laidKinds := [.data], laidTests := true, laidLooks := .later }
def SampleLeastUptoCardSaid : Prop := Claim7.holds Tryd.pinned (.plain (OpenSpec.upto sampleLeastSpec)) sampleLeastUptoCard

/-- THE SECOND FORM's CARD OF 'cortadolaw26.PolicyAdmits'. -/
def policyAdmitsUptoCard : Claim7 := { stood := { row := policyAdmitsUptoRow, standIns := [], harness := (true, "52201012b0f2aff87d729fc35669531b50b989f93f2f4d140b1e36fcf65f897a"), looks := false }, kinds := [], alts := [], laidByText := true, laidKinds := [.data, .data], laidTests := true, laidLooks := .later }
def PolicyAdmitsUptoCardSaid : Prop := Claim7.holds Tryd.pinned (.plain (OpenSpec.upto policyAdmitsSpec)) policyAdmitsUptoCard

/-- THE SECOND FORM's CARD OF 'cortadolaw26.PolicyKeeps'. -/
def policyKeepsUptoCard : Claim7 := { stood := { row := policyKeepsUptoRow, standIns := [], harness := (true, "52201012b0f2aff87d729fc35669531b50b989f93f2f4d140b1e36fcf65f897a"), looks := false }, kinds := [], alts := [], laidByText := true, laidKinds := [.data, .data], laidTests := true, laidLooks := .later }
def PolicyKeepsUptoCardSaid : Prop := Claim7.holds Tryd.pinned (.plain (OpenSpec.upto policyKeepsSpec)) policyKeepsUptoCard
end Rows
end Go.Proofs.YtajckpjlliiekaaDoor
