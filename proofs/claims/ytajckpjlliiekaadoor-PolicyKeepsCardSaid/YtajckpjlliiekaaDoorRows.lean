/-
  NARROWER THAN 'FOR EVERY INPUT', by the rows' own cells (each row's printed sentence says how): SampleWhole: laid · SampleFills: laid · SampleLeast: laid · PolicyAdmits: laid · PolicyKeeps: laid.
  DERIVED. THE GIVEN ROWS OF THIS SEAT. 5 by the template 'for every input the law returns true; each argument reads behind the call as it read before'; 0 by the template 'total and deterministic' (their statements: YtajckpjlliiekaaDoorTotals.lean).
  GIVEN WITH THE SEED: the statements are not yours to turn. If you find one false, say at which input.
  Laid BY PROGRAM, IN A SANDBOX (cutbox-rows.mjs): the forced cells as the released guide's own fill.sh prints them over the translation e66f2a174114c42c… (all of the seat's roots in one cut). By AI agents, Wed Nov 11 2026. No macro, syntax, notation, axiom, sorry.
-/
import Derived.Test.YtajckpjlliiekaaDoorChecked
import GoSem.Claim
import GoSem.ClaimJoined
import GoSem.ClaimMapViews
import Derived.JoinedTies
import Derived.KernelRfl
namespace Go.Proofs.YtajckpjlliiekaaDoor
/- THE CELL 'sum', in the pinned program and in every row, IS THE sha256 OF THE DUMP (.gsa) THAT YtajckpjlliiekaaDoorProg.lean LOADS. Nothing in Lean hashes anything: it is a label: what it is worth is what the hold of that sum in a sandbox is worth. -/
noncomputable def Tryd.pinned : Pinned := { name := "ytajckpjlliiekaadoor", sum := "e66f2a174114c42c44e56144bb124470cc75630806b24cf83af04318ac0ddccf", checked := Tryd.checked }
namespace Rows
def none {H : Type} : Left H := { results := [], args := [] }

/- WHAT THE LISTED PACKAGE-LEVEL VARIABLES READ AS WHEN THE CALL BEGINS. Each datum BY PROGRAM (the guide's laid-datum.mjs) off the statement by which the dump's own 'gosem.cut.vars' lays the variable. In a bare row this is a premise. The card (YtajckpjlliiekaaDoorCards.lean) ties it to the program's text. -/
def laid_cortado_mix_mixed {H : Type} : DataW H := .agg [.agg [.lit (.int .i64 30), .lit (.int .u64 13787848793156543929)], .agg [.lit (.int .i64 27), .lit (.int .u64 10723151780598845931)], .agg [.lit (.int .i64 31), .lit (.int .u64 1)]]
def laid_cortado_mix_twisted {H : Type} : DataW H := .agg [.agg [.lit (.int .i64 33), .lit (.int .u64 18397679294719823053)], .agg [.lit (.int .i64 33), .lit (.int .u64 14181476777654086739)], .agg [.lit (.int .i64 33), .lit (.int .u64 1)]]

/-- 'cortadolaw25.SampleWhole': WHATEVER THE INPUT: true; the input reads as it did. -/
def sampleWholeSpec : ChangeSpec := { name := "sampleWhole", fn := fun _ => fun
  | [d1, d2, d3] => { results := [.lit (.bool true)], args := [d1, d2, d3] }
  | _ => none }
def sampleWholeRow : OpenClaim := { program := "ytajckpjlliiekaadoor", sum := "e66f2a174114c42c44e56144bb124470cc75630806b24cf83af04318ac0ddccf", func := "cortado/cortadolaw25.SampleWhole", spec := "sampleWhole", unfollowed := true, recurses := true, named := ["cortado/mix.mixed"], apart := false, laid := [("cortado/mix.mixed", laid_cortado_mix_mixed)] }
def SampleWholeSaid : Prop := sampleWholeRow.holds Tryd.pinned (OpenSpec.ofChange sampleWholeSpec)

/-- ITS FALSE NEIGHBOUR: 'it returns false'. Refute it at one input. -/
def sampleWholeWrong : ChangeSpec := { name := "sampleWhole", fn := fun _ => fun
  | [d1, d2, d3] => { results := [.lit (.bool false)], args := [d1, d2, d3] }
  | _ => none }
def SampleWholeWrongFalsely : Prop := sampleWholeRow.holds Tryd.pinned (OpenSpec.ofChange sampleWholeWrong)

/-- 'cortadolaw25.SampleFills': WHATEVER THE INPUT: true; the input reads as it did. -/
def sampleFillsSpec : ChangeSpec := { name := "sampleFills", fn := fun _ => fun
  | [d1, d2, d3] => { results := [.lit (.bool true)], args := [d1, d2, d3] }
  | _ => none }
def sampleFillsRow : OpenClaim := { program := "ytajckpjlliiekaadoor", sum := "e66f2a174114c42c44e56144bb124470cc75630806b24cf83af04318ac0ddccf", func := "cortado/cortadolaw25.SampleFills", spec := "sampleFills", unfollowed := true, recurses := true, named := ["cortado/mix.mixed"], apart := false, laid := [("cortado/mix.mixed", laid_cortado_mix_mixed)] }
def SampleFillsSaid : Prop := sampleFillsRow.holds Tryd.pinned (OpenSpec.ofChange sampleFillsSpec)

/-- ITS FALSE NEIGHBOUR: 'it returns false'. Refute it at one input. -/
def sampleFillsWrong : ChangeSpec := { name := "sampleFills", fn := fun _ => fun
  | [d1, d2, d3] => { results := [.lit (.bool false)], args := [d1, d2, d3] }
  | _ => none }
def SampleFillsWrongFalsely : Prop := sampleFillsRow.holds Tryd.pinned (OpenSpec.ofChange sampleFillsWrong)

/-- 'cortadolaw25.SampleLeast': WHATEVER THE INPUT: true; the input reads as it did. -/
def sampleLeastSpec : ChangeSpec := { name := "sampleLeast", fn := fun _ => fun
  | [d1, d2, d3] => { results := [.lit (.bool true)], args := [d1, d2, d3] }
  | _ => none }
def sampleLeastRow : OpenClaim := { program := "ytajckpjlliiekaadoor", sum := "e66f2a174114c42c44e56144bb124470cc75630806b24cf83af04318ac0ddccf", func := "cortado/cortadolaw25.SampleLeast", spec := "sampleLeast", unfollowed := true, recurses := true, named := ["cortado/mix.mixed"], apart := false, laid := [("cortado/mix.mixed", laid_cortado_mix_mixed)] }
def SampleLeastSaid : Prop := sampleLeastRow.holds Tryd.pinned (OpenSpec.ofChange sampleLeastSpec)

/-- ITS FALSE NEIGHBOUR: 'it returns false'. Refute it at one input. -/
def sampleLeastWrong : ChangeSpec := { name := "sampleLeast", fn := fun _ => fun
  | [d1, d2, d3] => { results := [.lit (.bool false)], args := [d1, d2, d3] }
  | _ => none }
def SampleLeastWrongFalsely : Prop := sampleLeastRow.holds Tryd.pinned (OpenSpec.ofChange sampleLeastWrong)

/-- 'cortadolaw26.PolicyAdmits': WHATEVER THE INPUT: true; the input reads as it did. -/
def policyAdmitsSpec : ChangeSpec := { name := "policyAdmits", fn := fun _ => fun
  | [d1, d2, d3] => { results := [.lit (.bool true)], args := [d1, d2, d3] }
  | _ => none }
def policyAdmitsRow : OpenClaim := { program := "ytajckpjlliiekaadoor", sum := "e66f2a174114c42c44e56144bb124470cc75630806b24cf83af04318ac0ddccf", func := "cortado/cortadolaw26.PolicyAdmits", spec := "policyAdmits", unfollowed := true, recurses := true, named := ["cortado/mix.mixed", "cortado/mix.twisted"], apart := false, laid := [("cortado/mix.mixed", laid_cortado_mix_mixed), ("cortado/mix.twisted", laid_cortado_mix_twisted)] }
def PolicyAdmitsSaid : Prop := policyAdmitsRow.holds Tryd.pinned (OpenSpec.ofChange policyAdmitsSpec)

/-- ITS FALSE NEIGHBOUR: 'it returns false'. Refute it at one input. -/
def policyAdmitsWrong : ChangeSpec := { name := "policyAdmits", fn := fun _ => fun
  | [d1, d2, d3] => { results := [.lit (.bool false)], args := [d1, d2, d3] }
  | _ => none }
def PolicyAdmitsWrongFalsely : Prop := policyAdmitsRow.holds Tryd.pinned (OpenSpec.ofChange policyAdmitsWrong)

/-- 'cortadolaw26.PolicyKeeps': WHATEVER THE INPUT: true; the input reads as it did. -/
def policyKeepsSpec : ChangeSpec := { name := "policyKeeps", fn := fun _ => fun
  | [d1, d2] => { results := [.lit (.bool true)], args := [d1, d2] }
  | _ => none }
def policyKeepsRow : OpenClaim := { program := "ytajckpjlliiekaadoor", sum := "e66f2a174114c42c44e56144bb124470cc75630806b24cf83af04318ac0ddccf", func := "cortado/cortadolaw26.PolicyKeeps", spec := "policyKeeps", unfollowed := true, recurses := true, named := ["cortado/mix.mixed", "cortado/mix.twisted"], apart := false, laid := [("cortado/mix.mixed", laid_cortado_mix_mixed), ("cortado/mix.twisted", laid_cortado_mix_twisted)] }
def PolicyKeepsSaid : Prop := policyKeepsRow.holds Tryd.pinned (OpenSpec.ofChange policyKeepsSpec)

/-- ITS FALSE NEIGHBOUR: 'it returns false'. Refute it at one input. -/
def policyKeepsWrong : ChangeSpec := { name := "policyKeeps", fn := fun _ => fun
  | [d1, d2] => { results := [.lit (.bool false)], args := [d1, d2] }
  | _ => none }
def PolicyKeepsWrongFalsely : Prop := policyKeepsRow.holds Tryd.pinned (OpenSpec.ofChange policyKeepsWrong)

/- THE SECOND FORM. 'bulk': how many values and letters a reading holds, each counted each time it is reached (what is shared counts as often as it is met; a slice's spare places count too). A statement '..UptoSaid' is the law's where the arguments, and the package variables that the reading takes, are together of bulk at most 1048576: NARROWER than '..Said'. Prove '..Said' where nothing that the law and all that it calls make is longer than what came in: it says more and counts as full. Else prove '..UptoSaid'. A law counts once. -/
mutual
def uptoBulk {H : Type} : DataW H → Nat
  | .lit (.string bytes) => bytes.length + 1
  | .lit _ => 1
  | .nil => 1
  | .ptr d => uptoBulk d + 1
  | .slice elems spare => uptoBulkAll elems + uptoBulkAll spare + 1
  | .agg parts => uptoBulkAll parts + 1
  | .iface _ d => uptoBulk d + 1
  | .map entries => uptoBulkEntries entries + 1
  | .held _ => 1
def uptoBulkAll {H : Type} : List (DataW H) → Nat
  | [] => 0
  | d :: r => uptoBulk d + uptoBulkAll r
def uptoBulkEntries {H : Type} : List (Lit × DataW H) → Nat
  | [] => 0
  | x :: r => uptoBulkEntry x + uptoBulkEntries r
def uptoBulkEntry {H : Type} : Lit × DataW H → Nat
  | (.string bytes, d) => bytes.length + uptoBulk d + 1
  | (_, d) => uptoBulk d + 1
 end
def uptoSmall : (H : Type) → List (DataW H) → Bool := fun _ ds => decide (uptoBulkAll ds ≤ 1048576)
def OpenSpec.upto (s : _root_.Go.ChangeSpec) : _root_.Go.OpenSpec := { _root_.Go.OpenSpec.ofChange s with cond := some uptoSmall }

/-- 'cortadolaw25.SampleWhole', WHERE WHAT IT READS IS OF BULK AT MOST 1048576: true; the input reads as it did. -/
def sampleWholeUptoRow : OpenClaim := { program := "ytajckpjlliiekaadoor", sum := "e66f2a174114c42c44e56144bb124470cc75630806b24cf83af04318ac0ddccf", func := "cortado/cortadolaw25.SampleWhole", spec := "sampleWhole", unfollowed := true, recurses := true, named := ["cortado/mix.mixed"], apart := false, laid := [("cortado/mix.mixed", laid_cortado_mix_mixed)], narrowed := true }
def SampleWholeUptoSaid : Prop := sampleWholeUptoRow.holds Tryd.pinned (OpenSpec.upto sampleWholeSpec)

/-- 'cortadolaw25.SampleFills', WHERE WHAT IT READS IS OF BULK AT MOST 1048576: true; the input reads as it did. -/
def sampleFillsUptoRow : OpenClaim := { program := "ytajckpjlliiekaadoor", sum := "e66f2a174114c42c44e56144bb124470cc75630806b24cf83af04318ac0ddccf", func := "cortado/cortadolaw25.SampleFills", spec := "sampleFills", unfollowed := true, recurses := true, named := ["cortado/mix.mixed"], apart := false, laid := [("cortado/mix.mixed", laid_cortado_mix_mixed)], narrowed := true }
def SampleFillsUptoSaid : Prop := sampleFillsUptoRow.holds Tryd.pinned (OpenSpec.upto sampleFillsSpec)

/-- 'cortadolaw25.SampleLeast', WHERE WHAT IT READS IS OF BULK AT MOST 1048576: true; the input reads as it did. -/
def sampleLeastUptoRow : OpenClaim := { program := "ytajckpjlliiekaadoor", sum := "e66f2a174114c42c44e56144bb124470cc75630806b24cf83af04318ac0ddccf", func := "cortado/cortadolaw25.SampleLeast", spec := "sampleLeast", unfollowed := true, recurses := true, named := ["cortado/mix.mixed"], apart := false, laid := [("cortado/mix.mixed", laid_cortado_mix_mixed)], narrowed := true }
def SampleLeastUptoSaid : Prop := sampleLeastUptoRow.holds Tryd.pinned (OpenSpec.upto sampleLeastSpec)

/-- 'cortadolaw26.PolicyAdmits', WHERE WHAT IT READS IS OF BULK AT MOST 1048576: true; the input reads as it did. -/
def policyAdmitsUptoRow : OpenClaim := { program := "ytajckpjlliiekaadoor", sum := "e66f2a174114c42c44e56144bb124470cc75630806b24cf83af04318ac0ddccf", func := "cortado/cortadolaw26.PolicyAdmits", spec := "policyAdmits", unfollowed := true, recurses := true, named := ["cortado/mix.mixed", "cortado/mix.twisted"], apart := false, laid := [("cortado/mix.mixed", laid_cortado_mix_mixed), ("cortado/mix.twisted", laid_cortado_mix_twisted)], narrowed := true }
def PolicyAdmitsUptoSaid : Prop := policyAdmitsUptoRow.holds Tryd.pinned (OpenSpec.upto policyAdmitsSpec)

/-- 'cortadolaw26.PolicyKeeps', WHERE WHAT IT READS IS OF BULK AT MOST 1048576: true; the input reads as it did. -/
def policyKeepsUptoRow : OpenClaim := { program := "ytajckpjlliiekaadoor", sum := "e66f2a174114c42c44e56144bb124470cc75630806b24cf83af04318ac0ddccf", func := "cortado/cortadolaw26.PolicyKeeps", spec := "policyKeeps", unfollowed := true, recurses := true, named := ["cortado/mix.mixed", "cortado/mix.twisted"], apart := false, laid := [("cortado/mix.mixed", laid_cortado_mix_mixed), ("cortado/mix.twisted", laid_cortado_mix_twisted)], narrowed := true }
def PolicyKeepsUptoSaid : Prop := policyKeepsUptoRow.holds Tryd.pinned (OpenSpec.upto policyKeepsSpec)

end Rows
end Go.Proofs.YtajckpjlliiekaaDoor
