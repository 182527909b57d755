/-
  NARROWER THAN 'FOR EVERY INPUT', by the rows' own cells (each row's printed sentence says how): ProgReads: laid · TinyPlays: laid · TinyRises: laid · SampleWhole: laid.
  DERIVED. THE GIVEN ROWS OF THIS SEAT. 4 by the template 'for every input the law returns true; each argument reads behind the call as it read before'; 0 by the template 'total and deterministic' (their statements: YtkcaeknkfgpnhaaDoorTotals.lean).
  GIVEN WITH THE SEED: the statements are not yours to turn. If you find one false, say at which input.
  Laid BY PROGRAM, IN A SANDBOX (cutbox-rows.mjs): the forced cells as the released guide's own fill.sh prints them over the translation fdff28cbf1ef8307… (all of the seat's roots in one cut). By AI agents, Wed Nov 11 2026. No macro, syntax, notation, axiom, sorry.
-/
import Derived.Test.YtkcaeknkfgpnhaaDoorChecked
import GoSem.Claim
import GoSem.ClaimJoined
import GoSem.ClaimMapViews
import Derived.JoinedTies
import Derived.KernelRfl
namespace Go.Proofs.YtkcaeknkfgpnhaaDoor
/- THE CELL 'sum', in the pinned program and in every row, IS THE sha256 OF THE DUMP (.gsa) THAT YtkcaeknkfgpnhaaDoorProg.lean LOADS. Nothing in Lean hashes anything: it is a label: what it is worth is what the hold of that sum in a sandbox is worth. -/
noncomputable def Tryd.pinned : Pinned := { name := "ytkcaeknkfgpnhaadoor", sum := "fdff28cbf1ef83071a08e6527911659fcaff8411280a34f314732fd42833ba4b", checked := Tryd.checked }
namespace Rows
def none {H : Type} : Left H := { results := [], args := [] }

/- WHAT THE LISTED PACKAGE-LEVEL VARIABLES READ AS WHEN THE CALL BEGINS. Each datum BY PROGRAM (the guide's laid-datum.mjs) off the statement by which the dump's own 'gosem.cut.vars' lays the variable. In a bare row this is a premise. The card (YtkcaeknkfgpnhaaDoorCards.lean) ties it to the program's text. -/
def laid_cortado_prog_names {H : Type} : DataW H := .agg [.lit (.string [110, 111, 110, 101]), .lit (.string [103, 101, 116]), .lit (.string [115, 101, 116]), .lit (.string [100, 101, 108]), .lit (.string [119, 97, 105, 116]), .lit (.string [99, 108, 101, 97, 114]), .lit (.string [99, 108, 111, 115, 101]), .lit (.string [108, 105, 109, 105, 116])]
def laid_cortado_mix_mixed {H : Type} : DataW H := .agg [.agg [.lit (.int .i64 30), .lit (.int .u64 13787848793156543929)], .agg [.lit (.int .i64 27), .lit (.int .u64 10723151780598845931)], .agg [.lit (.int .i64 31), .lit (.int .u64 1)]]
def laid_cortado_mix_twisted {H : Type} : DataW H := .agg [.agg [.lit (.int .i64 33), .lit (.int .u64 18397679294719823053)], .agg [.lit (.int .i64 33), .lit (.int .u64 14181476777654086739)], .agg [.lit (.int .i64 33), .lit (.int .u64 1)]]

/-- 'cortadolaw17.ProgReads': WHATEVER THE INPUT: true; the input reads as it did. -/
def progReadsSpec : ChangeSpec := { name := "progReads", fn := fun _ => fun
  | [d1, d2] => { results := [.lit (.bool true)], args := [d1, d2] }
  | _ => none }
def progReadsRow : OpenClaim := { program := "ytkcaeknkfgpnhaadoor", sum := "fdff28cbf1ef83071a08e6527911659fcaff8411280a34f314732fd42833ba4b", func := "cortado/cortadolaw17.ProgReads", spec := "progReads", unfollowed := true, recurses := true, named := ["cortado/prog.names"], apart := false, laid := [("cortado/prog.names", laid_cortado_prog_names)] }
def ProgReadsSaid : Prop := progReadsRow.holds Tryd.pinned (OpenSpec.ofChange progReadsSpec)

/-- ITS FALSE NEIGHBOUR: 'it returns false'. Refute it at one input. -/
def progReadsWrong : ChangeSpec := { name := "progReads", fn := fun _ => fun
  | [d1, d2] => { results := [.lit (.bool false)], args := [d1, d2] }
  | _ => none }
def ProgReadsWrongFalsely : Prop := progReadsRow.holds Tryd.pinned (OpenSpec.ofChange progReadsWrong)

/-- 'cortadolaw13.TinyPlays': WHATEVER THE INPUT: true; the input reads as it did. -/
def tinyPlaysSpec : ChangeSpec := { name := "tinyPlays", fn := fun _ => fun
  | [d1, d2, d3] => { results := [.lit (.bool true)], args := [d1, d2, d3] }
  | _ => none }
def tinyPlaysRow : OpenClaim := { program := "ytkcaeknkfgpnhaadoor", sum := "fdff28cbf1ef83071a08e6527911659fcaff8411280a34f314732fd42833ba4b", func := "cortado/cortadolaw13.TinyPlays", spec := "tinyPlays", named := ["cortado/mix.mixed", "cortado/mix.twisted"], apart := false, laid := [("cortado/mix.mixed", laid_cortado_mix_mixed), ("cortado/mix.twisted", laid_cortado_mix_twisted)] }
def TinyPlaysSaid : Prop := tinyPlaysRow.holds Tryd.pinned (OpenSpec.ofChange tinyPlaysSpec)

/-- ITS FALSE NEIGHBOUR: 'it returns false'. Refute it at one input. -/
def tinyPlaysWrong : ChangeSpec := { name := "tinyPlays", fn := fun _ => fun
  | [d1, d2, d3] => { results := [.lit (.bool false)], args := [d1, d2, d3] }
  | _ => none }
def TinyPlaysWrongFalsely : Prop := tinyPlaysRow.holds Tryd.pinned (OpenSpec.ofChange tinyPlaysWrong)

/-- 'cortadolaw13.TinyRises': WHATEVER THE INPUT: true; the input reads as it did. -/
def tinyRisesSpec : ChangeSpec := { name := "tinyRises", fn := fun _ => fun
  | [d1, d2, d3] => { results := [.lit (.bool true)], args := [d1, d2, d3] }
  | _ => none }
def tinyRisesRow : OpenClaim := { program := "ytkcaeknkfgpnhaadoor", sum := "fdff28cbf1ef83071a08e6527911659fcaff8411280a34f314732fd42833ba4b", func := "cortado/cortadolaw13.TinyRises", spec := "tinyRises", named := ["cortado/mix.mixed", "cortado/mix.twisted"], apart := false, laid := [("cortado/mix.mixed", laid_cortado_mix_mixed), ("cortado/mix.twisted", laid_cortado_mix_twisted)] }
def TinyRisesSaid : Prop := tinyRisesRow.holds Tryd.pinned (OpenSpec.ofChange tinyRisesSpec)

/-- ITS FALSE NEIGHBOUR: 'it returns false'. Refute it at one input. -/
def tinyRisesWrong : ChangeSpec := { name := "tinyRises", fn := fun _ => fun
  | [d1, d2, d3] => { results := [.lit (.bool false)], args := [d1, d2, d3] }
  | _ => none }
def TinyRisesWrongFalsely : Prop := tinyRisesRow.holds Tryd.pinned (OpenSpec.ofChange tinyRisesWrong)

/-- 'cortadolaw25.SampleWhole': WHATEVER THE INPUT: true; the input reads as it did. -/
def sampleWholeSpec : ChangeSpec := { name := "sampleWhole", fn := fun _ => fun
  | [d1, d2, d3] => { results := [.lit (.bool true)], args := [d1, d2, d3] }
  | _ => none }
def sampleWholeRow : OpenClaim := { program := "ytkcaeknkfgpnhaadoor", sum := "fdff28cbf1ef83071a08e6527911659fcaff8411280a34f314732fd42833ba4b", func := "cortado/cortadolaw25.SampleWhole", spec := "sampleWhole", unfollowed := true, recurses := true, named := ["cortado/mix.mixed"], apart := false, laid := [("cortado/mix.mixed", laid_cortado_mix_mixed)] }
def SampleWholeSaid : Prop := sampleWholeRow.holds Tryd.pinned (OpenSpec.ofChange sampleWholeSpec)

/-- ITS FALSE NEIGHBOUR: 'it returns false'. Refute it at one input. -/
def sampleWholeWrong : ChangeSpec := { name := "sampleWhole", fn := fun _ => fun
  | [d1, d2, d3] => { results := [.lit (.bool false)], args := [d1, d2, d3] }
  | _ => none }
def SampleWholeWrongFalsely : Prop := sampleWholeRow.holds Tryd.pinned (OpenSpec.ofChange sampleWholeWrong)

/- THE SECOND FORM. 'bulk': how many values and letters a reading holds, each counted each time it is reached (what is shared counts as often as it is met; a slice's spare places count too). A statement '..UptoSaid' is the law's where the arguments, and the package variables that the reading takes, are together of bulk at most 1048576: NARROWER than '..Said'. Prove '..Said' where nothing that the law and all that it calls make is longer than what came in: it says more and counts as full. Else prove '..UptoSaid'. A law counts once. -/
mutual
def uptoBulk {H : Type} : DataW H → Nat
  | .lit (.string bytes) => bytes.length + 1
  | .lit _ => 1
  | .nil => 1
  | .ptr d => uptoBulk d + 1
  | .slice elems spare => uptoBulkAll elems + uptoBulkAll spare + 1
  | .agg parts => uptoBulkAll parts + 1
  | .iface _ d => uptoBulk d + 1
  | .map entries => uptoBulkEntries entries + 1
  | .held _ => 1
def uptoBulkAll {H : Type} : List (DataW H) → Nat
  | [] => 0
  | d :: r => uptoBulk d + uptoBulkAll r
def uptoBulkEntries {H : Type} : List (Lit × DataW H) → Nat
  | [] => 0
  | x :: r => uptoBulkEntry x + uptoBulkEntries r
def uptoBulkEntry {H : Type} : Lit × DataW H → Nat
  | (.string bytes, d) => bytes.length + uptoBulk d + 1
  | (_, d) => uptoBulk d + 1
 end
def uptoSmall : (H : Type) → List (DataW H) → Bool := fun _ ds => decide (uptoBulkAll ds ≤ 1048576)
def OpenSpec.upto (s : _root_.Go.ChangeSpec) : _root_.Go.OpenSpec := { _root_.Go.OpenSpec.ofChange s with cond := some uptoSmall }

/-- 'cortadolaw17.ProgReads', WHERE WHAT IT READS IS OF BULK AT MOST 1048576: true; the input reads as it did. -/
def progReadsUptoRow : OpenClaim := { program := "ytkcaeknkfgpnhaadoor", sum := "fdff28cbf1ef83071a08e6527911659fcaff8411280a34f314732fd42833ba4b", func := "cortado/cortadolaw17.ProgReads", spec := "progReads", unfollowed := true, recurses := true, named := ["cortado/prog.names"], apart := false, laid := [("cortado/prog.names", laid_cortado_prog_names)], narrowed := true }
def ProgReadsUptoSaid : Prop := progReadsUptoRow.holds Tryd.pinned (OpenSpec.upto progReadsSpec)

/-- 'cortadolaw13.TinyPlays', WHERE WHAT IT READS IS OF BULK AT MOST 1048576: true; the input reads as it did. -/
def tinyPlaysUptoRow : OpenClaim := { program := "ytkcaeknkfgpnhaadoor", sum := "fdff28cbf1ef83071a08e6527911659fcaff8411280a34f314732fd42833ba4b", func := "cortado/cortadolaw13.TinyPlays", spec := "tinyPlays", named := ["cortado/mix.mixed", "cortado/mix.twisted"], apart := false, laid := [("cortado/mix.mixed", laid_cortado_mix_mixed), ("cortado/mix.twisted", laid_cortado_mix_twisted)], narrowed := true }
def TinyPlaysUptoSaid : Prop := tinyPlaysUptoRow.holds Tryd.pinned (OpenSpec.upto tinyPlaysSpec)

/-- 'cortadolaw13.TinyRises', WHERE WHAT IT READS IS OF BULK AT MOST 1048576: true; the input reads as it did. -/
def tinyRisesUptoRow : OpenClaim := { program := "ytkcaeknkfgpnhaadoor", sum := "fdff28cbf1ef83071a08e6527911659fcaff8411280a34f314732fd42833ba4b", func := "cortado/cortadolaw13.TinyRises", spec := "tinyRises", named := ["cortado/mix.mixed", "cortado/mix.twisted"], apart := false, laid := [("cortado/mix.mixed", laid_cortado_mix_mixed), ("cortado/mix.twisted", laid_cortado_mix_twisted)], narrowed := true }
def TinyRisesUptoSaid : Prop := tinyRisesUptoRow.holds Tryd.pinned (OpenSpec.upto tinyRisesSpec)

/-- 'cortadolaw25.SampleWhole', WHERE WHAT IT READS IS OF BULK AT MOST 1048576: true; the input reads as it did. -/
def sampleWholeUptoRow : OpenClaim := { program := "ytkcaeknkfgpnhaadoor", sum := "fdff28cbf1ef83071a08e6527911659fcaff8411280a34f314732fd42833ba4b", func := "cortado/cortadolaw25.SampleWhole", spec := "sampleWhole", unfollowed := true, recurses := true, named := ["cortado/mix.mixed"], apart := false, laid := [("cortado/mix.mixed", laid_cortado_mix_mixed)], narrowed := true }
def SampleWholeUptoSaid : Prop := sampleWholeUptoRow.holds Tryd.pinned (OpenSpec.upto sampleWholeSpec)

end Rows
end Go.Proofs.YtkcaeknkfgpnhaaDoor
