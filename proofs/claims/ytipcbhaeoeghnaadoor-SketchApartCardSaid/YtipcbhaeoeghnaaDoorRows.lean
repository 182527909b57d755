/-
  NARROWER THAN 'FOR EVERY INPUT', by the rows' own cells (each row's printed sentence says how): ProgRight: laid · KeyPairs: laid · SketchApart: laid · ProgBack: laid.
  DERIVED. THE GIVEN ROWS OF THIS SEAT. 4 by the template 'for every input the law returns true; each argument reads behind the call as it read before'; 0 by the template 'total and deterministic' (their statements: YtipcbhaeoeghnaaDoorTotals.lean).
  GIVEN WITH THE SEED: the statements are not yours to turn. If you find one false, say at which input.
  Laid BY PROGRAM, IN A SANDBOX (cutbox-rows.mjs): the forced cells as the released guide's own fill.sh prints them over the translation 73cce63a763efc64… (all of the seat's roots in one cut). By AI agents, Wed Nov 11 2026. No macro, syntax, notation, axiom, sorry.
-/
import Derived.Test.YtipcbhaeoeghnaaDoorChecked
import GoSem.Claim
import GoSem.ClaimJoined
import GoSem.ClaimMapViews
import Derived.JoinedTies
import Derived.KernelRfl
namespace Go.Proofs.YtipcbhaeoeghnaaDoor
/- THE CELL 'sum', in the pinned program and in every row, IS THE sha256 OF THE DUMP (.gsa) THAT YtipcbhaeoeghnaaDoorProg.lean LOADS. Nothing in Lean hashes anything: it is a label: what it is worth is what the hold of that sum in a sandbox is worth. -/
noncomputable def Tryd.pinned : Pinned := { name := "ytipcbhaeoeghnaadoor", sum := "73cce63a763efc64661f5fdbae6e9409e28c09409f6bfb51130a634c487d5c1e", checked := Tryd.checked }
namespace Rows
def none {H : Type} : Left H := { results := [], args := [] }

/- WHAT THE LISTED PACKAGE-LEVEL VARIABLES READ AS WHEN THE CALL BEGINS. Each datum BY PROGRAM (the guide's laid-datum.mjs) off the statement by which the dump's own 'gosem.cut.vars' lays the variable. In a bare row this is a premise. The card (YtipcbhaeoeghnaaDoorCards.lean) ties it to the program's text. -/
def laid_cortado_prog_names {H : Type} : DataW H := .agg [.lit (.string [110, 111, 110, 101]), .lit (.string [103, 101, 116]), .lit (.string [115, 101, 116]), .lit (.string [100, 101, 108]), .lit (.string [119, 97, 105, 116]), .lit (.string [99, 108, 101, 97, 114]), .lit (.string [99, 108, 111, 115, 101]), .lit (.string [108, 105, 109, 105, 116])]
def laid_cortado_mix_mixed {H : Type} : DataW H := .agg [.agg [.lit (.int .i64 30), .lit (.int .u64 13787848793156543929)], .agg [.lit (.int .i64 27), .lit (.int .u64 10723151780598845931)], .agg [.lit (.int .i64 31), .lit (.int .u64 1)]]
def laid_cortado_mix_twisted {H : Type} : DataW H := .agg [.agg [.lit (.int .i64 33), .lit (.int .u64 18397679294719823053)], .agg [.lit (.int .i64 33), .lit (.int .u64 14181476777654086739)], .agg [.lit (.int .i64 33), .lit (.int .u64 1)]]

/-- 'cortadolaw17.ProgRight': WHATEVER THE INPUT: true; the input reads as it did. -/
def progRightSpec : ChangeSpec := { name := "progRight", fn := fun _ => fun
  | [d1, d2] => { results := [.lit (.bool true)], args := [d1, d2] }
  | _ => none }
def progRightRow : OpenClaim := { program := "ytipcbhaeoeghnaadoor", sum := "73cce63a763efc64661f5fdbae6e9409e28c09409f6bfb51130a634c487d5c1e", func := "cortado/cortadolaw17.ProgRight", spec := "progRight", unfollowed := true, recurses := true, named := ["cortado/prog.names"], apart := false, laid := [("cortado/prog.names", laid_cortado_prog_names)] }
def ProgRightSaid : Prop := progRightRow.holds Tryd.pinned (OpenSpec.ofChange progRightSpec)

/-- ITS FALSE NEIGHBOUR: 'it returns false'. Refute it at one input. -/
def progRightWrong : ChangeSpec := { name := "progRight", fn := fun _ => fun
  | [d1, d2] => { results := [.lit (.bool false)], args := [d1, d2] }
  | _ => none }
def ProgRightWrongFalsely : Prop := progRightRow.holds Tryd.pinned (OpenSpec.ofChange progRightWrong)

/-- 'cortadolaw06.KeyPairs': WHATEVER THE INPUT: true; the input reads as it did. -/
def keyPairsSpec : ChangeSpec := { name := "keyPairs", fn := fun _ => fun
  | [d1, d2, d3] => { results := [.lit (.bool true)], args := [d1, d2, d3] }
  | _ => none }
def keyPairsRow : OpenClaim := { program := "ytipcbhaeoeghnaadoor", sum := "73cce63a763efc64661f5fdbae6e9409e28c09409f6bfb51130a634c487d5c1e", func := "cortado/cortadolaw06.KeyPairs", spec := "keyPairs", named := ["cortado/mix.mixed", "cortado/mix.twisted"], apart := false, laid := [("cortado/mix.mixed", laid_cortado_mix_mixed), ("cortado/mix.twisted", laid_cortado_mix_twisted)] }
def KeyPairsSaid : Prop := keyPairsRow.holds Tryd.pinned (OpenSpec.ofChange keyPairsSpec)

/-- ITS FALSE NEIGHBOUR: 'it returns false'. Refute it at one input. -/
def keyPairsWrong : ChangeSpec := { name := "keyPairs", fn := fun _ => fun
  | [d1, d2, d3] => { results := [.lit (.bool false)], args := [d1, d2, d3] }
  | _ => none }
def KeyPairsWrongFalsely : Prop := keyPairsRow.holds Tryd.pinned (OpenSpec.ofChange keyPairsWrong)

/-- 'cortadolaw11.SketchApart': WHATEVER THE INPUT: true; the input reads as it did. -/
def sketchApartSpec : ChangeSpec := { name := "sketchApart", fn := fun _ => fun
  | [d1, d2, d3] => { results := [.lit (.bool true)], args := [d1, d2, d3] }
  | _ => none }
def sketchApartRow : OpenClaim := { program := "ytipcbhaeoeghnaadoor", sum := "73cce63a763efc64661f5fdbae6e9409e28c09409f6bfb51130a634c487d5c1e", func := "cortado/cortadolaw11.SketchApart", spec := "sketchApart", named := ["cortado/mix.mixed"], apart := false, laid := [("cortado/mix.mixed", laid_cortado_mix_mixed)] }
def SketchApartSaid : Prop := sketchApartRow.holds Tryd.pinned (OpenSpec.ofChange sketchApartSpec)

/-- ITS FALSE NEIGHBOUR: 'it returns false'. Refute it at one input. -/
def sketchApartWrong : ChangeSpec := { name := "sketchApart", fn := fun _ => fun
  | [d1, d2, d3] => { results := [.lit (.bool false)], args := [d1, d2, d3] }
  | _ => none }
def SketchApartWrongFalsely : Prop := sketchApartRow.holds Tryd.pinned (OpenSpec.ofChange sketchApartWrong)

/-- 'cortadolaw17.ProgBack': WHATEVER THE INPUT: true; the input reads as it did. -/
def progBackSpec : ChangeSpec := { name := "progBack", fn := fun _ => fun
  | [d1, d2] => { results := [.lit (.bool true)], args := [d1, d2] }
  | _ => none }
def progBackRow : OpenClaim := { program := "ytipcbhaeoeghnaadoor", sum := "73cce63a763efc64661f5fdbae6e9409e28c09409f6bfb51130a634c487d5c1e", func := "cortado/cortadolaw17.ProgBack", spec := "progBack", unfollowed := true, recurses := true, named := ["cortado/prog.names"], apart := false, laid := [("cortado/prog.names", laid_cortado_prog_names)] }
def ProgBackSaid : Prop := progBackRow.holds Tryd.pinned (OpenSpec.ofChange progBackSpec)

/-- ITS FALSE NEIGHBOUR: 'it returns false'. Refute it at one input. -/
def progBackWrong : ChangeSpec := { name := "progBack", fn := fun _ => fun
  | [d1, d2] => { results := [.lit (.bool false)], args := [d1, d2] }
  | _ => none }
def ProgBackWrongFalsely : Prop := progBackRow.holds Tryd.pinned (OpenSpec.ofChange progBackWrong)

/- THE SECOND FORM. 'bulk': how many values and letters a reading holds, each counted each time it is reached (what is shared counts as often as it is met; a slice's spare places count too). A statement '..UptoSaid' is the law's where the arguments, and the package variables that the reading takes, are together of bulk at most 1048576: NARROWER than '..Said'. Prove '..Said' where nothing that the law and all that it calls make is longer than what came in: it says more and counts as full. Else prove '..UptoSaid'. A law counts once. -/
mutual
def uptoBulk {H : Type} : DataW H → Nat
  | .lit (.string bytes) => bytes.length + 1
  | .lit _ => 1
  | .nil => 1
  | .ptr d => uptoBulk d + 1
  | .slice elems spare => uptoBulkAll elems + uptoBulkAll spare + 1
  | .agg parts => uptoBulkAll parts + 1
  | .iface _ d => uptoBulk d + 1
  | .map entries => uptoBulkEntries entries + 1
  | .held _ => 1
def uptoBulkAll {H : Type} : List (DataW H) → Nat
  | [] => 0
  | d :: r => uptoBulk d + uptoBulkAll r
def uptoBulkEntries {H : Type} : List (Lit × DataW H) → Nat
  | [] => 0
  | x :: r => uptoBulkEntry x + uptoBulkEntries r
def uptoBulkEntry {H : Type} : Lit × DataW H → Nat
  | (.string bytes, d) => bytes.length + uptoBulk d + 1
  | (_, d) => uptoBulk d + 1
 end
def uptoSmall : (H : Type) → List (DataW H) → Bool := fun _ ds => decide (uptoBulkAll ds ≤ 1048576)
def OpenSpec.upto (s : _root_.Go.ChangeSpec) : _root_.Go.OpenSpec := { _root_.Go.OpenSpec.ofChange s with cond := some uptoSmall }

/-- 'cortadolaw17.ProgRight', WHERE WHAT IT READS IS OF BULK AT MOST 1048576: true; the input reads as it did. -/
def progRightUptoRow : OpenClaim := { program := "ytipcbhaeoeghnaadoor", sum := "73cce63a763efc64661f5fdbae6e9409e28c09409f6bfb51130a634c487d5c1e", func := "cortado/cortadolaw17.ProgRight", spec := "progRight", unfollowed := true, recurses := true, named := ["cortado/prog.names"], apart := false, laid := [("cortado/prog.names", laid_cortado_prog_names)], narrowed := true }
def ProgRightUptoSaid : Prop := progRightUptoRow.holds Tryd.pinned (OpenSpec.upto progRightSpec)

/-- 'cortadolaw06.KeyPairs', WHERE WHAT IT READS IS OF BULK AT MOST 1048576: true; the input reads as it did. -/
def keyPairsUptoRow : OpenClaim := { program := "ytipcbhaeoeghnaadoor", sum := "73cce63a763efc64661f5fdbae6e9409e28c09409f6bfb51130a634c487d5c1e", func := "cortado/cortadolaw06.KeyPairs", spec := "keyPairs", named := ["cortado/mix.mixed", "cortado/mix.twisted"], apart := false, laid := [("cortado/mix.mixed", laid_cortado_mix_mixed), ("cortado/mix.twisted", laid_cortado_mix_twisted)], narrowed := true }
def KeyPairsUptoSaid : Prop := keyPairsUptoRow.holds Tryd.pinned (OpenSpec.upto keyPairsSpec)

/-- 'cortadolaw11.SketchApart', WHERE WHAT IT READS IS OF BULK AT MOST 1048576: true; the input reads as it did. -/
def sketchApartUptoRow : OpenClaim := { program := "ytipcbhaeoeghnaadoor", sum := "73cce63a763efc64661f5fdbae6e9409e28c09409f6bfb51130a634c487d5c1e", func := "cortado/cortadolaw11.SketchApart", spec := "sketchApart", named := ["cortado/mix.mixed"], apart := false, laid := [("cortado/mix.mixed", laid_cortado_mix_mixed)], narrowed := true }
def SketchApartUptoSaid : Prop := sketchApartUptoRow.holds Tryd.pinned (OpenSpec.upto sketchApartSpec)

/-- 'cortadolaw17.ProgBack', WHERE WHAT IT READS IS OF BULK AT MOST 1048576: true; the input reads as it did. -/
def progBackUptoRow : OpenClaim := { program := "ytipcbhaeoeghnaadoor", sum := "73cce63a763efc64661f5fdbae6e9409e28c09409f6bfb51130a634c487d5c1e", func := "cortado/cortadolaw17.ProgBack", spec := "progBack", unfollowed := true, recurses := true, named := ["cortado/prog.names"], apart := false, laid := [("cortado/prog.names", laid_cortado_prog_names)], narrowed := true }
def ProgBackUptoSaid : Prop := progBackUptoRow.holds Tryd.pinned (OpenSpec.upto progBackSpec)

end Rows
end Go.Proofs.YtipcbhaeoeghnaaDoor
