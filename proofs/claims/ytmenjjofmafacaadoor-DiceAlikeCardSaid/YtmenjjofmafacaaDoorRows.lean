/-
  NARROWER THAN 'FOR EVERY INPUT', by the rows' own cells (each row's printed sentence says how): MixBack: laid · DiceDraws: laid · KeyBack: laid · DiceAlike: laid.
  DERIVED. THE GIVEN ROWS OF THIS SEAT. 4 by the template 'for every input the law returns true; each argument reads behind the call as it read before'; 0 by the template 'total and deterministic' (their statements: YtmenjjofmafacaaDoorTotals.lean).
  GIVEN WITH THE SEED: the statements are not yours to turn. If you find one false, say at which input.
  Laid BY PROGRAM, IN A SANDBOX (cutbox-rows.mjs): the forced cells as the released guide's own fill.sh prints them over the translation a3a3a7e4022c0b96… (all of the seat's roots in one cut). By AI agents, Wed Nov 11 2026. No macro, syntax, notation, axiom, sorry.
-/
import Derived.Test.YtmenjjofmafacaaDoorChecked
import GoSem.Claim
import GoSem.ClaimJoined
import GoSem.ClaimMapViews
import Derived.JoinedTies
import Derived.KernelRfl
namespace Go.Proofs.YtmenjjofmafacaaDoor
/- THE CELL 'sum', in the pinned program and in every row, IS THE sha256 OF THE DUMP (.gsa) THAT YtmenjjofmafacaaDoorProg.lean LOADS. Nothing in Lean hashes anything: it is a label: what it is worth is what the hold of that sum in a sandbox is worth. -/
noncomputable def Tryd.pinned : Pinned := { name := "ytmenjjofmafacaadoor", sum := "a3a3a7e4022c0b96c13bb0d7d53fb543e1c37e0e2f28c165d7cc61d8cdf2d386", checked := Tryd.checked }
namespace Rows
def none {H : Type} : Left H := { results := [], args := [] }

/- WHAT THE LISTED PACKAGE-LEVEL VARIABLES READ AS WHEN THE CALL BEGINS. Each datum BY PROGRAM (the guide's laid-datum.mjs) off the statement by which the dump's own 'gosem.cut.vars' lays the variable. In a bare row this is a premise. The card (YtmenjjofmafacaaDoorCards.lean) ties it to the program's text. -/
def laid_cortado_mix_mixed {H : Type} : DataW H := .agg [.agg [.lit (.int .i64 30), .lit (.int .u64 13787848793156543929)], .agg [.lit (.int .i64 27), .lit (.int .u64 10723151780598845931)], .agg [.lit (.int .i64 31), .lit (.int .u64 1)]]
def laid_cortado_mix_twisted {H : Type} : DataW H := .agg [.agg [.lit (.int .i64 33), .lit (.int .u64 18397679294719823053)], .agg [.lit (.int .i64 33), .lit (.int .u64 14181476777654086739)], .agg [.lit (.int .i64 33), .lit (.int .u64 1)]]

/-- 'cortadolaw03.MixBack': WHATEVER THE INPUT: true; the input reads as it did. -/
def mixBackSpec : ChangeSpec := { name := "mixBack", fn := fun _ => fun
  | [d1, d2] => { results := [.lit (.bool true)], args := [d1, d2] }
  | _ => none }
def mixBackRow : OpenClaim := { program := "ytmenjjofmafacaadoor", sum := "a3a3a7e4022c0b96c13bb0d7d53fb543e1c37e0e2f28c165d7cc61d8cdf2d386", func := "cortado/cortadolaw03.MixBack", spec := "mixBack", named := ["cortado/mix.mixed", "cortado/mix.twisted"], apart := false, laid := [("cortado/mix.mixed", laid_cortado_mix_mixed), ("cortado/mix.twisted", laid_cortado_mix_twisted)] }
def MixBackSaid : Prop := mixBackRow.holds Tryd.pinned (OpenSpec.ofChange mixBackSpec)

/-- ITS FALSE NEIGHBOUR: 'it returns false'. Refute it at one input. -/
def mixBackWrong : ChangeSpec := { name := "mixBack", fn := fun _ => fun
  | [d1, d2] => { results := [.lit (.bool false)], args := [d1, d2] }
  | _ => none }
def MixBackWrongFalsely : Prop := mixBackRow.holds Tryd.pinned (OpenSpec.ofChange mixBackWrong)

/-- 'cortadolaw15.DiceDraws': WHATEVER THE INPUT: true; the input reads as it did. -/
def diceDrawsSpec : ChangeSpec := { name := "diceDraws", fn := fun _ => fun
  | [d1, d2, d3] => { results := [.lit (.bool true)], args := [d1, d2, d3] }
  | _ => none }
def diceDrawsRow : OpenClaim := { program := "ytmenjjofmafacaadoor", sum := "a3a3a7e4022c0b96c13bb0d7d53fb543e1c37e0e2f28c165d7cc61d8cdf2d386", func := "cortado/cortadolaw15.DiceDraws", spec := "diceDraws", named := ["cortado/mix.mixed"], apart := false, laid := [("cortado/mix.mixed", laid_cortado_mix_mixed)] }
def DiceDrawsSaid : Prop := diceDrawsRow.holds Tryd.pinned (OpenSpec.ofChange diceDrawsSpec)

/-- ITS FALSE NEIGHBOUR: 'it returns false'. Refute it at one input. -/
def diceDrawsWrong : ChangeSpec := { name := "diceDraws", fn := fun _ => fun
  | [d1, d2, d3] => { results := [.lit (.bool false)], args := [d1, d2, d3] }
  | _ => none }
def DiceDrawsWrongFalsely : Prop := diceDrawsRow.holds Tryd.pinned (OpenSpec.ofChange diceDrawsWrong)

/-- 'cortadolaw06.KeyBack': WHATEVER THE INPUT: true; the input reads as it did. -/
def keyBackSpec : ChangeSpec := { name := "keyBack", fn := fun _ => fun
  | [d1, d2] => { results := [.lit (.bool true)], args := [d1, d2] }
  | _ => none }
def keyBackRow : OpenClaim := { program := "ytmenjjofmafacaadoor", sum := "a3a3a7e4022c0b96c13bb0d7d53fb543e1c37e0e2f28c165d7cc61d8cdf2d386", func := "cortado/cortadolaw06.KeyBack", spec := "keyBack", named := ["cortado/mix.mixed", "cortado/mix.twisted"], apart := false, laid := [("cortado/mix.mixed", laid_cortado_mix_mixed), ("cortado/mix.twisted", laid_cortado_mix_twisted)] }
def KeyBackSaid : Prop := keyBackRow.holds Tryd.pinned (OpenSpec.ofChange keyBackSpec)

/-- ITS FALSE NEIGHBOUR: 'it returns false'. Refute it at one input. -/
def keyBackWrong : ChangeSpec := { name := "keyBack", fn := fun _ => fun
  | [d1, d2] => { results := [.lit (.bool false)], args := [d1, d2] }
  | _ => none }
def KeyBackWrongFalsely : Prop := keyBackRow.holds Tryd.pinned (OpenSpec.ofChange keyBackWrong)

/-- 'cortadolaw15.DiceAlike': WHATEVER THE INPUT: true; the input reads as it did. -/
def diceAlikeSpec : ChangeSpec := { name := "diceAlike", fn := fun _ => fun
  | [d1, d2, d3] => { results := [.lit (.bool true)], args := [d1, d2, d3] }
  | _ => none }
def diceAlikeRow : OpenClaim := { program := "ytmenjjofmafacaadoor", sum := "a3a3a7e4022c0b96c13bb0d7d53fb543e1c37e0e2f28c165d7cc61d8cdf2d386", func := "cortado/cortadolaw15.DiceAlike", spec := "diceAlike", named := ["cortado/mix.mixed"], apart := false, laid := [("cortado/mix.mixed", laid_cortado_mix_mixed)] }
def DiceAlikeSaid : Prop := diceAlikeRow.holds Tryd.pinned (OpenSpec.ofChange diceAlikeSpec)

/-- ITS FALSE NEIGHBOUR: 'it returns false'. Refute it at one input. -/
def diceAlikeWrong : ChangeSpec := { name := "diceAlike", fn := fun _ => fun
  | [d1, d2, d3] => { results := [.lit (.bool false)], args := [d1, d2, d3] }
  | _ => none }
def DiceAlikeWrongFalsely : Prop := diceAlikeRow.holds Tryd.pinned (OpenSpec.ofChange diceAlikeWrong)

/- THE SECOND FORM. 'bulk': how many values and letters a reading holds, each counted each time it is reached (what is shared counts as often as it is met; a slice's spare places count too). A statement '..UptoSaid' is the law's where the arguments, and the package variables that the reading takes, are together of bulk at most 1048576: NARROWER than '..Said'. Prove '..Said' where nothing that the law and all that it calls make is longer than what came in: it says more and counts as full. Else prove '..UptoSaid'. A law counts once. -/
mutual
def uptoBulk {H : Type} : DataW H → Nat
  | .lit (.string bytes) => bytes.length + 1
  | .lit _ => 1
  | .nil => 1
  | .ptr d => uptoBulk d + 1
  | .slice elems spare => uptoBulkAll elems + uptoBulkAll spare + 1
  | .agg parts => uptoBulkAll parts + 1
  | .iface _ d => uptoBulk d + 1
  | .map entries => uptoBulkEntries entries + 1
  | .held _ => 1
def uptoBulkAll {H : Type} : List (DataW H) → Nat
  | [] => 0
  | d :: r => uptoBulk d + uptoBulkAll r
def uptoBulkEntries {H : Type} : List (Lit × DataW H) → Nat
  | [] => 0
  | x :: r => uptoBulkEntry x + uptoBulkEntries r
def uptoBulkEntry {H : Type} : Lit × DataW H → Nat
  | (.string bytes, d) => bytes.length + uptoBulk d + 1
  | (_, d) => uptoBulk d + 1
 end
def uptoSmall : (H : Type) → List (DataW H) → Bool := fun _ ds => decide (uptoBulkAll ds ≤ 1048576)
def OpenSpec.upto (s : _root_.Go.ChangeSpec) : _root_.Go.OpenSpec := { _root_.Go.OpenSpec.ofChange s with cond := some uptoSmall }

/-- 'cortadolaw03.MixBack', WHERE WHAT IT READS IS OF BULK AT MOST 1048576: true; the input reads as it did. -/
def mixBackUptoRow : OpenClaim := { program := "ytmenjjofmafacaadoor", sum := "a3a3a7e4022c0b96c13bb0d7d53fb543e1c37e0e2f28c165d7cc61d8cdf2d386", func := "cortado/cortadolaw03.MixBack", spec := "mixBack", named := ["cortado/mix.mixed", "cortado/mix.twisted"], apart := false, laid := [("cortado/mix.mixed", laid_cortado_mix_mixed), ("cortado/mix.twisted", laid_cortado_mix_twisted)], narrowed := true }
def MixBackUptoSaid : Prop := mixBackUptoRow.holds Tryd.pinned (OpenSpec.upto mixBackSpec)

/-- 'cortadolaw15.DiceDraws', WHERE WHAT IT READS IS OF BULK AT MOST 1048576: true; the input reads as it did. -/
def diceDrawsUptoRow : OpenClaim := { program := "ytmenjjofmafacaadoor", sum := "a3a3a7e4022c0b96c13bb0d7d53fb543e1c37e0e2f28c165d7cc61d8cdf2d386", func := "cortado/cortadolaw15.DiceDraws", spec := "diceDraws", named := ["cortado/mix.mixed"], apart := false, laid := [("cortado/mix.mixed", laid_cortado_mix_mixed)], narrowed := true }
def DiceDrawsUptoSaid : Prop := diceDrawsUptoRow.holds Tryd.pinned (OpenSpec.upto diceDrawsSpec)

/-- 'cortadolaw06.KeyBack', WHERE WHAT IT READS IS OF BULK AT MOST 1048576: true; the input reads as it did. -/
def keyBackUptoRow : OpenClaim := { program := "ytmenjjofmafacaadoor", sum := "a3a3a7e4022c0b96c13bb0d7d53fb543e1c37e0e2f28c165d7cc61d8cdf2d386", func := "cortado/cortadolaw06.KeyBack", spec := "keyBack", named := ["cortado/mix.mixed", "cortado/mix.twisted"], apart := false, laid := [("cortado/mix.mixed", laid_cortado_mix_mixed), ("cortado/mix.twisted", laid_cortado_mix_twisted)], narrowed := true }
def KeyBackUptoSaid : Prop := keyBackUptoRow.holds Tryd.pinned (OpenSpec.upto keyBackSpec)

/-- 'cortadolaw15.DiceAlike', WHERE WHAT IT READS IS OF BULK AT MOST 1048576: true; the input reads as it did. -/
def diceAlikeUptoRow : OpenClaim := { program := "ytmenjjofmafacaadoor", sum := "a3a3a7e4022c0b96c13bb0d7d53fb543e1c37e0e2f28c165d7cc61d8cdf2d386", func := "cortado/cortadolaw15.DiceAlike", spec := "diceAlike", named := ["cortado/mix.mixed"], apart := false, laid := [("cortado/mix.mixed", laid_cortado_mix_mixed)], narrowed := true }
def DiceAlikeUptoSaid : Prop := diceAlikeUptoRow.holds Tryd.pinned (OpenSpec.upto diceAlikeSpec)

end Rows
end Go.Proofs.YtmenjjofmafacaaDoor
