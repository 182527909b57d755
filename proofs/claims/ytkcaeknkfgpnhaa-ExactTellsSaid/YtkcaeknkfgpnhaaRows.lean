/-
  No cell of these rows narrows 'for every input' (looked for: loops, veiled, ifaces, maps, wideKeys, modest, calm, conditions, laid).
  DERIVED. THE GIVEN ROWS OF THIS SEAT. 8 by the template 'for every input the law returns true; each argument reads behind the call as it read before'; 0 by the template 'total and deterministic' (their statements: YtkcaeknkfgpnhaaTotals.lean).
  GIVEN WITH THE SEED: the statements are not yours to turn. If you find one false, say at which input.
  Laid BY PROGRAM, IN A SANDBOX (cutbox-rows.mjs): the forced cells as the released guide's own fill.sh prints them over the translation 665baf8f3ce8a11e… (all of the seat's roots in one cut). By AI agents, Wed Nov 11 2026. No macro, syntax, notation, axiom, sorry.
-/
import Derived.Test.YtkcaeknkfgpnhaaChecked
import GoSem.Claim
import GoSem.ClaimJoined
import GoSem.ClaimMapViews
import Derived.JoinedTies
import Derived.KernelRfl
namespace Go.Proofs.Ytkcaeknkfgpnhaa
/- THE CELL 'sum', in the pinned program and in every row, IS THE sha256 OF THE DUMP (.gsa) THAT YtkcaeknkfgpnhaaProg.lean LOADS. Nothing in Lean hashes anything: it is a label: what it is worth is what the hold of that sum in a sandbox is worth. -/
noncomputable def Try.pinned : Pinned := { name := "ytkcaeknkfgpnhaa", sum := "665baf8f3ce8a11e56a599d0499e650c80d8829600571cbbc6abe86baae36696", checked := Try.checked }
namespace Rows
def none {H : Type} : Left H := { results := [], args := [] }

/-- 'cortadolaw18.ScriptParses': WHATEVER THE INPUT: true; the input reads as it did. -/
def scriptParsesSpec : ChangeSpec := { name := "scriptParses", fn := fun _ => fun
  | [d] => { results := [.lit (.bool true)], args := [d] }
  | _ => none }
def scriptParsesRow : OpenClaim := { program := "ytkcaeknkfgpnhaa", sum := "665baf8f3ce8a11e56a599d0499e650c80d8829600571cbbc6abe86baae36696", func := "cortado/cortadolaw18.ScriptParses", spec := "scriptParses", unfollowed := true, recurses := true, apart := false }
def ScriptParsesSaid : Prop := scriptParsesRow.holds Try.pinned (OpenSpec.ofChange scriptParsesSpec)

/-- ITS FALSE NEIGHBOUR: 'it returns false'. Refute it at one input. -/
def scriptParsesWrong : ChangeSpec := { name := "scriptParses", fn := fun _ => fun
  | [d] => { results := [.lit (.bool false)], args := [d] }
  | _ => none }
def ScriptParsesWrongFalsely : Prop := scriptParsesRow.holds Try.pinned (OpenSpec.ofChange scriptParsesWrong)

/-- 'cortadolaw18.ScriptLong': WHATEVER THE INPUT: true; the input reads as it did. -/
def scriptLongSpec : ChangeSpec := { name := "scriptLong", fn := fun _ => fun
  | [d1, d2] => { results := [.lit (.bool true)], args := [d1, d2] }
  | _ => none }
def scriptLongRow : OpenClaim := { program := "ytkcaeknkfgpnhaa", sum := "665baf8f3ce8a11e56a599d0499e650c80d8829600571cbbc6abe86baae36696", func := "cortado/cortadolaw18.ScriptLong", spec := "scriptLong", unfollowed := true, recurses := true, apart := false }
def ScriptLongSaid : Prop := scriptLongRow.holds Try.pinned (OpenSpec.ofChange scriptLongSpec)

/-- ITS FALSE NEIGHBOUR: 'it returns false'. Refute it at one input. -/
def scriptLongWrong : ChangeSpec := { name := "scriptLong", fn := fun _ => fun
  | [d1, d2] => { results := [.lit (.bool false)], args := [d1, d2] }
  | _ => none }
def ScriptLongWrongFalsely : Prop := scriptLongRow.holds Try.pinned (OpenSpec.ofChange scriptLongWrong)

/-- 'cortadolaw08.RankPlays': WHATEVER THE INPUT: true; the input reads as it did. -/
def rankPlaysSpec : ChangeSpec := { name := "rankPlays", fn := fun _ => fun
  | [d] => { results := [.lit (.bool true)], args := [d] }
  | _ => none }
def rankPlaysRow : OpenClaim := { program := "ytkcaeknkfgpnhaa", sum := "665baf8f3ce8a11e56a599d0499e650c80d8829600571cbbc6abe86baae36696", func := "cortado/cortadolaw08.RankPlays", spec := "rankPlays", unfollowed := true, recurses := true, apart := false }
def RankPlaysSaid : Prop := rankPlaysRow.holds Try.pinned (OpenSpec.ofChange rankPlaysSpec)

/-- ITS FALSE NEIGHBOUR: 'it returns false'. Refute it at one input. -/
def rankPlaysWrong : ChangeSpec := { name := "rankPlays", fn := fun _ => fun
  | [d] => { results := [.lit (.bool false)], args := [d] }
  | _ => none }
def RankPlaysWrongFalsely : Prop := rankPlaysRow.holds Try.pinned (OpenSpec.ofChange rankPlaysWrong)

/-- 'cortadolaw27.StripeOrder': WHATEVER THE INPUT: true; the input reads as it did. -/
def stripeOrderSpec : ChangeSpec := { name := "stripeOrder", fn := fun _ => fun
  | [d1, d2] => { results := [.lit (.bool true)], args := [d1, d2] }
  | _ => none }
def stripeOrderRow : OpenClaim := { program := "ytkcaeknkfgpnhaa", sum := "665baf8f3ce8a11e56a599d0499e650c80d8829600571cbbc6abe86baae36696", func := "cortado/cortadolaw27.StripeOrder", spec := "stripeOrder", unfollowed := true, recurses := true, apart := false }
def StripeOrderSaid : Prop := stripeOrderRow.holds Try.pinned (OpenSpec.ofChange stripeOrderSpec)

/-- ITS FALSE NEIGHBOUR: 'it returns false'. Refute it at one input. -/
def stripeOrderWrong : ChangeSpec := { name := "stripeOrder", fn := fun _ => fun
  | [d1, d2] => { results := [.lit (.bool false)], args := [d1, d2] }
  | _ => none }
def StripeOrderWrongFalsely : Prop := stripeOrderRow.holds Try.pinned (OpenSpec.ofChange stripeOrderWrong)

/-- 'cortadolaw08.RankAlike': WHATEVER THE INPUT: true; the input reads as it did. -/
def rankAlikeSpec : ChangeSpec := { name := "rankAlike", fn := fun _ => fun
  | [d1, d2] => { results := [.lit (.bool true)], args := [d1, d2] }
  | _ => none }
def rankAlikeRow : OpenClaim := { program := "ytkcaeknkfgpnhaa", sum := "665baf8f3ce8a11e56a599d0499e650c80d8829600571cbbc6abe86baae36696", func := "cortado/cortadolaw08.RankAlike", spec := "rankAlike", unfollowed := true, recurses := true, apart := false }
def RankAlikeSaid : Prop := rankAlikeRow.holds Try.pinned (OpenSpec.ofChange rankAlikeSpec)

/-- ITS FALSE NEIGHBOUR: 'it returns false'. Refute it at one input. -/
def rankAlikeWrong : ChangeSpec := { name := "rankAlike", fn := fun _ => fun
  | [d1, d2] => { results := [.lit (.bool false)], args := [d1, d2] }
  | _ => none }
def RankAlikeWrongFalsely : Prop := rankAlikeRow.holds Try.pinned (OpenSpec.ofChange rankAlikeWrong)

/-- 'cortadolaw18.ScriptRight': WHATEVER THE INPUT: true; the input reads as it did. -/
def scriptRightSpec : ChangeSpec := { name := "scriptRight", fn := fun _ => fun
  | [d1, d2] => { results := [.lit (.bool true)], args := [d1, d2] }
  | _ => none }
def scriptRightRow : OpenClaim := { program := "ytkcaeknkfgpnhaa", sum := "665baf8f3ce8a11e56a599d0499e650c80d8829600571cbbc6abe86baae36696", func := "cortado/cortadolaw18.ScriptRight", spec := "scriptRight", unfollowed := true, recurses := true, apart := false }
def ScriptRightSaid : Prop := scriptRightRow.holds Try.pinned (OpenSpec.ofChange scriptRightSpec)

/-- ITS FALSE NEIGHBOUR: 'it returns false'. Refute it at one input. -/
def scriptRightWrong : ChangeSpec := { name := "scriptRight", fn := fun _ => fun
  | [d1, d2] => { results := [.lit (.bool false)], args := [d1, d2] }
  | _ => none }
def ScriptRightWrongFalsely : Prop := scriptRightRow.holds Try.pinned (OpenSpec.ofChange scriptRightWrong)

/-- 'cortadolaw14.ExactTells': WHATEVER THE INPUT: true; the input reads as it did. -/
def exactTellsSpec : ChangeSpec := { name := "exactTells", fn := fun _ => fun
  | [d1, d2] => { results := [.lit (.bool true)], args := [d1, d2] }
  | _ => none }
def exactTellsRow : OpenClaim := { program := "ytkcaeknkfgpnhaa", sum := "665baf8f3ce8a11e56a599d0499e650c80d8829600571cbbc6abe86baae36696", func := "cortado/cortadolaw14.ExactTells", spec := "exactTells", unfollowed := true, recurses := true, apart := false }
def ExactTellsSaid : Prop := exactTellsRow.holds Try.pinned (OpenSpec.ofChange exactTellsSpec)

/-- ITS FALSE NEIGHBOUR: 'it returns false'. Refute it at one input. -/
def exactTellsWrong : ChangeSpec := { name := "exactTells", fn := fun _ => fun
  | [d1, d2] => { results := [.lit (.bool false)], args := [d1, d2] }
  | _ => none }
def ExactTellsWrongFalsely : Prop := exactTellsRow.holds Try.pinned (OpenSpec.ofChange exactTellsWrong)

/-- 'cortadolaw18.ScriptBack': WHATEVER THE INPUT: true; the input reads as it did. -/
def scriptBackSpec : ChangeSpec := { name := "scriptBack", fn := fun _ => fun
  | [d] => { results := [.lit (.bool true)], args := [d] }
  | _ => none }
def scriptBackRow : OpenClaim := { program := "ytkcaeknkfgpnhaa", sum := "665baf8f3ce8a11e56a599d0499e650c80d8829600571cbbc6abe86baae36696", func := "cortado/cortadolaw18.ScriptBack", spec := "scriptBack", unfollowed := true, recurses := true, apart := false }
def ScriptBackSaid : Prop := scriptBackRow.holds Try.pinned (OpenSpec.ofChange scriptBackSpec)

/-- ITS FALSE NEIGHBOUR: 'it returns false'. Refute it at one input. -/
def scriptBackWrong : ChangeSpec := { name := "scriptBack", fn := fun _ => fun
  | [d] => { results := [.lit (.bool false)], args := [d] }
  | _ => none }
def ScriptBackWrongFalsely : Prop := scriptBackRow.holds Try.pinned (OpenSpec.ofChange scriptBackWrong)

/- THE SECOND FORM. 'bulk': how many values and letters a reading holds, each counted each time it is reached (what is shared counts as often as it is met; a slice's spare places count too). A statement '..UptoSaid' is the law's where the arguments, and the package variables that the reading takes, are together of bulk at most 1048576: NARROWER than '..Said'. Prove '..Said' where nothing that the law and all that it calls make is longer than what came in: it says more and counts as full. Else prove '..UptoSaid'. A law counts once. -/
mutual
def uptoBulk {H : Type} : DataW H → Nat
  | .lit (.string bytes) => bytes.length + 1
  | .lit _ => 1
  | .nil => 1
  | .ptr d => uptoBulk d + 1
  | .slice elems spare => uptoBulkAll elems + uptoBulkAll spare + 1
  | .agg parts => uptoBulkAll parts + 1
  | .iface _ d => uptoBulk d + 1
  | .map entries => uptoBulkEntries entries + 1
  | .held _ => 1
def uptoBulkAll {H : Type} : List (DataW H) → Nat
  | [] => 0
  | d :: r => uptoBulk d + uptoBulkAll r
def uptoBulkEntries {H : Type} : List (Lit × DataW H) → Nat
  | [] => 0
  | x :: r => uptoBulkEntry x + uptoBulkEntries r
def uptoBulkEntry {H : Type} : Lit × DataW H → Nat
  | (.string bytes, d) => bytes.length + uptoBulk d + 1
  | (_, d) => uptoBulk d + 1
 end
def uptoSmall : (H : Type) → List (DataW H) → Bool := fun _ ds => decide (uptoBulkAll ds ≤ 1048576)
def OpenSpec.upto (s : _root_.Go.ChangeSpec) : _root_.Go.OpenSpec := { _root_.Go.OpenSpec.ofChange s with cond := some uptoSmall }

/-- 'cortadolaw18.ScriptParses', WHERE WHAT IT READS IS OF BULK AT MOST 1048576: true; the input reads as it did. -/
def scriptParsesUptoRow : OpenClaim := { program := "ytkcaeknkfgpnhaa", sum := "665baf8f3ce8a11e56a599d0499e650c80d8829600571cbbc6abe86baae36696", func := "cortado/cortadolaw18.ScriptParses", spec := "scriptParses", unfollowed := true, recurses := true, apart := false, narrowed := true }
def ScriptParsesUptoSaid : Prop := scriptParsesUptoRow.holds Try.pinned (OpenSpec.upto scriptParsesSpec)

/-- 'cortadolaw18.ScriptLong', WHERE WHAT IT READS IS OF BULK AT MOST 1048576: true; the input reads as it did. -/
def scriptLongUptoRow : OpenClaim := { program := "ytkcaeknkfgpnhaa", sum := "665baf8f3ce8a11e56a599d0499e650c80d8829600571cbbc6abe86baae36696", func := "cortado/cortadolaw18.ScriptLong", spec := "scriptLong", unfollowed := true, recurses := true, apart := false, narrowed := true }
def ScriptLongUptoSaid : Prop := scriptLongUptoRow.holds Try.pinned (OpenSpec.upto scriptLongSpec)

/-- 'cortadolaw08.RankPlays', WHERE WHAT IT READS IS OF BULK AT MOST 1048576: true; the input reads as it did. -/
def rankPlaysUptoRow : OpenClaim := { program := "ytkcaeknkfgpnhaa", sum := "665baf8f3ce8a11e56a599d0499e650c80d8829600571cbbc6abe86baae36696", func := "cortado/cortadolaw08.RankPlays", spec := "rankPlays", unfollowed := true, recurses := true, apart := false, narrowed := true }
def RankPlaysUptoSaid : Prop := rankPlaysUptoRow.holds Try.pinned (OpenSpec.upto rankPlaysSpec)

/-- 'cortadolaw27.StripeOrder', WHERE WHAT IT READS IS OF BULK AT MOST 1048576: true; the input reads as it did. -/
def stripeOrderUptoRow : OpenClaim := { program := "ytkcaeknkfgpnhaa", sum := "665baf8f3ce8a11e56a599d0499e650c80d8829600571cbbc6abe86baae36696", func := "cortado/cortadolaw27.StripeOrder", spec := "stripeOrder", unfollowed := true, recurses := true, apart := false, narrowed := true }
def StripeOrderUptoSaid : Prop := stripeOrderUptoRow.holds Try.pinned (OpenSpec.upto stripeOrderSpec)

/-- 'cortadolaw08.RankAlike', WHERE WHAT IT READS IS OF BULK AT MOST 1048576: true; the input reads as it did. -/
def rankAlikeUptoRow : OpenClaim := { program := "ytkcaeknkfgpnhaa", sum := "665baf8f3ce8a11e56a599d0499e650c80d8829600571cbbc6abe86baae36696", func := "cortado/cortadolaw08.RankAlike", spec := "rankAlike", unfollowed := true, recurses := true, apart := false, narrowed := true }
def RankAlikeUptoSaid : Prop := rankAlikeUptoRow.holds Try.pinned (OpenSpec.upto rankAlikeSpec)

/-- 'cortadolaw18.ScriptRight', WHERE WHAT IT READS IS OF BULK AT MOST 1048576: true; the input reads as it did. -/
def scriptRightUptoRow : OpenClaim := { program := "ytkcaeknkfgpnhaa", sum := "665baf8f3ce8a11e56a599d0499e650c80d8829600571cbbc6abe86baae36696", func := "cortado/cortadolaw18.ScriptRight", spec := "scriptRight", unfollowed := true, recurses := true, apart := false, narrowed := true }
def ScriptRightUptoSaid : Prop := scriptRightUptoRow.holds Try.pinned (OpenSpec.upto scriptRightSpec)

/-- 'cortadolaw14.ExactTells', WHERE WHAT IT READS IS OF BULK AT MOST 1048576: true; the input reads as it did. -/
def exactTellsUptoRow : OpenClaim := { program := "ytkcaeknkfgpnhaa", sum := "665baf8f3ce8a11e56a599d0499e650c80d8829600571cbbc6abe86baae36696", func := "cortado/cortadolaw14.ExactTells", spec := "exactTells", unfollowed := true, recurses := true, apart := false, narrowed := true }
def ExactTellsUptoSaid : Prop := exactTellsUptoRow.holds Try.pinned (OpenSpec.upto exactTellsSpec)

/-- 'cortadolaw18.ScriptBack', WHERE WHAT IT READS IS OF BULK AT MOST 1048576: true; the input reads as it did. -/
def scriptBackUptoRow : OpenClaim := { program := "ytkcaeknkfgpnhaa", sum := "665baf8f3ce8a11e56a599d0499e650c80d8829600571cbbc6abe86baae36696", func := "cortado/cortadolaw18.ScriptBack", spec := "scriptBack", unfollowed := true, recurses := true, apart := false, narrowed := true }
def ScriptBackUptoSaid : Prop := scriptBackUptoRow.holds Try.pinned (OpenSpec.upto scriptBackSpec)

end Rows
end Go.Proofs.Ytkcaeknkfgpnhaa
