/-
  No cell of these rows narrows 'for every input' (looked for: loops, veiled, ifaces, maps, wideKeys, modest, calm, conditions, laid).
  DERIVED. THE GIVEN ROWS OF THIS SEAT. 11 by the template 'for every input the law returns true; each argument reads behind the call as it read before'; 0 by the template 'total and deterministic' (their statements: YtjmlahdnbedkcaaTotals.lean).
  GIVEN WITH THE SEED: the statements are not yours to turn. If you find one false, say at which input.
  Laid BY PROGRAM, IN A SANDBOX (cutbox-rows.mjs): the forced cells as the released guide's own fill.sh prints them over the translation 9e19ef8c7c6a5029… (all of the seat's roots in one cut). By AI agents, Wed Nov 11 2026. No macro, syntax, notation, axiom, sorry.
-/
import Derived.Test.YtjmlahdnbedkcaaChecked
import GoSem.Claim
import GoSem.ClaimJoined
import GoSem.ClaimMapViews
import Derived.JoinedTies
import Derived.KernelRfl
namespace Go.Proofs.Ytjmlahdnbedkcaa
/- THE CELL 'sum', in the pinned program and in every row, IS THE sha256 OF THE DUMP (.gsa) THAT YtjmlahdnbedkcaaProg.lean LOADS. Nothing in Lean hashes anything: it is a label: what it is worth is what the hold of that sum in a sandbox is worth. -/
noncomputable def Try.pinned : Pinned := { name := "ytjmlahdnbedkcaa", sum := "9e19ef8c7c6a502994e16b8a5f030c76f2fa408bd55a1a053d3597318995482c", checked := Try.checked }
namespace Rows
def none {H : Type} : Left H := { results := [], args := [] }

/-- 'cortadolaw05.FnvOne': WHATEVER THE INPUT: true; the input reads as it did. -/
def fnvOneSpec : ChangeSpec := { name := "fnvOne", fn := fun _ => fun
  | [d1, d2, d3] => { results := [.lit (.bool true)], args := [d1, d2, d3] }
  | _ => none }
def fnvOneRow : OpenClaim := { program := "ytjmlahdnbedkcaa", sum := "9e19ef8c7c6a502994e16b8a5f030c76f2fa408bd55a1a053d3597318995482c", func := "cortado/cortadolaw05.FnvOne", spec := "fnvOne", apart := false }
def FnvOneSaid : Prop := fnvOneRow.holds Try.pinned (OpenSpec.ofChange fnvOneSpec)

/-- ITS FALSE NEIGHBOUR: 'it returns false'. Refute it at one input. -/
def fnvOneWrong : ChangeSpec := { name := "fnvOne", fn := fun _ => fun
  | [d1, d2, d3] => { results := [.lit (.bool false)], args := [d1, d2, d3] }
  | _ => none }
def FnvOneWrongFalsely : Prop := fnvOneRow.holds Try.pinned (OpenSpec.ofChange fnvOneWrong)

/-- 'cortadolaw02.CostAdds': WHATEVER THE INPUT: true; the input reads as it did. -/
def costAddsSpec : ChangeSpec := { name := "costAdds", fn := fun _ => fun
  | [d1, d2] => { results := [.lit (.bool true)], args := [d1, d2] }
  | _ => none }
def costAddsRow : OpenClaim := { program := "ytjmlahdnbedkcaa", sum := "9e19ef8c7c6a502994e16b8a5f030c76f2fa408bd55a1a053d3597318995482c", func := "cortado/cortadolaw02.CostAdds", spec := "costAdds", apart := false }
def CostAddsSaid : Prop := costAddsRow.holds Try.pinned (OpenSpec.ofChange costAddsSpec)

/-- ITS FALSE NEIGHBOUR: 'it returns false'. Refute it at one input. -/
def costAddsWrong : ChangeSpec := { name := "costAdds", fn := fun _ => fun
  | [d1, d2] => { results := [.lit (.bool false)], args := [d1, d2] }
  | _ => none }
def CostAddsWrongFalsely : Prop := costAddsRow.holds Try.pinned (OpenSpec.ofChange costAddsWrong)

/-- 'cortadolaw05.FnvSums': WHATEVER THE INPUT: true; the input reads as it did. -/
def fnvSumsSpec : ChangeSpec := { name := "fnvSums", fn := fun _ => fun
  | [d1, d2, d3] => { results := [.lit (.bool true)], args := [d1, d2, d3] }
  | _ => none }
def fnvSumsRow : OpenClaim := { program := "ytjmlahdnbedkcaa", sum := "9e19ef8c7c6a502994e16b8a5f030c76f2fa408bd55a1a053d3597318995482c", func := "cortado/cortadolaw05.FnvSums", spec := "fnvSums", apart := false }
def FnvSumsSaid : Prop := fnvSumsRow.holds Try.pinned (OpenSpec.ofChange fnvSumsSpec)

/-- ITS FALSE NEIGHBOUR: 'it returns false'. Refute it at one input. -/
def fnvSumsWrong : ChangeSpec := { name := "fnvSums", fn := fun _ => fun
  | [d1, d2, d3] => { results := [.lit (.bool false)], args := [d1, d2, d3] }
  | _ => none }
def FnvSumsWrongFalsely : Prop := fnvSumsRow.holds Try.pinned (OpenSpec.ofChange fnvSumsWrong)

/-- 'cortadolaw03.MixInverts': WHATEVER THE INPUT: true; the input reads as it did. -/
def mixInvertsSpec : ChangeSpec := { name := "mixInverts", fn := fun _ => fun
  | [d] => { results := [.lit (.bool true)], args := [d] }
  | _ => none }
def mixInvertsRow : OpenClaim := { program := "ytjmlahdnbedkcaa", sum := "9e19ef8c7c6a502994e16b8a5f030c76f2fa408bd55a1a053d3597318995482c", func := "cortado/cortadolaw03.MixInverts", spec := "mixInverts", apart := false }
def MixInvertsSaid : Prop := mixInvertsRow.holds Try.pinned (OpenSpec.ofChange mixInvertsSpec)

/-- ITS FALSE NEIGHBOUR: 'it returns false'. Refute it at one input. -/
def mixInvertsWrong : ChangeSpec := { name := "mixInverts", fn := fun _ => fun
  | [d] => { results := [.lit (.bool false)], args := [d] }
  | _ => none }
def MixInvertsWrongFalsely : Prop := mixInvertsRow.holds Try.pinned (OpenSpec.ofChange mixInvertsWrong)

/-- 'cortadolaw02.CostSums': WHATEVER THE INPUT: true; the input reads as it did. -/
def costSumsSpec : ChangeSpec := { name := "costSums", fn := fun _ => fun
  | [d1, d2] => { results := [.lit (.bool true)], args := [d1, d2] }
  | _ => none }
def costSumsRow : OpenClaim := { program := "ytjmlahdnbedkcaa", sum := "9e19ef8c7c6a502994e16b8a5f030c76f2fa408bd55a1a053d3597318995482c", func := "cortado/cortadolaw02.CostSums", spec := "costSums", apart := false }
def CostSumsSaid : Prop := costSumsRow.holds Try.pinned (OpenSpec.ofChange costSumsSpec)

/-- ITS FALSE NEIGHBOUR: 'it returns false'. Refute it at one input. -/
def costSumsWrong : ChangeSpec := { name := "costSums", fn := fun _ => fun
  | [d1, d2] => { results := [.lit (.bool false)], args := [d1, d2] }
  | _ => none }
def CostSumsWrongFalsely : Prop := costSumsRow.holds Try.pinned (OpenSpec.ofChange costSumsWrong)

/-- 'cortadolaw05.FnvBack': WHATEVER THE INPUT: true; the input reads as it did. -/
def fnvBackSpec : ChangeSpec := { name := "fnvBack", fn := fun _ => fun
  | [d1, d2, d3] => { results := [.lit (.bool true)], args := [d1, d2, d3] }
  | _ => none }
def fnvBackRow : OpenClaim := { program := "ytjmlahdnbedkcaa", sum := "9e19ef8c7c6a502994e16b8a5f030c76f2fa408bd55a1a053d3597318995482c", func := "cortado/cortadolaw05.FnvBack", spec := "fnvBack", apart := false }
def FnvBackSaid : Prop := fnvBackRow.holds Try.pinned (OpenSpec.ofChange fnvBackSpec)

/-- ITS FALSE NEIGHBOUR: 'it returns false'. Refute it at one input. -/
def fnvBackWrong : ChangeSpec := { name := "fnvBack", fn := fun _ => fun
  | [d1, d2, d3] => { results := [.lit (.bool false)], args := [d1, d2, d3] }
  | _ => none }
def FnvBackWrongFalsely : Prop := fnvBackRow.holds Try.pinned (OpenSpec.ofChange fnvBackWrong)

/-- 'cortadolaw02.CostMoves': WHATEVER THE INPUT: true; the input reads as it did. -/
def costMovesSpec : ChangeSpec := { name := "costMoves", fn := fun _ => fun
  | [d1, d2, d3] => { results := [.lit (.bool true)], args := [d1, d2, d3] }
  | _ => none }
def costMovesRow : OpenClaim := { program := "ytjmlahdnbedkcaa", sum := "9e19ef8c7c6a502994e16b8a5f030c76f2fa408bd55a1a053d3597318995482c", func := "cortado/cortadolaw02.CostMoves", spec := "costMoves", apart := false }
def CostMovesSaid : Prop := costMovesRow.holds Try.pinned (OpenSpec.ofChange costMovesSpec)

/-- ITS FALSE NEIGHBOUR: 'it returns false'. Refute it at one input. -/
def costMovesWrong : ChangeSpec := { name := "costMoves", fn := fun _ => fun
  | [d1, d2, d3] => { results := [.lit (.bool false)], args := [d1, d2, d3] }
  | _ => none }
def CostMovesWrongFalsely : Prop := costMovesRow.holds Try.pinned (OpenSpec.ofChange costMovesWrong)

/-- 'cortadolaw01.WordPlaces': WHATEVER THE INPUT: true; the input reads as it did. -/
def wordPlacesSpec : ChangeSpec := { name := "wordPlaces", fn := fun _ => fun
  | [d1, d2, d3] => { results := [.lit (.bool true)], args := [d1, d2, d3] }
  | _ => none }
def wordPlacesRow : OpenClaim := { program := "ytjmlahdnbedkcaa", sum := "9e19ef8c7c6a502994e16b8a5f030c76f2fa408bd55a1a053d3597318995482c", func := "cortado/cortadolaw01.WordPlaces", spec := "wordPlaces", apart := false }
def WordPlacesSaid : Prop := wordPlacesRow.holds Try.pinned (OpenSpec.ofChange wordPlacesSpec)

/-- ITS FALSE NEIGHBOUR: 'it returns false'. Refute it at one input. -/
def wordPlacesWrong : ChangeSpec := { name := "wordPlaces", fn := fun _ => fun
  | [d1, d2, d3] => { results := [.lit (.bool false)], args := [d1, d2, d3] }
  | _ => none }
def WordPlacesWrongFalsely : Prop := wordPlacesRow.holds Try.pinned (OpenSpec.ofChange wordPlacesWrong)

/-- 'cortadolaw01.WordTurns': WHATEVER THE INPUT: true; the input reads as it did. -/
def wordTurnsSpec : ChangeSpec := { name := "wordTurns", fn := fun _ => fun
  | [d1, d2] => { results := [.lit (.bool true)], args := [d1, d2] }
  | _ => none }
def wordTurnsRow : OpenClaim := { program := "ytjmlahdnbedkcaa", sum := "9e19ef8c7c6a502994e16b8a5f030c76f2fa408bd55a1a053d3597318995482c", func := "cortado/cortadolaw01.WordTurns", spec := "wordTurns", apart := false }
def WordTurnsSaid : Prop := wordTurnsRow.holds Try.pinned (OpenSpec.ofChange wordTurnsSpec)

/-- ITS FALSE NEIGHBOUR: 'it returns false'. Refute it at one input. -/
def wordTurnsWrong : ChangeSpec := { name := "wordTurns", fn := fun _ => fun
  | [d1, d2] => { results := [.lit (.bool false)], args := [d1, d2] }
  | _ => none }
def WordTurnsWrongFalsely : Prop := wordTurnsRow.holds Try.pinned (OpenSpec.ofChange wordTurnsWrong)

/-- 'cortadolaw03.MixFolds': WHATEVER THE INPUT: true; the input reads as it did. -/
def mixFoldsSpec : ChangeSpec := { name := "mixFolds", fn := fun _ => fun
  | [d1, d2] => { results := [.lit (.bool true)], args := [d1, d2] }
  | _ => none }
def mixFoldsRow : OpenClaim := { program := "ytjmlahdnbedkcaa", sum := "9e19ef8c7c6a502994e16b8a5f030c76f2fa408bd55a1a053d3597318995482c", func := "cortado/cortadolaw03.MixFolds", spec := "mixFolds", apart := false }
def MixFoldsSaid : Prop := mixFoldsRow.holds Try.pinned (OpenSpec.ofChange mixFoldsSpec)

/-- ITS FALSE NEIGHBOUR: 'it returns false'. Refute it at one input. -/
def mixFoldsWrong : ChangeSpec := { name := "mixFolds", fn := fun _ => fun
  | [d1, d2] => { results := [.lit (.bool false)], args := [d1, d2] }
  | _ => none }
def MixFoldsWrongFalsely : Prop := mixFoldsRow.holds Try.pinned (OpenSpec.ofChange mixFoldsWrong)

/-- 'cortadolaw01.WordProducts': WHATEVER THE INPUT: true; the input reads as it did. -/
def wordProductsSpec : ChangeSpec := { name := "wordProducts", fn := fun _ => fun
  | [d1, d2] => { results := [.lit (.bool true)], args := [d1, d2] }
  | _ => none }
def wordProductsRow : OpenClaim := { program := "ytjmlahdnbedkcaa", sum := "9e19ef8c7c6a502994e16b8a5f030c76f2fa408bd55a1a053d3597318995482c", func := "cortado/cortadolaw01.WordProducts", spec := "wordProducts", unfollowed := true, recurses := true, apart := false }
def WordProductsSaid : Prop := wordProductsRow.holds Try.pinned (OpenSpec.ofChange wordProductsSpec)

/-- ITS FALSE NEIGHBOUR: 'it returns false'. Refute it at one input. -/
def wordProductsWrong : ChangeSpec := { name := "wordProducts", fn := fun _ => fun
  | [d1, d2] => { results := [.lit (.bool false)], args := [d1, d2] }
  | _ => none }
def WordProductsWrongFalsely : Prop := wordProductsRow.holds Try.pinned (OpenSpec.ofChange wordProductsWrong)

/- THE SECOND FORM. 'bulk': how many values and letters a reading holds, each counted each time it is reached (what is shared counts as often as it is met; a slice's spare places count too). A statement '..UptoSaid' is the law's where the arguments, and the package variables that the reading takes, are together of bulk at most 1048576: NARROWER than '..Said'. Prove '..Said' where nothing that the law and all that it calls make is longer than what came in: it says more and counts as full. Else prove '..UptoSaid'. A law counts once. -/
mutual
def uptoBulk {H : Type} : DataW H → Nat
  | .lit (.string bytes) => bytes.length + 1
  | .lit _ => 1
  | .nil => 1
  | .ptr d => uptoBulk d + 1
  | .slice elems spare => uptoBulkAll elems + uptoBulkAll spare + 1
  | .agg parts => uptoBulkAll parts + 1
  | .iface _ d => uptoBulk d + 1
  | .map entries => uptoBulkEntries entries + 1
  | .held _ => 1
def uptoBulkAll {H : Type} : List (DataW H) → Nat
  | [] => 0
  | d :: r => uptoBulk d + uptoBulkAll r
def uptoBulkEntries {H : Type} : List (Lit × DataW H) → Nat
  | [] => 0
  | x :: r => uptoBulkEntry x + uptoBulkEntries r
def uptoBulkEntry {H : Type} : Lit × DataW H → Nat
  | (.string bytes, d) => bytes.length + uptoBulk d + 1
  | (_, d) => uptoBulk d + 1
 end
def uptoSmall : (H : Type) → List (DataW H) → Bool := fun _ ds => decide (uptoBulkAll ds ≤ 1048576)
def OpenSpec.upto (s : _root_.Go.ChangeSpec) : _root_.Go.OpenSpec := { _root_.Go.OpenSpec.ofChange s with cond := some uptoSmall }

/-- 'cortadolaw05.FnvOne', WHERE WHAT IT READS IS OF BULK AT MOST 1048576: true; the input reads as it did. -/
def fnvOneUptoRow : OpenClaim := { program := "ytjmlahdnbedkcaa", sum := "9e19ef8c7c6a502994e16b8a5f030c76f2fa408bd55a1a053d3597318995482c", func := "cortado/cortadolaw05.FnvOne", spec := "fnvOne", apart := false, narrowed := true }
def FnvOneUptoSaid : Prop := fnvOneUptoRow.holds Try.pinned (OpenSpec.upto fnvOneSpec)

/-- 'cortadolaw02.CostAdds', WHERE WHAT IT READS IS OF BULK AT MOST 1048576: true; the input reads as it did. -/
def costAddsUptoRow : OpenClaim := { program := "ytjmlahdnbedkcaa", sum := "9e19ef8c7c6a502994e16b8a5f030c76f2fa408bd55a1a053d3597318995482c", func := "cortado/cortadolaw02.CostAdds", spec := "costAdds", apart := false, narrowed := true }
def CostAddsUptoSaid : Prop := costAddsUptoRow.holds Try.pinned (OpenSpec.upto costAddsSpec)

/-- 'cortadolaw05.FnvSums', WHERE WHAT IT READS IS OF BULK AT MOST 1048576: true; the input reads as it did. -/
def fnvSumsUptoRow : OpenClaim := { program := "ytjmlahdnbedkcaa", sum := "9e19ef8c7c6a502994e16b8a5f030c76f2fa408bd55a1a053d3597318995482c", func := "cortado/cortadolaw05.FnvSums", spec := "fnvSums", apart := false, narrowed := true }
def FnvSumsUptoSaid : Prop := fnvSumsUptoRow.holds Try.pinned (OpenSpec.upto fnvSumsSpec)

/-- 'cortadolaw03.MixInverts', WHERE WHAT IT READS IS OF BULK AT MOST 1048576: true; the input reads as it did. -/
def mixInvertsUptoRow : OpenClaim := { program := "ytjmlahdnbedkcaa", sum := "9e19ef8c7c6a502994e16b8a5f030c76f2fa408bd55a1a053d3597318995482c", func := "cortado/cortadolaw03.MixInverts", spec := "mixInverts", apart := false, narrowed := true }
def MixInvertsUptoSaid : Prop := mixInvertsUptoRow.holds Try.pinned (OpenSpec.upto mixInvertsSpec)

/-- 'cortadolaw02.CostSums', WHERE WHAT IT READS IS OF BULK AT MOST 1048576: true; the input reads as it did. -/
def costSumsUptoRow : OpenClaim := { program := "ytjmlahdnbedkcaa", sum := "9e19ef8c7c6a502994e16b8a5f030c76f2fa408bd55a1a053d3597318995482c", func := "cortado/cortadolaw02.CostSums", spec := "costSums", apart := false, narrowed := true }
def CostSumsUptoSaid : Prop := costSumsUptoRow.holds Try.pinned (OpenSpec.upto costSumsSpec)

/-- 'cortadolaw05.FnvBack', WHERE WHAT IT READS IS OF BULK AT MOST 1048576: true; the input reads as it did. -/
def fnvBackUptoRow : OpenClaim := { program := "ytjmlahdnbedkcaa", sum := "9e19ef8c7c6a502994e16b8a5f030c76f2fa408bd55a1a053d3597318995482c", func := "cortado/cortadolaw05.FnvBack", spec := "fnvBack", apart := false, narrowed := true }
def FnvBackUptoSaid : Prop := fnvBackUptoRow.holds Try.pinned (OpenSpec.upto fnvBackSpec)

/-- 'cortadolaw02.CostMoves', WHERE WHAT IT READS IS OF BULK AT MOST 1048576: true; the input reads as it did. -/
def costMovesUptoRow : OpenClaim := { program := "ytjmlahdnbedkcaa", sum := "9e19ef8c7c6a502994e16b8a5f030c76f2fa408bd55a1a053d3597318995482c", func := "cortado/cortadolaw02.CostMoves", spec := "costMoves", apart := false, narrowed := true }
def CostMovesUptoSaid : Prop := costMovesUptoRow.holds Try.pinned (OpenSpec.upto costMovesSpec)

/-- 'cortadolaw01.WordPlaces', WHERE WHAT IT READS IS OF BULK AT MOST 1048576: true; the input reads as it did. -/
def wordPlacesUptoRow : OpenClaim := { program := "ytjmlahdnbedkcaa", sum := "9e19ef8c7c6a502994e16b8a5f030c76f2fa408bd55a1a053d3597318995482c", func := "cortado/cortadolaw01.WordPlaces", spec := "wordPlaces", apart := false, narrowed := true }
def WordPlacesUptoSaid : Prop := wordPlacesUptoRow.holds Try.pinned (OpenSpec.upto wordPlacesSpec)

/-- 'cortadolaw01.WordTurns', WHERE WHAT IT READS IS OF BULK AT MOST 1048576: true; the input reads as it did. -/
def wordTurnsUptoRow : OpenClaim := { program := "ytjmlahdnbedkcaa", sum := "9e19ef8c7c6a502994e16b8a5f030c76f2fa408bd55a1a053d3597318995482c", func := "cortado/cortadolaw01.WordTurns", spec := "wordTurns", apart := false, narrowed := true }
def WordTurnsUptoSaid : Prop := wordTurnsUptoRow.holds Try.pinned (OpenSpec.upto wordTurnsSpec)

/-- 'cortadolaw03.MixFolds', WHERE WHAT IT READS IS OF BULK AT MOST 1048576: true; the input reads as it did. -/
def mixFoldsUptoRow : OpenClaim := { program := "ytjmlahdnbedkcaa", sum := "9e19ef8c7c6a502994e16b8a5f030c76f2fa408bd55a1a053d3597318995482c", func := "cortado/cortadolaw03.MixFolds", spec := "mixFolds", apart := false, narrowed := true }
def MixFoldsUptoSaid : Prop := mixFoldsUptoRow.holds Try.pinned (OpenSpec.upto mixFoldsSpec)

/-- 'cortadolaw01.WordProducts', WHERE WHAT IT READS IS OF BULK AT MOST 1048576: true; the input reads as it did. -/
def wordProductsUptoRow : OpenClaim := { program := "ytjmlahdnbedkcaa", sum := "9e19ef8c7c6a502994e16b8a5f030c76f2fa408bd55a1a053d3597318995482c", func := "cortado/cortadolaw01.WordProducts", spec := "wordProducts", unfollowed := true, recurses := true, apart := false, narrowed := true }
def WordProductsUptoSaid : Prop := wordProductsUptoRow.holds Try.pinned (OpenSpec.upto wordProductsSpec)

end Rows
end Go.Proofs.Ytjmlahdnbedkcaa
