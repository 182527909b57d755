import Derived.Test.YtggflkjdgcdcmaaGreatDoorWLast
import Derived.Test.YtggflkjdgcdcmaaGreatDoorWTab
namespace Go.Proofs.YtggflkjdgcdcmaaGreatDoor.Reg
open Go Go.RowKit Go.Proofs.YtggflkjdgcdcmaaGreatDoorW.PrintWords Go.Proofs.YtggflkjdgcdcmaaGreatDoorW.PrintLast
set_option linter.unusedVariables false
set_option linter.unusedSimpArgs false
/-- A region's operations in order, each with its kind: 0: yields in every world; 1: yields wherever S holds; 2: comes up alone, S is shown behind it; 3: comes up alone, nothing is shown behind it; 4: as 2, with less of S. Where two come up, both ways are told. -/
inductive OT where
  | nil
  | one (i t : Nat) (N : Option Tmp) (r : OT)
  | two (a b : OT)
def heads : OT → List Nat
  | .nil => []
  | .one i _ _ _ => [i]
  | .two a b => heads a ++ heads b
def deepB : OT → Nat → Bool
  | .nil, n => Nat.beq n 0
  | .one _ _ _ r, n => (match n with
    | 0 => false
    | n + 1 => deepB r n)
  | .two a b, n => deepB a n && deepB b n
def canB (T : Bool × List (List Nat × List Nat)) (B ds : List Nat) : Bool → List Bool → OT → Bool
  | _, l, .nil => readyT T.2 l == []
  | c, l, .one i t _ r =>
    (match t with
      | 0 => c && anyT T l (l.set i true) i
      | 1 => c && takeW T B ds l (l.set i true) i
      | 2 => (!c || readyT T.2 l == [i]) && !ds.contains i
      | 4 => (!c || readyT T.2 l == [i]) && !ds.contains i
      | _ => (!c || readyT T.2 l == [i]) && ds.contains i) && canB T B ds true (l.set i true) r
  | c, l, .two a b => (!c || (readyT T.2 l == heads a ++ heads b && !(heads a).isEmpty)) && (canB T B ds false l a && canB T B ds false l b)
section
variable {P : Program} {ops : Array Oper} {Q : Exit → Act → World → Prop} {md : Region.Mode}
end
end Go.Proofs.YtggflkjdgcdcmaaGreatDoor.Reg
