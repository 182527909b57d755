import Derived.Test.YtfcddffcjmgpkaaWLast
import Derived.Test.YtfcddffcjmgpkaaWTab
namespace Go.Proofs.Ytfcddffcjmgpkaa.Reg
open Go Go.RowKit Go.Proofs.YtfcddffcjmgpkaaW.PrintWords Go.Proofs.YtfcddffcjmgpkaaW.PrintLast
set_option linter.unusedVariables false
set_option linter.unusedSimpArgs false

/-- A region's operations in one order, each with its kind: 0: yields in every world; 1: yields wherever S holds; 2: comes up alone, S is shown behind it; 3: comes up alone, nothing is shown behind it. -/
def canB (T : Bool × List (List Nat × List Nat)) (B ds : List Nat) : List Bool → List (Nat × Nat × Option Tmp) → Bool
  | l, [] => readyT T.2 l == []
  | l, (i, t, _) :: r =>
    (match t with
      | 0 => anyT T l (l.set i true) i
      | 1 => takeW T B ds l (l.set i true) i
      | 2 => (readyT T.2 l == [i]) && !ds.contains i
      | _ => (readyT T.2 l == [i]) && ds.contains i) && canB T B ds (l.set i true) r

def wpCan (P : Program) (ops : Array Oper) (Q : Exit → Act → World → Prop) (S : World → Prop) : List (Nat × Nat × Option Tmp) → Act → World → Prop
  | [], a, w => Q .normal a w
  | (i, t, N) :: r, a, w => ∃ oi, ops[i]? = some oi ∧ oi.dst = N ∧
    match t with
    | 0 => ∃ v, Yields P ops oi v a ∧ wpCan P ops Q S r (a.put N v) w
    | 1 => ∃ v, YieldsIf P ops S oi v a ∧ S w ∧ wpCan P ops Q S r (a.put N v) w
    | 2 => ∀ K : Act → World → Prop, Shut (∀ a' w', S w' → (S w' → wpCan P ops Q S r a' w') → K a' w') → if Region.wanted oi (yielded ops a.tmps) = true then Oper.wp P oi a w K Q else K (a.put N undef) w
    | _ => ∀ K : Act → World → Prop, Shut (∀ a' w', wpCan P ops Q S r a' w' → K a' w') → if Region.wanted oi (yielded ops a.tmps) = true then Oper.wp P oi a w K Q else K (a.put N undef) w

section
variable {P : Program} {ops : Array Oper} {Q : Exit → Act → World → Prop} {S : World → Prop}
theorem setEq (l : List Bool) (i : Nat) : (⟨l⟩ : Array Bool).toList.set i true = (⟨l.set i true⟩ : Array Bool).toList := rfl
theorem can_of {ds : List Nat} {T : Bool × List (List Nat × List Nat)} {B : List Nat} (hT : rtab .any ops = T) (hB : waitsOk T.2 B = true) (hQ : ∀ c (a : Act) N v w, Q (.panic c) (a.put N v) w → Q (.panic c) a w) :
    ∀ (r : List (Nat × Nat × Option Tmp)) (l : List Bool) (a : Act) (w : World), canB T B ds l r = true → wpCan P ops Q S r a w → wpAnyLast P .any ops Q S ds r.length ⟨l⟩ a w
  | [], l, a, w, hc, h => done_ (done_of hT hc) h
  | (i, t, N) :: r, l, a, w, hc, h => by
    simp only [canB, Bool.and_eq_true] at hc
    obtain ⟨h1, h2⟩ := hc
    obtain ⟨oi, hi, hN, h⟩ := h
    have ih := fun a w => can_of hT hB hQ r (l.set i true) a w h2
    match t, h1, h with
    | 0, h1, ⟨v, hy, h⟩ => exact pure_ (l := ⟨l⟩) ⟨l.set i true⟩ hi hN (any_of hT h1) (fun c a w hq => hQ c a _ _ w hq) hy rfl (ih _ _ h)
    | 1, h1, ⟨v, hy, hS, h⟩ => exact take_ (l := ⟨l⟩) ⟨l.set i true⟩ hi hN (take_ofW hT hB h1) (fun c a w hq => hQ c a _ _ w hq) hy hS rfl (ih _ _ h)
    | 2, h1, h =>
      simp only [Bool.and_eq_true] at h1
      refine one_ (l := ⟨l⟩) ⟨l.set i true⟩ hi hN (one_of hT (by simp [h1.1])) (by simpa using h1.2) (fun K hK => ?_)
      exact h K (fun a' w' hS hc => hK.out a' w' hS (fun hS' => ih _ _ (hc hS')))
    | n + 3, h1, h =>
      simp only [Bool.and_eq_true] at h1
      refine last_ (l := ⟨l⟩) ⟨l.set i true⟩ hi hN (one_of hT (by simp [h1.1])) (by simpa using h1.2) (fun K hK => ?_)
      exact h K (fun a' w' hc => hK.out a' w' (ih _ _ hc))

/-- A region that acts: its operations in one order. -/
theorem region_can {id n : Nat} {a : Act} {w : World} {T : Bool × List (List Nat × List Nat)} {B : List Nat} (r : List (Nat × Nat × Option Tmp)) (ds : List Nat) (S : World → Prop) (hm : P.follows .mixedOrders = true) (hn : ops.size = n) (hT : rtab .any ops = T) (hB : waitsOk T.2 B = true) (hr : r.length = n) (hc : canB T B ds (List.replicate n false) r = true) (hQ : ∀ c (a : Act) N v w, Q (.panic c) (a.put N v) w → Q (.panic c) a w)
    (hS : S w.drew) (h : S w.drew → wpCan P ops Q S r a w.drew) : (Code.region id ops true).wp P Q a w := by
  refine start_ (n := n) (S := S) (ds := ds) ⟨List.replicate n false⟩ hm hn (by simp) hS (fun hS => ?_)
  subst hr
  exact can_of hT hB hQ r _ _ _ hc (h hS)
theorem can_done {a : Act} {w : World} (h : Q .normal a w) : wpCan P ops Q S [] a w := h
theorem can_pure {i : Nat} {r : List (Nat × Nat × Option Tmp)} {a a' : Act} {w : World} {oi : Oper} {N : Option Tmp} {v : Value} (hi : ops[i]? = some oi) (hN : oi.dst = N) (hy : Yields P ops oi v a) (ha : a.put N v = a') (h : wpCan P ops Q S r a' w) : wpCan P ops Q S ((i, 0, N) :: r) a w := by
  subst ha
  exact ⟨oi, hi, hN, v, hy, h⟩
theorem can_load {i : Nat} {r : List (Nat × Nat × Option Tmp)} {a a' : Act} {w : World} {oi : Oper} {N : Option Tmp} {v : Value} (hi : ops[i]? = some oi) (hN : oi.dst = N) (hy : YieldsIf P ops S oi v a) (hS : S w) (ha : a.put N v = a') (h : wpCan P ops Q S r a' w) : wpCan P ops Q S ((i, 1, N) :: r) a w := by
  subst ha
  exact ⟨oi, hi, hN, v, hy, hS, h⟩
theorem can_act {i : Nat} {r : List (Nat × Nat × Option Tmp)} {a : Act} {w : World} {oi : Oper} {N : Option Tmp} (hi : ops[i]? = some oi) (hN : oi.dst = N)
    (h : ∀ K : Act → World → Prop, Shut (∀ a' w', S w' → (S w' → wpCan P ops Q S r a' w') → K a' w') → if Region.wanted oi (yielded ops a.tmps) = true then Oper.wp P oi a w K Q else K (a.put N undef) w) : wpCan P ops Q S ((i, 2, N) :: r) a w := by
  exact ⟨oi, hi, hN, h⟩
theorem can_last {i : Nat} {r : List (Nat × Nat × Option Tmp)} {a : Act} {w : World} {oi : Oper} {N : Option Tmp} (hi : ops[i]? = some oi) (hN : oi.dst = N)
    (h : ∀ K : Act → World → Prop, Shut (∀ a' w', wpCan P ops Q S r a' w' → K a' w') → if Region.wanted oi (yielded ops a.tmps) = true then Oper.wp P oi a w K Q else K (a.put N undef) w) : wpCan P ops Q S ((i, 3, N) :: r) a w := by
  exact ⟨oi, hi, hN, h⟩
theorem can_norm {r : List (Nat × Nat × Option Tmp)} {a a' : Act} {w : World} (ha : a = a') (h : wpCan P ops Q S r a' w) : wpCan P ops Q S r a w := by subst ha; exact h
end
end Go.Proofs.Ytfcddffcjmgpkaa.Reg
