/- An array of whole numbers by value, as a parameter: its value written out. -/
import Derived.OpenShut
import Derived.WalkKit
import Derived.ProofKit
namespace Go.Proofs.YtggflkjdgcdcmaaGreatDoor.Arr
open Go.ChangeShapes Go.WideShapes Go.ChangeAt Go.RowKit
/-- What a slice of whole numbers that came in is. -/
def RowI (k : IntKind) (w : World) (a : Option Addr) (len cap : Nat) (zs : List Int) : Prop :=
  (a = none ∧ len = 0 ∧ cap = 0 ∧ zs = []) ∨
  ∃ x, a = some x ∧ len ≤ cap ∧ cap ≤ maxLen ∧ zs.length = cap ∧ (∀ i, i < zs.length → w.cell? (x.add i) = some (.int k (zs.getD i 0))) ∧ ∀ n ∈ zs, (Lit.int k n).wf = true
section
variable {H : Type} {enc : TypeId × Value → H} {P : Program} {w : World} {base m : Nat} {held : Bool} {t e : TypeId} {k : IntKind} {c : Value} {cs : List Value} {y : DataW H × List MemPlace}
theorem cell_int (he : P.underlying e = some (.int k)) (h : DataW.trod enc P w base (fun _ => true) held m e [c] = some y) : ∃ x, c = .int k x ∧ (Lit.int k x).wf = true := by
  obtain ⟨x, e1, _, w1⟩ := DataW.trod_int he h
  injection e1 with e1
  exact ⟨x, e1, w1⟩
/-- A struct's value, as cells. -/
theorem agg_of {fs : Array Field} {n : Nat} {r : Reach} {b0 : Nat} {v : Value} (ht : P.underlying t = some (.struct fs)) (hc : P.cellsOf t = n) (hv : Value.okWide P w r b0 t v) : ∃ l : List Value, v = .agg l.toArray ∧ l.length = n := by
  obtain ⟨cs, rfl, hsz, _⟩ : ∃ cs, v = .agg cs ∧ cs.size = P.cellsOf t ∧ Row.okWide P w r b0 t cs := by
    simpa [Value.okWide, ht] using hv
  exact ⟨cs.toList, rfl, by rw [Array.length_toList, hsz, hc]⟩
end
end Go.Proofs.YtggflkjdgcdcmaaGreatDoor.Arr
