/- Slices of whole numbers in a struct that comes in: they are no longer than their weight allows. -/
import Derived.Test.YtggflkjdgcdcmaaGreatDoorArr
import Derived.SizedLaws
import Derived.ChangeSlices
namespace Go.Proofs.YtggflkjdgcdcmaaGreatDoor.Arr
open Go.ChangeShapes Go.WideShapes Go.ChangeAt Go.RowKit
section
variable {H : Type} {enc : TypeId × Value → H} {P : Program} {w : World} {base m : Nat} {held : Bool} {t e : TypeId} {k : IntKind} {c : Value} {cs : List Value} {y : DataW H × List MemPlace}
theorem each_at : ∀ {fs : List Field} {xs : List (DataW H × List MemPlace)} {i : Nat} {f : Field} {z : DataW H × List MemPlace}, fs[i]? = some f → xs[i]? = some z → (fs.map (·.type))[i]? = some f.type ∧ (xs.map (·.1))[i]? = some z.1 := fun h1 h2 => by simp [h1, h2]
theorem field_of2 {fs : Array Field} {ts : List TypeId} {ds : List (DataW H)} {j : Nat} {d : DataW H} {p : List MemPlace} (hsz : (DataW.weightsEach P ts ds).all (· ≤ reachBytes) = true) (hj : ts[j]? = some t) (hd : ds[j]? = some d)
    (ht : P.underlying t = some (.struct fs)) (h : DataW.trod enc P w base (fun _ => true) held m t cs = some (d, p)) :
    ∃ n, ∀ (i : Nat) (f : Field), fs[i]? = some f → ∃ z, DataW.trod enc P w base (fun _ => true) held n f.type ((cs.drop f.offset).take (P.cellsOf f.type)) = some z ∧ ∀ q ∈ z.1.weights P f.type, q ≤ 140737488351232 := by
  obtain ⟨xs, n, _, hx, _, hl, hel⟩ := DataW.trod_struct ht h
  refine ⟨n, fun i f hf => ?_⟩
  have hi : i < fs.size := by
    rcases Nat.lt_or_ge i fs.size with h | h
    · exact h
    · rw [Array.getElem?_eq_none h] at hf; cases hf
  have hxi : xs[i]? = some (xs[i]'(by omega)) := List.getElem?_eq_getElem (by omega)
  refine ⟨xs[i]'(by omega), by rw [hel i f hf, hxi], fun q hq => ?_⟩
  have hdx : d = .agg (xs.map (·.1)) := by injection hx
  obtain ⟨e1, e2⟩ := each_at (fs := fs.toList) (by simpa using hf) hxi
  have h1 : q ∈ DataW.weightsEach P (fs.toList.map (·.type)) (xs.map (·.1)) := DataW.weights_mem_each e1 e2 q hq
  have h2 : q ∈ d.weights P t := by rw [hdx]; simp only [DataW.weights, ht]; exact h1
  have h3 := List.all_eq_true.1 hsz _ (DataW.weights_mem_each hj hd q h2)
  have h4 : q ≤ reachBytes := by simpa using h3
  exact h4
theorem cell_slice2 {B : Nat} (ht : P.underlying t = some (.slice e)) (he : P.underlying e = some (.int k)) (hc : P.cellsOf e = 1) (hB : P.bytesOf e = B) (h : DataW.trod enc P w base (fun _ => true) held m t [c] = some y) (hw : ∀ q ∈ y.1.weights P t, q ≤ 140737488351232) :
    ∃ a len cap zs, c = .slice a len cap ∧ RowI k w a len cap zs ∧ len * B ≤ 140737488351232 := by
  rcases open_ints ht he hc h with ⟨hcs, _⟩ | ⟨x, l, c', zs, hcs, _, hl, hm, hz, hx, hcell, hwz⟩
  · injection hcs with hcs
    exact ⟨none, 0, 0, [], hcs, .inl ⟨rfl, rfl, rfl, rfl⟩, by simp⟩
  · injection hcs with hcs
    refine ⟨some x, l, c', zs, hcs, .inr ⟨x, rfl, hl, hm, by simpa using hz, hcell, hwz⟩, ?_⟩
    have h1 : ((lits (H := H) k (zs.take l)).length + (lits (H := H) k (zs.drop l)).length) * P.bytesOf e ≤ 140737488351232 := by
      refine hw _ ?_
      rw [hx]
      simp [DataW.weights, ht]
    have h2 : (lits (H := H) k (zs.take l)).length + (lits (H := H) k (zs.drop l)).length = zs.length := by simp [lits]; omega
    have h3 : zs.length = c' := by simpa using hz
    rw [h2, hB, h3] at h1
    exact Nat.le_trans (Nat.mul_le_mul_right _ hl) h1
end
end Go.Proofs.YtggflkjdgcdcmaaGreatDoor.Arr
