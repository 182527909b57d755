/- An array of whole numbers by value, as a parameter: its value written out. -/
import Derived.OpenShut
import Derived.WalkKit
import Derived.ProofKit
namespace Go.Proofs.Ytppmdifhoejhjaa.Arr
open Go.ChangeShapes Go.WideShapes Go.ChangeAt Go.RowKit
def numOf : Value → Int
  | .int _ x => x
  | _ => 0
theorem open_arr {H : Type} {enc : TypeId × Value → H} {P : Program} {w : World} {r : Reach} {b0 base : Nat} {spare : Nat → Bool} {held : Bool} {t e : TypeId} {n : Nat} {k : IntKind} {v : Value} {d : DataW H} {p : List MemPlace}
    (ht : P.underlying t = some (.array n e)) (he : P.underlying e = some (.int k)) (hc : P.cellsOf t = n) (hce : P.cellsOf e = 1)
    (hv : Value.okWide P w r b0 t v) (h : DataW.Trod enc P w base spare held t v d p) :
    ∃ xs : List Int, v = .agg (xs.map (Value.int k)).toArray ∧ xs.length = n ∧ ∀ x ∈ xs, (Lit.int k x).wf = true := by
  obtain ⟨cs, rfl, hsz, _⟩ : ∃ cs, v = .agg cs ∧ cs.size = P.cellsOf t ∧ Row.okWide P w r b0 t cs := by
    simpa [Value.okWide, ht] using hv
  obtain ⟨fuel, hf⟩ := h
  obtain ⟨xs, m, _, _, _, hl, hel⟩ := DataW.trod_array ht hf
  have key : ∀ i, i < n → ∃ x, cs.toList[i]? = some (.int k x) ∧ (Lit.int k x).wf = true := by
    intro i hi
    have hE := hel i hi
    rw [hce, Nat.mul_one, List.getElem?_eq_getElem (by omega)] at hE
    obtain ⟨z, e1, _, w1⟩ := DataW.trod_int he hE
    refine ⟨z, ?_, w1⟩
    have h0 : (((Value.agg cs).cells.toList.drop i).take 1)[0]? = some (.int k z) := by rw [e1]; rfl
    simpa [Value.cells] using h0
  have hlen : cs.toList.length = n := by rw [Array.length_toList, hsz, hc]
  have hall : cs.toList = (cs.toList.map numOf).map (Value.int k) := by
    apply List.ext_getElem?
    intro i
    by_cases hi : i < n
    · obtain ⟨x, hx, _⟩ := key i hi
      rw [List.getElem?_map, List.getElem?_map, hx]; rfl
    · rw [List.getElem?_eq_none (by omega), List.getElem?_eq_none (by simp [hlen]; omega)]
  refine ⟨cs.toList.map numOf, ?_, by rw [List.length_map, hlen], fun x hx => ?_⟩
  · rw [← hall]
  · obtain ⟨u, hu, rfl⟩ := List.mem_map.1 hx
    obtain ⟨i, hi, he'⟩ := List.mem_iff_getElem.1 hu
    obtain ⟨x, hx1, hx2⟩ := key i (by omega)
    rw [List.getElem?_eq_getElem hi, he'] at hx1
    injection hx1 with hx1
    rw [hx1]; exact hx2
/-- What a slice of whole numbers that came in is. -/
def RowI (k : IntKind) (w : World) (a : Option Addr) (len cap : Nat) (zs : List Int) : Prop :=
  (a = none ∧ len = 0 ∧ cap = 0 ∧ zs = []) ∨
  ∃ x, a = some x ∧ len ≤ cap ∧ cap ≤ maxLen ∧ zs.length = cap ∧ (∀ i, i < zs.length → w.cell? (x.add i) = some (.int k (zs.getD i 0))) ∧ ∀ n ∈ zs, (Lit.int k n).wf = true
section
variable {H : Type} {enc : TypeId × Value → H} {P : Program} {w : World} {base m : Nat} {held : Bool} {t e : TypeId} {k : IntKind} {c : Value} {cs : List Value} {y : DataW H × List MemPlace}
theorem cell_int (he : P.underlying e = some (.int k)) (h : DataW.trod enc P w base (fun _ => true) held m e [c] = some y) : ∃ x, c = .int k x ∧ (Lit.int k x).wf = true := by
  obtain ⟨x, e1, _, w1⟩ := DataW.trod_int he h
  injection e1 with e1
  exact ⟨x, e1, w1⟩
theorem cell_slice (ht : P.underlying t = some (.slice e)) (he : P.underlying e = some (.int k)) (hc : P.cellsOf e = 1) (h : DataW.trod enc P w base (fun _ => true) held m t [c] = some y) : ∃ a len cap zs, c = .slice a len cap ∧ RowI k w a len cap zs := by
  rcases open_ints ht he hc h with ⟨hcs, _⟩ | ⟨x, l, c', zs, hcs, _, hl, hm, hz, _, hcell, hwz⟩
  · injection hcs with hcs
    exact ⟨none, 0, 0, [], hcs, .inl ⟨rfl, rfl, rfl, rfl⟩⟩
  · injection hcs with hcs
    exact ⟨some x, l, c', zs, hcs, .inr ⟨x, rfl, hl, hm, by simpa using hz, hcell, hwz⟩⟩
theorem cell_sl (ht : P.underlying t = some (.slice e)) (h : DataW.trod enc P w base (fun _ => true) held m t [c] = some y) : ∃ a len cap, c = .slice a len cap := by
  rcases DataW.trod_slice ht h with ⟨h0, _⟩ | ⟨a, len, cap', elems, rest, n, _, hcs, _⟩
  · injection h0 with h0
    exact ⟨none, 0, 0, h0⟩
  · injection hcs with hcs
    exact ⟨some a, len, cap', hcs⟩
theorem cells_arr {n : Nat} (ht : P.underlying t = some (.array n e)) (he : P.underlying e = some (.int k)) (hc : P.cellsOf t = n) (hce : P.cellsOf e = 1) (h : DataW.trod enc P w base (fun _ => true) held m t cs = some y) :
    ∃ xs : List Int, cs = xs.map (Value.int k) ∧ xs.length = n ∧ ∀ x ∈ xs, (Lit.int k x).wf = true := by
  obtain ⟨xs, m', _, _, hcl, hl, hel⟩ := DataW.trod_array ht h
  have key : ∀ i, i < n → ∃ x, cs[i]? = some (.int k x) ∧ (Lit.int k x).wf = true := by
    intro i hi
    have hE := hel i hi
    rw [hce, Nat.mul_one, List.getElem?_eq_getElem (by omega)] at hE
    obtain ⟨z, e1, _, w1⟩ := DataW.trod_int he hE
    refine ⟨z, ?_, w1⟩
    have h0 : ((cs.drop i).take 1)[0]? = some (.int k z) := by rw [e1]; rfl
    simpa using h0
  have hlen : cs.length = n := by rw [hcl, hc]
  have hall : cs = (cs.map numOf).map (Value.int k) := by
    apply List.ext_getElem?
    intro i
    by_cases hi : i < n
    · obtain ⟨x, hx, _⟩ := key i hi
      rw [List.getElem?_map, List.getElem?_map, hx]; rfl
    · rw [List.getElem?_eq_none (by omega), List.getElem?_eq_none (by simp [hlen]; omega)]
  refine ⟨cs.map numOf, hall, by rw [List.length_map, hlen], fun x hx => ?_⟩
  obtain ⟨u, hu, rfl⟩ := List.mem_map.1 hx
  obtain ⟨i, hi, he'⟩ := List.mem_iff_getElem.1 hu
  obtain ⟨x, hx1, hx2⟩ := key i (by omega)
  rw [List.getElem?_eq_getElem hi, he'] at hx1
  injection hx1 with hx1
  rw [hx1]; exact hx2
/-- A struct's value, as cells. -/
theorem agg_of {fs : Array Field} {n : Nat} {r : Reach} {b0 : Nat} {v : Value} (ht : P.underlying t = some (.struct fs)) (hc : P.cellsOf t = n) (hv : Value.okWide P w r b0 t v) : ∃ l : List Value, v = .agg l.toArray ∧ l.length = n := by
  obtain ⟨cs, rfl, hsz, _⟩ : ∃ cs, v = .agg cs ∧ cs.size = P.cellsOf t ∧ Row.okWide P w r b0 t cs := by
    simpa [Value.okWide, ht] using hv
  exact ⟨cs.toList, rfl, by rw [Array.length_toList, hsz, hc]⟩
theorem field_of {fs : Array Field} (ht : P.underlying t = some (.struct fs)) (h : DataW.trod enc P w base (fun _ => true) held m t cs = some y) :
    ∃ n, ∀ (i : Nat) (f : Field), fs[i]? = some f → ∃ z, DataW.trod enc P w base (fun _ => true) held n f.type ((cs.drop f.offset).take (P.cellsOf f.type)) = some z := by
  obtain ⟨xs, n, _, _, _, hl, hel⟩ := DataW.trod_struct ht h
  refine ⟨n, fun i f hf => ?_⟩
  have hi : i < fs.size := by
    rcases Nat.lt_or_ge i fs.size with h | h
    · exact h
    · rw [Array.getElem?_eq_none h] at hf; cases hf
  exact ⟨xs[i]'(by omega), by rw [hel i f hf, List.getElem?_eq_getElem (by omega)]⟩
end
end Go.Proofs.Ytppmdifhoejhjaa.Arr
