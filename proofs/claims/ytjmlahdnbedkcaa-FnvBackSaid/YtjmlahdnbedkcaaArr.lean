/- An array of whole numbers by value, as a parameter: its value written out. -/
import Derived.OpenShut
import Derived.WalkKit
import Derived.ProofKit
namespace Go.Proofs.Ytjmlahdnbedkcaa.Arr
open Go.ChangeShapes Go.WideShapes Go.ChangeAt Go.RowKit
def numOf : Value → Int
  | .int _ x => x
  | _ => 0
theorem open_arr {H : Type} {enc : TypeId × Value → H} {P : Program} {w : World} {r : Reach} {b0 base : Nat} {spare : Nat → Bool} {held : Bool} {t e : TypeId} {n : Nat} {k : IntKind} {v : Value} {d : DataW H} {p : List MemPlace}
    (ht : P.underlying t = some (.array n e)) (he : P.underlying e = some (.int k)) (hc : P.cellsOf t = n) (hce : P.cellsOf e = 1)
    (hv : Value.okWide P w r b0 t v) (h : DataW.Trod enc P w base spare held t v d p) :
    ∃ xs : List Int, v = .agg (xs.map (Value.int k)).toArray ∧ xs.length = n ∧ ∀ x ∈ xs, (Lit.int k x).wf = true := by
  obtain ⟨cs, rfl, hsz, _⟩ : ∃ cs, v = .agg cs ∧ cs.size = P.cellsOf t ∧ Row.okWide P w r b0 t cs := by
    simpa [Value.okWide, ht] using hv
  obtain ⟨fuel, hf⟩ := h
  obtain ⟨xs, m, _, _, _, hl, hel⟩ := DataW.trod_array ht hf
  have key : ∀ i, i < n → ∃ x, cs.toList[i]? = some (.int k x) ∧ (Lit.int k x).wf = true := by
    intro i hi
    have hE := hel i hi
    rw [hce, Nat.mul_one, List.getElem?_eq_getElem (by omega)] at hE
    obtain ⟨z, e1, _, w1⟩ := DataW.trod_int he hE
    refine ⟨z, ?_, w1⟩
    have h0 : (((Value.agg cs).cells.toList.drop i).take 1)[0]? = some (.int k z) := by rw [e1]; rfl
    simpa [Value.cells] using h0
  have hlen : cs.toList.length = n := by rw [Array.length_toList, hsz, hc]
  have hall : cs.toList = (cs.toList.map numOf).map (Value.int k) := by
    apply List.ext_getElem?
    intro i
    by_cases hi : i < n
    · obtain ⟨x, hx, _⟩ := key i hi
      rw [List.getElem?_map, List.getElem?_map, hx]; rfl
    · rw [List.getElem?_eq_none (by omega), List.getElem?_eq_none (by simp [hlen]; omega)]
  refine ⟨cs.toList.map numOf, ?_, by rw [List.length_map, hlen], fun x hx => ?_⟩
  · rw [← hall]
  · obtain ⟨u, hu, rfl⟩ := List.mem_map.1 hx
    obtain ⟨i, hi, he'⟩ := List.mem_iff_getElem.1 hu
    obtain ⟨x, hx1, hx2⟩ := key i (by omega)
    rw [List.getElem?_eq_getElem hi, he'] at hx1
    injection hx1 with hx1
    rw [hx1]; exact hx2
end Go.Proofs.Ytjmlahdnbedkcaa.Arr
