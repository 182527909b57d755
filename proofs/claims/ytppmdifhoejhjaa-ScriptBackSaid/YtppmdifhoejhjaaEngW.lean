/- Things that are only read. -/
import Derived.Test.YtppmdifhoejhjaaEngU
namespace Go.Proofs.Ytppmdifhoejhjaa.Eng
open Go Go.RowKit
set_option linter.unusedVariables false
set_option linter.unusedSimpArgs false
def roO (E : TypeId) (q : Option Addr) (c : Nat) (xs : List Value) : HP := fun h => xs.length ≤ c ∧ (xs = [] ∨ ∃ g pre post, q = some ⟨g, List.length pre, none⟩ ∧ blk g E (pre ++ xs ++ post) h)
section
variable {e w : World} {F : List HP} {E : TypeId} {q : Option Addr} {n c : Nat} {xs : List Value}
theorem Own.toRo (h : Own e w (slO E 1 q n c xs :: F)) : Own e w (roO E q c xs :: F) := by
  have hf := h.slFacts
  refine h.mono fun k hk => ⟨by omega, ?_⟩
  obtain ⟨_, h1⟩ := hk
  rcases h1 with ⟨_, h0⟩ | ⟨g, rest, rfl, hb, _⟩
  · left; exact List.eq_nil_of_length_eq_zero (by omega)
  · exact .inr ⟨g, [], rest, rfl, by simpa using hb⟩
theorem Own.roLe (h : Own e w (roO E q c xs :: F)) : xs.length ≤ c := by
  obtain ⟨he, k, hk, h1, h2, ha, rfl, hA, hF⟩ := h
  exact hA.1
theorem Own.roRd (h : Own e w (roO E q c xs :: F)) : RdC w q xs := by
  obtain ⟨he, k, hk, h1, h2, ha, rfl, ⟨_, hA⟩, hF⟩ := h
  rcases hA with h | ⟨g, pre, post, rfl, hb⟩
  · exact .inl h
  · refine .inr ⟨_, rfl, fun j u hj => ?_⟩
    have hg := hk g _ (joinH_left hb)
    rw [add_add]
    have hlt := (List.getElem?_eq_some_iff.1 hj).1
    simp only [World.cell?, hg]
    have : ((pre ++ xs ++ post).toArray)[pre.length + j]? = some u := by
      rw [List.getElem?_toArray, List.getElem?_append_left (by simp; omega), List.getElem?_append_right (by omega)]
      simpa using hj
    simpa using this
theorem Own.roDrop {k : Nat} (hk : k ≤ xs.length) (h : Own e w (roO E q c xs :: F)) : Own e w (roO E (slcA q k c 1) (c - k) (xs.drop k) :: F) := by
  have hc := h.roLe
  refine h.mono fun hh hA => ⟨by rw [List.length_drop]; omega, ?_⟩
  obtain ⟨_, hA⟩ := hA
  rcases hA with h | ⟨g, pre, post, rfl, hb⟩
  · left; rw [h]; simp
  · by_cases h0 : c = k
    · left; rw [List.drop_eq_nil_iff]; omega
    · right
      refine ⟨g, pre ++ xs.take k, post, ?_, ?_⟩
      · unfold slcA
        rw [if_neg h0, Nat.mul_one, Option.map_some, add_add]
        simp [Nat.min_eq_left hk]
      · rw [List.append_assoc pre, List.take_append_drop]; exact hb
end
theorem RdC.pre {w : World} {q : Option Addr} {us vs : List Value} (h : RdC w q (us ++ vs)) : RdC w q us := by
  have := h.take us.length
  rwa [List.take_left' rfl] at this
end Go.Proofs.Ytppmdifhoejhjaa.Eng
