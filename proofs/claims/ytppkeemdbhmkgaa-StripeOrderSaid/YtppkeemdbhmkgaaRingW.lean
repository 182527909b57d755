/- Rings: places that go round (plain). -/
import Derived.Test.YtppkeemdbhmkgaaEngU
namespace Go.Proofs.Ytppkeemdbhmkgaa.Eng
open Go Go.RowKit Go.Proofs
set_option linter.unusedVariables false
set_option linter.unusedSimpArgs false
section
variable {α : Type}
def rix (L front i : Nat) : Nat := (front + i) % L
theorem rix_eq {L front i : Nat} (hf : front < L) (hi : i ≤ L) : rix L front i = if front + i < L then front + i else front + i - L := by
  unfold rix
  split
  · rename_i h; exact Nat.mod_eq_of_lt h
  · rename_i h
    rw [Nat.mod_eq_sub_mod (by omega)]
    exact Nat.mod_eq_of_lt (by omega)
theorem rix_lt {L front i : Nat} (hf : 0 < L) : rix L front i < L := Nat.mod_lt _ hf
structure RingOk (L front : Nat) (buf xs : List α) (room : Nat) : Prop where
  len : buf.length = L
  fit : xs.length ≤ L
  max : xs.length ≤ room
  big : L ≤ 65540
  fr : front < L ∨ (L = 0 ∧ front = 0)
  at_ : ∀ i (hi : i < xs.length), buf[rix L front i]? = some xs[i]
theorem RingOk.nil (room : Nat) : RingOk 0 0 ([] : List α) [] room := ⟨rfl, Nat.le_refl _, Nat.zero_le _, by omega, .inr ⟨rfl, rfl⟩, fun i hi => by cases hi⟩
theorem RingOk.send {L front room : Nat} {buf xs : List α} (h : RingOk L front buf xs room) (hl : xs.length < L) (hr : xs.length < room) (x : α) : RingOk L front (buf.set (rix L front xs.length) x) (xs ++ [x]) room := by
  have hf : front < L := by rcases h.fr with h | ⟨h, _⟩ <;> omega
  refine ⟨by rw [List.length_set]; exact h.len, by simp; omega, by simp; omega, h.big, h.fr, fun i hi => ?_⟩
  have hlt := rix_lt (L := L) (front := front) (i := xs.length) (by omega)
  by_cases hi' : i < xs.length
  · have hne : rix L front xs.length ≠ rix L front i := by
      rw [rix_eq hf (by omega), rix_eq hf (by omega)]
      split <;> split <;> omega
    rw [List.getElem?_set_ne hne, h.at_ i hi', List.getElem_append_left hi']
  · have : i = xs.length := by simp at hi; omega
    subst this
    rw [List.getElem?_set_self (by rw [h.len]; exact hlt)]
    simp
theorem RingOk.take {L front room : Nat} {buf xs : List α} {x : α} (h : RingOk L front buf (x :: xs) room) (z : α) : front < L ∧ buf[front]? = some x ∧ RingOk L (rix L front 1) (buf.set front z) xs room := by
  have hf : front < L := by
    rcases h.fr with h' | ⟨h', _⟩
    · exact h'
    · have := h.fit; simp at this; omega
  have hfit := h.fit
  have hmax := h.max
  simp only [List.length_cons] at hfit hmax
  refine ⟨hf, ?_, by rw [List.length_set]; exact h.len, by omega, by omega, h.big, .inl (rix_lt (by omega)), fun i hi => ?_⟩
  · have := h.at_ 0 (by simp)
    rw [rix_eq hf (by omega)] at this
    simpa [hf] using this
  · have e1 : rix L (rix L front 1) i = rix L front (i + 1) := by
      unfold rix
      rw [Nat.mod_add_mod]
      congr 1
      omega
    have hne : front ≠ rix L front (i + 1) := by
      rw [rix_eq hf (by omega)]
      split <;> omega
    rw [e1, List.getElem?_set_ne hne, h.at_ (i + 1) (by simp; omega)]
    simp
theorem RingOk.grown {n room : Nat} {xs : List α} (z : α) (hl : xs.length ≤ n) (hr : xs.length ≤ room) (hn : 0 < n) (hbig : n ≤ 65540) : RingOk n 0 (xs ++ List.replicate (n - xs.length) z) xs room := by
  refine ⟨by simp; omega, hl, hr, hbig, .inl hn, fun i hi => ?_⟩
  rw [rix_eq hn (by omega), if_pos (by omega), Nat.zero_add, List.getElem?_append_left hi, List.getElem?_eq_getElem hi]
theorem rix_int {L front i : Nat} : Int.tmod ((front : Int) + (i : Int)) (L : Int) = (rix L front i : Int) := by
  rw [Int.tmod_eq_emod_of_nonneg (by omega)]
  unfold rix
  rfl
end
end Go.Proofs.Ytppkeemdbhmkgaa.Eng
