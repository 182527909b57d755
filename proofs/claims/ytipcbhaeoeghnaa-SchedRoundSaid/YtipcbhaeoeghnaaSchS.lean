/- SchedFair. -/
import Derived.Test.YtipcbhaeoeghnaaSchQ
namespace Go.Proofs.Ytipcbhaeoeghnaa.Eng
open Go Go.RowKit Go.Proofs
set_option linter.unusedVariables false
set_option linter.unusedSimpArgs false
set_option maxRecDepth 1000000
theorem wt_nwt_le {M : List Bool} {W : List Nat} {who L : Nat} (h : ∀ i, wt W i ≤ L) (i : Nat) : wt (nwt M W who) i ≤ L + 1 := by
  rw [wt_nwt]; unfold nw1; have := h i; split <;> omega
theorem wrs_le' {M : List Bool} {W : List Nat} {who L o : Nat} (h : ∀ i, wt W i ≤ L) (ho : o ≤ L + 1) (k : Nat) : wrs M W who o k ≤ L + 1 :=
  wrs_le ho (fun i => by have := h i; unfold nw1; split <;> omega) k
/-- Who may, by the bits of a turn. -/
def bitI (x : Int) (k : Nat) : Bool := Int.tmod (shrI IntKind.u8 x (k : Int)) 2 == 1
def mb (x : Int) (n k : Nat) : List Bool := (List.range n).map fun j => decide (j < k) && bitI x j
theorem mb_len (x : Int) (n k : Nat) : (mb x n k).length = n := by simp [mb]
theorem mb_zero (x : Int) (n : Nat) : mb x n 0 = List.replicate n false := by
  apply List.ext_getElem
  · simp [mb]
  · intro j h1 h2; simp [mb]
theorem mb_yes {x : Int} {n k : Nat} (h : k < n) (hb : bitI x k = true) : (mb x n k).set k true = mb x n (k + 1) := by
  apply List.ext_getElem
  · simp [mb]
  · intro j h1 h2
    rw [List.getElem_set]
    simp only [mb, List.getElem_map, List.getElem_range]
    by_cases hj : k = j
    · subst hj; simp [hb]
    · rw [if_neg hj]
      by_cases hj2 : j < k
      · rw [decide_eq_true hj2, decide_eq_true (show j < k + 1 by omega)]
      · rw [decide_eq_false hj2, decide_eq_false (show ¬ j < k + 1 by omega)]
theorem mb_no {x : Int} {n k : Nat} (hb : bitI x k = false) : mb x n (k + 1) = mb x n k := by
  unfold mb
  refine List.map_congr_left fun j _ => ?_
  by_cases hj : j = k
  · subst hj; simp [hb]
  · by_cases hj2 : j < k
    · rw [decide_eq_true hj2, decide_eq_true (show j < k + 1 by omega)]
    · rw [decide_eq_false hj2, decide_eq_false (show ¬ j < k + 1 by omega)]
theorem mayB_mb {x : Int} {n i : Nat} (hi : i < n) : mayB (mb x n n) i = bitI x i := by
  unfold mayB
  rw [List.getD_eq_getElem?_getD, List.getElem?_eq_getElem (by rw [mb_len]; exact hi)]
  simp [mb, hi]
theorem tho_mb (x : Int) (n : Nat) : tho (mb x n n) = (List.range n).filter (bitI x) := by
  unfold tho
  rw [mb_len]
  exact List.filter_congr fun i hi => mayB_mb (by simpa using hi)
section
variable {e w : World} {F : List HP} {g t o : Nat} {P : List Int} {b : Int} {W : List Nat} {M : List Bool} {q : Option Addr} {c : Nat}
theorem schAwake (h : Own e w F) : Rets Try.prog 9 #[] w fun v w' => v = .bool true ∧ Own e w' F := by
  refine cortadolaw35_awake_go (h.newR fun g1 w h => ?_)
  have h : Own e w (slO 3 1 (some ⟨g1, 0, none⟩) 2 2 (cs .i64 [5, 0]) :: F) := Own.slMk (rest := []) (by rfl) (by omega) (by unfold maxLen; omega) (by rfl) h
  refine Rets.mono (schNew (q := some ⟨g1, 0, none⟩) (c := 2) (xs := [5, 0]) (b := 0) h (fun w h => h.slRd) (by simp)) ?_
  rintro _ w ⟨g, rfl, h⟩
  refine ⟨_, rfl, h.newR fun g2 w h => ?_⟩
  have h : Own e w (slO 4 1 (some ⟨g2, 0, none⟩) 3 3 ([true, true, true].map Value.bool) :: _) := Own.slMk (rest := []) (by rfl) (by omega) (by unfold maxLen; omega) (by rfl) h
  have h0 : ∀ i, wt [] i ≤ 0 := fun i => by simp [wt]
  have h : Own e w (schO g [5, 0] 0 0 [] 0 :: slO 4 1 (some ⟨g2, 0, none⟩) 3 3 ([true, true, true].map Value.bool) :: slO 3 1 (some ⟨g1, 0, none⟩) 2 2 (cs .i64 [5, 0]) :: F) := h.swap
  refine Rets.mono (schPick (M := [true, true, true]) (q := some ⟨g2, 0, none⟩) (c := 3) h (fun w h => h.slRd) (by simp) (by simp) (fun i => by have := h0 i; omega) (by omega) (by omega) ⟨by omega, by omega⟩ (by simp)) ?_
  have e1 : whoP [5, 0] 0 [true, true, true] [] = 2 := by decide
  rw [e1]
  rintro _ w (⟨hz, _⟩ | ⟨_, rfl, h⟩)
  · exact absurd hz (by decide)
  have h1 := wt_nwt_le (M := [true, true, true]) (who := 2) h0
  have h : Own e w (schO g [0] 0 1 (nwt [true, true, true] [] 2) (wrs [true, true, true] [] 2 0 3) :: _) := h
  have l1 : (nwt [true, true, true] [] 2).length = 3 := by rw [nwt_len]; rfl
  have o1 := wrs_le' (M := [true, true, true]) (who := 2) h0 (show 0 ≤ 0 + 1 by omega) 3
  refine ⟨_, _, rfl, ?_⟩
  refine Rets.mono (schPick (M := [true, true, true]) (q := some ⟨g2, 0, none⟩) (c := 3) h (fun w h => h.slRd) (by simp) (by omega) (fun i => by have := h1 i; omega) (by omega) (by omega) ⟨by omega, by omega⟩ (by simp)) ?_
  have e2 : whoP [0] 0 [true, true, true] (nwt [true, true, true] [] 2) = 0 := by decide
  rw [e2]
  rintro _ w (⟨hz, _⟩ | ⟨_, rfl, h⟩)
  · exact absurd hz (by decide)
  have h2 := wt_nwt_le (M := [true, true, true]) (who := 0) h1
  have h : Own e w (schO g [] 0 2 (nwt [true, true, true] (nwt [true, true, true] [] 2) 0) (wrs [true, true, true] (nwt [true, true, true] [] 2) 0 (wrs [true, true, true] [] 2 0 3) 3) :: _) := h
  have l2 : (nwt [true, true, true] (nwt [true, true, true] [] 2) 0).length = 3 := by rw [nwt_len, l1]; rfl
  have o2 := wrs_le' (M := [true, true, true]) (who := 0) h1 (show wrs [true, true, true] [] 2 0 3 ≤ 0 + 1 + 1 by omega) 3
  refine ⟨_, _, rfl, ?_⟩
  refine Rets.mono (schPick (M := [true, true, true]) (q := some ⟨g2, 0, none⟩) (c := 3) h (fun w h => h.slRd) (by simp) (by omega) (fun i => by have := h2 i; omega) (by omega) (by omega) ⟨by omega, by omega⟩ (by simp)) ?_
  have e3 : whoP [] 0 [true, true, true] (nwt [true, true, true] (nwt [true, true, true] [] 2) 0) = 1 := by decide
  rw [e3]
  rintro _ w (⟨hz, _⟩ | ⟨_, rfl, h⟩)
  · exact absurd hz (by decide)
  exact ⟨_, _, rfl, fun _ => ⟨fun _ => ⟨fun _ => ⟨rfl, h.drop.drop.drop⟩, fun hc => (by cases hc)⟩, fun hc => (by cases hc)⟩, fun hc => (by cases hc)⟩
end
end Go.Proofs.Ytipcbhaeoeghnaa.Eng
