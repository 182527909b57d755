/- Schedulers: the document's way to pick (plain). -/
import Derived.Test.YtipcbhaeoeghnaaSchW
namespace Go.Proofs.Ytipcbhaeoeghnaa.Eng
open Go Go.RowKit Go.Proofs
set_option linter.unusedVariables false
set_option linter.unusedSimpArgs false
/-- Those that may, of the first ones. -/
def thoI (M : List Bool) (i : Nat) : List Nat := (List.range i).filter (mayB M)
theorem thoI_all (M : List Bool) : thoI M M.length = tho M := rfl
theorem thoI_len (M : List Bool) (i : Nat) : (thoI M i).length ≤ i := by
  have := List.length_filter_le (mayB M) (List.range i)
  simpa [thoI] using this
theorem thoI_yes {M : List Bool} {i : Nat} (h : mayB M i = true) : thoI M (i + 1) = thoI M i ++ [i] := by
  unfold thoI
  rw [List.range_succ, List.filter_append, List.filter_cons_of_pos h]; rfl
theorem thoI_no {M : List Bool} {i : Nat} (h : mayB M i = false) : thoI M (i + 1) = thoI M i := by
  unfold thoI
  rw [List.range_succ, List.filter_append, List.filter_cons_of_neg (by rw [h]; simp)]; simp
theorem thoI_le (M : List Bool) (i : Nat) : ∀ d, (thoI M i).length ≤ (thoI M (i + d)).length
  | 0 => Nat.le_refl _
  | d + 1 => by
    refine Nat.le_trans (thoI_le M i d) ?_
    show _ ≤ (thoI M (i + d + 1)).length
    cases h : mayB M (i + d) with
    | true => rw [thoI_yes h, List.length_append]; omega
    | false => rw [thoI_no h]; exact Nat.le_refl _
theorem tho_split {M : List Bool} {i : Nat} (hi : i < M.length) (hm : mayB M i = true) : ∃ R, tho M = thoI M i ++ i :: R := by
  obtain ⟨d, hd⟩ : ∃ d, M.length = i + (d + 1) := ⟨M.length - i - 1, by omega⟩
  unfold tho thoI
  rw [hd, List.range_add, List.filter_append, List.range_succ_eq_map, List.map_cons, List.filter_cons_of_pos (by simpa using hm)]
  exact ⟨_, rfl⟩
theorem tho_get {M : List Bool} {i : Nat} (hi : i < M.length) (hm : mayB M i = true) : (tho M).getD (thoI M i).length 0 = i := by
  obtain ⟨R, hR⟩ := tho_split hi hm
  rw [hR, List.getD_eq_getElem?_getD, List.getElem?_append_right (Nat.le_refl _), Nat.sub_self]; rfl
theorem lngF_snoc (W : List Nat) : ∀ (l : List Nat) (m x : Nat), lngF W m (l ++ [x]) = if wt W (lngF W m l) < wt W x then x else lngF W m l
  | [], m, x => rfl
  | y :: r, m, x => by
    show lngF W _ (r ++ [x]) = _
    rw [lngF_snoc W r]; rfl
/-- The longest one, or less than none. -/
def lngI (W : List Nat) (l : List Nat) : Int := if l = [] then -1 else (lng W l : Nat)
theorem lngI_nil (W : List Nat) : lngI W [] = -1 := rfl
theorem lngI_some {W l : List Nat} (h : l ≠ []) : lngI W l = (lng W l : Nat) := if_neg h
theorem lngI_snoc {W l : List Nat} (h : l ≠ []) (x : Nat) : lngI W (l ++ [x]) = if wt W (lng W l) < wt W x then (x : Int) else (lng W l : Nat) := by
  rw [lngI_some (by simp)]
  cases l with
  | nil => exact absurd rfl h
  | cons y r =>
    show ((lngF W y (r ++ [x]) : Nat) : Int) = if wt W (lngF W y r) < wt W x then (x : Int) else ((lngF W y r : Nat) : Int)
    rw [lngF_snoc]
    split <;> rfl
theorem lngI_one (W : List Nat) (x : Nat) : lngI W ([] ++ [x]) = (x : Int) := rfl
theorem lng_lt {M : List Bool} {W : List Nat} {i : Nat} (h : thoI M i ≠ []) : lng W (thoI M i) < i := by
  have := lng_mem (W := W) h
  simp [thoI] at this
  exact this.1
/-- Who is picked, by the way down. -/
def whoD (M : List Bool) (n L i : Nat) : Nat := if (thoI M i).length ≤ n then (tho M).getD n 0 else L
theorem whoD_top {M : List Bool} {n L : Nat} (h : n < (tho M).length) : whoD M n L M.length = L := if_neg (by rw [thoI_all]; omega)
theorem whoD_low {M : List Bool} {n L : Nat} : whoD M n L 0 = (tho M).getD n 0 := if_pos (by simp [thoI])
theorem whoD_no {M : List Bool} {n L i : Nat} (h : mayB M i = false) : whoD M n L i = whoD M n L (i + 1) := by unfold whoD; rw [thoI_no h]
theorem whoD_yes {M : List Bool} {n L i : Nat} (hi : i < M.length) (h : mayB M i = true) : whoD M n L i = if (thoI M i).length = n then i else whoD M n L (i + 1) := by
  unfold whoD
  rw [thoI_yes h, List.length_append, List.length_singleton]
  split
  · rename_i h1
    split
    · rename_i h2; rw [← h2, tho_get hi h]
    · rw [if_pos (by omega)]
  · rw [if_neg (by omega), if_neg (by omega)]
end Go.Proofs.Ytipcbhaeoeghnaa.Eng
