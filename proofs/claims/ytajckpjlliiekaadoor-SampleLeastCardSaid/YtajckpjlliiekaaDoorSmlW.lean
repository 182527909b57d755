/- SampleLeast, plain: the first least of numbers; a row without one. -/
import Derived.Test.YtajckpjlliiekaaDoorEngT
namespace Go.Proofs.YtajckpjlliiekaaDoor.Eng
open Go Go.RowKit Go.Proofs
set_option linter.unusedVariables false
set_option linter.unusedSimpArgs false
set_option maxRecDepth 1000000
/-- Where the first least of the first i stands. -/
def amin (l : List Int) : Nat → Nat
  | 0 => 0
  | i + 1 => if l.getD i 0 < l.getD (amin l i) 0 then i else amin l i
theorem amin_lt (l : List Int) (h : 0 < l.length) : ∀ i, i ≤ l.length → amin l i < l.length
  | 0, _ => h
  | i + 1, hi => by
    have := amin_lt l h i (by omega)
    unfold amin; split <;> omega
/-- A row without one: the last one comes to its place. -/
def woL (l : List Int) (i : Nat) : List Int := (l.set i (l.getD (l.length - 1) 0)).take (l.length - 1)
theorem woL_len {l : List Int} {i : Nat} : (woL l i).length = l.length - 1 := by
  unfold woL; rw [List.length_take, List.length_set]; omega
theorem woL_take {l : List Int} {i k : Nat} (hk : k < l.length - 1) : (woL l i).take (k + 1) = (woL l i).take k ++ [if k = i then l.getD (l.length - 1) 0 else l.getD k 0] := by
  have hk2 : k < (woL l i).length := by rw [woL_len]; exact hk
  have e1 : (woL l i)[k]? = some (if k = i then l.getD (l.length - 1) 0 else l.getD k 0) := by
    unfold woL
    rw [List.getElem?_take, if_pos hk, List.getElem?_set]
    by_cases e : i = k
    · subst e; rw [if_pos rfl, if_pos (by omega), if_pos rfl]
    · have e' : ¬ k = i := fun h => e h.symm
      rw [if_neg e, if_neg e', List.getD_eq_getElem?_getD, List.getElem?_eq_getElem (by omega)]; rfl
  rw [List.getElem?_eq_getElem hk2] at e1
  injection e1 with e1
  rw [List.take_succ_eq_append_getElem hk2, e1]
end Go.Proofs.YtajckpjlliiekaaDoor.Eng
