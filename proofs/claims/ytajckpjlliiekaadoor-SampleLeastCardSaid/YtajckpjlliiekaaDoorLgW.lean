/- Ledgers, plain: what is there, the sum of all costs, the steps. -/
import Derived.Test.YtajckpjlliiekaaDoorLgV
namespace Go.Proofs.YtajckpjlliiekaaDoor.Eng
open Go Go.RowKit Go.Proofs
set_option linter.unusedVariables false
set_option linter.unusedSimpArgs false
set_option maxRecDepth 1000000
def sumV : LE2 → Int
  | [] => 0
  | e :: l => e.2 + sumV l
theorem sumV_app (l m : LE2) : sumV (l ++ m) = sumV l + sumV m := by
  induction l with
  | nil => simp [sumV]
  | cons e l ih => simp only [List.cons_append, sumV, ih]; omega
theorem sumV_nn {l : LE2} (h : ∀ e ∈ l, 0 ≤ e.2) : 0 ≤ sumV l := by
  induction l with
  | nil => exact Int.le_refl _
  | cons e l ih =>
    have h1 := h e (by simp)
    have h2 := ih fun x hx => h x (by simp [hx])
    simp only [sumV]; omega
theorem sumV_parts (k : Int) (l : LE2) : sumV (l.filter (fun e => decide (e.1 < k))) + sumV (l.filter (fun e => decide (k < e.1))) = sumV (ldrop k l) := by
  unfold ldrop
  induction l with
  | nil => rfl
  | cons e l ih =>
    obtain ⟨a, b⟩ := e
    simp only [ne_eq] at ih ⊢
    by_cases h1 : a < k
    · have h2 : ¬ k < a := by omega
      have h3 : a ≠ k := by omega
      simp only [List.filter_cons, h1, h2, h3, decide_true, decide_false, ne_eq, not_false_eq_true, if_true, Bool.false_eq_true, if_false, sumV]; omega
    · by_cases h2 : k < a
      · have h3 : a ≠ k := by omega
        simp only [List.filter_cons, h1, h2, h3, decide_true, decide_false, ne_eq, not_false_eq_true, if_true, Bool.false_eq_true, if_false, sumV]; omega
      · have h3 : a = k := by omega
        simp only [List.filter_cons, h1, h2, h3, decide_true, decide_false, ne_eq, not_true_eq_false, if_true, Bool.false_eq_true, if_false]; simpa [h3] using ih
theorem sumV_lput (k v : Int) (l : LE2) : sumV (lput k v l) = sumV (ldrop k l) + v := by
  unfold lput
  rw [sumV_app, ← sumV_parts]
  simp only [sumV]; omega
theorem ldrop_no {k : Int} {l : LE2} (h : ∀ e ∈ l, e.1 ≠ k) : ldrop k l = l := fl_all fun e he => by simpa using h e he
def lval (k : Int) (l : LE2) : Int := ((lfind k l).getD (0, 0)).2
theorem sumV_ldrop {k : Int} {l : LE2} (h : Srt l) : sumV (ldrop k l) = sumV l - lval k l := by
  induction l with
  | nil => rfl
  | cons e l ih =>
    obtain ⟨a, b⟩ := e
    have h2 : Srt l := (List.pairwise_cons.1 h).2
    have hgt : ∀ e ∈ l, a < e.1 := (List.pairwise_cons.1 h).1
    by_cases hx : a = k
    · subst hx
      have e1 : ldrop a ((a, b) :: l) = l := by
        have := ldrop_no (k := a) (l := l) fun e he => by have := hgt e he; omega
        unfold ldrop at this ⊢
        rw [List.filter_cons, if_neg (by simp), this]
      rw [e1]; unfold lval; rw [lfind_cons]; simp only [sumV, Option.getD_some]; omega
    · have e1 : ldrop k ((a, b) :: l) = (a, b) :: ldrop k l := by unfold ldrop; rw [List.filter_cons, if_pos (by simpa using hx)]
      have e2 : lval k ((a, b) :: l) = lval k l := by unfold lval; rw [lfind_ne hx]
      rw [e1, e2]; simp only [sumV, ih h2]; omega
theorem lfind_in {k : Int} {l : LE2} {e : Int × Int} (h : lfind k l = some e) : e ∈ l ∧ e.1 = k := by
  unfold lfind at h
  exact ⟨List.mem_of_find?_eq_some h, by simpa using List.find?_some h⟩
theorem lval_bd {k : Int} {l : LE2} (hS : Srt l) (h : ∀ e ∈ l, 0 ≤ e.2) : 0 ≤ lval k l ∧ lval k l ≤ sumV l := by
  have h1 := sumV_ldrop (k := k) hS
  have h2 : 0 ≤ sumV (ldrop k l) := sumV_nn fun e he => h e (List.mem_filter.1 he).1
  refine ⟨?_, by omega⟩
  unfold lval
  cases hf : lfind k l with
  | none => exact Int.le_refl _
  | some e => exact h e (lfind_in hf).1
theorem nn_lput {k v : Int} {l : LE2} (hv : 0 ≤ v) (h : ∀ e ∈ l, 0 ≤ e.2) : ∀ e ∈ lput k v l, 0 ≤ e.2 := fun e he => by
  unfold lput at he
  rcases List.mem_append.1 he with he | he
  · exact h e (List.mem_filter.1 he).1
  · rcases List.mem_cons.1 he with rfl | he
    · exact hv
    · exact h e (List.mem_filter.1 he).1
theorem nn_ldrop {k : Int} {l : LE2} (h : ∀ e ∈ l, 0 ≤ e.2) : ∀ e ∈ ldrop k l, 0 ≤ e.2 := fun e he => h e (List.mem_filter.1 he).1
/-- What a ledger knows. -/
structure Lg where
  t : Tr
  used : Int
  most : Int
def LgOk (s : Lg) : Prop := Srt s.t.toL ∧ sumV s.t.toL = s.used ∧ (∀ e ∈ s.t.toL, 0 ≤ e.2) ∧ s.used ≤ s.most ∧ s.most ≤ 4611686018427387904
theorem LgOk.nn {s : Lg} (h : LgOk s) : 0 ≤ s.used := by rw [← h.2.1]; exact sumV_nn h.2.2.1
theorem LgOk.val {s : Lg} (h : LgOk s) (k : Int) : 0 ≤ lval k s.t.toL ∧ lval k s.t.toL ≤ s.used := by
  have := lval_bd (k := k) h.1 h.2.2.1
  rwa [h.2.1] at this
def lgAdd (k n : Int) (s : Lg) : Lg × Bool := if (lfind k s.t.toL).isSome = true then (s, false) else if 0 ≤ n ∧ s.used + n ≤ s.most then (⟨tput k n s.t, s.used + n, s.most⟩, true) else (s, false)
def lgMove (k n : Int) (s : Lg) : Lg × Bool := if (lfind k s.t.toL).isSome = true then (if 0 ≤ n ∧ s.used - lval k s.t.toL + n ≤ s.most then (⟨tput k n s.t, s.used - lval k s.t.toL + n, s.most⟩, true) else (s, false)) else (s, false)
def lgDrop (k : Int) (s : Lg) : Lg := if (lfind k s.t.toL).isSome = true then ⟨tdrop k s.t, s.used - lval k s.t.toL, s.most⟩ else s
def lgLimit (n : Int) (s : Lg) : Lg × Bool := if 0 ≤ n ∧ n ≤ 4611686018427387904 ∧ s.used ≤ n then (⟨s.t, s.used, n⟩, true) else (s, false)
def lgClear (s : Lg) : Lg := ⟨.nil, 0, s.most⟩
theorem lval_no {k : Int} {l : LE2} (h : ¬ (lfind k l).isSome = true) : lval k l = 0 := by
  unfold lval
  cases hf : lfind k l with
  | none => rfl
  | some e => rw [hf] at h; exact absurd rfl h
theorem LgOk.put {s : Lg} {k n : Int} (h : LgOk s) (hn : 0 ≤ n ∧ s.used - lval k s.t.toL + n ≤ s.most) : LgOk ⟨tput k n s.t, s.used - lval k s.t.toL + n, s.most⟩ := by
  obtain ⟨h1, h2, h3, h4, h5⟩ := h
  refine ⟨?_, ?_, ?_, hn.2, h5⟩
  · rw [tput_toL k n s.t h1]; exact lput_srt h1
  · rw [tput_toL k n s.t h1, sumV_lput, sumV_ldrop h1, h2]
  · rw [tput_toL k n s.t h1]; exact nn_lput hn.1 h3
theorem LgOk.add {s : Lg} {k n : Int} (h : LgOk s) : LgOk (lgAdd k n s).1 := by
  unfold lgAdd
  split
  · exact h
  · rename_i hf
    split
    · rename_i hn
      have := h.put (k := k) (n := n) (by rw [lval_no hf]; exact ⟨hn.1, by omega⟩)
      rw [lval_no hf] at this
      rwa [show s.used + n = s.used - 0 + n by omega]
    · exact h
theorem LgOk.move {s : Lg} {k n : Int} (h : LgOk s) : LgOk (lgMove k n s).1 := by
  unfold lgMove
  split
  · split
    · rename_i hn; exact h.put hn
    · exact h
  · exact h
theorem LgOk.drop {s : Lg} {k : Int} (h : LgOk s) : LgOk (lgDrop k s) := by
  unfold lgDrop
  split
  · have hv := h.val k
    obtain ⟨h1, h2, h3, h4, h5⟩ := h
    refine ⟨?_, ?_, ?_, ?_, h5⟩
    · show Srt (tdrop k s.t).toL
      rw [tdrop_toL k s.t h1]; exact ldrop_srt h1
    · show sumV (tdrop k s.t).toL = s.used - lval k s.t.toL
      rw [tdrop_toL k s.t h1, sumV_ldrop h1, h2]
    · show ∀ e ∈ (tdrop k s.t).toL, 0 ≤ e.2
      rw [tdrop_toL k s.t h1]; exact nn_ldrop h3
    · show s.used - lval k s.t.toL ≤ s.most
      omega
  · exact h
theorem LgOk.limit {s : Lg} {n : Int} (h : LgOk s) : LgOk (lgLimit n s).1 := by
  unfold lgLimit
  split
  · rename_i hn; exact ⟨h.1, h.2.1, h.2.2.1, hn.2.2, hn.2.1⟩
  · exact h
theorem LgOk.nil {most : Int} (h : 0 ≤ most ∧ most ≤ 4611686018427387904) : LgOk ⟨.nil, 0, most⟩ := ⟨List.Pairwise.nil, rfl, fun e he => (by cases he), h.1, h.2⟩
theorem LgOk.clear {s : Lg} (h : LgOk s) : LgOk (lgClear s) := LgOk.nil ⟨by have := h.nn; have := h.2.2.2.1; omega, h.2.2.2.2⟩
theorem lgAdd_size (k n : Int) (s : Lg) : (lgAdd k n s).1.t.size ≤ s.t.size + 1 := by
  have := size_put k n s.t
  unfold lgAdd; split
  · exact Nat.le_succ _
  · split
    · exact this
    · exact Nat.le_succ _
theorem lgMove_size (k n : Int) (s : Lg) : (lgMove k n s).1.t.size ≤ s.t.size + 1 := by
  have := size_put k n s.t
  unfold lgMove; split
  · split
    · exact this
    · exact Nat.le_succ _
  · exact Nat.le_succ _
theorem lgDrop_size (k : Int) (s : Lg) : (lgDrop k s).t.size ≤ s.t.size + 1 := by
  have := size_drop k s.t
  unfold lgDrop; split
  · show (tdrop k s.t).size ≤ s.t.size + 1; omega
  · exact Nat.le_succ _
theorem lgLimit_size (n : Int) (s : Lg) : (lgLimit n s).1.t.size ≤ s.t.size + 1 := by
  unfold lgLimit; split <;> exact Nat.le_succ _
end Go.Proofs.YtajckpjlliiekaaDoor.Eng
