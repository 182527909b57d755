/- Rows by keys that rise, step by step (plain). -/
import Derived.Test.YtajckpjlliiekaaDoorLgP
import Derived.Test.YtajckpjlliiekaaDoorEngA
namespace Go.Proofs.YtajckpjlliiekaaDoor.Eng
open Go Go.RowKit Go.Proofs
set_option linter.unusedVariables false
set_option linter.unusedSimpArgs false
set_option maxRecDepth 1000000
def lfind (k : Int) (l : LE2) : Option (Int × Int) := l.find? (fun e => decide (e.1 = k))
theorem lfind_no {k : Int} {l : LE2} (h : ∀ e ∈ l, e.1 ≠ k) : lfind k l = none := List.find?_eq_none.2 fun e he => by simpa using h e he
theorem lfind_app {k : Int} {l m : LE2} (h : ∀ e ∈ l, e.1 ≠ k) : lfind k (l ++ m) = lfind k m := by
  unfold lfind
  rw [List.find?_append]
  rw [show l.find? (fun e => decide (e.1 = k)) = none from lfind_no h]; rfl
theorem lfind_cons {k v : Int} {m : LE2} : lfind k ((k, v) :: m) = some (k, v) := by
  unfold lfind
  rw [List.find?_cons_of_pos]; simp
theorem lfind_app_no {k : Int} {l m : LE2} (h : ∀ e ∈ m, e.1 ≠ k) : lfind k (l ++ m) = lfind k l := by
  unfold lfind
  rw [List.find?_append]
  rw [show m.find? (fun e => decide (e.1 = k)) = none from lfind_no h]; simp
theorem lfind_ne {k x xv : Int} {m : LE2} (h : x ≠ k) : lfind k ((x, xv) :: m) = lfind k m := by
  unfold lfind
  rw [List.find?_cons_of_neg]; simpa using h
theorem lrank_app (k : Int) (l m : LE2) : lrank k (l ++ m) = lrank k l + lrank k m := by unfold lrank; rw [List.filter_append, List.length_append]
theorem lrank_all {k : Int} {l : LE2} (h : ∀ e ∈ l, e.1 < k) : lrank k l = l.length := by unfold lrank; rw [fl_all (fun e he => by simpa using h e he)]
theorem lrank_no {k : Int} {l : LE2} (h : ∀ e ∈ l, k ≤ e.1) : lrank k l = 0 := by unfold lrank; rw [fl_no (fun e he => by have := h e he; simp; omega)]; rfl
theorem lrank_cons (k x xv : Int) (m : LE2) : lrank k ((x, xv) :: m) = (if x < k then 1 else 0) + lrank k m := by
  unfold lrank
  rw [List.filter_cons]
  by_cases h : x < k
  · rw [if_pos (by simpa using h), if_pos h, List.length_cons]; omega
  · rw [if_neg (by simpa using h), if_neg h]; omega
theorem tfind_eq (k : Int) : ∀ (t : Tr) (a : Nat), Srt t.toL → tfind k t a = (lfind k t.toL, a + lrank k t.toL)
  | .nil, a, _ => rfl
  | .node x xv l r, a, h => by
    obtain ⟨h1, h2, h3, h4⟩ := Srt.split h
    unfold tfind
    simp only [Tr.toL]
    split
    · rename_i hk
      subst hk
      rw [lfind_app (fun e he => by have := h3 e he; omega), lfind_cons, lrank_app, lrank_all h3, lrank_cons, if_neg (by omega), lrank_no (l := r.toL) (fun e he => by have := h4 e he; omega), Tr.size_toL]
      rfl
    · rename_i hk
      split
      · rename_i hk2
        rw [tfind_eq k l a h1, lfind_app_no, lrank_app, lrank_no (l := (x, xv) :: r.toL)]
        · rfl
        · intro e he
          rcases List.mem_cons.1 he with rfl | he
          · show k ≤ x; omega
          · have := h4 e he; omega
        · intro e he
          rcases List.mem_cons.1 he with rfl | he
          · show x ≠ k; omega
          · have := h4 e he; omega
      · rw [tfind_eq k r _ h2, lfind_app (fun e he => by have := h3 e he; omega), lfind_ne (by omega), lrank_app, lrank_all (l := l.toL) (fun e he => by have := h3 e he; omega), lrank_cons, if_pos (by omega), Tr.size_toL]
        congr 1; omega
theorem tat_eq : ∀ (t : Tr) (i : Nat), tat t i = t.toL[i]?
  | .nil, i => rfl
  | .node x xv l r, i => by
    unfold tat
    simp only [Tr.toL]
    have hl := Tr.size_toL l
    split
    · rw [tat_eq l i, List.getElem?_append_left (by omega)]
    · split
      · rw [tat_eq r, List.getElem?_append_right (by omega), hl]
        have : i - l.size = (i - l.size - 1) + 1 := by omega
        conv => rhs; rw [this]
        rw [List.getElem?_cons_succ]
      · rw [List.getElem?_append_right (by omega), hl, show i - l.size = 0 by omega]; rfl
theorem take_lt {l : LE2} (h : Srt l) {i : Nat} (hi : i < l.length) : (∀ e ∈ l.take i, e.1 < l[i].1) ∧ ∀ e ∈ l.drop (i + 1), l[i].1 < e.1 := by
  have e1 : l = l.take i ++ (l[i].1, l[i].2) :: l.drop (i + 1) := by
    show l = l.take i ++ l[i] :: l.drop (i + 1)
    rw [List.getElem_cons_drop, List.take_append_drop]
  have h' := h
  rw [e1] at h'
  obtain ⟨_, _, h3, h4⟩ := Srt.split h'
  exact ⟨h3, h4⟩
theorem at_cut {l : LE2} {i : Nat} (hi : i < l.length) : l = l.take i ++ l[i] :: l.drop (i + 1) := by rw [List.getElem_cons_drop, List.take_append_drop]
theorem lrank_at {l : LE2} (h : Srt l) {i : Nat} (hi : i < l.length) : lrank l[i].1 l = i := by
  obtain ⟨h1, h2⟩ := take_lt h hi
  have e1 := at_cut hi
  obtain ⟨x, hx⟩ : ∃ x, x = l[i] := ⟨_, rfl⟩
  rw [← hx] at h1 h2 e1 ⊢
  rw [e1, lrank_app, lrank_all h1, show x = (x.1, x.2) from rfl, lrank_cons, if_neg (by omega), lrank_no (fun e he => by have := h2 e he; show x.1 ≤ e.1; omega), List.length_take]
  omega
theorem lfind_at {l : LE2} (h : Srt l) {i : Nat} (hi : i < l.length) : lfind l[i].1 l = some l[i] := by
  obtain ⟨h1, h2⟩ := take_lt h hi
  have e1 := at_cut hi
  obtain ⟨x, hx⟩ : ∃ x, x = l[i] := ⟨_, rfl⟩
  rw [← hx] at h1 h2 e1 ⊢
  rw [e1, lfind_app (fun e he => by have := h1 e he; omega)]
  exact lfind_cons
/-! ### The document's steps -/
def pdone (k : Int) (l : LE2) : Bool := l.any (fun e => decide (k ≤ e.1))
def pout (k v : Int) (l : LE2) : LE2 := if pdone k l = true then lput k v l else l
theorem pdone_snoc (k : Int) (l : LE2) (e : Int × Int) : pdone k (l ++ [e]) = (pdone k l || decide (k ≤ e.1)) := by simp [pdone]
theorem pdone_no {k : Int} {l : LE2} (h : pdone k l = false) : ∀ e ∈ l, e.1 < k := fun e he => by
  have := (List.any_eq_false.1 h) e he
  simp at this; omega
theorem lput_lt {k v : Int} {l : LE2} (h : ∀ e ∈ l, e.1 < k) : lput k v l = l ++ [(k, v)] := by
  unfold lput
  rw [fl_all (fun e he => by simpa using h e he), fl_no (fun e he => by have := h e he; simp; omega)]
theorem pout_A {k v : Int} {l : LE2} {e : Int × Int} (hs : Srt (l ++ [e])) (hd : pdone k l = true) : k < e.1 ∧ pdone k (l ++ [e]) = true ∧ pout k v (l ++ [e]) = pout k v l ++ [e] := by
  obtain ⟨x, hx, hx2⟩ := List.any_eq_true.1 hd
  have h1 := (List.pairwise_append.1 hs).2.2 x hx e (by simp)
  have hx2 : k ≤ x.1 := by simpa using hx2
  have hk : k < e.1 := by omega
  have hd2 : pdone k (l ++ [e]) = true := by rw [pdone_snoc, hd]; rfl
  refine ⟨hk, hd2, ?_⟩
  unfold pout
  rw [if_pos hd2, if_pos hd]
  unfold lput
  rw [List.filter_append, List.filter_append, fl_no (l := [e]) (fun a ha => by rw [List.mem_singleton.1 ha]; simp; omega), fl_all (l := [e]) (p := fun e => decide (k < e.1)) (fun a ha => by rw [List.mem_singleton.1 ha]; simp; omega)]
  simp
theorem pout_B {k v : Int} {l : LE2} {e : Int × Int} (hd : pdone k l = false) (hk : k ≤ e.1) : pdone k (l ++ [e]) = true ∧ pout k v l = l ∧ pout k v (l ++ [e]) = (l ++ [(k, v)]) ++ (if e.1 = k then [] else [e]) := by
  have hd2 : pdone k (l ++ [e]) = true := by rw [pdone_snoc, hd]; simp; omega
  refine ⟨hd2, if_neg (by rw [hd]; simp), ?_⟩
  have hl := pdone_no hd
  unfold pout
  rw [if_pos hd2]
  unfold lput
  rw [List.filter_append, List.filter_append, fl_no (l := [e]) (p := fun e => decide (e.1 < k)) (fun a ha => by rw [List.mem_singleton.1 ha]; simp; omega), fl_all (l := l) (p := fun e => decide (e.1 < k)) (fun a ha => by simpa using hl a ha), fl_no (l := l) (p := fun e => decide (k < e.1)) (fun a ha => by have := hl a ha; simp; omega)]
  by_cases h : e.1 = k
  · rw [if_pos h, fl_no (l := [e]) (fun a ha => by rw [List.mem_singleton.1 ha]; simp; omega)]; simp
  · rw [if_neg h, fl_all (l := [e]) (fun a ha => by rw [List.mem_singleton.1 ha]; simp; omega)]; simp
theorem pout_C {k v : Int} {l : LE2} {e : Int × Int} (hd : pdone k l = false) (hk : e.1 < k) : pdone k (l ++ [e]) = false ∧ pout k v l = l ∧ pout k v (l ++ [e]) = l ++ [e] := by
  have hd2 : pdone k (l ++ [e]) = false := by rw [pdone_snoc, hd]; simp; omega
  exact ⟨hd2, if_neg (by rw [hd]; simp), if_neg (by rw [hd2]; simp)⟩
theorem pout_end {k v : Int} {l : LE2} : (pdone k l = true → pout k v l = lput k v l) ∧ (pdone k l = false → pout k v l ++ [(k, v)] = lput k v l) := by
  refine ⟨fun h => if_pos h, fun h => ?_⟩
  have : pout k v l = l := if_neg (by rw [h]; simp)
  rw [this, lput_lt (pdone_no h)]
theorem fl_two (k : Int) : ∀ l : LE2, (l.filter (fun e => decide (e.1 < k))).length + (l.filter (fun e => decide (k < e.1))).length ≤ l.length
  | [] => by simp
  | x :: r => by
    have ih := fl_two k r
    simp only [List.filter_cons, List.length_cons]
    split
    · rename_i h1
      have h1 : x.1 < k := by simpa using h1
      rw [if_neg (by simp; omega), List.length_cons]; omega
    · split
      · rw [List.length_cons]; omega
      · omega
theorem pout_len (k v : Int) (l : LE2) : (pout k v l).length ≤ l.length + 1 := by
  unfold pout
  split
  · unfold lput
    rw [List.length_append, List.length_cons]
    have h1 := fl_two k l
    omega
  · omega
theorem ldrop_snoc (k : Int) (l : LE2) (e : Int × Int) : ldrop k (l ++ [e]) = ldrop k l ++ (if e.1 = k then [] else [e]) := by
  unfold ldrop
  rw [List.filter_append]
  by_cases h : e.1 = k
  · rw [if_pos h, fl_no (l := [e]) (fun a ha => by rw [List.mem_singleton.1 ha]; simpa using h)]
  · rw [if_neg h, fl_all (l := [e]) (fun a ha => by rw [List.mem_singleton.1 ha]; simpa using h)]
theorem ldrop_len (k : Int) (l : LE2) : (ldrop k l).length ≤ l.length := List.length_filter_le _ _
theorem Srt.take {l : LE2} (h : Srt l) (i : Nat) : Srt (l.take i) := List.Pairwise.sublist (List.take_sublist _ _) h
theorem deep_log {t : Tr} (hb : t.bal) {i : Nat} (hX : (t.size + 1) / 2 ^ i = 0) : 1 ≤ i ∧ t.deep ≤ 2 * (i - 1) + 1 := by
  have h1 := (deep_size t hb).1
  have h2 : t.size + 1 < 2 ^ i := Nat.lt_of_div_eq_zero (Nat.pow_pos (by omega)) hX
  have h3 : t.deep / 2 < i := by
    refine Nat.lt_of_not_le fun hle => ?_
    have : 2 ^ i ≤ 2 ^ (t.deep / 2) := Nat.pow_le_pow_right (by omega) hle
    omega
  omega
end Go.Proofs.YtajckpjlliiekaaDoor.Eng
