/- ExactTells: counting, the law. -/
import Derived.Test.YtkcaeknkfgpnhaaExX
import Derived.Test.YtkcaeknkfgpnhaaExdG
namespace Go.Proofs.Ytkcaeknkfgpnhaa.Eng
open Go Go.RowKit Go.Proofs
set_option linter.unusedVariables false
set_option linter.unusedSimpArgs false
set_option maxRecDepth 1000000
theorem lfind_mem {l : LE2} (h : Srt l) {e : Int × Int} (he : e ∈ l) : lfind e.1 l = some e := by
  obtain ⟨i, hi, rfl⟩ := List.getElem_of_mem he
  exact lfind_at h hi
theorem cnt_key (x : Int) {l : LE2} (h : Srt l) : l.countP (fun e => decide (e.1 = x)) = if (lfind x l).isSome = true then 1 else 0 := by
  induction l with
  | nil => rfl
  | cons y l ih =>
    obtain ⟨a, b⟩ := y
    have h2 : Srt l := (List.pairwise_cons.1 h).2
    have hgt : ∀ e ∈ l, a < e.1 := (List.pairwise_cons.1 h).1
    rw [List.countP_cons]
    by_cases hx : a = x
    · subst hx
      have e0 : l.countP (fun e => decide (e.1 = a)) = 0 := List.countP_eq_zero.2 fun e he => by have := hgt e he; simp; omega
      rw [e0, lfind_cons]; simp
    · rw [ih h2, lfind_ne hx]; simp [hx]
theorem cnt_step (T : List Int) (x : Int) {l : LE2} (h : Srt l) : l.countP (fun e => decide (e.1 ∈ T ++ [x])) = l.countP (fun e => decide (e.1 ∈ T)) + if x ∉ T ∧ (lfind x l).isSome = true then 1 else 0 := by
  by_cases hx : x ∈ T
  · rw [if_neg (fun hh => hh.1 hx), Nat.add_zero]
    congr 1
    funext e
    rw [decide_eq_decide, List.mem_append, List.mem_singleton]
    exact ⟨fun hh => hh.elim id fun e => e ▸ hx, .inl⟩
  · have e1 : l.countP (fun e => decide (e.1 ∈ T ++ [x])) = l.countP (fun e => decide (e.1 ∈ T)) + l.countP (fun e => decide (e.1 = x)) := by
      clear h
      induction l with
      | nil => rfl
      | cons y l ih =>
        rw [List.countP_cons, List.countP_cons, List.countP_cons, ih]
        by_cases h1 : y.1 = x
        · have : y.1 ∉ T := by rw [h1]; exact hx
          simp [h1, hx]; omega
        · simp [h1]; omega
    rw [e1, cnt_key x h]
    simp [hx]
theorem tmod_step {i lim ct : Int} (h0 : 0 ≤ i) (hl : 1 ≤ lim) (hct : ct = Int.tmod i lim) : 0 ≤ ct ∧ ct < lim ∧ Int.tmod (i + 1) lim = if lim ≤ ct + 1 then 0 else ct + 1 := by
  rw [Int.tmod_eq_emod_of_nonneg h0] at hct
  rw [Int.tmod_eq_emod_of_nonneg (by omega)]
  have h1 := Int.emod_nonneg i (show lim ≠ 0 by omega)
  have h2 := Int.emod_lt_of_pos i (show 0 < lim by omega)
  have h3 := Int.emod_add_emod i lim 1
  rw [← hct] at h1 h2 h3
  refine ⟨h1, h2, ?_⟩
  rw [← h3]
  split
  · have : ct + 1 = lim := by omega
    rw [this, Int.emod_self]
  · exact Int.emod_eq_of_lt (by omega) (by omega)
theorem Rl.bd {lim y : Int} {t : Tr} {l : List Int} (h : Rl lim t l) : (0 ≤ vN (kyV y t) ∧ vN (kyV y t) ≤ 15) ∧ ∀ e ∈ (kyT y t).toL, 0 ≤ vN e.2 ∧ vN e.2 ≤ 100 := by
  refine ⟨by rw [h.val, k2v_N]; exact kn_bd lim y l, fun e he => ?_⟩
  have hS : Srt (kyT y t).toL := by unfold kyT; exact srt_put _ _ h.1
  have hf := h.put (y := y) e.1
  rw [lfind_mem hS he] at hf
  have hb := kn_bd lim e.1 l
  generalize kn lim e.1 l = s at hf hb
  obtain ⟨N, hN⟩ : ∃ N, N = (if y = e.1 ∧ s.2.1 = true then minI 15 (s.2.2 + 1) else s.2.2) := ⟨_, rfl⟩
  have hNb : 0 ≤ N ∧ N ≤ 15 := by rw [hN]; unfold minI; split <;> (try split) <;> omega
  rw [← hN] at hf
  split at hf
  · cases hf
  · have hf := congrArg (fun o => (o.getD (0, 0)).2) hf
    have hf : e.2 = 2 * N + _ := hf
    rw [hf]
    unfold vN
    split <;> omega
theorem Rl.nil (lim : Int) : Rl lim .nil [] := ⟨List.Pairwise.nil, fun x => rfl⟩
/-- The next tree. -/
def nxE (lim : Int) (i : Nat) (y : Int) (t : Tr) : Tr := if Int.tmod ((i : Int) + 1) lim = 0 then agT (kyT y t).toL .nil else kyT y t
theorem Rl.next {lim y : Int} {t : Tr} {l : List Int} (h : Rl lim t l) : Rl lim (nxE lim l.length y t) (l ++ [y]) := by
  unfold nxE
  split
  · rename_i hm; exact h.age (fun x => kn_len lim x l) (fun x => kn_bd lim x l) hm
  · rename_i hm; exact h.step (fun x => kn_len lim x l) hm
theorem nxE_size {lim y : Int} {t : Tr} {i n : Nat} (h : t.size ≤ n) : (nxE lim i y t).size ≤ n + 1 := by
  have h1 : (kyT y t).size ≤ t.size + 1 := size_put _ _ _
  unfold nxE
  split
  · have := agT_size (kyT y t).toL .nil
    rw [Tr.size_toL] at this
    simp only [Tr.size] at this
    omega
  · omega
/-- What stands in a tree: the keys whose estimate is above 0. -/
theorem Rl.some {lim x : Int} {t : Tr} {l : List Int} (h : Rl lim t l) : (lfind x t.toL).isSome = true ↔ 0 < knE (kn lim x l) := by
  rw [h.2 x]
  have hb := kn_bd lim x l
  generalize kn lim x l = s at hb ⊢
  obtain ⟨i, b, m⟩ := s
  have hb : 0 ≤ m ∧ m ≤ 15 := hb
  unfold knE
  dsimp only
  cases b with
  | true => simp; omega
  | false =>
    by_cases hm : m = 0
    · subst hm; simp
    · simp [hm]; omega
theorem kn_no {lim x : Int} {l : List Int} (h : x ∉ l) : (kn lim x l).2 = (false, 0) := by
  suffices hh : ∀ s : Nat × Bool × Int, s.2 = (false, 0) → (l.foldl (kst lim x) s).2 = (false, 0) by exact hh _ rfl
  induction l with
  | nil => intro s hs; exact hs
  | cons y l ih =>
    intro s hs
    have hy : ¬ y = x := fun e => h (e ▸ List.mem_cons_self)
    refine ih (fun hm => h (List.mem_cons_of_mem _ hm)) _ ?_
    obtain ⟨i, b, m⟩ := s
    cases hs
    unfold kst
    simp [hy]
theorem Rl.all {lim : Int} {t : Tr} {l L : List Int} (h : Rl lim t l) (hs : ∀ x ∈ l, x ∈ L) : t.toL.countP (fun e => decide (e.1 ∈ L)) = t.size := by
  rw [← Tr.size_toL t]
  refine List.countP_eq_length.2 fun e he => ?_
  refine decide_eq_true (hs _ ?_)
  refine Decidable.byContradiction fun hn => ?_
  have h1 := lfind_mem h.1 he
  rw [h.2 e.1, if_pos (kn_no hn)] at h1
  cases h1
end Go.Proofs.Ytkcaeknkfgpnhaa.Eng
