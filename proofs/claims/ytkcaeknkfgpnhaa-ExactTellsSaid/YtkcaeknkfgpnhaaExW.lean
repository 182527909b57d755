/- Exact: what stands behind putting, ageing (plain). -/
import Derived.Test.YtkcaeknkfgpnhaaExR
import Derived.Test.YtkcaeknkfgpnhaaExV
namespace Go.Proofs.Ytkcaeknkfgpnhaa.Eng
open Go Go.RowKit Go.Proofs
set_option linter.unusedVariables false
set_option linter.unusedSimpArgs false
set_option maxRecDepth 1000000
theorem lfind_filter {x : Int} {p : Int × Int → Bool} (l : LE2) (h : ∀ e ∈ l, e.1 = x → p e = true) : lfind x (l.filter p) = lfind x l := by
  induction l with
  | nil => rfl
  | cons e l ih =>
    have ih := ih fun e he => h e (List.mem_cons_of_mem _ he)
    rw [List.filter_cons]
    by_cases hx : e.1 = x
    · rw [if_pos (h e List.mem_cons_self hx)]
      obtain ⟨a, b⟩ := e
      obtain rfl : a = x := hx
      rw [lfind_cons, lfind_cons]
    · obtain ⟨a, b⟩ := e
      rw [lfind_ne hx]
      split
      · rw [lfind_ne hx, ih]
      · exact ih
theorem lfind_lput (x k v : Int) (l : LE2) : lfind x (lput k v l) = if x = k then some (k, v) else lfind x l := by
  unfold lput
  by_cases h : x = k
  · subst h
    rw [if_pos rfl, lfind_app (fun e he => by have := (List.mem_filter.1 he).2; simp at this; omega), lfind_cons]
  · rw [if_neg h]
    by_cases hlt : x < k
    · rw [lfind_app_no (fun e he => by
        rcases List.mem_cons.1 he with rfl | he
        · exact fun hh => h hh.symm
        · have := (List.mem_filter.1 he).2; simp at this; omega)]
      exact lfind_filter l fun e he hx => by simp; omega
    · rw [lfind_app (fun e he => by have := (List.mem_filter.1 he).2; simp at this; omega), lfind_ne (fun hh => h hh.symm)]
      exact lfind_filter l fun e he hx => by simp; omega
theorem lfind_put (x k v : Int) {t : Tr} (h : Srt t.toL) : lfind x (tput k v t).toL = if x = k then some (k, v) else lfind x t.toL := by rw [tput_toL k v t h, lfind_lput]
theorem srt_put (k v : Int) {t : Tr} (h : Srt t.toL) : Srt (tput k v t).toL := by rw [tput_toL k v t h]; exact lput_srt h
theorem agT_srt (l : LE2) : ∀ u : Tr, Srt u.toL → Srt (agT l u).toL := by
  induction l with
  | nil => intro u h; exact h
  | cons y l ih =>
    intro u h
    refine ih _ ?_
    split
    · exact srt_put _ _ h
    · exact h
/-- What an age leaves of a key. -/
theorem agT_find (x : Int) (l : LE2) : ∀ u : Tr, Srt l → Srt u.toL → lfind x (agT l u).toL = match lfind x l with
    | some e => if 0 < vN e.2 / 2 then some (x, 2 * (vN e.2 / 2)) else lfind x u.toL
    | none => lfind x u.toL := by
  induction l with
  | nil => intro u _ _; rfl
  | cons y l ih =>
    intro u hl hu
    obtain ⟨y1, y2⟩ := y
    have hl2 : Srt l := (List.pairwise_cons.1 hl).2
    have hgt : ∀ e ∈ l, y1 < e.1 := (List.pairwise_cons.1 hl).1
    have hu2 : Srt (if 0 < vN y2 / 2 then tput y1 (2 * (vN y2 / 2)) u else u).toL := by
      split
      · exact srt_put _ _ hu
      · exact hu
    have ih := ih (if 0 < vN y2 / 2 then tput y1 (2 * (vN y2 / 2)) u else u) hl2 hu2
    show lfind x (agT l (if 0 < vN y2 / 2 then tput y1 (2 * (vN y2 / 2)) u else u)).toL = _
    rw [ih]
    by_cases hx : y1 = x
    · subst hx
      rw [lfind_no (l := l) (fun e he => by have := hgt e he; omega), lfind_cons]
      show lfind y1 (if 0 < vN y2 / 2 then tput y1 (2 * (vN y2 / 2)) u else u).toL = if 0 < vN y2 / 2 then some (y1, 2 * (vN y2 / 2)) else lfind y1 u.toL
      split
      · rw [lfind_put _ _ _ hu, if_pos rfl]
      · rfl
    · rw [lfind_ne hx]
      have e1 : lfind x (if 0 < vN y2 / 2 then tput y1 (2 * (vN y2 / 2)) u else u).toL = lfind x u.toL := by
        split
        · rw [lfind_put _ _ _ hu, if_neg (fun hh => hx hh.symm)]
        · rfl
      rw [e1]
/-! ### The document's state of a key: how many came, whether it came, its number -/
def kst (lim x : Int) (s : Nat × Bool × Int) (y : Int) : Nat × Bool × Int :=
  let n := if y = x ∧ s.2.1 = true then minI 15 (s.2.2 + 1) else s.2.2
  let b := s.2.1 || decide (y = x)
  if Int.tmod ((s.1 : Int) + 1) lim = 0 then (s.1 + 1, false, n / 2) else (s.1 + 1, b, n)
def kn (lim x : Int) (l : List Int) : Nat × Bool × Int := l.foldl (kst lim x) (0, false, 0)
theorem kn_snoc (lim x : Int) (l : List Int) (y : Int) : kn lim x (l ++ [y]) = kst lim x (kn lim x l) y := by unfold kn; rw [List.foldl_append]; rfl
theorem kst_one (lim x : Int) (s : Nat × Bool × Int) (y : Int) : (kst lim x s y).1 = s.1 + 1 := by
  unfold kst; dsimp only; split <;> rfl
theorem kst_bd {lim x : Int} {s : Nat × Bool × Int} {y : Int} (h : 0 ≤ s.2.2 ∧ s.2.2 ≤ 15) : 0 ≤ (kst lim x s y).2.2 ∧ (kst lim x s y).2.2 ≤ 15 := by
  unfold kst minI; dsimp only
  split <;> (dsimp only; split <;> (try split) <;> omega)
def k2v (s : Nat × Bool × Int) : Int := 2 * s.2.2 + if s.2.1 = true then 1 else 0
theorem k2v_N (s : Nat × Bool × Int) : vN (k2v s) = s.2.2 := by unfold vN k2v; split <;> omega
theorem k2v_B (s : Nat × Bool × Int) : vB (k2v s) = s.2.1 := by
  unfold vB k2v
  cases s.2.1 with
  | true => exact decide_eq_true (by simp)
  | false => exact decide_eq_false (by simp)
/-- A tree tells the document's state. -/
def Rl (lim : Int) (t : Tr) (l : List Int) : Prop := Srt t.toL ∧ ∀ x, lfind x t.toL = if (kn lim x l).2 = (false, 0) then none else some (x, k2v (kn lim x l))
theorem kyV_eq {x : Int} {t : Tr} (h : Srt t.toL) : kyV x t = ((lfind x t.toL).getD (0, 0)).2 := by
  unfold kyV; rw [tfind_eq x t 0 h]
theorem Rl.val {lim x : Int} {t : Tr} {l : List Int} (h : Rl lim t l) : kyV x t = k2v (kn lim x l) := by
  rw [kyV_eq h.1, h.2 x]
  split
  · rename_i hz
    unfold k2v; rw [hz]; rfl
  · rfl
theorem kyN_eq {lim x : Int} {t : Tr} {l : List Int} (h : Rl lim t l) : kyN (kyV x t) = if (kn lim x l).2.1 = true then minI 15 ((kn lim x l).2.2 + 1) else (kn lim x l).2.2 := by
  rw [h.val]; unfold kyN; rw [k2v_N, k2v_B]
/-- Behind one key, ahead of an age. -/
theorem Rl.put {lim y : Int} {t : Tr} {l : List Int} (h : Rl lim t l) (x : Int) : lfind x (kyT y t).toL = if ((kn lim x l).2.1 || decide (y = x)) = false ∧ (if y = x ∧ (kn lim x l).2.1 = true then minI 15 ((kn lim x l).2.2 + 1) else (kn lim x l).2.2) = 0 then none else some (x, 2 * (if y = x ∧ (kn lim x l).2.1 = true then minI 15 ((kn lim x l).2.2 + 1) else (kn lim x l).2.2) + if ((kn lim x l).2.1 || decide (y = x)) = true then 1 else 0) := by
  unfold kyT
  rw [lfind_put _ _ _ h.1, kyN_eq h]
  by_cases hx : x = y
  · subst hx
    rw [if_pos rfl]
    simp
  · rw [if_neg hx, h.2 x]
    have hy : ¬ y = x := fun e => hx e.symm
    obtain ⟨i, b, n⟩ := kn lim x l
    simp [hy, k2v]
theorem Rl.step {lim y : Int} {t : Tr} {l : List Int} (h : Rl lim t l) (hn : ∀ x, (kn lim x l).1 = l.length) (hm : Int.tmod ((l.length : Int) + 1) lim ≠ 0) : Rl lim (kyT y t) (l ++ [y]) := by
  refine ⟨by unfold kyT; exact srt_put _ _ h.1, fun x => ?_⟩
  rw [h.put x, kn_snoc]
  have hi := hn x
  generalize kn lim x l = s at hi ⊢
  obtain ⟨i, b, n⟩ := s
  have hi : i = l.length := hi
  subst hi
  unfold kst k2v
  dsimp only
  rw [if_neg hm]
  dsimp only
  simp [Prod.ext_iff]
theorem Rl.age {lim y : Int} {t : Tr} {l : List Int} (h : Rl lim t l) (hn : ∀ x, (kn lim x l).1 = l.length) (hb : ∀ x, 0 ≤ (kn lim x l).2.2 ∧ (kn lim x l).2.2 ≤ 15) (hm : Int.tmod ((l.length : Int) + 1) lim = 0) : Rl lim (agT (kyT y t).toL .nil) (l ++ [y]) := by
  have hS : Srt (kyT y t).toL := by unfold kyT; exact srt_put _ _ h.1
  refine ⟨agT_srt _ Tr.nil List.Pairwise.nil, fun x => ?_⟩
  rw [agT_find x _ Tr.nil hS List.Pairwise.nil, h.put x, kn_snoc]
  have hi := hn x
  have hb := hb x
  generalize kn lim x l = s at hi hb ⊢
  obtain ⟨i, b, n⟩ := s
  have hi : i = l.length := hi
  have hb : 0 ≤ n ∧ n ≤ 15 := hb
  subst hi
  unfold kst k2v
  dsimp only
  rw [if_pos hm]
  dsimp only
  obtain ⟨N, hN⟩ : ∃ N, N = (if y = x ∧ b = true then minI 15 (n + 1) else n) := ⟨_, rfl⟩
  have hNb : 0 ≤ N ∧ N ≤ 15 := by rw [hN]; unfold minI; split <;> (try split) <;> omega
  rw [← hN]
  clear hN
  obtain ⟨c, hc⟩ : ∃ c : Bool, c = (b || decide (y = x)) := ⟨_, rfl⟩
  rw [← hc]
  by_cases hz : c = false ∧ N = 0
  · rw [if_pos hz]
    obtain ⟨_, rfl⟩ := hz
    rfl
  · rw [if_neg hz]
    have e1 : vN (2 * N + if c = true then 1 else 0) = N := by unfold vN; split <;> omega
    show (if 0 < vN (2 * N + if c = true then 1 else 0) / 2 then some (x, 2 * (vN (2 * N + if c = true then 1 else 0) / 2)) else lfind x Tr.nil.toL) = _
    rw [e1]
    by_cases h2 : 0 < N / 2
    · rw [if_pos h2, if_neg (by simp; omega)]
      simp
    · rw [if_neg h2, if_pos (by simp; omega)]
      rfl
end Go.Proofs.Ytkcaeknkfgpnhaa.Eng
