/- Trees that are in balance, by keys that rise (plain). -/
import Derived.Test.YtjdbeopgmpbikaaDoorEngW
namespace Go.Proofs.YtjdbeopgmpbikaaDoor.Eng
open Go Go.RowKit Go.Proofs
set_option linter.unusedVariables false
set_option linter.unusedSimpArgs false
/-! ### Trees -/
inductive Tr where
  | nil : Tr
  | node (k v : Int) (l r : Tr) : Tr
def Tr.size : Tr → Nat
  | .nil => 0
  | .node _ _ l r => l.size + r.size + 1
def Tr.deep : Tr → Nat
  | .nil => 0
  | .node _ _ l r => max l.deep r.deep + 1
def Tr.toL : Tr → List (Int × Int)
  | .nil => []
  | .node k v l r => l.toL ++ (k, v) :: r.toL
def Tr.bal : Tr → Prop
  | .nil => True
  | .node _ _ l r => l.bal ∧ r.bal ∧ l.deep ≤ r.deep + 1 ∧ r.deep ≤ l.deep + 1
theorem Tr.size_toL : ∀ t : Tr, t.toL.length = t.size
  | .nil => rfl
  | .node k v l r => by unfold toL size; rw [List.length_append, List.length_cons, size_toL l, size_toL r]; omega
def leftUp (k v : Int) (l r : Tr) : Tr :=
  match l with
  | .node lk lv ll (.node mk mv ml mr) => if ll.deep < (Tr.node mk mv ml mr).deep then .node mk mv (.node lk lv ll ml) (.node k v mr r) else .node lk lv ll (.node k v (.node mk mv ml mr) r)
  | .node lk lv ll .nil => .node lk lv ll (.node k v .nil r)
  | .nil => .node k v .nil r
def rightUp (k v : Int) (l r : Tr) : Tr :=
  match r with
  | .node rk rv (.node mk mv ml mr) rr => if rr.deep < (Tr.node mk mv ml mr).deep then .node mk mv (.node k v l ml) (.node rk rv mr rr) else .node rk rv (.node k v l (.node mk mv ml mr)) rr
  | .node rk rv .nil rr => .node rk rv (.node k v l .nil) rr
  | .nil => .node k v l .nil
def joined (k v : Int) (l r : Tr) : Tr := if r.deep + 1 < l.deep then leftUp k v l r else if l.deep + 1 < r.deep then rightUp k v l r else .node k v l r
theorem toL_joined (k v : Int) (l r : Tr) : (joined k v l r).toL = l.toL ++ (k, v) :: r.toL := by
  unfold joined
  split
  · unfold leftUp
    split
    · split <;> simp [Tr.toL]
    · simp [Tr.toL]
    · simp [Tr.toL]
  · split
    · unfold rightUp
      split
      · split <;> simp [Tr.toL]
      · simp [Tr.toL]
      · simp [Tr.toL]
    · rfl
theorem leftUp_bal {k v : Int} {l r : Tr} (hl : l.bal) (hr : r.bal) (h1 : l.deep ≤ r.deep + 2) (hc : r.deep + 1 < l.deep) :
    (leftUp k v l r).bal ∧ max l.deep r.deep ≤ (leftUp k v l r).deep ∧ (leftUp k v l r).deep ≤ max l.deep r.deep + 1 := by
  cases l with
  | nil => simp only [Tr.deep] at hc; omega
  | node lk lv ll lr =>
    obtain ⟨b1, b2, b6, b7⟩ := hl
    simp only [Tr.deep] at h1 hc
    cases lr with
    | nil =>
      simp only [Tr.deep] at h1 hc b6 b7
      show (Tr.node lk lv ll (.node k v .nil r)).bal ∧ _ ≤ (Tr.node lk lv ll (.node k v .nil r)).deep ∧ (Tr.node lk lv ll (.node k v .nil r)).deep ≤ _
      refine ⟨⟨b1, ⟨trivial, hr, ?_, ?_⟩, ?_, ?_⟩, ?_, ?_⟩ <;> (try simp only [Tr.deep]) <;> omega
    | node mk mv ml mr =>
      obtain ⟨b2, b3, b4, b5⟩ := b2
      simp only [Tr.deep] at h1 hc b6 b7
      show (if ll.deep < (Tr.node mk mv ml mr).deep then _ else _ : Tr).bal ∧ _ ≤ (if ll.deep < (Tr.node mk mv ml mr).deep then _ else _ : Tr).deep ∧ (if ll.deep < (Tr.node mk mv ml mr).deep then _ else _ : Tr).deep ≤ _
      by_cases hq : ll.deep < (Tr.node mk mv ml mr).deep
      · simp only [if_pos hq]
        simp only [Tr.deep] at hq
        refine ⟨⟨⟨b1, b2, ?_, ?_⟩, ⟨b3, hr, ?_, ?_⟩, ?_, ?_⟩, ?_, ?_⟩ <;> (try simp only [Tr.deep]) <;> omega
      · simp only [if_neg hq]
        simp only [Tr.deep] at hq
        refine ⟨⟨b1, ⟨⟨b2, b3, b4, b5⟩, hr, ?_, ?_⟩, ?_, ?_⟩, ?_, ?_⟩ <;> (try simp only [Tr.deep]) <;> omega
theorem rightUp_bal {k v : Int} {l r : Tr} (hl : l.bal) (hr : r.bal) (h1 : r.deep ≤ l.deep + 2) (hc : l.deep + 1 < r.deep) :
    (rightUp k v l r).bal ∧ max l.deep r.deep ≤ (rightUp k v l r).deep ∧ (rightUp k v l r).deep ≤ max l.deep r.deep + 1 := by
  cases r with
  | nil => simp only [Tr.deep] at hc; omega
  | node rk rv rl rr =>
    obtain ⟨b2, b1, b6, b7⟩ := hr
    simp only [Tr.deep] at h1 hc
    cases rl with
    | nil =>
      simp only [Tr.deep] at h1 hc b6 b7
      show (Tr.node rk rv (.node k v l .nil) rr).bal ∧ _ ≤ (Tr.node rk rv (.node k v l .nil) rr).deep ∧ (Tr.node rk rv (.node k v l .nil) rr).deep ≤ _
      refine ⟨⟨⟨hl, trivial, ?_, ?_⟩, b1, ?_, ?_⟩, ?_, ?_⟩ <;> (try simp only [Tr.deep]) <;> omega
    | node mk mv ml mr =>
      obtain ⟨b2, b3, b4, b5⟩ := b2
      simp only [Tr.deep] at h1 hc b6 b7
      show (if rr.deep < (Tr.node mk mv ml mr).deep then _ else _ : Tr).bal ∧ _ ≤ (if rr.deep < (Tr.node mk mv ml mr).deep then _ else _ : Tr).deep ∧ (if rr.deep < (Tr.node mk mv ml mr).deep then _ else _ : Tr).deep ≤ _
      by_cases hq : rr.deep < (Tr.node mk mv ml mr).deep
      · simp only [if_pos hq]
        simp only [Tr.deep] at hq
        refine ⟨⟨⟨hl, b2, ?_, ?_⟩, ⟨b3, b1, ?_, ?_⟩, ?_, ?_⟩, ?_, ?_⟩ <;> (try simp only [Tr.deep]) <;> omega
      · simp only [if_neg hq]
        simp only [Tr.deep] at hq
        refine ⟨⟨⟨hl, ⟨b2, b3, b4, b5⟩, ?_, ?_⟩, b1, ?_, ?_⟩, ?_, ?_⟩ <;> (try simp only [Tr.deep]) <;> omega
theorem joined_bal {k v : Int} {l r : Tr} (hl : l.bal) (hr : r.bal) (h1 : l.deep ≤ r.deep + 2) (h2 : r.deep ≤ l.deep + 2) :
    (joined k v l r).bal ∧ max l.deep r.deep ≤ (joined k v l r).deep ∧ (joined k v l r).deep ≤ max l.deep r.deep + 1 ∧ (l.deep ≤ r.deep + 1 → r.deep ≤ l.deep + 1 → (joined k v l r).deep = max l.deep r.deep + 1) := by
  unfold joined
  by_cases hc : r.deep + 1 < l.deep
  · rw [if_pos hc]
    obtain ⟨a, b, c⟩ := leftUp_bal (k := k) (v := v) hl hr h1 hc
    exact ⟨a, b, c, fun _ _ => by omega⟩
  · rw [if_neg hc]
    by_cases hd : l.deep + 1 < r.deep
    · rw [if_pos hd]
      obtain ⟨a, b, c⟩ := rightUp_bal (k := k) (v := v) hl hr h2 hd
      exact ⟨a, b, c, fun _ _ => by omega⟩
    · rw [if_neg hd]
      exact ⟨⟨hl, hr, by omega, by omega⟩, by simp only [Tr.deep]; omega, by simp only [Tr.deep]; omega, fun _ _ => rfl⟩
/-! ### Put, drop -/
def tput (k v : Int) : Tr → Tr
  | .nil => .node k v .nil .nil
  | .node x xv l r => if k < x then joined x xv (tput k v l) r else if x < k then joined x xv l (tput k v r) else .node k v l r
def tfirst (k v : Int) (r : Tr) : Tr → Tr × Int × Int
  | .nil => (r, k, v)
  | .node lk lv ll lr => (joined k v (tfirst lk lv lr ll).1 r, (tfirst lk lv lr ll).2)
def tboth (l r : Tr) : Tr :=
  match l, r with
  | .nil, r => r
  | .node a b c d, .nil => .node a b c d
  | .node a b c d, .node k v rl rr => joined (tfirst k v rr rl).2.1 (tfirst k v rr rl).2.2 (.node a b c d) (tfirst k v rr rl).1
def tdrop (k : Int) : Tr → Tr
  | .nil => .nil
  | .node x xv l r => if k < x then joined x xv (tdrop k l) r else if x < k then joined x xv l (tdrop k r) else tboth l r
theorem tput_bal (k v : Int) : ∀ t : Tr, t.bal → (tput k v t).bal ∧ t.deep ≤ (tput k v t).deep ∧ (tput k v t).deep ≤ t.deep + 1
  | .nil, _ => ⟨⟨trivial, trivial, by decide, by decide⟩, Nat.zero_le _, Nat.le_refl _⟩
  | .node x xv l r, ⟨hl, hr, h1, h2⟩ => by
    unfold tput
    split
    · obtain ⟨i1, i2, i3⟩ := tput_bal k v l hl
      obtain ⟨j1, j2, j3, j4⟩ := joined_bal (k := x) (v := xv) i1 hr (by omega) (by omega)
      refine ⟨j1, ?_⟩
      simp only [Tr.deep]; omega
    · split
      · obtain ⟨i1, i2, i3⟩ := tput_bal k v r hr
        obtain ⟨j1, j2, j3, j4⟩ := joined_bal (k := x) (v := xv) hl i1 (by omega) (by omega)
        refine ⟨j1, ?_⟩
        simp only [Tr.deep]; omega
      · exact ⟨⟨hl, hr, h1, h2⟩, by simp only [Tr.deep]; omega, by simp only [Tr.deep]; omega⟩
theorem tfirst_bal : ∀ (l : Tr) (k v : Int) (r : Tr), l.bal → r.bal → l.deep ≤ r.deep + 1 → r.deep ≤ l.deep + 1 → (tfirst k v r l).1.bal ∧ (tfirst k v r l).1.deep ≤ max l.deep r.deep + 1 ∧ max l.deep r.deep ≤ (tfirst k v r l).1.deep
  | .nil, k, v, r, hl, hr, h1, h2 => by
    unfold tfirst
    refine ⟨hr, ?_, ?_⟩
    · show r.deep ≤ _; omega
    · show _ ≤ r.deep; simp only [Tr.deep]; omega
  | .node lk lv ll lr, k, v, r, ⟨a1, a2, a3, a4⟩, hr, h1, h2 => by
    unfold tfirst
    obtain ⟨i1, i2, i3⟩ := tfirst_bal ll lk lv lr a1 a2 a3 a4
    simp only [Tr.deep] at h1 h2
    obtain ⟨j1, j2, j3, j4⟩ := joined_bal (k := k) (v := v) i1 hr (by omega) (by omega)
    refine ⟨j1, ?_⟩
    show (joined k v _ r).deep ≤ _ ∧ _ ≤ (joined k v _ r).deep
    simp only [Tr.deep]
    omega
theorem tboth_bal {l r : Tr} (hl : l.bal) (hr : r.bal) (h1 : l.deep ≤ r.deep + 1) (h2 : r.deep ≤ l.deep + 1) : (tboth l r).bal ∧ (tboth l r).deep ≤ max l.deep r.deep + 1 ∧ max l.deep r.deep ≤ (tboth l r).deep := by
  unfold tboth
  split
  · refine ⟨hr, ?_, ?_⟩ <;> simp only [Tr.deep] <;> omega
  · refine ⟨hl, ?_, ?_⟩ <;> simp only [Tr.deep] <;> omega
  · rename_i a b c d k v rl rr
    obtain ⟨b1, b2, b3, b4⟩ := hr
    obtain ⟨i1, i2, i3⟩ := tfirst_bal rl k v rr b1 b2 b3 b4
    obtain ⟨e1, e2⟩ : (Tr.node k v rl rr).deep = max rl.deep rr.deep + 1 ∧ True := ⟨rfl, trivial⟩
    obtain ⟨j1, j2, j3, j4⟩ := joined_bal (k := (tfirst k v rr rl).2.1) (v := (tfirst k v rr rl).2.2) hl i1 (by omega) (by omega)
    refine ⟨j1, ?_, ?_⟩ <;> omega
theorem tdrop_bal (k : Int) : ∀ t : Tr, t.bal → (tdrop k t).bal ∧ (tdrop k t).deep ≤ t.deep ∧ t.deep ≤ (tdrop k t).deep + 1
  | .nil, _ => ⟨trivial, Nat.zero_le _, Nat.zero_le _⟩
  | .node x xv l r, ⟨hl, hr, h1, h2⟩ => by
    unfold tdrop
    split
    · obtain ⟨i1, i2, i3⟩ := tdrop_bal k l hl
      obtain ⟨j1, j2, j3, j4⟩ := joined_bal (k := x) (v := xv) i1 hr (by omega) (by omega)
      refine ⟨j1, ?_⟩
      simp only [Tr.deep]; omega
    · split
      · obtain ⟨i1, i2, i3⟩ := tdrop_bal k r hr
        obtain ⟨j1, j2, j3, j4⟩ := joined_bal (k := x) (v := xv) hl i1 (by omega) (by omega)
        refine ⟨j1, ?_⟩
        simp only [Tr.deep]; omega
      · obtain ⟨j1, j2, j3⟩ := tboth_bal hl hr h1 h2
        refine ⟨j1, ?_⟩
        simp only [Tr.deep]; omega
/-! ### Lists -/
abbrev LE2 := List (Int × Int)
def lput (k v : Int) (l : LE2) : LE2 := l.filter (fun e => decide (e.1 < k)) ++ (k, v) :: l.filter (fun e => decide (k < e.1))
def ldrop (k : Int) (l : LE2) : LE2 := l.filter (fun e => decide (e.1 ≠ k))
def Srt (l : LE2) : Prop := l.Pairwise (fun a b => a.1 < b.1)
theorem Srt.split {a b : LE2} {x xv : Int} (h : Srt (a ++ (x, xv) :: b)) : Srt a ∧ Srt b ∧ (∀ e ∈ a, e.1 < x) ∧ (∀ e ∈ b, x < e.1) := by
  obtain ⟨h1, h2, h3⟩ := List.pairwise_append.1 h
  obtain ⟨h4, h5⟩ := List.pairwise_cons.1 h2
  exact ⟨h1, h5, fun e he => h3 e he _ List.mem_cons_self, h4⟩
theorem fl_all {p : Int × Int → Bool} {l : LE2} (h : ∀ e ∈ l, p e = true) : l.filter p = l := List.filter_eq_self.2 h
theorem fl_no {p : Int × Int → Bool} {l : LE2} (h : ∀ e ∈ l, ¬ p e = true) : l.filter p = [] := List.filter_eq_nil_iff.2 h
theorem tput_toL (k v : Int) : ∀ t : Tr, Srt t.toL → (tput k v t).toL = lput k v t.toL
  | .nil, _ => rfl
  | .node x xv l r, h => by
    obtain ⟨h1, h2, h3, h4⟩ := Srt.split h
    unfold tput lput
    simp only [Tr.toL, List.filter_append, List.filter_cons]
    split
    · rename_i hk
      rw [toL_joined, tput_toL k v l h1]
      unfold lput
      rw [fl_no (l := r.toL) (p := fun e => decide (e.1 < k)) (fun e he => by have := h4 e he; simp; omega), fl_all (l := r.toL) (p := fun e => decide (k < e.1)) (fun e he => by have := h4 e he; simp; omega)]
      have e1 : decide (x < k) = false := by simp; omega
      have e2 : decide (k < x) = true := by simp; omega
      simp [e1, e2]
    · split
      · rename_i hk2 hk
        rw [toL_joined, tput_toL k v r h2]
        unfold lput
        rw [fl_all (l := l.toL) (p := fun e => decide (e.1 < k)) (fun e he => by have := h3 e he; simp; omega), fl_no (l := l.toL) (p := fun e => decide (k < e.1)) (fun e he => by have := h3 e he; simp; omega)]
        have e1 : decide (x < k) = true := by simp; omega
        have e2 : decide (k < x) = false := by simp; omega
        simp [e1, e2]
      · have hx : k = x := by omega
        subst hx
        rw [fl_all (l := l.toL) (p := fun e => decide (e.1 < k)) (fun e he => by have := h3 e he; simp; omega), fl_no (l := l.toL) (p := fun e => decide (k < e.1)) (fun e he => by have := h3 e he; simp; omega), fl_no (l := r.toL) (p := fun e => decide (e.1 < k)) (fun e he => by have := h4 e he; simp; omega), fl_all (l := r.toL) (p := fun e => decide (k < e.1)) (fun e he => by have := h4 e he; simp; omega)]
        simp [Tr.toL]
theorem tfirst_toL : ∀ (l : Tr) (k v : Int) (r : Tr), (tfirst k v r l).2 :: (tfirst k v r l).1.toL = l.toL ++ (k, v) :: r.toL
  | .nil, k, v, r => rfl
  | .node lk lv ll lr, k, v, r => by
    unfold tfirst
    have ih := tfirst_toL ll lk lv lr
    show (tfirst lk lv lr ll).2 :: (joined k v (tfirst lk lv lr ll).1 r).toL = _
    rw [toL_joined]
    show ((tfirst lk lv lr ll).2 :: (tfirst lk lv lr ll).1.toL) ++ _ = _
    rw [ih]; simp [Tr.toL]
theorem tboth_toL (l r : Tr) : (tboth l r).toL = l.toL ++ r.toL := by
  unfold tboth
  split
  · rfl
  · simp [Tr.toL]
  · rename_i a b c d k v rl rr
    rw [toL_joined]
    have := tfirst_toL rl k v rr
    show _ ++ (tfirst k v rr rl).2 :: (tfirst k v rr rl).1.toL = _
    rw [this]; rfl
theorem tdrop_toL (k : Int) : ∀ t : Tr, Srt t.toL → (tdrop k t).toL = ldrop k t.toL
  | .nil, _ => rfl
  | .node x xv l r, h => by
    obtain ⟨h1, h2, h3, h4⟩ := Srt.split h
    unfold tdrop ldrop
    simp only [Tr.toL, List.filter_append, List.filter_cons]
    split
    · rename_i hk
      rw [toL_joined, tdrop_toL k l h1]
      unfold ldrop
      rw [fl_all (l := r.toL) (p := fun e => decide (e.1 ≠ k)) (fun e he => by have := h4 e he; simp; omega)]
      have e1 : decide (x ≠ k) = true := by simp; omega
      simp only [e1, if_true]
    · split
      · rename_i hk2 hk
        rw [toL_joined, tdrop_toL k r h2]
        unfold ldrop
        rw [fl_all (l := l.toL) (p := fun e => decide (e.1 ≠ k)) (fun e he => by have := h3 e he; simp; omega)]
        have e1 : decide (x ≠ k) = true := by simp; omega
        simp only [e1, if_true]
      · have hx : k = x := by omega
        subst hx
        rw [tboth_toL, fl_all (l := l.toL) (p := fun e => decide (e.1 ≠ k)) (fun e he => by have := h3 e he; simp; omega), fl_all (l := r.toL) (p := fun e => decide (e.1 ≠ k)) (fun e he => by have := h4 e he; simp; omega)]
        simp
theorem lput_srt {l : LE2} {k v : Int} (h : Srt l) : Srt (lput k v l) := by
  refine List.pairwise_append.2 ⟨h.filter _, List.pairwise_cons.2 ⟨fun e he => ?_, h.filter _⟩, fun a ha b hb => ?_⟩
  · have := (List.mem_filter.1 he).2; simpa using this
  · have h1 : a.1 < k := by simpa using (List.mem_filter.1 ha).2
    rcases List.mem_cons.1 hb with rfl | hb
    · exact h1
    · have h2 : k < b.1 := by simpa using (List.mem_filter.1 hb).2
      omega
theorem ldrop_srt {l : LE2} {k : Int} (h : Srt l) : Srt (ldrop k l) := h.filter _
/-! ### How deep -/
theorem deep_size : ∀ t : Tr, t.bal → 2 ^ (t.deep / 2) ≤ t.size + 1 ∧ (∀ d, d + 1 = t.deep → 2 ^ ((d + 2) / 2) ≤ t.size + 1 ∨ True)
  | .nil, _ => ⟨by decide, fun _ _ => .inr trivial⟩
  | .node k v l r, ⟨hl, hr, h1, h2⟩ => by
    have i1 := (deep_size l hl).1
    have i2 := (deep_size r hr).1
    refine ⟨?_, fun _ _ => .inr trivial⟩
    simp only [Tr.deep, Tr.size]
    have key : ∀ a b : Nat, a ≤ b + 1 → b ≤ a + 1 → (max a b + 1) / 2 ≤ a / 2 + 1 ∧ (max a b + 1) / 2 ≤ b / 2 + 1 := by omega
    obtain ⟨k1, k2⟩ := key l.deep r.deep h1 h2
    have p1 : 2 ^ ((max l.deep r.deep + 1) / 2) ≤ 2 ^ (l.deep / 2 + 1) := Nat.pow_le_pow_right (by omega) k1
    have p2 : 2 ^ ((max l.deep r.deep + 1) / 2) ≤ 2 ^ (r.deep / 2 + 1) := Nat.pow_le_pow_right (by omega) k2
    rw [Nat.pow_succ] at p1 p2
    omega
/-! ### Ranks -/
def lrank (k : Int) (l : LE2) : Nat := (l.filter (fun e => decide (e.1 < k))).length
def lget (k : Int) (l : LE2) : Option Int := (l.find? (fun e => decide (e.1 = k))).map (·.2)
end Go.Proofs.YtjdbeopgmpbikaaDoor.Eng
