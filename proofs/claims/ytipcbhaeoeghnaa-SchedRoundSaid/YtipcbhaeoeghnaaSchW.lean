/- Schedulers: what they tell (plain). -/
import Derived.Test.YtipcbhaeoeghnaaEngW
namespace Go.Proofs.Ytipcbhaeoeghnaa.Eng
open Go Go.RowKit Go.Proofs
set_option linter.unusedVariables false
set_option linter.unusedSimpArgs false
def iL (l : List Nat) : List Int := l.map Int.ofNat
theorem iL_len (l : List Nat) : (iL l).length = l.length := by simp [iL]
theorem iL_at (l : List Nat) {i : Nat} (h : i < (iL l).length) : (iL l)[i] = ((l[i]'(by rw [iL_len] at h; exact h) : Nat) : Int) := by simp [iL]
/-- How long one has waited. -/
def wt (W : List Nat) (i : Nat) : Nat := W.getD i 0
def wtI (W : List Nat) (i : Int) : Nat := if 0 ≤ i then wt W i.toNat else 0
theorem wtI_nat (W : List Nat) (i : Nat) : wtI W (i : Int) = wt W i := by unfold wtI; rw [if_pos (by omega), Int.toNat_natCast]
/-- Those that may. -/
def mayB (M : List Bool) (i : Nat) : Bool := M.getD i false
def tho (M : List Bool) : List Nat := (List.range M.length).filter (mayB M)
theorem mem_tho {M : List Bool} {i : Nat} : i ∈ tho M ↔ i < M.length ∧ mayB M i = true := by simp [tho]
/-- The first one of those that waited longest. -/
def lngF (W : List Nat) (m : Nat) : List Nat → Nat
  | [] => m
  | x :: r => lngF W (if wt W m < wt W x then x else m) r
def lng (W : List Nat) : List Nat → Nat
  | [] => 0
  | x :: r => lngF W x r
theorem lngF_spec (W : List Nat) : ∀ (l : List Nat) (m : Nat), (lngF W m l = m ∨ lngF W m l ∈ l) ∧ wt W m ≤ wt W (lngF W m l) ∧ ∀ x ∈ l, wt W x ≤ wt W (lngF W m l)
  | [], m => ⟨.inl rfl, Nat.le_refl _, fun x hx => by cases hx⟩
  | y :: r, m => by
    unfold lngF
    obtain ⟨h1, h2, h3⟩ := lngF_spec W r (if wt W m < wt W y then y else m)
    have hm : wt W m ≤ wt W (if wt W m < wt W y then y else m) := by split <;> omega
    have hy : wt W y ≤ wt W (if wt W m < wt W y then y else m) := by split <;> omega
    refine ⟨?_, Nat.le_trans hm h2, fun x hx => ?_⟩
    · rcases h1 with h1 | h1
      · rw [h1]
        split
        · right; simp
        · left; rfl
      · right; exact List.mem_cons_of_mem _ h1
    · rcases List.mem_cons.1 hx with rfl | hx
      · exact Nat.le_trans hy h2
      · exact h3 x hx
theorem lng_mem {W l : List Nat} (h : l ≠ []) : lng W l ∈ l := by
  cases l with
  | nil => exact absurd rfl h
  | cons x r =>
    show lngF W x r ∈ x :: r
    rcases (lngF_spec W r x).1 with h | h
    · rw [h]; simp
    · exact List.mem_cons_of_mem _ h
theorem lng_max {W l : List Nat} {x : Nat} (h : x ∈ l) : wt W x ≤ wt W (lng W l) := by
  cases l with
  | nil => cases h
  | cons y r =>
    show wt W _ ≤ wt W (lngF W y r)
    rcases List.mem_cons.1 h with rfl | h
    · exact (lngF_spec W r x).2.1
    · exact (lngF_spec W r y).2.2 x h
/-- How long each has waited then. -/
def nw1 (M : List Bool) (W : List Nat) (who i : Nat) : Nat := if mayB M i = true ∧ i ≠ who then wt W i + 1 else 0
def nwt (M : List Bool) (W : List Nat) (who : Nat) : List Nat := (List.range (max M.length W.length)).map (nw1 M W who)
theorem nwt_len (M : List Bool) (W : List Nat) (who : Nat) : (nwt M W who).length = max M.length W.length := by simp [nwt]
theorem nw1_over {M : List Bool} {W : List Nat} {who i : Nat} (h : M.length ≤ i) : nw1 M W who i = 0 := by
  unfold nw1 mayB
  rw [List.getD_eq_getElem?_getD, List.getElem?_eq_none h]; simp
theorem wt_nwt (M : List Bool) (W : List Nat) (who i : Nat) : wt (nwt M W who) i = nw1 M W who i := by
  unfold wt
  rw [List.getD_eq_getElem?_getD]
  rcases Nat.lt_or_ge i (max M.length W.length) with h | h
  · rw [List.getElem?_eq_getElem (by rw [nwt_len]; exact h)]
    simp [nwt]
  · rw [List.getElem?_eq_none (by rw [nwt_len]; exact h), nw1_over (by omega)]; rfl
def wrs (M : List Bool) (W : List Nat) (who : Nat) (o : Nat) : Nat → Nat
  | 0 => o
  | i + 1 => max (wrs M W who o i) (nw1 M W who i)
/-- Who is picked: by what is told, or the one that waited longest; and whether it is late. -/
def late (b : Int) (M : List Bool) (W : List Nat) : Prop := 0 < b ∧ max b (M.length : Int) - (M.length : Int) ≤ (wt W (lng W (tho M)) : Int)
instance (b : Int) (M : List Bool) (W : List Nat) : Decidable (late b M W) := by unfold late; infer_instance
def whoP (P : List Int) (b : Int) (M : List Bool) (W : List Nat) : Nat :=
  match P with
  | [] => lng W (tho M)
  | p :: _ => if late b M W then lng W (tho M) else (tho M).getD ((max p 0).toNat % (tho M).length) 0
theorem whoP_mem {P : List Int} {b : Int} {M : List Bool} {W : List Nat} (h : tho M ≠ []) : whoP P b M W ∈ tho M := by
  unfold whoP
  split
  · exact lng_mem h
  · split
    · exact lng_mem h
    · have hl : 0 < (tho M).length := List.length_pos_iff.2 h
      rename_i p r _
      have hlt : (max p 0).toNat % (tho M).length < (tho M).length := Nat.mod_lt _ hl
      rw [List.getD_eq_getElem?_getD, List.getElem?_eq_getElem hlt]
      exact List.getElem_mem hlt
theorem whoP_late {P : List Int} {b : Int} {M : List Bool} {W : List Nat} (h : late b M W) : whoP P b M W = lng W (tho M) := by
  unfold whoP
  split
  · rfl
  · rw [if_pos h]
/-- Nobody waits too long. -/
def cge (W : List Nat) (n k : Nat) : Nat := (List.range n).countP fun i => decide (k ≤ wt W i)
def fairI (B n : Nat) (W : List Nat) : Prop := ∀ k, k ≤ n → cge W n (B + k) ≤ n - k
theorem countP_lt {p q : Nat → Bool} {l : List Nat} {x : Nat} (hx : x ∈ l) (hpq : ∀ i ∈ l, p i = true → q i = true) (h1 : p x = false) (h2 : q x = true) : l.countP p + 1 ≤ l.countP q := by
  induction l with
  | nil => cases hx
  | cons y r ih =>
    rw [List.countP_cons, List.countP_cons]
    have hr : r.countP p ≤ r.countP q := List.countP_mono_left fun i hi => hpq i (List.mem_cons_of_mem _ hi)
    rcases List.mem_cons.1 hx with rfl | hx
    · rw [h1, h2]; simp; omega
    · have := ih hx (fun i hi => hpq i (List.mem_cons_of_mem _ hi))
      have hy := hpq y (List.mem_cons_self ..)
      cases hp : p y with
      | true => rw [hy hp]; simp; omega
      | false => simp; split <;> omega
theorem fair_step {B n : Nat} {M : List Bool} {W : List Nat} {who : Nat} (hM : M.length = n) (h : fairI B n W) (hw : who ∈ tho M) (hl : B ≤ wt W (lng W (tho M)) → who = lng W (tho M)) : fairI B n (nwt M W who) := by
  intro k hk
  cases k with
  | zero =>
    have : cge (nwt M W who) n (B + 0) ≤ n := by
      have := List.countP_le_length (l := List.range n) (p := fun i => decide (B + 0 ≤ wt (nwt M W who) i))
      unfold cge
      simpa using this
    omega
  | succ k =>
    have hprev := h k (by omega)
    have himp : ∀ i ∈ List.range n, decide (B + (k + 1) ≤ wt (nwt M W who) i) = true → decide (B + k ≤ wt W i) = true := by
      intro i _ hi
      have hi := of_decide_eq_true hi
      rw [wt_nwt] at hi
      unfold nw1 at hi
      split at hi
      · exact decide_eq_true (by omega)
      · omega
    by_cases hex : ∃ i ∈ List.range n, decide (B + (k + 1) ≤ wt (nwt M W who) i) = true
    · obtain ⟨i, hin, hi⟩ := hex
      have hi' := of_decide_eq_true hi
      rw [wt_nwt] at hi'
      unfold nw1 at hi'
      split at hi'
      · rename_i hc
        have hmi : i ∈ tho M := mem_tho.2 ⟨by rw [hM]; simpa using hin, hc.1⟩
        have hmx := lng_max (W := W) hmi
        have hwho := hl (by omega)
        have hwl := (mem_tho.1 hw).1
        have key := countP_lt (p := fun i => decide (B + (k + 1) ≤ wt (nwt M W who) i)) (q := fun i => decide (B + k ≤ wt W i)) (l := List.range n) (x := who) (by simp; omega) himp (by
          rw [wt_nwt]; unfold nw1; rw [if_neg (by simp)]; exact decide_eq_false (by omega)) (by rw [hwho]; exact decide_eq_true (by omega))
        unfold cge at hprev ⊢
        omega
      · omega
    · have h0 : cge (nwt M W who) n (B + (k + 1)) = 0 := by
        unfold cge
        rw [List.countP_eq_zero]
        intro i hi hp
        exact hex ⟨i, hi, hp⟩
      omega
theorem fair_lt {B n : Nat} {W : List Nat} (h : fairI B n W) {i : Nat} (hi : i < n) : wt W i < B + n := by
  have h1 := h n (Nat.le_refl _)
  have h2 : cge W n (B + n) = 0 := by omega
  unfold cge at h2
  rw [List.countP_eq_zero] at h2
  have := h2 i (by simpa using hi)
  simp at this
  omega
theorem fair_nil (B n : Nat) : fairI B n [] := by
  intro k hk
  rcases Nat.eq_zero_or_pos (B + k) with h | h
  · have := List.countP_le_length (l := List.range n) (p := fun i => decide (B + k ≤ wt [] i))
    unfold cge
    simp at this ⊢
    omega
  · have : cge [] n (B + k) = 0 := by
      unfold cge
      rw [List.countP_eq_zero]
      intro i _
      simp [wt]; omega
    omega
theorem wrs_le {M : List Bool} {W : List Nat} {who o L : Nat} (ho : o ≤ L) (hn : ∀ i, nw1 M W who i ≤ L) : ∀ k, wrs M W who o k ≤ L
  | 0 => ho
  | k + 1 => Nat.max_le.2 ⟨wrs_le ho hn k, hn k⟩
end Go.Proofs.Ytipcbhaeoeghnaa.Eng
