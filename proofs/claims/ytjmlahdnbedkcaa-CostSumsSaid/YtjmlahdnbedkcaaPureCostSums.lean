/- The sum of any costs is the document's, and that of the parts turned round wherever they are cut; no condition. -/
import Derived.Test.YtjmlahdnbedkcaaHCostSumsx2
import Derived.Test.YtjmlahdnbedkcaaWd
namespace Go.Proofs.Ytjmlahdnbedkcaa.Pure
open Go.RowKit Go.Proofs.Ytjmlahdnbedkcaa.HCostSums Go.Proofs.YtjmlahdnbedkcaaW.PrintWords Go.Proofs.YtjmlahdnbedkcaaW.PrintLast Go.Proofs.YtjmlahdnbedkcaaW.PrintMore Go.Proofs.Ytjmlahdnbedkcaa.Wd
namespace CostL
/-- The sum of two costs, as the document tells it. -/
def sadd (a b : Int) : Int × Bool := if 0 ≤ a ∧ a ≤ 4611686018427387904 ∧ 0 ≤ b ∧ b ≤ 4611686018427387904 ∧ a + b ≤ 4611686018427387904 then (a + b, true) else (0, false)
theorem right_f (a : Int) : cost_Right.f a = some (decide (0 ≤ a ∧ a ≤ 4611686018427387904)) := by
  unfold cost_Right.f
  by_cases h : a ≥ 0
  · rw [if_pos h]; simp [show 0 ≤ a from h]
  · rw [if_neg h]; simp; omega
theorem rright_f (a : Int) : cortadoref02_Right.f a = some (decide (0 ≤ a ∧ a ≤ 4611686018427387904)) := by
  unfold cortadoref02_Right.f
  by_cases h : a ≥ 0
  · rw [if_pos h]; simp [show 0 ≤ a from h]
  · rw [if_neg h]; simp; omega
theorem add_f (a b : Int) : cost_Add.f a b = some (sadd a b) := by
  unfold cost_Add.f sadd
  rw [right_f]
  simp only [Option.bind_some]
  by_cases h1 : 0 ≤ a ∧ a ≤ 4611686018427387904
  · rw [if_pos (by simpa using h1), right_f]
    simp only [Option.bind_some]
    by_cases h2 : 0 ≤ b ∧ b ≤ 4611686018427387904
    · rw [if_pos (by simpa using h2)]
      have e1 : wrap64 (4611686018427387904 - b) = 4611686018427387904 - b := by unfold wrap64; omega
      rw [e1]
      by_cases h3 : a > 4611686018427387904 - b
      · rw [if_pos h3, if_neg (by omega)]
      · have e2 : wrap64 (a + b) = a + b := by unfold wrap64; omega
        rw [if_neg h3, if_pos (by omega), e2]
    · rw [if_neg (by simpa using h2), if_neg (by omega)]
  · rw [if_neg (by simpa using h1), if_neg (by omega)]
theorem radd_f (k : Nat) (a b : Int) : cortadoref02_Add.f (k + 1) a b = some (sadd a b) := by
  unfold cortadoref02_Add.f sadd
  rw [rright_f]
  simp only [Option.bind_some]
  by_cases h1 : 0 ≤ a ∧ a ≤ 4611686018427387904
  · rw [if_pos (by simpa using h1), rright_f]
    simp only [Option.bind_some, cortadoref02_Add.j0]
    by_cases h2 : 0 ≤ b ∧ b ≤ 4611686018427387904
    · rw [if_neg (by simpa using h2)]
      have e1 : IntKind.u64.wrap (IntKind.u64.wrap a + IntKind.u64.wrap b) = a + b := by
        rw [wrap_u64, wrap_u64, wrap_u64]; omega
      have e2 : wrap64 (a + b) = if a + b < 9223372036854775808 then a + b else a + b - 18446744073709551616 := by unfold wrap64; split <;> omega
      rw [e1, e2]
      by_cases h3 : a + b > 4611686018427387904
      · rw [if_pos h3, if_neg (by omega)]
      · rw [if_neg h3, if_pos (show a + b < 9223372036854775808 by omega), if_pos (by omega)]
    · rw [if_pos (by simp; omega), if_neg (by omega)]
  · rw [if_neg (by simpa using h1), if_neg (by omega)]
    simp only [cortadoref02_Add.j0, if_true]
end CostL
namespace CostSumsP
open CostL
def ssum : Int → List Int → Int × Bool
  | s, [] => (s, true)
  | s, x :: t => if (sadd s x).2 = true then ssum (sadd s x).1 t else (0, false)
theorem sum_l (l : List Int) (hl : l.length < 4611686018427387904) (d : Nat) : ∀ (k : Nat) (s i : Int), 0 ≤ i → i ≤ l.length → (l.length : Int) - i = d → d < k →
    cost_Sum.l0 k s l (l.length : Int) i = some (ssum s (l.drop i.toNat)) := by
  induction d with
  | zero =>
    intro k s i h0 h1 hd hk
    obtain ⟨k, rfl⟩ : ∃ m, k = m + 1 := ⟨k - 1, by omega⟩
    simp only [cost_Sum.l0]
    rw [if_neg (by omega), List.drop_eq_nil_of_le (by omega)]; rfl
  | succ d ih =>
    intro k s i h0 h1 hd hk
    obtain ⟨k, rfl⟩ : ∃ m, k = m + 1 := ⟨k - 1, by omega⟩
    have hlt : i.toNat < l.length := by omega
    simp only [cost_Sum.l0]
    rw [if_pos (by omega), if_pos h0, if_pos (by omega), add_f, List.drop_eq_getElem_cons hlt]
    have hr : rd l i = l[i.toNat] := by simp [rd, List.getD_eq_getElem?_getD, hlt]
    rw [hr]
    simp only [Option.bind_some, ssum]
    by_cases h : (sadd s l[i.toNat]).2 = true
    · rw [if_pos h, if_pos h]
      have hw : wrap64 (i + 1) = i + 1 := by unfold wrap64; omega
      rw [hw, show i.toNat + 1 = (i + 1).toNat by omega]
      exact ih k _ (i + 1) (by omega) (by omega) (by omega) (by omega)
    · rw [if_neg h, if_neg h]
theorem rsum_l (l : List Int) (hl : l.length < 4611686018427387904) (d : Nat) : ∀ (k : Nat) (s i : Int), 0 ≤ i → i ≤ l.length → (l.length : Int) - i = d → d + 1 < k →
    cortadoref02_Sum.l0 k l s i = some (ssum s (l.drop i.toNat)) := by
  induction d with
  | zero =>
    intro k s i h0 h1 hd hk
    obtain ⟨k, rfl⟩ : ∃ m, k = m + 1 := ⟨k - 1, by omega⟩
    simp only [cortadoref02_Sum.l0]
    rw [if_neg (by omega), List.drop_eq_nil_of_le (by omega)]; rfl
  | succ d ih =>
    intro k s i h0 h1 hd hk
    obtain ⟨k, rfl⟩ : ∃ m, k = m + 2 := ⟨k - 2, by omega⟩
    have hlt : i.toNat < l.length := by omega
    simp only [cortadoref02_Sum.l0]
    rw [if_pos (by omega), if_pos h0, radd_f k, List.drop_eq_getElem_cons hlt]
    have hr : rd l i = l[i.toNat] := by simp [rd, List.getD_eq_getElem?_getD, hlt]
    rw [hr]
    simp only [Option.bind_some, ssum]
    by_cases h : (sadd s l[i.toNat]).2 = true
    · rw [if_pos h, if_pos h]
      have hw : wrap64 (i + 1) = i + 1 := by unfold wrap64; omega
      rw [hw, show i.toNat + 1 = (i + 1).toNat by omega]
      exact ih (k + 1) _ (i + 1) (by omega) (by omega) (by omega) (by omega)
    · rw [if_neg h, if_neg h]
/-- All are costs and do not pass the limit. -/
def Fine (s : Int) (l : List Int) : Prop := (∀ x ∈ l, 0 ≤ x ∧ x ≤ 4611686018427387904) ∧ s + l.sum ≤ 4611686018427387904
theorem sum_nonneg (l : List Int) (h : ∀ x ∈ l, 0 ≤ x) : 0 ≤ l.sum := by
  induction l with
  | nil => simp
  | cons x t ih =>
    rw [List.sum_cons]
    have := ih (fun y hy => h y (List.mem_cons_of_mem _ hy))
    have := h x (by simp)
    omega
theorem ssum_eq (l : List Int) : ∀ s : Int, 0 ≤ s → s ≤ 4611686018427387904 → (Fine s l ∧ ssum s l = (s + l.sum, true)) ∨ (¬ Fine s l ∧ ssum s l = (0, false)) := by
  induction l with
  | nil =>
    intro s h0 h1
    left
    refine ⟨⟨by simp, by simpa using h1⟩, by simp [ssum]⟩
  | cons x t ih =>
    intro s h0 h1
    by_cases hx : 0 ≤ x ∧ x ≤ 4611686018427387904 ∧ s + x ≤ 4611686018427387904
    · have e : sadd s x = (s + x, true) := by unfold sadd; rw [if_pos (by omega)]
      simp only [ssum, e, if_true]
      rcases ih (s + x) (by omega) (by omega) with ⟨hf, he⟩ | ⟨hf, he⟩
      · left
        refine ⟨⟨?_, ?_⟩, ?_⟩
        · intro y hy
          rcases List.mem_cons.1 hy with rfl | hy
          · omega
          · exact hf.1 y hy
        · rw [List.sum_cons]; have := hf.2; omega
        · rw [he, List.sum_cons]; congr 1; omega
      · right
        refine ⟨fun g => hf ⟨fun y hy => g.1 y (List.mem_cons_of_mem _ hy), ?_⟩, he⟩
        have := g.2; rw [List.sum_cons] at this; omega
    · right
      have e : sadd s x = (0, false) := by unfold sadd; rw [if_neg (by omega)]
      refine ⟨fun g => hx ?_, by simp [ssum, e]⟩
      have h2 := g.1 x (by simp)
      have h3 := g.2
      rw [List.sum_cons] at h3
      have := sum_nonneg t (fun y hy => (g.1 y (List.mem_cons_of_mem _ hy)).1)
      omega
theorem sum_f (k : Nat) (l : List Int) (hl : l.length < 4611686018427387904) (hk : l.length < k) : cost_Sum.f k l = some (ssum 0 l) := by
  unfold cost_Sum.f
  have := sum_l l hl l.length k 0 0 (by omega) (by omega) (by omega) hk
  simpa using this
theorem rsum_f (k : Nat) (l : List Int) (hl : l.length < 4611686018427387904) (hk : l.length + 1 < k) : cortadoref02_Sum.f k l = some (ssum 0 l) := by
  unfold cortadoref02_Sum.f
  have := rsum_l l hl l.length k 0 0 (by omega) (by omega) (by omega) hk
  simpa using this
theorem awake_f : cortadolaw02_awake.f = some true := by decide +kernel
theorem fine_parts (l : List Int) (m : Nat) : Fine 0 l ↔ Fine 0 (l.drop m) ∧ Fine 0 (l.take m) ∧ (l.drop m).sum + (l.take m).sum ≤ 4611686018427387904 := by
  have e : l.sum = (l.take m).sum + (l.drop m).sum := by rw [← List.sum_append, List.take_append_drop]
  constructor
  · intro ⟨h1, h2⟩
    have ht : ∀ x ∈ l.take m, 0 ≤ x ∧ x ≤ 4611686018427387904 := fun x hx => h1 x (List.mem_of_mem_take hx)
    have hd : ∀ x ∈ l.drop m, 0 ≤ x ∧ x ≤ 4611686018427387904 := fun x hx => h1 x (List.mem_of_mem_drop hx)
    have := sum_nonneg _ (fun x hx => (ht x hx).1)
    have := sum_nonneg _ (fun x hx => (hd x hx).1)
    exact ⟨⟨hd, by omega⟩, ⟨ht, by omega⟩, by omega⟩
  · intro ⟨h1, h2, h3⟩
    refine ⟨fun x hx => ?_, by omega⟩
    rw [← List.take_append_drop m l] at hx
    rcases List.mem_append.1 hx with hx | hx
    · exact h2.1 x hx
    · exact h1.1 x hx
theorem join_f (k : Nat) (l : List Int) (hl : l.length < 4611686018427387904) (hk : l.length < k) (i : Int) (h0 : 0 ≤ i) (h1 : i ≤ l.length) :
    cortadolaw02_CostSums.j0 (k + 1) l (ssum 0 l).1 (ssum 0 l).2 (ssum 0 l).1 (ssum 0 l).2 i = some true := by
  simp only [cortadolaw02_CostSums.j0]
  rw [if_pos h0, if_pos h1, sum_f k _ (by rw [List.length_drop]; omega) (by rw [List.length_drop]; omega), sum_f k _ (by rw [List.length_take]; omega) (by rw [List.length_take]; omega)]
  simp only [Option.bind_some]
  rw [add_f]
  simp only [Option.bind_some]
  rw [awake_f]
  have hp := fine_parts l i.toNat
  have e : l.sum = (l.take i.toNat).sum + (l.drop i.toNat).sum := by rw [← List.sum_append, List.take_append_drop]
  rcases ssum_eq l 0 (by omega) (by omega) with ⟨f1, e1⟩ | ⟨f1, e1⟩ <;>
  rcases ssum_eq (l.drop i.toNat) 0 (by omega) (by omega) with ⟨f2, e2⟩ | ⟨f2, e2⟩ <;>
  rcases ssum_eq (l.take i.toNat) 0 (by omega) (by omega) with ⟨f3, e3⟩ | ⟨f3, e3⟩ <;>
  rw [e1, e2, e3] <;> simp only [Int.zero_add]
  · have := hp.1 f1
    have := sum_nonneg _ (fun x hx => (f2.1 x hx).1)
    have := sum_nonneg _ (fun x hx => (f3.1 x hx).1)
    have es : sadd (l.drop i.toNat).sum (l.take i.toNat).sum = (l.sum, true) := by
      unfold sadd; rw [if_pos (by omega)]; congr 1; omega
    simp [es]
  · exact absurd (hp.1 f1).2.1 f3
  · exact absurd (hp.1 f1).1 f2
  · exact absurd (hp.1 f1).1 f2
  · have := sum_nonneg _ (fun x hx => (f2.1 x hx).1)
    have := sum_nonneg _ (fun x hx => (f3.1 x hx).1)
    have es : sadd (l.drop i.toNat).sum (l.take i.toNat).sum = (0, false) := by
      unfold sadd; rw [if_neg (fun h => f1 (hp.2 ⟨f2, f3, by omega⟩))]
    simp [es]
  · simp
  · simp
  · simp
end CostSumsP
open CostSumsP in
theorem CostSums : cortadolaw02_CostSums.Pure := by
  intro l a hm hr _ ha
  have hl : l.length < 4611686018427387904 := by omega
  refine ⟨l.length + 2, ?_⟩
  unfold cortadolaw02_CostSums.f
  rw [sum_f _ l hl (by omega), rsum_f _ l hl (by omega)]
  simp only [Option.bind_some]
  by_cases h : (l.length : Int) > 0
  · have e : IntKind.u64.wrap (l.length : Int) = l.length := wrap_u64_id (by omega) (by omega)
    rw [if_pos h, e, if_neg (by omega)]
    have ha' := u64_wf ha
    have hm := Int.emod_lt_of_pos a h
    have hn := Int.emod_nonneg a (show (l.length : Int) ≠ 0 by omega)
    rw [Int.tmod_eq_emod_of_nonneg ha'.1, wrap64_id (by omega) (by omega)]
    exact join_f (l.length + 1) l hl (by omega) _ hn (by omega)
  · rw [if_neg h]
    exact join_f (l.length + 1) l hl (by omega) 0 (by omega) (by omega)

end Go.Proofs.Ytjmlahdnbedkcaa.Pure
