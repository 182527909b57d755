/- Slices that a call owns. -/
import Derived.Test.YtggflkjdgcdcmaaGreatDoorEngS
namespace Go.Proofs.YtggflkjdgcdcmaaGreatDoor.Eng
open Go Go.RowKit
set_option linter.unusedVariables false
set_option linter.unusedSimpArgs false
/-- A slice of n elements of s cells each, with room c, owned whole. -/
def slO (T : TypeId) (s : Nat) (q : Option Addr) (n c : Nat) (xs : List Value) : HP := fun h =>
  (xs.length = n * s ∧ n ≤ c ∧ c ≤ maxLen) ∧ ((q = none ∧ c = 0) ∨ ∃ g rest, q = some ⟨g, 0, none⟩ ∧ blk g T (xs ++ rest) h ∧ (xs ++ rest).length = c * s)
/-- Cells that lie somewhere. -/
def RdC (w : World) (q : Option Addr) (us : List Value) : Prop := us = [] ∨ ∃ a, q = some a ∧ ∀ j u, us[j]? = some u → w.cell? (a.add j) = some u
section
variable {e w w' : World} {F : List HP} {T : TypeId} {s : Nat} {q : Option Addr} {n c : Nat} {xs : List Value}
theorem Own.slFacts (h : Own e w (slO T s q n c xs :: F)) : xs.length = n * s ∧ n ≤ c ∧ c ≤ maxLen := by
  obtain ⟨he, k, hk, h1, h2, ha, rfl, ⟨hA, _⟩, hF⟩ := h
  exact hA
theorem Own.slCases (h : Own e w (slO T s q n c xs :: F)) : (q = none ∧ c = 0 ∧ n = 0 ∧ xs = []) ∨ ∃ g rest, q = some ⟨g, 0, none⟩ ∧ (xs ++ rest).length = c * s ∧ Own e w (blk g T (xs ++ rest) :: F) := by
  have hf := h.slFacts
  obtain ⟨he, k, hk, h1, h2, ha, rfl, ⟨_, hA⟩, hF⟩ := h
  rcases hA with ⟨rfl, rfl⟩ | ⟨g, rest, rfl, hb, hl⟩
  · left
    obtain ⟨h1, h2, h3⟩ := hf
    obtain rfl : n = 0 := by omega
    exact ⟨rfl, rfl, rfl, List.eq_nil_of_length_eq_zero (by simpa using h1)⟩
  · right
    exact ⟨g, rest, rfl, hl, he, _, hk, h1, h2, ha, rfl, hb, hF⟩
theorem Own.slMk {g : Nat} {rest : List Value} (hx : xs.length = n * s) (hn : n ≤ c) (hc : c ≤ maxLen) (hl : (xs ++ rest).length = c * s) (h : Own e w (blk g T (xs ++ rest) :: F)) : Own e w (slO T s (some ⟨g, 0, none⟩) n c xs :: F) :=
  h.mono fun _ hb => ⟨⟨hx, hn, hc⟩, .inr ⟨g, rest, rfl, hb, hl⟩⟩
theorem Own.slNil (h : Own e w F) : Own e w (slO T s none 0 0 [] :: F) := by
  obtain ⟨he, k, hk, ha⟩ := h
  refine ⟨he, k, hk, fun _ => none, k, fun b => .inl rfl, ?_, ⟨⟨by simp, Nat.le_refl _, by simp [maxLen]⟩, .inl ⟨rfl, rfl⟩⟩, ha⟩
  funext b; rfl
theorem Own.slRd (h : Own e w (slO T s q n c xs :: F)) : RdC w q xs := by
  rcases h.slCases with ⟨_, _, _, rfl⟩ | ⟨g, rest, rfl, hl, h⟩
  · exact .inl rfl
  · refine .inr ⟨_, rfl, fun j u hj => ?_⟩
    have := h.cellAdd j (v := u) (by rw [List.getElem?_append_left (List.getElem?_eq_some_iff.1 hj).1]; exact hj)
    exact this
theorem RdC.addr {us : List Value} (h : RdC w q us) {j : Nat} {u : Value} (hj : us[j]? = some u) : ∃ a, q = some a ∧ ∀ j u, us[j]? = some u → cellAt w (a.add j) u := by
  rcases h with rfl | ⟨a, rfl, h⟩
  · simp at hj
  · exact ⟨a, rfl, h⟩
/-- Read an element of one cell. -/
theorem RdC.elem {us : List Value} (h : RdC w q us) {j : Nat} {u : Value} (hj : us[j]? = some u) {k : Addr → Prop} (hk : ∀ a, cellAt w (a.add (j * 1)) u → k a) : someR q k := by
  obtain ⟨a, ha, h'⟩ := h.addr hj
  subst ha
  exact hk a (by rw [Nat.mul_one]; exact h' j u hj)
theorem RdC.drew {us : List Value} (h : RdC w q us) : RdC w.drew q us := h
theorem RdC.below {us : List Value} (h : RdC w q us) (hb : Below w.heap.size w w') : RdC w' q us := by
  rcases h with rfl | ⟨a, rfl, h⟩
  · exact .inl rfl
  · refine .inr ⟨a, rfl, fun j u hj => ?_⟩
    have h1 := h j u hj
    obtain ⟨o, ho, _⟩ := cells_of_cell h1
    rw [hb.cell (Array.getElem?_eq_some_iff.1 ho).1]; exact h1
theorem RdC.take {us : List Value} (h : RdC w q us) (m : Nat) : RdC w q (us.take m) := by
  rcases h with rfl | ⟨a, rfl, h⟩
  · left; simp
  · refine .inr ⟨a, rfl, fun j u hj => h j u ?_⟩
    rw [List.getElem?_take] at hj
    split at hj
    · exact hj
    · cases hj
theorem addr_add_add (a : Addr) (i j : Nat) : (a.add i).add j = a.add (i + j) := by
  unfold Addr.add
  by_cases hi : i = 0
  · subst hi; simp
  · by_cases hj : j = 0
    · subst hj; simp [hi]
    · simp only [hi, hj, if_false]
      rw [if_neg (by omega)]
      simp [Nat.add_assoc]
theorem RdC.slice {us : List Value} {l m z : Nat} (h : RdC w q us) (hm : l * z ≤ us.length) : RdC w (slcA q l m z) (us.drop (l * z)) ∨ m = l := by
  by_cases hml : m = l
  · exact .inr hml
  · left
    unfold slcA
    rw [if_neg hml]
    rcases h with rfl | ⟨a, rfl, h⟩
    · left; simp
    · refine .inr ⟨_, rfl, fun j u hj => ?_⟩
      rw [List.getElem?_drop] at hj
      rw [addr_add_add]
      exact h _ u hj
/-- The cell of an element, to be written. -/
theorem setFrom_append (xs rest : List Value) : ∀ (us : List Value) (i : Nat), i + us.length ≤ xs.length → setFrom (xs ++ rest) i us = setFrom xs i us ++ rest := by
  intro us
  induction us generalizing xs with
  | nil => intro i _; rfl
  | cons u r ih =>
    intro i hi
    simp only [List.length_cons] at hi
    unfold setFrom
    rw [List.set_append_left _ _ (by omega), ih (xs.set i u) (i + 1) (by simp; omega)]
theorem Own.slStore {i : Nat} {us : List Value} {K : World → Prop} (h : Own e w (slO T s q n c xs :: F)) (hi : i + us.length ≤ xs.length) (h0 : us ≠ []) (h1 : ∀ u ∈ us, u.oneCell' = true)
    (hk : ∀ w', Own e w' (slO T s q n c (setFrom xs i us) :: F) → K w') : someR q fun a => StoreR (a.add i) us w K := by
  obtain ⟨hf1, hf2, hf3⟩ := h.slFacts
  rcases h.slCases with ⟨_, _, _, rfl⟩ | ⟨g, rest, rfl, hl, h⟩
  · exfalso
    cases us with
    | nil => exact h0 rfl
    | cons u r => simp at hi
  · refine h.store (by simp; omega) h1 fun w' hw' => hk w' ?_
    rw [setFrom_append _ _ _ _ hi] at hw'
    exact Own.slMk (by rw [setFrom_length]; exact hf1) hf2 hf3 (by simpa [setFrom_length] using hl) hw'
theorem zeroCells_len (z : Array Value) (m : Nat) : (Builtin.zeroCells z m).size = m * z.size := by simp [Builtin.zeroCells]
theorem Own.append {P : Program} {t ty : TypeId} {m c2 : Nat} {q2 : Option Addr} {news : List Value} {k : Value → World → Prop} {z : List Value} {b : Nat} (h : Own e w (slO T s q n c xs :: F))
    (ht : P.underlying t = some (.slice T)) (hz : zeroL P T = some z) (hs : szOf P T = some s) (hb : bytesOf P T = some b) (hzs : Nat.beq z.length s = true) (hs0 : 0 < s)
    (hsrc : RdC w q2 news) (hl : news.length = m * s) (h1 : ∀ u ∈ news, u.oneCell' = true) (hlen : n + m ≤ maxLen) (hby : (n + m) * b ≤ 140737488355328)
    (hk : ∀ q' c' w', Own e w' (slO T s q' (n + m) c' (xs ++ news) :: F) → Below w.heap.size w w' ∨ True → k (.slice q' (n + m) c') w') :
    RunR P (builtinV .append #[t, t] ty #[.slice q n c, .slice q2 m c2]) w k := by
  have hzs := Nat.eq_of_beq_eq_true hzs
  obtain ⟨hf1, hf2, hf3⟩ := h.slFacts
  obtain ⟨i, zv, hi, hiz, hzv⟩ := zeroL_eq hz
  have hsz : i.size = s := by unfold szOf at hs; rw [hi] at hs; simpa using hs
  have hbz : i.bytes = b := by unfold bytesOf at hb; rw [hi] at hb; simpa using hb
  have hzc : zv.cells.size = s := by rw [← hzs, ← hzv, ← cellsL_eq]; simp
  subst hsz hbz
  unfold maxLen at hlen
  show RunR P (Builtin.append_ #[t, t] ty #[.slice q n c, .slice q2 m c2]) w k
  rcases Nat.eq_zero_or_pos m with hm0 | hm0
  · -- nothing comes behind
    subst hm0
    obtain rfl : news = [] := List.eq_nil_of_length_eq_zero (by simpa using hl)
    refine ⟨.slice q n c, w, ?_, ?_⟩
    · have hfc : (Builtin.firstCells i.size 0 (.slice q2 0 c2)).run P w = .ok #[] w := by
        cases q2 with
        | none => exact run_firstCells_none _ _ _ _ _
        | some a => exact run_firstCells_some (P := P) w i.size 0 a 0 c2 [] (by simp) (by simp)
      cases q with
      | none => simp [Builtin.append_, run_underlying ht, sizeOf, typeInfo, hi, Builtin.lenOf, hf2, hfc]
      | some a => simp [Builtin.append_, run_underlying ht, sizeOf, typeInfo, hi, Builtin.lenOf, hf2, hfc, storeCells]
    · have := hk q c w (by simpa using h) (.inr trivial)
      simpa using this
  · obtain ⟨u0, hu0⟩ : ∃ u, news[0]? = some u := by
      have : 0 < news.length := by rw [hl]; exact Nat.mul_pos hm0 hs0
      exact ⟨_, List.getElem?_eq_getElem this⟩
    obtain ⟨a, rfl, hcells⟩ := hsrc.addr hu0
    have grown : ∀ (olds : List Value) (old : Nat), olds = xs → old < n + m → Own e w (slO T i.size q n c xs :: F) →
        ∃ w', w' = w.drew.alloc (.cells (olds.toArray ++ news.toArray ++ Builtin.zeroCells zv.cells (grownCap w (n + m) old T - (n + m))) T) ∧
          Own e w' (slO T i.size (some ⟨w.heap.size, 0, none⟩) (n + m) (grownCap w (n + m) old T) (xs ++ news) :: F) := by
      intro olds old ho hlt hO
      subst ho
      refine ⟨_, rfl, ?_⟩
      have h2 := (Own.drop hO).drew.new (.cells (olds.toArray ++ news.toArray ++ Builtin.zeroCells zv.cells (grownCap w (n + m) old T - (n + m))) T)
      have hge := grownCap_ge w (n + m) old T
      have hle := grownCap_le_maxLen w (n + m) old T (by unfold maxLen; omega)
      refine Own.slMk (rest := (Builtin.zeroCells zv.cells (grownCap w (n + m) old T - (n + m))).toList) (by rw [List.length_append, hf1, hl, Nat.add_mul]) hge hle ?_ ?_
      · rw [List.length_append, List.length_append, hf1, hl, Array.length_toList, zeroCells_len, hzc, ← Nat.add_mul, ← Nat.add_mul]
        congr 1; omega
      · refine h2.mono fun hh hb => ?_
        unfold blk
        have e1 : (olds ++ news ++ (Builtin.zeroCells zv.cells (grownCap w (n + m) old T - (n + m))).toList).toArray = olds.toArray ++ news.toArray ++ Builtin.zeroCells zv.cells (grownCap w (n + m) old T - (n + m)) := by
          apply Array.ext'; simp
        rw [e1]; exact hb
    rcases h.slCases with ⟨rfl, rfl, rfl, rfl⟩ | ⟨g, rest, rfl, hlr, hB⟩
    · have hrun := run_append_nil (P := P) w t ty T i zv ht hi hiz a m c2 news hl hcells hm0 (by omega) (by simp at hby; omega)
      obtain ⟨w', hw', hO⟩ := grown [] 0 rfl (by omega) h
      refine ⟨_, _, hrun, ?_⟩
      have hO' := hk _ _ w' hO (.inr trivial)
      rw [hw'] at hO'
      simpa using hO'
    · by_cases hroom : n + m ≤ c
      · have hrun := run_append_room (P := P) w t ty T i ht hi g n c (xs ++ rest).toArray hB.get a m c2 news hl hcells h1 hroom (by
          rw [hl]; simp only [List.size_toArray]; rw [hlr, ← Nat.add_mul]; exact Nat.mul_le_mul_right _ hroom)
        refine ⟨_, _, hrun, hk _ _ _ ?_ (.inr trivial)⟩
        have hlx : n * i.size = xs.length := hf1.symm
        have ecs : (((xs ++ rest).toArray.toList.take (n * i.size) ++ news ++ (xs ++ rest).toArray.toList.drop (n * i.size + news.length))) = (xs ++ news) ++ rest.drop news.length := by
          simp only [hlx]
          rw [List.take_left' rfl, List.drop_append]
          simp [List.drop_eq_nil_of_le]
        have hlen2 : ((xs ++ news) ++ rest.drop news.length).length = c * i.size := by
          have h5 : xs.length + rest.length = c * i.size := by simpa using hlr
          have h6 : news.length ≤ rest.length := by
            have : (n + m) * i.size ≤ c * i.size := Nat.mul_le_mul_right _ hroom
            rw [Nat.add_mul, ← hf1, ← hl] at this
            omega
          simp; omega
        refine Own.slMk (rest := rest.drop news.length) (by rw [List.length_append, hf1, hl, Nat.add_mul]) hroom hf3 hlen2 ?_
        refine hB.step ⟨rfl, rfl, rfl⟩ fun h1 hA hsub => ⟨one g _, one_self _ _, one_sub ?_, fun b hb => ?_, fun b hb hlt => ?_⟩
        · rw [setRow_heap w g _ _ T _ (hsub g _ hA), ecs]
        · rw [one_ne hb]; left; rw [show h1 g = some _ from hA]; simp
        · refine setRow_other w g b _ ?_
          intro e; subst e; rw [show h1 b = some _ from hA] at hb; cases hb
      · have hfit : Builtin.nextslicecap (n + m) c * i.bytes ≤ 281474976710656 := growslice_fits (by omega) hby
        have hrun := run_append_grow (P := P) w t ty T i zv ht hi hiz ⟨g, 0, none⟩ n c xs (by rw [hf1]) (fun j v hj => hB.cellAdd j (by rw [List.getElem?_append_left (List.getElem?_eq_some_iff.1 hj).1]; exact hj)) a m c2 news hl hcells (by omega) (by omega) hfit
        obtain ⟨w', hw', hO⟩ := grown xs c rfl (by omega) h
        refine ⟨_, _, hrun, ?_⟩
        rw [← hw']
        exact hk _ _ w' hO (.inr trivial)
end
end Go.Proofs.YtggflkjdgcdcmaaGreatDoor.Eng
