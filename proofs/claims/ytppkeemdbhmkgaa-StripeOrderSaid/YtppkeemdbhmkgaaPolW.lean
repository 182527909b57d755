/- Buffers: appended in place, made longer and shorter (plain). -/
import Derived.Test.YtppkeemdbhmkgaaEngW
namespace Go.Proofs.Ytppkeemdbhmkgaa.Eng
open Go Go.RowKit Go.Proofs
set_option linter.unusedVariables false
set_option linter.unusedSimpArgs false
theorem slcA0 (q : Option Addr) (c z : Nat) : slcA q 0 c z = q := by
  unfold slcA
  split
  · rfl
  · cases q with
    | none => rfl
    | some a =>
      show some (a.add (0 * z)) = some a
      rw [Nat.zero_mul]; rfl
theorem Pick.mid (A : HP) (F : List HP) : ∀ l : List HP, Pick (l ++ A :: F) A (l ++ F)
  | [] => .here
  | B :: l => .there (Pick.mid A F l)
theorem Sub.mid (A : HP) (F : List HP) : ∀ l : List HP, Sub (A :: (l ++ F)) (l ++ A :: F)
  | [] => .rfl _
  | B :: l => .cons (.there .here) (Sub.mid A F l)
section
variable {e w : World} {F : List HP} {T : TypeId} {s : Nat} {q : Option Addr} {n c : Nat} {xs ys : List Value}
theorem Own.mid {A : HP} {l : List HP} (h : Own e w (l ++ A :: F)) : Own e w (A :: (l ++ F)) := h.pk (Pick.mid A F l)
theorem Own.midBack {A : HP} {l : List HP} (h : Own e w (A :: (l ++ F))) : Own e w (l ++ A :: F) := h.sub (Sub.mid A F l)
/-- Fewer of them. -/
theorem Own.shrink {m : Nat} (h : Own e w (slO T s q n c (xs ++ ys) :: F)) (hl : xs.length = m * s) (hm : m ≤ n) : Own e w (slO T s q m c xs :: F) := by
  obtain ⟨hf1, hf2, hf3⟩ := h.slFacts
  rcases h.slCases with ⟨rfl, rfl, rfl, hx⟩ | ⟨g, rest, rfl, hlr, hB⟩
  · obtain rfl : m = 0 := by omega
    obtain rfl : xs = [] := List.eq_nil_of_length_eq_zero (by simpa using hl)
    obtain rfl : ys = [] := by simpa using hx
    exact h
  · rw [List.append_assoc] at hB hlr
    exact Own.slMk (rest := ys ++ rest) hl (by omega) hf3 hlr hB
/-- All of its room. -/
theorem Own.extend (h : Own e w (slO T s q n c xs :: F)) : ∃ ys, Own e w (slO T s q c c (xs ++ ys) :: F) := by
  obtain ⟨hf1, hf2, hf3⟩ := h.slFacts
  rcases h.slCases with ⟨rfl, rfl, rfl, hx⟩ | ⟨g, rest, rfl, hlr, hB⟩
  · exact ⟨[], by simpa using h⟩
  · refine ⟨rest, Own.slMk (rest := []) hlr (Nat.le_refl _) hf3 (by simpa using hlr) (by simpa using hB)⟩
/-- Behind it, in place. -/
theorem Own.appendRoom {P : Program} {t ty : TypeId} {m c2 : Nat} {q2 : Option Addr} {news : List Value} {k : Value → World → Prop} {z : List Value} (h : Own e w (slO T s q n c xs :: F))
    (ht : P.underlying t = some (.slice T)) (hz : zeroL P T = some z) (hs : szOf P T = some s) (hs0 : 0 < s)
    (hsrc : RdC w q2 news) (hl : news.length = m * s) (h1 : ∀ u ∈ news, u.oneCell' = true) (hroom : n + m ≤ c) (hm0 : 0 < m)
    (hk : ∀ w', Own e w' (slO T s q (n + m) c (xs ++ news) :: F) → k (.slice q (n + m) c) w') :
    RunR P (builtinV .append #[t, t] ty #[.slice q n c, .slice q2 m c2]) w k := by
  obtain ⟨hf1, hf2, hf3⟩ := h.slFacts
  obtain ⟨i, zv, hi, hiz, hzv⟩ := zeroL_eq hz
  have hsz : i.size = s := by unfold szOf at hs; rw [hi] at hs; simpa using hs
  subst hsz
  show RunR P (Builtin.append_ #[t, t] ty #[.slice q n c, .slice q2 m c2]) w k
  obtain ⟨u0, hu0⟩ : ∃ u, news[0]? = some u := by
    have : 0 < news.length := by rw [hl]; exact Nat.mul_pos hm0 hs0
    exact ⟨_, List.getElem?_eq_getElem this⟩
  obtain ⟨a, rfl, hcells⟩ := hsrc.addr hu0
  rcases h.slCases with ⟨rfl, rfl, rfl, rfl⟩ | ⟨g, rest, rfl, hlr, hB⟩
  · omega
  · have hrun := run_append_room (P := P) w t ty T i ht hi g n c (xs ++ rest).toArray hB.get a m c2 news hl hcells h1 hroom (by
      rw [hl]; simp only [List.size_toArray]; rw [hlr, ← Nat.add_mul]; exact Nat.mul_le_mul_right _ hroom)
    refine ⟨_, _, hrun, hk _ ?_⟩
    have hlx : n * i.size = xs.length := hf1.symm
    have ecs : (((xs ++ rest).toArray.toList.take (n * i.size) ++ news ++ (xs ++ rest).toArray.toList.drop (n * i.size + news.length))) = (xs ++ news) ++ rest.drop news.length := by
      simp only [hlx]
      rw [List.take_left' rfl, List.drop_append]
      simp [List.drop_eq_nil_of_le]
    have hlen2 : ((xs ++ news) ++ rest.drop news.length).length = c * i.size := by
      have h5 : xs.length + rest.length = c * i.size := by simpa using hlr
      have h6 : news.length ≤ rest.length := by
        have : (n + m) * i.size ≤ c * i.size := Nat.mul_le_mul_right _ hroom
        rw [Nat.add_mul, ← hf1, ← hl] at this
        omega
      simp; omega
    refine Own.slMk (rest := rest.drop news.length) (by rw [List.length_append, hf1, hl, Nat.add_mul]) hroom hf3 hlen2 ?_
    refine hB.step ⟨rfl, rfl, rfl⟩ fun h1 hA hsub => ⟨one g _, one_self _ _, one_sub ?_, fun b hb => ?_, fun b hb hlt => ?_⟩
    · rw [setRow_heap w g _ _ T _ (hsub g _ hA), ecs]
    · rw [one_ne hb]; left; rw [show h1 g = some _ from hA]; simp
    · refine setRow_other w g b _ ?_
      intro e; subst e; rw [show h1 b = some _ from hA] at hb; cases hb
end
end Go.Proofs.Ytppkeemdbhmkgaa.Eng
