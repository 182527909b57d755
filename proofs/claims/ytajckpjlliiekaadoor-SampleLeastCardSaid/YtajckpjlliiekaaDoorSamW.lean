/- Samples, plain: the first one from a rank on that isn't among some; what fills a sample. -/
import Derived.Test.YtajckpjlliiekaaDoorLgW
namespace Go.Proofs.YtajckpjlliiekaaDoor.Eng
open Go Go.RowKit Go.Proofs
set_option linter.unusedVariables false
set_option linter.unusedSimpArgs false
set_option maxRecDepth 1000000
theorem find_first {p : Int → Bool} : ∀ {l : List Int} {i : Nat} (hi : i < l.length), p l[i] = true → (∀ j (hj : j < i), p (l[j]'(by omega)) = false) → l.find? p = some l[i]
  | [], i, hi, _, _ => by simp at hi
  | x :: l, 0, hi, hx, _ => by
    have hx : p x = true := hx
    show List.find? p (x :: l) = some x
    rw [List.find?_cons, hx]
  | x :: l, i + 1, hi, hx, hb => by
    have h0 : p x = false := hb 0 (by omega)
    show List.find? p (x :: l) = some (l[i]'(by simp at hi; omega))
    rw [List.find?_cons, h0]
    exact find_first (by simp at hi; omega) hx fun j hj => hb (j + 1) (by omega)
/-- Keys, round and round. -/
def rndK (ks : List Int) (f i : Nat) : Int := ks.getD ((f + i) % ks.length) 0
def nxtK (ks : List Int) (f : Nat) (ins : List Int) : Option Int := ((List.range ks.length).map (rndK ks f)).find? (fun x => decide (x ∉ ins))
theorem rndK_at {ks : List Int} {f i : Nat} (h : 0 < ks.length) : rndK ks f i = ks[(f + i) % ks.length]'(Nat.mod_lt _ h) := by
  unfold rndK
  rw [List.getD_eq_getElem?_getD, List.getElem?_eq_getElem (Nat.mod_lt _ h), Option.getD_some]
theorem rndK_mem {ks : List Int} {f i : Nat} (h : 0 < ks.length) : rndK ks f i ∈ ks := by rw [rndK_at h]; exact List.getElem_mem _
theorem rndK_hit {ks : List Int} {f : Nat} {x : Int} (hx : x ∈ ks) : ∃ i, i < ks.length ∧ rndK ks f i = x := by
  obtain ⟨j, hj, rfl⟩ := List.getElem_of_mem hx
  have hn : 0 < ks.length := by omega
  have hr := Nat.mod_lt f hn
  have hf := Nat.div_add_mod f ks.length
  obtain ⟨r, er⟩ : ∃ r, r = f % ks.length := ⟨_, rfl⟩
  rw [← er] at hr hf
  have key : ∀ i, (f + i) % ks.length = (r + i) % ks.length := fun i => by rw [er, Nat.mod_add_mod]
  have at_ : ∀ {a b : Nat} (ha : a < ks.length) (hb : b < ks.length), a = b → ks[a] = ks[b] := fun _ _ e => by subst e; rfl
  by_cases h : r ≤ j
  · refine ⟨j - r, by omega, ?_⟩
    rw [rndK_at hn]
    refine at_ _ _ ?_
    rw [key, show r + (j - r) = j by omega, Nat.mod_eq_of_lt hj]
  · refine ⟨j + ks.length - r, by omega, ?_⟩
    rw [rndK_at hn]
    refine at_ _ _ ?_
    rw [key, show r + (j + ks.length - r) = j + ks.length by omega, Nat.add_mod_right, Nat.mod_eq_of_lt hj]
theorem nxtK_at {ks ins : List Int} {f i : Nat} (hi : i < ks.length) (hx : rndK ks f i ∉ ins) (hb : ∀ j, j < i → rndK ks f j ∈ ins) : nxtK ks f ins = some (rndK ks f i) := by
  unfold nxtK
  have hl : i < ((List.range ks.length).map (rndK ks f)).length := by simpa using hi
  rw [find_first hl (by simpa using hx) (fun j hj => by simpa using hb j hj)]
  simp
theorem nxtK_none {ks ins : List Int} {f : Nat} (hb : ∀ j, j < ks.length → rndK ks f j ∈ ins) : nxtK ks f ins = none := by
  unfold nxtK
  refine List.find?_eq_none.2 fun x hx => ?_
  obtain ⟨j, hj, rfl⟩ := List.mem_map.1 hx
  simpa using hb j (List.mem_range.1 hj)
/-- Is there one that isn't among some? -/
def moreK (ks ins : List Int) : Bool := ks.any (fun x => decide (x ∉ ins))
theorem moreK_none {ks ins : List Int} {f : Nat} (h : nxtK ks f ins = none) : moreK ks ins = false := by
  unfold nxtK at h
  unfold moreK
  rw [List.any_eq_false]
  intro x hx
  obtain ⟨i, hi, rfl⟩ := rndK_hit (f := f) hx
  have := List.find?_eq_none.1 h (rndK ks f i) (List.mem_map.2 ⟨i, List.mem_range.2 hi, rfl⟩)
  simpa using this
theorem nxtK_some {ks ins : List Int} {f : Nat} {x : Int} (h : nxtK ks f ins = some x) : x ∈ ks ∧ x ∉ ins := by
  unfold nxtK at h
  have h1 := List.mem_of_find?_eq_some h
  have h2 := List.find?_some h
  obtain ⟨i, hi, rfl⟩ := List.mem_map.1 h1
  have hi := List.mem_range.1 hi
  exact ⟨rndK_mem (by omega), by simpa using h2⟩
theorem moreK_some {ks ins : List Int} {f : Nat} (h : (nxtK ks f ins).isSome = true) : moreK ks ins = true := by
  obtain ⟨x, hx⟩ := Option.isSome_iff_exists.1 h
  obtain ⟨h1, h2⟩ := nxtK_some hx
  exact List.any_eq_true.2 ⟨x, h1, by simpa using h2⟩
theorem moreK_iff {ks ins : List Int} {f : Nat} : (nxtK ks f ins).isSome = moreK ks ins := by
  cases h : nxtK ks f ins with
  | none => rw [moreK_none h]; rfl
  | some x => rw [moreK_some (f := f) (by rw [h]; rfl)]; rfl
/-- A sample, filled: bel tells the rank of draw u. -/
def filS (ks : List Int) (bel : Nat → Nat) : Nat → List Int → Nat → List Int × Nat
  | 0, out, u => (out, u)
  | k + 1, out, u => if out.length < 5 ∧ moreK ks out = true then filS ks bel k (out ++ [(nxtK ks (bel u) out).getD 0]) (u + 1) else (out, u)
theorem filS_stop {ks : List Int} {bel : Nat → Nat} {k u : Nat} {out : List Int} (h : ¬ (out.length < 5 ∧ moreK ks out = true)) : filS ks bel k out u = (out, u) := by
  cases k with
  | zero => rfl
  | succ k => unfold filS; rw [if_neg h]
theorem filS_step {ks : List Int} {bel : Nat → Nat} {k u : Nat} {out : List Int} (h : out.length < 5 ∧ moreK ks out = true) : filS ks bel (k + 1) out u = filS ks bel k (out ++ [(nxtK ks (bel u) out).getD 0]) (u + 1) := by
  rw [filS, if_pos h]
/-- One who is not among some is not so by less than all. -/
theorem len_sub : ∀ {a b : List Int}, a.Nodup → (∀ x ∈ a, x ∈ b) → a.length ≤ b.length
  | [], b, _, _ => Nat.zero_le _
  | x :: a, b, hn, hs => by
    have hx : x ∈ b := hs x (by simp)
    have hn2 := List.nodup_cons.1 hn
    have h1 := len_sub (a := a) (b := b.erase x) hn2.2 fun y hy => (List.mem_erase_of_ne (by rintro rfl; exact hn2.1 hy)).2 (hs y (by simp [hy]))
    have h2 := List.length_erase_of_mem hx
    have h3 : 0 < b.length := List.length_pos_of_mem hx
    simp only [List.length_cons]; omega
theorem filS_law {ks : List Int} {bel : Nat → Nat} (hks : ks.Nodup) : ∀ (k : Nat) {out : List Int} {u : Nat}, out.Nodup → (∀ x ∈ out, x ∈ ks) → out.length ≤ 5 → 5 ≤ out.length + k →
    (filS ks bel k out u).1.Nodup ∧ (∀ x ∈ (filS ks bel k out u).1, x ∈ ks) ∧ (filS ks bel k out u).1.length = min 5 ks.length ∧ out <+: (filS ks bel k out u).1 ∧ (filS ks bel k out u).2 ≤ u + k := by
  intro k
  induction k with
  | zero =>
    intro out u hn hs hl hk
    have := len_sub hn hs
    exact ⟨hn, hs, by show out.length = _; omega, List.prefix_refl _, Nat.le_refl _⟩
  | succ k ih =>
    intro out u hn hs hl hk
    by_cases h : out.length < 5 ∧ moreK ks out = true
    · rw [filS_step h]
      cases hx : nxtK ks (bel u) out with
      | none => rw [moreK_none hx] at h; exact absurd h.2 (by simp)
      | some x =>
        obtain ⟨x1, x2⟩ := nxtK_some hx
        obtain ⟨a1, a2, a3, a4, a5⟩ := ih (out := out ++ [x]) (u := u + 1) (List.nodup_append.2 ⟨hn, by simp, fun a ha b hb => by rw [List.mem_singleton.1 hb]; rintro rfl; exact x2 ha⟩) (fun y hy => by
          rcases List.mem_append.1 hy with hy | hy
          · exact hs y hy
          · rw [List.mem_singleton.1 hy]; exact x1) (by simp; omega) (by simp; omega)
        exact ⟨a1, a2, a3, List.IsPrefix.trans (List.prefix_append _ _) a4, by simp only [Option.getD_some]; omega⟩
    · rw [filS_stop h]
      refine ⟨hn, hs, ?_, List.prefix_refl _, by show u ≤ _; omega⟩
      have h1 := len_sub hn hs
      by_cases h5 : out.length < 5
      · have hm : moreK ks out = false := by
          cases hm : moreK ks out with
          | false => rfl
          | true => exact absurd ⟨h5, hm⟩ h
        have h2 : ks.length ≤ out.length := len_sub hks fun x hx => by
          have := List.any_eq_false.1 hm x hx
          simpa using this
        show out.length = _; omega
      · show out.length = _; omega
end Go.Proofs.YtajckpjlliiekaaDoor.Eng
