/- Arguments that are slices of records. -/
import Derived.Test.YtggflkjdgcdcmaaGreatDoorEngT
import Derived.ChangeSlices
import Derived.ChangeArms
import Derived.ChangeMaps5
import Derived.SliceStrings
namespace Go.Proofs.YtggflkjdgcdcmaaGreatDoor.Eng
open Go Go.RowKit Go.ChangeShapes
set_option linter.unusedVariables false
set_option linter.unusedSimpArgs false
/-! ### Records behind one another -/
theorem flat_len {α : Type} {enc : α → List Value} {c : Nat} (hl : ∀ x, (enc x).length = c) : ∀ xs : List α, (xs.flatMap enc).length = xs.length * c
  | [] => by simp
  | x :: r => by rw [List.flatMap_cons, List.length_append, hl, flat_len hl r, List.length_cons, Nat.add_mul]; omega
theorem flat_at {α : Type} {enc : α → List Value} {c : Nat} (hl : ∀ x, (enc x).length = c) : ∀ (xs : List α) (i j : Nat) (hi : i < xs.length), j < c → (xs.flatMap enc)[i * c + j]? = (enc xs[i])[j]?
  | [], i, j, hi, hj => by cases hi
  | x :: r, 0, j, hi, hj => by
    rw [List.flatMap_cons, Nat.zero_mul, Nat.zero_add, List.getElem?_append_left (by rw [hl]; exact hj)]; rfl
  | x :: r, i + 1, j, hi, hj => by
    rw [List.flatMap_cons, List.getElem?_append_right (by rw [hl, Nat.add_mul]; omega), hl, show (i + 1) * c + j - c = i * c + j by rw [Nat.add_mul]; omega]
    exact flat_at hl r i j (by simpa using hi) hj
theorem RdC.rec {α : Type} {enc : α → List Value} {c : Nat} {w : World} {q : Option Addr} {xs : List α} (hl : ∀ x, (enc x).length = c) (h : RdC w q (xs.flatMap enc)) {i : Nat} (hi : i < xs.length) (hc : 0 < c) :
    ∃ a, q = some a ∧ ∀ (i : Nat) (hi : i < xs.length) (j : Nat) (u : Value), (enc xs[i])[j]? = some u → cellAt w ((a.add (i * c)).add j) u := by
  have h0 : ∃ u, (xs.flatMap enc)[i * c + 0]? = some u := by
    rw [flat_at hl xs i 0 hi hc, List.getElem?_eq_getElem (by rw [hl]; exact hc)]
    exact ⟨_, rfl⟩
  obtain ⟨u, hu⟩ := h0
  obtain ⟨a, ha, hcell⟩ := h.addr hu
  refine ⟨a, ha, fun i hi j u hj => ?_⟩
  rw [addr_add_add]
  refine hcell _ u ?_
  have : j < c := by rw [← hl xs[i]]; exact (List.getElem?_eq_some_iff.1 hj).1
  rw [flat_at hl xs i j hi this]; exact hj
theorem cells_at {w : World} {base : Nat} {a : Addr} {n : Nat} {cs : List Value} (h : w.cells? base a n = some cs) : cs.length = n ∧ ∀ j u, cs[j]? = some u → w.cell? (a.add j) = some u := by
  obtain ⟨_, h1, h2⟩ := World.cells?_some h
  refine ⟨h1, fun j u hj => ?_⟩
  have := (List.getElem?_eq_some_iff.1 hj).1
  rw [h2 j (by omega)]; exact hj
section
variable {H : Type} {enc0 : TypeId × Value → H} {P : Program} {w : World} {base : Nat} {spare : Nat → Bool} {held : Bool}
theorem open_recs {α : Type} {t e : TypeId} {c l cap fuel : Nat} {q : Option Addr} {x : DataW H × List MemPlace} {enc : α → List Value} {ok : α → Prop} (ht : P.underlying t = some (.slice e)) (hce : P.cellsOf e = c) (hc : 0 < c) (hl : ∀ x, (enc x).length = c)
    (hel : ∀ n cs y, DataW.trod enc0 P w base spare held n e cs = some y → cs.length = c → ∃ x, cs = enc x ∧ ok x)
    (h : DataW.trod enc0 P w base spare held fuel t [.slice q l cap] = some x) :
    ∃ xs : List α, l = xs.length ∧ RdC w q (xs.flatMap enc) ∧ xs.length ≤ maxLen ∧ xs.length ≤ cap ∧ ∀ x ∈ xs, ok x := by
  rcases DataW.trod_slice ht h with ⟨h0, _⟩ | ⟨a, len, cap', elems, rest, n, _, hcs, _, _, hlc, hm, hlen, hal, _, _⟩
  · injection h0 with h0
    injection h0 with h1 h2 h3
    subst h1 h2 h3
    exact ⟨[], rfl, .inl rfl, by simp, by simp, fun x hx => by cases hx⟩
  · injection hcs with h0
    injection h0 with h1 h2 h3
    subst h1 h2 h3
    have each : ∀ i, i < l → ∃ x : α, ok x ∧ ∀ j u, (enc x)[j]? = some u → w.cell? ((a.add (i * c)).add j) = some u := by
      intro i hi
      have h1 := hal i hi
      rw [List.getElem?_eq_getElem (by omega), Option.bind_eq_some_iff] at h1
      obtain ⟨cs, hcs, hy⟩ := h1
      rw [hce] at hcs
      obtain ⟨hcl, hcc⟩ := cells_at hcs
      obtain ⟨x, rfl, hok⟩ := hel n cs _ hy hcl
      exact ⟨x, hok, hcc⟩
    have build : ∀ m, m ≤ l → ∃ xs : List α, xs.length = m ∧ (∀ x ∈ xs, ok x) ∧ ∀ (i : Nat) (hi : i < xs.length) j u, (enc xs[i])[j]? = some u → w.cell? ((a.add (i * c)).add j) = some u := by
      intro m
      induction m with
      | zero => intro _; exact ⟨[], rfl, ⟨fun x hx => (by cases hx), fun i hi j u hj => (by cases hi)⟩⟩
      | succ m ih =>
        intro hm
        obtain ⟨xs, h1, h2, h3⟩ := ih (by omega)
        obtain ⟨x, hx, hcx⟩ := each m (by omega)
        refine ⟨xs ++ [x], by simp [h1], fun y hy => ?_, fun i hi j u hj => ?_⟩
        · rcases List.mem_append.1 hy with hy | hy
          · exact h2 y hy
          · rw [List.mem_singleton.1 hy]; exact hx
        · by_cases him : i < xs.length
          · rw [List.getElem_append_left him] at hj
            exact h3 i him j u hj
          · have : i = m := by simp at hi; omega
            subst this
            rw [List.getElem_append_right (by omega)] at hj
            simp only [h1, Nat.sub_self, List.getElem_cons_zero] at hj
            exact hcx j u hj
    obtain ⟨xs, h1, h2, h3⟩ := build l (Nat.le_refl _)
    refine ⟨xs, h1.symm, .inr ⟨a, rfl, fun k u hk => ?_⟩, by omega, by omega, h2⟩
    have hlt := (List.getElem?_eq_some_iff.1 hk).1
    rw [flat_len hl] at hlt
    have hi : k / c < xs.length := Nat.div_lt_of_lt_mul (by rw [Nat.mul_comm]; exact hlt)
    have e1 : k = (k / c) * c + k % c := by rw [Nat.mul_comm]; exact (Nat.div_add_mod k c).symm
    rw [e1, flat_at hl xs _ _ hi (Nat.mod_lt _ hc)] at hk
    have := h3 _ hi _ _ hk
    rw [addr_add_add, ← e1] at this
    exact this
/-- A slice, as a value: its address, room and elements. -/
abbrev Sl (β : Type) := Option Addr × Nat × List β
def Sl.v {β : Type} (x : Sl β) : Value := .slice x.1 x.2.2.length x.2.1
/-- A field that is a whole number. -/
theorem field_int {t : TypeId} {fs : Array Field} {m : Nat} {cs : List Value} {y : DataW H × List MemPlace} {i : Nat} {f : Field} {k : IntKind} {v : Value} (ht : P.underlying t = some (.struct fs)) (hf : fs[i]? = some f) (hu : P.underlying f.type = some (.int k)) (hc : P.cellsOf f.type = 1)
    (hv : cs[f.offset]? = some v) (h : DataW.trod enc0 P w base spare held m t cs = some y) : ∃ x, v = .int k x ∧ (Lit.int k x).wf = true := by
  obtain ⟨xs, n, _, _, _, hl, hel⟩ := DataW.trod_struct ht h
  have hi : i < fs.size := by
    rcases Nat.lt_or_ge i fs.size with h | h
    · exact h
    · rw [Array.getElem?_eq_none h] at hf; cases hf
  have h1 := hel i f hf
  rw [List.getElem?_eq_getElem (by omega), hc] at h1
  have e1 : (cs.drop f.offset).take 1 = [v] := by
    have hlt := (List.getElem?_eq_some_iff.1 hv).1
    rw [List.drop_eq_getElem_cons hlt]
    have := (List.getElem?_eq_some_iff.1 hv).2
    simp [this]
  rw [e1] at h1
  obtain ⟨x, e2, _, w1⟩ := DataW.trod_int hu h1
  injection e2 with e2
  exact ⟨x, e2, w1⟩
end
end Go.Proofs.YtggflkjdgcdcmaaGreatDoor.Eng
