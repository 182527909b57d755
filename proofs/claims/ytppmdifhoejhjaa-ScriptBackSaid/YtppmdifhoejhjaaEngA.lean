/- Arguments that are slices of records. -/
import Derived.Test.YtppmdifhoejhjaaEngT
import Derived.ChangeSlices
import Derived.ChangeArms
import Derived.ChangeMaps5
import Derived.SliceStrings
namespace Go.Proofs.Ytppmdifhoejhjaa.Eng
open Go Go.RowKit Go.ChangeShapes
set_option linter.unusedVariables false
set_option linter.unusedSimpArgs false

/-! ### Records behind one another -/
theorem flat_len {α : Type} {enc : α → List Value} {c : Nat} (hl : ∀ x, (enc x).length = c) : ∀ xs : List α, (xs.flatMap enc).length = xs.length * c
  | [] => by simp
  | x :: r => by rw [List.flatMap_cons, List.length_append, hl, flat_len hl r, List.length_cons, Nat.add_mul]; omega
theorem flat_at {α : Type} {enc : α → List Value} {c : Nat} (hl : ∀ x, (enc x).length = c) : ∀ (xs : List α) (i j : Nat) (hi : i < xs.length), j < c → (xs.flatMap enc)[i * c + j]? = (enc xs[i])[j]?
  | [], i, j, hi, hj => by cases hi
  | x :: r, 0, j, hi, hj => by
    rw [List.flatMap_cons, Nat.zero_mul, Nat.zero_add, List.getElem?_append_left (by rw [hl]; exact hj)]; rfl
  | x :: r, i + 1, j, hi, hj => by
    rw [List.flatMap_cons, List.getElem?_append_right (by rw [hl, Nat.add_mul]; omega), hl, show (i + 1) * c + j - c = i * c + j by rw [Nat.add_mul]; omega]
    exact flat_at hl r i j (by simpa using hi) hj
theorem RdC.rec {α : Type} {enc : α → List Value} {c : Nat} {w : World} {q : Option Addr} {xs : List α} (hl : ∀ x, (enc x).length = c) (h : RdC w q (xs.flatMap enc)) {i : Nat} (hi : i < xs.length) (hc : 0 < c) :
    ∃ a, q = some a ∧ ∀ (i : Nat) (hi : i < xs.length) (j : Nat) (u : Value), (enc xs[i])[j]? = some u → cellAt w ((a.add (i * c)).add j) u := by
  have h0 : ∃ u, (xs.flatMap enc)[i * c + 0]? = some u := by
    rw [flat_at hl xs i 0 hi hc, List.getElem?_eq_getElem (by rw [hl]; exact hc)]
    exact ⟨_, rfl⟩
  obtain ⟨u, hu⟩ := h0
  obtain ⟨a, ha, hcell⟩ := h.addr hu
  refine ⟨a, ha, fun i hi j u hj => ?_⟩
  rw [addr_add_add]
  refine hcell _ u ?_
  have : j < c := by rw [← hl xs[i]]; exact (List.getElem?_eq_some_iff.1 hj).1
  rw [flat_at hl xs i j hi this]; exact hj
theorem cells_at {w : World} {base : Nat} {a : Addr} {n : Nat} {cs : List Value} (h : w.cells? base a n = some cs) : cs.length = n ∧ ∀ j u, cs[j]? = some u → w.cell? (a.add j) = some u := by
  obtain ⟨_, h1, h2⟩ := World.cells?_some h
  refine ⟨h1, fun j u hj => ?_⟩
  have := (List.getElem?_eq_some_iff.1 hj).1
  rw [h2 j (by omega)]; exact hj
section
variable {H : Type} {enc0 : TypeId × Value → H} {P : Program} {w : World} {base : Nat} {spare : Nat → Bool} {held : Bool}
theorem open_recs {α : Type} {t e : TypeId} {c l cap fuel : Nat} {q : Option Addr} {x : DataW H × List MemPlace} {enc : α → List Value} {ok : α → Prop} (ht : P.underlying t = some (.slice e)) (hce : P.cellsOf e = c) (hc : 0 < c) (hl : ∀ x, (enc x).length = c)
    (hel : ∀ n cs y, DataW.trod enc0 P w base spare held n e cs = some y → cs.length = c → ∃ x, cs = enc x ∧ ok x)
    (h : DataW.trod enc0 P w base spare held fuel t [.slice q l cap] = some x) :
    ∃ xs : List α, l = xs.length ∧ RdC w q (xs.flatMap enc) ∧ xs.length ≤ maxLen ∧ xs.length ≤ cap ∧ ∀ x ∈ xs, ok x := by
  rcases DataW.trod_slice ht h with ⟨h0, _⟩ | ⟨a, len, cap', elems, rest, n, _, hcs, _, _, hlc, hm, hlen, hal, _, _⟩
  · injection h0 with h0
    injection h0 with h1 h2 h3
    subst h1 h2 h3
    exact ⟨[], rfl, .inl rfl, by simp, by simp, fun x hx => by cases hx⟩
  · injection hcs with h0
    injection h0 with h1 h2 h3
    subst h1 h2 h3
    have each : ∀ i, i < l → ∃ x : α, ok x ∧ ∀ j u, (enc x)[j]? = some u → w.cell? ((a.add (i * c)).add j) = some u := by
      intro i hi
      have h1 := hal i hi
      rw [List.getElem?_eq_getElem (by omega), Option.bind_eq_some_iff] at h1
      obtain ⟨cs, hcs, hy⟩ := h1
      rw [hce] at hcs
      obtain ⟨hcl, hcc⟩ := cells_at hcs
      obtain ⟨x, rfl, hok⟩ := hel n cs _ hy hcl
      exact ⟨x, hok, hcc⟩
    have build : ∀ m, m ≤ l → ∃ xs : List α, xs.length = m ∧ (∀ x ∈ xs, ok x) ∧ ∀ (i : Nat) (hi : i < xs.length) j u, (enc xs[i])[j]? = some u → w.cell? ((a.add (i * c)).add j) = some u := by
      intro m
      induction m with
      | zero => intro _; exact ⟨[], rfl, ⟨fun x hx => (by cases hx), fun i hi j u hj => (by cases hi)⟩⟩
      | succ m ih =>
        intro hm
        obtain ⟨xs, h1, h2, h3⟩ := ih (by omega)
        obtain ⟨x, hx, hcx⟩ := each m (by omega)
        refine ⟨xs ++ [x], by simp [h1], fun y hy => ?_, fun i hi j u hj => ?_⟩
        · rcases List.mem_append.1 hy with hy | hy
          · exact h2 y hy
          · rw [List.mem_singleton.1 hy]; exact hx
        · by_cases him : i < xs.length
          · rw [List.getElem_append_left him] at hj
            exact h3 i him j u hj
          · have : i = m := by simp at hi; omega
            subst this
            rw [List.getElem_append_right (by omega)] at hj
            simp only [h1, Nat.sub_self, List.getElem_cons_zero] at hj
            exact hcx j u hj
    obtain ⟨xs, h1, h2, h3⟩ := build l (Nat.le_refl _)
    refine ⟨xs, h1.symm, .inr ⟨a, rfl, fun k u hk => ?_⟩, by omega, by omega, h2⟩
    have hlt := (List.getElem?_eq_some_iff.1 hk).1
    rw [flat_len hl] at hlt
    have hi : k / c < xs.length := Nat.div_lt_of_lt_mul (by rw [Nat.mul_comm]; exact hlt)
    have e1 : k = (k / c) * c + k % c := by rw [Nat.mul_comm]; exact (Nat.div_add_mod k c).symm
    rw [e1, flat_at hl xs _ _ hi (Nat.mod_lt _ hc)] at hk
    have := h3 _ hi _ _ hk
    rw [addr_add_add, ← e1] at this
    exact this
theorem flat_one {α : Type} {f : α → Value} : ∀ l : List α, l.flatMap (fun x => [f x]) = l.map f
  | [] => rfl
  | x :: r => by simp [flat_one r]
theorem open_strs {t e : TypeId} {l cap fuel : Nat} {q : Option Addr} {x : DataW H × List MemPlace} (ht : P.underlying t = some (.slice e)) (he : P.underlying e = some .string) (hce : P.cellsOf e = 1)
    (h : DataW.trod enc0 P w base spare held fuel t [.slice q l cap] = some x) : ∃ xs : List ByteArray, l = xs.length ∧ RdC w q (xs.map Value.string) ∧ xs.length ≤ maxLen ∧ xs.length ≤ cap := by
  obtain ⟨xs, h1, h2, h3, h4, _⟩ := open_recs (enc := fun s : ByteArray => [Value.string s]) (ok := fun _ => True) ht hce (by omega) (fun _ => rfl) (fun n cs y hy hl => by
    obtain ⟨s, rfl, _, _⟩ := DataW.trod_string he hy
    exact ⟨s, rfl, trivial⟩) h
  rw [flat_one] at h2
  exact ⟨xs, h1, h2, h3, h4⟩
theorem open_bools {t e : TypeId} {l cap fuel : Nat} {q : Option Addr} {x : DataW H × List MemPlace} (ht : P.underlying t = some (.slice e)) (he : P.underlying e = some .bool) (hce : P.cellsOf e = 1)
    (h : DataW.trod enc0 P w base spare held fuel t [.slice q l cap] = some x) : ∃ xs : List Bool, l = xs.length ∧ RdC w q (xs.map Value.bool) ∧ xs.length ≤ maxLen ∧ xs.length ≤ cap := by
  obtain ⟨xs, h1, h2, h3, h4, _⟩ := open_recs (enc := fun s : Bool => [Value.bool s]) (ok := fun _ => True) ht hce (by omega) (fun _ => rfl) (fun n cs y hy hl => by
    obtain ⟨s, rfl, _⟩ := DataW.trod_bool he hy
    exact ⟨s, rfl, trivial⟩) h
  rw [flat_one] at h2
  exact ⟨xs, h1, h2, h3, h4⟩
/-- A slice, as a value: its address, room and elements. -/
abbrev Sl (β : Type) := Option Addr × Nat × List β
def Sl.v {β : Type} (x : Sl β) : Value := .slice x.1 x.2.2.length x.2.1
theorem open_slices {β : Type} {f : List β → List Value} {ok : List β → Prop} {t e ee : TypeId} {l cap fuel : Nat} {q : Option Addr} {x : DataW H × List MemPlace} (ht : P.underlying t = some (.slice e)) (he : P.underlying e = some (.slice ee)) (hce : P.cellsOf e = 1)
    (hin : ∀ n q l cap y, DataW.trod enc0 P w base spare held n e [.slice q l cap] = some y → ∃ ys : List β, l = ys.length ∧ RdC w q (f ys) ∧ ys.length ≤ maxLen ∧ ys.length ≤ cap ∧ ok ys)
    (h : DataW.trod enc0 P w base spare held fuel t [.slice q l cap] = some x) : ∃ xs : List (Sl β), l = xs.length ∧ RdC w q (xs.map Sl.v) ∧ xs.length ≤ maxLen ∧ xs.length ≤ cap ∧ ∀ x ∈ xs, RdC w x.1 (f x.2.2) ∧ x.2.2.length ≤ maxLen ∧ x.2.2.length ≤ x.2.1 ∧ ok x.2.2 := by
  obtain ⟨xs, h1, h2, h3, h4, h5⟩ := open_recs (enc := fun s : Sl β => [Sl.v s]) (ok := fun x => RdC w x.1 (f x.2.2) ∧ x.2.2.length ≤ maxLen ∧ x.2.2.length ≤ x.2.1 ∧ ok x.2.2) ht hce (by omega) (fun _ => rfl) (fun n cs y hy hl => by
    rcases DataW.trod_slice he hy with ⟨h0, _⟩ | ⟨a, len, cap', elems, rest, m, _, hcs, _⟩
    · subst h0
      obtain ⟨ys, e1, e2, e3, e4, e5⟩ := hin _ _ _ _ _ hy
      exact ⟨(none, 0, ys), by show _ = [Value.slice none ys.length 0]; rw [← e1], e2, e3, e4, e5⟩
    · subst hcs
      obtain ⟨ys, e1, e2, e3, e4, e5⟩ := hin _ _ _ _ _ hy
      exact ⟨(some a, cap', ys), by show _ = [Value.slice (some a) ys.length cap']; rw [← e1], e2, e3, e4, e5⟩) h
  rw [flat_one] at h2
  exact ⟨xs, h1, h2, h3, h4, h5⟩
theorem open_ints' {t e : TypeId} {k : IntKind} {l cap fuel : Nat} {q : Option Addr} {x : DataW H × List MemPlace} (ht : P.underlying t = some (.slice e)) (he : P.underlying e = some (.int k)) (hce : P.cellsOf e = 1)
    (h : DataW.trod enc0 P w base spare held fuel t [.slice q l cap] = some x) : ∃ xs : List Int, l = xs.length ∧ RdC w q (cs k xs) ∧ xs.length ≤ maxLen ∧ xs.length ≤ cap ∧ ∀ x ∈ xs, (Lit.int k x).wf = true := by
  obtain ⟨xs, h1, h2, h3, h4, h5⟩ := open_recs (enc := fun s : Int => [Value.int k s]) (ok := fun s => (Lit.int k s).wf = true) ht hce (by omega) (fun _ => rfl) (fun n cs y hy hl => by
    obtain ⟨s, rfl, _, w1⟩ := DataW.trod_int he hy
    exact ⟨s, rfl, w1⟩) h
  rw [flat_one] at h2
  exact ⟨xs, h1, h2, h3, h4, h5⟩
/-- A field that is a whole number. -/
theorem field_int {t : TypeId} {fs : Array Field} {m : Nat} {cs : List Value} {y : DataW H × List MemPlace} {i : Nat} {f : Field} {k : IntKind} {v : Value} (ht : P.underlying t = some (.struct fs)) (hf : fs[i]? = some f) (hu : P.underlying f.type = some (.int k)) (hc : P.cellsOf f.type = 1)
    (hv : cs[f.offset]? = some v) (h : DataW.trod enc0 P w base spare held m t cs = some y) : ∃ x, v = .int k x ∧ (Lit.int k x).wf = true := by
  obtain ⟨xs, n, _, _, _, hl, hel⟩ := DataW.trod_struct ht h
  have hi : i < fs.size := by
    rcases Nat.lt_or_ge i fs.size with h | h
    · exact h
    · rw [Array.getElem?_eq_none h] at hf; cases hf
  have h1 := hel i f hf
  rw [List.getElem?_eq_getElem (by omega), hc] at h1
  have e1 : (cs.drop f.offset).take 1 = [v] := by
    have hlt := (List.getElem?_eq_some_iff.1 hv).1
    rw [List.drop_eq_getElem_cons hlt]
    have := (List.getElem?_eq_some_iff.1 hv).2
    simp [this]
  rw [e1] at h1
  obtain ⟨x, e2, _, w1⟩ := DataW.trod_int hu h1
  injection e2 with e2
  exact ⟨x, e2, w1⟩
theorem el2 {t : TypeId} {fs : Array Field} {m : Nat} {cs : List Value} {y : DataW H × List MemPlace} {f0 f1 : Field} {k0 k1 : IntKind} (ht : P.underlying t = some (.struct fs)) (h0 : fs[0]? = some f0) (h1 : fs[1]? = some f1)
    (o0 : f0.offset = 0) (o1 : f1.offset = 1) (u0 : P.underlying f0.type = some (.int k0)) (u1 : P.underlying f1.type = some (.int k1)) (c0 : P.cellsOf f0.type = 1) (c1 : P.cellsOf f1.type = 1) (hl : cs.length = 2)
    (h : DataW.trod enc0 P w base spare held m t cs = some y) : ∃ s : Int × Int, cs = [.int k0 s.1, .int k1 s.2] ∧ (Lit.int k0 s.1).wf = true ∧ (Lit.int k1 s.2).wf = true := by
  match cs, hl with
  | [a, b], _ =>
    obtain ⟨x, rfl, hx⟩ := field_int ht h0 u0 c0 (v := a) (by rw [o0]; rfl) h
    obtain ⟨z, rfl, hz⟩ := field_int ht h1 u1 c1 (v := b) (by rw [o1]; rfl) h
    exact ⟨(x, z), rfl, hx, hz⟩
end
end Go.Proofs.Ytppmdifhoejhjaa.Eng
