/- Joined: SamW SmlW PcW DxP SaxP WoP PcP PcQ PcR PkW PkP PkQ. -/
import Derived.Test.YtajckpjlliiekaaDoorLegA
import Derived.Test.YtajckpjlliiekaaDoorEngT
import Derived.Test.YtajckpjlliiekaaDoorTinA
import Derived.Test.YtajckpjlliiekaaDoorDicxG
import Derived.Test.YtajckpjlliiekaaDoorSmaG
import Derived.Test.YtajckpjlliiekaaDoorPlcG
import Derived.Test.YtajckpjlliiekaaDoorPckG
import Derived.Test.YtajckpjlliiekaaDoorPklG
namespace Go.Proofs.YtajckpjlliiekaaDoor.Eng
open Go Go.RowKit Go.Proofs
set_option linter.unusedVariables false
set_option linter.unusedSimpArgs false
set_option maxRecDepth 1000000
theorem find_first {p : Int → Bool} : ∀ {l : List Int} {i : Nat} (hi : i < l.length), p l[i] = true → (∀ j (hj : j < i), p (l[j]'(by omega)) = false) → l.find? p = some l[i]
  | [], i, hi, _, _ => by simp at hi
  | x :: l, 0, hi, hx, _ => by
    have hx : p x = true := hx
    show List.find? p (x :: l) = some x
    rw [List.find?_cons, hx]
  | x :: l, i + 1, hi, hx, hb => by
    have h0 : p x = false := hb 0 (by omega)
    show List.find? p (x :: l) = some (l[i]'(by simp at hi; omega))
    rw [List.find?_cons, h0]
    exact find_first (by simp at hi; omega) hx fun j hj => hb (j + 1) (by omega)
/-- Keys, round and round. -/
def rndK (ks : List Int) (f i : Nat) : Int := ks.getD ((f + i) % ks.length) 0
def nxtK (ks : List Int) (f : Nat) (ins : List Int) : Option Int := ((List.range ks.length).map (rndK ks f)).find? (fun x => decide (x ∉ ins))
theorem rndK_at {ks : List Int} {f i : Nat} (h : 0 < ks.length) : rndK ks f i = ks[(f + i) % ks.length]'(Nat.mod_lt _ h) := by
  unfold rndK
  rw [List.getD_eq_getElem?_getD, List.getElem?_eq_getElem (Nat.mod_lt _ h), Option.getD_some]
theorem rndK_mem {ks : List Int} {f i : Nat} (h : 0 < ks.length) : rndK ks f i ∈ ks := by rw [rndK_at h]; exact List.getElem_mem _
theorem rndK_hit {ks : List Int} {f : Nat} {x : Int} (hx : x ∈ ks) : ∃ i, i < ks.length ∧ rndK ks f i = x := by
  obtain ⟨j, hj, rfl⟩ := List.getElem_of_mem hx
  have hn : 0 < ks.length := by omega
  have hr := Nat.mod_lt f hn
  have hf := Nat.div_add_mod f ks.length
  obtain ⟨r, er⟩ : ∃ r, r = f % ks.length := ⟨_, rfl⟩
  rw [← er] at hr hf
  have key : ∀ i, (f + i) % ks.length = (r + i) % ks.length := fun i => by rw [er, Nat.mod_add_mod]
  have at_ : ∀ {a b : Nat} (ha : a < ks.length) (hb : b < ks.length), a = b → ks[a] = ks[b] := fun _ _ e => by subst e; rfl
  by_cases h : r ≤ j
  · refine ⟨j - r, by omega, ?_⟩
    rw [rndK_at hn]
    refine at_ _ _ ?_
    rw [key, show r + (j - r) = j by omega, Nat.mod_eq_of_lt hj]
  · refine ⟨j + ks.length - r, by omega, ?_⟩
    rw [rndK_at hn]
    refine at_ _ _ ?_
    rw [key, show r + (j + ks.length - r) = j + ks.length by omega, Nat.add_mod_right, Nat.mod_eq_of_lt hj]
theorem nxtK_at {ks ins : List Int} {f i : Nat} (hi : i < ks.length) (hx : rndK ks f i ∉ ins) (hb : ∀ j, j < i → rndK ks f j ∈ ins) : nxtK ks f ins = some (rndK ks f i) := by
  unfold nxtK
  have hl : i < ((List.range ks.length).map (rndK ks f)).length := by simpa using hi
  rw [find_first hl (by simpa using hx) (fun j hj => by simpa using hb j hj)]
  simp
theorem nxtK_none {ks ins : List Int} {f : Nat} (hb : ∀ j, j < ks.length → rndK ks f j ∈ ins) : nxtK ks f ins = none := by
  unfold nxtK
  refine List.find?_eq_none.2 fun x hx => ?_
  obtain ⟨j, hj, rfl⟩ := List.mem_map.1 hx
  simpa using hb j (List.mem_range.1 hj)
/-- Is there one that isn't among some? -/
def moreK (ks ins : List Int) : Bool := ks.any (fun x => decide (x ∉ ins))
theorem moreK_none {ks ins : List Int} {f : Nat} (h : nxtK ks f ins = none) : moreK ks ins = false := by
  unfold nxtK at h
  unfold moreK
  rw [List.any_eq_false]
  intro x hx
  obtain ⟨i, hi, rfl⟩ := rndK_hit (f := f) hx
  have := List.find?_eq_none.1 h (rndK ks f i) (List.mem_map.2 ⟨i, List.mem_range.2 hi, rfl⟩)
  simpa using this
theorem nxtK_some {ks ins : List Int} {f : Nat} {x : Int} (h : nxtK ks f ins = some x) : x ∈ ks ∧ x ∉ ins := by
  unfold nxtK at h
  have h1 := List.mem_of_find?_eq_some h
  have h2 := List.find?_some h
  obtain ⟨i, hi, rfl⟩ := List.mem_map.1 h1
  have hi := List.mem_range.1 hi
  exact ⟨rndK_mem (by omega), by simpa using h2⟩
theorem moreK_some {ks ins : List Int} {f : Nat} (h : (nxtK ks f ins).isSome = true) : moreK ks ins = true := by
  obtain ⟨x, hx⟩ := Option.isSome_iff_exists.1 h
  obtain ⟨h1, h2⟩ := nxtK_some hx
  exact List.any_eq_true.2 ⟨x, h1, by simpa using h2⟩
theorem moreK_iff {ks ins : List Int} {f : Nat} : (nxtK ks f ins).isSome = moreK ks ins := by
  cases h : nxtK ks f ins with
  | none => rw [moreK_none h]; rfl
  | some x => rw [moreK_some (f := f) (by rw [h]; rfl)]; rfl
/-- A sample, filled: bel tells the rank of draw u. -/
def filS (ks : List Int) (bel : Nat → Nat) : Nat → List Int → Nat → List Int × Nat
  | 0, out, u => (out, u)
  | k + 1, out, u => if out.length < 5 ∧ moreK ks out = true then filS ks bel k (out ++ [(nxtK ks (bel u) out).getD 0]) (u + 1) else (out, u)
theorem filS_stop {ks : List Int} {bel : Nat → Nat} {k u : Nat} {out : List Int} (h : ¬ (out.length < 5 ∧ moreK ks out = true)) : filS ks bel k out u = (out, u) := by
  cases k with
  | zero => rfl
  | succ k => unfold filS; rw [if_neg h]
theorem filS_step {ks : List Int} {bel : Nat → Nat} {k u : Nat} {out : List Int} (h : out.length < 5 ∧ moreK ks out = true) : filS ks bel (k + 1) out u = filS ks bel k (out ++ [(nxtK ks (bel u) out).getD 0]) (u + 1) := by
  rw [filS, if_pos h]
/-- One who is not among some is not so by less than all. -/
theorem len_sub : ∀ {a b : List Int}, a.Nodup → (∀ x ∈ a, x ∈ b) → a.length ≤ b.length
  | [], b, _, _ => Nat.zero_le _
  | x :: a, b, hn, hs => by
    have hx : x ∈ b := hs x (by simp)
    have hn2 := List.nodup_cons.1 hn
    have h1 := len_sub (a := a) (b := b.erase x) hn2.2 fun y hy => (List.mem_erase_of_ne (by rintro rfl; exact hn2.1 hy)).2 (hs y (by simp [hy]))
    have h2 := List.length_erase_of_mem hx
    have h3 : 0 < b.length := List.length_pos_of_mem hx
    simp only [List.length_cons]; omega
theorem filS_law {ks : List Int} {bel : Nat → Nat} (hks : ks.Nodup) : ∀ (k : Nat) {out : List Int} {u : Nat}, out.Nodup → (∀ x ∈ out, x ∈ ks) → out.length ≤ 5 → 5 ≤ out.length + k →
    (filS ks bel k out u).1.Nodup ∧ (∀ x ∈ (filS ks bel k out u).1, x ∈ ks) ∧ (filS ks bel k out u).1.length = min 5 ks.length ∧ out <+: (filS ks bel k out u).1 ∧ (filS ks bel k out u).2 ≤ u + k := by
  intro k
  induction k with
  | zero =>
    intro out u hn hs hl hk
    have := len_sub hn hs
    exact ⟨hn, hs, by show out.length = _; omega, List.prefix_refl _, Nat.le_refl _⟩
  | succ k ih =>
    intro out u hn hs hl hk
    by_cases h : out.length < 5 ∧ moreK ks out = true
    · rw [filS_step h]
      cases hx : nxtK ks (bel u) out with
      | none => rw [moreK_none hx] at h; exact absurd h.2 (by simp)
      | some x =>
        obtain ⟨x1, x2⟩ := nxtK_some hx
        obtain ⟨a1, a2, a3, a4, a5⟩ := ih (out := out ++ [x]) (u := u + 1) (List.nodup_append.2 ⟨hn, by simp, fun a ha b hb => by rw [List.mem_singleton.1 hb]; rintro rfl; exact x2 ha⟩) (fun y hy => by
          rcases List.mem_append.1 hy with hy | hy
          · exact hs y hy
          · rw [List.mem_singleton.1 hy]; exact x1) (by simp; omega) (by simp; omega)
        exact ⟨a1, a2, a3, List.IsPrefix.trans (List.prefix_append _ _) a4, by simp only [Option.getD_some]; omega⟩
    · rw [filS_stop h]
      refine ⟨hn, hs, ?_, List.prefix_refl _, by show u ≤ _; omega⟩
      have h1 := len_sub hn hs
      by_cases h5 : out.length < 5
      · have hm : moreK ks out = false := by
          cases hm : moreK ks out with
          | false => rfl
          | true => exact absurd ⟨h5, hm⟩ h
        have h2 : ks.length ≤ out.length := len_sub hks fun x hx => by
          have := List.any_eq_false.1 hm x hx
          simpa using this
        show out.length = _; omega
      · show out.length = _; omega
/-- Where the first least of the first i stands. -/
def amin (l : List Int) : Nat → Nat
  | 0 => 0
  | i + 1 => if l.getD i 0 < l.getD (amin l i) 0 then i else amin l i
theorem amin_lt (l : List Int) (h : 0 < l.length) : ∀ i, i ≤ l.length → amin l i < l.length
  | 0, _ => h
  | i + 1, hi => by
    have := amin_lt l h i (by omega)
    unfold amin; split <;> omega
/-- A row without one: the last one comes to its place. -/
def woL (l : List Int) (i : Nat) : List Int := (l.set i (l.getD (l.length - 1) 0)).take (l.length - 1)
theorem woL_len {l : List Int} {i : Nat} : (woL l i).length = l.length - 1 := by
  unfold woL; rw [List.length_take, List.length_set]; omega
theorem woL_take {l : List Int} {i k : Nat} (hk : k < l.length - 1) : (woL l i).take (k + 1) = (woL l i).take k ++ [if k = i then l.getD (l.length - 1) 0 else l.getD k 0] := by
  have hk2 : k < (woL l i).length := by rw [woL_len]; exact hk
  have e1 : (woL l i)[k]? = some (if k = i then l.getD (l.length - 1) 0 else l.getD k 0) := by
    unfold woL
    rw [List.getElem?_take, if_pos hk, List.getElem?_set]
    by_cases e : i = k
    · subst e; rw [if_pos rfl, if_pos (by omega), if_pos rfl]
    · have e' : ¬ k = i := fun h => e h.symm
      rw [if_neg e, if_neg e', List.getD_eq_getElem?_getD, List.getElem?_eq_getElem (by omega)]; rfl
  rw [List.getElem?_eq_getElem hk2] at e1
  injection e1 with e1
  rw [List.take_succ_eq_append_getElem hk2, e1]
abbrev keysP (l : LE2) : List Int := l.map (·.1)
theorem keysP_nodup {l : LE2} (h : Srt l) : (keysP l).Nodup := by
  unfold List.Nodup
  rw [List.pairwise_map]
  exact h.imp fun hlt => by omega
theorem lfind_keyP {l : LE2} {x : Int} : (lfind x l).isSome = true ↔ x ∈ keysP l := by
  constructor
  · intro h
    obtain ⟨e, he⟩ := Option.isSome_iff_exists.1 h
    obtain ⟨h1, h2⟩ := lfind_in he
    exact List.mem_map.2 ⟨e, h1, h2⟩
  · intro h
    obtain ⟨e, he, rfl⟩ := List.mem_map.1 h
    unfold lfind
    rw [List.find?_isSome]
    exact ⟨e, he, by simp⟩
theorem lgDrop_toLP {s : Lg} (h : Srt s.t.toL) (k : Int) : (lgDrop k s).t.toL = ldrop k s.t.toL := by
  unfold lgDrop
  split
  · exact tdrop_toL k s.t h
  · rename_i hf
    refine (ldrop_no fun e he hk => hf ?_).symm
    exact lfind_keyP.2 (List.mem_map.2 ⟨e, he, hk⟩)
theorem lgDrop_mostP (k : Int) (s : Lg) : (lgDrop k s).most = s.most := by unfold lgDrop; split <;> rfl
theorem keys_drop {s : Lg} (h : Srt s.t.toL) (k x : Int) : x ∈ keysP (lgDrop k s).t.toL ↔ x ∈ keysP s.t.toL ∧ x ≠ k := by
  rw [lgDrop_toLP h]
  constructor
  · intro hx
    obtain ⟨e, he, rfl⟩ := List.mem_map.1 hx
    have := List.mem_filter.1 he
    exact ⟨List.mem_map.2 ⟨e, this.1, rfl⟩, by simpa using this.2⟩
  · rintro ⟨hx, hk⟩
    obtain ⟨e, he, rfl⟩ := List.mem_map.1 hx
    exact List.mem_map.2 ⟨e, List.mem_filter.2 ⟨he, by simpa using hk⟩, rfl⟩
theorem drop_less {s : Lg} (h : Srt s.t.toL) {k : Int} (hk : k ∈ keysP s.t.toL) : (lgDrop k s).t.size < s.t.size := by
  rw [← Tr.size_toL, ← Tr.size_toL, lgDrop_toLP h]
  obtain ⟨e, he, rfl⟩ := List.mem_map.1 hk
  have h1 : ∀ {l : LE2}, e ∈ l → (ldrop e.1 l).length < l.length := by
    intro l hl
    induction l with
    | nil => cases hl
    | cons y l ih =>
      unfold ldrop at ih ⊢
      rw [List.filter_cons]
      split
      · rename_i hy
        have : e ∈ l := by
          rcases List.mem_cons.1 hl with rfl | h2
          · simp at hy
          · exact h2
        have := ih this
        simp only [List.length_cons]; omega
      · have := List.length_filter_le (fun e_1 : Int × Int => decide (e_1.1 ≠ e.1)) l
        simp only [List.length_cons]; omega
  exact h1 he
theorem nodup_inj {l : List Int} (h : l.Nodup) {i j : Nat} (hi : i < l.length) (hj : j < l.length) (he : l[i] = l[j]) : i = j := by
  have hp := List.pairwise_iff_getElem.1 h
  rcases Nat.lt_trichotomy i j with hlt | heq | hgt
  · exact absurd he (hp i j hi hj hlt)
  · exact heq
  · exact absurd he.symm (hp j i hj hi hgt)
theorem woL_at {l : List Int} {i k : Nat} (hk : k < (woL l i).length) : ∃ j, ∃ hj : j < l.length, (woL l i)[k] = l[j] ∧ (i < l.length → j ≠ i) ∧ (j = k ∨ (k = i ∧ j = l.length - 1)) := by
  have hk' : k < l.length - 1 := by rw [woL_len] at hk; exact hk
  have h1 := woL_take (i := i) hk'
  rw [List.take_succ_eq_append_getElem hk] at h1
  have h2 := List.append_cancel_left h1
  injection h2 with h2
  rw [h2]
  by_cases e : k = i
  · rw [if_pos e]
    refine ⟨l.length - 1, by omega, ?_, fun _ => by omega, .inr ⟨e, rfl⟩⟩
    rw [List.getD_eq_getElem?_getD, List.getElem?_eq_getElem (by omega)]; rfl
  · rw [if_neg e]
    refine ⟨k, by omega, ?_, fun _ => e, .inl rfl⟩
    rw [List.getD_eq_getElem?_getD, List.getElem?_eq_getElem (by omega)]; rfl
theorem woL_sub {l : List Int} (hn : l.Nodup) {i : Nat} (hi : i < l.length) : (woL l i).Nodup ∧ ∀ x ∈ woL l i, x ∈ l ∧ x ≠ l[i] := by
  constructor
  · refine List.pairwise_iff_getElem.2 fun a b ha hb hab he => ?_
    obtain ⟨j1, hj1, e1, _, c1⟩ := woL_at ha
    obtain ⟨j2, hj2, e2, _, c2⟩ := woL_at hb
    rw [e1, e2] at he
    have := nodup_inj hn hj1 hj2 he
    rw [woL_len] at ha hb
    rcases c1 with c1 | ⟨c1, d1⟩ <;> rcases c2 with c2 | ⟨c2, d2⟩ <;> omega
  · intro x hx
    obtain ⟨k, hk, rfl⟩ := List.getElem_of_mem hx
    obtain ⟨j, hj, e1, h2, _⟩ := woL_at hk
    rw [e1]
    exact ⟨List.getElem_mem hj, fun he => h2 hi (nodup_inj hn hj hi he)⟩
/-- They go, one after another. -/
def Gn : Lg → LE2 → Lg → Prop
  | s, [], s' => s' = s
  | s, v :: vs, s' => v.1 ∈ keysP s.t.toL ∧ v.2 = lval v.1 s.t.toL ∧ Gn (lgDrop v.1 s) vs s'
theorem Gn.snoc {x : Int} : ∀ {vs : LE2} {s s1 : Lg}, Gn s vs s1 → x ∈ keysP s1.t.toL → Gn s (vs ++ [(x, lval x s1.t.toL)]) (lgDrop x s1)
  | [], s, s1, h, hx => by
    have h : s1 = s := h
    subst h
    exact ⟨hx, rfl, rfl⟩
  | v :: vs, s, s1, h, hx => ⟨h.1, h.2.1, Gn.snoc h.2.2 hx⟩
theorem Gn.facts : ∀ {vs : LE2} {s s1 : Lg}, Gn s vs s1 → LgOk s → LgOk s1 ∧ s1.most = s.most ∧ s1.t.size + vs.length ≤ s.t.size ∧ ∀ x ∈ keysP s1.t.toL, x ∈ keysP s.t.toL
  | [], s, s1, h, ok => by
    have h : s1 = s := h
    subst h
    exact ⟨ok, rfl, Nat.le_refl _, fun x hx => hx⟩
  | v :: vs, s, s1, h, ok => by
    obtain ⟨h1, h2, h3⟩ := h
    obtain ⟨a1, a2, a3, a4⟩ := Gn.facts h3 ok.drop
    have hl := drop_less ok.1 h1
    refine ⟨a1, by rw [a2, lgDrop_mostP], by simp only [List.length_cons]; omega, fun x hx => ((keys_drop ok.1 v.1 x).1 (a4 x hx)).1⟩
/-- What one step of making room does. -/
def MoreR (est : Int → Int) (most : Int) (s : Lg) (vs : LE2) (b : Bool) (s' : Lg) (vs' : LE2) : Prop :=
  (b = false ∧ s' = s ∧ vs' = vs ∧ (keysP s.t.toL = [] ∨ ∃ x ∈ keysP s.t.toL, most < est x)) ∨
  (b = true ∧ ∃ x ∈ keysP s.t.toL, est x ≤ most ∧ s' = lgDrop x s ∧ vs' = vs ++ [(x, lval x s.t.toL)])
def drawI (L : List Int) (s : Int) (k : Nat) : Int := if k < L.length then IntKind.wrap .u64 (L.getD k 0) else mixI ((s + 11400714819323198485 * ((k : Int) - L.length + 1)) % 18446744073709551616)
theorem drawI_M64 (L : List Int) (s : Int) (k : Nat) : M64 (drawI L s k) := by
  unfold drawI
  split
  · exact M64.w _
  · exact mixI_M64 _
def belI (v n : Int) : Int := if n < 1 then 0 else Int.tmod v n
theorem belI_bd {v n : Int} (hv : 0 ≤ v) : 0 ≤ belI v n ∧ (1 ≤ n → belI v n < n) := by
  unfold belI
  split
  · omega
  · rw [Int.tmod_eq_emod_of_nonneg hv]
    have h1 := Int.emod_nonneg v (b := n) (by omega)
    have h2 := Int.emod_lt_of_pos v (b := n) (by omega)
    omega
theorem belI_wrap {v n : Int} (hv : 0 ≤ v) (hn : 1 ≤ n) (hn2 : n ≤ 9223372036854775807) : IntKind.wrap .i64 (Int.tmod v (IntKind.wrap .u64 n)) = belI v n := by
  rw [wU64' (n := n) (by omega) (by omega)]
  have h1 := Int.emod_nonneg v (b := n) (by omega)
  have h2 := Int.emod_lt_of_pos v (b := n) (by omega)
  rw [Int.tmod_eq_emod_of_nonneg hv, wI64 (by omega) (by omega)]
  unfold belI
  rw [if_neg (by omega), Int.tmod_eq_emod_of_nonneg hv]
/-! ### Dice -/
def dicO (g : Nat) (L : List Int) (s : Int) (u : Nat) : HP :=
  exH fun q => exH fun q0 => exH fun c0 => puH (q = slcA q0 0 L.length 1) (allH [blk g 88 [.slice q L.length L.length, .int .u64 s, .int .i64 (u : Int)], inB q0 L.length c0 L])
section
variable {e w : World} {F : List HP} {g u : Nat} {L : List Int} {s : Int} {q : Option Addr} {c : Nat}
theorem dicO.op (h : Own e w (dicO g L s u :: F)) : ∃ q q0 c0, q = slcA q0 0 L.length 1 ∧ Own e w (blk g 88 [.slice q L.length L.length, .int .u64 s, .int .i64 (u : Int)] :: inB q0 L.length c0 L :: F) := by
  obtain ⟨q, h⟩ := h.ex
  obtain ⟨q0, h⟩ := h.ex
  obtain ⟨c0, h⟩ := h.ex
  obtain ⟨hq, h⟩ := h.pu
  exact ⟨q, q0, c0, hq, h.open_⟩
theorem dicO.cl {q q0 : Option Addr} {c0 : Nat} (hq : q = slcA q0 0 L.length 1) (h : Own e w (blk g 88 [.slice q L.length L.length, .int .u64 s, .int .i64 (u : Int)] :: inB q0 L.length c0 L :: F)) : Own e w (dicO g L s u :: F) := by
  have h : Own e w ([blk g 88 [.slice q L.length L.length, .int .u64 s, .int .i64 (u : Int)], inB q0 L.length c0 L] ++ F) := h
  exact Own.mkEx q (Own.mkEx q0 (Own.mkEx c0 (Own.mkPu hq h.close_)))
theorem slc0 {q0 : Option Addr} (h : RdC w q0 (cs .i64 L)) : RdC w (slcA q0 0 L.length 1) (cs .i64 L) := by
  rcases h.slice (l := 0) (m := L.length) (z := 1) (by omega) with h1 | h1
  · rw [Nat.zero_mul, List.drop_zero] at h1; exact h1
  · left
    have : L = [] := List.eq_nil_of_length_eq_zero (by omega)
    rw [this]; rfl
theorem dcNew (h : Own e w F) (hr : ∀ w, Own e w F → RdC w q (cs .i64 L)) (hn : L.length * 8 ≤ 140737488351232) : Rets Tryd.prog 11 #[.slice q L.length c, .int .u64 s] w fun v w' => ∃ g, v = .pointer (some ⟨g, 0, none⟩) ∧ Own e w' (dicO g L s 0 :: F) := by
  refine dice_New_go _ _ _ _ (h.newR fun g w h => ?_)
  refine app64 (empty64 h) (hr _ h.drop) rfl (by omega) fun q' c' w' h => ?_
  rw [List.nil_append] at h
  simp only [Nat.zero_add] at h ⊢
  have hf := h.slFacts
  refine ⟨_, _, _, rfl, by omega, by omega, by omega, by omega, h.newR fun g w h => ⟨g, rfl, ?_⟩⟩
  rw [Int.toNat_natCast, Nat.sub_zero] at h
  exact dicO.cl rfl h
theorem dcUsed (h : Own e w (dicO g L s u :: F)) : Rets Tryd.prog 16 #[.pointer (some ⟨g, 0, none⟩)] w fun v w' => v = .int .i64 (u : Int) ∧ Own e w' (dicO g L s u :: F) := by
  refine dice_Dice_Used_go _ ⟨fun hc => (by cases hc), fun _ => ?_⟩
  obtain ⟨q, q0, c0, hq, h⟩ := dicO.op h
  exact ⟨_, (Own.ld h (by repeat (first | with_reducible exact Pick.here | apply Pick.there)) (by rfl)), rfl, dicO.cl hq h⟩
theorem drawI_low {L : List Int} {s : Int} {k : Nat} (h : k < L.length) : drawI L s k = IntKind.wrap .u64 L[k] := by
  unfold drawI
  rw [if_pos h, List.getD_eq_getElem?_getD, List.getElem?_eq_getElem h]; rfl
theorem dcAt {k : Nat} (h : Own e w (dicO g L s u :: F)) (hm : ∀ w, Own e w F → RdC w mixQ mixC) (hn : L.length * 8 ≤ 140737488351232) (hk : k ≤ 10000000) : Rets Tryd.prog 87 #[.pointer (some ⟨g, 0, none⟩), .int .i64 (k : Int)] w fun v w' => v = .int .u64 (drawI L s k) ∧ Own e w' (dicO g L s u :: F) := by
  refine dice_Dice_at_go _ _ ?_
  obtain ⟨q, q0, c0, hq, h⟩ := dicO.op h
  refine ⟨_, _, _, (Own.ld h (by repeat (first | with_reducible exact Pick.here | apply Pick.there)) (by rfl)), fun hx => ?_, fun hx => ?_⟩
  · have hx := dec_t hx
    have hk2 : k < L.length := by omega
    refine ⟨_, _, _, (Own.ld h (by repeat (first | with_reducible exact Pick.here | apply Pick.there)) (by rfl)), ?_⟩
    have hr : RdC w q (cs .i64 L) := by rw [hq]; exact slc0 (Own.rdP (T := 3) h (by repeat (first | with_reducible exact Pick.here | apply Pick.there)))
    refine ⟨by omega, by omega, RdC.int hr hk2 fun a ha => ⟨_, by rw [Int.toNat_natCast]; exact ha, ?_, dicO.cl hq h⟩⟩
    rw [drawI_low hk2]
  · have hx := dec_f hx
    refine h.drw fun w h => ⟨_, (Own.ld h (by repeat (first | with_reducible exact Pick.here | apply Pick.there)) (by rfl)), _, _, _, (Own.ld h (by repeat (first | with_reducible exact Pick.here | apply Pick.there)) (by rfl)), ?_⟩
    refine Rets.mono (mxMix h (fun w h => hm w h.drop.drop)) ?_
    rintro _ w ⟨rfl, h⟩
    refine ⟨_, rfl, ?_, dicO.cl hq h⟩
    unfold drawI
    rw [if_neg (by omega), wI64 (n := (k : Int) - L.length) (by omega) (by omega), wI64 (by omega) (by omega), wU64' (n := (k : Int) - L.length + 1) (by omega) (by omega), wU64, wU64]
    congr 2
    omega
theorem dcNext (h : Own e w (dicO g L s u :: F)) (hm : ∀ w, Own e w F → RdC w mixQ mixC) (hn : L.length * 8 ≤ 140737488351232) (hu : u ≤ 10000) : Rets Tryd.prog 68 #[.pointer (some ⟨g, 0, none⟩)] w fun v w' => v = .int .u64 (drawI L s u) ∧ Own e w' (dicO g L s (u + 1) :: F) := by
  refine dice_Dice_Next_go _ ⟨fun hc => (by cases hc), fun _ => ?_⟩
  obtain ⟨q, q0, c0, hq, h⟩ := dicO.op h
  refine ⟨_, (Own.ld h (by repeat (first | with_reducible exact Pick.here | apply Pick.there)) (by rfl)), ?_⟩
  refine Rets.mono (dcAt (dicO.cl hq h) hm hn (by omega)) ?_
  rintro _ w ⟨rfl, h⟩
  obtain ⟨q, q0, c0, hq, h⟩ := dicO.op h
  refine ⟨_, rfl, _, (Own.ld h (by repeat (first | with_reducible exact Pick.here | apply Pick.there)) (by rfl)), Own.stP h (by repeat (first | with_reducible exact Pick.here | apply Pick.there)) (by simp) (by simp [Value.oneCell']) fun w h => ⟨rfl, ?_⟩⟩
  simp only [setFrom, List.set_cons_zero, List.set_cons_succ, List.set_nil] at h
  rw [wI64 (by omega) (by omega)] at h
  exact dicO.cl hq h
theorem dcBelow {n : Int} (h : Own e w (dicO g L s u :: F)) (hm : ∀ w, Own e w F → RdC w mixQ mixC) (hn : L.length * 8 ≤ 140737488351232) (hu : u ≤ 10000) (hb : n ≤ 9223372036854775807) : Rets Tryd.prog 45 #[.pointer (some ⟨g, 0, none⟩), .int .i64 n] w fun v w' => v = .int .i64 (belI (drawI L s u) n) ∧ Own e w' (dicO g L s (if n < 1 then u else u + 1) :: F) := by
  refine dice_Dice_Below_go _ _ ⟨fun hx => ?_, fun hx => ?_⟩
  · have hx := dec_t hx
    rw [if_pos hx]
    unfold belI; rw [if_pos hx]; exact ⟨rfl, h⟩
  · have hx := dec_f hx
    rw [if_neg hx]
    refine Rets.mono (dcNext h hm hn hu) ?_
    rintro _ w ⟨rfl, h⟩
    refine ⟨_, rfl, by rw [wU64' (by omega) (by omega)]; omega, ?_, h⟩
    rw [belI_wrap (drawI_M64 _ _ _).1 (by omega) hb]
end
abbrev sl64 (q : Option Addr) (n c : Nat) (xs : List Int) : HP := slO 32 1 q n c (cs .u64 xs)
abbrev keysL (l : LE2) : List Int := l.map (·.1)
section
variable {e w : World} {F : List HP} {h0 : Nat → Option Obj} {q q2 : Option Addr} {c c2 n m g gt : Nat} {xs ys ins : List Int} {k x : Int} {t : Tr} {used most : Int}
theorem uapp {K : Value → World → Prop} (h : Own e w (sl64 q n c xs :: F)) (hr : RdC w q2 (cs .u64 ys)) (hl : ys.length = m) (hn : n + m ≤ 1000000)
    (hk : ∀ q' c' w', Own e w' (sl64 q' (n + m) c' (xs ++ ys) :: F) → K (.slice q' (n + m) c') w') :
    RunR Tryd.prog (builtinV .append #[22, 22] 22 #[.slice q n c, .slice q2 m c2]) w K := by
  refine Own.append (z := [.int .u64 0]) (b := 8) (news := cs .u64 ys) h (by kernel_rfl) (by kernel_rfl) (by kernel_rfl) (by kernel_rfl) (by kernel_rfl) (by omega) hr ?_ (cs_one _ _) ?_ (by omega) ?_
  · rw [cs_len, hl]; omega
  · unfold maxLen; omega
  · intro q' c' w' h _
    rw [← cs_app] at h
    exact hk q' c' w' h
theorem uput {K : Value → World → Prop} {g : Nat} (h : Own e w (blk g 32 [.int .u64 x] :: sl64 q xs.length c xs :: F)) (hn : xs.length ≤ 100000)
    (hk : ∀ q' c' w', Own e w' (sl64 q' (xs ++ [x]).length c' (xs ++ [x]) :: F) → K (.slice q' (xs ++ [x]).length c') w') :
    RunR Tryd.prog (builtinV .append #[22, 22] 22 #[.slice q xs.length c, .slice (some ⟨g, 0, none⟩) 1 c2]) w K := by
  have h1 : Own e w (blk g 32 (cs .u64 [x]) :: sl64 q xs.length c xs :: F) := h
  refine uapp (ys := [x]) h.swap h1.blkRd rfl (by omega) fun q' c' w' h => ?_
  have el : (xs ++ [x]).length = xs.length + 1 := by simp
  have := hk q' c' w' (by rw [el]; exact h.swap.drop)
  rwa [el] at this
theorem uempty {g : Nat} (h : Own e w (blk g 32 [] :: F)) : Own e w (sl64 (some ⟨g, 0, none⟩) 0 0 [] :: F) := Own.slMk (rest := []) (by rfl) (by omega) (by omega) (by rfl) h
theorem uClone (h : Own e w F) (hr : ∀ w, Own e w F → RdC w q (cs .u64 xs)) (hn : xs.length ≤ 1000) :
    Rets Tryd.prog 43 #[.slice q xs.length c] w fun v w' => ∃ q' c', v = .slice q' xs.length c' ∧ Own e w' (sl64 q' xs.length c' xs :: F) := by
  refine clone64_go _ _ _ ⟨fun hc => ?_, fun hc => ?_⟩
  · cases q with
    | some a => cases hc
    | none =>
      have hb : xs = [] := by
        rcases hr w h with hr | ⟨a, ha, _⟩
        · simpa [cs] using hr
        · cases ha
      subst hb
      exact ⟨_, _, rfl, h.slNil⟩
  · refine h.newR fun g w1 h => ?_
    refine uapp (uempty h) (hr _ h.drop) rfl (by omega) fun q' c' w' h => ?_
    rw [List.nil_append] at h
    simp only [Nat.zero_add] at h ⊢
    exact ⟨_, _, _, rfl, _, _, rfl, h⟩
theorem uContains (h : Own e w F) (hr : ∀ w, Own e w F → RdC w q (cs .u64 ins)) (hn : ins.length ≤ 1000) :
    Rets Tryd.prog 67 #[.slice q ins.length c, .int .u64 k] w fun v w' => v = .bool (decide (k ∈ ins)) ∧ Own e w' F := by
  have hI : Rets Tryd.prog 86 #[.slice q ins.length c, .int .u64 k] w fun v w' => ∃ r : Int, v = .int .i64 r ∧ (0 ≤ r ↔ k ∈ ins) ∧ Own e w' F := by
    refine index64_go _ _ _ _ ⟨fun z vs w => ∃ i : Nat, vs = [.int .i64 (i : Int)] ∧ z + i = ins.length ∧ k ∉ ins.take i ∧ Own e w F, ⟨ins.length, 0, rfl, rfl, by simp, h⟩, ?_⟩
    clear h
    intro z w
    intros
    rename_i hI2
    obtain ⟨i, hvs, hz, hno, h⟩ := hI2
    simp at hvs
    subst hvs
    refine ⟨fun hc => ?_, fun hc => ?_⟩
    · have hc := dec_t hc
      have hi : i < ins.length := by omega
      have et : ins.take (i + 1) = ins.take i ++ [ins[i]] := List.take_succ_eq_append_getElem hi
      refine ⟨by omega, by omega, (hr w h).int hi fun a ha => ⟨_, by rw [Int.toNat_natCast]; exact ha, fun hq => ?_, fun hq => ?_⟩⟩
      · have hq := beq_t hq
        exact ⟨_, rfl, ⟨fun _ => by rw [hq]; exact List.getElem_mem hi, fun _ => by omega⟩, h⟩
      · have hq := beq_f hq
        refine ⟨z - 1, by omega, i + 1, by rw [wI64 (by omega) (by omega)]; rfl, by omega, ?_, h⟩
        rw [et, List.mem_append, List.mem_singleton]
        exact fun hh => hh.elim hno hq
    · have hc := dec_f hc
      obtain rfl : i = ins.length := by omega
      rw [List.take_length] at hno
      exact ⟨_, rfl, ⟨fun hh => absurd hh (by decide), fun hh => absurd hh hno⟩, h⟩
  refine contains64_go _ _ _ _ ?_
  refine Rets.mono hI ?_
  rintro _ w ⟨r, rfl, hr2, h⟩
  refine ⟨_, rfl, ?_, h⟩
  have : decide (r ≥ 0) = decide (k ∈ ins) := decide_eq_decide.2 hr2
  rw [this]
theorem uAmong (h : Own e w F) (hr : ∀ w, Own e w F → RdC w q (cs .u64 ins)) (hn : ins.length ≤ 1000) :
    Rets Tryd.prog 13 #[.slice q ins.length c, .int .u64 k] w fun v w' => v = .bool (decide (k ∈ ins)) ∧ Own e w' F := by
  refine cortadoref25_Among_go _ _ _ _ ⟨fun z vs w => ∃ i : Nat, vs = [.int .i64 (i : Int)] ∧ z + i = ins.length ∧ k ∉ ins.take i ∧ Own e w F, ⟨ins.length, 0, rfl, rfl, by simp, h⟩, ?_⟩
  clear h
  intro z w
  intros
  rename_i hI2
  obtain ⟨i, hvs, hz, hno, h⟩ := hI2
  simp at hvs
  subst hvs
  refine ⟨fun hc => ?_, fun hc => ?_⟩
  · have hc := dec_t hc
    have hi : i < ins.length := by omega
    have et : ins.take (i + 1) = ins.take i ++ [ins[i]] := List.take_succ_eq_append_getElem hi
    refine ⟨by omega, by omega, (hr w h).int hi fun a ha => ⟨_, by rw [Int.toNat_natCast]; exact ha, fun hq => ?_, fun hq => ?_⟩⟩
    · have hq := beq_t hq
      exact ⟨by rw [decide_eq_true (by rw [← hq]; exact List.getElem_mem hi)], h⟩
    · have hq := beq_f hq
      refine ⟨z - 1, by omega, i + 1, by rw [wI64 (by omega) (by omega)]; rfl, by omega, ?_, h⟩
      rw [et, List.mem_append, List.mem_singleton]
      exact fun hh => hh.elim hno (fun e => hq e.symm)
  · have hc := dec_f hc
    obtain rfl : i = ins.length := by omega
    rw [List.take_length] at hno
    exact ⟨by rw [decide_eq_false hno], h⟩
theorem uSame (h : Own e w F) (hr : ∀ w, Own e w F → RdC w q (cs .u64 xs)) (hr2 : ∀ w, Own e w F → RdC w q2 (cs .u64 xs)) (hn : xs.length ≤ 1000) :
    Rets Tryd.prog 14 #[.slice q xs.length c, .slice q2 xs.length c2] w fun v w' => v = .bool true ∧ Own e w' F := by
  refine cortadoref25_Same_go _ _ _ _ _ _ ⟨fun hc => (by simp at hc), fun _ => ⟨fun z vs w => ∃ i : Nat, vs = [.int .i64 (i : Int)] ∧ z + i = xs.length ∧ Own e w F, ⟨xs.length, 0, rfl, rfl, h⟩, ?_⟩⟩
  clear h
  intro z w
  intros
  rename_i hI2
  obtain ⟨i, hvs, hz, h⟩ := hI2
  simp at hvs
  subst hvs
  refine ⟨fun hc => ?_, fun hc => ⟨rfl, h⟩⟩
  have hc := dec_t hc
  have hi : i < xs.length := by omega
  refine h.drw fun w h => ⟨by omega, by omega, (hr w h).int hi fun a ha => ⟨by omega, by omega, (hr2 w h).int hi fun a2 ha2 => ⟨_, by rw [Int.toNat_natCast]; exact ha, _, by rw [Int.toNat_natCast]; exact ha2, fun hq => (by simp at hq), fun _ => ⟨z - 1, by omega, i + 1, by rw [wI64 (by omega) (by omega)]; rfl, by omega, h⟩⟩⟩⟩
theorem snx {f : Nat} (hT : TreeA h0 t gt) (hs : t.size ≤ 700) (hf : f ≤ 1000) (hn : ins.length ≤ 1000) (hr : ∀ w, Own e w (imm h0 :: ldB g gt used most :: F) → RdC w q (cs .u64 ins)) (h : Own e w (imm h0 :: ldB g gt used most :: F)) :
    Rets Tryd.prog 44 #[.pointer (some ⟨g, 0, none⟩), .int .i64 (f : Int), .slice q ins.length c] w fun v w' => v = .tuple #[.int .u64 ((nxtK (keysL t.toL) f ins).getD 0), .bool (nxtK (keysL t.toL) f ins).isSome] ∧ Own e w' (imm h0 :: ldB g gt used most :: F) := by
  have hsz := Tr.size_toL t
  have hkl : (keysL t.toL).length = t.size := by rw [List.length_map, hsz]
  refine sample_next_go _ _ _ _ _ ?_
  refine Rets.mono (ldLen hT h) ?_
  clear h
  rintro _ w ⟨rfl, h⟩
  refine ⟨_, rfl, fun z vs w => ∃ i : Nat, vs = [.int .i64 (i : Int)] ∧ z + i = t.size ∧ (∀ j, j < i → rndK (keysL t.toL) f j ∈ ins) ∧ Own e w (imm h0 :: ldB g gt used most :: F), ⟨t.size, 0, rfl, rfl, fun j hj => absurd hj (by omega), h⟩, ?_⟩
  clear h
  intro z w
  intros
  rename_i hI2
  obtain ⟨i, hvs, hz, hno, h⟩ := hI2
  simp at hvs
  subst hvs
  refine ⟨fun hc => ?_, fun hc => ?_⟩
  · have hc := dec_t hc
    have hi : i < t.size := by omega
    have em : Int.tmod (IntKind.wrap .i64 ((f : Int) + (i : Int))) (t.size : Int) = (((f + i) % t.size : Nat) : Int) := by
      rw [wI64 (by omega) (by omega), show (f : Int) + (i : Int) = ((f + i : Nat) : Int) by omega, Int.tmod_eq_emod_of_nonneg (by omega), Int.natCast_emod]
    have hlt : (f + i) % t.size < t.size := Nat.mod_lt _ (by omega)
    have eK : ((t.toL[(f + i) % t.size]?).getD (0, 0)).1 = rndK (keysL t.toL) f i := by
      unfold rndK
      rw [hkl, List.getD_eq_getElem?_getD, List.getElem?_map]
      rw [List.getElem?_eq_getElem (by omega)]; rfl
    refine ⟨by omega, ?_⟩
    rw [em]
    refine Rets.mono (ldAt hT hs (by omega) h) ?_
    clear h
    rintro _ w ⟨rfl, h⟩
    rw [eK]
    refine ⟨_, _, rfl, ?_⟩
    refine Rets.mono (uContains h hr hn) ?_
    clear h
    rintro _ w ⟨rfl, h⟩
    refine ⟨_, rfl, fun hq => ?_, fun hq => ?_⟩
    · have hq : rndK (keysL t.toL) f i ∉ ins := by simpa using hq
      rw [nxtK_at (by omega) hq hno]
      exact ⟨rfl, h⟩
    · have hq : rndK (keysL t.toL) f i ∈ ins := by simpa using hq
      refine ⟨z - 1, by omega, i + 1, by rw [wI64 (by omega) (by omega)]; rfl, by omega, fun j hj => ?_, h⟩
      by_cases e1 : j = i
      · rw [e1]; exact hq
      · exact hno j (by omega)
  · have hc := dec_f hc
    rw [nxtK_none (fun j hj => hno j (by omega))]
    exact ⟨rfl, h⟩
/-- The rank that a draw tells. -/
def belN (D : List Int) (s : Int) (n u : Nat) : Nat := (belI (drawI D s u) (n : Int)).toNat
theorem belN_int (D : List Int) (s : Int) (n u : Nat) : ((belN D s n u : Nat) : Int) = belI (drawI D s u) (n : Int) := by
  have := (belI_bd (v := drawI D s u) (n := (n : Int)) (drawI_M64 D s u).1).1
  unfold belN; omega
theorem belN_lt (D : List Int) (s : Int) {n : Nat} (u : Nat) (h : 1 ≤ n) : belN D s n u < n := by
  have h1 := belN_int D s n u
  have h2 := (belI_bd (v := drawI D s u) (n := (n : Int)) (drawI_M64 D s u).1).2 (by omega)
  omega
abbrev outS (D : List Int) (s : Int) (ks ins : List Int) (u : Nat) : List Int × Nat := filS ks (belN D s ks.length) 5 ins u
theorem smFill {D : List Int} {s : Int} {gd u : Nat} (hT : TreeA h0 t gt) (hs : t.size ≤ 700) (hn : ins.length ≤ 900) (hu : u ≤ 9000) (hD : D.length * 8 ≤ 140737488351232)
    (hm : ∀ w F, Own e w (imm h0 :: F) → RdC w mixQ mixC) (hr : ∀ w F, Own e w (imm h0 :: F) → RdC w q (cs .u64 ins)) (h : Own e w (imm h0 :: ldB g gt used most :: dicO gd D s u :: F)) :
    Rets Tryd.prog 10 #[.pointer (some ⟨g, 0, none⟩), .slice q ins.length c, .pointer (some ⟨gd, 0, none⟩)] w fun v w' => ∃ q' c', v = .slice q' (outS D s (keysL t.toL) ins u).1.length c' ∧ Own e w' (sl64 q' (outS D s (keysL t.toL) ins u).1.length c' (outS D s (keysL t.toL) ins u).1 :: imm h0 :: ldB g gt used most :: dicO gd D s (outS D s (keysL t.toL) ins u).2 :: F) := by
  have hsz := Tr.size_toL t
  have hkl : (keysL t.toL).length = t.size := by rw [List.length_map, hsz]
  obtain ⟨R, hR⟩ : ∃ R, R = outS D s (keysL t.toL) ins u := ⟨_, rfl⟩
  rw [← hR]
  refine sample_Fill_go _ _ _ _ _ ?_
  refine Rets.mono (uClone h (fun w h => hr w _ h) (by omega)) ?_
  clear h
  rintro _ w ⟨q0, c0, rfl, h⟩
  refine ⟨_, _, _, rfl, fun z vs w => ∃ (out : List Int) (v : Nat) (q' : Option Addr) (c' : Nat), vs = [.slice q' out.length c'] ∧ filS (keysL t.toL) (belN D s (keysL t.toL).length) z out v = R ∧ 5 ≤ out.length + z ∧ out.length ≤ 905 ∧ v + z ≤ 9005 ∧ Own e w (sl64 q' out.length c' out :: imm h0 :: ldB g gt used most :: dicO gd D s v :: F), ⟨5, ins, u, q0, c0, rfl, hR.symm, by omega, by omega, by omega, h⟩, ?_⟩
  clear h
  rintro z w qz k5 k6
  intros
  rename_i hI2
  obtain ⟨out, v, q1, c1, hvs, hfil, h5, hol, hv, h⟩ := hI2
  obtain ⟨rfl, rfl, rfl⟩ : qz = q1 ∧ k5 = out.length ∧ k6 = c1 := by simpa using hvs
  have nx := fun (w : World) (f : Nat) (hf : f ≤ 1000) (h : Own e w (sl64 qz out.length k6 out :: imm h0 :: ldB g gt used most :: dicO gd D s v :: F)) =>
    snx (c := k6) (f := f) (F := sl64 qz out.length k6 out :: dicO gd D s v :: F) hT hs hf (show out.length ≤ 1000 by omega) (fun w (h : Own e w _) => Own.rdP (T := 32) h (by repeat (first | with_reducible exact Pick.here | apply Pick.there))) ((Own.sub (h) (by repeat (first | with_reducible exact Sub.nil _ | with_reducible exact Sub.rfl _ | (apply Sub.cons; focus ((repeat (first | with_reducible exact Pick.here | apply Pick.there)); done)) | apply Sub.drop))))
  refine ⟨fun hc => ?_, fun hc => ?_⟩
  · have hc := dec_t hc
    refine Rets.mono (nx w 0 (by omega) h) ?_
    clear h
    rintro _ w ⟨rfl, h⟩
    refine ⟨_, _, rfl, fun hq => ?_, fun hq => ?_⟩
    · have hq : (nxtK (keysL t.toL) 0 out) = none := by simpa using hq
      have hm2 := moreK_none hq
      rw [filS_stop (by rw [hm2]; simp)] at hfil
      rw [← hfil]
      exact ⟨_, _, rfl, (Own.sub (h) (by repeat (first | with_reducible exact Sub.nil _ | with_reducible exact Sub.rfl _ | (apply Sub.cons; focus ((repeat (first | with_reducible exact Pick.here | apply Pick.there)); done)) | apply Sub.drop)))⟩
    · have hq : (nxtK (keysL t.toL) 0 out).isSome = true := by simpa using hq
      have hm2 := moreK_some hq
      have hne : 1 ≤ t.size := by
        obtain ⟨x, hx, _⟩ := List.any_eq_true.1 hm2
        have := List.length_pos_of_mem hx
        omega
      refine Rets.mono (ldLen hT h) ?_
      clear h
      rintro _ w ⟨rfl, h⟩
      have h : Own e w (dicO gd D s v :: imm h0 :: ldB g gt used most :: sl64 qz out.length k6 out :: F) := (Own.sub (h) (by repeat (first | with_reducible exact Sub.nil _ | with_reducible exact Sub.rfl _ | (apply Sub.cons; focus ((repeat (first | with_reducible exact Pick.here | apply Pick.there)); done)) | apply Sub.drop)))
      refine ⟨_, rfl, ?_⟩
      refine Rets.mono (dcBelow (n := (t.size : Int)) h (fun w h => hm w _ h) hD (by omega) (by omega)) ?_
      clear h
      rintro _ w ⟨rfl, h⟩
      rw [if_neg (by omega)] at h
      have eb := belN_int D s t.size v
      have elt := belN_lt D s (n := t.size) v hne
      obtain ⟨B, hB⟩ : ∃ B, B = belN D s t.size v := ⟨_, rfl⟩
      rw [← hB] at eb elt
      rw [← eb]
      refine ⟨_, rfl, ?_⟩
      refine Rets.mono (snx (c := k6) (f := B) (F := sl64 qz out.length k6 out :: dicO gd D s (v + 1) :: F) hT hs (by omega) (show out.length ≤ 1000 by omega) (fun w (h : Own e w _) => Own.rdP (T := 32) h (by repeat (first | with_reducible exact Pick.here | apply Pick.there))) ((Own.sub (h) (by repeat (first | with_reducible exact Sub.nil _ | with_reducible exact Sub.rfl _ | (apply Sub.cons; focus ((repeat (first | with_reducible exact Pick.here | apply Pick.there)); done)) | apply Sub.drop))))) ?_
      clear h
      rintro _ w ⟨rfl, h⟩
      obtain ⟨z', rfl⟩ : ∃ z', z = z' + 1 := ⟨z - 1, by omega⟩
      rw [filS_step ⟨by omega, hm2⟩, hkl, ← hB] at hfil
      obtain ⟨X, hX⟩ : ∃ X, X = (nxtK (keysL t.toL) B out).getD 0 := ⟨_, rfl⟩
      rw [← hX] at hfil ⊢
      refine ⟨_, _, rfl, h.newR fun ge w h => ?_⟩
      have h : Own e w (blk ge 32 [.int .u64 X] :: sl64 qz out.length k6 out :: imm h0 :: ldB g gt used most :: dicO gd D s (v + 1) :: F) := (Own.sub (h) (by repeat (first | with_reducible exact Sub.nil _ | with_reducible exact Sub.rfl _ | (apply Sub.cons; focus ((repeat (first | with_reducible exact Pick.here | apply Pick.there)); done)) | apply Sub.drop)))
      refine uput h (by omega) fun q3 c3 w h => ⟨_, _, _, rfl, z', by omega, out ++ [X], v + 1, q3, c3, rfl, by rw [hkl]; exact hfil, by simp; omega, by simp; omega, by omega, h⟩
  · have hc := dec_f hc
    rw [filS_stop (by omega)] at hfil
    rw [← hfil]
    exact ⟨_, _, rfl, h⟩
end
theorem slcA0s (q : Option Addr) (c z : Nat) : slcA q 0 c z = q := by
  unfold slcA
  split
  · rfl
  · cases q with
    | none => rfl
    | some a =>
      show some (a.add (0 * z)) = some a
      rw [Nat.zero_mul]; rfl
def woZ (l : List Int) (i : Int) : List Int := if i < 0 ∨ (l.length : Int) ≤ i then l else woL l i.toNat
section
variable {e w : World} {F : List HP} {h0 : Nat → Option Obj} {q : Option Addr} {c : Nat} {ins : List Int} {i : Int}
abbrev WO (e : World) (F : List HP) (h0 : Nat → Option Obj) (l : List Int) (v : Value) (w' : World) : Prop := ∃ (h1 : Nat → Option Obj) (q' : Option Addr) (c' : Nat), v = .slice q' l.length c' ∧ LeH h0 h1 ∧ ImR h1 q' (cs .u64 l) ∧ Own e w' (imm h1 :: F)
theorem uWo (hn : ins.length ≤ 900) (hr : ImR h0 q (cs .u64 ins)) (hi : -9223372036854775808 ≤ i ∧ i ≤ 9223372036854775807) (h : Own e w (imm h0 :: F)) : Rets Tryd.prog 20 #[.slice q ins.length c, .int .i64 i] w (WO e F h0 (woZ ins i)) := by
  refine sample_Without_go _ _ _ _ ⟨fun vs w => vs = [.bool (decide (i < 0 ∨ (ins.length : Int) ≤ i))] ∧ Own e w (imm h0 :: F), ⟨fun hq => ⟨?_, h⟩, fun hq => ⟨?_, h⟩⟩, ?_⟩
  · have hq := dec_f hq
    have : decide (i ≥ (ins.length : Int)) = decide (i < 0 ∨ (ins.length : Int) ≤ i) := by rw [decide_eq_decide]; omega
    rw [this]
  · have hq := dec_t hq
    rw [decide_eq_true (by omega)]
  clear h
  rintro w
  intros
  rename_i b1 hI
  obtain ⟨hvs, h⟩ := hI
  obtain rfl : b1 = decide (i < 0 ∨ (ins.length : Int) ≤ i) := by simpa using hvs
  unfold woZ
  refine ⟨fun hq => ?_, fun hq => ?_⟩
  · have hq := of_decide_eq_true hq
    rw [if_pos hq]
    exact ⟨h0, _, _, rfl, LeH.refl _, hr, h⟩
  · have hq := of_decide_eq_false hq
    rw [if_neg hq]
    refine Rets.mono (uClone h (fun w h => hr _ _ _ h) (by omega)) ?_
    clear h
    rintro _ w ⟨q1, c1, rfl, h⟩
    have hf := h.slFacts
    have hl1 : ins.length - 1 < ins.length := by omega
    have hit : i.toNat < ins.length := by omega
    have e1 : IntKind.wrap .i64 ((ins.length : Int) - 1) = ((ins.length - 1 : Nat) : Int) := by rw [wI64 (by omega) (by omega)]; omega
    refine ⟨_, _, _, rfl, ?_⟩
    rw [e1]
    have hlast : ins.getD (ins.length - 1) 0 = ins[ins.length - 1] := by rw [List.getD_eq_getElem?_getD, List.getElem?_eq_getElem hl1]; rfl
    refine ⟨by omega, by omega, h.slRd.int hl1 fun a1 ha1 => ⟨_, by rw [Int.toNat_natCast]; exact ha1, by omega, by omega, ?_⟩⟩
    rw [Nat.mul_one]
    refine h.slStore (i := i.toNat) (us := [.int .u64 ins[ins.length - 1]]) (by simp [cs]; omega) (by simp) (by simp [Value.oneCell']) fun w h => ⟨by omega, by omega, ?_⟩
    have es : setFrom (cs .u64 ins) i.toNat [.int .u64 ins[ins.length - 1]] = cs .u64 (ins.set i.toNat (ins.getD (ins.length - 1) 0)) := by
      rw [hlast]; simp [setFrom, cs, List.map_set]
    rw [es] at h
    obtain ⟨h1, le1, hI, _, h⟩ := h.slImm
    refine ⟨h1, slcA q1 0 c1 1, c1 - 0, ?_, le1, ?_, h⟩
    · rw [woL_len, Int.toNat_natCast, Nat.sub_zero]
    · intro e w F h
      rw [slcA0s]
      have := (hI e w F h).take (ins.length - 1)
      rwa [show (cs .u64 (ins.set i.toNat (ins.getD (ins.length - 1) 0))).take (ins.length - 1) = cs .u64 (woL ins i.toNat) by simp [cs, woL]] at this
end
/-- How often a key is thought to come. -/
def esT (sd : Int) (m md : Nat) (ts : Ts) (x : Int) : Int := ((esN sd (2 ^ m) (2 ^ md) ts.R ts.ws x : Nat) : Int)
abbrev rmB (gr gp : Nat) (pd qi : Option Addr) (ni ci : Nat) (qg : Option Addr) (ng cg : Nat) : HP := blk gr 99 [.pointer (some ⟨gp, 0, none⟩), .pointer pd, .slice qi ni ci, .slice qg ng cg]
abbrev vcO (qg : Option Addr) (cg : Nat) (vs : LE2) : HP := slO 73 2 qg vs.length cg (E24 vs)
section
variable {e w : World} {F : List HP} {h0 : Nat → Option Obj} {q qi qg : Option Addr} {c ci cg gr gp gl gt gd gtr m md u : Nat} {ins D : List Int} {sd lim s2 most n k : Int} {ts : Ts} {s : Lg} {vs : LE2}
theorem lEst (hx : ins.length ≤ 1000) (hm1 : ∀ w F, Own e w (imm h0 :: F) → RdC w mixQ mixC) (hm2 : ∀ w F, Own e w (imm h0 :: F) → RdC w twiQ twiC) (hri : ∀ w F, Own e w (imm h0 :: F) → RdC w q (cs .u64 ins)) (h : Own e w (imm h0 :: tinT gt m md sd lim ts :: F)) :
    Rets Tryd.prog 17 #[.slice q ins.length c, .func (.func 53) #[.pointer (some ⟨gt, 0, none⟩)] #[]] w fun v w' => v = .tuple #[.int .i64 (amin (ins.map (esT sd m md ts)) ins.length : Nat), .int .i64 ((ins.map (esT sd m md ts)).getD (amin (ins.map (esT sd m md ts)) ins.length) 0), .bool (decide (0 < ins.length))] ∧ Own e w' (imm h0 :: tinT gt m md sd lim ts :: F) := by
  obtain ⟨l, hl⟩ : ∃ l, l = ins.map (esT sd m md ts) := ⟨_, rfl⟩
  have hll : l.length = ins.length := by rw [hl, List.length_map]
  have hld : ∀ {k : Nat} (hk : k < ins.length), l.getD k 0 = esT sd m md ts ins[k] := fun hk => by rw [hl, List.getD_eq_getElem?_getD, List.getElem?_map, List.getElem?_eq_getElem hk]; rfl
  have est : ∀ (x : Int) (w : World), Own e w (imm h0 :: tinT gt m md sd lim ts :: F) → Rets Tryd.prog 53 #[.pointer (some ⟨gt, 0, none⟩), .int .u64 x] w fun v w' => v = .int .i64 (esT sd m md ts x) ∧ Own e w' (imm h0 :: tinT gt m md sd lim ts :: F) := fun x w h => by
    refine Rets.mono (tEst (hh := x) (fun w h => hm1 w _ h) (fun w h => hm2 w _ h) h.swap) ?_
    rintro _ w ⟨rfl, h⟩
    exact ⟨rfl, h.swap⟩
  rw [← hl]
  refine least_est_go _ _ _ _ ⟨fun _ => ⟨fun hz => ?_, fun hz => ?_⟩, fun hc => (by cases hc)⟩
  · have hz : ins.length = 0 := by simpa using hz
    have : l = [] := List.eq_nil_of_length_eq_zero (by omega)
    rw [this, hz]; exact ⟨rfl, h⟩
  · have hz : ins.length ≠ 0 := by simpa using hz
    have h0i : 0 < ins.length := by omega
    refine ⟨by omega, by omega, (hri _ _ h).int h0i fun a ha => ⟨_, by simpa using ha, ?_⟩⟩
    refine Rets.mono (est _ w h) ?_
    clear h
    rintro _ w ⟨rfl, h⟩
    refine ⟨_, rfl, fun z vs w => ∃ k : Nat, vs = [.int .i64 (amin l k : Nat), .int .i64 (l.getD (amin l k) 0), .int .i64 (k : Int)] ∧ z + k = ins.length ∧ Own e w (imm h0 :: tinT gt m md sd lim ts :: F), ⟨ins.length, 0, by rw [show amin l 0 = 0 from rfl, hld h0i]; rfl, rfl, h⟩, ?_⟩
    clear h
    rintro z w n3 n4 v2 v3 v4 n5
    intros
    rename_i hI
    obtain ⟨k, hvs, hzk, h⟩ := hI
    obtain ⟨rfl, rfl, rfl⟩ : n3 = (amin l k : Int) ∧ n4 = l.getD (amin l k) 0 ∧ n5 = (k : Int) := by simpa using hvs
    refine ⟨fun hc => ?_, fun hc => ?_⟩
    · have hc := dec_t hc
      have hk : k < ins.length := by omega
      refine ⟨by omega, by omega, (hri _ _ h).int hk fun a ha => ⟨_, by rw [Int.toNat_natCast]; exact ha, ?_⟩⟩
      refine Rets.mono (est _ w h) ?_
      clear h
      rintro _ w ⟨rfl, h⟩
      rw [← hld hk]
      refine ⟨_, rfl, fun vs w => vs = [.int .i64 (amin l (k + 1) : Nat), .int .i64 (l.getD (amin l (k + 1)) 0)] ∧ Own e w (imm h0 :: tinT gt m md sd lim ts :: F), ⟨fun hq => ⟨?_, h⟩, fun hq => ⟨?_, h⟩⟩, ?_⟩
      · have hq := dec_t hq
        have : amin l (k + 1) = k := by show (if _ then _ else _) = _; rw [if_pos hq]
        rw [this]
      · have hq := dec_f hq
        have : amin l (k + 1) = amin l k := by show (if _ then _ else _) = _; rw [if_neg hq]
        rw [this]
      clear h
      rintro w n8 n9
      intros
      rename_i hI2
      obtain ⟨hvs2, h⟩ := hI2
      obtain ⟨rfl, rfl⟩ : n8 = (amin l (k + 1) : Int) ∧ n9 = l.getD (amin l (k + 1)) 0 := by simpa using hvs2
      exact ⟨z - 1, by omega, k + 1, by rw [wI64 (by omega) (by omega)]; rfl, by omega, h⟩
    · have hc := dec_f hc
      obtain rfl : k = ins.length := by omega
      refine ⟨?_, h⟩
      rw [decide_eq_true h0i]
theorem vapp {K : Value → World → Prop} {g c2 : Nat} {x : Int × Int} (hn : vs.length ≤ 100000) (h : Own e w (blk g 73 [.int .u64 x.1, .int .i64 x.2] :: vcO qg cg vs :: F))
    (hk : ∀ q' c' w', Own e w' (vcO q' c' (vs ++ [x]) :: F) → K (.slice q' (vs ++ [x]).length c') w') :
    RunR Tryd.prog (builtinV .append #[58, 58] 58 #[.slice qg vs.length cg, .slice (some ⟨g, 0, none⟩) 1 c2]) w K := by
  have hsrc : RdC w (some ⟨g, 0, none⟩) [.int .u64 x.1, .int .i64 x.2] := h.blkRd
  refine Own.append (z := [.int .u64 0, .int .i64 0]) (b := 16) (m := 1) h.drop (by kernel_rfl) (by kernel_rfl) (by kernel_rfl) (by kernel_rfl) (by kernel_rfl) (by omega) hsrc rfl (fun u hu => ?_) (by unfold maxLen; omega) (by omega) fun q' c' w h _ => ?_
  · simp at hu; rcases hu with rfl | rfl <;> rfl
  · have e1 : vs.length + 1 = (vs ++ [x]).length := by simp
    rw [e1, ← E24_snoc] at h
    rw [e1]
    exact hk q' c' w h
/-- What stands there while room is made. -/
abbrev rmF (gl gtr gt m md : Nat) (sd lim : Int) (ts : Ts) (gd : Nat) (D : List Int) (s2 : Int) (u : Nat) (s : Lg) (gr gp : Nat) (qi : Option Addr) (ni ci : Nat) (qg : Option Addr) (cg : Nat) (vs : LE2) (F : List HP) : List HP :=
  ldB gl gtr s.used s.most :: tinT gt m md sd lim ts :: dicO gd D s2 u :: rmB gr gp (some ⟨gd, 0, none⟩) qi ni ci qg vs.length cg :: vcO qg cg vs :: F
def PolC (h0 : Nat → Option Obj) (gp gt gl : Nat) : Prop := h0 gp = some (.cells #[.pointer (some ⟨gt, 0, none⟩), .pointer (some ⟨gl, 0, none⟩)] 95 (0, 0))
theorem pMore (hm1 : ∀ {h1 : Nat → Option Obj}, LeH h0 h1 → ∀ w F, Own e w (imm h1 :: F) → RdC w mixQ mixC) (hm2 : ∀ {h1 : Nat → Option Obj}, LeH h0 h1 → ∀ w F, Own e w (imm h1 :: F) → RdC w twiQ twiC)
    (hp : PolC h0 gp gt gl) (ok : LgOk s) (hs : s.t.size ≤ 100) (hT : TreeA h0 s.t gtr) (hI : ImR h0 qi (cs .u64 ins)) (hin : ins.Nodup) (hik : ∀ x ∈ ins, x ∈ keysP s.t.toL) (hil : ins.length ≤ 4) (hu : u ≤ 8000) (hD : D.length * 8 ≤ 140737488351232) (hvl : vs.length ≤ 1000)
    (h : Own e w (imm h0 :: rmF gl gtr gt m md sd lim ts gd D s2 u s gr gp qi ins.length ci qg cg vs F)) :
    Rets Tryd.prog 56 #[.pointer (some ⟨gr, 0, none⟩), .int .i64 most] w fun v w' => ∃ (b : Bool) (h1 : Nat → Option Obj) (gtr' : Nat) (s' : Lg) (ins' : List Int) (vs' : LE2) (u' : Nat) (qi' : Option Addr) (ci' : Nat) (qg' : Option Addr) (cg' : Nat), v = .bool b ∧ LeH h0 h1 ∧ TreeA h1 s'.t gtr' ∧ ImR h1 qi' (cs .u64 ins') ∧ (ins'.Nodup ∧ (∀ x ∈ ins', x ∈ keysP s'.t.toL) ∧ (b = true → ins'.length ≤ 4)) ∧ u' ≤ u + 5 ∧ MoreR (esT sd m md ts) most s vs b s' vs' ∧ Own e w' (imm h1 :: rmF gl gtr' gt m md sd lim ts gd D s2 u' s' gr gp qi' ins'.length ci' qg' cg' vs' F) := by
  have hsz := Tr.size_toL s.t
  refine policy_room_more_go _ _ (h.drw fun w h => ⟨_, Own.ld (g := gr) (k := 0) h (by repeat (first | with_reducible exact Pick.here | apply Pick.there)) rfl, smR ⟨_, h.immCell hp (i := 1) rfl, _, _, _, Own.ld (g := gr) (k := 2) h (by repeat (first | with_reducible exact Pick.here | apply Pick.there)) rfl, _, Own.ld (g := gr) (k := 1) h (by repeat (first | with_reducible exact Pick.here | apply Pick.there)) rfl, ?_⟩⟩)
  have h : Own e w (imm h0 :: ldB gl gtr s.used s.most :: dicO gd D s2 u :: tinT gt m md sd lim ts :: rmB gr gp (some ⟨gd, 0, none⟩) qi ins.length ci qg vs.length cg :: vcO qg cg vs :: F) := (Own.sub (h) (by repeat (first | exact Sub.nil _ | exact Sub.rfl _ | (apply Sub.cons; focus ((repeat (first | with_reducible exact Pick.here | apply Pick.there)); done)) | apply Sub.drop)))
  refine Rets.mono (smFill (ins := ins) (c := ci) hT (by omega) (by omega) (by omega) hD (fun w F h => hm1 (LeH.refl _) w F h) (fun w F h => hI e w F h) h) ?_
  clear h
  rintro _ w ⟨q9, c9, rfl, h⟩
  obtain ⟨a1, a2, a3, _, a5⟩ := filS_law (ks := keysP s.t.toL) (bel := belN D s2 (keysP s.t.toL).length) (keysP_nodup ok.1) 5 (out := ins) (u := u) hin hik (by omega) (by omega)
  obtain ⟨R, hR⟩ : ∃ R, R = outS D s2 (keysL s.t.toL) ins u := ⟨_, rfl⟩
  have a1 : (outS D s2 (keysL s.t.toL) ins u).1.Nodup := a1
  have a2 : ∀ x ∈ (outS D s2 (keysL s.t.toL) ins u).1, x ∈ keysP s.t.toL := a2
  have a3 : (outS D s2 (keysL s.t.toL) ins u).1.length = min 5 (keysP s.t.toL).length := a3
  have a5 : (outS D s2 (keysL s.t.toL) ins u).2 ≤ u + 5 := a5
  rw [← hR] at h a1 a2 a3 a5 ⊢
  clear hR
  obtain ⟨out, u1⟩ := R
  have a1 : out.Nodup := a1
  have a2 : ∀ x ∈ out, x ∈ keysP s.t.toL := a2
  have a3 : out.length = min 5 (keysP s.t.toL).length := a3
  have a5 : u1 ≤ u + 5 := a5
  obtain ⟨h1, le1, IO, _, h⟩ := h.slImm
  have hT := hT.mono le1
  have hp1 : PolC h1 gp gt gl := le1 _ _ hp
  refine ⟨_, _, _, rfl, Own.stP (g := gr) (k := 2) h (by repeat (first | with_reducible exact Pick.here | apply Pick.there)) (by simp) (by simp [Value.oneCell']) fun w h => ?_⟩
  simp only [setFrom, List.set_cons_zero, List.set_cons_succ, List.set_nil] at h
  have h : Own e w (imm h1 :: tinT gt m md sd lim ts :: ldB gl gtr s.used s.most :: dicO gd D s2 u1 :: rmB gr gp (some ⟨gd, 0, none⟩) q9 out.length c9 qg vs.length cg :: vcO qg cg vs :: F) := (Own.sub (h) (by repeat (first | exact Sub.nil _ | exact Sub.rfl _ | (apply Sub.cons; focus ((repeat (first | with_reducible exact Pick.here | apply Pick.there)); done)) | apply Sub.drop)))
  refine h.drw fun w h => ⟨_, _, _, Own.ld (g := gr) (k := 2) h (by repeat (first | with_reducible exact Pick.here | apply Pick.there)) rfl, _, Own.ld (g := gr) (k := 0) h (by repeat (first | with_reducible exact Pick.here | apply Pick.there)) rfl, smR ⟨_, h.immCell hp1 (i := 0) rfl, ?_⟩⟩
  have h : Own e w (imm h1 :: tinT gt m md sd lim ts :: ldB gl gtr s.used s.most :: dicO gd D s2 u1 :: rmB gr gp (some ⟨gd, 0, none⟩) q9 out.length c9 qg vs.length cg :: vcO qg cg vs :: F) := (Own.sub (h) (by repeat (first | exact Sub.nil _ | exact Sub.rfl _ | (apply Sub.cons; focus ((repeat (first | with_reducible exact Pick.here | apply Pick.there)); done)) | apply Sub.drop)))
  refine Rets.mono (lEst (ins := out) (c := c9) (by omega) (fun w F h => hm1 le1 w F h) (fun w F h => hm2 le1 w F h) (fun w F h => IO e w F h) h) ?_
  clear h
  rintro _ w ⟨rfl, h⟩
  have hal : 0 < out.length → amin (out.map (esT sd m md ts)) out.length < out.length := fun h0 => by
    have := amin_lt (out.map (esT sd m md ts)) (by simpa using h0) out.length (by simp)
    simpa using this
  have hlv : ∀ (h0 : amin (out.map (esT sd m md ts)) out.length < out.length), (out.map (esT sd m md ts)).getD (amin (out.map (esT sd m md ts)) out.length) 0 = esT sd m md ts out[amin (out.map (esT sd m md ts)) out.length] := fun h0 => by
    rw [List.getD_eq_getElem?_getD, List.getElem?_map, List.getElem?_eq_getElem h0]; rfl
  generalize amin (out.map (esT sd m md ts)) out.length = at_ at hal hlv ⊢
  generalize (out.map (esT sd m md ts)).getD at_ 0 = lv at hlv ⊢
  refine ⟨_, _, _, rfl, fun vs' w => vs' = [.bool (!decide (0 < out.length) || decide (lv > most))] ∧ Own e w (imm h1 :: tinT gt m md sd lim ts :: ldB gl gtr s.used s.most :: dicO gd D s2 u1 :: rmB gr gp (some ⟨gd, 0, none⟩) q9 out.length c9 qg vs.length cg :: vcO qg cg vs :: F), ⟨fun hq => ⟨?_, h⟩, fun hq => ⟨?_, h⟩⟩, ?_⟩
  · rw [hq, Bool.false_or]
  · rw [hq, Bool.true_or]
  clear h
  rintro w
  intros
  rename_i b2 hI2
  obtain ⟨hvs2, h⟩ := hI2
  obtain rfl : b2 = (!decide (0 < out.length) || decide (lv > most)) := by simpa using hvs2
  refine ⟨fun hq => ?_, fun hq => ?_⟩
  · have hq : out.length = 0 ∨ most < lv := by
      rcases Bool.or_eq_true _ _ ▸ hq with h1 | h1
      · left; simpa using h1
      · right; simpa using h1
    refine ⟨false, h1, gtr, s, out, vs, u1, q9, c9, qg, cg, rfl, le1, hT, IO, ⟨a1, a2, fun hb => (by cases hb)⟩, a5, .inl ⟨rfl, rfl, rfl, ?_⟩, (Own.sub (h) (by repeat (first | exact Sub.nil _ | exact Sub.rfl _ | (apply Sub.cons; focus ((repeat (first | with_reducible exact Pick.here | apply Pick.there)); done)) | apply Sub.drop)))⟩
    rcases hq with h0 | h0
    · left
      exact List.eq_nil_of_length_eq_zero (by omega)
    · by_cases hz : 0 < out.length
      · right
        have h2 := hal hz
        exact ⟨out[at_], a2 _ (List.getElem_mem h2), by rw [← hlv h2]; exact h0⟩
      · left
        exact List.eq_nil_of_length_eq_zero (by omega)
  · have hq : 0 < out.length ∧ lv ≤ most := by
      rw [Bool.or_eq_false_iff] at hq
      obtain ⟨h1, h2⟩ := hq
      refine ⟨by simpa using h1, ?_⟩
      have := of_decide_eq_false h2
      omega
    have hat := hal hq.1
    have hlv := hlv hat
    obtain ⟨x, hx⟩ : ∃ x, x = out[at_] := ⟨_, rfl⟩
    have hxk : x ∈ keysP s.t.toL := by rw [hx]; exact a2 _ (List.getElem_mem hat)
    obtain ⟨w1, w2⟩ := woL_sub a1 hat
    rw [← hx] at hlv w2
    refine ⟨_, _, _, Own.ld (g := gr) (k := 2) h (by repeat (first | with_reducible exact Pick.here | apply Pick.there)) rfl, by omega, by omega, (IO _ _ _ h).int hat fun a ha => ⟨x, by rw [Int.toNat_natCast, hx]; exact ha, _, Own.ld (g := gr) (k := 0) h (by repeat (first | with_reducible exact Pick.here | apply Pick.there)) rfl, smR ⟨_, h.immCell hp1 (i := 1) rfl, ?_⟩⟩⟩
    have h : Own e w (imm h1 :: ldB gl gtr s.used s.most :: tinT gt m md sd lim ts :: dicO gd D s2 u1 :: rmB gr gp (some ⟨gd, 0, none⟩) q9 out.length c9 qg vs.length cg :: vcO qg cg vs :: F) := (Own.sub (h) (by repeat (first | exact Sub.nil _ | exact Sub.rfl _ | (apply Sub.cons; focus ((repeat (first | with_reducible exact Pick.here | apply Pick.there)); done)) | apply Sub.drop)))
    refine Rets.mono (ldDrop (k := x) ok (by omega) hT h) ?_
    clear h
    rintro _ w ⟨rfl, h3, gtr3, le3, T3, h⟩
    refine ⟨_, _, rfl, _, _, _, Own.ld (g := gr) (k := 2) h (by repeat (first | with_reducible exact Pick.here | apply Pick.there)) rfl, ?_⟩
    refine Rets.mono (uWo (c := c9) (i := (at_ : Int)) (ins := out) (by omega) (IO.mono le3) (by omega) h) ?_
    clear h
    rintro _ w ⟨h4, q10, c10, rfl, le4, I4, h⟩
    have ewo : woZ out (at_ : Int) = woL out at_ := by unfold woZ; rw [if_neg (by omega), Int.toNat_natCast]
    rw [ewo] at I4 ⊢
    refine ⟨_, _, _, rfl, Own.stP (g := gr) (k := 2) h (by repeat (first | with_reducible exact Pick.here | apply Pick.there)) (by simp) (by simp [Value.oneCell']) fun w h => ?_⟩
    simp only [setFrom, List.set_cons_zero, List.set_cons_succ, List.set_nil] at h
    refine ⟨_, _, _, Own.ld (g := gr) (k := 3) h (by repeat (first | with_reducible exact Pick.here | apply Pick.there)) rfl, h.newR fun ge w h => ?_⟩
    have h : Own e w (blk ge 73 [.int .u64 (x, lval x s.t.toL).1, .int .i64 (x, lval x s.t.toL).2] :: vcO qg cg vs :: imm h4 :: ldB gl gtr3 (lgDrop x s).used (lgDrop x s).most :: tinT gt m md sd lim ts :: dicO gd D s2 u1 :: rmB gr gp (some ⟨gd, 0, none⟩) q10 (woL out at_).length c10 qg vs.length cg :: F) := (Own.sub (h) (by repeat (first | exact Sub.nil _ | exact Sub.rfl _ | (apply Sub.cons; focus ((repeat (first | with_reducible exact Pick.here | apply Pick.there)); done)) | apply Sub.drop)))
    refine vapp (x := (x, lval x s.t.toL)) (by omega) h fun q11 c11 w h => ⟨_, _, _, rfl, Own.stP (g := gr) (k := 3) h (by repeat (first | with_reducible exact Pick.here | apply Pick.there)) (by simp) (by simp [Value.oneCell']) fun w h => ?_⟩
    simp only [setFrom, List.set_cons_zero, List.set_cons_succ, List.set_nil] at h
    refine ⟨true, h4, gtr3, lgDrop x s, woL out at_, vs ++ [(x, lval x s.t.toL)], u1, q10, c10, q11, c11, rfl, LeH.trans le1 (LeH.trans le3 le4), T3.mono le4, I4, ⟨w1, fun y hy => ?_, fun _ => ?_⟩, a5, .inr ⟨rfl, x, hxk, ?_, rfl, rfl⟩, (Own.sub (h) (by repeat (first | exact Sub.nil _ | exact Sub.rfl _ | (apply Sub.cons; focus ((repeat (first | with_reducible exact Pick.here | apply Pick.there)); done)) | apply Sub.drop)))⟩
    · obtain ⟨y1, y2⟩ := w2 y hy
      exact (keys_drop ok.1 x y).2 ⟨a2 y y1, y2⟩
    · rw [woL_len]; omega
    · rw [← hlv]; exact hq.2
end
theorem gn_nil {s s1 : Lg} (h : Gn s [] s1) : s1 = s := h
theorem sum_nil {s : Lg} (ok : LgOk s) (h : keysP s.t.toL = []) : s.used = 0 := by
  have : s.t.toL = [] := by simpa using h
  have h2 := ok.2.1
  rw [this] at h2
  exact h2.symm
/-- What making room leaves. -/
def MadeR (est : Int → Int) (most n : Int) (s : Lg) (b : Bool) (s' : Lg) (vs : LE2) : Prop :=
  Gn s vs s' ∧ (∀ v ∈ vs, est v.1 ≤ most) ∧ (b = true → n ≤ s'.most - s'.used) ∧ (b = false → s'.most - s'.used < n ∧ (keysP s'.t.toL = [] ∨ ∃ x ∈ keysP s'.t.toL, most < est x))
section
variable {e w : World} {F : List HP} {h0 : Nat → Option Obj} {q qi qg pd : Option Addr} {c ci cg gr gp gl gt gd gtr m md u : Nat} {D L : List Int} {sd lim s2 most n k : Int} {ts : Ts} {s : Lg} {vs : LE2}
theorem pMade (hm1 : ∀ {h1 : Nat → Option Obj}, LeH h0 h1 → ∀ w F, Own e w (imm h1 :: F) → RdC w mixQ mixC) (hm2 : ∀ {h1 : Nat → Option Obj}, LeH h0 h1 → ∀ w F, Own e w (imm h1 :: F) → RdC w twiQ twiC)
    (hp : PolC h0 gp gt gl) (ok : LgOk s) (hs : s.t.size ≤ 100) (hT : TreeA h0 s.t gtr) (hu : u ≤ 7000) (hD : D.length * 8 ≤ 140737488351232)
    (h : Own e w (imm h0 :: rmF gl gtr gt m md sd lim ts gd D s2 u s gr gp none 0 0 none 0 [] F)) :
    Rets Tryd.prog 51 #[.pointer (some ⟨gr, 0, none⟩), .int .i64 n, .int .i64 most] w fun v w' => ∃ (b : Bool) (h1 : Nat → Option Obj) (gtr' : Nat) (s' : Lg) (vs' : LE2) (u' : Nat) (qi' : Option Addr) (ni' ci' : Nat) (qg' : Option Addr) (cg' : Nat), v = .bool b ∧ LeH h0 h1 ∧ TreeA h1 s'.t gtr' ∧ u' ≤ u + 5 * (vs'.length + 1) ∧ MadeR (esT sd m md ts) most n s b s' vs' ∧ Own e w' (imm h1 :: rmF gl gtr' gt m md sd lim ts gd D s2 u' s' gr gp qi' ni' ci' qg' cg' vs' F) := by
  refine policy_room_made_go _ _ _ ⟨fun z vs w => vs = [] ∧ ∃ (h1 : Nat → Option Obj) (gtr' : Nat) (s' : Lg) (ins' : List Int) (vs' : LE2) (u' : Nat) (qi' : Option Addr) (ci' : Nat) (qg' : Option Addr) (cg' : Nat), LeH h0 h1 ∧ TreeA h1 s'.t gtr' ∧ ImR h1 qi' (cs .u64 ins') ∧ (ins'.Nodup ∧ (∀ x ∈ ins', x ∈ keysP s'.t.toL) ∧ ins'.length ≤ 4) ∧ u' ≤ u + 5 * vs'.length ∧ z = s'.t.size ∧ Gn s vs' s' ∧ (∀ v ∈ vs', esT sd m md ts v.1 ≤ most) ∧ Own e w (imm h1 :: rmF gl gtr' gt m md sd lim ts gd D s2 u' s' gr gp qi' ins'.length ci' qg' cg' vs' F), ⟨s.t.size, rfl, h0, gtr, s, [], [], u, none, 0, none, 0, LeH.refl _, hT, fun e w F h => .inl rfl, ⟨List.nodup_nil, fun x hx => (by cases hx), by simp⟩, by simp, rfl, rfl, fun v hv => (by cases hv), h⟩, ?_⟩
  clear h
  rintro z w
  intros
  rename_i hI
  obtain ⟨_, h1, gtr1, s1, ins1, vs1, u1, qi1, ci1, qg1, cg1, le1, T1, I1, ⟨n1, k1, l1⟩, hu1, hz, hG, hE, h⟩ := hI
  obtain ⟨ok1, em, hsz, _⟩ := hG.facts ok
  have hnn := ok1.nn
  have hp1 : PolC h1 gp gt gl := le1 _ _ hp
  refine ⟨_, Own.ld (g := gr) (k := 0) h (by repeat (first | with_reducible exact Pick.here | apply Pick.there)) rfl, smR ⟨_, h.immCell hp1 (i := 1) rfl, ?_⟩⟩
  refine Rets.mono (ldRoom ⟨hnn, ok1.2.2.2.1, ok1.2.2.2.2⟩ h) ?_
  clear h
  rintro _ w ⟨rfl, h⟩
  refine ⟨_, rfl, fun hc => ?_, fun hc => ?_⟩
  · have hc := dec_t hc
    refine Rets.mono (pMore (most := most) (fun le => hm1 (LeH.trans le1 le)) (fun le => hm2 (LeH.trans le1 le)) hp1 ok1 (by omega) T1 I1 n1 k1 l1 (by omega) hD (by omega) h) ?_
    clear h
    rintro _ w ⟨b, h2, gtr2, s2', ins2, vs2, u2, qi2, ci2, qg2, cg2, rfl, le2, T2, I2, ⟨n2, k2, l2⟩, hu2, hM, h⟩
    refine ⟨_, rfl, fun hb => ?_, fun hb => ?_⟩
    · have hb : b = false := by simpa using hb
      rcases hM with ⟨_, rfl, rfl, hk⟩ | ⟨hb2, _⟩
      · exact ⟨false, h2, gtr2, s2', vs2, u2, qi2, ins2.length, ci2, qg2, cg2, rfl, LeH.trans le1 le2, T2, by omega, ⟨hG, hE, fun hh => (by cases hh), fun _ => ⟨hc, hk⟩⟩, h⟩
      · rw [hb] at hb2; cases hb2
    · have hb : b = true := by simpa using hb
      rcases hM with ⟨hb2, _⟩ | ⟨_, x, hx, hxe, rfl, rfl⟩
      · rw [hb] at hb2; cases hb2
      · have hl := drop_less ok1.1 hx
        refine ⟨(lgDrop x s1).t.size, by omega, rfl, h2, gtr2, lgDrop x s1, ins2, vs1 ++ [(x, lval x s1.t.toL)], u2, qi2, ci2, qg2, cg2, LeH.trans le1 le2, T2, I2, ⟨n2, k2, l2 hb⟩, by simp; omega, rfl, hG.snoc hx, fun v hv => ?_, h⟩
        rcases List.mem_append.1 hv with hv | hv
        · exact hE v hv
        · rw [List.mem_singleton.1 hv]; exact hxe
  · have hc := dec_f hc
    exact ⟨true, h1, gtr1, s1, vs1, u1, qi1, ins1.length, ci1, qg1, cg1, rfl, le1, T1, by omega, ⟨hG, hE, fun _ => by omega, fun hh => (by cases hh)⟩, h⟩
theorem pMade0 (hp : PolC h0 gp gt gl) (ok : LgOk s) (hn : n ≤ s.most - s.used) (h : Own e w (imm h0 :: ldB gl gtr s.used s.most :: rmB gr gp pd none 0 0 none 0 0 :: F)) :
    Rets Tryd.prog 51 #[.pointer (some ⟨gr, 0, none⟩), .int .i64 n, .int .i64 most] w fun v w' => v = .bool true ∧ Own e w' (imm h0 :: ldB gl gtr s.used s.most :: rmB gr gp pd none 0 0 none 0 0 :: F) := by
  refine policy_room_made_go _ _ _ ⟨fun z vs w => vs = [] ∧ Own e w (imm h0 :: ldB gl gtr s.used s.most :: rmB gr gp pd none 0 0 none 0 0 :: F), ⟨0, rfl, h⟩, ?_⟩
  clear h
  rintro z w
  intros
  rename_i hI
  obtain ⟨_, h⟩ := hI
  refine ⟨_, Own.ld (g := gr) (k := 0) h (by repeat (first | with_reducible exact Pick.here | apply Pick.there)) rfl, smR ⟨_, h.immCell hp (i := 1) rfl, ?_⟩⟩
  refine Rets.mono (ldRoom ⟨ok.nn, ok.2.2.2.1, ok.2.2.2.2⟩ h) ?_
  clear h
  rintro _ w ⟨rfl, h⟩
  exact ⟨_, rfl, fun hc => (by have := dec_t hc; omega), fun _ => ⟨rfl, h⟩⟩
theorem pLedger (hp : PolC h0 gp gt gl) (h : Own e w (imm h0 :: F)) : Rets Tryd.prog 26 #[.pointer (some ⟨gp, 0, none⟩)] w fun v w' => v = .pointer (some ⟨gl, 0, none⟩) ∧ Own e w' (imm h0 :: F) :=
  policy_Policy_Ledger_go _ ⟨fun hc => (by cases hc), fun _ => ⟨_, h.immCell hp (i := 1) rfl, rfl, h⟩⟩
theorem pTiny (hp : PolC h0 gp gt gl) (h : Own e w (imm h0 :: F)) : Rets Tryd.prog 39 #[.pointer (some ⟨gp, 0, none⟩)] w fun v w' => v = .pointer (some ⟨gt, 0, none⟩) ∧ Own e w' (imm h0 :: F) :=
  policy_Policy_Tiny_go _ ⟨fun hc => (by cases hc), fun _ => ⟨_, h.immCell hp (i := 0) rfl, rfl, h⟩⟩
theorem pEst (hm1 : ∀ w F, Own e w (imm h0 :: F) → RdC w mixQ mixC) (hm2 : ∀ w F, Own e w (imm h0 :: F) → RdC w twiQ twiC) (hp : PolC h0 gp gt gl) (h : Own e w (imm h0 :: tinT gt m md sd lim ts :: F)) : Rets Tryd.prog 27 #[.pointer (some ⟨gp, 0, none⟩), .int .u64 k] w fun v w' => v = .int .i64 (esT sd m md ts k) ∧ Own e w' (imm h0 :: tinT gt m md sd lim ts :: F) := by
  refine policy_Policy_Estimate_go _ _ ?_
  refine Rets.mono (pTiny hp h) ?_
  clear h
  rintro _ w ⟨rfl, h⟩
  refine ⟨_, rfl, ?_⟩
  refine Rets.mono (tEst (hh := k) (fun w h => hm1 w _ h) (fun w h => hm2 w _ h) h.swap) ?_
  rintro _ w ⟨rfl, h⟩
  exact ⟨_, rfl, rfl, h.swap⟩
theorem pPush (hm1 : ∀ w F, Own e w (imm h0 :: F) → RdC w mixQ mixC) (hm2 : ∀ w F, Own e w (imm h0 :: F) → RdC w twiQ twiC) (hp : PolC h0 gp gt gl) (hlim : 1 ≤ lim ∧ lim ≤ 4096) (okt : okT m md lim ts) (hL : L.length ≤ 1000) (hr : ImR h0 q (cs .u64 L)) (h : Own e w (imm h0 :: tinT gt m md sd lim ts :: F)) :
    Rets Tryd.prog 25 #[.pointer (some ⟨gp, 0, none⟩), .slice q L.length c] w fun v w' => v = .tuple #[] ∧ Own e w' (imm h0 :: tinT gt m md sd lim (nxL sd m md lim ts L) :: F) := by
  refine policy_Policy_Push_go _ _ _ _ ?_
  refine Rets.mono (pTiny hp h) ?_
  clear h
  rintro _ w ⟨rfl, h⟩
  refine ⟨_, rfl, ?_⟩
  refine Rets.mono (tPushT (fun w h => hm1 w _ h) (fun w h => hm2 w _ h) hlim okt hL (fun w h => hr _ _ _ h) h.swap) ?_
  rintro _ w ⟨rfl, h⟩
  exact ⟨rfl, rfl, h.swap⟩
theorem pNew {a b : Int} (hm1 : ∀ w, Own e w (imm h0 :: F) → RdC w mixQ mixC) (h : Own e w (imm h0 :: F)) : Rets Tryd.prog 23 #[.int .i64 a, .int .i64 b, .int .u64 sd] w fun v w' => ∃ (gp gt gl gtr m md : Nat) (h1 : Nat → Option Obj), v = .pointer (some ⟨gp, 0, none⟩) ∧ LeH h0 h1 ∧ PolC h1 gp gt gl ∧ TreeA h1 Tr.nil gtr ∧ Own e w' (imm h1 :: ldB gl gtr 0 (cutI a) :: tinT gt m md sd (maxI 1 (minI b 4096)) (t0 m md) :: F) := by
  refine policy_New_go _ _ _ ?_
  refine Rets.mono (tNewT (n := b) (s := sd) hm1 h) ?_
  clear h
  rintro _ w ⟨gt, m, md, rfl, _, _, h⟩
  refine ⟨_, rfl, ?_⟩
  refine Rets.mono (ldNew (n := a) h.swap) ?_
  clear h
  rintro _ w ⟨gl, rfl, h1, gtr, le1, T1, h⟩
  refine ⟨_, rfl, h.newR fun gp w h => ?_⟩
  obtain ⟨h2, le2, hp, hh⟩ := Own.absorb h
  exact ⟨gp, gt, gl, gtr, m, md, h2, rfl, LeH.trans le1 le2, hp, T1.mono le2, hh⟩
/-- May a cost be asked for at all? -/
def askOk (k n : Int) (s : Lg) : Prop := 0 ≤ n ∧ n ≤ s.most ∧ k ∉ keysP s.t.toL
theorem pAsk {d : Option Addr} {K : Value → World → Prop} (hp : PolC h0 gp gt gl) (ok : LgOk s) (hs : s.t.size ≤ 100) (hT : TreeA h0 s.t gtr) (h : Own e w (imm h0 :: ldB gl gtr s.used s.most :: F))
    (hno : ∀ w, ¬ askOk k n s → Own e w (imm h0 :: ldB gl gtr s.used s.most :: F) → K (.tuple #[.slice none 0 0, .bool false]) w)
    (hyes : ∀ w, askOk k n s → Own e w (imm h0 :: ldB gl gtr s.used s.most :: F) → NewR 99 [.pointer (some ⟨gp, 0, none⟩), .pointer d, .slice none 0 0, .slice none 0 0] w fun a1 w5 => Rets Tryd.prog 27 #[.pointer (some ⟨gp, 0, none⟩), .int .u64 k] w5 fun v19 w6 => ∃ n3, v19 = .int .i64 n3 ∧ Rets Tryd.prog 51 #[.pointer (some a1), .int .i64 n, .int .i64 n3] w6 fun v20 w7 => ∃ b4, v20 = .bool b4 ∧
      ((!b4) = true → ∃ q3 k1 k2, cellAt w7 (a1.add 3) (.slice q3 k1 k2) ∧ K (.tuple #[.slice q3 k1 k2, .bool false]) w7) ∧
      ((!b4) = false → Drw w7 fun w8 => ∃ h2 : World → Prop, h2 w8 ∧ ∃ q4 k3 k4, (∀ w, h2 w → w.cell? (a1.add 3) = some (.slice q4 k3 k4)) ∧ ∃ q5, (∀ w, h2 w → w.cell? ((⟨gp, 0, none⟩ : Addr).add 1) = some (.pointer q5)) ∧ Rets Tryd.prog 41 #[.pointer q5, .int .u64 k, .int .i64 n] w8 fun v21 w11 => ∃ b5, v21 = .bool b5 ∧ h2 w11 ∧ K (.tuple #[.slice q4 k3 k4, .bool b5]) w11)) :
    Rets Tryd.prog 24 #[.pointer (some ⟨gp, 0, none⟩), .int .u64 k, .int .i64 n, .pointer d] w K := by
  have h5 := ok.2.2.2.2
  refine policy_Policy_Add_go _ _ _ _ ⟨fun vs w => ∃ b, vs = [.bool b] ∧ (b = false ↔ (0 ≤ n ∧ n ≤ s.most)) ∧ Own e w (imm h0 :: ldB gl gtr s.used s.most :: F), ⟨fun _ => ?_, fun hc => (by cases hc)⟩, ?_⟩
  · refine Rets.mono (cRight h) ?_
    clear h
    rintro _ w ⟨rfl, h⟩
    refine ⟨_, rfl, fun hb => ⟨_, h.immCell hp (i := 1) rfl, ?_⟩, fun hb => ?_⟩
    · have hb := rightB_t.1 (by simpa using hb)
      refine Rets.mono (ldMost h) ?_
      clear h
      rintro _ w ⟨rfl, h⟩
      refine ⟨_, rfl, _, rfl, ?_, h⟩
      rw [decide_eq_false_iff_not]
      exact ⟨fun h1 => ⟨hb.1, by omega⟩, fun h1 => by omega⟩
    · have hb := rightB_f.1 (by simpa using hb)
      exact ⟨_, rfl, ⟨fun h1 => (by cases h1), fun h1 => by omega⟩, h⟩
  clear h
  rintro w
  intros
  rename_i b2 hI
  obtain ⟨b, hvs, hb, h⟩ := hI
  obtain rfl : b2 = b := by simpa using hvs
  refine ⟨fun hq => hno w (fun ha => by rw [hb.2 ⟨ha.1, ha.2.1⟩] at hq; cases hq) h, fun hq => ⟨_, h.immCell hp (i := 1) rfl, ?_⟩⟩
  obtain ⟨b1, b3⟩ := hb.1 hq
  refine Rets.mono (ldCost (k := k) hT (by omega) ok.1 h) ?_
  clear h
  rintro _ w ⟨rfl, h⟩
  refine ⟨_, _, rfl, fun hf => hno w (fun ha => ha.2.2 (lfind_keyP.1 hf)) h, fun hf => hyes w ⟨b1, b3, fun hk => ?_⟩ h⟩
  rw [lfind_keyP.2 hk] at hf; cases hf
end
theorem lgAdd_yes {k n : Int} {s : Lg} (hk : k ∉ keysP s.t.toL) (hn : 0 ≤ n ∧ n ≤ s.most - s.used) : lgAdd k n s = (⟨tput k n s.t, s.used + n, s.most⟩, true) := by
  unfold lgAdd
  rw [if_neg (fun hf => hk (lfind_keyP.1 hf)), if_pos (by omega)]
def adS (b : Bool) (k n : Int) (s : Lg) : Lg := if b = true then (lgAdd k n s).1 else s
section
variable {e w : World} {F : List HP} {h0 : Nat → Option Obj} {gp gl gt gd gtr m md u : Nat} {D : List Int} {sd lim s2 n k : Int} {ts : Ts} {s : Lg}
theorem pAdd (hm1 : ∀ {h1 : Nat → Option Obj}, LeH h0 h1 → ∀ w F, Own e w (imm h1 :: F) → RdC w mixQ mixC) (hm2 : ∀ {h1 : Nat → Option Obj}, LeH h0 h1 → ∀ w F, Own e w (imm h1 :: F) → RdC w twiQ twiC)
    (hp : PolC h0 gp gt gl) (ok : LgOk s) (hs : s.t.size ≤ 100) (hT : TreeA h0 s.t gtr) (hu : u ≤ 7000) (hD : D.length * 8 ≤ 140737488351232)
    (h : Own e w (imm h0 :: ldB gl gtr s.used s.most :: tinT gt m md sd lim ts :: dicO gd D s2 u :: F)) :
    Rets Tryd.prog 24 #[.pointer (some ⟨gp, 0, none⟩), .int .u64 k, .int .i64 n, .pointer (some ⟨gd, 0, none⟩)] w fun v w' =>
      (¬ askOk k n s ∧ v = .tuple #[.slice none 0 0, .bool false] ∧ Own e w' (imm h0 :: ldB gl gtr s.used s.most :: tinT gt m md sd lim ts :: dicO gd D s2 u :: F)) ∨
      (askOk k n s ∧ ∃ (b : Bool) (s1 : Lg) (vs : LE2) (h1 : Nat → Option Obj) (gtr' : Nat) (q' : Option Addr) (c' u' : Nat), v = .tuple #[.slice q' vs.length c', .bool b] ∧ LeH h0 h1 ∧ ImR h1 q' (E24 vs) ∧ MadeR (esT sd m md ts) (esT sd m md ts k) n s b s1 vs ∧ u' ≤ u + 5 * (vs.length + 1) ∧ TreeA h1 (adS b k n s1).t gtr' ∧ Own e w' (imm h1 :: ldB gl gtr' (adS b k n s1).used (adS b k n s1).most :: tinT gt m md sd lim ts :: dicO gd D s2 u' :: F)) := by
  refine pAsk hp ok hs hT h (fun w ha h => .inl ⟨ha, rfl, h⟩) (fun w ha h => h.newR fun gr w h => ?_)
  have h : Own e w (imm h0 :: tinT gt m md sd lim ts :: ldB gl gtr s.used s.most :: dicO gd D s2 u :: rmB gr gp (some ⟨gd, 0, none⟩) none 0 0 none 0 0 :: F) := (Own.sub (h) (by repeat (first | exact Sub.nil _ | exact Sub.rfl _ | (apply Sub.cons; focus ((repeat (first | with_reducible exact Pick.here | apply Pick.there)); done)) | apply Sub.drop)))
  refine Rets.mono (pEst (k := k) (hm1 (LeH.refl _)) (hm2 (LeH.refl _)) hp h) ?_
  clear h
  rintro _ w ⟨rfl, h⟩
  refine ⟨_, rfl, ?_⟩
  have h : Own e w (imm h0 :: rmF gl gtr gt m md sd lim ts gd D s2 u s gr gp none 0 0 none 0 [] F) := by
    have h : Own e w (vcO none 0 [] :: imm h0 :: tinT gt m md sd lim ts :: ldB gl gtr s.used s.most :: dicO gd D s2 u :: rmB gr gp (some ⟨gd, 0, none⟩) none 0 0 none 0 0 :: F) := h.slNil
    have h : Own e w (vcO none 0 [] :: imm h0 :: tinT gt m md sd lim ts :: ldB gl gtr s.used s.most :: dicO gd D s2 u :: rmB gr gp (some ⟨gd, 0, none⟩) none 0 0 none ([] : LE2).length 0 :: F) := h
    exact (Own.sub (h) (by repeat (first | exact Sub.nil _ | exact Sub.rfl _ | (apply Sub.cons; focus ((repeat (first | with_reducible exact Pick.here | apply Pick.there)); done)) | apply Sub.drop)))
  refine Rets.mono (pMade (n := n) (most := esT sd m md ts k) hm1 hm2 hp ok hs hT hu hD h) ?_
  clear h
  rintro _ w ⟨b, h1, gtr1, s1, vs, u1, qi, ni, ci, qg, cg, rfl, le1, T1, hu1, hM, h⟩
  have hM' := hM
  obtain ⟨hG, hE, hM1, hM2⟩ := hM'
  obtain ⟨ok1, em, hsz1, hsub⟩ := hG.facts ok
  have hp1 : PolC h1 gp gt gl := le1 _ _ hp
  refine ⟨_, rfl, fun hb => ?_, fun hb => ?_⟩
  · have hb : b = false := by simpa using hb
    subst hb
    refine ⟨_, _, _, Own.ld (g := gr) (k := 3) h (by repeat (first | with_reducible exact Pick.here | apply Pick.there)) rfl, .inr ⟨ha, false, s1, vs, ?_⟩⟩
    have h : Own e w (vcO qg cg vs :: imm h1 :: ldB gl gtr1 s1.used s1.most :: tinT gt m md sd lim ts :: dicO gd D s2 u1 :: F) := (Own.sub (h) (by repeat (first | exact Sub.nil _ | exact Sub.rfl _ | (apply Sub.cons; focus ((repeat (first | with_reducible exact Pick.here | apply Pick.there)); done)) | apply Sub.drop)))
    obtain ⟨h2, le2, Iv, _, h⟩ := h.slImm
    exact ⟨h2, gtr1, qg, cg, u1, rfl, LeH.trans le1 le2, Iv, hM, hu1, T1.mono le2, h⟩
  · have hb : b = true := by simpa using hb
    subst hb
    have hroom := hM1 rfl
    have ey := lgAdd_yes (k := k) (n := n) (fun hk => ha.2.2 (hsub k hk)) ⟨ha.1, hroom⟩
    let S : World → Prop := fun w => ∃ F', Own e w (imm h1 :: rmB gr gp (some ⟨gd, 0, none⟩) qi ni ci qg vs.length cg :: F')
    refine h.drw fun w h => ⟨S, ⟨_, ((Own.sub (h) (by repeat (first | with_reducible exact Sub.nil _ | with_reducible exact Sub.rfl _ | (apply Sub.cons; focus ((repeat (first | with_reducible exact Pick.here | apply Pick.there)); done)) | apply Sub.drop))) : Own e w (imm h1 :: rmB gr gp (some ⟨gd, 0, none⟩) qi ni ci qg vs.length cg :: []))⟩, _, _, _, fun w ⟨F', h⟩ => Own.ld (g := gr) (k := 3) h (by repeat (first | with_reducible exact Pick.here | apply Pick.there)) rfl, _, fun w ⟨F', h⟩ => h.immCell hp1 (i := 1) rfl, ?_⟩
    refine Rets.mono (ldAdd (k := k) (n := n) ok1 (by omega) T1 h) ?_
    clear h
    rintro _ w ⟨rfl, h3, gtr3, le3, T3, h⟩
    refine ⟨_, rfl, ⟨_, ((Own.sub ((h.immLe le3)) (by repeat (first | with_reducible exact Sub.nil _ | with_reducible exact Sub.rfl _ | (apply Sub.cons; focus ((repeat (first | with_reducible exact Pick.here | apply Pick.there)); done)) | apply Sub.drop))) : Own e w (imm h1 :: rmB gr gp (some ⟨gd, 0, none⟩) qi ni ci qg vs.length cg :: []))⟩, .inr ⟨ha, true, s1, vs, ?_⟩⟩
    have h : Own e w (vcO qg cg vs :: imm h3 :: ldB gl gtr3 (lgAdd k n s1).1.used (lgAdd k n s1).1.most :: tinT gt m md sd lim ts :: dicO gd D s2 u1 :: F) := (Own.sub (h) (by repeat (first | exact Sub.nil _ | exact Sub.rfl _ | (apply Sub.cons; focus ((repeat (first | with_reducible exact Pick.here | apply Pick.there)); done)) | apply Sub.drop)))
    obtain ⟨h2, le2, Iv, _, h⟩ := h.slImm
    rw [show (lgAdd k n s1).2 = true by rw [ey]]
    exact ⟨h2, gtr3, qg, cg, u1, rfl, LeH.trans le1 (LeH.trans le3 le2), Iv, hM, hu1, T3.mono le2, h⟩
theorem pAdd0 (hm1 : ∀ w F, Own e w (imm h0 :: F) → RdC w mixQ mixC) (hm2 : ∀ w F, Own e w (imm h0 :: F) → RdC w twiQ twiC)
    (hp : PolC h0 gp gt gl) (ok : LgOk s) (hs : s.t.size ≤ 100) (hT : TreeA h0 s.t gtr) (ha : askOk k n s) (hn : n ≤ s.most - s.used)
    (h : Own e w (imm h0 :: ldB gl gtr s.used s.most :: tinT gt m md sd lim ts :: F)) :
    Rets Tryd.prog 24 #[.pointer (some ⟨gp, 0, none⟩), .int .u64 k, .int .i64 n, .pointer none] w fun v w' => ∃ h1 gtr', v = .tuple #[.slice none 0 0, .bool true] ∧ LeH h0 h1 ∧ TreeA h1 (lgAdd k n s).1.t gtr' ∧ Own e w' (imm h1 :: ldB gl gtr' (lgAdd k n s).1.used (lgAdd k n s).1.most :: tinT gt m md sd lim ts :: F) := by
  refine pAsk hp ok hs hT h (fun w ha2 h => absurd ha ha2) (fun w ha h => h.newR fun gr w h => ?_)
  have h : Own e w (imm h0 :: tinT gt m md sd lim ts :: ldB gl gtr s.used s.most :: rmB gr gp none none 0 0 none 0 0 :: F) := (Own.sub (h) (by repeat (first | exact Sub.nil _ | exact Sub.rfl _ | (apply Sub.cons; focus ((repeat (first | with_reducible exact Pick.here | apply Pick.there)); done)) | apply Sub.drop)))
  refine Rets.mono (pEst (k := k) hm1 hm2 hp h) ?_
  clear h
  rintro _ w ⟨rfl, h⟩
  have h : Own e w (imm h0 :: ldB gl gtr s.used s.most :: rmB gr gp none none 0 0 none 0 0 :: tinT gt m md sd lim ts :: F) := (Own.sub (h) (by repeat (first | exact Sub.nil _ | exact Sub.rfl _ | (apply Sub.cons; focus ((repeat (first | with_reducible exact Pick.here | apply Pick.there)); done)) | apply Sub.drop)))
  refine ⟨_, rfl, ?_⟩
  refine Rets.mono (pMade0 hp ok hn h) ?_
  clear h
  rintro _ w ⟨rfl, h⟩
  have ey := lgAdd_yes (k := k) (n := n) ha.2.2 ⟨ha.1, hn⟩
  let S : World → Prop := fun w => ∃ F', Own e w (imm h0 :: rmB gr gp none none 0 0 none 0 0 :: F')
  refine ⟨_, rfl, fun hb => (by cases hb), fun _ => h.drw fun w h => ⟨S, ⟨_, ((Own.sub (h) (by repeat (first | with_reducible exact Sub.nil _ | with_reducible exact Sub.rfl _ | (apply Sub.cons; focus ((repeat (first | with_reducible exact Pick.here | apply Pick.there)); done)) | apply Sub.drop))) : Own e w (imm h0 :: rmB gr gp none none 0 0 none 0 0 :: []))⟩, _, _, _, fun w ⟨F', h⟩ => Own.ld (g := gr) (k := 3) h (by repeat (first | with_reducible exact Pick.here | apply Pick.there)) rfl, _, fun w ⟨F', h⟩ => h.immCell hp (i := 1) rfl, ?_⟩⟩
  refine Rets.mono (ldAdd (k := k) (n := n) ok (by omega) hT h) ?_
  clear h
  rintro _ w ⟨rfl, h3, gtr3, le3, T3, h⟩
  refine ⟨_, rfl, ⟨_, ((Own.sub ((h.immLe le3)) (by repeat (first | with_reducible exact Sub.nil _ | with_reducible exact Sub.rfl _ | (apply Sub.cons; focus ((repeat (first | with_reducible exact Pick.here | apply Pick.there)); done)) | apply Sub.drop))) : Own e w (imm h0 :: rmB gr gp none none 0 0 none 0 0 :: []))⟩, h3, gtr3, ?_, le3, T3, (Own.sub (h) (by repeat (first | exact Sub.nil _ | exact Sub.rfl _ | (apply Sub.cons; focus ((repeat (first | with_reducible exact Pick.here | apply Pick.there)); done)) | apply Sub.drop)))⟩
  rw [show (lgAdd k n s).2 = true by rw [ey]]
theorem pcAwake (hm1 : ∀ {h1 : Nat → Option Obj}, LeH h0 h1 → ∀ w F, Own e w (imm h1 :: F) → RdC w mixQ mixC) (hm2 : ∀ {h1 : Nat → Option Obj}, LeH h0 h1 → ∀ w F, Own e w (imm h1 :: F) → RdC w twiQ twiC) (h : Own e w (imm h0 :: F)) :
    Rets Tryd.prog 22 #[] w fun v w' => v = .bool true ∧ ∃ F, Own e w' (imm h0 :: F) := by
  refine cortadolaw26_awake_go ?_
  refine Rets.mono (pNew (a := 10) (b := 8) (sd := 0) (fun w h => hm1 (LeH.refl _) w _ h) h) ?_
  clear h
  rintro _ w ⟨gp, gt, gl, gtr, m, md, h1, rfl, le1, hp, T1, h⟩
  rw [show cutI 10 = 10 by decide] at h
  have ok0 : LgOk ⟨.nil, 0, 10⟩ := LgOk.nil ⟨by decide, by decide⟩
  have h : Own e w (imm h1 :: ldB gl gtr (⟨.nil, 0, 10⟩ : Lg).used (⟨.nil, 0, 10⟩ : Lg).most :: tinT gt m md 0 (maxI 1 (minI 8 4096)) (t0 m md) :: F) := h
  refine ⟨_, rfl, ?_⟩
  refine Rets.mono (pAdd0 (s := ⟨.nil, 0, 10⟩) (k := 1) (n := 6) (hm1 le1) (hm2 le1) hp ok0 (by decide) T1 ⟨by decide, by decide, fun hk => (by cases hk)⟩ (by decide) h) ?_
  clear h
  rintro _ w ⟨h2, gtr2, rfl, le2, T2, h⟩
  have ok1 := ok0.add (k := 1) (n := 6)
  have e1 : (lgAdd 1 6 ⟨.nil, 0, 10⟩).1 = ⟨.node 1 6 .nil .nil, 6, 10⟩ := rfl
  rw [e1] at T2 h ok1
  have le3 := LeH.trans le1 le2
  have hp2 : PolC h2 gp gt gl := le2 _ _ hp
  refine ⟨_, _, _, _, rfl, ?_⟩
  refine Rets.mono (dcNew (L := []) (q := none) (c := 0) (s := 0) h (fun w h => .inl rfl) (by decide)) ?_
  clear h
  rintro _ w ⟨gd, rfl, h⟩
  have h : Own e w (imm h2 :: ldB gl gtr2 (⟨.node 1 6 .nil .nil, 6, 10⟩ : Lg).used (⟨.node 1 6 .nil .nil, 6, 10⟩ : Lg).most :: tinT gt m md 0 (maxI 1 (minI 8 4096)) (t0 m md) :: dicO gd [] 0 0 :: F) := (Own.sub (h) (by repeat (first | exact Sub.nil _ | exact Sub.rfl _ | (apply Sub.cons; focus ((repeat (first | with_reducible exact Pick.here | apply Pick.there)); done)) | apply Sub.drop)))
  refine ⟨_, rfl, ?_⟩
  refine Rets.mono (pAdd (k := 2) (n := 5) (s := ⟨.node 1 6 .nil .nil, 6, 10⟩) (fun le => hm1 (LeH.trans le3 le)) (fun le => hm2 (LeH.trans le3 le)) hp2 ok1 (by decide) T2 (by decide) (by decide) h) ?_
  clear h
  have hz : ∀ x, esT 0 m md (t0 m md) x = 0 := fun x => by
    show ((esN 0 (2 ^ m) (2 ^ md) _ _ x : Nat) : Int) = 0
    rw [show esN 0 (2 ^ m) (2 ^ md) (t0 m md).R (t0 m md).ws x = 0 from es_zero _ _ _ _ _ _]; rfl
  have hk1 : keysP (⟨.node 1 6 .nil .nil, 6, 10⟩ : Lg).t.toL = [1] := rfl
  rintro _ w (⟨hno, _⟩ | ⟨ha, b, s1, vs, h4, gtr4, q4, c4, u4, rfl, le4, Iv, ⟨hG, hE, hM1, hM2⟩, _, T4, h⟩)
  · exact absurd ⟨by decide, by decide, by rw [hk1]; decide⟩ hno
  · obtain ⟨ok2, em, _, hsub⟩ := hG.facts ok1
    have hbt : b = true := by
      cases b with
      | true => rfl
      | false =>
        obtain ⟨hr, hk | ⟨x, _, hx⟩⟩ := hM2 rfl
        · have := sum_nil ok2 hk
          have em : s1.most = 10 := em
          omega
        · rw [hz, hz] at hx; omega
    subst hbt
    have hroom := hM1 rfl
    have hvs : vs = [(1, 6)] := by
      cases vs with
      | nil =>
        have : s1 = _ := hG
        subst this
        exact absurd hroom (by decide)
      | cons v vs =>
        obtain ⟨g1, g2, g3⟩ := hG
        rw [hk1] at g1
        obtain ⟨v1, v2⟩ := v
        have g1 : v1 = 1 := List.mem_singleton.1 g1
        subst g1
        have g2 : v2 = 6 := g2
        subst g2
        cases vs with
        | nil => rfl
        | cons v' vs' =>
          have g4 : v'.1 ∈ keysP (lgDrop 1 (⟨.node 1 6 .nil .nil, 6, 10⟩ : Lg)).t.toL := g3.1
          rw [show keysP (lgDrop 1 (⟨.node 1 6 .nil .nil, 6, 10⟩ : Lg)).t.toL = [] from rfl] at g4
          cases g4
    subst hvs
    have hl : 0 < ([(1, 6)] : LE2).length := by decide
    obtain ⟨ad, eq, rd⟩ := Iv.adr24 hl h
    have rd := rd _ _ _ h
    rw [show Int.toNat ((0 : Nat) : Int) * 2 = 0 from rfl] at rd
    subst eq
    have ad0 : ∀ a : Addr, a.add 0 = a := fun a => by
      unfold Addr.add; simp
    refine ⟨_, _, _, _, rfl, fun _ => ⟨fun _ => ⟨fun _ => ⟨by decide, by decide, smR ⟨_, _, ⟨rd.1, rd.2⟩, rfl, _, h.immLe (LeH.trans le3 le4)⟩⟩, fun hq => absurd hq (by decide)⟩, fun hq => (by cases hq)⟩, fun hq => (by cases hq)⟩
end
def minusV (vs T : LE2) : LE2 := T.filter (fun e => decide (e.1 ∉ keysP vs))
theorem minusV_nil (T : LE2) : minusV [] T = T := fl_all fun e he => by simp [keysP]
theorem minusV_cons (v : Int × Int) (vs T : LE2) : minusV (v :: vs) T = minusV vs (ldrop v.1 T) := by
  unfold minusV ldrop
  rw [List.filter_filter]
  congr 1; funext e
  by_cases h1 : e.1 = v.1
  · simp [keysP, h1]
  · simp [keysP, h1]
theorem minusV_snoc (v : Int × Int) (vs T : LE2) : minusV (vs ++ [v]) T = ldrop v.1 (minusV vs T) := by
  unfold minusV ldrop
  rw [List.filter_filter]
  congr 1; funext e
  by_cases h1 : e.1 = v.1
  · simp [keysP, h1]
  · simp [keysP, h1]
theorem gn_minus : ∀ {vs : LE2} {s s1 : Lg}, Gn s vs s1 → LgOk s → s1.t.toL = minusV vs s.t.toL ∧ (keysP vs).Nodup ∧ ∀ v ∈ vs, v ∈ s.t.toL
  | [], s, s1, h, ok => by
    have h : s1 = s := h
    subst h
    exact ⟨(minusV_nil _).symm, List.nodup_nil, fun v hv => (by cases hv)⟩
  | v :: vs, s, s1, h, ok => by
    obtain ⟨h1, h2, h3⟩ := h
    obtain ⟨a1, a2, a3⟩ := gn_minus h3 ok.drop
    rw [lgDrop_toLP ok.1] at a1 a3
    have hv : v ∈ s.t.toL := by
      obtain ⟨e, he⟩ := Option.isSome_iff_exists.1 (lfind_keyP.2 h1)
      obtain ⟨e1, e2⟩ := lfind_in he
      have e3 : v.2 = e.2 := by rw [h2]; unfold lval; rw [he]; rfl
      have : v = e := Prod.ext e2.symm e3
      rw [this]; exact e1
    refine ⟨by rw [minusV_cons]; exact a1, ?_, fun x hx => ?_⟩
    · rw [keysP, List.map_cons, List.nodup_cons]
      refine ⟨fun hm => ?_, a2⟩
      obtain ⟨x, hx, hxe⟩ := List.mem_map.1 hm
      have := (List.mem_filter.1 (a3 x hx)).2
      simp at this
      exact this hxe
    · rcases List.mem_cons.1 hx with rfl | hx
      · exact hv
      · exact (List.mem_filter.1 (a3 x hx)).1
theorem lfind_of {l : LE2} (hn : (keysP l).Nodup) {e : Int × Int} (he : e ∈ l) : lfind e.1 l = some e := by
  induction l with
  | nil => cases he
  | cons y l ih =>
    rw [keysP, List.map_cons, List.nodup_cons] at hn
    rcases List.mem_cons.1 he with rfl | he2
    · exact lfind_cons
    · have : y.1 ≠ e.1 := fun h => hn.1 (by rw [h]; exact List.mem_map.2 ⟨e, he2, rfl⟩)
      have hn2 := hn.2
      clear he hn
      obtain ⟨a, b⟩ := y
      rw [lfind_ne this]
      exact ih hn2 he2
theorem sumV_perm {l l' : LE2} (h : l.Perm l') : sumV l = sumV l' := by
  induction h with
  | nil => rfl
  | cons x _ ih => simp only [sumV, ih]
  | swap x y l => simp only [sumV]; omega
  | trans _ _ h1 h2 => rw [h1, h2]
theorem lput_perm {k v : Int} {l : LE2} : (lput k v l).Perm (ldrop k l ++ [(k, v)]) := by
  have h1 : (ldrop k l).Perm (l.filter (fun e => decide (e.1 < k)) ++ l.filter (fun e => decide (k < e.1))) := by
    unfold ldrop
    induction l with
    | nil => exact List.Perm.refl _
    | cons e l ih =>
      obtain ⟨a, b⟩ := e
      by_cases h1 : a < k
      · have h2 : ¬ k < a := by omega
        have h3 : a ≠ k := by omega
        simp only [List.filter_cons, h1, h2, h3, decide_true, decide_false, ne_eq, not_false_eq_true, if_true, Bool.false_eq_true, if_false, List.cons_append]
        exact ih.cons _
      · by_cases h2 : k < a
        · have h3 : a ≠ k := by omega
          simp only [List.filter_cons, h1, h2, h3, decide_true, decide_false, ne_eq, not_false_eq_true, if_true, Bool.false_eq_true, if_false]
          exact (ih.cons _).trans List.perm_middle.symm
        · have h3 : a = k := by omega
          simp only [List.filter_cons, h1, h2, h3, decide_true, decide_false, ne_eq, not_true_eq_false, if_true, Bool.false_eq_true, if_false]
          simpa [h3] using ih
  unfold lput
  refine List.perm_middle.trans ?_
  refine List.Perm.trans ?_ (List.perm_append_singleton _ _).symm
  exact h1.symm.cons _
theorem esT_le (sd : Int) (m md : Nat) (ts : Ts) (x : Int) : esT sd m md ts x ≤ 1024 := by
  have := es_le (s := sd) (x := x) (M := 2 ^ m) (MD := 2 ^ md) (ws := ts.ws) ts.R
  unfold esT
  omega
section
variable {e w : World} {F : List HP} {h0 : Nat → Option Obj} {q : Option Addr} {c gp gl gt gd gtr m md u : Nat} {D L : List Int} {sd lim s2 n k : Int} {ts : Ts} {s : Lg}
theorem pUpd (hm1 : ∀ {h1 : Nat → Option Obj}, LeH h0 h1 → ∀ w F, Own e w (imm h1 :: F) → RdC w mixQ mixC) (hm2 : ∀ {h1 : Nat → Option Obj}, LeH h0 h1 → ∀ w F, Own e w (imm h1 :: F) → RdC w twiQ twiC)
    (hp : PolC h0 gp gt gl) (ok : LgOk s) (hs : s.t.size ≤ 100) (hT : TreeA h0 s.t gtr) (hu : u ≤ 7000) (hD : D.length * 8 ≤ 140737488351232)
    (h : Own e w (imm h0 :: ldB gl gtr s.used s.most :: tinT gt m md sd lim ts :: dicO gd D s2 u :: F)) :
    Rets Tryd.prog 31 #[.pointer (some ⟨gp, 0, none⟩), .int .u64 k, .int .i64 n, .pointer (some ⟨gd, 0, none⟩)] w fun v w' =>
      ∃ (b : Bool) (s' : Lg) (vs : LE2) (h1 : Nat → Option Obj) (gtr' : Nat) (q' : Option Addr) (c' u' : Nat), v = .tuple #[.slice q' vs.length c', .bool b] ∧ LeH h0 h1 ∧ ImR h1 q' (E24 vs) ∧ u' ≤ u + 5 * (vs.length + 1) ∧ TreeA h1 s'.t gtr' ∧
      ((b = false ∧ vs = [] ∧ s' = s) ∨ (b = false ∧ k ∈ keysP s.t.toL ∧ vs = [(k, lval k s.t.toL)] ∧ s' = lgDrop k s) ∨
       (b = true ∧ k ∈ keysP s.t.toL ∧ (0 ≤ n ∧ n ≤ s.most) ∧ ∃ s1, Gn (lgDrop k s) vs s1 ∧ n ≤ s1.most - s1.used ∧ s' = (lgAdd k n s1).1)) ∧
      Own e w' (imm h1 :: ldB gl gtr' s'.used s'.most :: tinT gt m md sd lim ts :: dicO gd D s2 u' :: F) := by
  have h5 := ok.2.2.2.2
  refine policy_Policy_Update_go _ _ _ _ ⟨fun vs w => vs = [.bool (!rightB n)] ∧ Own e w (imm h0 :: ldB gl gtr s.used s.most :: tinT gt m md sd lim ts :: dicO gd D s2 u :: F), ⟨fun _ => ?_, fun hc => (by cases hc)⟩, ?_⟩
  · refine Rets.mono (cRight h) ?_
    rintro _ w ⟨rfl, h⟩
    exact ⟨_, rfl, rfl, h⟩
  clear h
  rintro w
  intros
  rename_i b2 hI
  obtain ⟨hvs, h⟩ := hI
  obtain rfl : b2 = !rightB n := by simpa using hvs
  have none_ : ∀ w, Own e w (imm h0 :: ldB gl gtr s.used s.most :: tinT gt m md sd lim ts :: dicO gd D s2 u :: F) → ∃ (b : Bool) (s' : Lg) (vs : LE2) (h1 : Nat → Option Obj) (gtr' : Nat) (q' : Option Addr) (c' u' : Nat), Value.tuple #[.slice none 0 0, .bool false] = .tuple #[.slice q' vs.length c', .bool b] ∧ LeH h0 h1 ∧ ImR h1 q' (E24 vs) ∧ u' ≤ u + 5 * (vs.length + 1) ∧ TreeA h1 s'.t gtr' ∧
      ((b = false ∧ vs = [] ∧ s' = s) ∨ (b = false ∧ k ∈ keysP s.t.toL ∧ vs = [(k, lval k s.t.toL)] ∧ s' = lgDrop k s) ∨
       (b = true ∧ k ∈ keysP s.t.toL ∧ (0 ≤ n ∧ n ≤ s.most) ∧ ∃ s1, Gn (lgDrop k s) vs s1 ∧ n ≤ s1.most - s1.used ∧ s' = (lgAdd k n s1).1)) ∧
      Own e w (imm h1 :: ldB gl gtr' s'.used s'.most :: tinT gt m md sd lim ts :: dicO gd D s2 u' :: F) := fun w h =>
    ⟨false, s, [], h0, gtr, none, 0, u, rfl, LeH.refl _, fun e w F h => .inl rfl, by omega, hT, .inl ⟨rfl, rfl, rfl⟩, h⟩
  refine ⟨fun _ => none_ w h, fun hr => ⟨_, h.immCell hp (i := 1) rfl, ?_⟩⟩
  have hr : rightB n = true := by simpa using hr
  have hr := rightB_t.1 hr
  refine Rets.mono (ldDrop (k := k) ok (by omega) hT h) ?_
  clear h
  rintro _ w ⟨rfl, h1, gtr1, le1, T1, h⟩
  have hp1 : PolC h1 gp gt gl := le1 _ _ hp
  refine ⟨_, _, rfl, fun hf => ?_, fun hf => ?_⟩
  · have hf : ¬ (lfind k s.t.toL).isSome = true := by simpa using hf
    have es : lgDrop k s = s := by unfold lgDrop; rw [if_neg hf]
    rw [es] at h T1
    exact ⟨false, s, [], h1, gtr1, none, 0, u, rfl, le1, fun e w F h => .inl rfl, by omega, T1, .inl ⟨rfl, rfl, rfl⟩, h⟩
  · have hf : (lfind k s.t.toL).isSome = true := by simpa using hf
    have hk := lfind_keyP.1 hf
    have okd : LgOk (lgDrop k s) := ok.drop
    have emd := lgDrop_mostP k s
    have hsd := drop_less ok.1 hk
    have hkn : k ∉ keysP (lgDrop k s).t.toL := fun hh => ((keys_drop ok.1 k k).1 hh).2 rfl
    refine ⟨_, h.immCell hp1 (i := 1) rfl, ?_⟩
    refine Rets.mono (ldMost h) ?_
    clear h
    rintro _ w ⟨rfl, h⟩
    rw [emd]
    refine ⟨_, rfl, fun hc => h.newR fun gv w h => ?_, fun hc => h.newR fun gr w h => ?_⟩
    · obtain ⟨h2, le2, hg, hh⟩ := Own.absorb h
      refine ⟨false, lgDrop k s, [(k, lval k s.t.toL)], h2, gtr1, some ⟨gv, 0, none⟩, 1, u, rfl, LeH.trans le1 le2, fun e w F h => .inr ⟨_, rfl, fun j u hj => h.immCell (vs := [.int .u64 k, .int .i64 (lval k s.t.toL)]) hg hj⟩, by omega, T1.mono le2, .inr (.inl ⟨rfl, hk, rfl, rfl⟩), ?_⟩
      exact hh
    · have hc := dec_f hc
      have h : Own e w (imm h1 :: rmF gl gtr1 gt m md sd lim ts gd D s2 u (lgDrop k s) gr gp none 0 0 none 0 [] F) := by
        have h : Own e w (vcO none 0 [] :: rmB gr gp (some ⟨gd, 0, none⟩) none 0 0 none 0 0 :: imm h1 :: ldB gl gtr1 (lgDrop k s).used (lgDrop k s).most :: tinT gt m md sd lim ts :: dicO gd D s2 u :: F) := h.slNil
        have h : Own e w (vcO none 0 [] :: rmB gr gp (some ⟨gd, 0, none⟩) none 0 0 none ([] : LE2).length 0 :: imm h1 :: ldB gl gtr1 (lgDrop k s).used (lgDrop k s).most :: tinT gt m md sd lim ts :: dicO gd D s2 u :: F) := h
        exact (Own.sub (h) (by repeat (first | exact Sub.nil _ | exact Sub.rfl _ | (apply Sub.cons; focus ((repeat (first | with_reducible exact Pick.here | apply Pick.there)); done)) | apply Sub.drop)))
      refine Rets.mono (pMade (n := n) (most := 1024) (fun le => hm1 (LeH.trans le1 le)) (fun le => hm2 (LeH.trans le1 le)) hp1 okd (by omega) T1 hu hD h) ?_
      clear h
      rintro _ w ⟨b, h2, gtr2, s1, vs, u1, qi, ni, ci, qg, cg, rfl, le2, T2, hu1, ⟨hG, _, hM1, hM2⟩, h⟩
      obtain ⟨ok1, em1, hsz1, hsub⟩ := hG.facts okd
      have hroom : n ≤ s1.most - s1.used := by
        cases b with
        | true => exact hM1 rfl
        | false =>
          obtain ⟨hr2, hk2 | ⟨x, _, hx⟩⟩ := hM2 rfl
          · have := sum_nil ok1 hk2
            rw [em1, emd] at hr2
            omega
          · have := esT_le sd m md ts x
            omega
      have hp2 : PolC h2 gp gt gl := le2 _ _ hp1
      have ey := lgAdd_yes (k := k) (n := n) (fun hh => hkn (hsub k hh)) ⟨hr.1, hroom⟩
      let S : World → Prop := fun w => ∃ F', Own e w (imm h2 :: rmB gr gp (some ⟨gd, 0, none⟩) qi ni ci qg vs.length cg :: F')
      refine ⟨_, rfl, h.drw fun w h => ⟨S, ⟨_, ((Own.sub (h) (by repeat (first | with_reducible exact Sub.nil _ | with_reducible exact Sub.rfl _ | (apply Sub.cons; focus ((repeat (first | with_reducible exact Pick.here | apply Pick.there)); done)) | apply Sub.drop))) : Own e w (imm h2 :: rmB gr gp (some ⟨gd, 0, none⟩) qi ni ci qg vs.length cg :: []))⟩, _, _, _, fun w ⟨F', h⟩ => Own.ld (g := gr) (k := 3) h (by repeat (first | with_reducible exact Pick.here | apply Pick.there)) rfl, _, fun w ⟨F', h⟩ => h.immCell hp2 (i := 1) rfl, ?_⟩⟩
      refine Rets.mono (ldAdd (k := k) (n := n) ok1 (by omega) T2 h) ?_
      clear h
      rintro _ w ⟨rfl, h3, gtr3, le3, T3, h⟩
      refine ⟨_, rfl, ⟨_, ((Own.sub ((h.immLe le3)) (by repeat (first | with_reducible exact Sub.nil _ | with_reducible exact Sub.rfl _ | (apply Sub.cons; focus ((repeat (first | with_reducible exact Pick.here | apply Pick.there)); done)) | apply Sub.drop))) : Own e w (imm h2 :: rmB gr gp (some ⟨gd, 0, none⟩) qi ni ci qg vs.length cg :: []))⟩, ?_⟩
      have h : Own e w (vcO qg cg vs :: imm h3 :: ldB gl gtr3 (lgAdd k n s1).1.used (lgAdd k n s1).1.most :: tinT gt m md sd lim ts :: dicO gd D s2 u1 :: F) := (Own.sub (h) (by repeat (first | exact Sub.nil _ | exact Sub.rfl _ | (apply Sub.cons; focus ((repeat (first | with_reducible exact Pick.here | apply Pick.there)); done)) | apply Sub.drop)))
      obtain ⟨h4, le4, Iv, _, h⟩ := h.slImm
      rw [show (lgAdd k n s1).2 = true by rw [ey]]
      exact ⟨true, (lgAdd k n s1).1, vs, h4, gtr3, qg, cg, u1, rfl, LeH.trans le1 (LeH.trans le2 (LeH.trans le3 le4)), Iv, hu1, T3.mono le4, .inr (.inr ⟨rfl, hk, ⟨hr.1, by omega⟩, s1, hG, hroom, rfl⟩), h⟩
theorem pLim (hm1 : ∀ {h1 : Nat → Option Obj}, LeH h0 h1 → ∀ w F, Own e w (imm h1 :: F) → RdC w mixQ mixC) (hm2 : ∀ {h1 : Nat → Option Obj}, LeH h0 h1 → ∀ w F, Own e w (imm h1 :: F) → RdC w twiQ twiC)
    (hp : PolC h0 gp gt gl) (ok : LgOk s) (hs : s.t.size ≤ 100) (hT : TreeA h0 s.t gtr) (hu : u ≤ 7000) (hD : D.length * 8 ≤ 140737488351232)
    (h : Own e w (imm h0 :: ldB gl gtr s.used s.most :: tinT gt m md sd lim ts :: dicO gd D s2 u :: F)) :
    Rets Tryd.prog 32 #[.pointer (some ⟨gp, 0, none⟩), .int .i64 n, .pointer (some ⟨gd, 0, none⟩)] w fun v w' =>
      ∃ (b : Bool) (s' : Lg) (vs : LE2) (h1 : Nat → Option Obj) (gtr' : Nat) (q' : Option Addr) (c' u' : Nat), v = .tuple #[.slice q' vs.length c', .bool b] ∧ LeH h0 h1 ∧ ImR h1 q' (E24 vs) ∧ u' ≤ u + 5 * (vs.length + 1) ∧ TreeA h1 s'.t gtr' ∧
      ((b = false ∧ vs = [] ∧ s' = s) ∨ (b = true ∧ ∃ s1, Gn s vs s1 ∧ s' = (lgLimit n s1).1)) ∧
      Own e w' (imm h1 :: ldB gl gtr' s'.used s'.most :: tinT gt m md sd lim ts :: dicO gd D s2 u' :: F) := by
  have h5 := ok.2.2.2.2
  refine policy_Policy_Limit_go _ _ _ ⟨fun vs w => vs = [.bool (!rightB n)] ∧ Own e w (imm h0 :: ldB gl gtr s.used s.most :: tinT gt m md sd lim ts :: dicO gd D s2 u :: F), ⟨fun _ => ?_, fun hc => (by cases hc)⟩, ?_⟩
  · refine Rets.mono (cRight h) ?_
    rintro _ w ⟨rfl, h⟩
    exact ⟨_, rfl, rfl, h⟩
  clear h
  rintro w
  intros
  rename_i b2 hI
  obtain ⟨hvs, h⟩ := hI
  obtain rfl : b2 = !rightB n := by simpa using hvs
  refine ⟨fun _ => ⟨false, s, [], h0, gtr, none, 0, u, rfl, LeH.refl _, fun e w F h => .inl rfl, by omega, hT, .inl ⟨rfl, rfl, rfl⟩, h⟩, fun hr => h.newR fun gr w h => ?_⟩
  have hr : rightB n = true := by simpa using hr
  have hr := rightB_t.1 hr
  have h : Own e w (imm h0 :: rmF gl gtr gt m md sd lim ts gd D s2 u s gr gp none 0 0 none 0 [] F) := by
    have h : Own e w (vcO none 0 [] :: rmB gr gp (some ⟨gd, 0, none⟩) none 0 0 none 0 0 :: imm h0 :: ldB gl gtr s.used s.most :: tinT gt m md sd lim ts :: dicO gd D s2 u :: F) := h.slNil
    have h : Own e w (vcO none 0 [] :: rmB gr gp (some ⟨gd, 0, none⟩) none 0 0 none ([] : LE2).length 0 :: imm h0 :: ldB gl gtr s.used s.most :: tinT gt m md sd lim ts :: dicO gd D s2 u :: F) := h
    exact (Own.sub (h) (by repeat (first | exact Sub.nil _ | exact Sub.rfl _ | (apply Sub.cons; focus ((repeat (first | with_reducible exact Pick.here | apply Pick.there)); done)) | apply Sub.drop)))
  refine ⟨fun z vs w => vs = [] ∧ ∃ (h1 : Nat → Option Obj) (gtr' : Nat) (s' : Lg) (ins' : List Int) (vs' : LE2) (u' : Nat) (qi' : Option Addr) (ci' : Nat) (qg' : Option Addr) (cg' : Nat), LeH h0 h1 ∧ TreeA h1 s'.t gtr' ∧ ImR h1 qi' (cs .u64 ins') ∧ (ins'.Nodup ∧ (∀ x ∈ ins', x ∈ keysP s'.t.toL) ∧ ins'.length ≤ 4) ∧ u' ≤ u + 5 * vs'.length ∧ z = s'.t.size ∧ Gn s vs' s' ∧ Own e w (imm h1 :: rmF gl gtr' gt m md sd lim ts gd D s2 u' s' gr gp qi' ins'.length ci' qg' cg' vs' F), ⟨s.t.size, rfl, h0, gtr, s, [], [], u, none, 0, none, 0, LeH.refl _, hT, fun e w F h => .inl rfl, ⟨List.nodup_nil, fun x hx => (by cases hx), by simp⟩, by simp, rfl, rfl, h⟩, ?_⟩
  clear h
  rintro z w
  intros
  rename_i hI2
  obtain ⟨_, h1, gtr1, s1, ins1, vs1, u1, qi1, ci1, qg1, cg1, le1, T1, I1, ⟨n1, k1, l1⟩, hu1, hz, hG, h⟩ := hI2
  obtain ⟨ok1, em, hsz, _⟩ := hG.facts ok
  have hnn := ok1.nn
  have hp1 : PolC h1 gp gt gl := le1 _ _ hp
  refine ⟨fun vs w => (vs = [.bool true] ∧ ∃ (z' : Nat) (h1 : Nat → Option Obj) (gtr' : Nat) (s' : Lg) (ins' : List Int) (vs' : LE2) (u' : Nat) (qi' : Option Addr) (ci' : Nat) (qg' : Option Addr) (cg' : Nat), z' < z ∧ LeH h0 h1 ∧ TreeA h1 s'.t gtr' ∧ ImR h1 qi' (cs .u64 ins') ∧ (ins'.Nodup ∧ (∀ x ∈ ins', x ∈ keysP s'.t.toL) ∧ ins'.length ≤ 4) ∧ u' ≤ u + 5 * vs'.length ∧ z' = s'.t.size ∧ Gn s vs' s' ∧ Own e w (imm h1 :: rmF gl gtr' gt m md sd lim ts gd D s2 u' s' gr gp qi' ins'.length ci' qg' cg' vs' F)) ∨
      (vs = [.bool false] ∧ ∃ (h1 : Nat → Option Obj) (gtr' : Nat) (s' : Lg) (vs' : LE2) (u' : Nat) (qi' : Option Addr) (ni' ci' : Nat) (qg' : Option Addr) (cg' : Nat), LeH h0 h1 ∧ TreeA h1 s'.t gtr' ∧ u' ≤ u + 5 * (vs'.length + 1) ∧ Gn s vs' s' ∧ s'.used ≤ n ∧ Own e w (imm h1 :: rmF gl gtr' gt m md sd lim ts gd D s2 u' s' gr gp qi' ni' ci' qg' cg' vs' F)), ⟨_, h.immCell hp1 (i := 1) rfl, ?_⟩, ?_⟩
  · refine Rets.mono (ldUsed h) ?_
    clear h
    rintro _ w ⟨rfl, h⟩
    refine ⟨_, rfl, fun hc => ?_, fun hc => ?_⟩
    · have hc := dec_t hc
      refine Rets.mono (pMore (most := 1024) (fun le => hm1 (LeH.trans le1 le)) (fun le => hm2 (LeH.trans le1 le)) hp1 ok1 (by omega) T1 I1 n1 k1 l1 (by omega) hD (by omega) h) ?_
      clear h
      rintro _ w ⟨b, h2, gtr2, s2', ins2, vs2, u2, qi2, ci2, qg2, cg2, rfl, le2, T2, I2, ⟨n2, k2, l2⟩, hu2, hM, h⟩
      rcases hM with ⟨rfl, rfl, rfl, hk⟩ | ⟨rfl, x, hx, hxe, rfl, rfl⟩
      · refine ⟨_, rfl, .inr ⟨rfl, h2, gtr2, s2', vs2, u2, qi2, ins2.length, ci2, qg2, cg2, LeH.trans le1 le2, T2, by omega, hG, ?_, h⟩⟩
        rcases hk with hk | ⟨x, _, hx⟩
        · have := sum_nil ok1 hk; omega
        · have := esT_le sd m md ts x; omega
      · have hl := drop_less ok1.1 hx
        exact ⟨_, rfl, .inl ⟨rfl, (lgDrop x s1).t.size, h2, gtr2, lgDrop x s1, ins2, vs1 ++ [(x, lval x s1.t.toL)], u2, qi2, ci2, qg2, cg2, by omega, LeH.trans le1 le2, T2, I2, ⟨n2, k2, l2 rfl⟩, by simp; omega, rfl, hG.snoc hx, h⟩⟩
    · have hc := dec_f hc
      exact .inr ⟨rfl, h1, gtr1, s1, vs1, u1, qi1, ins1.length, ci1, qg1, cg1, le1, T1, by omega, hG, by omega, h⟩
  clear h
  rintro w
  intros
  rename_i b4 hI3
  rcases hI3 with ⟨hvs3, z', h2, gtr2, s2', ins2, vs2, u2, qi2, ci2, qg2, cg2, hz', le2, T2, I2, hx, hu2, hz2, hG2, h⟩ | ⟨hvs3, h2, gtr2, s2', vs2, u2, qi2, ni2, ci2, qg2, cg2, le2, T2, hu2, hG2, hle, h⟩
  · obtain rfl : b4 = true := by simpa using hvs3
    exact ⟨fun _ => ⟨z', hz', rfl, h2, gtr2, s2', ins2, vs2, u2, qi2, ci2, qg2, cg2, le2, T2, I2, hx, hu2, hz2, hG2, h⟩, fun hb => (by cases hb)⟩
  · obtain rfl : b4 = false := by simpa using hvs3
    refine ⟨fun hb => (by cases hb), fun _ => ?_⟩
    have hp2 : PolC h2 gp gt gl := le2 _ _ hp
    let S : World → Prop := fun w => ∃ F', Own e w (imm h2 :: rmB gr gp (some ⟨gd, 0, none⟩) qi2 ni2 ci2 qg2 vs2.length cg2 :: F')
    refine h.drw fun w h => ⟨S, ⟨_, ((Own.sub (h) (by repeat (first | with_reducible exact Sub.nil _ | with_reducible exact Sub.rfl _ | (apply Sub.cons; focus ((repeat (first | with_reducible exact Pick.here | apply Pick.there)); done)) | apply Sub.drop))) : Own e w (imm h2 :: rmB gr gp (some ⟨gd, 0, none⟩) qi2 ni2 ci2 qg2 vs2.length cg2 :: []))⟩, _, _, _, fun w ⟨F', h⟩ => Own.ld (g := gr) (k := 3) h (by repeat (first | with_reducible exact Pick.here | apply Pick.there)) rfl, _, fun w ⟨F', h⟩ => h.immCell hp2 (i := 1) rfl, ?_⟩
    refine Rets.mono (ldLimit (s := s2') (n := n) T2 h) ?_
    clear h
    rintro _ w ⟨rfl, h3, gtr3, le3, T3, h⟩
    have ey : lgLimit n s2' = (⟨s2'.t, s2'.used, n⟩, true) := by unfold lgLimit; rw [if_pos ⟨hr.1, hr.2, hle⟩]
    refine ⟨_, rfl, ⟨_, ((Own.sub ((h.immLe le3)) (by repeat (first | with_reducible exact Sub.nil _ | with_reducible exact Sub.rfl _ | (apply Sub.cons; focus ((repeat (first | with_reducible exact Pick.here | apply Pick.there)); done)) | apply Sub.drop))) : Own e w (imm h2 :: rmB gr gp (some ⟨gd, 0, none⟩) qi2 ni2 ci2 qg2 vs2.length cg2 :: []))⟩, ?_⟩
    have h : Own e w (vcO qg2 cg2 vs2 :: imm h3 :: ldB gl gtr3 (lgLimit n s2').1.used (lgLimit n s2').1.most :: tinT gt m md sd lim ts :: dicO gd D s2 u2 :: F) := (Own.sub (h) (by repeat (first | exact Sub.nil _ | exact Sub.rfl _ | (apply Sub.cons; focus ((repeat (first | with_reducible exact Pick.here | apply Pick.there)); done)) | apply Sub.drop)))
    obtain ⟨h4, le4, Iv, _, h⟩ := h.slImm
    rw [show (lgLimit n s2').2 = true by rw [ey]]
    exact ⟨true, (lgLimit n s2').1, vs2, h4, gtr3, qg2, cg2, u2, rfl, LeH.trans le2 (LeH.trans le3 le4), Iv, hu2, T3.mono le4, .inr ⟨rfl, s2', hG2, rfl⟩, h⟩
theorem npTiny (h : Own e w F) : Rets Tryd.prog 39 #[.pointer none] w fun v w' => v = .pointer none ∧ Own e w' F := policy_nil_Tiny_go ⟨fun _ => ⟨rfl, h⟩, fun hc => (by cases hc)⟩
theorem npLedger (h : Own e w F) : Rets Tryd.prog 26 #[.pointer none] w fun v w' => v = .pointer none ∧ Own e w' F := policy_nil_Ledger_go ⟨fun _ => ⟨rfl, h⟩, fun hc => (by cases hc)⟩
theorem npPush (hL : L.length ≤ 1000) (hr : ∀ w, Own e w F → RdC w q (cs .u64 L)) (h : Own e w F) : Rets Tryd.prog 25 #[.pointer none, .slice q L.length c] w fun v w' => v = .tuple #[] ∧ Own e w' F := by
  refine policy_nil_Push_go _ _ _ ?_
  refine Rets.mono (npTiny h) ?_
  rintro _ w ⟨rfl, h⟩
  refine ⟨_, rfl, ?_⟩
  refine Rets.mono (tnPush hL hr h) ?_
  rintro _ w ⟨rfl, h⟩
  exact ⟨rfl, rfl, h⟩
theorem npClear (h : Own e w F) : Rets Tryd.prog 37 #[.pointer none] w fun v w' => v = .tuple #[] ∧ Own e w' F := by
  refine policy_nil_Clear_go ?_
  refine Rets.mono (npLedger h) ?_
  rintro _ w ⟨rfl, h⟩
  refine ⟨_, rfl, ?_⟩
  refine Rets.mono (lnClear h) ?_
  rintro _ w ⟨rfl, h⟩
  refine ⟨rfl, ?_⟩
  refine Rets.mono (npTiny h) ?_
  rintro _ w ⟨rfl, h⟩
  refine ⟨_, rfl, ?_⟩
  refine Rets.mono (tnClear h) ?_
  rintro _ w ⟨rfl, h⟩
  exact ⟨rfl, rfl, h⟩
theorem npAdd {d : Option Addr} (h : Own e w F) : Rets Tryd.prog 24 #[.pointer none, .int .u64 k, .int .i64 n, .pointer d] w fun v w' => v = .tuple #[.slice none 0 0, .bool false] ∧ Own e w' F := by
  refine policy_nil_Add_go _ _ _ ⟨fun vs w => vs = [.bool true] ∧ Own e w F, ⟨fun hc => (by cases hc), fun _ => ⟨rfl, h⟩⟩, ?_⟩
  rintro w
  intros
  rename_i b2 hI
  obtain ⟨hvs, h⟩ := hI
  obtain rfl : b2 = true := by simpa using hvs
  exact ⟨fun _ => ⟨rfl, h⟩, fun hc => (by cases hc)⟩
theorem npUpd {d : Option Addr} (h : Own e w F) : Rets Tryd.prog 31 #[.pointer none, .int .u64 k, .int .i64 n, .pointer d] w fun v w' => v = .tuple #[.slice none 0 0, .bool false] ∧ Own e w' F := by
  refine policy_nil_Update_go _ _ _ ⟨fun vs w => vs = [.bool true] ∧ Own e w F, ⟨fun hc => (by cases hc), fun _ => ⟨rfl, h⟩⟩, ?_⟩
  rintro w
  intros
  rename_i b2 hI
  obtain ⟨hvs, h⟩ := hI
  obtain rfl : b2 = true := by simpa using hvs
  exact ⟨fun _ => ⟨rfl, h⟩, fun hc => (by cases hc)⟩
theorem npLim {d : Option Addr} (h : Own e w F) : Rets Tryd.prog 32 #[.pointer none, .int .i64 n, .pointer d] w fun v w' => v = .tuple #[.slice none 0 0, .bool false] ∧ Own e w' F := by
  refine policy_nil_Limit_go _ _ ⟨fun vs w => vs = [.bool true] ∧ Own e w F, ⟨fun hc => (by cases hc), fun _ => ⟨rfl, h⟩⟩, ?_⟩
  rintro w
  intros
  rename_i b2 hI
  obtain ⟨hvs, h⟩ := hI
  obtain rfl : b2 = true := by simpa using hvs
  exact ⟨fun _ => ⟨rfl, h⟩, fun hc => (by cases hc)⟩
theorem npDel (h : Own e w F) : Rets Tryd.prog 38 #[.pointer none, .int .u64 k] w fun v w' => v = .tuple #[.int .i64 0, .bool false] ∧ Own e w' F := by
  refine policy_nil_Del_go _ ?_
  refine Rets.mono (npLedger h) ?_
  rintro _ w ⟨rfl, h⟩
  refine ⟨_, rfl, ?_⟩
  refine Rets.mono (lnDrop h) ?_
  rintro _ w ⟨rfl, h⟩
  exact ⟨_, _, rfl, rfl, h⟩
theorem npEst (h : Own e w F) : Rets Tryd.prog 27 #[.pointer none, .int .u64 k] w fun v w' => v = .int .i64 0 ∧ Own e w' F := by
  refine policy_nil_Estimate_go _ ?_
  refine Rets.mono (npTiny h) ?_
  rintro _ w ⟨rfl, h⟩
  refine ⟨_, rfl, ?_⟩
  refine Rets.mono (tnEst h) ?_
  rintro _ w ⟨rfl, h⟩
  exact ⟨_, rfl, rfl, h⟩
theorem npFew (h : Own e w F) {l : Nat} : Rets Tryd.prog 29 #[.slice q l c] w fun v w' => v = .bool (decide (l ≤ 30)) ∧ Own e w' F := by
  refine cortadolaw26_few_go _ _ _ ⟨?_, h⟩
  have : decide ((l : Int) ≤ 30) = decide (l ≤ 30) := by rw [decide_eq_decide]; omega
  rw [this]
end
section
variable {e w : World} {F : List HP} {h0 : Nat → Option Obj} {q : Option Addr} {L : LE2} {c : Nat} {m k n : Int}
theorem rDropO (hl : L.length ≤ 700) (hI : ImR h0 q (E24 L)) (h : Own e w (imm h0 :: F)) : Rets Tryd.prog 34 #[L24 q L.length c m, .int .u64 k] w fun v w' => ∃ (h1 : Nat → Option Obj) (q : Option Addr) (c : Nat), v = L24 q (ldrop k L).length c m ∧ LeH h0 h1 ∧ Own e w' (slO 34 2 q (ldrop k L).length c (E24 (ldrop k L)) :: imm h1 :: F) := by
  refine cortadoref24_Drop_go _ _ _ _ _ (h.newR fun ga w h => ?_)
  obtain ⟨ha0, le0, ha, hh⟩ := Own.absorb h
  clear h
  have h := hh
  clear hh
  have hI := hI.mono le0
  refine h.newR fun g2 w h => ⟨_, h.swap.immCell ha (i := 1) rfl, h.newR fun g3 w h => Own.stP' (g := g3) h (by repeat (first | with_reducible exact Pick.here | apply Pick.there)) (by simp) (by simp [Value.oneCell']) fun w h => ?_⟩
  simp only [setFrom, List.set_cons_zero, List.set_cons_succ, List.set_nil] at h
  have h : Own e w (imm ha0 :: B24 g3 none 0 0 m :: slO 34 2 none 0 0 [] :: B24 g2 none 0 0 0 :: F) := by
    have h : Own e w (slO 34 2 none 0 0 [] :: B24 g3 none 0 0 m :: B24 g2 none 0 0 0 :: imm ha0 :: F) := h.slNil
    exact (Own.sub (h) (by repeat (first | with_reducible exact Sub.nil _ | with_reducible exact Sub.rfl _ | (apply Sub.cons; focus ((repeat (first | with_reducible exact Pick.here | apply Pick.there)); done)) | apply Sub.drop)))
  refine ⟨fun z vs w => ∃ (i : Nat) (q' : Option Addr) (c' : Nat), vs = [.int .i64 (i : Int)] ∧ z + i = L.length ∧ Own e w (imm ha0 :: B24 g3 q' (ldrop k (L.take i)).length c' m :: slO 34 2 q' (ldrop k (L.take i)).length c' (E24 (ldrop k (L.take i))) :: B24 g2 none 0 0 0 :: F), ⟨L.length, 0, none, 0, rfl, rfl, h⟩, ?_⟩
  clear h
  rintro z w n2
  intros
  rename_i hI2
  obtain ⟨i, q', c', hvs, hz, h⟩ := hI2
  obtain rfl : n2 = (i : Int) := by simpa using hvs
  have hpl := ldrop_len k (L.take i)
  have htl : (L.take i).length ≤ 700 := by rw [List.length_take]; omega
  refine ⟨_, _, _, h.immCell ha (i := 0) rfl, fun hc => ?_, fun hc => ?_⟩
  · have hc := dec_t hc
    have hi : i < L.length := by omega
    have ei : IntKind.wrap .i64 ((i : Int) + 1) = ((i + 1 : Nat) : Int) := by rw [wI64 (by omega) (by omega)]; rfl
    rw [ei]
    obtain ⟨ad, rfl, rd⟩ := hI.adr24 hi h
    obtain ⟨x, hx⟩ : ∃ x, x = L[i] := ⟨_, rfl⟩
    have et : L.take (i + 1) = L.take i ++ [x] := by rw [hx]; exact List.take_succ_eq_append_getElem hi
    have d3 := ldrop_snoc k (L.take i) x
    rw [← et] at d3
    rw [← hx] at rd
    obtain ⟨M, hM⟩ : ∃ M, M = ldrop k (L.take i) := ⟨_, rfl⟩
    rw [← hM] at h hpl d3
    let S : World → Prop := fun w => Own e w (imm ha0 :: B24 g3 q' M.length c' m :: slO 34 2 q' M.length c' (E24 M) :: B24 g2 none 0 0 0 :: F)
    have h : S w := h
    refine ⟨_, _, _, Own.immCell h ha (i := 0) rfl, by omega, by omega, smR ⟨_, (rd _ _ _ h).1, ?_⟩⟩
    refine ⟨fun vs w => vs = [] ∧ ∃ (q' : Option Addr) (c' : Nat), Own e w (imm ha0 :: B24 g3 q' (ldrop k (L.take (i + 1))).length c' m :: slO 34 2 q' (ldrop k (L.take (i + 1))).length c' (E24 (ldrop k (L.take (i + 1)))) :: B24 g2 none 0 0 0 :: F), ⟨fun hn => ?_, fun hn => ?_⟩, ?_⟩
    · have hn := bool_ne hn
      rw [if_neg hn] at d3
      refine Own.drw h fun w h => ⟨S, h, _, _, _, fun w h => Own.ld (g := g3) (k := 0) h (by repeat (first | with_reducible exact Pick.here | apply Pick.there)) rfl, _, _, _, fun w h => Own.immCell h ha (i := 0) rfl, by omega, by omega, smR ⟨_, _, ⟨fun w h => (rd _ _ _ h).1, fun w h => (rd _ _ _ h).2⟩, Own.newR h fun g5 w h => ⟨?_, ?_⟩⟩⟩
      · exact h.drop
      · have h : Own e w (blk g5 34 [.int .u64 x.1, .int .i64 x.2] :: slO 34 2 q' M.length c' (E24 M) :: imm ha0 :: B24 g3 q' M.length c' m :: B24 g2 none 0 0 0 :: F) := (Own.sub (h) (by repeat (first | with_reducible exact Sub.nil _ | with_reducible exact Sub.rfl _ | (apply Sub.cons; focus ((repeat (first | with_reducible exact Pick.here | apply Pick.there)); done)) | apply Sub.drop)))
        refine app24 (x := x) (by omega) h fun q3 c3 w h => ⟨_, _, _, rfl, Own.stP (g := g3) (k := 0) h (by repeat (first | with_reducible exact Pick.here | apply Pick.there)) (by simp) (by simp [Value.oneCell']) fun w h => ⟨rfl, q3, c3, ?_⟩⟩
        simp only [setFrom, List.set_cons_zero, List.set_cons_succ, List.set_nil] at h
        rw [d3]
        exact (Own.sub (h) (by repeat (first | exact Sub.nil _ | exact Sub.rfl _ | (apply Sub.cons; focus ((repeat (first | with_reducible exact Pick.here | apply Pick.there)); done)) | apply Sub.drop)))
    · have hn := bool_eq hn
      rw [if_pos hn, List.append_nil] at d3
      rw [d3]
      exact ⟨rfl, q', c', h⟩
    clear h
    rintro w
    intros
    rename_i hI3
    obtain ⟨_, q3, c3, h⟩ := hI3
    exact ⟨z - 1, by omega, i + 1, q3, c3, rfl, by omega, h⟩
  · have hc := dec_f hc
    obtain rfl : i = L.length := by omega
    rw [List.take_length] at h
    refine ⟨_, _, _, _, ⟨Own.ld (g := g3) (k := 0) h (by repeat (first | with_reducible exact Pick.here | apply Pick.there)) rfl, Own.ld (g := g3) (k := 1) h (by repeat (first | with_reducible exact Pick.here | apply Pick.there)) rfl⟩, Own.stP' (g := g2) h (by repeat (first | with_reducible exact Pick.here | apply Pick.there)) (by simp) (by simp [Value.oneCell']) fun w h => ?_⟩
    simp only [setFrom, List.set_cons_zero, List.set_cons_succ, List.set_nil] at h
    refine ⟨_, _, _, _, ⟨Own.ld (g := g2) (k := 0) h (by repeat (first | with_reducible exact Pick.here | apply Pick.there)) rfl, Own.ld (g := g2) (k := 1) h (by repeat (first | with_reducible exact Pick.here | apply Pick.there)) rfl⟩, ?_⟩
    have h : Own e w (slO 34 2 q' (ldrop k L).length c' (E24 (ldrop k L)) :: imm ha0 :: F) := (Own.sub (h) (by repeat (first | exact Sub.nil _ | exact Sub.rfl _ | (apply Sub.cons; focus ((repeat (first | with_reducible exact Pick.here | apply Pick.there)); done)) | apply Sub.drop)))
    exact ⟨ha0, _, _, rfl, le0, h⟩
end
theorem ldrop_minus (k : Int) (vs T : LE2) : ldrop k (minusV vs (ldrop k T)) = ldrop k (minusV vs T) := by
  unfold ldrop minusV
  rw [List.filter_filter, List.filter_filter, List.filter_filter]
  congr 1; funext e
  by_cases h : e.1 = k
  · simp [h]
  · simp [h]
theorem minusV_sub {vs T : LE2} {e : Int × Int} (h : e ∈ minusV vs T) : e ∈ T ∧ e.1 ∉ keysP vs := by
  have := List.mem_filter.1 h
  exact ⟨this.1, by simpa using this.2⟩
/-- What an operation leaves. -/
def OpK (kd k n : Int) (s : Lg) (b : Bool) (vs : LE2) (s' : Lg) : Prop :=
  LgOk s' ∧ s'.t.size ≤ s.t.size + 1 ∧ vs.length ≤ s.t.size + 1 ∧ (keysP vs).Nodup ∧ (∀ v ∈ vs, v ∈ s.t.toL) ∧ (∀ v ∈ vs, v.1 ∉ keysP s'.t.toL) ∧
  (b = true → kd < 2 → (s'.t.toL).Perm (ldrop k (minusV vs s.t.toL) ++ [(k, n)]) ∧ n ≤ s.most) ∧
  (¬ (b = true ∧ kd < 2) → s'.t.toL = minusV vs s.t.toL)
theorem opk_none {kd k n : Int} {s : Lg} (ok : LgOk s) : OpK kd k n s false [] s := ⟨ok, Nat.le_succ _, Nat.zero_le _, List.nodup_nil, fun v hv => (by cases hv), fun v hv => (by cases hv), fun hb => (by cases hb), fun _ => (minusV_nil _).symm⟩
theorem opk_put {kd k n : Int} {s0 s s1 : Lg} {vs : LE2} (ok0 : LgOk s0) (ok : LgOk s) (hs : s.t.toL = ldrop k s0.t.toL) (hm : n ≤ s0.most) (hG : Gn s vs s1) (hn : 0 ≤ n ∧ n ≤ s1.most - s1.used) : OpK kd k n s0 true vs (lgAdd k n s1).1 ∨ ¬ kd < 2 := by
  by_cases hk2 : kd < 2
  · left
    obtain ⟨ok1, em1, hsz1, hsub⟩ := hG.facts ok
    obtain ⟨g1, g2, g3⟩ := gn_minus hG ok
    have hkn : k ∉ keysP s1.t.toL := fun hh => by
      have := hsub k hh
      rw [hs] at this
      obtain ⟨e, he, hke⟩ := List.mem_map.1 this
      have := (List.mem_filter.1 he).2
      simp at this
      exact this hke
    have ey := lgAdd_yes (k := k) (n := n) hkn hn
    have hT : (lgAdd k n s1).1.t.toL = lput k n s1.t.toL := by rw [ey]; exact tput_toL k n s1.t ok1.1
    have hsl : s.t.size ≤ s0.t.size := by
      rw [← Tr.size_toL, ← Tr.size_toL, hs]; exact ldrop_len _ _
    have hsa := lgAdd_size k n s1
    refine ⟨ok1.add, by omega, by omega, g2, fun v hv => ?_, fun v hv hk => ?_, fun _ _ => ⟨?_, hm⟩, fun hh => absurd ⟨rfl, hk2⟩ hh⟩
    · have := g3 v hv
      rw [hs] at this
      exact (List.mem_filter.1 this).1
    · rw [hT] at hk
      obtain ⟨e, he, hke⟩ := List.mem_map.1 hk
      have hv3 := g3 v hv
      rw [hs] at hv3
      have hvk : v.1 ≠ k := by have := (List.mem_filter.1 hv3).2; simpa using this
      have he2 : e ∈ s1.t.toL ∨ e = (k, n) := by
        unfold lput at he
        rcases List.mem_append.1 he with he | he
        · exact .inl (List.mem_filter.1 he).1
        · rcases List.mem_cons.1 he with rfl | he
          · exact .inr rfl
          · exact .inl (List.mem_filter.1 he).1
      rcases he2 with he2 | rfl
      · rw [g1] at he2
        exact (minusV_sub he2).2 (by rw [hke]; exact List.mem_map.2 ⟨v, hv, rfl⟩)
      · exact hvk hke.symm
    · rw [hT]
      refine lput_perm.trans ?_
      rw [g1, hs, ldrop_minus]
  · exact .inr hk2
theorem opk_gone {kd k n : Int} {s s1 : Lg} {vs : LE2} {b : Bool} (ok : LgOk s) (hG : Gn s vs s1) (hb : ¬ (b = true ∧ kd < 2)) (s' : Lg) (hs' : s'.t = s1.t) (ok' : LgOk s') : OpK kd k n s b vs s' := by
  obtain ⟨ok1, em1, hsz1, hsub⟩ := hG.facts ok
  obtain ⟨g1, g2, g3⟩ := gn_minus hG ok
  refine ⟨ok', by rw [hs']; omega, by omega, g2, g3, fun v hv hk => ?_, fun h1 h2 => absurd ⟨h1, h2⟩ hb, fun _ => by rw [hs', g1]⟩
  rw [hs', g1] at hk
  obtain ⟨e, he, hke⟩ := List.mem_map.1 hk
  exact (minusV_sub he).2 (by rw [hke]; exact List.mem_map.2 ⟨v, hv, rfl⟩)
abbrev encP3 (s : Int × Int × Int) : List Value := [.int .u64 s.1, .int .u64 s.2.1, .int .i64 s.2.2]
theorem encP3_len (s : Int × Int × Int) : (encP3 s).length = 3 := rfl
section
variable {W : World} {q q2 : Option Addr} {c c2 : Nat} {L : List (Int × Int × Int)} {D : List Int} {a b : Int}
theorem PolicyKeeps_spec (HL : MixLaid W) (haw : (Lit.int .i64 a).wf = true) (hbw : (Lit.int .i64 b).wf = true) (hb1 : RdC W q (cs .i64 D)) (hm1 : D.length * 8 ≤ 140737488351232) (hc1 : D.length ≤ c) (hw1 : ∀ x ∈ D, (Lit.int .i64 x).wf = true)
    (hb2 : RdC W q2 (L.flatMap encP3)) (hm2 : L.length ≤ maxLen) (hc2 : L.length ≤ c2) (hw2 : ∀ s ∈ L, (Lit.int .u64 s.1).wf = true ∧ (Lit.int .u64 s.2.1).wf = true ∧ (Lit.int .i64 s.2.2).wf = true) :
    Rets Tryd.prog 7 #[.agg #[.int .i64 a, .int .i64 b, .slice q D.length c], .slice q2 L.length c2] W fun v w' => v = .bool true ∧ Below W.heap.size W w' := by
  refine Rets.mono (k := fun v w' => v = .bool true ∧ ∃ F, Own W w' (snap W :: F)) ?_ (fun v w' h => ⟨h.1, h.2.elim fun F h => h.below⟩)
  have h := Own.begin W
  rw [snap_imm] at h ⊢
  obtain ⟨hW, ehW⟩ : ∃ hW : Nat → Option Obj, hW = (fun b => W.heap[b]?) := ⟨_, rfl⟩
  have rd1 : ∀ {h1 : Nat → Option Obj}, LeH hW h1 → ∀ w F, Own W w (imm h1 :: F) → RdC w mixQ mixC := fun le w F h => by rw [ehW] at le; exact Own.snapRd (W := W) (h.immLe le) HL.rd
  have rd2 : ∀ {h1 : Nat → Option Obj}, LeH hW h1 → ∀ w F, Own W w (imm h1 :: F) → RdC w twiQ twiC := fun le w F h => by rw [ehW] at le; exact Own.snapRd (W := W) (h.immLe le) HL.rd2
  have rdD : ∀ {h1 : Nat → Option Obj}, LeH hW h1 → ∀ w F, Own W w (imm h1 :: F) → RdC w q (cs .i64 D) := fun le w F h => by rw [ehW] at le; exact Own.snapRd (W := W) (h.immLe le) hb1
  have snp : ∀ {h1 : Nat → Option Obj} {w F}, LeH hW h1 → Own W w (imm h1 :: F) → Own W w (snap W :: F) := fun le h => by rw [ehW] at le; exact h.immLe le
  rw [← ehW] at h ⊢
  clear ehW hb1
  have aw : ∀ {h1 : Nat → Option Obj} {w F}, LeH hW h1 → Own W w (imm h1 :: F) → Rets Tryd.prog 22 #[] w fun v w' => ∃ b, v = Value.bool b ∧ (Value.bool b) = .bool true ∧ ∃ F, Own W w' (imm hW :: F) := fun le h => by
    refine Rets.mono (pcAwake (fun le2 => rd1 (LeH.trans le le2)) (fun le2 => rd2 (LeH.trans le le2)) h) ?_
    rintro _ w ⟨rfl, F, h⟩
    exact ⟨_, rfl, rfl, _, h.immLe le⟩
  refine cortadolaw26_PolicyKeeps_go _ _ _ _ _ _ _ _ (h.newR fun ga w h => ?_)
  obtain ⟨ha0, le0, ha, hh⟩ := Own.absorb h
  clear h
  have h := hh
  clear hh
  refine ⟨fun vs w => vs = [.bool (decide (30 < L.length ∨ 64 < b))] ∧ Own W w (imm ha0 :: []), ?_, ?_⟩
  · refine Rets.mono (npFew (q := q2) (c := c2) h) ?_
    clear h
    rintro _ w ⟨rfl, h⟩
    refine ⟨_, rfl, fun hq => ⟨_, h.immCell ha (i := 1) rfl, ?_, h⟩, fun hq => ⟨?_, h⟩⟩
    · have hq : L.length ≤ 30 := by simpa using hq
      have : decide (b > 64) = decide (30 < L.length ∨ 64 < b) := by rw [decide_eq_decide]; omega
      rw [this]
    · have hq : 30 < L.length := by simpa using hq
      rw [decide_eq_true (by omega)]
  clear h
  rintro w
  intros
  rename_i bx hI
  obtain ⟨hvs, h⟩ := hI
  obtain rfl : bx = decide (30 < L.length ∨ 64 < b) := by simpa using hvs
  refine ⟨fun hq => aw le0 h, fun hq => ?_⟩
  have hq := of_decide_eq_false hq
  refine ⟨_, h.immCell ha (i := 0) rfl, _, h.immCell ha (i := 1) rfl, ?_⟩
  refine Rets.mono (pNew (a := a) (b := b) (sd := 5) (fun w h => rd1 le0 w _ h) h) ?_
  clear h
  rintro _ w ⟨gp, gt, gl, gtr, m_, md, h1, rfl, le1, hp, T1, h⟩
  have le1' := LeH.trans le0 le1
  have ha1 := le1 _ _ ha
  obtain ⟨lim, hlim⟩ : ∃ lim, lim = maxI 1 (minI b 4096) := ⟨_, rfl⟩
  rw [← hlim] at h
  clear hlim
  refine ⟨_, rfl, _, _, _, h.immCell ha1 (i := 2) rfl, ?_⟩
  refine Rets.mono (dcNew (L := D) (q := q) (c := c) (s := 9) h (fun w h => rdD le1' w _ h) hm1) ?_
  clear h
  rintro _ w ⟨gd, rfl, h⟩
  obtain ⟨ts, hts⟩ : ∃ ts, ts = t0 m_ md := ⟨_, rfl⟩
  rw [← hts] at h
  clear hts
  have ok0 : LgOk ⟨.nil, 0, cutI a⟩ := LgOk.nil (cutI_bd a)
  have h : Own W w (imm h1 :: ldB gl gtr (⟨.nil, 0, cutI a⟩ : Lg).used (⟨.nil, 0, cutI a⟩ : Lg).most :: tinT gt m_ md 5 lim ts :: dicO gd D 9 0 :: []) := (Own.sub (h) (by repeat (first | exact Sub.nil _ | exact Sub.rfl _ | (apply Sub.cons; focus ((repeat (first | with_reducible exact Pick.here | apply Pick.there)); done)) | apply Sub.drop)))
  refine ⟨_, rfl, fun z vs w => ∃ (i : Nat) (s : Lg) (Th : LE2) (h1 : Nat → Option Obj) (gtr u : Nat) (q4 : Option Addr) (c4 : Nat), vs = [.slice q4 Th.length c4, .int .i64 (i : Int)] ∧ z + i = L.length ∧ LgOk s ∧ s.t.size ≤ i ∧ Th.Perm s.t.toL ∧ u ≤ 200 * i ∧ LeH hW h1 ∧ PolC h1 gp gt gl ∧ TreeA h1 s.t gtr ∧ ImR h1 q4 (E24 Th) ∧ Own W w (imm h1 :: ldB gl gtr s.used s.most :: tinT gt m_ md 5 lim ts :: dicO gd D 9 u :: []), ⟨L.length, 0, ⟨.nil, 0, cutI a⟩, [], h1, gtr, 0, none, 0, rfl, rfl, ok0, Nat.le_refl _, List.Perm.refl _, by omega, le1', hp, T1, fun e w F h => .inl rfl, h⟩, ?_⟩
  clear h T1 le1 le1' hp ok0 ha1 ha le0
  rintro z w v12 qz k5 k6 n4
  intros
  rename_i hI2
  obtain ⟨i, s, Th, h1, gtr, u, q4, c4, hvs2, hz, ok, hsz, hPm, hu, le1, hp, T1, ITh, h⟩ := hI2
  obtain ⟨⟨rfl, rfl, rfl⟩, rfl⟩ : (qz = q4 ∧ k5 = Th.length ∧ k6 = c4) ∧ n4 = (i : Int) := by simpa using hvs2
  have hl1 := Tr.size_toL s.t
  have hThl : Th.length = s.t.size := by rw [hPm.length_eq, hl1]
  refine ⟨fun hc1 => ?_, fun hc1 => ?_⟩
  · have hc1 := dec_t hc1
    have hi : i < L.length := by omega
    have ei : IntKind.wrap .i64 ((i : Int) + 1) = ((i + 1 : Nat) : Int) := by rw [wI64 (by omega) (by omega)]; rfl
    rw [ei]
    obtain ⟨ad, eq2, hWc⟩ := hb2.rec encP3_len hi (by omega)
    obtain ⟨p, hpe⟩ : ∃ p, p = L[i] := ⟨_, rfl⟩
    have rd : ∀ {hx : Nat → Option Obj} {F w}, LeH hW hx → Own W w (imm hx :: F) → cellAt w ((ad.add (Int.toNat (i : Int) * 3)).add 0) (.int .u64 p.1) ∧ cellAt w ((ad.add (Int.toNat (i : Int) * 3)).add 1) (.int .u64 p.2.1) ∧ cellAt w ((ad.add (Int.toNat (i : Int) * 3)).add 2) (.int .i64 p.2.2) := fun hle h => by
      have h := snp hle h
      rw [Int.toNat_natCast, hpe]
      exact ⟨h.snapCell (hWc i hi 0 _ rfl), h.snapCell (hWc i hi 1 _ rfl), h.snapCell (hWc i hi 2 _ rfl)⟩
    rw [eq2]
    clear eq2 hWc
    let S : World → Prop := fun w => ∃ F', Own W w (imm hW :: F')
    refine ⟨fun vs w => vs = [.int .u64 (Int.tmod p.1 3), .int .i64 s.most] ∧ Own W w (imm h1 :: ldB gl gtr s.used s.most :: tinT gt m_ md 5 lim ts :: dicO gd D 9 u :: []), h.drw fun w h => ⟨S, ⟨_, h.immLe le1⟩, by omega, by omega, smR ⟨_, fun w ⟨F', h⟩ => (rd (LeH.refl _) h).1, by omega, ?_⟩⟩, ?_⟩
    · refine Rets.mono (pLedger hp h) ?_
      clear h
      rintro _ w ⟨rfl, h⟩
      refine ⟨_, rfl, ⟨_, h.immLe le1⟩, ?_⟩
      refine Rets.mono (ldMost h) ?_
      clear h
      rintro _ w ⟨rfl, h⟩
      exact ⟨_, rfl, ⟨_, h.immLe le1⟩, rfl, h⟩
    clear h
    rintro w n7 n8
    intros
    rename_i hI3
    obtain ⟨hvs3, h⟩ := hI3
    obtain ⟨rfl, rfl⟩ : n7 = Int.tmod p.1 3 ∧ n8 = s.most := by simpa using hvs3
    obtain ⟨kd, hkd⟩ : ∃ kd, kd = Int.tmod p.1 3 := ⟨_, rfl⟩
    have hpw := wfU64 (hw2 p (by rw [hpe]; exact List.getElem_mem hi)).1
    have hkb : 0 ≤ kd ∧ kd ≤ 2 := by rw [hkd, Int.tmod_eq_emod_of_nonneg (by omega)]; omega
    rw [← hkd]
    clear hkd
    refine ⟨fun vs w => ∃ (b : Bool) (s' : Lg) (gone : LE2) (h2 : Nat → Option Obj) (gtr' u' : Nat) (q9 : Option Addr) (c9 : Nat), vs = [.slice q9 gone.length c9, .bool b] ∧ OpK kd p.2.1 p.2.2 s b gone s' ∧ LeH h1 h2 ∧ ImR h2 q9 (E24 gone) ∧ TreeA h2 s'.t gtr' ∧ u' ≤ u + 5 * (gone.length + 1) ∧ Own W w (imm h2 :: ldB gl gtr' s'.used s'.most :: tinT gt m_ md 5 lim ts :: dicO gd D 9 u' :: []), ⟨fun hk => ?_, fun hk => ⟨fun hk2 => ?_, fun hk2 => ?_⟩⟩, ?_⟩
    · have hk := beq_t hk
      refine h.drw fun w h => ⟨by omega, by omega, smR ⟨by omega, by omega, smR ⟨_, (rd le1 h).2.1, _, (rd le1 h).2.2, ?_⟩⟩⟩
      refine Rets.mono (pAdd (k := p.2.1) (n := p.2.2) (fun le => rd1 (LeH.trans le1 le)) (fun le => rd2 (LeH.trans le1 le)) hp ok (by omega) T1 (by omega) hm1 h) ?_
      clear h
      rintro _ w (⟨_, rfl, h⟩ | ⟨hask, b, s1, vs, h2, gtr2, q9, c9, u2, rfl, le2, Iv, ⟨hG, _, hM1, _⟩, hu2, T2, h⟩)
      · exact ⟨_, _, _, _, rfl, false, s, [], h1, gtr, u, none, 0, rfl, opk_none ok, LeH.refl _, fun e w F h => .inl rfl, T1, by omega, h⟩
      · refine ⟨_, _, _, _, rfl, b, adS b p.2.1 p.2.2 s1, vs, h2, gtr2, u2, q9, c9, rfl, ?_, le2, Iv, T2, hu2, h⟩
        cases b with
        | false => exact opk_gone ok hG (by simp) _ rfl (hG.facts ok).1
        | true =>
          have hsl : s.t.toL = ldrop p.2.1 s.t.toL := (ldrop_no fun e he hke => hask.2.2 (List.mem_map.2 ⟨e, he, hke⟩)).symm
          rcases opk_put (kd := kd) ok ok hsl hask.2.1 hG ⟨hask.1, hM1 rfl⟩ with h1 | h1
          · exact h1
          · omega
    · have hk2 := beq_t hk2
      refine h.drw fun w h => ⟨by omega, by omega, smR ⟨by omega, by omega, smR ⟨_, (rd le1 h).2.1, _, (rd le1 h).2.2, ?_⟩⟩⟩
      refine Rets.mono (pUpd (k := p.2.1) (n := p.2.2) (fun le => rd1 (LeH.trans le1 le)) (fun le => rd2 (LeH.trans le1 le)) hp ok (by omega) T1 (by omega) hm1 h) ?_
      clear h
      rintro _ w ⟨b, s', vs, h2, gtr2, q9, c9, u2, rfl, le2, Iv, hu2, T2, hcase, h⟩
      refine ⟨_, _, _, _, rfl, b, s', vs, h2, gtr2, u2, q9, c9, rfl, ?_, le2, Iv, T2, hu2, h⟩
      rcases hcase with ⟨rfl, rfl, rfl⟩ | ⟨rfl, hkk, rfl, rfl⟩ | ⟨rfl, hkk, hnn, s1, hG, hroom, rfl⟩
      · exact opk_none ok
      · exact opk_gone ok (show Gn s [(p.2.1, lval p.2.1 s.t.toL)] (lgDrop p.2.1 s) from ⟨hkk, rfl, rfl⟩) (by simp) _ rfl ok.drop
      · rcases opk_put (kd := kd) ok ok.drop (lgDrop_toLP ok.1 p.2.1) hnn.2 hG ⟨hnn.1, hroom⟩ with h1 | h1
        · exact h1
        · omega
    · have hk := beq_f hk
      have hk2 := beq_f hk2
      refine ⟨by omega, by omega, smR ⟨_, (rd le1 h).2.2, ?_⟩⟩
      refine Rets.mono (pLim (n := p.2.2) (fun le => rd1 (LeH.trans le1 le)) (fun le => rd2 (LeH.trans le1 le)) hp ok (by omega) T1 (by omega) hm1 h) ?_
      clear h
      rintro _ w ⟨b, s', vs, h2, gtr2, q9, c9, u2, rfl, le2, Iv, hu2, T2, hcase, h⟩
      refine ⟨_, _, _, _, rfl, b, s', vs, h2, gtr2, u2, q9, c9, rfl, ?_, le2, Iv, T2, hu2, h⟩
      rcases hcase with ⟨rfl, rfl, rfl⟩ | ⟨rfl, s1, hG, rfl⟩
      · exact opk_none ok
      · have hkd : ¬ kd < 2 := by omega
        refine opk_gone ok hG (fun hh => hkd hh.2) _ ?_ (hG.facts ok).1.limit
        unfold lgLimit; split <;> rfl
    clear h T1
    rintro w q9 k13 k14 b7
    intros
    rename_i hI4
    obtain ⟨b, s', gone, h2, gtr2, u2, q9', c9, hvs4, hO, le2, Ig, T2, hu2, h⟩ := hI4
    obtain ⟨⟨rfl, rfl, rfl⟩, rfl⟩ : (q9 = q9' ∧ k13 = gone.length ∧ k14 = c9) ∧ b7 = b := by simpa using hvs4
    obtain ⟨ok', hsz', hgl, hgn, hgm, hgk, hput, hgone⟩ := hO
    have le3 := LeH.trans le1 le2
    have hp2 : PolC h2 gp gt gl := le2 _ _ hp
    have hl2 := Tr.size_toL s'.t
    have hThn : (keysP Th).Nodup := (hPm.map (·.1)).nodup_iff.2 (keysP_nodup ok.1)
    have hmin : ∀ j, (minusV (gone.take j) Th).length ≤ 100 := fun j => by
      have := List.length_filter_le (fun e : Int × Int => decide (e.1 ∉ keysP (gone.take j))) Th
      unfold minusV; omega
    refine ⟨fun z vs w => ∃ (j : Nat) (h3 : Nat → Option Obj) (q10 : Option Addr) (c10 : Nat), vs = [.slice q10 (minusV (gone.take j) Th).length c10, .int .i64 (j : Int)] ∧ z + j = gone.length ∧ LeH h2 h3 ∧ ImR h3 q10 (E24 (minusV (gone.take j) Th)) ∧ Own W w (imm h3 :: ldB gl gtr2 s'.used s'.most :: tinT gt m_ md 5 lim ts :: dicO gd D 9 u2 :: []), ⟨gone.length, 0, h2, qz, k6, by rw [List.take_zero, minusV_nil]; rfl, rfl, LeH.refl _, by rw [List.take_zero, minusV_nil]; exact ITh.mono le2, h⟩, ?_⟩
    clear h
    rintro z2 w v278 q10 k17 k18 n14
    intros
    rename_i hI5
    obtain ⟨j, h3, q10', c10, hvs5, hz2, le4, I3, h⟩ := hI5
    obtain ⟨⟨rfl, rfl, rfl⟩, rfl⟩ : (q10 = q10' ∧ k17 = (minusV (gone.take j) Th).length ∧ k18 = c10) ∧ n14 = (j : Int) := by simpa using hvs5
    have hMl := hmin j
    have hp3 : PolC h3 gp gt gl := le4 _ _ hp2
    refine ⟨fun hc2 => ?_, fun hc2 => ?_⟩
    · have hc2 := dec_t hc2
      have hj : j < gone.length := by omega
      have hvT : gone[j] ∈ Th := hPm.mem_iff.2 (hgm _ (List.getElem_mem hj))
      have hvk : gone[j].1 ∉ keysP (gone.take j) := by
        have h1 : (keysP (gone.take (j + 1))).Nodup := hgn.sublist ((List.take_sublist _ _).map _)
        rw [List.take_succ_eq_append_getElem hj, keysP, List.map_append, List.nodup_append] at h1
        exact fun hh => h1.2.2 _ hh _ (by simp) rfl
      have hvM : gone[j] ∈ minusV (gone.take j) Th := List.mem_filter.2 ⟨hvT, by simpa using hvk⟩
      have hMn : (keysP (minusV (gone.take j) Th)).Nodup := hThn.sublist ((List.filter_sublist).map _)
      have hlf := lfind_of hMn hvM
      have hlv : lval gone[j].1 (minusV (gone.take j) Th) = gone[j].2 := by unfold lval; rw [hlf]; rfl
      have hst : minusV (gone.take (j + 1)) Th = ldrop gone[j].1 (minusV (gone.take j) Th) := by rw [List.take_succ_eq_append_getElem hj, minusV_snoc]
      have hnl : (lfind gone[j].1 s'.t.toL).isSome = false := by
        cases hx : (lfind gone[j].1 s'.t.toL).isSome with
        | false => rfl
        | true => exact absurd (lfind_keyP.1 hx) (hgk _ (List.getElem_mem hj))
      obtain ⟨ag, eqg, rdg⟩ := (Ig.mono le4).adr24 hj h
      rw [eqg]
      refine ⟨by omega, by omega, smR ⟨_, (rdg _ _ _ h).1, ?_⟩⟩
      refine Rets.mono (rCost (L := minusV (gone.take j) Th) (k := gone[j].1) (m := 0) (c := k18) (by omega) I3 h) ?_
      clear h
      rintro _ w ⟨rfl, h⟩
      rw [hlv, hlf]
      let S7 : World → Prop := fun w => ∃ F', Own W w (imm h3 :: F')
      refine ⟨_, _, rfl, h.drw fun w h => ⟨S7, ⟨_, h⟩, by omega, by omega, smR ⟨_, fun w ⟨F', h⟩ => (rdg _ _ _ h).1, ?_⟩⟩⟩
      refine Rets.mono (pLedger hp3 h) ?_
      clear h
      rintro _ w ⟨rfl, h⟩
      refine ⟨_, rfl, ⟨_, h⟩, ?_⟩
      refine Rets.mono (ldCost (k := gone[j].1) (T2.mono le4) (by omega) ok'.1 h) ?_
      clear h
      rintro _ w ⟨rfl, h⟩
      rw [hnl]
      refine ⟨_, _, rfl, fun vs w => vs = [.bool false] ∧ Own W w (imm h3 :: ldB gl gtr2 s'.used s'.most :: tinT gt m_ md 5 lim ts :: dicO gd D 9 u2 :: []), ⟨fun _ => ⟨fun _ => ⟨by omega, by omega, smR ⟨_, (rdg _ _ _ h).2, by simp, h⟩⟩, fun hq7 => (by cases hq7)⟩, fun hq7 => (by cases hq7)⟩, ?_⟩
      clear h
      rintro w
      intros
      rename_i b10 hI6
      obtain ⟨hvs6, h⟩ := hI6
      obtain rfl : b10 = false := by simpa using hvs6
      refine ⟨fun hb => (by cases hb), fun _ => ⟨by omega, by omega, smR ⟨_, (rdg _ _ _ h).1, ?_⟩⟩⟩
      refine Rets.mono (rDrop (L := minusV (gone.take j) Th) (k := gone[j].1) (m := 0) (c := k18) (by omega) I3 h) ?_
      clear h
      rintro _ w ⟨h5, q12, c12, rfl, le5, I5, _, h⟩
      rw [← hst] at I5 ⊢
      exact ⟨_, _, _, _, rfl, z2 - 1, by omega, j + 1, h5, q12, c12, by rw [wI64 (by omega) (by omega)]; rfl, by omega, LeH.trans le4 le5, I5, h⟩
    · have hc2 := dec_f hc2
      obtain rfl : j = gone.length := by omega
      rw [List.take_length] at I3 hMl ⊢
      refine ⟨fun hb7 => ?_, fun hb7 => ?_⟩
      · refine ⟨fun vs w => ∃ (Th2 : LE2) (h4 : Nat → Option Obj) (q16 : Option Addr) (c16 : Nat), vs = [.slice q16 Th2.length c16] ∧ Th2.Perm s'.t.toL ∧ LeH h2 h4 ∧ ImR h4 q16 (E24 Th2) ∧ Own W w (imm h4 :: ldB gl gtr2 s'.used s'.most :: tinT gt m_ md 5 lim ts :: dicO gd D 9 u2 :: []), ⟨fun hk2 => ?_, fun hk2 => ⟨_, h3, q10, k18, rfl, ?_, le4, I3, h⟩⟩, ?_⟩
        · have hk2 := dec_t hk2
          obtain ⟨hPT, hnm⟩ := hput hb7 hk2
          have hmem : (p.2.1, p.2.2) ∈ s'.t.toL := hPT.mem_iff.2 (by simp)
          have hlf := lfind_of (keysP_nodup ok'.1) hmem
          have hlf : lfind p.2.1 s'.t.toL = some (p.2.1, p.2.2) := hlf
          have hlv : lval p.2.1 s'.t.toL = p.2.2 := by unfold lval; rw [hlf]; rfl
          have hP2 : (ldrop p.2.1 (minusV gone Th) ++ [(p.2.1, p.2.2)]).Perm s'.t.toL := (((hPm.filter _).filter _).append_right _).trans hPT.symm
          refine h.drw fun w h => ⟨S, ⟨_, h.immLe (LeH.trans le3 le4)⟩, by omega, by omega, smR ⟨_, fun w ⟨F', h⟩ => (rd (LeH.refl _) h).2.1, ?_⟩⟩
          refine Rets.mono (pLedger hp3 h) ?_
          clear h
          rintro _ w ⟨rfl, h⟩
          refine ⟨_, rfl, ⟨_, h.immLe (LeH.trans le3 le4)⟩, ?_⟩
          refine Rets.mono (ldCost (k := p.2.1) (T2.mono le4) (by omega) ok'.1 h) ?_
          clear h
          rintro _ w ⟨rfl, h⟩
          rw [hlv, hlf]
          refine ⟨_, _, rfl, fun vs w => vs = [.bool false] ∧ Own W w (imm h3 :: ldB gl gtr2 s'.used s'.most :: tinT gt m_ md 5 lim ts :: dicO gd D 9 u2 :: []), ⟨fun _ => ⟨by omega, by omega, smR ⟨_, (rd (LeH.trans le3 le4) h).2.2, fun _ => ⟨?_, h⟩, fun hq7 => (by simp at hq7)⟩⟩, fun hq7 => (by cases hq7)⟩, ?_⟩
          · rw [show decide (p.2.2 > s.most) = false from decide_eq_false (by omega)]
          clear h
          rintro w
          intros
          rename_i b12 hI6
          obtain ⟨hvs6, h⟩ := hI6
          obtain rfl : b12 = false := by simpa using hvs6
          refine ⟨fun hb => (by cases hb), fun _ => ⟨by omega, by omega, smR ⟨_, (rd (LeH.trans le3 le4) h).2.1, ?_⟩⟩⟩
          refine Rets.mono (rDropO (L := minusV gone Th) (k := p.2.1) (m := 0) (c := k18) (by omega) I3 h) ?_
          clear h
          rintro _ w ⟨h5, q12, c12, rfl, le5, h⟩
          have le6 := LeH.trans (LeH.trans le3 le4) le5
          have hld := ldrop_len p.2.1 (minusV gone Th)
          refine ⟨_, _, _, _, rfl, h.drw fun w h => ⟨by omega, by omega, smR ⟨by omega, by omega, smR ⟨_, (rd le6 h.drop).2.1, _, (rd le6 h.drop).2.2, h.newR fun ge w h => ?_⟩⟩⟩⟩
          have h : Own W w (blk ge 34 [.int .u64 (p.2.1, p.2.2).1, .int .i64 (p.2.1, p.2.2).2] :: slO 34 2 q12 (ldrop p.2.1 (minusV gone Th)).length c12 (E24 (ldrop p.2.1 (minusV gone Th))) :: imm h5 :: ldB gl gtr2 s'.used s'.most :: tinT gt m_ md 5 lim ts :: dicO gd D 9 u2 :: []) := h
          refine app24 (x := (p.2.1, p.2.2)) (by omega) h fun q15 c15 w h => ?_
          obtain ⟨h6, le7, I6, _, h⟩ := h.slImm
          exact ⟨_, _, _, rfl, _, h6, q15, c15, rfl, hP2, LeH.trans le4 (LeH.trans le5 le7), I6, h⟩
        · have hk2 := dec_f hk2
          rw [hgone (fun hh => hk2 hh.2)]
          exact hPm.filter _
        clear h I3 hMl
        rintro w v370 q16 k26 k27
        intros
        rename_i hI7
        obtain ⟨Th2, h4, q16', c16, hvs7, hP2, le4, I4, h⟩ := hI7
        obtain ⟨rfl, rfl, rfl⟩ : q16 = q16' ∧ k26 = Th2.length ∧ k27 = c16 := by simpa using hvs7
        have hp4 : PolC h4 gp gt gl := le4 _ _ hp2
        have T4 := T2.mono le4
        refine ⟨fun vs w => vs = [.bool false] ∧ Own W w (imm h4 :: ldB gl gtr2 s'.used s'.most :: tinT gt m_ md 5 lim ts :: dicO gd D 9 u2 :: []), ?_, ?_⟩
        · have hTl2 : Th2.length = s'.t.size := by rw [hP2.length_eq, hl2]
          refine Rets.mono (pLedger hp4 h) ?_
          clear h
          rintro _ w ⟨rfl, h⟩
          refine ⟨_, rfl, ?_⟩
          refine Rets.mono (ldLen T4 h) ?_
          clear h
          rintro _ w ⟨rfl, h⟩
          refine ⟨_, rfl, fun _ => ?_, fun hq7 => (by rw [hTl2] at hq7; simp at hq7)⟩
          refine Rets.mono (pLedger hp4 h) ?_
          clear h
          rintro _ w ⟨rfl, h⟩
          refine ⟨_, rfl, ?_⟩
          refine Rets.mono (ldUsed h) ?_
          clear h
          rintro _ w ⟨rfl, h⟩
          refine ⟨_, rfl, ?_⟩
          refine Rets.mono (pLedger hp4 h) ?_
          clear h
          rintro _ w ⟨rfl, h⟩
          refine ⟨_, rfl, ?_⟩
          refine Rets.mono (ldMost h) ?_
          clear h
          rintro _ w ⟨rfl, h⟩
          refine ⟨_, rfl, fun _ => ?_, fun hq7 => (by have := dec_t hq7; have := ok'.2.2.2.1; omega)⟩
          refine Rets.mono (pLedger hp4 h) ?_
          clear h
          rintro _ w ⟨rfl, h⟩
          refine ⟨_, rfl, ?_⟩
          refine Rets.mono (ldUsed h) ?_
          clear h
          rintro _ w ⟨rfl, h⟩
          refine ⟨_, rfl, ?_⟩
          have hsv : sumV Th2 = s'.used := by rw [sumV_perm hP2, ok'.2.1]
          refine Rets.mono (rUsed (L := Th2) (fun e he => ok'.2.2.1 e (hP2.mem_iff.1 he)) (by have := ok'.2.2.2.1; have := ok'.2.2.2.2; omega) (by omega) I4 h) ?_
          clear h
          rintro _ w ⟨rfl, h⟩
          rw [hsv]
          exact ⟨_, rfl, by simp, h⟩
        clear h
        rintro w
        intros
        rename_i b13 hI9
        obtain ⟨hvs9, h⟩ := hI9
        obtain rfl : b13 = false := by simpa using hvs9
        exact ⟨fun hb => (by cases hb), fun _ => ⟨z - 1, by omega, i + 1, s', Th2, h4, gtr2, u2, q16, k27, rfl, by omega, ok', by omega, hP2, by omega, LeH.trans le3 le4, hp4, T4, I4, h⟩⟩
      · have hP2 : (minusV gone Th).Perm s'.t.toL := by
          rw [hgone (fun hh => by rw [hb7] at hh; cases hh.1)]
          exact hPm.filter _
        refine ⟨fun vs w => ∃ (Th2 : LE2) (h4 : Nat → Option Obj) (q16 : Option Addr) (c16 : Nat), vs = [.slice q16 Th2.length c16] ∧ Th2.Perm s'.t.toL ∧ LeH h2 h4 ∧ ImR h4 q16 (E24 Th2) ∧ Own W w (imm h4 :: ldB gl gtr2 s'.used s'.most :: tinT gt m_ md 5 lim ts :: dicO gd D 9 u2 :: []), ⟨_, h3, q10, k18, rfl, hP2, le4, I3, h⟩, ?_⟩
        clear h I3 hMl hP2
        rintro w v370 q16 k26 k27
        intros
        rename_i hI7
        obtain ⟨Th2, h4, q16', c16, hvs7, hP2, le4, I4, h⟩ := hI7
        obtain ⟨rfl, rfl, rfl⟩ : q16 = q16' ∧ k26 = Th2.length ∧ k27 = c16 := by simpa using hvs7
        have hp4 : PolC h4 gp gt gl := le4 _ _ hp2
        have T4 := T2.mono le4
        refine ⟨fun vs w => vs = [.bool false] ∧ Own W w (imm h4 :: ldB gl gtr2 s'.used s'.most :: tinT gt m_ md 5 lim ts :: dicO gd D 9 u2 :: []), ?_, ?_⟩
        · have hTl2 : Th2.length = s'.t.size := by rw [hP2.length_eq, hl2]
          refine Rets.mono (pLedger hp4 h) ?_
          clear h
          rintro _ w ⟨rfl, h⟩
          refine ⟨_, rfl, ?_⟩
          refine Rets.mono (ldLen T4 h) ?_
          clear h
          rintro _ w ⟨rfl, h⟩
          refine ⟨_, rfl, fun _ => ?_, fun hq7 => (by rw [hTl2] at hq7; simp at hq7)⟩
          refine Rets.mono (pLedger hp4 h) ?_
          clear h
          rintro _ w ⟨rfl, h⟩
          refine ⟨_, rfl, ?_⟩
          refine Rets.mono (ldUsed h) ?_
          clear h
          rintro _ w ⟨rfl, h⟩
          refine ⟨_, rfl, ?_⟩
          refine Rets.mono (pLedger hp4 h) ?_
          clear h
          rintro _ w ⟨rfl, h⟩
          refine ⟨_, rfl, ?_⟩
          refine Rets.mono (ldMost h) ?_
          clear h
          rintro _ w ⟨rfl, h⟩
          refine ⟨_, rfl, fun _ => ?_, fun hq7 => (by have := dec_t hq7; have := ok'.2.2.2.1; omega)⟩
          refine Rets.mono (pLedger hp4 h) ?_
          clear h
          rintro _ w ⟨rfl, h⟩
          refine ⟨_, rfl, ?_⟩
          refine Rets.mono (ldUsed h) ?_
          clear h
          rintro _ w ⟨rfl, h⟩
          refine ⟨_, rfl, ?_⟩
          have hsv : sumV Th2 = s'.used := by rw [sumV_perm hP2, ok'.2.1]
          refine Rets.mono (rUsed (L := Th2) (fun e he => ok'.2.2.1 e (hP2.mem_iff.1 he)) (by have := ok'.2.2.2.1; have := ok'.2.2.2.2; omega) (by omega) I4 h) ?_
          clear h
          rintro _ w ⟨rfl, h⟩
          rw [hsv]
          exact ⟨_, rfl, by simp, h⟩
        clear h
        rintro w
        intros
        rename_i b13 hI9
        obtain ⟨hvs9, h⟩ := hI9
        obtain rfl : b13 = false := by simpa using hvs9
        exact ⟨fun hb => (by cases hb), fun _ => ⟨z - 1, by omega, i + 1, s', Th2, h4, gtr2, u2, q16, k27, rfl, by omega, ok', by omega, hP2, by omega, LeH.trans le3 le4, hp4, T4, I4, h⟩⟩
  · refine h.newR fun gn w h => ?_
    have h1n : ∀ w, Own W w (blk gn 32 (cs .u64 [1]) :: imm h1 :: ldB gl gtr s.used s.most :: tinT gt m_ md 5 lim ts :: dicO gd D 9 u :: []) → RdC w (some ⟨gn, 0, none⟩) (cs .u64 [1]) := fun w h => h.blkRd
    refine Rets.mono (npPush (L := [1]) (c := 1) (by simp) h1n h) ?_
    clear h
    rintro _ w ⟨rfl, h⟩
    have h := h.drop
    refine ⟨rfl, ?_⟩
    refine Rets.mono (npClear h) ?_
    clear h
    rintro _ w ⟨rfl, h⟩
    refine ⟨rfl, ?_⟩
    refine Rets.mono (npAdd h) ?_
    clear h
    rintro _ w ⟨rfl, h⟩
    refine ⟨_, _, _, _, rfl, ?_⟩
    refine Rets.mono (npUpd h) ?_
    clear h
    rintro _ w ⟨rfl, h⟩
    refine ⟨_, _, _, _, rfl, ?_⟩
    refine Rets.mono (npLim h) ?_
    clear h
    rintro _ w ⟨rfl, h⟩
    refine ⟨_, _, _, _, rfl, ?_⟩
    refine Rets.mono (npDel h) ?_
    clear h
    rintro _ w ⟨rfl, h⟩
    refine ⟨_, _, rfl, fun vs w => vs = [.bool true] ∧ ∃ F, Own W w (imm hW :: F), ⟨fun _ => ⟨fun _ => ⟨fun _ => ⟨fun _ => ?_, fun hq7 => (by cases hq7)⟩, fun hq7 => (by cases hq7)⟩, fun hq7 => (by cases hq7)⟩, fun hq7 => (by cases hq7)⟩, ?_⟩
    · refine Rets.mono (npEst h) ?_
      clear h
      rintro _ w ⟨rfl, h⟩
      refine ⟨_, rfl, fun _ => ?_, fun hq7 => absurd hq7 (by decide)⟩
      refine Rets.mono (npLedger h) ?_
      clear h
      rintro _ w ⟨rfl, h⟩
      refine ⟨_, rfl, fun _ => ?_, fun hq7 => (by cases hq7)⟩
      refine Rets.mono (npTiny h) ?_
      clear h
      rintro _ w ⟨rfl, h⟩
      refine ⟨_, rfl, fun _ => ?_, fun hq7 => (by cases hq7)⟩
      refine Rets.mono (aw le1 h) ?_
      rintro _ w ⟨b, rfl, hb7, h⟩
      exact ⟨_, rfl, by rw [hb7], h⟩
    · clear h
      rintro w b20
      intros
      rename_i hI8
      obtain ⟨hvs8, F, h⟩ := hI8
      obtain rfl : b20 = true := by simpa using hvs8
      exact ⟨rfl, _, h⟩
end
end Go.Proofs.YtajckpjlliiekaaDoor.Eng
