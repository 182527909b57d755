/- Joined: SamW SmlW PcW DxP SaxP WoP PyP PyQ PyR PyU. -/
import Derived.Test.YtggflkjdgcdcmaaGreatDoorLegA
import Derived.Test.YtggflkjdgcdcmaaGreatDoorEngT
import Derived.Test.YtggflkjdgcdcmaaGreatDoorTinB
import Derived.Test.YtggflkjdgcdcmaaGreatDoorDicxG
import Derived.Test.YtggflkjdgcdcmaaGreatDoorSmaG
import Derived.Test.YtggflkjdgcdcmaaGreatDoorTpxB
import Derived.Test.YtggflkjdgcdcmaaGreatDoorPlcG
import Derived.Test.YtggflkjdgcdcmaaGreatDoorPckG
namespace Go.Proofs.YtggflkjdgcdcmaaGreatDoor.Eng
open Go Go.RowKit Go.Proofs
set_option linter.unusedVariables false
set_option linter.unusedSimpArgs false
set_option maxRecDepth 1000000
theorem find_first {p : Int → Bool} : ∀ {l : List Int} {i : Nat} (hi : i < l.length), p l[i] = true → (∀ j (hj : j < i), p (l[j]'(by omega)) = false) → l.find? p = some l[i]
  | [], i, hi, _, _ => by simp at hi
  | x :: l, 0, hi, hx, _ => by
    have hx : p x = true := hx
    show List.find? p (x :: l) = some x
    rw [List.find?_cons, hx]
  | x :: l, i + 1, hi, hx, hb => by
    have h0 : p x = false := hb 0 (by omega)
    show List.find? p (x :: l) = some (l[i]'(by simp at hi; omega))
    rw [List.find?_cons, h0]
    exact find_first (by simp at hi; omega) hx fun j hj => hb (j + 1) (by omega)
/-- Keys, round and round. -/
def rndK (ks : List Int) (f i : Nat) : Int := ks.getD ((f + i) % ks.length) 0
def nxtK (ks : List Int) (f : Nat) (ins : List Int) : Option Int := ((List.range ks.length).map (rndK ks f)).find? (fun x => decide (x ∉ ins))
theorem rndK_at {ks : List Int} {f i : Nat} (h : 0 < ks.length) : rndK ks f i = ks[(f + i) % ks.length]'(Nat.mod_lt _ h) := by
  unfold rndK
  rw [List.getD_eq_getElem?_getD, List.getElem?_eq_getElem (Nat.mod_lt _ h), Option.getD_some]
theorem rndK_mem {ks : List Int} {f i : Nat} (h : 0 < ks.length) : rndK ks f i ∈ ks := by rw [rndK_at h]; exact List.getElem_mem _
theorem rndK_hit {ks : List Int} {f : Nat} {x : Int} (hx : x ∈ ks) : ∃ i, i < ks.length ∧ rndK ks f i = x := by
  obtain ⟨j, hj, rfl⟩ := List.getElem_of_mem hx
  have hn : 0 < ks.length := by omega
  have hr := Nat.mod_lt f hn
  have hf := Nat.div_add_mod f ks.length
  obtain ⟨r, er⟩ : ∃ r, r = f % ks.length := ⟨_, rfl⟩
  rw [← er] at hr hf
  have key : ∀ i, (f + i) % ks.length = (r + i) % ks.length := fun i => by rw [er, Nat.mod_add_mod]
  have at_ : ∀ {a b : Nat} (ha : a < ks.length) (hb : b < ks.length), a = b → ks[a] = ks[b] := fun _ _ e => by subst e; rfl
  by_cases h : r ≤ j
  · refine ⟨j - r, by omega, ?_⟩
    rw [rndK_at hn]
    refine at_ _ _ ?_
    rw [key, show r + (j - r) = j by omega, Nat.mod_eq_of_lt hj]
  · refine ⟨j + ks.length - r, by omega, ?_⟩
    rw [rndK_at hn]
    refine at_ _ _ ?_
    rw [key, show r + (j + ks.length - r) = j + ks.length by omega, Nat.add_mod_right, Nat.mod_eq_of_lt hj]
theorem nxtK_at {ks ins : List Int} {f i : Nat} (hi : i < ks.length) (hx : rndK ks f i ∉ ins) (hb : ∀ j, j < i → rndK ks f j ∈ ins) : nxtK ks f ins = some (rndK ks f i) := by
  unfold nxtK
  have hl : i < ((List.range ks.length).map (rndK ks f)).length := by simpa using hi
  rw [find_first hl (by simpa using hx) (fun j hj => by simpa using hb j hj)]
  simp
theorem nxtK_none {ks ins : List Int} {f : Nat} (hb : ∀ j, j < ks.length → rndK ks f j ∈ ins) : nxtK ks f ins = none := by
  unfold nxtK
  refine List.find?_eq_none.2 fun x hx => ?_
  obtain ⟨j, hj, rfl⟩ := List.mem_map.1 hx
  simpa using hb j (List.mem_range.1 hj)
/-- Is there one that isn't among some? -/
def moreK (ks ins : List Int) : Bool := ks.any (fun x => decide (x ∉ ins))
theorem moreK_none {ks ins : List Int} {f : Nat} (h : nxtK ks f ins = none) : moreK ks ins = false := by
  unfold nxtK at h
  unfold moreK
  rw [List.any_eq_false]
  intro x hx
  obtain ⟨i, hi, rfl⟩ := rndK_hit (f := f) hx
  have := List.find?_eq_none.1 h (rndK ks f i) (List.mem_map.2 ⟨i, List.mem_range.2 hi, rfl⟩)
  simpa using this
theorem nxtK_some {ks ins : List Int} {f : Nat} {x : Int} (h : nxtK ks f ins = some x) : x ∈ ks ∧ x ∉ ins := by
  unfold nxtK at h
  have h1 := List.mem_of_find?_eq_some h
  have h2 := List.find?_some h
  obtain ⟨i, hi, rfl⟩ := List.mem_map.1 h1
  have hi := List.mem_range.1 hi
  exact ⟨rndK_mem (by omega), by simpa using h2⟩
theorem moreK_some {ks ins : List Int} {f : Nat} (h : (nxtK ks f ins).isSome = true) : moreK ks ins = true := by
  obtain ⟨x, hx⟩ := Option.isSome_iff_exists.1 h
  obtain ⟨h1, h2⟩ := nxtK_some hx
  exact List.any_eq_true.2 ⟨x, h1, by simpa using h2⟩
/-- A sample, filled: bel tells the rank of draw u. -/
def filS (ks : List Int) (bel : Nat → Nat) : Nat → List Int → Nat → List Int × Nat
  | 0, out, u => (out, u)
  | k + 1, out, u => if out.length < 5 ∧ moreK ks out = true then filS ks bel k (out ++ [(nxtK ks (bel u) out).getD 0]) (u + 1) else (out, u)
theorem filS_stop {ks : List Int} {bel : Nat → Nat} {k u : Nat} {out : List Int} (h : ¬ (out.length < 5 ∧ moreK ks out = true)) : filS ks bel k out u = (out, u) := by
  cases k with
  | zero => rfl
  | succ k => unfold filS; rw [if_neg h]
theorem filS_step {ks : List Int} {bel : Nat → Nat} {k u : Nat} {out : List Int} (h : out.length < 5 ∧ moreK ks out = true) : filS ks bel (k + 1) out u = filS ks bel k (out ++ [(nxtK ks (bel u) out).getD 0]) (u + 1) := by
  rw [filS, if_pos h]
/-- One who is not among some is not so by less than all. -/
theorem len_sub : ∀ {a b : List Int}, a.Nodup → (∀ x ∈ a, x ∈ b) → a.length ≤ b.length
  | [], b, _, _ => Nat.zero_le _
  | x :: a, b, hn, hs => by
    have hx : x ∈ b := hs x (by simp)
    have hn2 := List.nodup_cons.1 hn
    have h1 := len_sub (a := a) (b := b.erase x) hn2.2 fun y hy => (List.mem_erase_of_ne (by rintro rfl; exact hn2.1 hy)).2 (hs y (by simp [hy]))
    have h2 := List.length_erase_of_mem hx
    have h3 : 0 < b.length := List.length_pos_of_mem hx
    simp only [List.length_cons]; omega
theorem filS_law {ks : List Int} {bel : Nat → Nat} (hks : ks.Nodup) : ∀ (k : Nat) {out : List Int} {u : Nat}, out.Nodup → (∀ x ∈ out, x ∈ ks) → out.length ≤ 5 → 5 ≤ out.length + k →
    (filS ks bel k out u).1.Nodup ∧ (∀ x ∈ (filS ks bel k out u).1, x ∈ ks) ∧ (filS ks bel k out u).1.length = min 5 ks.length ∧ out <+: (filS ks bel k out u).1 ∧ (filS ks bel k out u).2 ≤ u + k := by
  intro k
  induction k with
  | zero =>
    intro out u hn hs hl hk
    have := len_sub hn hs
    exact ⟨hn, hs, by show out.length = _; omega, List.prefix_refl _, Nat.le_refl _⟩
  | succ k ih =>
    intro out u hn hs hl hk
    by_cases h : out.length < 5 ∧ moreK ks out = true
    · rw [filS_step h]
      cases hx : nxtK ks (bel u) out with
      | none => rw [moreK_none hx] at h; exact absurd h.2 (by simp)
      | some x =>
        obtain ⟨x1, x2⟩ := nxtK_some hx
        obtain ⟨a1, a2, a3, a4, a5⟩ := ih (out := out ++ [x]) (u := u + 1) (List.nodup_append.2 ⟨hn, by simp, fun a ha b hb => by rw [List.mem_singleton.1 hb]; rintro rfl; exact x2 ha⟩) (fun y hy => by
          rcases List.mem_append.1 hy with hy | hy
          · exact hs y hy
          · rw [List.mem_singleton.1 hy]; exact x1) (by simp; omega) (by simp; omega)
        exact ⟨a1, a2, a3, List.IsPrefix.trans (List.prefix_append _ _) a4, by simp only [Option.getD_some]; omega⟩
    · rw [filS_stop h]
      refine ⟨hn, hs, ?_, List.prefix_refl _, by show u ≤ _; omega⟩
      have h1 := len_sub hn hs
      by_cases h5 : out.length < 5
      · have hm : moreK ks out = false := by
          cases hm : moreK ks out with
          | false => rfl
          | true => exact absurd ⟨h5, hm⟩ h
        have h2 : ks.length ≤ out.length := len_sub hks fun x hx => by
          have := List.any_eq_false.1 hm x hx
          simpa using this
        show out.length = _; omega
      · show out.length = _; omega
/-- Where the first least of the first i stands. -/
def amin (l : List Int) : Nat → Nat
  | 0 => 0
  | i + 1 => if l.getD i 0 < l.getD (amin l i) 0 then i else amin l i
theorem amin_lt (l : List Int) (h : 0 < l.length) : ∀ i, i ≤ l.length → amin l i < l.length
  | 0, _ => h
  | i + 1, hi => by
    have := amin_lt l h i (by omega)
    unfold amin; split <;> omega
/-- A row without one: the last one comes to its place. -/
def woL (l : List Int) (i : Nat) : List Int := (l.set i (l.getD (l.length - 1) 0)).take (l.length - 1)
theorem woL_len {l : List Int} {i : Nat} : (woL l i).length = l.length - 1 := by
  unfold woL; rw [List.length_take, List.length_set]; omega
theorem woL_take {l : List Int} {i k : Nat} (hk : k < l.length - 1) : (woL l i).take (k + 1) = (woL l i).take k ++ [if k = i then l.getD (l.length - 1) 0 else l.getD k 0] := by
  have hk2 : k < (woL l i).length := by rw [woL_len]; exact hk
  have e1 : (woL l i)[k]? = some (if k = i then l.getD (l.length - 1) 0 else l.getD k 0) := by
    unfold woL
    rw [List.getElem?_take, if_pos hk, List.getElem?_set]
    by_cases e : i = k
    · subst e; rw [if_pos rfl, if_pos (by omega), if_pos rfl]
    · have e' : ¬ k = i := fun h => e h.symm
      rw [if_neg e, if_neg e', List.getD_eq_getElem?_getD, List.getElem?_eq_getElem (by omega)]; rfl
  rw [List.getElem?_eq_getElem hk2] at e1
  injection e1 with e1
  rw [List.take_succ_eq_append_getElem hk2, e1]
abbrev keysP (l : LE2) : List Int := l.map (·.1)
theorem keysP_nodup {l : LE2} (h : Srt l) : (keysP l).Nodup := by
  unfold List.Nodup
  rw [List.pairwise_map]
  exact h.imp fun hlt => by omega
theorem lfind_keyP {l : LE2} {x : Int} : (lfind x l).isSome = true ↔ x ∈ keysP l := by
  constructor
  · intro h
    obtain ⟨e, he⟩ := Option.isSome_iff_exists.1 h
    obtain ⟨h1, h2⟩ := lfind_in he
    exact List.mem_map.2 ⟨e, h1, h2⟩
  · intro h
    obtain ⟨e, he, rfl⟩ := List.mem_map.1 h
    unfold lfind
    rw [List.find?_isSome]
    exact ⟨e, he, by simp⟩
theorem lgDrop_toLP {s : Lg} (h : Srt s.t.toL) (k : Int) : (lgDrop k s).t.toL = ldrop k s.t.toL := by
  unfold lgDrop
  split
  · exact tdrop_toL k s.t h
  · rename_i hf
    refine (ldrop_no fun e he hk => hf ?_).symm
    exact lfind_keyP.2 (List.mem_map.2 ⟨e, he, hk⟩)
theorem lgDrop_mostP (k : Int) (s : Lg) : (lgDrop k s).most = s.most := by unfold lgDrop; split <;> rfl
theorem keys_drop {s : Lg} (h : Srt s.t.toL) (k x : Int) : x ∈ keysP (lgDrop k s).t.toL ↔ x ∈ keysP s.t.toL ∧ x ≠ k := by
  rw [lgDrop_toLP h]
  constructor
  · intro hx
    obtain ⟨e, he, rfl⟩ := List.mem_map.1 hx
    have := List.mem_filter.1 he
    exact ⟨List.mem_map.2 ⟨e, this.1, rfl⟩, by simpa using this.2⟩
  · rintro ⟨hx, hk⟩
    obtain ⟨e, he, rfl⟩ := List.mem_map.1 hx
    exact List.mem_map.2 ⟨e, List.mem_filter.2 ⟨he, by simpa using hk⟩, rfl⟩
theorem drop_less {s : Lg} (h : Srt s.t.toL) {k : Int} (hk : k ∈ keysP s.t.toL) : (lgDrop k s).t.size < s.t.size := by
  rw [← Tr.size_toL, ← Tr.size_toL, lgDrop_toLP h]
  obtain ⟨e, he, rfl⟩ := List.mem_map.1 hk
  have h1 : ∀ {l : LE2}, e ∈ l → (ldrop e.1 l).length < l.length := by
    intro l hl
    induction l with
    | nil => cases hl
    | cons y l ih =>
      unfold ldrop at ih ⊢
      rw [List.filter_cons]
      split
      · rename_i hy
        have : e ∈ l := by
          rcases List.mem_cons.1 hl with rfl | h2
          · simp at hy
          · exact h2
        have := ih this
        simp only [List.length_cons]; omega
      · have := List.length_filter_le (fun e_1 : Int × Int => decide (e_1.1 ≠ e.1)) l
        simp only [List.length_cons]; omega
  exact h1 he
theorem nodup_inj {l : List Int} (h : l.Nodup) {i j : Nat} (hi : i < l.length) (hj : j < l.length) (he : l[i] = l[j]) : i = j := by
  have hp := List.pairwise_iff_getElem.1 h
  rcases Nat.lt_trichotomy i j with hlt | heq | hgt
  · exact absurd he (hp i j hi hj hlt)
  · exact heq
  · exact absurd he.symm (hp j i hj hi hgt)
theorem woL_at {l : List Int} {i k : Nat} (hk : k < (woL l i).length) : ∃ j, ∃ hj : j < l.length, (woL l i)[k] = l[j] ∧ (i < l.length → j ≠ i) ∧ (j = k ∨ (k = i ∧ j = l.length - 1)) := by
  have hk' : k < l.length - 1 := by rw [woL_len] at hk; exact hk
  have h1 := woL_take (i := i) hk'
  rw [List.take_succ_eq_append_getElem hk] at h1
  have h2 := List.append_cancel_left h1
  injection h2 with h2
  rw [h2]
  by_cases e : k = i
  · rw [if_pos e]
    refine ⟨l.length - 1, by omega, ?_, fun _ => by omega, .inr ⟨e, rfl⟩⟩
    rw [List.getD_eq_getElem?_getD, List.getElem?_eq_getElem (by omega)]; rfl
  · rw [if_neg e]
    refine ⟨k, by omega, ?_, fun _ => e, .inl rfl⟩
    rw [List.getD_eq_getElem?_getD, List.getElem?_eq_getElem (by omega)]; rfl
theorem woL_sub {l : List Int} (hn : l.Nodup) {i : Nat} (hi : i < l.length) : (woL l i).Nodup ∧ ∀ x ∈ woL l i, x ∈ l ∧ x ≠ l[i] := by
  constructor
  · refine List.pairwise_iff_getElem.2 fun a b ha hb hab he => ?_
    obtain ⟨j1, hj1, e1, _, c1⟩ := woL_at ha
    obtain ⟨j2, hj2, e2, _, c2⟩ := woL_at hb
    rw [e1, e2] at he
    have := nodup_inj hn hj1 hj2 he
    rw [woL_len] at ha hb
    rcases c1 with c1 | ⟨c1, d1⟩ <;> rcases c2 with c2 | ⟨c2, d2⟩ <;> omega
  · intro x hx
    obtain ⟨k, hk, rfl⟩ := List.getElem_of_mem hx
    obtain ⟨j, hj, e1, h2, _⟩ := woL_at hk
    rw [e1]
    exact ⟨List.getElem_mem hj, fun he => h2 hi (nodup_inj hn hj hi he)⟩
/-- They go, one after another. -/
def Gn : Lg → LE2 → Lg → Prop
  | s, [], s' => s' = s
  | s, v :: vs, s' => v.1 ∈ keysP s.t.toL ∧ v.2 = lval v.1 s.t.toL ∧ Gn (lgDrop v.1 s) vs s'
theorem Gn.snoc {x : Int} : ∀ {vs : LE2} {s s1 : Lg}, Gn s vs s1 → x ∈ keysP s1.t.toL → Gn s (vs ++ [(x, lval x s1.t.toL)]) (lgDrop x s1)
  | [], s, s1, h, hx => by
    have h : s1 = s := h
    subst h
    exact ⟨hx, rfl, rfl⟩
  | v :: vs, s, s1, h, hx => ⟨h.1, h.2.1, Gn.snoc h.2.2 hx⟩
theorem Gn.facts : ∀ {vs : LE2} {s s1 : Lg}, Gn s vs s1 → LgOk s → LgOk s1 ∧ s1.most = s.most ∧ s1.t.size + vs.length ≤ s.t.size ∧ ∀ x ∈ keysP s1.t.toL, x ∈ keysP s.t.toL
  | [], s, s1, h, ok => by
    have h : s1 = s := h
    subst h
    exact ⟨ok, rfl, Nat.le_refl _, fun x hx => hx⟩
  | v :: vs, s, s1, h, ok => by
    obtain ⟨h1, h2, h3⟩ := h
    obtain ⟨a1, a2, a3, a4⟩ := Gn.facts h3 ok.drop
    have hl := drop_less ok.1 h1
    refine ⟨a1, by rw [a2, lgDrop_mostP], by simp only [List.length_cons]; omega, fun x hx => ((keys_drop ok.1 v.1 x).1 (a4 x hx)).1⟩
/-- What one step of making room does. -/
def MoreR (est : Int → Int) (most : Int) (s : Lg) (vs : LE2) (b : Bool) (s' : Lg) (vs' : LE2) : Prop :=
  (b = false ∧ s' = s ∧ vs' = vs ∧ (keysP s.t.toL = [] ∨ ∃ x ∈ keysP s.t.toL, most < est x)) ∨
  (b = true ∧ ∃ x ∈ keysP s.t.toL, est x ≤ most ∧ s' = lgDrop x s ∧ vs' = vs ++ [(x, lval x s.t.toL)])
def drawI (L : List Int) (s : Int) (k : Nat) : Int := if k < L.length then IntKind.wrap .u64 (L.getD k 0) else mixI ((s + 11400714819323198485 * ((k : Int) - L.length + 1)) % 18446744073709551616)
theorem drawI_M64 (L : List Int) (s : Int) (k : Nat) : M64 (drawI L s k) := by
  unfold drawI
  split
  · exact M64.w _
  · exact mixI_M64 _
def belI (v n : Int) : Int := if n < 1 then 0 else Int.tmod v n
theorem belI_bd {v n : Int} (hv : 0 ≤ v) : 0 ≤ belI v n ∧ (1 ≤ n → belI v n < n) := by
  unfold belI
  split
  · omega
  · rw [Int.tmod_eq_emod_of_nonneg hv]
    have h1 := Int.emod_nonneg v (b := n) (by omega)
    have h2 := Int.emod_lt_of_pos v (b := n) (by omega)
    omega
theorem belI_wrap {v n : Int} (hv : 0 ≤ v) (hn : 1 ≤ n) (hn2 : n ≤ 9223372036854775807) : IntKind.wrap .i64 (Int.tmod v (IntKind.wrap .u64 n)) = belI v n := by
  rw [wU64' (n := n) (by omega) (by omega)]
  have h1 := Int.emod_nonneg v (b := n) (by omega)
  have h2 := Int.emod_lt_of_pos v (b := n) (by omega)
  rw [Int.tmod_eq_emod_of_nonneg hv, wI64 (by omega) (by omega)]
  unfold belI
  rw [if_neg (by omega), Int.tmod_eq_emod_of_nonneg hv]
/-! ### Dice -/
def dicO (g : Nat) (L : List Int) (s : Int) (u : Nat) : HP :=
  exH fun q => exH fun q0 => exH fun c0 => puH (q = slcA q0 0 L.length 1) (allH [blk g 80 [.slice q L.length L.length, .int .u64 s, .int .i64 (u : Int)], inB q0 L.length c0 L])
section
variable {e w : World} {F : List HP} {g u : Nat} {L : List Int} {s : Int} {q : Option Addr} {c : Nat}
theorem dicO.op (h : Own e w (dicO g L s u :: F)) : ∃ q q0 c0, q = slcA q0 0 L.length 1 ∧ Own e w (blk g 80 [.slice q L.length L.length, .int .u64 s, .int .i64 (u : Int)] :: inB q0 L.length c0 L :: F) := by
  obtain ⟨q, h⟩ := h.ex
  obtain ⟨q0, h⟩ := h.ex
  obtain ⟨c0, h⟩ := h.ex
  obtain ⟨hq, h⟩ := h.pu
  exact ⟨q, q0, c0, hq, h.open_⟩
theorem dicO.cl {q q0 : Option Addr} {c0 : Nat} (hq : q = slcA q0 0 L.length 1) (h : Own e w (blk g 80 [.slice q L.length L.length, .int .u64 s, .int .i64 (u : Int)] :: inB q0 L.length c0 L :: F)) : Own e w (dicO g L s u :: F) := by
  have h : Own e w ([blk g 80 [.slice q L.length L.length, .int .u64 s, .int .i64 (u : Int)], inB q0 L.length c0 L] ++ F) := h
  exact Own.mkEx q (Own.mkEx q0 (Own.mkEx c0 (Own.mkPu hq h.close_)))
theorem slc0 {q0 : Option Addr} (h : RdC w q0 (cs .i64 L)) : RdC w (slcA q0 0 L.length 1) (cs .i64 L) := by
  rcases h.slice (l := 0) (m := L.length) (z := 1) (by omega) with h1 | h1
  · rw [Nat.zero_mul, List.drop_zero] at h1; exact h1
  · left
    have : L = [] := List.eq_nil_of_length_eq_zero (by omega)
    rw [this]; rfl
theorem dcNew (h : Own e w F) (hr : ∀ w, Own e w F → RdC w q (cs .i64 L)) (hn : L.length * 8 ≤ 140737488351232) : Rets Tryz.prog 8 #[.slice q L.length c, .int .u64 s] w fun v w' => ∃ g, v = .pointer (some ⟨g, 0, none⟩) ∧ Own e w' (dicO g L s 0 :: F) := by
  refine dice_New_go _ _ _ _ (h.newR fun g w h => ?_)
  refine app64 (empty64 h) (hr _ h.drop) rfl (by omega) fun q' c' w' h => ?_
  rw [List.nil_append] at h
  simp only [Nat.zero_add] at h ⊢
  have hf := h.slFacts
  refine ⟨_, _, _, rfl, by omega, by omega, by omega, by omega, h.newR fun g w h => ⟨g, rfl, ?_⟩⟩
  rw [Int.toNat_natCast, Nat.sub_zero] at h
  exact dicO.cl rfl h
theorem dcUsed (h : Own e w (dicO g L s u :: F)) : Rets Tryz.prog 11 #[.pointer (some ⟨g, 0, none⟩)] w fun v w' => v = .int .i64 (u : Int) ∧ Own e w' (dicO g L s u :: F) := by
  refine dice_Dice_Used_go _ ⟨fun hc => (by cases hc), fun _ => ?_⟩
  obtain ⟨q, q0, c0, hq, h⟩ := dicO.op h
  exact ⟨_, (Own.ld h (by repeat (first | with_reducible exact Pick.here | apply Pick.there)) (by rfl)), rfl, dicO.cl hq h⟩
theorem drawI_low {L : List Int} {s : Int} {k : Nat} (h : k < L.length) : drawI L s k = IntKind.wrap .u64 L[k] := by
  unfold drawI
  rw [if_pos h, List.getD_eq_getElem?_getD, List.getElem?_eq_getElem h]; rfl
theorem dcAt {k : Nat} (h : Own e w (dicO g L s u :: F)) (hm : ∀ w, Own e w F → RdC w mixQ mixC) (hn : L.length * 8 ≤ 140737488351232) (hk : k ≤ 10000000) : Rets Tryz.prog 141 #[.pointer (some ⟨g, 0, none⟩), .int .i64 (k : Int)] w fun v w' => v = .int .u64 (drawI L s k) ∧ Own e w' (dicO g L s u :: F) := by
  refine dice_Dice_at_go _ _ ?_
  obtain ⟨q, q0, c0, hq, h⟩ := dicO.op h
  refine ⟨_, _, _, (Own.ld h (by repeat (first | with_reducible exact Pick.here | apply Pick.there)) (by rfl)), fun hx => ?_, fun hx => ?_⟩
  · have hx := dec_t hx
    have hk2 : k < L.length := by omega
    refine ⟨_, _, _, (Own.ld h (by repeat (first | with_reducible exact Pick.here | apply Pick.there)) (by rfl)), ?_⟩
    have hr : RdC w q (cs .i64 L) := by rw [hq]; exact slc0 (Own.rdP (T := 3) h (by repeat (first | with_reducible exact Pick.here | apply Pick.there)))
    refine ⟨by omega, by omega, RdC.int hr hk2 fun a ha => ⟨_, by rw [Int.toNat_natCast]; exact ha, ?_, dicO.cl hq h⟩⟩
    rw [drawI_low hk2]
  · have hx := dec_f hx
    refine h.drw fun w h => ⟨_, (Own.ld h (by repeat (first | with_reducible exact Pick.here | apply Pick.there)) (by rfl)), _, _, _, (Own.ld h (by repeat (first | with_reducible exact Pick.here | apply Pick.there)) (by rfl)), ?_⟩
    refine Rets.mono (mxMix h (fun w h => hm w h.drop.drop)) ?_
    rintro _ w ⟨rfl, h⟩
    refine ⟨_, rfl, ?_, dicO.cl hq h⟩
    unfold drawI
    rw [if_neg (by omega), wI64 (n := (k : Int) - L.length) (by omega) (by omega), wI64 (by omega) (by omega), wU64' (n := (k : Int) - L.length + 1) (by omega) (by omega), wU64, wU64]
    congr 2
    omega
theorem dcNext (h : Own e w (dicO g L s u :: F)) (hm : ∀ w, Own e w F → RdC w mixQ mixC) (hn : L.length * 8 ≤ 140737488351232) (hu : u ≤ 10000) : Rets Tryz.prog 131 #[.pointer (some ⟨g, 0, none⟩)] w fun v w' => v = .int .u64 (drawI L s u) ∧ Own e w' (dicO g L s (u + 1) :: F) := by
  refine dice_Dice_Next_go _ ⟨fun hc => (by cases hc), fun _ => ?_⟩
  obtain ⟨q, q0, c0, hq, h⟩ := dicO.op h
  refine ⟨_, (Own.ld h (by repeat (first | with_reducible exact Pick.here | apply Pick.there)) (by rfl)), ?_⟩
  refine Rets.mono (dcAt (dicO.cl hq h) hm hn (by omega)) ?_
  rintro _ w ⟨rfl, h⟩
  obtain ⟨q, q0, c0, hq, h⟩ := dicO.op h
  refine ⟨_, rfl, _, (Own.ld h (by repeat (first | with_reducible exact Pick.here | apply Pick.there)) (by rfl)), Own.stP h (by repeat (first | with_reducible exact Pick.here | apply Pick.there)) (by simp) (by simp [Value.oneCell']) fun w h => ⟨rfl, ?_⟩⟩
  simp only [setFrom, List.set_cons_zero, List.set_cons_succ, List.set_nil] at h
  rw [wI64 (by omega) (by omega)] at h
  exact dicO.cl hq h
theorem dcBelow {n : Int} (h : Own e w (dicO g L s u :: F)) (hm : ∀ w, Own e w F → RdC w mixQ mixC) (hn : L.length * 8 ≤ 140737488351232) (hu : u ≤ 10000) (hb : n ≤ 9223372036854775807) : Rets Tryz.prog 113 #[.pointer (some ⟨g, 0, none⟩), .int .i64 n] w fun v w' => v = .int .i64 (belI (drawI L s u) n) ∧ Own e w' (dicO g L s (if n < 1 then u else u + 1) :: F) := by
  refine dice_Dice_Below_go _ _ ⟨fun hx => ?_, fun hx => ?_⟩
  · have hx := dec_t hx
    rw [if_pos hx]
    unfold belI; rw [if_pos hx]; exact ⟨rfl, h⟩
  · have hx := dec_f hx
    rw [if_neg hx]
    refine Rets.mono (dcNext h hm hn hu) ?_
    rintro _ w ⟨rfl, h⟩
    refine ⟨_, rfl, by rw [wU64' (by omega) (by omega)]; omega, ?_, h⟩
    rw [belI_wrap (drawI_M64 _ _ _).1 (by omega) hb]
end
abbrev sl64 (q : Option Addr) (n c : Nat) (xs : List Int) : HP := slO 30 1 q n c (cs .u64 xs)
abbrev keysL (l : LE2) : List Int := l.map (·.1)
section
variable {e w : World} {F : List HP} {h0 : Nat → Option Obj} {q q2 : Option Addr} {c c2 n m g gt : Nat} {xs ys ins : List Int} {k x : Int} {t : Tr} {used most : Int}
theorem uapp {K : Value → World → Prop} (h : Own e w (sl64 q n c xs :: F)) (hr : RdC w q2 (cs .u64 ys)) (hl : ys.length = m) (hn : n + m ≤ 1000000)
    (hk : ∀ q' c' w', Own e w' (sl64 q' (n + m) c' (xs ++ ys) :: F) → K (.slice q' (n + m) c') w') :
    RunR Tryz.prog (builtinV .append #[87, 87] 87 #[.slice q n c, .slice q2 m c2]) w K := by
  refine Own.append (z := [.int .u64 0]) (b := 8) (news := cs .u64 ys) h (by kernel_rfl) (by kernel_rfl) (by kernel_rfl) (by kernel_rfl) (by kernel_rfl) (by omega) hr ?_ (cs_one _ _) ?_ (by omega) ?_
  · rw [cs_len, hl]; omega
  · unfold maxLen; omega
  · intro q' c' w' h _
    rw [← cs_app] at h
    exact hk q' c' w' h
theorem uput {K : Value → World → Prop} {g : Nat} (h : Own e w (blk g 30 [.int .u64 x] :: sl64 q xs.length c xs :: F)) (hn : xs.length ≤ 100000)
    (hk : ∀ q' c' w', Own e w' (sl64 q' (xs ++ [x]).length c' (xs ++ [x]) :: F) → K (.slice q' (xs ++ [x]).length c') w') :
    RunR Tryz.prog (builtinV .append #[87, 87] 87 #[.slice q xs.length c, .slice (some ⟨g, 0, none⟩) 1 c2]) w K := by
  have h1 : Own e w (blk g 30 (cs .u64 [x]) :: sl64 q xs.length c xs :: F) := h
  refine uapp (ys := [x]) h.swap h1.blkRd rfl (by omega) fun q' c' w' h => ?_
  have el : (xs ++ [x]).length = xs.length + 1 := by simp
  have := hk q' c' w' (by rw [el]; exact h.swap.drop)
  rwa [el] at this
theorem uempty {g : Nat} (h : Own e w (blk g 30 [] :: F)) : Own e w (sl64 (some ⟨g, 0, none⟩) 0 0 [] :: F) := Own.slMk (rest := []) (by rfl) (by omega) (by omega) (by rfl) h
theorem uClone (h : Own e w F) (hr : ∀ w, Own e w F → RdC w q (cs .u64 xs)) (hn : xs.length ≤ 1000) :
    Rets Tryz.prog 111 #[.slice q xs.length c] w fun v w' => ∃ q' c', v = .slice q' xs.length c' ∧ Own e w' (sl64 q' xs.length c' xs :: F) := by
  refine clone64_go _ _ _ ⟨fun hc => ?_, fun hc => ?_⟩
  · cases q with
    | some a => cases hc
    | none =>
      have hb : xs = [] := by
        rcases hr w h with hr | ⟨a, ha, _⟩
        · simpa [cs] using hr
        · cases ha
      subst hb
      exact ⟨_, _, rfl, h.slNil⟩
  · refine h.newR fun g w1 h => ?_
    refine uapp (uempty h) (hr _ h.drop) rfl (by omega) fun q' c' w' h => ?_
    rw [List.nil_append] at h
    simp only [Nat.zero_add] at h ⊢
    exact ⟨_, _, _, rfl, _, _, rfl, h⟩
theorem uContains (h : Own e w F) (hr : ∀ w, Own e w F → RdC w q (cs .u64 ins)) (hn : ins.length ≤ 1000) :
    Rets Tryz.prog 130 #[.slice q ins.length c, .int .u64 k] w fun v w' => v = .bool (decide (k ∈ ins)) ∧ Own e w' F := by
  have hI : Rets Tryz.prog 140 #[.slice q ins.length c, .int .u64 k] w fun v w' => ∃ r : Int, v = .int .i64 r ∧ (0 ≤ r ↔ k ∈ ins) ∧ Own e w' F := by
    refine index64_go _ _ _ _ ⟨fun z vs w => ∃ i : Nat, vs = [.int .i64 (i : Int)] ∧ z + i = ins.length ∧ k ∉ ins.take i ∧ Own e w F, ⟨ins.length, 0, rfl, rfl, by simp, h⟩, ?_⟩
    clear h
    intro z w
    intros
    rename_i hI2
    obtain ⟨i, hvs, hz, hno, h⟩ := hI2
    simp at hvs
    subst hvs
    refine ⟨fun hc => ?_, fun hc => ?_⟩
    · have hc := dec_t hc
      have hi : i < ins.length := by omega
      have et : ins.take (i + 1) = ins.take i ++ [ins[i]] := List.take_succ_eq_append_getElem hi
      refine ⟨by omega, by omega, (hr w h).int hi fun a ha => ⟨_, by rw [Int.toNat_natCast]; exact ha, fun hq => ?_, fun hq => ?_⟩⟩
      · have hq := beq_t hq
        exact ⟨_, rfl, ⟨fun _ => by rw [hq]; exact List.getElem_mem hi, fun _ => by omega⟩, h⟩
      · have hq := beq_f hq
        refine ⟨z - 1, by omega, i + 1, by rw [wI64 (by omega) (by omega)]; rfl, by omega, ?_, h⟩
        rw [et, List.mem_append, List.mem_singleton]
        exact fun hh => hh.elim hno hq
    · have hc := dec_f hc
      obtain rfl : i = ins.length := by omega
      rw [List.take_length] at hno
      exact ⟨_, rfl, ⟨fun hh => absurd hh (by decide), fun hh => absurd hh hno⟩, h⟩
  refine contains64_go _ _ _ _ ?_
  refine Rets.mono hI ?_
  rintro _ w ⟨r, rfl, hr2, h⟩
  refine ⟨_, rfl, ?_, h⟩
  have : decide (r ≥ 0) = decide (k ∈ ins) := decide_eq_decide.2 hr2
  rw [this]
theorem uAmong (h : Own e w F) (hr : ∀ w, Own e w F → RdC w q (cs .u64 ins)) (hn : ins.length ≤ 1000) :
    Rets Tryz.prog 126 #[.slice q ins.length c, .int .u64 k] w fun v w' => v = .bool (decide (k ∈ ins)) ∧ Own e w' F := by
  refine cortadoref25_Among_go _ _ _ _ ⟨fun z vs w => ∃ i : Nat, vs = [.int .i64 (i : Int)] ∧ z + i = ins.length ∧ k ∉ ins.take i ∧ Own e w F, ⟨ins.length, 0, rfl, rfl, by simp, h⟩, ?_⟩
  clear h
  intro z w
  intros
  rename_i hI2
  obtain ⟨i, hvs, hz, hno, h⟩ := hI2
  simp at hvs
  subst hvs
  refine ⟨fun hc => ?_, fun hc => ?_⟩
  · have hc := dec_t hc
    have hi : i < ins.length := by omega
    have et : ins.take (i + 1) = ins.take i ++ [ins[i]] := List.take_succ_eq_append_getElem hi
    refine ⟨by omega, by omega, (hr w h).int hi fun a ha => ⟨_, by rw [Int.toNat_natCast]; exact ha, fun hq => ?_, fun hq => ?_⟩⟩
    · have hq := beq_t hq
      exact ⟨by rw [decide_eq_true (by rw [← hq]; exact List.getElem_mem hi)], h⟩
    · have hq := beq_f hq
      refine ⟨z - 1, by omega, i + 1, by rw [wI64 (by omega) (by omega)]; rfl, by omega, ?_, h⟩
      rw [et, List.mem_append, List.mem_singleton]
      exact fun hh => hh.elim hno (fun e => hq e.symm)
  · have hc := dec_f hc
    obtain rfl : i = ins.length := by omega
    rw [List.take_length] at hno
    exact ⟨by rw [decide_eq_false hno], h⟩
theorem snx {f : Nat} (hT : TreeA h0 t gt) (hs : t.size ≤ 700) (hf : f ≤ 1000) (hn : ins.length ≤ 1000) (hr : ∀ w, Own e w (imm h0 :: ldB g gt used most :: F) → RdC w q (cs .u64 ins)) (h : Own e w (imm h0 :: ldB g gt used most :: F)) :
    Rets Tryz.prog 112 #[.pointer (some ⟨g, 0, none⟩), .int .i64 (f : Int), .slice q ins.length c] w fun v w' => v = .tuple #[.int .u64 ((nxtK (keysL t.toL) f ins).getD 0), .bool (nxtK (keysL t.toL) f ins).isSome] ∧ Own e w' (imm h0 :: ldB g gt used most :: F) := by
  have hsz := Tr.size_toL t
  have hkl : (keysL t.toL).length = t.size := by rw [List.length_map, hsz]
  refine sample_next_go _ _ _ _ _ ?_
  refine Rets.mono (ldLen hT h) ?_
  clear h
  rintro _ w ⟨rfl, h⟩
  refine ⟨_, rfl, fun z vs w => ∃ i : Nat, vs = [.int .i64 (i : Int)] ∧ z + i = t.size ∧ (∀ j, j < i → rndK (keysL t.toL) f j ∈ ins) ∧ Own e w (imm h0 :: ldB g gt used most :: F), ⟨t.size, 0, rfl, rfl, fun j hj => absurd hj (by omega), h⟩, ?_⟩
  clear h
  intro z w
  intros
  rename_i hI2
  obtain ⟨i, hvs, hz, hno, h⟩ := hI2
  simp at hvs
  subst hvs
  refine ⟨fun hc => ?_, fun hc => ?_⟩
  · have hc := dec_t hc
    have hi : i < t.size := by omega
    have em : Int.tmod (IntKind.wrap .i64 ((f : Int) + (i : Int))) (t.size : Int) = (((f + i) % t.size : Nat) : Int) := by
      rw [wI64 (by omega) (by omega), show (f : Int) + (i : Int) = ((f + i : Nat) : Int) by omega, Int.tmod_eq_emod_of_nonneg (by omega), Int.natCast_emod]
    have hlt : (f + i) % t.size < t.size := Nat.mod_lt _ (by omega)
    have eK : ((t.toL[(f + i) % t.size]?).getD (0, 0)).1 = rndK (keysL t.toL) f i := by
      unfold rndK
      rw [hkl, List.getD_eq_getElem?_getD, List.getElem?_map]
      rw [List.getElem?_eq_getElem (by omega)]; rfl
    refine ⟨by omega, ?_⟩
    rw [em]
    refine Rets.mono (ldAt hT hs (by omega) h) ?_
    clear h
    rintro _ w ⟨rfl, h⟩
    rw [eK]
    refine ⟨_, _, rfl, ?_⟩
    refine Rets.mono (uContains h hr hn) ?_
    clear h
    rintro _ w ⟨rfl, h⟩
    refine ⟨_, rfl, fun hq => ?_, fun hq => ?_⟩
    · have hq : rndK (keysL t.toL) f i ∉ ins := by simpa using hq
      rw [nxtK_at (by omega) hq hno]
      exact ⟨rfl, h⟩
    · have hq : rndK (keysL t.toL) f i ∈ ins := by simpa using hq
      refine ⟨z - 1, by omega, i + 1, by rw [wI64 (by omega) (by omega)]; rfl, by omega, fun j hj => ?_, h⟩
      by_cases e1 : j = i
      · rw [e1]; exact hq
      · exact hno j (by omega)
  · have hc := dec_f hc
    rw [nxtK_none (fun j hj => hno j (by omega))]
    exact ⟨rfl, h⟩
/-- The rank that a draw tells. -/
def belN (D : List Int) (s : Int) (n u : Nat) : Nat := (belI (drawI D s u) (n : Int)).toNat
theorem belN_int (D : List Int) (s : Int) (n u : Nat) : ((belN D s n u : Nat) : Int) = belI (drawI D s u) (n : Int) := by
  have := (belI_bd (v := drawI D s u) (n := (n : Int)) (drawI_M64 D s u).1).1
  unfold belN; omega
theorem belN_lt (D : List Int) (s : Int) {n : Nat} (u : Nat) (h : 1 ≤ n) : belN D s n u < n := by
  have h1 := belN_int D s n u
  have h2 := (belI_bd (v := drawI D s u) (n := (n : Int)) (drawI_M64 D s u).1).2 (by omega)
  omega
abbrev outS (D : List Int) (s : Int) (ks ins : List Int) (u : Nat) : List Int × Nat := filS ks (belN D s ks.length) 5 ins u
theorem smFill {D : List Int} {s : Int} {gd u : Nat} (hT : TreeA h0 t gt) (hs : t.size ≤ 700) (hn : ins.length ≤ 900) (hu : u ≤ 9000) (hD : D.length * 8 ≤ 140737488351232)
    (hm : ∀ w F, Own e w (imm h0 :: F) → RdC w mixQ mixC) (hr : ∀ w F, Own e w (imm h0 :: F) → RdC w q (cs .u64 ins)) (h : Own e w (imm h0 :: ldB g gt used most :: dicO gd D s u :: F)) :
    Rets Tryz.prog 84 #[.pointer (some ⟨g, 0, none⟩), .slice q ins.length c, .pointer (some ⟨gd, 0, none⟩)] w fun v w' => ∃ q' c', v = .slice q' (outS D s (keysL t.toL) ins u).1.length c' ∧ Own e w' (sl64 q' (outS D s (keysL t.toL) ins u).1.length c' (outS D s (keysL t.toL) ins u).1 :: imm h0 :: ldB g gt used most :: dicO gd D s (outS D s (keysL t.toL) ins u).2 :: F) := by
  have hsz := Tr.size_toL t
  have hkl : (keysL t.toL).length = t.size := by rw [List.length_map, hsz]
  obtain ⟨R, hR⟩ : ∃ R, R = outS D s (keysL t.toL) ins u := ⟨_, rfl⟩
  rw [← hR]
  refine sample_Fill_go _ _ _ _ _ ?_
  refine Rets.mono (uClone h (fun w h => hr w _ h) (by omega)) ?_
  clear h
  rintro _ w ⟨q0, c0, rfl, h⟩
  refine ⟨_, _, _, rfl, fun z vs w => ∃ (out : List Int) (v : Nat) (q' : Option Addr) (c' : Nat), vs = [.slice q' out.length c'] ∧ filS (keysL t.toL) (belN D s (keysL t.toL).length) z out v = R ∧ 5 ≤ out.length + z ∧ out.length ≤ 905 ∧ v + z ≤ 9005 ∧ Own e w (sl64 q' out.length c' out :: imm h0 :: ldB g gt used most :: dicO gd D s v :: F), ⟨5, ins, u, q0, c0, rfl, hR.symm, by omega, by omega, by omega, h⟩, ?_⟩
  clear h
  rintro z w qz k5 k6
  intros
  rename_i hI2
  obtain ⟨out, v, q1, c1, hvs, hfil, h5, hol, hv, h⟩ := hI2
  obtain ⟨rfl, rfl, rfl⟩ : qz = q1 ∧ k5 = out.length ∧ k6 = c1 := by simpa using hvs
  have nx := fun (w : World) (f : Nat) (hf : f ≤ 1000) (h : Own e w (sl64 qz out.length k6 out :: imm h0 :: ldB g gt used most :: dicO gd D s v :: F)) =>
    snx (c := k6) (f := f) (F := sl64 qz out.length k6 out :: dicO gd D s v :: F) hT hs hf (show out.length ≤ 1000 by omega) (fun w (h : Own e w _) => Own.rdP (T := 30) h (by repeat (first | with_reducible exact Pick.here | apply Pick.there))) ((Own.sub (h) (by repeat (first | with_reducible exact Sub.nil _ | with_reducible exact Sub.rfl _ | (apply Sub.cons; focus ((repeat (first | with_reducible exact Pick.here | apply Pick.there)); done)) | apply Sub.drop))))
  refine ⟨fun hc => ?_, fun hc => ?_⟩
  · have hc := dec_t hc
    refine Rets.mono (nx w 0 (by omega) h) ?_
    clear h
    rintro _ w ⟨rfl, h⟩
    refine ⟨_, _, rfl, fun hq => ?_, fun hq => ?_⟩
    · have hq : (nxtK (keysL t.toL) 0 out) = none := by simpa using hq
      have hm2 := moreK_none hq
      rw [filS_stop (by rw [hm2]; simp)] at hfil
      rw [← hfil]
      exact ⟨_, _, rfl, (Own.sub (h) (by repeat (first | with_reducible exact Sub.nil _ | with_reducible exact Sub.rfl _ | (apply Sub.cons; focus ((repeat (first | with_reducible exact Pick.here | apply Pick.there)); done)) | apply Sub.drop)))⟩
    · have hq : (nxtK (keysL t.toL) 0 out).isSome = true := by simpa using hq
      have hm2 := moreK_some hq
      have hne : 1 ≤ t.size := by
        obtain ⟨x, hx, _⟩ := List.any_eq_true.1 hm2
        have := List.length_pos_of_mem hx
        omega
      refine Rets.mono (ldLen hT h) ?_
      clear h
      rintro _ w ⟨rfl, h⟩
      have h : Own e w (dicO gd D s v :: imm h0 :: ldB g gt used most :: sl64 qz out.length k6 out :: F) := (Own.sub (h) (by repeat (first | with_reducible exact Sub.nil _ | with_reducible exact Sub.rfl _ | (apply Sub.cons; focus ((repeat (first | with_reducible exact Pick.here | apply Pick.there)); done)) | apply Sub.drop)))
      refine ⟨_, rfl, ?_⟩
      refine Rets.mono (dcBelow (n := (t.size : Int)) h (fun w h => hm w _ h) hD (by omega) (by omega)) ?_
      clear h
      rintro _ w ⟨rfl, h⟩
      rw [if_neg (by omega)] at h
      have eb := belN_int D s t.size v
      have elt := belN_lt D s (n := t.size) v hne
      obtain ⟨B, hB⟩ : ∃ B, B = belN D s t.size v := ⟨_, rfl⟩
      rw [← hB] at eb elt
      rw [← eb]
      refine ⟨_, rfl, ?_⟩
      refine Rets.mono (snx (c := k6) (f := B) (F := sl64 qz out.length k6 out :: dicO gd D s (v + 1) :: F) hT hs (by omega) (show out.length ≤ 1000 by omega) (fun w (h : Own e w _) => Own.rdP (T := 30) h (by repeat (first | with_reducible exact Pick.here | apply Pick.there))) ((Own.sub (h) (by repeat (first | with_reducible exact Sub.nil _ | with_reducible exact Sub.rfl _ | (apply Sub.cons; focus ((repeat (first | with_reducible exact Pick.here | apply Pick.there)); done)) | apply Sub.drop))))) ?_
      clear h
      rintro _ w ⟨rfl, h⟩
      obtain ⟨z', rfl⟩ : ∃ z', z = z' + 1 := ⟨z - 1, by omega⟩
      rw [filS_step ⟨by omega, hm2⟩, hkl, ← hB] at hfil
      obtain ⟨X, hX⟩ : ∃ X, X = (nxtK (keysL t.toL) B out).getD 0 := ⟨_, rfl⟩
      rw [← hX] at hfil ⊢
      refine ⟨_, _, rfl, h.newR fun ge w h => ?_⟩
      have h : Own e w (blk ge 30 [.int .u64 X] :: sl64 qz out.length k6 out :: imm h0 :: ldB g gt used most :: dicO gd D s (v + 1) :: F) := (Own.sub (h) (by repeat (first | with_reducible exact Sub.nil _ | with_reducible exact Sub.rfl _ | (apply Sub.cons; focus ((repeat (first | with_reducible exact Pick.here | apply Pick.there)); done)) | apply Sub.drop)))
      refine uput h (by omega) fun q3 c3 w h => ⟨_, _, _, rfl, z', by omega, out ++ [X], v + 1, q3, c3, rfl, by rw [hkl]; exact hfil, by simp; omega, by simp; omega, by omega, h⟩
  · have hc := dec_f hc
    rw [filS_stop (by omega)] at hfil
    rw [← hfil]
    exact ⟨_, _, rfl, h⟩
end
theorem slcA0s (q : Option Addr) (c z : Nat) : slcA q 0 c z = q := by
  unfold slcA
  split
  · rfl
  · cases q with
    | none => rfl
    | some a =>
      show some (a.add (0 * z)) = some a
      rw [Nat.zero_mul]; rfl
def woZ (l : List Int) (i : Int) : List Int := if i < 0 ∨ (l.length : Int) ≤ i then l else woL l i.toNat
section
variable {e w : World} {F : List HP} {h0 : Nat → Option Obj} {q : Option Addr} {c : Nat} {ins : List Int} {i : Int}
abbrev WO (e : World) (F : List HP) (h0 : Nat → Option Obj) (l : List Int) (v : Value) (w' : World) : Prop := ∃ (h1 : Nat → Option Obj) (q' : Option Addr) (c' : Nat), v = .slice q' l.length c' ∧ LeH h0 h1 ∧ ImR h1 q' (cs .u64 l) ∧ Own e w' (imm h1 :: F)
theorem uWo (hn : ins.length ≤ 900) (hr : ImR h0 q (cs .u64 ins)) (hi : -9223372036854775808 ≤ i ∧ i ≤ 9223372036854775807) (h : Own e w (imm h0 :: F)) : Rets Tryz.prog 86 #[.slice q ins.length c, .int .i64 i] w (WO e F h0 (woZ ins i)) := by
  refine sample_Without_go _ _ _ _ ⟨fun vs w => vs = [.bool (decide (i < 0 ∨ (ins.length : Int) ≤ i))] ∧ Own e w (imm h0 :: F), ⟨fun hq => ⟨?_, h⟩, fun hq => ⟨?_, h⟩⟩, ?_⟩
  · have hq := dec_f hq
    have : decide (i ≥ (ins.length : Int)) = decide (i < 0 ∨ (ins.length : Int) ≤ i) := by rw [decide_eq_decide]; omega
    rw [this]
  · have hq := dec_t hq
    rw [decide_eq_true (by omega)]
  clear h
  rintro w
  intros
  rename_i b1 hI
  obtain ⟨hvs, h⟩ := hI
  obtain rfl : b1 = decide (i < 0 ∨ (ins.length : Int) ≤ i) := by simpa using hvs
  unfold woZ
  refine ⟨fun hq => ?_, fun hq => ?_⟩
  · have hq := of_decide_eq_true hq
    rw [if_pos hq]
    exact ⟨h0, _, _, rfl, LeH.refl _, hr, h⟩
  · have hq := of_decide_eq_false hq
    rw [if_neg hq]
    refine Rets.mono (uClone h (fun w h => hr _ _ _ h) (by omega)) ?_
    clear h
    rintro _ w ⟨q1, c1, rfl, h⟩
    have hf := h.slFacts
    have hl1 : ins.length - 1 < ins.length := by omega
    have hit : i.toNat < ins.length := by omega
    have e1 : IntKind.wrap .i64 ((ins.length : Int) - 1) = ((ins.length - 1 : Nat) : Int) := by rw [wI64 (by omega) (by omega)]; omega
    refine ⟨_, _, _, rfl, ?_⟩
    rw [e1]
    have hlast : ins.getD (ins.length - 1) 0 = ins[ins.length - 1] := by rw [List.getD_eq_getElem?_getD, List.getElem?_eq_getElem hl1]; rfl
    refine ⟨by omega, by omega, h.slRd.int hl1 fun a1 ha1 => ⟨_, by rw [Int.toNat_natCast]; exact ha1, by omega, by omega, ?_⟩⟩
    rw [Nat.mul_one]
    refine h.slStore (i := i.toNat) (us := [.int .u64 ins[ins.length - 1]]) (by simp [cs]; omega) (by simp) (by simp [Value.oneCell']) fun w h => ⟨by omega, by omega, ?_⟩
    have es : setFrom (cs .u64 ins) i.toNat [.int .u64 ins[ins.length - 1]] = cs .u64 (ins.set i.toNat (ins.getD (ins.length - 1) 0)) := by
      rw [hlast]; simp [setFrom, cs, List.map_set]
    rw [es] at h
    obtain ⟨h1, le1, hI, _, h⟩ := h.slImm
    refine ⟨h1, slcA q1 0 c1 1, c1 - 0, ?_, le1, ?_, h⟩
    · rw [woL_len, Int.toNat_natCast, Nat.sub_zero]
    · intro e w F h
      rw [slcA0s]
      have := (hI e w F h).take (ins.length - 1)
      rwa [show (cs .u64 (ins.set i.toNat (ins.getD (ins.length - 1) 0))).take (ins.length - 1) = cs .u64 (woL ins i.toNat) by simp [cs, woL]] at this
end
/-- How often a key is thought to come. -/
def esT (sd : Int) (m md : Nat) (ts : Ts) (x : Int) : Int := ((esN sd (2 ^ m) (2 ^ md) ts.R ts.ws x : Nat) : Int)
abbrev rmB (gr gp : Nat) (pd qi : Option Addr) (ni ci : Nat) (qg : Option Addr) (ng cg : Nat) : HP := blk gr 101 [.pointer (some ⟨gp, 0, none⟩), .pointer pd, .slice qi ni ci, .slice qg ng cg]
abbrev vcO (qg : Option Addr) (cg : Nat) (vs : LE2) : HP := slO 72 2 qg vs.length cg (E24 vs)
/-- Where making room stands: the ledger, the sample, who has gone, how many were drawn. -/
structure PSt where
  s : Lg
  ins : List Int
  vs : LE2
  u : Nat
/-- One step of making room, exactly. -/
def mst (D : List Int) (s2 : Int) (est : Int → Int) (most : Int) (t : PSt) : Bool × PSt :=
  if (outS D s2 (keysL t.s.t.toL) t.ins t.u).1.length = 0 ∨ most < ((outS D s2 (keysL t.s.t.toL) t.ins t.u).1.map est).getD (amin ((outS D s2 (keysL t.s.t.toL) t.ins t.u).1.map est) (outS D s2 (keysL t.s.t.toL) t.ins t.u).1.length) 0
  then (false, ⟨t.s, (outS D s2 (keysL t.s.t.toL) t.ins t.u).1, t.vs, (outS D s2 (keysL t.s.t.toL) t.ins t.u).2⟩)
  else (true, ⟨lgDrop ((outS D s2 (keysL t.s.t.toL) t.ins t.u).1.getD (amin ((outS D s2 (keysL t.s.t.toL) t.ins t.u).1.map est) (outS D s2 (keysL t.s.t.toL) t.ins t.u).1.length) 0) t.s, woL (outS D s2 (keysL t.s.t.toL) t.ins t.u).1 (amin ((outS D s2 (keysL t.s.t.toL) t.ins t.u).1.map est) (outS D s2 (keysL t.s.t.toL) t.ins t.u).1.length), t.vs ++ [((outS D s2 (keysL t.s.t.toL) t.ins t.u).1.getD (amin ((outS D s2 (keysL t.s.t.toL) t.ins t.u).1.map est) (outS D s2 (keysL t.s.t.toL) t.ins t.u).1.length) 0, lval ((outS D s2 (keysL t.s.t.toL) t.ins t.u).1.getD (amin ((outS D s2 (keysL t.s.t.toL) t.ins t.u).1.map est) (outS D s2 (keysL t.s.t.toL) t.ins t.u).1.length) 0) t.s.t.toL)], (outS D s2 (keysL t.s.t.toL) t.ins t.u).2⟩)
theorem mst_f {D : List Int} {s2 most : Int} {est : Int → Int} {s : Lg} {ins out : List Int} {vs : LE2} {u u1 : Nat} (hR : (out, u1) = outS D s2 (keysL s.t.toL) ins u) (h : out.length = 0 ∨ most < (out.map est).getD (amin (out.map est) out.length) 0) : mst D s2 est most ⟨s, ins, vs, u⟩ = (false, ⟨s, out, vs, u1⟩) := by
  unfold mst
  dsimp only
  rw [← hR]
  exact if_pos h
theorem mst_t {D : List Int} {s2 most : Int} {est : Int → Int} {s : Lg} {ins out : List Int} {vs : LE2} {u u1 : Nat} (hR : (out, u1) = outS D s2 (keysL s.t.toL) ins u) (h : ¬ (out.length = 0 ∨ most < (out.map est).getD (amin (out.map est) out.length) 0)) : mst D s2 est most ⟨s, ins, vs, u⟩ = (true, ⟨lgDrop (out.getD (amin (out.map est) out.length) 0) s, woL out (amin (out.map est) out.length), vs ++ [(out.getD (amin (out.map est) out.length) 0, lval (out.getD (amin (out.map est) out.length) 0) s.t.toL)], u1⟩) := by
  unfold mst
  dsimp only
  rw [← hR]
  exact if_neg h
/-- Steps, one behind another, as long as more is used than may be. -/
inductive GoP (D : List Int) (s2 : Int) (est : Int → Int) (most bd : Int) : PSt → Bool → PSt → Prop
  | stop (t : PSt) : t.s.used ≤ bd → GoP D s2 est most bd t true t
  | fail (t t' : PSt) : bd < t.s.used → mst D s2 est most t = (false, t') → GoP D s2 est most bd t false t'
  | next (t t' t2 : PSt) (b : Bool) : bd < t.s.used → mst D s2 est most t = (true, t') → GoP D s2 est most bd t' b t2 → GoP D s2 est most bd t b t2
theorem GoP.same {D : List Int} {s2 most bd : Int} {est : Int → Int} {t t1 t2 : PSt} {b1 b2 : Bool} (h1 : GoP D s2 est most bd t b1 t1) : GoP D s2 est most bd t b2 t2 → b1 = b2 ∧ t1 = t2 := by
  induction h1 with
  | stop t h =>
    intro h2
    cases h2 with
    | stop _ _ => exact ⟨rfl, rfl⟩
    | fail _ _ h' _ => omega
    | next _ _ _ _ h' _ _ => omega
  | fail t t' h hm =>
    intro h2
    cases h2 with
    | stop _ h' => omega
    | fail _ _ _ hm' =>
      rw [hm] at hm'
      injection hm' with _ e
      exact ⟨rfl, e⟩
    | next _ _ _ _ _ hm' _ => rw [hm] at hm'; cases hm'
  | next t t' t2' b h hm hg ih =>
    intro h2
    cases h2 with
    | stop _ h' => omega
    | fail _ _ _ hm' => rw [hm] at hm'; cases hm'
    | next _ t'' _ _ _ hm' hg' =>
      rw [hm] at hm'
      injection hm' with _ e
      subst e
      exact ih hg'
section
variable {e w : World} {F : List HP} {h0 : Nat → Option Obj} {q qi qg : Option Addr} {c ci cg gr gp gl gt gd gtr m md u : Nat} {ins D : List Int} {sd lim s2 most n k : Int} {ts : Ts} {s : Lg} {vs : LE2}
theorem lEst (hx : ins.length ≤ 1000) (hm1 : ∀ w F, Own e w (imm h0 :: F) → RdC w mixQ mixC) (hm2 : ∀ w F, Own e w (imm h0 :: F) → RdC w twiQ twiC) (hri : ∀ w F, Own e w (imm h0 :: F) → RdC w q (cs .u64 ins)) (h : Own e w (imm h0 :: tinT gt m md sd lim ts :: F)) :
    Rets Tryz.prog 85 #[.slice q ins.length c, .func (.func 38) #[.pointer (some ⟨gt, 0, none⟩)] #[]] w fun v w' => v = .tuple #[.int .i64 (amin (ins.map (esT sd m md ts)) ins.length : Nat), .int .i64 ((ins.map (esT sd m md ts)).getD (amin (ins.map (esT sd m md ts)) ins.length) 0), .bool (decide (0 < ins.length))] ∧ Own e w' (imm h0 :: tinT gt m md sd lim ts :: F) := by
  obtain ⟨l, hl⟩ : ∃ l, l = ins.map (esT sd m md ts) := ⟨_, rfl⟩
  have hll : l.length = ins.length := by rw [hl, List.length_map]
  have hld : ∀ {k : Nat} (hk : k < ins.length), l.getD k 0 = esT sd m md ts ins[k] := fun hk => by rw [hl, List.getD_eq_getElem?_getD, List.getElem?_map, List.getElem?_eq_getElem hk]; rfl
  have est : ∀ (x : Int) (w : World), Own e w (imm h0 :: tinT gt m md sd lim ts :: F) → Rets Tryz.prog 38 #[.pointer (some ⟨gt, 0, none⟩), .int .u64 x] w fun v w' => v = .int .i64 (esT sd m md ts x) ∧ Own e w' (imm h0 :: tinT gt m md sd lim ts :: F) := fun x w h => by
    refine Rets.mono (tEst (hh := x) (fun w h => hm1 w _ h) (fun w h => hm2 w _ h) h.swap) ?_
    rintro _ w ⟨rfl, h⟩
    exact ⟨rfl, h.swap⟩
  rw [← hl]
  refine least_est_go _ _ _ _ ⟨fun _ => ⟨fun hz => ?_, fun hz => ?_⟩, fun hc => (by cases hc)⟩
  · have hz : ins.length = 0 := by simpa using hz
    have : l = [] := List.eq_nil_of_length_eq_zero (by omega)
    rw [this, hz]; exact ⟨rfl, h⟩
  · have hz : ins.length ≠ 0 := by simpa using hz
    have h0i : 0 < ins.length := by omega
    refine ⟨by omega, by omega, (hri _ _ h).int h0i fun a ha => ⟨_, by simpa using ha, ?_⟩⟩
    refine Rets.mono (est _ w h) ?_
    clear h
    rintro _ w ⟨rfl, h⟩
    refine ⟨_, rfl, fun z vs w => ∃ k : Nat, vs = [.int .i64 (amin l k : Nat), .int .i64 (l.getD (amin l k) 0), .int .i64 (k : Int)] ∧ z + k = ins.length ∧ Own e w (imm h0 :: tinT gt m md sd lim ts :: F), ⟨ins.length, 0, by rw [show amin l 0 = 0 from rfl, hld h0i]; rfl, rfl, h⟩, ?_⟩
    clear h
    rintro z w n3 n4 v2 v3 v4 n5
    intros
    rename_i hI
    obtain ⟨k, hvs, hzk, h⟩ := hI
    obtain ⟨rfl, rfl, rfl⟩ : n3 = (amin l k : Int) ∧ n4 = l.getD (amin l k) 0 ∧ n5 = (k : Int) := by simpa using hvs
    refine ⟨fun hc => ?_, fun hc => ?_⟩
    · have hc := dec_t hc
      have hk : k < ins.length := by omega
      refine ⟨by omega, by omega, (hri _ _ h).int hk fun a ha => ⟨_, by rw [Int.toNat_natCast]; exact ha, ?_⟩⟩
      refine Rets.mono (est _ w h) ?_
      clear h
      rintro _ w ⟨rfl, h⟩
      rw [← hld hk]
      refine ⟨_, rfl, fun vs w => vs = [.int .i64 (amin l (k + 1) : Nat), .int .i64 (l.getD (amin l (k + 1)) 0)] ∧ Own e w (imm h0 :: tinT gt m md sd lim ts :: F), ⟨fun hq => ⟨?_, h⟩, fun hq => ⟨?_, h⟩⟩, ?_⟩
      · have hq := dec_t hq
        have : amin l (k + 1) = k := by show (if _ then _ else _) = _; rw [if_pos hq]
        rw [this]
      · have hq := dec_f hq
        have : amin l (k + 1) = amin l k := by show (if _ then _ else _) = _; rw [if_neg hq]
        rw [this]
      clear h
      rintro w n8 n9
      intros
      rename_i hI2
      obtain ⟨hvs2, h⟩ := hI2
      obtain ⟨rfl, rfl⟩ : n8 = (amin l (k + 1) : Int) ∧ n9 = l.getD (amin l (k + 1)) 0 := by simpa using hvs2
      exact ⟨z - 1, by omega, k + 1, by rw [wI64 (by omega) (by omega)]; rfl, by omega, h⟩
    · have hc := dec_f hc
      obtain rfl : k = ins.length := by omega
      refine ⟨?_, h⟩
      rw [decide_eq_true h0i]
theorem vapp {K : Value → World → Prop} {g c2 : Nat} {x : Int × Int} (hn : vs.length ≤ 100000) (h : Own e w (blk g 72 [.int .u64 x.1, .int .i64 x.2] :: vcO qg cg vs :: F))
    (hk : ∀ q' c' w', Own e w' (vcO q' c' (vs ++ [x]) :: F) → K (.slice q' (vs ++ [x]).length c') w') :
    RunR Tryz.prog (builtinV .append #[68, 68] 68 #[.slice qg vs.length cg, .slice (some ⟨g, 0, none⟩) 1 c2]) w K := by
  have hsrc : RdC w (some ⟨g, 0, none⟩) [.int .u64 x.1, .int .i64 x.2] := h.blkRd
  refine Own.append (z := [.int .u64 0, .int .i64 0]) (b := 16) (m := 1) h.drop (by kernel_rfl) (by kernel_rfl) (by kernel_rfl) (by kernel_rfl) (by kernel_rfl) (by omega) hsrc rfl (fun u hu => ?_) (by unfold maxLen; omega) (by omega) fun q' c' w h _ => ?_
  · simp at hu; rcases hu with rfl | rfl <;> rfl
  · have e1 : vs.length + 1 = (vs ++ [x]).length := by simp
    rw [e1, ← E24_snoc] at h
    rw [e1]
    exact hk q' c' w h
/-- What stands there while room is made. -/
abbrev rmF (gl gtr gt m md : Nat) (sd lim : Int) (ts : Ts) (gd : Nat) (D : List Int) (s2 : Int) (u : Nat) (s : Lg) (gr gp : Nat) (qi : Option Addr) (ni ci : Nat) (qg : Option Addr) (cg : Nat) (vs : LE2) (F : List HP) : List HP :=
  ldB gl gtr s.used s.most :: tinT gt m md sd lim ts :: dicO gd D s2 u :: rmB gr gp (some ⟨gd, 0, none⟩) qi ni ci qg vs.length cg :: vcO qg cg vs :: F
def PolC (h0 : Nat → Option Obj) (gp gt gl : Nat) : Prop := h0 gp = some (.cells #[.pointer (some ⟨gt, 0, none⟩), .pointer (some ⟨gl, 0, none⟩)] 76 (0, 0))
theorem pMore (hm1 : ∀ {h1 : Nat → Option Obj}, LeH h0 h1 → ∀ w F, Own e w (imm h1 :: F) → RdC w mixQ mixC) (hm2 : ∀ {h1 : Nat → Option Obj}, LeH h0 h1 → ∀ w F, Own e w (imm h1 :: F) → RdC w twiQ twiC)
    (hp : PolC h0 gp gt gl) (ok : LgOk s) (hs : s.t.size ≤ 100) (hT : TreeA h0 s.t gtr) (hI : ImR h0 qi (cs .u64 ins)) (hin : ins.Nodup) (hik : ∀ x ∈ ins, x ∈ keysP s.t.toL) (hil : ins.length ≤ 4) (hu : u ≤ 8000) (hD : D.length * 8 ≤ 140737488351232) (hvl : vs.length ≤ 1000)
    (h : Own e w (imm h0 :: rmF gl gtr gt m md sd lim ts gd D s2 u s gr gp qi ins.length ci qg cg vs F)) :
    Rets Tryz.prog 58 #[.pointer (some ⟨gr, 0, none⟩), .int .i64 most] w fun v w' => ∃ (b : Bool) (h1 : Nat → Option Obj) (gtr' : Nat) (s' : Lg) (ins' : List Int) (vs' : LE2) (u' : Nat) (qi' : Option Addr) (ci' : Nat) (qg' : Option Addr) (cg' : Nat), v = .bool b ∧ LeH h0 h1 ∧ TreeA h1 s'.t gtr' ∧ ImR h1 qi' (cs .u64 ins') ∧ (ins'.Nodup ∧ (∀ x ∈ ins', x ∈ keysP s'.t.toL) ∧ (b = true → ins'.length ≤ 4)) ∧ u' ≤ u + 5 ∧ (MoreR (esT sd m md ts) most s vs b s' vs' ∧ mst D s2 (esT sd m md ts) most ⟨s, ins, vs, u⟩ = (b, ⟨s', ins', vs', u'⟩)) ∧ Own e w' (imm h1 :: rmF gl gtr' gt m md sd lim ts gd D s2 u' s' gr gp qi' ins'.length ci' qg' cg' vs' F) := by
  have hsz := Tr.size_toL s.t
  refine policy_room_more_go _ _ (h.drw fun w h => ⟨_, Own.ld (g := gr) (k := 0) h (by repeat (first | with_reducible exact Pick.here | apply Pick.there)) rfl, smR ⟨_, h.immCell hp (i := 1) rfl, _, _, _, Own.ld (g := gr) (k := 2) h (by repeat (first | with_reducible exact Pick.here | apply Pick.there)) rfl, _, Own.ld (g := gr) (k := 1) h (by repeat (first | with_reducible exact Pick.here | apply Pick.there)) rfl, ?_⟩⟩)
  have h : Own e w (imm h0 :: ldB gl gtr s.used s.most :: dicO gd D s2 u :: tinT gt m md sd lim ts :: rmB gr gp (some ⟨gd, 0, none⟩) qi ins.length ci qg vs.length cg :: vcO qg cg vs :: F) := (Own.sub (h) (by repeat (first | exact Sub.nil _ | exact Sub.rfl _ | (apply Sub.cons; focus ((repeat (first | with_reducible exact Pick.here | apply Pick.there)); done)) | apply Sub.drop)))
  refine Rets.mono (smFill (ins := ins) (c := ci) hT (by omega) (by omega) (by omega) hD (fun w F h => hm1 (LeH.refl _) w F h) (fun w F h => hI e w F h) h) ?_
  clear h
  rintro _ w ⟨q9, c9, rfl, h⟩
  obtain ⟨a1, a2, a3, _, a5⟩ := filS_law (ks := keysP s.t.toL) (bel := belN D s2 (keysP s.t.toL).length) (keysP_nodup ok.1) 5 (out := ins) (u := u) hin hik (by omega) (by omega)
  obtain ⟨R, hR⟩ : ∃ R, R = outS D s2 (keysL s.t.toL) ins u := ⟨_, rfl⟩
  have a1 : (outS D s2 (keysL s.t.toL) ins u).1.Nodup := a1
  have a2 : ∀ x ∈ (outS D s2 (keysL s.t.toL) ins u).1, x ∈ keysP s.t.toL := a2
  have a3 : (outS D s2 (keysL s.t.toL) ins u).1.length = min 5 (keysP s.t.toL).length := a3
  have a5 : (outS D s2 (keysL s.t.toL) ins u).2 ≤ u + 5 := a5
  rw [← hR] at h a1 a2 a3 a5 ⊢
  obtain ⟨out, u1⟩ := R
  have a1 : out.Nodup := a1
  have a2 : ∀ x ∈ out, x ∈ keysP s.t.toL := a2
  have a3 : out.length = min 5 (keysP s.t.toL).length := a3
  have a5 : u1 ≤ u + 5 := a5
  obtain ⟨h1, le1, IO, _, h⟩ := h.slImm
  have hT := hT.mono le1
  have hp1 : PolC h1 gp gt gl := le1 _ _ hp
  refine ⟨_, _, _, rfl, Own.stP (g := gr) (k := 2) h (by repeat (first | with_reducible exact Pick.here | apply Pick.there)) (by simp) (by simp [Value.oneCell']) fun w h => ?_⟩
  simp only [setFrom, List.set_cons_zero, List.set_cons_succ, List.set_nil] at h
  have h : Own e w (imm h1 :: tinT gt m md sd lim ts :: ldB gl gtr s.used s.most :: dicO gd D s2 u1 :: rmB gr gp (some ⟨gd, 0, none⟩) q9 out.length c9 qg vs.length cg :: vcO qg cg vs :: F) := (Own.sub (h) (by repeat (first | exact Sub.nil _ | exact Sub.rfl _ | (apply Sub.cons; focus ((repeat (first | with_reducible exact Pick.here | apply Pick.there)); done)) | apply Sub.drop)))
  refine h.drw fun w h => ⟨_, _, _, Own.ld (g := gr) (k := 2) h (by repeat (first | with_reducible exact Pick.here | apply Pick.there)) rfl, _, Own.ld (g := gr) (k := 0) h (by repeat (first | with_reducible exact Pick.here | apply Pick.there)) rfl, smR ⟨_, h.immCell hp1 (i := 0) rfl, ?_⟩⟩
  have h : Own e w (imm h1 :: tinT gt m md sd lim ts :: ldB gl gtr s.used s.most :: dicO gd D s2 u1 :: rmB gr gp (some ⟨gd, 0, none⟩) q9 out.length c9 qg vs.length cg :: vcO qg cg vs :: F) := (Own.sub (h) (by repeat (first | exact Sub.nil _ | exact Sub.rfl _ | (apply Sub.cons; focus ((repeat (first | with_reducible exact Pick.here | apply Pick.there)); done)) | apply Sub.drop)))
  refine Rets.mono (lEst (ins := out) (c := c9) (by omega) (fun w F h => hm1 le1 w F h) (fun w F h => hm2 le1 w F h) (fun w F h => IO e w F h) h) ?_
  clear h
  rintro _ w ⟨rfl, h⟩
  have hal : 0 < out.length → amin (out.map (esT sd m md ts)) out.length < out.length := fun h0 => by
    have := amin_lt (out.map (esT sd m md ts)) (by simpa using h0) out.length (by simp)
    simpa using this
  have hlv : ∀ (h0 : amin (out.map (esT sd m md ts)) out.length < out.length), (out.map (esT sd m md ts)).getD (amin (out.map (esT sd m md ts)) out.length) 0 = esT sd m md ts out[amin (out.map (esT sd m md ts)) out.length] := fun h0 => by
    rw [List.getD_eq_getElem?_getD, List.getElem?_map, List.getElem?_eq_getElem h0]; rfl
  have mf := mst_f (vs := vs) (most := most) (est := esT sd m md ts) hR
  have mt := mst_t (vs := vs) (most := most) (est := esT sd m md ts) hR
  clear hR
  generalize amin (out.map (esT sd m md ts)) out.length = at_ at hal hlv mf mt ⊢
  generalize (out.map (esT sd m md ts)).getD at_ 0 = lv at hlv mf mt ⊢
  refine ⟨_, _, _, rfl, fun vs' w => vs' = [.bool (!decide (0 < out.length) || decide (lv > most))] ∧ Own e w (imm h1 :: tinT gt m md sd lim ts :: ldB gl gtr s.used s.most :: dicO gd D s2 u1 :: rmB gr gp (some ⟨gd, 0, none⟩) q9 out.length c9 qg vs.length cg :: vcO qg cg vs :: F), ⟨fun hq => ⟨?_, h⟩, fun hq => ⟨?_, h⟩⟩, ?_⟩
  · rw [hq, Bool.false_or]
  · rw [hq, Bool.true_or]
  clear h
  rintro w
  intros
  rename_i b2 hI2
  obtain ⟨hvs2, h⟩ := hI2
  obtain rfl : b2 = (!decide (0 < out.length) || decide (lv > most)) := by simpa using hvs2
  refine ⟨fun hq => ?_, fun hq => ?_⟩
  · have hq : out.length = 0 ∨ most < lv := by
      rcases Bool.or_eq_true _ _ ▸ hq with h1 | h1
      · left; simpa using h1
      · right; simpa using h1
    refine ⟨false, h1, gtr, s, out, vs, u1, q9, c9, qg, cg, rfl, le1, hT, IO, ⟨a1, a2, fun hb => (by cases hb)⟩, a5, ⟨.inl ⟨rfl, rfl, rfl, ?_⟩, mf hq⟩, (Own.sub (h) (by repeat (first | exact Sub.nil _ | exact Sub.rfl _ | (apply Sub.cons; focus ((repeat (first | with_reducible exact Pick.here | apply Pick.there)); done)) | apply Sub.drop)))⟩
    rcases hq with h0 | h0
    · left
      exact List.eq_nil_of_length_eq_zero (by omega)
    · by_cases hz : 0 < out.length
      · right
        have h2 := hal hz
        exact ⟨out[at_], a2 _ (List.getElem_mem h2), by rw [← hlv h2]; exact h0⟩
      · left
        exact List.eq_nil_of_length_eq_zero (by omega)
  · have hq : 0 < out.length ∧ lv ≤ most := by
      rw [Bool.or_eq_false_iff] at hq
      obtain ⟨h1, h2⟩ := hq
      refine ⟨by simpa using h1, ?_⟩
      have := of_decide_eq_false h2
      omega
    have hat := hal hq.1
    have hlv := hlv hat
    have mt := mt (by omega)
    rw [show out.getD at_ 0 = out[at_] by rw [List.getD_eq_getElem?_getD, List.getElem?_eq_getElem hat]; rfl] at mt
    obtain ⟨x, hx⟩ : ∃ x, x = out[at_] := ⟨_, rfl⟩
    have hxk : x ∈ keysP s.t.toL := by rw [hx]; exact a2 _ (List.getElem_mem hat)
    obtain ⟨w1, w2⟩ := woL_sub a1 hat
    rw [← hx] at hlv w2 mt
    refine ⟨_, _, _, Own.ld (g := gr) (k := 2) h (by repeat (first | with_reducible exact Pick.here | apply Pick.there)) rfl, by omega, by omega, (IO _ _ _ h).int hat fun a ha => ⟨x, by rw [Int.toNat_natCast, hx]; exact ha, _, Own.ld (g := gr) (k := 0) h (by repeat (first | with_reducible exact Pick.here | apply Pick.there)) rfl, smR ⟨_, h.immCell hp1 (i := 1) rfl, ?_⟩⟩⟩
    have h : Own e w (imm h1 :: ldB gl gtr s.used s.most :: tinT gt m md sd lim ts :: dicO gd D s2 u1 :: rmB gr gp (some ⟨gd, 0, none⟩) q9 out.length c9 qg vs.length cg :: vcO qg cg vs :: F) := (Own.sub (h) (by repeat (first | exact Sub.nil _ | exact Sub.rfl _ | (apply Sub.cons; focus ((repeat (first | with_reducible exact Pick.here | apply Pick.there)); done)) | apply Sub.drop)))
    refine Rets.mono (ldDrop (k := x) ok (by omega) hT h) ?_
    clear h
    rintro _ w ⟨rfl, h3, gtr3, le3, T3, h⟩
    refine ⟨_, _, rfl, _, _, _, Own.ld (g := gr) (k := 2) h (by repeat (first | with_reducible exact Pick.here | apply Pick.there)) rfl, ?_⟩
    refine Rets.mono (uWo (c := c9) (i := (at_ : Int)) (ins := out) (by omega) (IO.mono le3) (by omega) h) ?_
    clear h
    rintro _ w ⟨h4, q10, c10, rfl, le4, I4, h⟩
    have ewo : woZ out (at_ : Int) = woL out at_ := by unfold woZ; rw [if_neg (by omega), Int.toNat_natCast]
    rw [ewo] at I4 ⊢
    refine ⟨_, _, _, rfl, Own.stP (g := gr) (k := 2) h (by repeat (first | with_reducible exact Pick.here | apply Pick.there)) (by simp) (by simp [Value.oneCell']) fun w h => ?_⟩
    simp only [setFrom, List.set_cons_zero, List.set_cons_succ, List.set_nil] at h
    refine ⟨_, _, _, Own.ld (g := gr) (k := 3) h (by repeat (first | with_reducible exact Pick.here | apply Pick.there)) rfl, h.newR fun ge w h => ?_⟩
    have h : Own e w (blk ge 72 [.int .u64 (x, lval x s.t.toL).1, .int .i64 (x, lval x s.t.toL).2] :: vcO qg cg vs :: imm h4 :: ldB gl gtr3 (lgDrop x s).used (lgDrop x s).most :: tinT gt m md sd lim ts :: dicO gd D s2 u1 :: rmB gr gp (some ⟨gd, 0, none⟩) q10 (woL out at_).length c10 qg vs.length cg :: F) := (Own.sub (h) (by repeat (first | exact Sub.nil _ | exact Sub.rfl _ | (apply Sub.cons; focus ((repeat (first | with_reducible exact Pick.here | apply Pick.there)); done)) | apply Sub.drop)))
    refine vapp (x := (x, lval x s.t.toL)) (by omega) h fun q11 c11 w h => ⟨_, _, _, rfl, Own.stP (g := gr) (k := 3) h (by repeat (first | with_reducible exact Pick.here | apply Pick.there)) (by simp) (by simp [Value.oneCell']) fun w h => ?_⟩
    simp only [setFrom, List.set_cons_zero, List.set_cons_succ, List.set_nil] at h
    refine ⟨true, h4, gtr3, lgDrop x s, woL out at_, vs ++ [(x, lval x s.t.toL)], u1, q10, c10, q11, c11, rfl, LeH.trans le1 (LeH.trans le3 le4), T3.mono le4, I4, ⟨w1, fun y hy => ?_, fun _ => ?_⟩, a5, ⟨.inr ⟨rfl, x, hxk, ?_, rfl, rfl⟩, mt⟩, (Own.sub (h) (by repeat (first | exact Sub.nil _ | exact Sub.rfl _ | (apply Sub.cons; focus ((repeat (first | with_reducible exact Pick.here | apply Pick.there)); done)) | apply Sub.drop)))⟩
    · obtain ⟨y1, y2⟩ := w2 y hy
      exact (keys_drop ok.1 x y).2 ⟨a2 y y1, y2⟩
    · rw [woL_len]; omega
    · rw [← hlv]; exact hq.2
end
theorem sum_nil {s : Lg} (ok : LgOk s) (h : keysP s.t.toL = []) : s.used = 0 := by
  have : s.t.toL = [] := by simpa using h
  have h2 := ok.2.1
  rw [this] at h2
  exact h2.symm
/-- What making room leaves. -/
def MadeR0 (est : Int → Int) (most n : Int) (s : Lg) (b : Bool) (s' : Lg) (vs : LE2) : Prop :=
  Gn s vs s' ∧ (∀ v ∈ vs, est v.1 ≤ most) ∧ (b = true → n ≤ s'.most - s'.used) ∧ (b = false → s'.most - s'.used < n ∧ (keysP s'.t.toL = [] ∨ ∃ x ∈ keysP s'.t.toL, most < est x))
def MadeR (D : List Int) (s2 : Int) (u : Nat) (est : Int → Int) (most n : Int) (s : Lg) (b : Bool) (s' : Lg) (vs : LE2) (u' : Nat) : Prop := MadeR0 est most n s b s' vs ∧ ∃ ins', GoP D s2 est most (s.most - n) ⟨s, [], [], u⟩ b ⟨s', ins', vs, u'⟩
section
variable {e w : World} {F : List HP} {h0 : Nat → Option Obj} {q qi qg pd : Option Addr} {c ci cg gr gp gl gt gd gtr m md u : Nat} {D L : List Int} {sd lim s2 most n k : Int} {ts : Ts} {s : Lg} {vs : LE2}
theorem pMade (hm1 : ∀ {h1 : Nat → Option Obj}, LeH h0 h1 → ∀ w F, Own e w (imm h1 :: F) → RdC w mixQ mixC) (hm2 : ∀ {h1 : Nat → Option Obj}, LeH h0 h1 → ∀ w F, Own e w (imm h1 :: F) → RdC w twiQ twiC)
    (hp : PolC h0 gp gt gl) (ok : LgOk s) (hs : s.t.size ≤ 100) (hT : TreeA h0 s.t gtr) (hu : u ≤ 7000) (hD : D.length * 8 ≤ 140737488351232)
    (h : Own e w (imm h0 :: rmF gl gtr gt m md sd lim ts gd D s2 u s gr gp none 0 0 none 0 [] F)) :
    Rets Tryz.prog 44 #[.pointer (some ⟨gr, 0, none⟩), .int .i64 n, .int .i64 most] w fun v w' => ∃ (b : Bool) (h1 : Nat → Option Obj) (gtr' : Nat) (s' : Lg) (vs' : LE2) (u' : Nat) (qi' : Option Addr) (ni' ci' : Nat) (qg' : Option Addr) (cg' : Nat), v = .bool b ∧ LeH h0 h1 ∧ TreeA h1 s'.t gtr' ∧ u' ≤ u + 5 * (vs'.length + 1) ∧ MadeR D s2 u (esT sd m md ts) most n s b s' vs' u' ∧ Own e w' (imm h1 :: rmF gl gtr' gt m md sd lim ts gd D s2 u' s' gr gp qi' ni' ci' qg' cg' vs' F) := by
  refine policy_room_made_go _ _ _ ⟨fun z vs w => vs = [] ∧ ∃ (h1 : Nat → Option Obj) (gtr' : Nat) (s' : Lg) (ins' : List Int) (vs' : LE2) (u' : Nat) (qi' : Option Addr) (ci' : Nat) (qg' : Option Addr) (cg' : Nat), LeH h0 h1 ∧ TreeA h1 s'.t gtr' ∧ ImR h1 qi' (cs .u64 ins') ∧ (ins'.Nodup ∧ (∀ x ∈ ins', x ∈ keysP s'.t.toL) ∧ ins'.length ≤ 4) ∧ u' ≤ u + 5 * vs'.length ∧ z = s'.t.size ∧ Gn s vs' s' ∧ (∀ v ∈ vs', esT sd m md ts v.1 ≤ most) ∧ (∀ b t, GoP D s2 (esT sd m md ts) most (s.most - n) ⟨s', ins', vs', u'⟩ b t → GoP D s2 (esT sd m md ts) most (s.most - n) ⟨s, [], [], u⟩ b t) ∧ Own e w (imm h1 :: rmF gl gtr' gt m md sd lim ts gd D s2 u' s' gr gp qi' ins'.length ci' qg' cg' vs' F), ⟨s.t.size, rfl, h0, gtr, s, [], [], u, none, 0, none, 0, LeH.refl _, hT, fun e w F h => .inl rfl, ⟨List.nodup_nil, fun x hx => (by cases hx), by simp⟩, by simp, rfl, rfl, fun v hv => (by cases hv), fun b t ht => ht, h⟩, ?_⟩
  clear h
  rintro z w
  intros
  rename_i hI
  obtain ⟨_, h1, gtr1, s1, ins1, vs1, u1, qi1, ci1, qg1, cg1, le1, T1, I1, ⟨n1, k1, l1⟩, hu1, hz, hG, hE, hGo, h⟩ := hI
  obtain ⟨ok1, em, hsz, _⟩ := hG.facts ok
  have hnn := ok1.nn
  have hp1 : PolC h1 gp gt gl := le1 _ _ hp
  refine ⟨_, Own.ld (g := gr) (k := 0) h (by repeat (first | with_reducible exact Pick.here | apply Pick.there)) rfl, smR ⟨_, h.immCell hp1 (i := 1) rfl, ?_⟩⟩
  refine Rets.mono (ldRoom ⟨hnn, ok1.2.2.2.1, ok1.2.2.2.2⟩ h) ?_
  clear h
  rintro _ w ⟨rfl, h⟩
  refine ⟨_, rfl, fun hc => ?_, fun hc => ?_⟩
  · have hc := dec_t hc
    refine Rets.mono (pMore (most := most) (fun le => hm1 (LeH.trans le1 le)) (fun le => hm2 (LeH.trans le1 le)) hp1 ok1 (by omega) T1 I1 n1 k1 l1 (by omega) hD (by omega) h) ?_
    clear h
    rintro _ w ⟨b, h2, gtr2, s2', ins2, vs2, u2, qi2, ci2, qg2, cg2, rfl, le2, T2, I2, ⟨n2, k2, l2⟩, hu2, ⟨hM, hst⟩, h⟩
    refine ⟨_, rfl, fun hb => ?_, fun hb => ?_⟩
    · have hb : b = false := by simpa using hb
      rcases hM with ⟨_, rfl, rfl, hk⟩ | ⟨hb2, _⟩
      · exact ⟨false, h2, gtr2, s2', vs2, u2, qi2, ins2.length, ci2, qg2, cg2, rfl, LeH.trans le1 le2, T2, by omega, ⟨⟨hG, hE, fun hh => (by cases hh), fun _ => ⟨hc, hk⟩⟩, ins2, hGo _ _ (.fail _ _ (by show s.most - n < s2'.used; omega) (by rw [← hb]; exact hst))⟩, h⟩
      · rw [hb] at hb2; cases hb2
    · have hb : b = true := by simpa using hb
      rcases hM with ⟨hb2, _⟩ | ⟨_, x, hx, hxe, rfl, rfl⟩
      · rw [hb] at hb2; cases hb2
      · have hl := drop_less ok1.1 hx
        refine ⟨(lgDrop x s1).t.size, by omega, rfl, h2, gtr2, lgDrop x s1, ins2, vs1 ++ [(x, lval x s1.t.toL)], u2, qi2, ci2, qg2, cg2, LeH.trans le1 le2, T2, I2, ⟨n2, k2, l2 hb⟩, by simp; omega, rfl, hG.snoc hx, fun v hv => ?_, fun b' t' ht => hGo _ _ (.next _ _ _ _ (by show s.most - n < s1.used; omega) (by rw [← hb]; exact hst) ht), h⟩
        rcases List.mem_append.1 hv with hv | hv
        · exact hE v hv
        · rw [List.mem_singleton.1 hv]; exact hxe
  · have hc := dec_f hc
    exact ⟨true, h1, gtr1, s1, vs1, u1, qi1, ins1.length, ci1, qg1, cg1, rfl, le1, T1, by omega, ⟨⟨hG, hE, fun _ => by omega, fun hh => (by cases hh)⟩, ins1, hGo _ _ (.stop _ (by show s1.used ≤ s.most - n; omega))⟩, h⟩
theorem pMade0 (hp : PolC h0 gp gt gl) (ok : LgOk s) (hn : n ≤ s.most - s.used) (h : Own e w (imm h0 :: ldB gl gtr s.used s.most :: rmB gr gp pd none 0 0 none 0 0 :: F)) :
    Rets Tryz.prog 44 #[.pointer (some ⟨gr, 0, none⟩), .int .i64 n, .int .i64 most] w fun v w' => v = .bool true ∧ Own e w' (imm h0 :: ldB gl gtr s.used s.most :: rmB gr gp pd none 0 0 none 0 0 :: F) := by
  refine policy_room_made_go _ _ _ ⟨fun z vs w => vs = [] ∧ Own e w (imm h0 :: ldB gl gtr s.used s.most :: rmB gr gp pd none 0 0 none 0 0 :: F), ⟨0, rfl, h⟩, ?_⟩
  clear h
  rintro z w
  intros
  rename_i hI
  obtain ⟨_, h⟩ := hI
  refine ⟨_, Own.ld (g := gr) (k := 0) h (by repeat (first | with_reducible exact Pick.here | apply Pick.there)) rfl, smR ⟨_, h.immCell hp (i := 1) rfl, ?_⟩⟩
  refine Rets.mono (ldRoom ⟨ok.nn, ok.2.2.2.1, ok.2.2.2.2⟩ h) ?_
  clear h
  rintro _ w ⟨rfl, h⟩
  exact ⟨_, rfl, fun hc => (by have := dec_t hc; omega), fun _ => ⟨rfl, h⟩⟩
theorem pLedger (hp : PolC h0 gp gt gl) (h : Own e w (imm h0 :: F)) : Rets Tryz.prog 10 #[.pointer (some ⟨gp, 0, none⟩)] w fun v w' => v = .pointer (some ⟨gl, 0, none⟩) ∧ Own e w' (imm h0 :: F) :=
  policy_Policy_Ledger_go _ ⟨fun hc => (by cases hc), fun _ => ⟨_, h.immCell hp (i := 1) rfl, rfl, h⟩⟩
theorem pTiny (hp : PolC h0 gp gt gl) (h : Own e w (imm h0 :: F)) : Rets Tryz.prog 19 #[.pointer (some ⟨gp, 0, none⟩)] w fun v w' => v = .pointer (some ⟨gt, 0, none⟩) ∧ Own e w' (imm h0 :: F) :=
  policy_Policy_Tiny_go _ ⟨fun hc => (by cases hc), fun _ => ⟨_, h.immCell hp (i := 0) rfl, rfl, h⟩⟩
theorem pEst (hm1 : ∀ w F, Own e w (imm h0 :: F) → RdC w mixQ mixC) (hm2 : ∀ w F, Own e w (imm h0 :: F) → RdC w twiQ twiC) (hp : PolC h0 gp gt gl) (h : Own e w (imm h0 :: tinT gt m md sd lim ts :: F)) : Rets Tryz.prog 12 #[.pointer (some ⟨gp, 0, none⟩), .int .u64 k] w fun v w' => v = .int .i64 (esT sd m md ts k) ∧ Own e w' (imm h0 :: tinT gt m md sd lim ts :: F) := by
  refine policy_Policy_Estimate_go _ _ ?_
  refine Rets.mono (pTiny hp h) ?_
  clear h
  rintro _ w ⟨rfl, h⟩
  refine ⟨_, rfl, ?_⟩
  refine Rets.mono (tEst (hh := k) (fun w h => hm1 w _ h) (fun w h => hm2 w _ h) h.swap) ?_
  rintro _ w ⟨rfl, h⟩
  exact ⟨_, rfl, rfl, h.swap⟩
theorem pPush (hm1 : ∀ w F, Own e w (imm h0 :: F) → RdC w mixQ mixC) (hm2 : ∀ w F, Own e w (imm h0 :: F) → RdC w twiQ twiC) (hp : PolC h0 gp gt gl) (hlim : 1 ≤ lim ∧ lim ≤ 4096) (okt : okT m md lim ts) (hL : L.length ≤ 1000) (hr : ImR h0 q (cs .u64 L)) (h : Own e w (imm h0 :: tinT gt m md sd lim ts :: F)) :
    Rets Tryz.prog 30 #[.pointer (some ⟨gp, 0, none⟩), .slice q L.length c] w fun v w' => v = .tuple #[] ∧ Own e w' (imm h0 :: tinT gt m md sd lim (nxL sd m md lim ts L) :: F) := by
  refine policy_Policy_Push_go _ _ _ _ ?_
  refine Rets.mono (pTiny hp h) ?_
  clear h
  rintro _ w ⟨rfl, h⟩
  refine ⟨_, rfl, ?_⟩
  refine Rets.mono (tPushT (fun w h => hm1 w _ h) (fun w h => hm2 w _ h) hlim okt hL (fun w h => hr _ _ _ h) h.swap) ?_
  rintro _ w ⟨rfl, h⟩
  exact ⟨rfl, rfl, h.swap⟩
theorem pNew {a b : Int} (hm1 : ∀ w, Own e w (imm h0 :: F) → RdC w mixQ mixC) (h : Own e w (imm h0 :: F)) : Rets Tryz.prog 6 #[.int .i64 a, .int .i64 b, .int .u64 sd] w fun v w' => ∃ (gp gt gl gtr m md : Nat) (h1 : Nat → Option Obj), v = .pointer (some ⟨gp, 0, none⟩) ∧ LeH h0 h1 ∧ PolC h1 gp gt gl ∧ TreeA h1 Tr.nil gtr ∧ Own e w' (imm h1 :: ldB gl gtr 0 (cutI a) :: tinT gt m md sd (maxI 1 (minI b 4096)) (t0 m md) :: F) := by
  refine policy_New_go _ _ _ ?_
  refine Rets.mono (tNewT (n := b) (s := sd) hm1 h) ?_
  clear h
  rintro _ w ⟨gt, m, md, rfl, _, _, h⟩
  refine ⟨_, rfl, ?_⟩
  refine Rets.mono (ldNew (n := a) h.swap) ?_
  clear h
  rintro _ w ⟨gl, rfl, h1, gtr, le1, T1, h⟩
  refine ⟨_, rfl, h.newR fun gp w h => ?_⟩
  obtain ⟨h2, le2, hp, hh⟩ := Own.absorb h
  exact ⟨gp, gt, gl, gtr, m, md, h2, rfl, LeH.trans le1 le2, hp, T1.mono le2, hh⟩
/-- May a cost be asked for at all? -/
def askOk (k n : Int) (s : Lg) : Prop := 0 ≤ n ∧ n ≤ s.most ∧ k ∉ keysP s.t.toL
theorem pAsk {d : Option Addr} {K : Value → World → Prop} (hp : PolC h0 gp gt gl) (ok : LgOk s) (hs : s.t.size ≤ 100) (hT : TreeA h0 s.t gtr) (h : Own e w (imm h0 :: ldB gl gtr s.used s.most :: F))
    (hno : ∀ w, ¬ askOk k n s → Own e w (imm h0 :: ldB gl gtr s.used s.most :: F) → K (.tuple #[.slice none 0 0, .bool false]) w)
    (hyes : ∀ w, askOk k n s → Own e w (imm h0 :: ldB gl gtr s.used s.most :: F) → NewR 101 [.pointer (some ⟨gp, 0, none⟩), .pointer d, .slice none 0 0, .slice none 0 0] w fun a1 w5 => Rets Tryz.prog 12 #[.pointer (some ⟨gp, 0, none⟩), .int .u64 k] w5 fun v19 w6 => ∃ n3, v19 = .int .i64 n3 ∧ Rets Tryz.prog 44 #[.pointer (some a1), .int .i64 n, .int .i64 n3] w6 fun v20 w7 => ∃ b4, v20 = .bool b4 ∧
      ((!b4) = true → ∃ q3 k1 k2, cellAt w7 (a1.add 3) (.slice q3 k1 k2) ∧ K (.tuple #[.slice q3 k1 k2, .bool false]) w7) ∧
      ((!b4) = false → Drw w7 fun w8 => ∃ h2 : World → Prop, h2 w8 ∧ ∃ q4 k3 k4, (∀ w, h2 w → w.cell? (a1.add 3) = some (.slice q4 k3 k4)) ∧ ∃ q5, (∀ w, h2 w → w.cell? ((⟨gp, 0, none⟩ : Addr).add 1) = some (.pointer q5)) ∧ Rets Tryz.prog 45 #[.pointer q5, .int .u64 k, .int .i64 n] w8 fun v21 w11 => ∃ b5, v21 = .bool b5 ∧ h2 w11 ∧ K (.tuple #[.slice q4 k3 k4, .bool b5]) w11)) :
    Rets Tryz.prog 20 #[.pointer (some ⟨gp, 0, none⟩), .int .u64 k, .int .i64 n, .pointer d] w K := by
  have h5 := ok.2.2.2.2
  refine policy_Policy_Add_go _ _ _ _ ⟨fun vs w => ∃ b, vs = [.bool b] ∧ (b = false ↔ (0 ≤ n ∧ n ≤ s.most)) ∧ Own e w (imm h0 :: ldB gl gtr s.used s.most :: F), ⟨fun _ => ?_, fun hc => (by cases hc)⟩, ?_⟩
  · refine Rets.mono (cRight h) ?_
    clear h
    rintro _ w ⟨rfl, h⟩
    refine ⟨_, rfl, fun hb => ⟨_, h.immCell hp (i := 1) rfl, ?_⟩, fun hb => ?_⟩
    · have hb := rightB_t.1 (by simpa using hb)
      refine Rets.mono (ldMost h) ?_
      clear h
      rintro _ w ⟨rfl, h⟩
      refine ⟨_, rfl, _, rfl, ?_, h⟩
      rw [decide_eq_false_iff_not]
      exact ⟨fun h1 => ⟨hb.1, by omega⟩, fun h1 => by omega⟩
    · have hb := rightB_f.1 (by simpa using hb)
      exact ⟨_, rfl, ⟨fun h1 => (by cases h1), fun h1 => by omega⟩, h⟩
  clear h
  rintro w
  intros
  rename_i b2 hI
  obtain ⟨b, hvs, hb, h⟩ := hI
  obtain rfl : b2 = b := by simpa using hvs
  refine ⟨fun hq => hno w (fun ha => by rw [hb.2 ⟨ha.1, ha.2.1⟩] at hq; cases hq) h, fun hq => ⟨_, h.immCell hp (i := 1) rfl, ?_⟩⟩
  obtain ⟨b1, b3⟩ := hb.1 hq
  refine Rets.mono (ldCost (k := k) hT (by omega) ok.1 h) ?_
  clear h
  rintro _ w ⟨rfl, h⟩
  refine ⟨_, _, rfl, fun hf => hno w (fun ha => ha.2.2 (lfind_keyP.1 hf)) h, fun hf => hyes w ⟨b1, b3, fun hk => ?_⟩ h⟩
  rw [lfind_keyP.2 hk] at hf; cases hf
end
theorem lgAdd_yes {k n : Int} {s : Lg} (hk : k ∉ keysP s.t.toL) (hn : 0 ≤ n ∧ n ≤ s.most - s.used) : lgAdd k n s = (⟨tput k n s.t, s.used + n, s.most⟩, true) := by
  unfold lgAdd
  rw [if_neg (fun hf => hk (lfind_keyP.1 hf)), if_pos (by omega)]
def adS (b : Bool) (k n : Int) (s : Lg) : Lg := if b = true then (lgAdd k n s).1 else s
section
variable {e w : World} {F : List HP} {h0 : Nat → Option Obj} {gp gl gt gd gtr m md u : Nat} {D : List Int} {sd lim s2 n k : Int} {ts : Ts} {s : Lg}
theorem pAdd (hm1 : ∀ {h1 : Nat → Option Obj}, LeH h0 h1 → ∀ w F, Own e w (imm h1 :: F) → RdC w mixQ mixC) (hm2 : ∀ {h1 : Nat → Option Obj}, LeH h0 h1 → ∀ w F, Own e w (imm h1 :: F) → RdC w twiQ twiC)
    (hp : PolC h0 gp gt gl) (ok : LgOk s) (hs : s.t.size ≤ 100) (hT : TreeA h0 s.t gtr) (hu : u ≤ 7000) (hD : D.length * 8 ≤ 140737488351232)
    (h : Own e w (imm h0 :: ldB gl gtr s.used s.most :: tinT gt m md sd lim ts :: dicO gd D s2 u :: F)) :
    Rets Tryz.prog 20 #[.pointer (some ⟨gp, 0, none⟩), .int .u64 k, .int .i64 n, .pointer (some ⟨gd, 0, none⟩)] w fun v w' =>
      (¬ askOk k n s ∧ v = .tuple #[.slice none 0 0, .bool false] ∧ Own e w' (imm h0 :: ldB gl gtr s.used s.most :: tinT gt m md sd lim ts :: dicO gd D s2 u :: F)) ∨
      (askOk k n s ∧ ∃ (b : Bool) (s1 : Lg) (vs : LE2) (h1 : Nat → Option Obj) (gtr' : Nat) (q' : Option Addr) (c' u' : Nat), v = .tuple #[.slice q' vs.length c', .bool b] ∧ LeH h0 h1 ∧ ImR h1 q' (E24 vs) ∧ MadeR D s2 u (esT sd m md ts) (esT sd m md ts k) n s b s1 vs u' ∧ u' ≤ u + 5 * (vs.length + 1) ∧ TreeA h1 (adS b k n s1).t gtr' ∧ Own e w' (imm h1 :: ldB gl gtr' (adS b k n s1).used (adS b k n s1).most :: tinT gt m md sd lim ts :: dicO gd D s2 u' :: F)) := by
  refine pAsk hp ok hs hT h (fun w ha h => .inl ⟨ha, rfl, h⟩) (fun w ha h => h.newR fun gr w h => ?_)
  have h : Own e w (imm h0 :: tinT gt m md sd lim ts :: ldB gl gtr s.used s.most :: dicO gd D s2 u :: rmB gr gp (some ⟨gd, 0, none⟩) none 0 0 none 0 0 :: F) := (Own.sub (h) (by repeat (first | exact Sub.nil _ | exact Sub.rfl _ | (apply Sub.cons; focus ((repeat (first | with_reducible exact Pick.here | apply Pick.there)); done)) | apply Sub.drop)))
  refine Rets.mono (pEst (k := k) (hm1 (LeH.refl _)) (hm2 (LeH.refl _)) hp h) ?_
  clear h
  rintro _ w ⟨rfl, h⟩
  refine ⟨_, rfl, ?_⟩
  have h : Own e w (imm h0 :: rmF gl gtr gt m md sd lim ts gd D s2 u s gr gp none 0 0 none 0 [] F) := by
    have h : Own e w (vcO none 0 [] :: imm h0 :: tinT gt m md sd lim ts :: ldB gl gtr s.used s.most :: dicO gd D s2 u :: rmB gr gp (some ⟨gd, 0, none⟩) none 0 0 none 0 0 :: F) := h.slNil
    have h : Own e w (vcO none 0 [] :: imm h0 :: tinT gt m md sd lim ts :: ldB gl gtr s.used s.most :: dicO gd D s2 u :: rmB gr gp (some ⟨gd, 0, none⟩) none 0 0 none ([] : LE2).length 0 :: F) := h
    exact (Own.sub (h) (by repeat (first | exact Sub.nil _ | exact Sub.rfl _ | (apply Sub.cons; focus ((repeat (first | with_reducible exact Pick.here | apply Pick.there)); done)) | apply Sub.drop)))
  refine Rets.mono (pMade (n := n) (most := esT sd m md ts k) hm1 hm2 hp ok hs hT hu hD h) ?_
  clear h
  rintro _ w ⟨b, h1, gtr1, s1, vs, u1, qi, ni, ci, qg, cg, rfl, le1, T1, hu1, hM, h⟩
  have hM' := hM.1
  obtain ⟨hG, hE, hM1, hM2⟩ := hM'
  obtain ⟨ok1, em, hsz1, hsub⟩ := hG.facts ok
  have hp1 : PolC h1 gp gt gl := le1 _ _ hp
  refine ⟨_, rfl, fun hb => ?_, fun hb => ?_⟩
  · have hb : b = false := by simpa using hb
    subst hb
    refine ⟨_, _, _, Own.ld (g := gr) (k := 3) h (by repeat (first | with_reducible exact Pick.here | apply Pick.there)) rfl, .inr ⟨ha, false, s1, vs, ?_⟩⟩
    have h : Own e w (vcO qg cg vs :: imm h1 :: ldB gl gtr1 s1.used s1.most :: tinT gt m md sd lim ts :: dicO gd D s2 u1 :: F) := (Own.sub (h) (by repeat (first | exact Sub.nil _ | exact Sub.rfl _ | (apply Sub.cons; focus ((repeat (first | with_reducible exact Pick.here | apply Pick.there)); done)) | apply Sub.drop)))
    obtain ⟨h2, le2, Iv, _, h⟩ := h.slImm
    exact ⟨h2, gtr1, qg, cg, u1, rfl, LeH.trans le1 le2, Iv, hM, hu1, T1.mono le2, h⟩
  · have hb : b = true := by simpa using hb
    subst hb
    have hroom := hM1 rfl
    have ey := lgAdd_yes (k := k) (n := n) (fun hk => ha.2.2 (hsub k hk)) ⟨ha.1, hroom⟩
    let S : World → Prop := fun w => ∃ F', Own e w (imm h1 :: rmB gr gp (some ⟨gd, 0, none⟩) qi ni ci qg vs.length cg :: F')
    refine h.drw fun w h => ⟨S, ⟨_, ((Own.sub (h) (by repeat (first | with_reducible exact Sub.nil _ | with_reducible exact Sub.rfl _ | (apply Sub.cons; focus ((repeat (first | with_reducible exact Pick.here | apply Pick.there)); done)) | apply Sub.drop))) : Own e w (imm h1 :: rmB gr gp (some ⟨gd, 0, none⟩) qi ni ci qg vs.length cg :: []))⟩, _, _, _, fun w ⟨F', h⟩ => Own.ld (g := gr) (k := 3) h (by repeat (first | with_reducible exact Pick.here | apply Pick.there)) rfl, _, fun w ⟨F', h⟩ => h.immCell hp1 (i := 1) rfl, ?_⟩
    refine Rets.mono (ldAdd (k := k) (n := n) ok1 (by omega) T1 h) ?_
    clear h
    rintro _ w ⟨rfl, h3, gtr3, le3, T3, h⟩
    refine ⟨_, rfl, ⟨_, ((Own.sub ((h.immLe le3)) (by repeat (first | with_reducible exact Sub.nil _ | with_reducible exact Sub.rfl _ | (apply Sub.cons; focus ((repeat (first | with_reducible exact Pick.here | apply Pick.there)); done)) | apply Sub.drop))) : Own e w (imm h1 :: rmB gr gp (some ⟨gd, 0, none⟩) qi ni ci qg vs.length cg :: []))⟩, .inr ⟨ha, true, s1, vs, ?_⟩⟩
    have h : Own e w (vcO qg cg vs :: imm h3 :: ldB gl gtr3 (lgAdd k n s1).1.used (lgAdd k n s1).1.most :: tinT gt m md sd lim ts :: dicO gd D s2 u1 :: F) := (Own.sub (h) (by repeat (first | exact Sub.nil _ | exact Sub.rfl _ | (apply Sub.cons; focus ((repeat (first | with_reducible exact Pick.here | apply Pick.there)); done)) | apply Sub.drop)))
    obtain ⟨h2, le2, Iv, _, h⟩ := h.slImm
    rw [show (lgAdd k n s1).2 = true by rw [ey]]
    exact ⟨h2, gtr3, qg, cg, u1, rfl, LeH.trans le1 (LeH.trans le3 le2), Iv, hM, hu1, T3.mono le2, h⟩
theorem pAdd0 (hm1 : ∀ w F, Own e w (imm h0 :: F) → RdC w mixQ mixC) (hm2 : ∀ w F, Own e w (imm h0 :: F) → RdC w twiQ twiC)
    (hp : PolC h0 gp gt gl) (ok : LgOk s) (hs : s.t.size ≤ 100) (hT : TreeA h0 s.t gtr) (ha : askOk k n s) (hn : n ≤ s.most - s.used)
    (h : Own e w (imm h0 :: ldB gl gtr s.used s.most :: tinT gt m md sd lim ts :: F)) :
    Rets Tryz.prog 20 #[.pointer (some ⟨gp, 0, none⟩), .int .u64 k, .int .i64 n, .pointer none] w fun v w' => ∃ h1 gtr', v = .tuple #[.slice none 0 0, .bool true] ∧ LeH h0 h1 ∧ TreeA h1 (lgAdd k n s).1.t gtr' ∧ Own e w' (imm h1 :: ldB gl gtr' (lgAdd k n s).1.used (lgAdd k n s).1.most :: tinT gt m md sd lim ts :: F) := by
  refine pAsk hp ok hs hT h (fun w ha2 h => absurd ha ha2) (fun w ha h => h.newR fun gr w h => ?_)
  have h : Own e w (imm h0 :: tinT gt m md sd lim ts :: ldB gl gtr s.used s.most :: rmB gr gp none none 0 0 none 0 0 :: F) := (Own.sub (h) (by repeat (first | exact Sub.nil _ | exact Sub.rfl _ | (apply Sub.cons; focus ((repeat (first | with_reducible exact Pick.here | apply Pick.there)); done)) | apply Sub.drop)))
  refine Rets.mono (pEst (k := k) hm1 hm2 hp h) ?_
  clear h
  rintro _ w ⟨rfl, h⟩
  have h : Own e w (imm h0 :: ldB gl gtr s.used s.most :: rmB gr gp none none 0 0 none 0 0 :: tinT gt m md sd lim ts :: F) := (Own.sub (h) (by repeat (first | exact Sub.nil _ | exact Sub.rfl _ | (apply Sub.cons; focus ((repeat (first | with_reducible exact Pick.here | apply Pick.there)); done)) | apply Sub.drop)))
  refine ⟨_, rfl, ?_⟩
  refine Rets.mono (pMade0 hp ok hn h) ?_
  clear h
  rintro _ w ⟨rfl, h⟩
  have ey := lgAdd_yes (k := k) (n := n) ha.2.2 ⟨ha.1, hn⟩
  let S : World → Prop := fun w => ∃ F', Own e w (imm h0 :: rmB gr gp none none 0 0 none 0 0 :: F')
  refine ⟨_, rfl, fun hb => (by cases hb), fun _ => h.drw fun w h => ⟨S, ⟨_, ((Own.sub (h) (by repeat (first | with_reducible exact Sub.nil _ | with_reducible exact Sub.rfl _ | (apply Sub.cons; focus ((repeat (first | with_reducible exact Pick.here | apply Pick.there)); done)) | apply Sub.drop))) : Own e w (imm h0 :: rmB gr gp none none 0 0 none 0 0 :: []))⟩, _, _, _, fun w ⟨F', h⟩ => Own.ld (g := gr) (k := 3) h (by repeat (first | with_reducible exact Pick.here | apply Pick.there)) rfl, _, fun w ⟨F', h⟩ => h.immCell hp (i := 1) rfl, ?_⟩⟩
  refine Rets.mono (ldAdd (k := k) (n := n) ok (by omega) hT h) ?_
  clear h
  rintro _ w ⟨rfl, h3, gtr3, le3, T3, h⟩
  refine ⟨_, rfl, ⟨_, ((Own.sub ((h.immLe le3)) (by repeat (first | with_reducible exact Sub.nil _ | with_reducible exact Sub.rfl _ | (apply Sub.cons; focus ((repeat (first | with_reducible exact Pick.here | apply Pick.there)); done)) | apply Sub.drop))) : Own e w (imm h0 :: rmB gr gp none none 0 0 none 0 0 :: []))⟩, h3, gtr3, ?_, le3, T3, (Own.sub (h) (by repeat (first | exact Sub.nil _ | exact Sub.rfl _ | (apply Sub.cons; focus ((repeat (first | with_reducible exact Pick.here | apply Pick.there)); done)) | apply Sub.drop)))⟩
  rw [show (lgAdd k n s).2 = true by rw [ey]]
theorem pcAwake (hm1 : ∀ {h1 : Nat → Option Obj}, LeH h0 h1 → ∀ w F, Own e w (imm h1 :: F) → RdC w mixQ mixC) (hm2 : ∀ {h1 : Nat → Option Obj}, LeH h0 h1 → ∀ w F, Own e w (imm h1 :: F) → RdC w twiQ twiC) (h : Own e w (imm h0 :: F)) :
    Rets Tryz.prog 5 #[] w fun v w' => v = .bool true ∧ ∃ F, Own e w' (imm h0 :: F) := by
  refine cortadolaw26_awake_go ?_
  refine Rets.mono (pNew (a := 10) (b := 8) (sd := 0) (fun w h => hm1 (LeH.refl _) w _ h) h) ?_
  clear h
  rintro _ w ⟨gp, gt, gl, gtr, m, md, h1, rfl, le1, hp, T1, h⟩
  rw [show cutI 10 = 10 by decide] at h
  have ok0 : LgOk ⟨.nil, 0, 10⟩ := LgOk.nil ⟨by decide, by decide⟩
  have h : Own e w (imm h1 :: ldB gl gtr (⟨.nil, 0, 10⟩ : Lg).used (⟨.nil, 0, 10⟩ : Lg).most :: tinT gt m md 0 (maxI 1 (minI 8 4096)) (t0 m md) :: F) := h
  refine ⟨_, rfl, ?_⟩
  refine Rets.mono (pAdd0 (s := ⟨.nil, 0, 10⟩) (k := 1) (n := 6) (hm1 le1) (hm2 le1) hp ok0 (by decide) T1 ⟨by decide, by decide, fun hk => (by cases hk)⟩ (by decide) h) ?_
  clear h
  rintro _ w ⟨h2, gtr2, rfl, le2, T2, h⟩
  have ok1 := ok0.add (k := 1) (n := 6)
  have e1 : (lgAdd 1 6 ⟨.nil, 0, 10⟩).1 = ⟨.node 1 6 .nil .nil, 6, 10⟩ := rfl
  rw [e1] at T2 h ok1
  have le3 := LeH.trans le1 le2
  have hp2 : PolC h2 gp gt gl := le2 _ _ hp
  refine ⟨_, _, _, _, rfl, ?_⟩
  refine Rets.mono (dcNew (L := []) (q := none) (c := 0) (s := 0) h (fun w h => .inl rfl) (by decide)) ?_
  clear h
  rintro _ w ⟨gd, rfl, h⟩
  have h : Own e w (imm h2 :: ldB gl gtr2 (⟨.node 1 6 .nil .nil, 6, 10⟩ : Lg).used (⟨.node 1 6 .nil .nil, 6, 10⟩ : Lg).most :: tinT gt m md 0 (maxI 1 (minI 8 4096)) (t0 m md) :: dicO gd [] 0 0 :: F) := (Own.sub (h) (by repeat (first | exact Sub.nil _ | exact Sub.rfl _ | (apply Sub.cons; focus ((repeat (first | with_reducible exact Pick.here | apply Pick.there)); done)) | apply Sub.drop)))
  refine ⟨_, rfl, ?_⟩
  refine Rets.mono (pAdd (k := 2) (n := 5) (s := ⟨.node 1 6 .nil .nil, 6, 10⟩) (fun le => hm1 (LeH.trans le3 le)) (fun le => hm2 (LeH.trans le3 le)) hp2 ok1 (by decide) T2 (by decide) (by decide) h) ?_
  clear h
  have hz : ∀ x, esT 0 m md (t0 m md) x = 0 := fun x => by
    show ((esN 0 (2 ^ m) (2 ^ md) _ _ x : Nat) : Int) = 0
    rw [show esN 0 (2 ^ m) (2 ^ md) (t0 m md).R (t0 m md).ws x = 0 from es_zero _ _ _ _ _ _]; rfl
  have hk1 : keysP (⟨.node 1 6 .nil .nil, 6, 10⟩ : Lg).t.toL = [1] := rfl
  rintro _ w (⟨hno, _⟩ | ⟨ha, b, s1, vs, h4, gtr4, q4, c4, u4, rfl, le4, Iv, ⟨⟨hG, hE, hM1, hM2⟩, _⟩, _, T4, h⟩)
  · exact absurd ⟨by decide, by decide, by rw [hk1]; decide⟩ hno
  · obtain ⟨ok2, em, _, hsub⟩ := hG.facts ok1
    have hbt : b = true := by
      cases b with
      | true => rfl
      | false =>
        obtain ⟨hr, hk | ⟨x, _, hx⟩⟩ := hM2 rfl
        · have := sum_nil ok2 hk
          have em : s1.most = 10 := em
          omega
        · rw [hz, hz] at hx; omega
    subst hbt
    have hroom := hM1 rfl
    have hvs : vs = [(1, 6)] := by
      cases vs with
      | nil =>
        have : s1 = _ := hG
        subst this
        exact absurd hroom (by decide)
      | cons v vs =>
        obtain ⟨g1, g2, g3⟩ := hG
        rw [hk1] at g1
        obtain ⟨v1, v2⟩ := v
        have g1 : v1 = 1 := List.mem_singleton.1 g1
        subst g1
        have g2 : v2 = 6 := g2
        subst g2
        cases vs with
        | nil => rfl
        | cons v' vs' =>
          have g4 : v'.1 ∈ keysP (lgDrop 1 (⟨.node 1 6 .nil .nil, 6, 10⟩ : Lg)).t.toL := g3.1
          rw [show keysP (lgDrop 1 (⟨.node 1 6 .nil .nil, 6, 10⟩ : Lg)).t.toL = [] from rfl] at g4
          cases g4
    subst hvs
    have hl : 0 < ([(1, 6)] : LE2).length := by decide
    obtain ⟨ad, eq, rd⟩ := Iv.adr24 hl h
    have rd := rd _ _ _ h
    rw [show Int.toNat ((0 : Nat) : Int) * 2 = 0 from rfl] at rd
    subst eq
    have ad0 : ∀ a : Addr, a.add 0 = a := fun a => by
      unfold Addr.add; simp
    refine ⟨_, _, _, _, rfl, fun _ => ⟨fun _ => ⟨fun _ => ⟨by decide, by decide, smR ⟨_, _, ⟨rd.1, rd.2⟩, rfl, _, h.immLe (LeH.trans le3 le4)⟩⟩, fun hq => absurd hq (by decide)⟩, fun hq => (by cases hq)⟩, fun hq => (by cases hq)⟩
end
theorem esT_le (sd : Int) (m md : Nat) (ts : Ts) (x : Int) : esT sd m md ts x ≤ 1024 := by
  have := es_le (s := sd) (x := x) (M := 2 ^ m) (MD := 2 ^ md) (ws := ts.ws) ts.R
  unfold esT
  omega
section
variable {e w : World} {F : List HP} {h0 : Nat → Option Obj} {q : Option Addr} {c gp gl gt gd gtr m md u : Nat} {D L : List Int} {sd lim s2 n k : Int} {ts : Ts} {s : Lg}
theorem pUpd (hm1 : ∀ {h1 : Nat → Option Obj}, LeH h0 h1 → ∀ w F, Own e w (imm h1 :: F) → RdC w mixQ mixC) (hm2 : ∀ {h1 : Nat → Option Obj}, LeH h0 h1 → ∀ w F, Own e w (imm h1 :: F) → RdC w twiQ twiC)
    (hp : PolC h0 gp gt gl) (ok : LgOk s) (hs : s.t.size ≤ 100) (hT : TreeA h0 s.t gtr) (hu : u ≤ 7000) (hD : D.length * 8 ≤ 140737488351232)
    (h : Own e w (imm h0 :: ldB gl gtr s.used s.most :: tinT gt m md sd lim ts :: dicO gd D s2 u :: F)) :
    Rets Tryz.prog 25 #[.pointer (some ⟨gp, 0, none⟩), .int .u64 k, .int .i64 n, .pointer (some ⟨gd, 0, none⟩)] w fun v w' =>
      ∃ (b : Bool) (s' : Lg) (vs : LE2) (h1 : Nat → Option Obj) (gtr' : Nat) (q' : Option Addr) (c' u' : Nat), v = .tuple #[.slice q' vs.length c', .bool b] ∧ LeH h0 h1 ∧ ImR h1 q' (E24 vs) ∧ u' ≤ u + 5 * (vs.length + 1) ∧ TreeA h1 s'.t gtr' ∧
      ((b = false ∧ vs = [] ∧ s' = s ∧ u' = u ∧ ¬ (k ∈ keysP s.t.toL ∧ 0 ≤ n ∧ n ≤ 4611686018427387904)) ∨ (b = false ∧ k ∈ keysP s.t.toL ∧ vs = [(k, lval k s.t.toL)] ∧ s' = lgDrop k s ∧ u' = u ∧ (0 ≤ n ∧ n ≤ 4611686018427387904) ∧ s.most < n) ∨
       (b = true ∧ k ∈ keysP s.t.toL ∧ (0 ≤ n ∧ n ≤ s.most) ∧ ∃ s1, Gn (lgDrop k s) vs s1 ∧ n ≤ s1.most - s1.used ∧ s' = (lgAdd k n s1).1 ∧ ∃ b' ins', GoP D s2 (esT sd m md ts) 1024 (s.most - n) ⟨lgDrop k s, [], [], u⟩ b' ⟨s1, ins', vs, u'⟩)) ∧
      Own e w' (imm h1 :: ldB gl gtr' s'.used s'.most :: tinT gt m md sd lim ts :: dicO gd D s2 u' :: F) := by
  have h5 := ok.2.2.2.2
  refine policy_Policy_Update_go _ _ _ _ ⟨fun vs w => vs = [.bool (!rightB n)] ∧ Own e w (imm h0 :: ldB gl gtr s.used s.most :: tinT gt m md sd lim ts :: dicO gd D s2 u :: F), ⟨fun _ => ?_, fun hc => (by cases hc)⟩, ?_⟩
  · refine Rets.mono (cRight h) ?_
    rintro _ w ⟨rfl, h⟩
    exact ⟨_, rfl, rfl, h⟩
  clear h
  rintro w
  intros
  rename_i b2 hI
  obtain ⟨hvs, h⟩ := hI
  obtain rfl : b2 = !rightB n := by simpa using hvs
  have none_ : ∀ w, rightB n = false → Own e w (imm h0 :: ldB gl gtr s.used s.most :: tinT gt m md sd lim ts :: dicO gd D s2 u :: F) → ∃ (b : Bool) (s' : Lg) (vs : LE2) (h1 : Nat → Option Obj) (gtr' : Nat) (q' : Option Addr) (c' u' : Nat), Value.tuple #[.slice none 0 0, .bool false] = .tuple #[.slice q' vs.length c', .bool b] ∧ LeH h0 h1 ∧ ImR h1 q' (E24 vs) ∧ u' ≤ u + 5 * (vs.length + 1) ∧ TreeA h1 s'.t gtr' ∧
      ((b = false ∧ vs = [] ∧ s' = s ∧ u' = u ∧ ¬ (k ∈ keysP s.t.toL ∧ 0 ≤ n ∧ n ≤ 4611686018427387904)) ∨ (b = false ∧ k ∈ keysP s.t.toL ∧ vs = [(k, lval k s.t.toL)] ∧ s' = lgDrop k s ∧ u' = u ∧ (0 ≤ n ∧ n ≤ 4611686018427387904) ∧ s.most < n) ∨
       (b = true ∧ k ∈ keysP s.t.toL ∧ (0 ≤ n ∧ n ≤ s.most) ∧ ∃ s1, Gn (lgDrop k s) vs s1 ∧ n ≤ s1.most - s1.used ∧ s' = (lgAdd k n s1).1 ∧ ∃ b' ins', GoP D s2 (esT sd m md ts) 1024 (s.most - n) ⟨lgDrop k s, [], [], u⟩ b' ⟨s1, ins', vs, u'⟩)) ∧
      Own e w (imm h1 :: ldB gl gtr' s'.used s'.most :: tinT gt m md sd lim ts :: dicO gd D s2 u' :: F) := fun w hno h =>
    ⟨false, s, [], h0, gtr, none, 0, u, rfl, LeH.refl _, fun e w F h => .inl rfl, by omega, hT, .inl ⟨rfl, rfl, rfl, rfl, fun hh => by have := rightB_f.1 hno; omega⟩, h⟩
  refine ⟨fun hno => none_ w (by simpa using hno) h, fun hr => ⟨_, h.immCell hp (i := 1) rfl, ?_⟩⟩
  have hr : rightB n = true := by simpa using hr
  have hr := rightB_t.1 hr
  refine Rets.mono (ldDrop (k := k) ok (by omega) hT h) ?_
  clear h
  rintro _ w ⟨rfl, h1, gtr1, le1, T1, h⟩
  have hp1 : PolC h1 gp gt gl := le1 _ _ hp
  refine ⟨_, _, rfl, fun hf => ?_, fun hf => ?_⟩
  · have hf : ¬ (lfind k s.t.toL).isSome = true := by simpa using hf
    have es : lgDrop k s = s := by unfold lgDrop; rw [if_neg hf]
    rw [es] at h T1
    exact ⟨false, s, [], h1, gtr1, none, 0, u, rfl, le1, fun e w F h => .inl rfl, by omega, T1, .inl ⟨rfl, rfl, rfl, rfl, fun hh => hf (lfind_keyP.2 hh.1)⟩, h⟩
  · have hf : (lfind k s.t.toL).isSome = true := by simpa using hf
    have hk := lfind_keyP.1 hf
    have okd : LgOk (lgDrop k s) := ok.drop
    have emd := lgDrop_mostP k s
    have hsd := drop_less ok.1 hk
    have hkn : k ∉ keysP (lgDrop k s).t.toL := fun hh => ((keys_drop ok.1 k k).1 hh).2 rfl
    refine ⟨_, h.immCell hp1 (i := 1) rfl, ?_⟩
    refine Rets.mono (ldMost h) ?_
    clear h
    rintro _ w ⟨rfl, h⟩
    rw [emd]
    refine ⟨_, rfl, fun hc => h.newR fun gv w h => ?_, fun hc => h.newR fun gr w h => ?_⟩
    · obtain ⟨h2, le2, hg, hh⟩ := Own.absorb h
      refine ⟨false, lgDrop k s, [(k, lval k s.t.toL)], h2, gtr1, some ⟨gv, 0, none⟩, 1, u, rfl, LeH.trans le1 le2, fun e w F h => .inr ⟨_, rfl, fun j u hj => h.immCell (vs := [.int .u64 k, .int .i64 (lval k s.t.toL)]) hg hj⟩, by omega, T1.mono le2, .inr (.inl ⟨rfl, hk, rfl, rfl, rfl, ⟨hr.1, hr.2⟩, by have := dec_t hc; omega⟩), ?_⟩
      exact hh
    · have hc := dec_f hc
      have h : Own e w (imm h1 :: rmF gl gtr1 gt m md sd lim ts gd D s2 u (lgDrop k s) gr gp none 0 0 none 0 [] F) := by
        have h : Own e w (vcO none 0 [] :: rmB gr gp (some ⟨gd, 0, none⟩) none 0 0 none 0 0 :: imm h1 :: ldB gl gtr1 (lgDrop k s).used (lgDrop k s).most :: tinT gt m md sd lim ts :: dicO gd D s2 u :: F) := h.slNil
        have h : Own e w (vcO none 0 [] :: rmB gr gp (some ⟨gd, 0, none⟩) none 0 0 none ([] : LE2).length 0 :: imm h1 :: ldB gl gtr1 (lgDrop k s).used (lgDrop k s).most :: tinT gt m md sd lim ts :: dicO gd D s2 u :: F) := h
        exact (Own.sub (h) (by repeat (first | exact Sub.nil _ | exact Sub.rfl _ | (apply Sub.cons; focus ((repeat (first | with_reducible exact Pick.here | apply Pick.there)); done)) | apply Sub.drop)))
      refine Rets.mono (pMade (n := n) (most := 1024) (fun le => hm1 (LeH.trans le1 le)) (fun le => hm2 (LeH.trans le1 le)) hp1 okd (by omega) T1 hu hD h) ?_
      clear h
      rintro _ w ⟨b, h2, gtr2, s1, vs, u1, qi, ni, ci, qg, cg, rfl, le2, T2, hu1, ⟨⟨hG, _, hM1, hM2⟩, insg, hgo⟩, h⟩
      rw [emd] at hgo
      obtain ⟨ok1, em1, hsz1, hsub⟩ := hG.facts okd
      have hroom : n ≤ s1.most - s1.used := by
        cases b with
        | true => exact hM1 rfl
        | false =>
          obtain ⟨hr2, hk2 | ⟨x, _, hx⟩⟩ := hM2 rfl
          · have := sum_nil ok1 hk2
            rw [em1, emd] at hr2
            omega
          · have := esT_le sd m md ts x
            omega
      have hp2 : PolC h2 gp gt gl := le2 _ _ hp1
      have ey := lgAdd_yes (k := k) (n := n) (fun hh => hkn (hsub k hh)) ⟨hr.1, hroom⟩
      let S : World → Prop := fun w => ∃ F', Own e w (imm h2 :: rmB gr gp (some ⟨gd, 0, none⟩) qi ni ci qg vs.length cg :: F')
      refine ⟨_, rfl, h.drw fun w h => ⟨S, ⟨_, ((Own.sub (h) (by repeat (first | with_reducible exact Sub.nil _ | with_reducible exact Sub.rfl _ | (apply Sub.cons; focus ((repeat (first | with_reducible exact Pick.here | apply Pick.there)); done)) | apply Sub.drop))) : Own e w (imm h2 :: rmB gr gp (some ⟨gd, 0, none⟩) qi ni ci qg vs.length cg :: []))⟩, _, _, _, fun w ⟨F', h⟩ => Own.ld (g := gr) (k := 3) h (by repeat (first | with_reducible exact Pick.here | apply Pick.there)) rfl, _, fun w ⟨F', h⟩ => h.immCell hp2 (i := 1) rfl, ?_⟩⟩
      refine Rets.mono (ldAdd (k := k) (n := n) ok1 (by omega) T2 h) ?_
      clear h
      rintro _ w ⟨rfl, h3, gtr3, le3, T3, h⟩
      refine ⟨_, rfl, ⟨_, ((Own.sub ((h.immLe le3)) (by repeat (first | with_reducible exact Sub.nil _ | with_reducible exact Sub.rfl _ | (apply Sub.cons; focus ((repeat (first | with_reducible exact Pick.here | apply Pick.there)); done)) | apply Sub.drop))) : Own e w (imm h2 :: rmB gr gp (some ⟨gd, 0, none⟩) qi ni ci qg vs.length cg :: []))⟩, ?_⟩
      have h : Own e w (vcO qg cg vs :: imm h3 :: ldB gl gtr3 (lgAdd k n s1).1.used (lgAdd k n s1).1.most :: tinT gt m md sd lim ts :: dicO gd D s2 u1 :: F) := (Own.sub (h) (by repeat (first | exact Sub.nil _ | exact Sub.rfl _ | (apply Sub.cons; focus ((repeat (first | with_reducible exact Pick.here | apply Pick.there)); done)) | apply Sub.drop)))
      obtain ⟨h4, le4, Iv, _, h⟩ := h.slImm
      rw [show (lgAdd k n s1).2 = true by rw [ey]]
      exact ⟨true, (lgAdd k n s1).1, vs, h4, gtr3, qg, cg, u1, rfl, LeH.trans le1 (LeH.trans le2 (LeH.trans le3 le4)), Iv, hu1, T3.mono le4, .inr (.inr ⟨rfl, hk, ⟨hr.1, by omega⟩, s1, hG, hroom, rfl, b, insg, hgo⟩), h⟩
theorem pLim (hm1 : ∀ {h1 : Nat → Option Obj}, LeH h0 h1 → ∀ w F, Own e w (imm h1 :: F) → RdC w mixQ mixC) (hm2 : ∀ {h1 : Nat → Option Obj}, LeH h0 h1 → ∀ w F, Own e w (imm h1 :: F) → RdC w twiQ twiC)
    (hp : PolC h0 gp gt gl) (ok : LgOk s) (hs : s.t.size ≤ 100) (hT : TreeA h0 s.t gtr) (hu : u ≤ 7000) (hD : D.length * 8 ≤ 140737488351232)
    (h : Own e w (imm h0 :: ldB gl gtr s.used s.most :: tinT gt m md sd lim ts :: dicO gd D s2 u :: F)) :
    Rets Tryz.prog 32 #[.pointer (some ⟨gp, 0, none⟩), .int .i64 n, .pointer (some ⟨gd, 0, none⟩)] w fun v w' =>
      ∃ (b : Bool) (s' : Lg) (vs : LE2) (h1 : Nat → Option Obj) (gtr' : Nat) (q' : Option Addr) (c' u' : Nat), v = .tuple #[.slice q' vs.length c', .bool b] ∧ LeH h0 h1 ∧ ImR h1 q' (E24 vs) ∧ u' ≤ u + 5 * (vs.length + 1) ∧ TreeA h1 s'.t gtr' ∧
      ((b = false ∧ vs = [] ∧ s' = s ∧ u' = u ∧ ¬ (0 ≤ n ∧ n ≤ 4611686018427387904)) ∨ (b = true ∧ (0 ≤ n ∧ n ≤ 4611686018427387904) ∧ ∃ s1, Gn s vs s1 ∧ s1.used ≤ n ∧ s' = (lgLimit n s1).1 ∧ ∃ b' ins', GoP D s2 (esT sd m md ts) 1024 n ⟨s, [], [], u⟩ b' ⟨s1, ins', vs, u'⟩)) ∧
      Own e w' (imm h1 :: ldB gl gtr' s'.used s'.most :: tinT gt m md sd lim ts :: dicO gd D s2 u' :: F) := by
  have h5 := ok.2.2.2.2
  refine policy_Policy_Limit_go _ _ _ ⟨fun vs w => vs = [.bool (!rightB n)] ∧ Own e w (imm h0 :: ldB gl gtr s.used s.most :: tinT gt m md sd lim ts :: dicO gd D s2 u :: F), ⟨fun _ => ?_, fun hc => (by cases hc)⟩, ?_⟩
  · refine Rets.mono (cRight h) ?_
    rintro _ w ⟨rfl, h⟩
    exact ⟨_, rfl, rfl, h⟩
  clear h
  rintro w
  intros
  rename_i b2 hI
  obtain ⟨hvs, h⟩ := hI
  obtain rfl : b2 = !rightB n := by simpa using hvs
  refine ⟨fun hno => ⟨false, s, [], h0, gtr, none, 0, u, rfl, LeH.refl _, fun e w F h => .inl rfl, by omega, hT, .inl ⟨rfl, rfl, rfl, rfl, fun hh => by have := rightB_f.1 (show rightB n = false by simpa using hno); omega⟩, h⟩, fun hr => h.newR fun gr w h => ?_⟩
  have hr : rightB n = true := by simpa using hr
  have hr := rightB_t.1 hr
  have h : Own e w (imm h0 :: rmF gl gtr gt m md sd lim ts gd D s2 u s gr gp none 0 0 none 0 [] F) := by
    have h : Own e w (vcO none 0 [] :: rmB gr gp (some ⟨gd, 0, none⟩) none 0 0 none 0 0 :: imm h0 :: ldB gl gtr s.used s.most :: tinT gt m md sd lim ts :: dicO gd D s2 u :: F) := h.slNil
    have h : Own e w (vcO none 0 [] :: rmB gr gp (some ⟨gd, 0, none⟩) none 0 0 none ([] : LE2).length 0 :: imm h0 :: ldB gl gtr s.used s.most :: tinT gt m md sd lim ts :: dicO gd D s2 u :: F) := h
    exact (Own.sub (h) (by repeat (first | exact Sub.nil _ | exact Sub.rfl _ | (apply Sub.cons; focus ((repeat (first | with_reducible exact Pick.here | apply Pick.there)); done)) | apply Sub.drop)))
  refine ⟨fun z vs w => vs = [] ∧ ∃ (h1 : Nat → Option Obj) (gtr' : Nat) (s' : Lg) (ins' : List Int) (vs' : LE2) (u' : Nat) (qi' : Option Addr) (ci' : Nat) (qg' : Option Addr) (cg' : Nat), LeH h0 h1 ∧ TreeA h1 s'.t gtr' ∧ ImR h1 qi' (cs .u64 ins') ∧ (ins'.Nodup ∧ (∀ x ∈ ins', x ∈ keysP s'.t.toL) ∧ ins'.length ≤ 4) ∧ u' ≤ u + 5 * vs'.length ∧ z = s'.t.size ∧ Gn s vs' s' ∧ (∀ b t, GoP D s2 (esT sd m md ts) 1024 n ⟨s', ins', vs', u'⟩ b t → GoP D s2 (esT sd m md ts) 1024 n ⟨s, [], [], u⟩ b t) ∧ Own e w (imm h1 :: rmF gl gtr' gt m md sd lim ts gd D s2 u' s' gr gp qi' ins'.length ci' qg' cg' vs' F), ⟨s.t.size, rfl, h0, gtr, s, [], [], u, none, 0, none, 0, LeH.refl _, hT, fun e w F h => .inl rfl, ⟨List.nodup_nil, fun x hx => (by cases hx), by simp⟩, by simp, rfl, rfl, fun b t ht => ht, h⟩, ?_⟩
  clear h
  rintro z w
  intros
  rename_i hI2
  obtain ⟨_, h1, gtr1, s1, ins1, vs1, u1, qi1, ci1, qg1, cg1, le1, T1, I1, ⟨n1, k1, l1⟩, hu1, hz, hG, hGo, h⟩ := hI2
  obtain ⟨ok1, em, hsz, _⟩ := hG.facts ok
  have hnn := ok1.nn
  have hp1 : PolC h1 gp gt gl := le1 _ _ hp
  refine ⟨fun vs w => (vs = [.bool true] ∧ ∃ (z' : Nat) (h1 : Nat → Option Obj) (gtr' : Nat) (s' : Lg) (ins' : List Int) (vs' : LE2) (u' : Nat) (qi' : Option Addr) (ci' : Nat) (qg' : Option Addr) (cg' : Nat), z' < z ∧ LeH h0 h1 ∧ TreeA h1 s'.t gtr' ∧ ImR h1 qi' (cs .u64 ins') ∧ (ins'.Nodup ∧ (∀ x ∈ ins', x ∈ keysP s'.t.toL) ∧ ins'.length ≤ 4) ∧ u' ≤ u + 5 * vs'.length ∧ z' = s'.t.size ∧ Gn s vs' s' ∧ (∀ b t, GoP D s2 (esT sd m md ts) 1024 n ⟨s', ins', vs', u'⟩ b t → GoP D s2 (esT sd m md ts) 1024 n ⟨s, [], [], u⟩ b t) ∧ Own e w (imm h1 :: rmF gl gtr' gt m md sd lim ts gd D s2 u' s' gr gp qi' ins'.length ci' qg' cg' vs' F)) ∨
      (vs = [.bool false] ∧ ∃ (h1 : Nat → Option Obj) (gtr' : Nat) (s' : Lg) (vs' : LE2) (u' : Nat) (qi' : Option Addr) (ni' ci' : Nat) (qg' : Option Addr) (cg' : Nat), LeH h0 h1 ∧ TreeA h1 s'.t gtr' ∧ u' ≤ u + 5 * (vs'.length + 1) ∧ Gn s vs' s' ∧ s'.used ≤ n ∧ (∃ b' ins', GoP D s2 (esT sd m md ts) 1024 n ⟨s, [], [], u⟩ b' ⟨s', ins', vs', u'⟩) ∧ Own e w (imm h1 :: rmF gl gtr' gt m md sd lim ts gd D s2 u' s' gr gp qi' ni' ci' qg' cg' vs' F)), ⟨_, h.immCell hp1 (i := 1) rfl, ?_⟩, ?_⟩
  · refine Rets.mono (ldUsed h) ?_
    clear h
    rintro _ w ⟨rfl, h⟩
    refine ⟨_, rfl, fun hc => ?_, fun hc => ?_⟩
    · have hc := dec_t hc
      refine Rets.mono (pMore (most := 1024) (fun le => hm1 (LeH.trans le1 le)) (fun le => hm2 (LeH.trans le1 le)) hp1 ok1 (by omega) T1 I1 n1 k1 l1 (by omega) hD (by omega) h) ?_
      clear h
      rintro _ w ⟨b, h2, gtr2, s2', ins2, vs2, u2, qi2, ci2, qg2, cg2, rfl, le2, T2, I2, ⟨n2, k2, l2⟩, hu2, ⟨hM, hst⟩, h⟩
      rcases hM with ⟨rfl, rfl, rfl, hk⟩ | ⟨rfl, x, hx, hxe, rfl, rfl⟩
      · refine ⟨_, rfl, .inr ⟨rfl, h2, gtr2, s2', vs2, u2, qi2, ins2.length, ci2, qg2, cg2, LeH.trans le1 le2, T2, by omega, hG, ?_, ⟨false, ins2, hGo _ _ (.fail _ _ (by show n < s2'.used; omega) hst)⟩, h⟩⟩
        rcases hk with hk | ⟨x, _, hx⟩
        · have := sum_nil ok1 hk; omega
        · have := esT_le sd m md ts x; omega
      · have hl := drop_less ok1.1 hx
        exact ⟨_, rfl, .inl ⟨rfl, (lgDrop x s1).t.size, h2, gtr2, lgDrop x s1, ins2, vs1 ++ [(x, lval x s1.t.toL)], u2, qi2, ci2, qg2, cg2, by omega, LeH.trans le1 le2, T2, I2, ⟨n2, k2, l2 rfl⟩, by simp; omega, rfl, hG.snoc hx, fun b' t' ht => hGo _ _ (.next _ _ _ _ (by show n < s1.used; omega) hst ht), h⟩⟩
    · have hc := dec_f hc
      exact .inr ⟨rfl, h1, gtr1, s1, vs1, u1, qi1, ins1.length, ci1, qg1, cg1, le1, T1, by omega, hG, by omega, ⟨true, ins1, hGo _ _ (.stop _ (by show s1.used ≤ n; omega))⟩, h⟩
  clear h
  rintro w
  intros
  rename_i b4 hI3
  rcases hI3 with ⟨hvs3, z', h2, gtr2, s2', ins2, vs2, u2, qi2, ci2, qg2, cg2, hz', le2, T2, I2, hx, hu2, hz2, hG2, hGo2, h⟩ | ⟨hvs3, h2, gtr2, s2', vs2, u2, qi2, ni2, ci2, qg2, cg2, le2, T2, hu2, hG2, hle, hGo2, h⟩
  · obtain rfl : b4 = true := by simpa using hvs3
    exact ⟨fun _ => ⟨z', hz', rfl, h2, gtr2, s2', ins2, vs2, u2, qi2, ci2, qg2, cg2, le2, T2, I2, hx, hu2, hz2, hG2, hGo2, h⟩, fun hb => (by cases hb)⟩
  · obtain rfl : b4 = false := by simpa using hvs3
    refine ⟨fun hb => (by cases hb), fun _ => ?_⟩
    have hp2 : PolC h2 gp gt gl := le2 _ _ hp
    let S : World → Prop := fun w => ∃ F', Own e w (imm h2 :: rmB gr gp (some ⟨gd, 0, none⟩) qi2 ni2 ci2 qg2 vs2.length cg2 :: F')
    refine h.drw fun w h => ⟨S, ⟨_, ((Own.sub (h) (by repeat (first | with_reducible exact Sub.nil _ | with_reducible exact Sub.rfl _ | (apply Sub.cons; focus ((repeat (first | with_reducible exact Pick.here | apply Pick.there)); done)) | apply Sub.drop))) : Own e w (imm h2 :: rmB gr gp (some ⟨gd, 0, none⟩) qi2 ni2 ci2 qg2 vs2.length cg2 :: []))⟩, _, _, _, fun w ⟨F', h⟩ => Own.ld (g := gr) (k := 3) h (by repeat (first | with_reducible exact Pick.here | apply Pick.there)) rfl, _, fun w ⟨F', h⟩ => h.immCell hp2 (i := 1) rfl, ?_⟩
    refine Rets.mono (ldLimit (s := s2') (n := n) T2 h) ?_
    clear h
    rintro _ w ⟨rfl, h3, gtr3, le3, T3, h⟩
    have ey : lgLimit n s2' = (⟨s2'.t, s2'.used, n⟩, true) := by unfold lgLimit; rw [if_pos ⟨hr.1, hr.2, hle⟩]
    refine ⟨_, rfl, ⟨_, ((Own.sub ((h.immLe le3)) (by repeat (first | with_reducible exact Sub.nil _ | with_reducible exact Sub.rfl _ | (apply Sub.cons; focus ((repeat (first | with_reducible exact Pick.here | apply Pick.there)); done)) | apply Sub.drop))) : Own e w (imm h2 :: rmB gr gp (some ⟨gd, 0, none⟩) qi2 ni2 ci2 qg2 vs2.length cg2 :: []))⟩, ?_⟩
    have h : Own e w (vcO qg2 cg2 vs2 :: imm h3 :: ldB gl gtr3 (lgLimit n s2').1.used (lgLimit n s2').1.most :: tinT gt m md sd lim ts :: dicO gd D s2 u2 :: F) := (Own.sub (h) (by repeat (first | exact Sub.nil _ | exact Sub.rfl _ | (apply Sub.cons; focus ((repeat (first | with_reducible exact Pick.here | apply Pick.there)); done)) | apply Sub.drop)))
    obtain ⟨h4, le4, Iv, _, h⟩ := h.slImm
    rw [show (lgLimit n s2').2 = true by rw [ey]]
    exact ⟨true, (lgLimit n s2').1, vs2, h4, gtr3, qg2, cg2, u2, rfl, LeH.trans le2 (LeH.trans le3 le4), Iv, hu2, T3.mono le4, .inr ⟨rfl, hr, s2', hG2, hle, rfl, hGo2⟩, h⟩
end
end Go.Proofs.YtggflkjdgcdcmaaGreatDoor.Eng
