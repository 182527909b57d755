/- What a call owns of memory, told by parts that lie apart; and what becomes of it. -/
import Derived.Test.YtggflkjdgcdcmaaGreatDoorEngH
import Derived.Laws.AppendOwn
import Derived.Laws.OwnMore
import Derived.Laws.CopyRow
import Derived.Below
import Derived.RangeFuncRecord
namespace Go.Proofs.YtggflkjdgcdcmaaGreatDoor.Eng
open Go Go.RowKit
set_option linter.unusedVariables false
set_option linter.unusedSimpArgs false
abbrev HP := (Nat → Option Obj) → Prop
def SubH (h : Nat → Option Obj) (w : World) : Prop := ∀ b o, h b = some o → w.heap[b]? = some o
def Apart (h k : Nat → Option Obj) : Prop := ∀ b, h b = none ∨ k b = none
def joinH (h k : Nat → Option Obj) : Nat → Option Obj := fun b => match h b with
  | some o => some o
  | none => k b
def sepH (A B : HP) : HP := fun h => ∃ h1 h2, Apart h1 h2 ∧ h = joinH h1 h2 ∧ A h1 ∧ B h2
/-- All of these, apart from each other. -/
def allH : List HP → HP
  | [] => fun _ => True
  | A :: r => sepH A (allH r)
def pt (g : Nat) (o : Obj) : HP := fun h => h g = some o
def blk (g : Nat) (T : TypeId) (vs : List Value) : HP := pt g (.cells vs.toArray T (0, 0))
def exH {α : Type} (P : α → HP) : HP := fun h => ∃ x, P x h
def puH (p : Prop) (A : HP) : HP := fun h => p ∧ A h
/-- The streams are those of e. -/
def EnvEq (e w : World) : Prop := w.os = e.os ∧ w.tape = e.tape ∧ w.output = e.output
def Own (e w : World) (l : List HP) : Prop := EnvEq e w ∧ ∃ h, SubH h w ∧ allH l h
theorem joinH_some {h k : Nat → Option Obj} {b : Nat} {o : Obj} (hs : joinH h k b = some o) : h b = some o ∨ (h b = none ∧ k b = some o) := by
  unfold joinH at hs
  cases hb : h b with
  | some o' => rw [hb] at hs; exact .inl hs
  | none => rw [hb] at hs; exact .inr ⟨rfl, hs⟩
theorem joinH_left {h k : Nat → Option Obj} {b : Nat} {o : Obj} (hs : h b = some o) : joinH h k b = some o := by unfold joinH; rw [hs]
theorem joinH_right {h k : Nat → Option Obj} (ha : Apart h k) {b : Nat} {o : Obj} (hs : k b = some o) : joinH h k b = some o := by
  unfold joinH
  rcases ha b with h1 | h1
  · rw [h1]; exact hs
  · rw [hs] at h1; cases h1
theorem joinH_none {h k : Nat → Option Obj} {b : Nat} (h1 : h b = none) (h2 : k b = none) : joinH h k b = none := by unfold joinH; rw [h1]; exact h2
theorem joinH_none_iff {h k : Nat → Option Obj} {b : Nat} (hn : joinH h k b = none) : h b = none ∧ k b = none := by
  unfold joinH at hn
  cases hb : h b with
  | some o => rw [hb] at hn; cases hn
  | none => rw [hb] at hn; exact ⟨rfl, hn⟩
theorem Apart.symm {h k : Nat → Option Obj} (ha : Apart h k) : Apart k h := fun b => (ha b).symm
theorem joinH_comm {h k : Nat → Option Obj} (ha : Apart h k) : joinH h k = joinH k h := by
  funext b
  unfold joinH
  rcases ha b with h1 | h1
  · rw [h1]; cases k b <;> rfl
  · rw [h1]; cases h b <;> rfl
theorem joinH_assoc (a b c : Nat → Option Obj) : joinH a (joinH b c) = joinH (joinH a b) c := by
  funext i
  unfold joinH
  cases a i <;> rfl
theorem sepH_swap {A B C : HP} {h : Nat → Option Obj} (hs : sepH A (sepH B C) h) : sepH B (sepH A C) h := by
  obtain ⟨h1, h23, ha, rfl, hA, h2, h3, ha2, rfl, hB, hC⟩ := hs
  have a12 : Apart h1 h2 := fun b => by
    rcases ha b with h | h
    · exact .inl h
    · exact .inr (joinH_none_iff h).1
  have a13 : Apart h1 h3 := fun b => by
    rcases ha b with h | h
    · exact .inl h
    · exact .inr (joinH_none_iff h).2
  refine ⟨h2, joinH h1 h3, fun b => ?_, ?_, hB, h1, h3, a13, rfl, hA, hC⟩
  · rcases a12 b with h | h
    · rcases ha2 b with h' | h'
      · exact .inl h'
      · exact .inr (joinH_none h h')
    · exact .inl h
  · rw [joinH_assoc, joinH_comm a12, ← joinH_assoc]
theorem sepH_mono {A A' B B' : HP} {h : Nat → Option Obj} (hs : sepH A B h) (hA : ∀ h, A h → A' h) (hB : ∀ h, B h → B' h) : sepH A' B' h := by
  obtain ⟨h1, h2, ha, e, a, b⟩ := hs
  exact ⟨h1, h2, ha, e, hA _ a, hB _ b⟩
section
variable {e w w' : World} {A A' B : HP} {F : List HP}
theorem Own.swap (h : Own e w (A :: B :: F)) : Own e w (B :: A :: F) := by
  obtain ⟨he, k, hk, ha⟩ := h
  exact ⟨he, k, hk, sepH_swap ha⟩
theorem Own.mono (h : Own e w (A :: F)) (hA : ∀ h, A h → A' h) : Own e w (A' :: F) := by
  obtain ⟨he, k, hk, ha⟩ := h
  exact ⟨he, k, hk, sepH_mono ha hA (fun _ h => h)⟩
/-- The part with number n to the front. -/
def pull : Nat → List HP → List HP
  | 0, l => l
  | _ + 1, [] => []
  | n + 1, A :: r => match pull n r with
    | [] => [A]
    | B :: r' => B :: A :: r'
theorem allH_pull : ∀ (n : Nat) (l : List HP) (h : Nat → Option Obj), allH l h → allH (pull n l) h
  | 0, l, h, ha => ha
  | n + 1, [], h, ha => ha
  | n + 1, A :: r, h, ha => by
    have h1 := sepH_mono ha (fun _ h => h) (allH_pull n r)
    unfold pull
    cases hp : pull n r with
    | nil => rw [hp] at h1; exact h1
    | cons B r' => rw [hp] at h1; exact sepH_swap h1
theorem Own.at (n : Nat) {l : List HP} (h : Own e w l) : Own e w (pull n l) := by
  obtain ⟨he, k, hk, ha⟩ := h
  exact ⟨he, k, hk, allH_pull n l k ha⟩
def push : Nat → List HP → List HP
  | 0, l => l
  | _ + 1, [] => []
  | _ + 1, [A] => [A]
  | n + 1, A :: B :: r => B :: push n (A :: r)
theorem allH_push : ∀ (n : Nat) (l : List HP) (h : Nat → Option Obj), allH l h → allH (push n l) h
  | 0, l, h, ha => ha
  | _ + 1, [], h, ha => ha
  | _ + 1, [A], h, ha => ha
  | n + 1, A :: B :: r, h, ha => sepH_mono (sepH_swap ha) (fun _ h => h) (allH_push n (A :: r))
/-- The front part back to place n. -/
theorem Own.back (n : Nat) {l : List HP} (h : Own e w l) : Own e w (push n l) := by
  obtain ⟨he, k, hk, ha⟩ := h
  exact ⟨he, k, hk, allH_push n l k ha⟩
theorem Own.drop (h : Own e w (A :: F)) : Own e w F := by
  obtain ⟨he, k, hk, h1, h2, ha, rfl, hA, hF⟩ := h
  exact ⟨he, h2, fun b o hb => hk b o (joinH_right ha hb), hF⟩
theorem allH_append : ∀ (l m : List HP) (h : Nat → Option Obj), allH (l ++ m) h → sepH (allH l) (allH m) h
  | [], m, h, ha => ⟨fun _ => none, h, fun b => .inl rfl, by funext b; rfl, trivial, ha⟩
  | A :: r, m, h, ha => by
    obtain ⟨h1, h2, hap, rfl, hA, hr⟩ := ha
    obtain ⟨h3, h4, hap2, rfl, hr, hm⟩ := allH_append r m h2 hr
    have a13 : Apart h1 h3 := fun b => (hap b).imp id fun h => (joinH_none_iff h).1
    refine ⟨joinH h1 h3, h4, fun b => ?_, joinH_assoc _ _ _, ⟨h1, h3, a13, rfl, hA, hr⟩, hm⟩
    rcases hap b with h | h
    · rcases hap2 b with h' | h'
      · exact .inl (joinH_none h h')
      · exact .inr h'
    · exact .inr (joinH_none_iff h).2
theorem allH_append' : ∀ (l m : List HP) (h : Nat → Option Obj), sepH (allH l) (allH m) h → ∃ k, (∀ b o, k b = some o → h b = some o) ∧ allH (l ++ m) k
  | [], m, h, hs => by
    obtain ⟨h1, h2, hap, rfl, _, hm⟩ := hs
    exact ⟨h2, fun b o hb => joinH_right hap hb, hm⟩
  | A :: r, m, h, hs => by
    obtain ⟨h12, h3, hap, rfl, ⟨h1, h2, hap2, rfl, hA, hr⟩, hm⟩ := hs
    have a23 : Apart h2 h3 := fun b => (hap b).imp (fun h => (joinH_none_iff h).2) id
    obtain ⟨k, hk, ha⟩ := allH_append' r m (joinH h2 h3) ⟨h2, h3, a23, rfl, hr, hm⟩
    have hap3 : Apart h1 k := fun b => by
      cases hb : h1 b with
      | none => exact .inl rfl
      | some o =>
        right
        cases hkb : k b with
        | none => rfl
        | some o' =>
          exfalso
          rcases joinH_some (hk b o' hkb) with h | ⟨_, h⟩
          · rcases hap2 b with h' | h'
            · rw [hb] at h'; cases h'
            · rw [h] at h'; cases h'
          · rcases hap b with h' | h'
            · rw [(joinH_none_iff h').1] at hb; cases hb
            · rw [h] at h'; cases h'
    refine ⟨joinH h1 k, fun b o hb => ?_, h1, k, hap3, rfl, hA, ha⟩
    rcases joinH_some hb with h | ⟨_, h⟩
    · rw [← joinH_assoc]; exact joinH_left h
    · rw [← joinH_assoc]
      exact joinH_right (fun b => by
        rcases hap2 b with h' | h'
        · exact .inl h'
        · rcases hap b with h'' | h''
          · exact .inl (joinH_none_iff h'').1
          · exact .inr (joinH_none h' h'')) (hk b o h)
/-- A part that is several parts. -/
theorem Own.open_ {l : List HP} (h : Own e w (allH l :: F)) : Own e w (l ++ F) := by
  obtain ⟨he, k, hk, ha⟩ := h
  obtain ⟨k', hk', ha'⟩ := allH_append' l F k ha
  exact ⟨he, k', fun b o hb => hk b o (hk' b o hb), ha'⟩
theorem Own.close_ {l : List HP} (h : Own e w (l ++ F)) : Own e w (allH l :: F) := by
  obtain ⟨he, k, hk, ha⟩ := h
  exact ⟨he, k, hk, allH_append l F k ha⟩
theorem Own.ex {α : Type} {P : α → HP} (h : Own e w (exH P :: F)) : ∃ x, Own e w (P x :: F) := by
  obtain ⟨he, k, hk, h1, h2, ha, rfl, ⟨x, hA⟩, hF⟩ := h
  exact ⟨x, he, _, hk, h1, h2, ha, rfl, hA, hF⟩
theorem Own.mkEx {α : Type} {P : α → HP} (x : α) (h : Own e w (P x :: F)) : Own e w (exH P :: F) := h.mono fun _ h => ⟨x, h⟩
theorem Own.pu {p : Prop} (h : Own e w (puH p A :: F)) : p ∧ Own e w (A :: F) := by
  obtain ⟨he, k, hk, h1, h2, ha, rfl, ⟨hp, hA⟩, hF⟩ := h
  exact ⟨hp, he, _, hk, h1, h2, ha, rfl, hA, hF⟩
theorem Own.mkPu {p : Prop} (hp : p) (h : Own e w (A :: F)) : Own e w (puH p A :: F) := h.mono fun _ h => ⟨hp, h⟩
theorem Own.get {g : Nat} {o : Obj} (h : Own e w (pt g o :: F)) : w.heap[g]? = some o := by
  obtain ⟨he, k, hk, h1, h2, ha, rfl, hA, hF⟩ := h
  exact hk g o (joinH_left hA)
theorem Own.lt {g : Nat} {o : Obj} (h : Own e w (pt g o :: F)) : g < w.heap.size := (Array.getElem?_eq_some_iff.1 h.get).1
theorem Own.cell {g : Nat} {T : TypeId} {vs : List Value} (h : Own e w (blk g T vs :: F)) (i : Nat) : w.cell? ⟨g, i, none⟩ = vs[i]? := by
  have := h.get
  simp [World.cell?, this]
theorem add0 (g i : Nat) : (⟨g, 0, none⟩ : Addr).add i = ⟨g, i, none⟩ := by
  unfold Addr.add
  split
  · rename_i h; subst h; rfl
  · simp
theorem Own.cellAdd {g : Nat} {T : TypeId} {vs : List Value} (h : Own e w (blk g T vs :: F)) (i : Nat) {v : Value} (hv : vs[i]? = some v) : cellAt w ((⟨g, 0, none⟩ : Addr).add i) v := by
  unfold cellAt
  rw [add0, h.cell, hv]
theorem Own.drew (h : Own e w F) : Own e w.drew F := h
/-- The front part turns, the others stay: what was not of it is as it was, and what it takes beside is new. -/
theorem Own.step (h : Own e w (A :: F)) (henv : EnvEq w w') (hst : ∀ h1, A h1 → SubH h1 w → ∃ h1', A' h1' ∧ SubH h1' w' ∧ (∀ b, h1' b ≠ none → h1 b ≠ none ∨ w.heap.size ≤ b) ∧ (∀ b, h1 b = none → b < w.heap.size → w'.heap[b]? = w.heap[b]?)) : Own e w' (A' :: F) := by
  obtain ⟨he, k, hk, h1, h2, ha, rfl, hA, hF⟩ := h
  obtain ⟨h1', hA', hs', hn, hkeep⟩ := hst h1 hA (fun b o hb => hk b o (joinH_left hb))
  have h2s : ∀ b o, h2 b = some o → w.heap[b]? = some o ∧ h1 b = none := fun b o hb => by
    refine ⟨hk b o (joinH_right ha hb), ?_⟩
    rcases ha b with h | h
    · exact h
    · rw [hb] at h; cases h
  have ha' : Apart h1' h2 := fun b => by
    cases hb : h2 b with
    | none => exact .inr rfl
    | some o =>
      left
      obtain ⟨hw, hn1⟩ := h2s b o hb
      cases hb1 : h1' b with
      | none => rfl
      | some o' =>
        rcases hn b (by rw [hb1]; simp) with h | h
        · exact absurd hn1 h
        · have := (Array.getElem?_eq_some_iff.1 hw).1; omega
  refine ⟨⟨henv.1.trans he.1, henv.2.1.trans he.2.1, henv.2.2.trans he.2.2⟩, joinH h1' h2, fun b o hb => ?_, h1', h2, ha', rfl, hA', hF⟩
  rcases joinH_some hb with h | ⟨_, h⟩
  · exact hs' b o h
  · obtain ⟨hw, hn1⟩ := h2s b o h
    rw [hkeep b hn1 (Array.getElem?_eq_some_iff.1 hw).1]; exact hw
theorem EnvEq.refl (w : World) : EnvEq w w := ⟨rfl, rfl, rfl⟩
/-- One new part beside all that there was. -/
theorem Own.grow (h : Own e w F) (hs : Below w.heap.size w w') {h1 : Nat → Option Obj} (hA : A h1) (hs1 : SubH h1 w') (hn : ∀ b, h1 b ≠ none → w.heap.size ≤ b) : Own e w' (A :: F) := by
  obtain ⟨he, k, hk, ha⟩ := h
  have hap : Apart h1 k := fun b => by
    cases hb : k b with
    | none => exact .inr rfl
    | some o =>
      left
      cases hb1 : h1 b with
      | none => rfl
      | some o' =>
        have := hn b (by rw [hb1]; simp)
        have := (Array.getElem?_eq_some_iff.1 (hk b o hb)).1
        omega
  refine ⟨⟨hs.os.trans he.1, hs.tape.trans he.2.1, hs.output.trans he.2.2⟩, joinH h1 k, fun b o hb => ?_, h1, k, hap, rfl, hA, ha⟩
  rcases joinH_some hb with h | ⟨_, h⟩
  · exact hs1 b o h
  · have := hk b o h
    rw [hs.block b (Array.getElem?_eq_some_iff.1 this).1]; exact this
def one (g : Nat) (o : Obj) : Nat → Option Obj := fun b => if b = g then some o else none
theorem one_self (g : Nat) (o : Obj) : one g o g = some o := by simp [one]
theorem one_ne {g b : Nat} {o : Obj} (h : one g o b ≠ none) : b = g := by
  unfold one at h
  split at h
  · assumption
  · exact absurd rfl h
theorem one_sub {g : Nat} {o : Obj} (h : w.heap[g]? = some o) : SubH (one g o) w := fun b o' hb => by
  unfold one at hb
  split at hb
  · rename_i hbg; subst hbg; injection hb with hb; subst hb; exact h
  · cases hb
theorem Own.new (h : Own e w F) (o : Obj) : Own e (w.alloc o) (pt w.heap.size o :: F) :=
  h.grow ((Below.refl _ w).alloc (Nat.le_refl _) o) (one_self _ _) (one_sub (World.alloc_heap_new w o)) (fun b hb => by rw [one_ne hb]; exact Nat.le_refl _)
theorem setCell_heap_same {g i : Nat} {T : TypeId} {vs : List Value} (h : w.heap[g]? = some (.cells vs.toArray T (0, 0))) (v : Value) :
    (w.setCell ⟨g, i, none⟩ v).heap[g]? = some (.cells (vs.set i v).toArray T (0, 0)) := by
  simp [World.setCell, Array.getElem?_modify, h]
theorem Own.set {g : Nat} {T : TypeId} {vs : List Value} (h : Own e w (blk g T vs :: F)) (i : Nat) (v : Value) : Own e (w.setCell ⟨g, i, none⟩ v) (blk g T (vs.set i v) :: F) := by
  refine h.step ⟨rfl, rfl, rfl⟩ fun h1 hA hs => ⟨one g _, one_self _ _, one_sub (setCell_heap_same (hs g _ hA) v), fun b hb => ?_, fun b hb _ => ?_⟩
  · rw [one_ne hb]; left; rw [show h1 g = some _ from hA]; simp
  · refine Below.heap_setCell _ _ _ _ ?_
    intro e; subst e; rw [show h1 b = some _ from hA] at hb; cases hb
/-- Several cells of a block. -/
def setFrom (vs : List Value) (i : Nat) : List Value → List Value
  | [] => vs
  | v :: r => setFrom (vs.set i v) (i + 1) r
theorem setFrom_length : ∀ (us vs : List Value) (i : Nat), (setFrom vs i us).length = vs.length
  | [], vs, i => rfl
  | u :: r, vs, i => by simp [setFrom, setFrom_length r]
theorem add_add (g k i : Nat) : (⟨g, k, none⟩ : Addr).add i = ⟨g, k + i, none⟩ := by
  unfold Addr.add
  split
  · rename_i h; subst h; rfl
  · rfl
theorem Own.setCells : ∀ (us : List Value) {w : World} {g k i : Nat} {T : TypeId} {vs : List Value}, Own e w (blk g T vs :: F) → Own e (setCells w ⟨g, k, none⟩ i us) (blk g T (setFrom vs (k + i) us) :: F)
  | [], w, g, k, i, T, vs, h => h
  | u :: r, w, g, k, i, T, vs, h => by
    unfold Eng.setCells setFrom
    rw [add_add]
    exact Own.setCells r (h.set (k + i) u)
/-- A store. -/
theorem Own.store {g k : Nat} {T : TypeId} {vs us : List Value} {K : World → Prop} (h : Own e w (blk g T vs :: F)) (hfit : k + us.length ≤ vs.length) (h1 : ∀ u ∈ us, u.oneCell' = true)
    (hk : ∀ w', Own e w' (blk g T (setFrom vs k us) :: F) → K w') : StoreR ((⟨g, 0, none⟩ : Addr).add k) us w K := by
  rw [add0]
  refine ⟨fun i hi => ⟨?_, ?_⟩, h1, hk _ (by simpa using h.setCells us (k := k) (i := 0))⟩
  · rw [add_add, h.cell]
    exact ⟨_, List.getElem?_eq_getElem (by omega)⟩
  · rw [add_add]
    have := h.get
    simp [World.frozen?, this]
theorem Own.newR {T : TypeId} {cs : List Value} {K : Addr → World → Prop} (h : Own e w F) (hk : ∀ g w', Own e w' (blk g T cs :: F) → K ⟨g, 0, none⟩ w') : NewR T cs w K := hk _ _ (h.new _)
theorem Own.makeR {T : TypeId} {z : List Value} {b : Nat} {l c : Int} {K : Addr → World → Prop} (h : Own e w F) (hc : 0 ≤ l ∧ l ≤ c ∧ c ≤ 9223372036854775807 ∧ b * c ≤ 281474976710656) (hk : ∀ g w', Own e w' (blk g T (zrep z c.toNat) :: F) → K ⟨g, 0, none⟩ w') : MakeR T z b l c w K := ⟨hc, h.newR hk⟩
/-- All of the world W, as it was. -/
def snap (W : World) : HP := fun h => ∀ b o, W.heap[b]? = some o → h b = some o
theorem Own.begin (W : World) : Own W W [snap W] := by
  refine ⟨EnvEq.refl _, fun b => W.heap[b]?, fun b o h => h, fun b => W.heap[b]?, fun _ => none, fun b => .inr rfl, ?_, fun b o h => h, trivial⟩
  funext b
  show W.heap[b]? = match W.heap[b]? with | some o => some o | none => none
  cases W.heap[b]? <;> rfl
theorem Own.snapBlock {W : World} (h : Own e w (snap W :: F)) {b : Nat} (hb : b < W.heap.size) : w.heap[b]? = W.heap[b]? := by
  obtain ⟨he, k, hk, h1, h2, ha, rfl, hA, hF⟩ := h
  have h1' := hA b _ (Array.getElem?_eq_getElem hb)
  rw [hk b _ (joinH_left h1'), Array.getElem?_eq_getElem hb]
theorem Own.snapCell {W : World} (h : Own e w (snap W :: F)) {a : Addr} {v : Value} (hv : W.cell? a = some v) : w.cell? a = some v := by
  obtain ⟨o, ho, _⟩ := cells_of_cell hv
  rw [World.cell?_of_block (w := W) (h.snapBlock (Array.getElem?_eq_some_iff.1 ho).1)]; exact hv
theorem Own.below {W : World} (h : Own W w (snap W :: F)) : Below W.heap.size W w := by
  refine ⟨h.1.1, h.1.2.1, h.1.2.2, ?_, fun b hb => h.snapBlock hb⟩
  rcases Nat.eq_zero_or_pos W.heap.size with h0 | h0
  · omega
  · have hlt : W.heap.size - 1 < W.heap.size := by omega
    have h2 := h.snapBlock hlt
    rw [Array.getElem?_eq_getElem hlt] at h2
    have h3 := (Array.getElem?_eq_some_iff.1 h2).1
    omega
end
end Go.Proofs.YtggflkjdgcdcmaaGreatDoor.Eng
