/- Joined: RkW LgP LgV LgW LgQ LgR LgS. -/
import Derived.Test.YtggflkjdgcdcmaaGreatDoorEngW
import Derived.Test.YtggflkjdgcdcmaaGreatDoorLgaG
import Derived.Test.YtggflkjdgcdcmaaGreatDoorEngA
import Derived.Test.YtggflkjdgcdcmaaGreatDoorLdgG
import Derived.Test.YtggflkjdgcdcmaaGreatDoorLdpG
namespace Go.Proofs.YtggflkjdgcdcmaaGreatDoor.Eng
open Go Go.RowKit Go.Proofs
set_option linter.unusedVariables false
set_option linter.unusedSimpArgs false
set_option maxRecDepth 1000000
/-! ### Trees -/
inductive Tr where
  | nil : Tr
  | node (k v : Int) (l r : Tr) : Tr
def Tr.size : Tr → Nat
  | .nil => 0
  | .node _ _ l r => l.size + r.size + 1
def Tr.deep : Tr → Nat
  | .nil => 0
  | .node _ _ l r => max l.deep r.deep + 1
def Tr.toL : Tr → List (Int × Int)
  | .nil => []
  | .node k v l r => l.toL ++ (k, v) :: r.toL
theorem Tr.size_toL : ∀ t : Tr, t.toL.length = t.size
  | .nil => rfl
  | .node k v l r => by unfold toL size; rw [List.length_append, List.length_cons, size_toL l, size_toL r]; omega
def leftUp (k v : Int) (l r : Tr) : Tr :=
  match l with
  | .node lk lv ll (.node mk mv ml mr) => if ll.deep < (Tr.node mk mv ml mr).deep then .node mk mv (.node lk lv ll ml) (.node k v mr r) else .node lk lv ll (.node k v (.node mk mv ml mr) r)
  | .node lk lv ll .nil => .node lk lv ll (.node k v .nil r)
  | .nil => .node k v .nil r
def rightUp (k v : Int) (l r : Tr) : Tr :=
  match r with
  | .node rk rv (.node mk mv ml mr) rr => if rr.deep < (Tr.node mk mv ml mr).deep then .node mk mv (.node k v l ml) (.node rk rv mr rr) else .node rk rv (.node k v l (.node mk mv ml mr)) rr
  | .node rk rv .nil rr => .node rk rv (.node k v l .nil) rr
  | .nil => .node k v l .nil
def joined (k v : Int) (l r : Tr) : Tr := if r.deep + 1 < l.deep then leftUp k v l r else if l.deep + 1 < r.deep then rightUp k v l r else .node k v l r
theorem toL_joined (k v : Int) (l r : Tr) : (joined k v l r).toL = l.toL ++ (k, v) :: r.toL := by
  unfold joined
  split
  · unfold leftUp
    split
    · split <;> simp [Tr.toL]
    · simp [Tr.toL]
    · simp [Tr.toL]
  · split
    · unfold rightUp
      split
      · split <;> simp [Tr.toL]
      · simp [Tr.toL]
      · simp [Tr.toL]
    · rfl
/-! ### Put, drop -/
def tput (k v : Int) : Tr → Tr
  | .nil => .node k v .nil .nil
  | .node x xv l r => if k < x then joined x xv (tput k v l) r else if x < k then joined x xv l (tput k v r) else .node k v l r
def tfirst (k v : Int) (r : Tr) : Tr → Tr × Int × Int
  | .nil => (r, k, v)
  | .node lk lv ll lr => (joined k v (tfirst lk lv lr ll).1 r, (tfirst lk lv lr ll).2)
def tboth (l r : Tr) : Tr :=
  match l, r with
  | .nil, r => r
  | .node a b c d, .nil => .node a b c d
  | .node a b c d, .node k v rl rr => joined (tfirst k v rr rl).2.1 (tfirst k v rr rl).2.2 (.node a b c d) (tfirst k v rr rl).1
def tdrop (k : Int) : Tr → Tr
  | .nil => .nil
  | .node x xv l r => if k < x then joined x xv (tdrop k l) r else if x < k then joined x xv l (tdrop k r) else tboth l r
/-! ### Lists -/
abbrev LE2 := List (Int × Int)
def lput (k v : Int) (l : LE2) : LE2 := l.filter (fun e => decide (e.1 < k)) ++ (k, v) :: l.filter (fun e => decide (k < e.1))
def ldrop (k : Int) (l : LE2) : LE2 := l.filter (fun e => decide (e.1 ≠ k))
def Srt (l : LE2) : Prop := l.Pairwise (fun a b => a.1 < b.1)
theorem Srt.split {a b : LE2} {x xv : Int} (h : Srt (a ++ (x, xv) :: b)) : Srt a ∧ Srt b ∧ (∀ e ∈ a, e.1 < x) ∧ (∀ e ∈ b, x < e.1) := by
  obtain ⟨h1, h2, h3⟩ := List.pairwise_append.1 h
  obtain ⟨h4, h5⟩ := List.pairwise_cons.1 h2
  exact ⟨h1, h5, fun e he => h3 e he _ List.mem_cons_self, h4⟩
theorem fl_all {p : Int × Int → Bool} {l : LE2} (h : ∀ e ∈ l, p e = true) : l.filter p = l := List.filter_eq_self.2 h
theorem fl_no {p : Int × Int → Bool} {l : LE2} (h : ∀ e ∈ l, ¬ p e = true) : l.filter p = [] := List.filter_eq_nil_iff.2 h
theorem tput_toL (k v : Int) : ∀ t : Tr, Srt t.toL → (tput k v t).toL = lput k v t.toL
  | .nil, _ => rfl
  | .node x xv l r, h => by
    obtain ⟨h1, h2, h3, h4⟩ := Srt.split h
    unfold tput lput
    simp only [Tr.toL, List.filter_append, List.filter_cons]
    split
    · rename_i hk
      rw [toL_joined, tput_toL k v l h1]
      unfold lput
      rw [fl_no (l := r.toL) (p := fun e => decide (e.1 < k)) (fun e he => by have := h4 e he; simp; omega), fl_all (l := r.toL) (p := fun e => decide (k < e.1)) (fun e he => by have := h4 e he; simp; omega)]
      have e1 : decide (x < k) = false := by simp; omega
      have e2 : decide (k < x) = true := by simp; omega
      simp [e1, e2]
    · split
      · rename_i hk2 hk
        rw [toL_joined, tput_toL k v r h2]
        unfold lput
        rw [fl_all (l := l.toL) (p := fun e => decide (e.1 < k)) (fun e he => by have := h3 e he; simp; omega), fl_no (l := l.toL) (p := fun e => decide (k < e.1)) (fun e he => by have := h3 e he; simp; omega)]
        have e1 : decide (x < k) = true := by simp; omega
        have e2 : decide (k < x) = false := by simp; omega
        simp [e1, e2]
      · have hx : k = x := by omega
        subst hx
        rw [fl_all (l := l.toL) (p := fun e => decide (e.1 < k)) (fun e he => by have := h3 e he; simp; omega), fl_no (l := l.toL) (p := fun e => decide (k < e.1)) (fun e he => by have := h3 e he; simp; omega), fl_no (l := r.toL) (p := fun e => decide (e.1 < k)) (fun e he => by have := h4 e he; simp; omega), fl_all (l := r.toL) (p := fun e => decide (k < e.1)) (fun e he => by have := h4 e he; simp; omega)]
        simp [Tr.toL]
theorem tfirst_toL : ∀ (l : Tr) (k v : Int) (r : Tr), (tfirst k v r l).2 :: (tfirst k v r l).1.toL = l.toL ++ (k, v) :: r.toL
  | .nil, k, v, r => rfl
  | .node lk lv ll lr, k, v, r => by
    unfold tfirst
    have ih := tfirst_toL ll lk lv lr
    show (tfirst lk lv lr ll).2 :: (joined k v (tfirst lk lv lr ll).1 r).toL = _
    rw [toL_joined]
    show ((tfirst lk lv lr ll).2 :: (tfirst lk lv lr ll).1.toL) ++ _ = _
    rw [ih]; simp [Tr.toL]
theorem tboth_toL (l r : Tr) : (tboth l r).toL = l.toL ++ r.toL := by
  unfold tboth
  split
  · rfl
  · simp [Tr.toL]
  · rename_i a b c d k v rl rr
    rw [toL_joined]
    have := tfirst_toL rl k v rr
    show _ ++ (tfirst k v rr rl).2 :: (tfirst k v rr rl).1.toL = _
    rw [this]; rfl
theorem tdrop_toL (k : Int) : ∀ t : Tr, Srt t.toL → (tdrop k t).toL = ldrop k t.toL
  | .nil, _ => rfl
  | .node x xv l r, h => by
    obtain ⟨h1, h2, h3, h4⟩ := Srt.split h
    unfold tdrop ldrop
    simp only [Tr.toL, List.filter_append, List.filter_cons]
    split
    · rename_i hk
      rw [toL_joined, tdrop_toL k l h1]
      unfold ldrop
      rw [fl_all (l := r.toL) (p := fun e => decide (e.1 ≠ k)) (fun e he => by have := h4 e he; simp; omega)]
      have e1 : decide (x ≠ k) = true := by simp; omega
      simp only [e1, if_true]
    · split
      · rename_i hk2 hk
        rw [toL_joined, tdrop_toL k r h2]
        unfold ldrop
        rw [fl_all (l := l.toL) (p := fun e => decide (e.1 ≠ k)) (fun e he => by have := h3 e he; simp; omega)]
        have e1 : decide (x ≠ k) = true := by simp; omega
        simp only [e1, if_true]
      · have hx : k = x := by omega
        subst hx
        rw [tboth_toL, fl_all (l := l.toL) (p := fun e => decide (e.1 ≠ k)) (fun e he => by have := h3 e he; simp; omega), fl_all (l := r.toL) (p := fun e => decide (e.1 ≠ k)) (fun e he => by have := h4 e he; simp; omega)]
        simp
theorem lput_srt {l : LE2} {k v : Int} (h : Srt l) : Srt (lput k v l) := by
  refine List.pairwise_append.2 ⟨h.filter _, List.pairwise_cons.2 ⟨fun e he => ?_, h.filter _⟩, fun a ha b hb => ?_⟩
  · have := (List.mem_filter.1 he).2; simpa using this
  · have h1 : a.1 < k := by simpa using (List.mem_filter.1 ha).2
    rcases List.mem_cons.1 hb with rfl | hb
    · exact h1
    · have h2 : k < b.1 := by simpa using (List.mem_filter.1 hb).2
      omega
theorem ldrop_srt {l : LE2} {k : Int} (h : Srt l) : Srt (ldrop k l) := h.filter _
/-! ### How deep -/
/-! ### Ranks -/
def lrank (k : Int) (l : LE2) : Nat := (l.filter (fun e => decide (e.1 < k))).length
abbrev nodC (k v : Int) (pl pr : Option Addr) (l r : Tr) : List Value := [.int .u64 k, .int .i64 v, .pointer pl, .pointer pr, .int .i64 (((Tr.node k v l r).size : Nat) : Int), .int .i64 (((Tr.node k v l r).deep : Nat) : Int)]
def TrA (h0 : Nat → Option Obj) : Tr → Option Addr → Prop
  | .nil, p => p = none
  | .node k v l r, p => ∃ (g : Nat) (pl pr : Option Addr), p = some ⟨g, 0, none⟩ ∧ h0 g = some (.cells (nodC k v pl pr l r).toArray 131 (0, 0)) ∧ TrA h0 l pl ∧ TrA h0 r pr
theorem TrA.mono {h0 h1 : Nat → Option Obj} (hle : LeH h0 h1) : ∀ {t : Tr} {p : Option Addr}, TrA h0 t p → TrA h1 t p
  | .nil, _, h => h
  | .node k v l r, _, ⟨g, pl, pr, a1, a2, a3, a4⟩ => ⟨g, pl, pr, a1, hle _ _ a2, TrA.mono hle a3, TrA.mono hle a4⟩
theorem deep_le : ∀ t : Tr, t.deep ≤ t.size
  | .nil => Nat.le_refl _
  | .node k v l r => by
    have := deep_le l; have := deep_le r
    simp only [Tr.deep, Tr.size]; omega
theorem size_joined (k v : Int) (l r : Tr) : (joined k v l r).size = l.size + r.size + 1 := by
  rw [← Tr.size_toL, toL_joined, List.length_append, List.length_cons, Tr.size_toL, Tr.size_toL]; omega
theorem size_first (l : Tr) (k v : Int) (r : Tr) : (tfirst k v r l).1.size = l.size + r.size := by
  have := congrArg List.length (tfirst_toL l k v r)
  rw [List.length_cons, List.length_append, List.length_cons, Tr.size_toL, Tr.size_toL, Tr.size_toL] at this
  omega
theorem size_both (l r : Tr) : (tboth l r).size = l.size + r.size := by
  rw [← Tr.size_toL, tboth_toL, List.length_append, Tr.size_toL, Tr.size_toL]
theorem size_put (k v : Int) : ∀ t : Tr, (tput k v t).size ≤ t.size + 1
  | .nil => Nat.le_refl _
  | .node x xv l r => by
    have i1 := size_put k v l; have i2 := size_put k v r
    unfold tput
    split
    · rw [size_joined]; simp only [Tr.size]; omega
    · split
      · rw [size_joined]; simp only [Tr.size]; omega
      · simp only [Tr.size]; omega
theorem size_drop (k : Int) : ∀ t : Tr, (tdrop k t).size ≤ t.size
  | .nil => Nat.le_refl _
  | .node x xv l r => by
    have i1 := size_drop k l; have i2 := size_drop k r
    unfold tdrop
    split
    · rw [size_joined]; simp only [Tr.size]; omega
    · split
      · rw [size_joined]; simp only [Tr.size]; omega
      · rw [size_both]; simp only [Tr.size]; omega
/-- A part is told. -/
abbrev RT (e : World) (F : List HP) (h0 : Nat → Option Obj) (t : Tr) (v : Value) (w' : World) : Prop := ∃ (h1 : Nat → Option Obj) (p : Option Addr), v = .pointer p ∧ LeH h0 h1 ∧ TrA h1 t p ∧ Own e w' (imm h1 :: F)
def ordI (x y : Int) : Int := if x < y then -1 else if x > y then 1 else 0
theorem ordI_lt {x y : Int} : ordI x y < 0 ↔ x < y := by unfold ordI; split <;> (try split) <;> omega
theorem ordI_gt {x y : Int} : ordI x y > 0 ↔ y < x := by unfold ordI; split <;> (try split) <;> omega
theorem ordI_eq {x y : Int} : ordI x y = 0 ↔ x = y := by unfold ordI; split <;> (try split) <;> omega
def TrOrd (h0 : Nat → Option Obj) (g : Nat) (p : Option Addr) : Prop := h0 g = some (.cells #[.func (.func 75) #[] #[], .pointer p] 127 (0, 0))
def tfind (k : Int) : Tr → Nat → Option (Int × Int) × Nat
  | .nil, a => (none, a)
  | .node x xv l r, a => if k = x then (some (x, xv), a + l.size) else if k < x then tfind k l a else tfind k r (a + l.size + 1)
def tat : Tr → Nat → Option (Int × Int)
  | .nil, _ => none
  | .node x xv l r, i => if i < l.size then tat l i else if i > l.size then tat r (i - l.size - 1) else some (x, xv)
section
variable {e w : World} {F : List HP} {h0 : Nat → Option Obj} {t l r : Tr} {p q : Option Addr} {k v : Int} {g : Nat}
theorem rkNan {x : Int} (h : Own e w F) : Rets Tryz.prog 100 #[.int .u64 x] w fun v w' => v = .bool false ∧ Own e w' F :=
  cmp_isNaN_uint64_go _ ⟨by simp, h⟩
theorem rkOrder {x y : Int} (h : Own e w F) : Rets Tryz.prog 75 #[.int .u64 x, .int .u64 y] w fun v w' => v = .int .i64 (ordI x y) ∧ Own e w' F := by
  refine cmp_Compare_uint64_go _ _ ?_
  refine Rets.mono (rkNan h) ?_
  rintro _ w ⟨rfl, h⟩
  refine ⟨_, rfl, ?_⟩
  refine Rets.mono (rkNan h) ?_
  rintro _ w ⟨rfl, h⟩
  refine ⟨_, rfl, fun vs w => Own e w F, ⟨fun hc => (by cases hc), fun _ => h⟩, ?_⟩
  clear h
  rintro w
  intros
  rename_i h
  refine ⟨fun hc => (by cases hc), fun _ => ⟨fun hc => ?_, fun hc => ⟨fun hc2 => ?_, fun hc2 => ?_⟩⟩⟩
  · exact ⟨by unfold ordI; rw [if_pos (dec_t hc)], h⟩
  · exact ⟨by unfold ordI; rw [if_neg (dec_f hc), if_pos (dec_t hc2)], h⟩
  · exact ⟨by unfold ordI; rw [if_neg (dec_f hc), if_neg (dec_f hc2)], h⟩
theorem rkSize (ht : TrA h0 t p) (h : Own e w (imm h0 :: F)) : Rets Tryz.prog 66 #[.pointer p] w fun v w' => v = .int .i64 (t.size : Int) ∧ Own e w' (imm h0 :: F) := by
  cases t with
  | nil =>
    obtain rfl : p = none := ht
    exact rank_nil_size_go ⟨fun _ => ⟨rfl, h⟩, fun hc => (by cases hc)⟩
  | node k v l r =>
    obtain ⟨g, pl, pr, rfl, hg, hl, hr⟩ := ht
    exact rank_size_int_int_go _ ⟨fun hc => (by cases hc), fun _ => ⟨_, h.immCell hg (i := 4) rfl, rfl, h⟩⟩
theorem rkDeep (ht : TrA h0 t p) (h : Own e w (imm h0 :: F)) : Rets Tryz.prog 133 #[.pointer p] w fun v w' => v = .int .i64 (t.deep : Int) ∧ Own e w' (imm h0 :: F) := by
  cases t with
  | nil =>
    obtain rfl : p = none := ht
    exact rank_nil_deep_go ⟨fun _ => ⟨rfl, h⟩, fun hc => (by cases hc)⟩
  | node k v l r =>
    obtain ⟨g, pl, pr, rfl, hg, hl, hr⟩ := ht
    exact rank_deep_int_int_go _ ⟨fun hc => (by cases hc), fun _ => ⟨_, h.immCell hg (i := 5) rfl, rfl, h⟩⟩
theorem rkMade (hl : TrA h0 l p) (hr : TrA h0 r q) (hs : l.size + r.size ≤ 1000) (h : Own e w (imm h0 :: F)) : Rets Tryz.prog 120 #[.int .u64 k, .int .i64 v, .pointer p, .pointer q] w (RT e F h0 (.node k v l r)) := by
  have d1 := deep_le l
  have d2 := deep_le r
  refine rank_made_int_int_go _ _ _ _ ?_
  refine Rets.mono (rkSize hl h) ?_
  clear h
  rintro _ w ⟨rfl, h⟩
  refine ⟨_, rfl, ?_⟩
  refine Rets.mono (rkSize hr h) ?_
  clear h
  rintro _ w ⟨rfl, h⟩
  refine ⟨_, rfl, ?_⟩
  refine Rets.mono (rkDeep hl h) ?_
  clear h
  rintro _ w ⟨rfl, h⟩
  refine ⟨_, rfl, ?_⟩
  refine Rets.mono (rkDeep hr h) ?_
  clear h
  rintro _ w ⟨rfl, h⟩
  refine ⟨_, rfl, h.newR fun g w h => ?_⟩
  have e1 : IntKind.wrap .i64 (IntKind.wrap .i64 ((l.size : Int) + (r.size : Int)) + 1) = (((Tr.node k v l r).size : Nat) : Int) := by
    rw [wI64 (n := (l.size : Int) + (r.size : Int)) (by omega) (by omega), wI64 (by omega) (by omega)]
    simp only [Tr.size]; omega
  have e2 : IntKind.wrap .i64 (maxI (l.deep : Int) (r.deep : Int) + 1) = (((Tr.node k v l r).deep : Nat) : Int) := by
    have : maxI (l.deep : Int) (r.deep : Int) = ((max l.deep r.deep : Nat) : Int) := by unfold maxI; split <;> omega
    rw [this, wI64 (by omega) (by omega)]
    simp only [Tr.deep]; omega
  rw [e1, e2] at h
  obtain ⟨h1, le1, hg, h⟩ := Own.absorb h
  exact ⟨h1, _, rfl, le1, ⟨g, p, q, rfl, hg, hl.mono le1, hr.mono le1⟩, h⟩
theorem rkLeftUp {lk lv : Int} {ll lr : Tr} (hl : TrA h0 (.node lk lv ll lr) (some ⟨g, 0, none⟩)) (hr : TrA h0 r q) (hs : (Tr.node lk lv ll lr).size + r.size ≤ 900) (h : Own e w (imm h0 :: F)) :
    Rets Tryz.prog 134 #[.int .u64 k, .int .i64 v, .pointer (some ⟨g, 0, none⟩), .pointer q] w (RT e F h0 (leftUp k v (.node lk lv ll lr) r)) := by
  obtain ⟨g', pl, pr, hp, hg, hll, hlr⟩ := hl
  cases hp
  simp only [Tr.size] at hs
  refine rank_leftUp_int_int_go _ _ _ _ ⟨_, h.immCell hg (i := 3) rfl, _, h.immCell hg (i := 2) rfl, ?_⟩
  refine Rets.mono (rkDeep hll h) ?_
  clear h
  rintro _ w ⟨rfl, h⟩
  refine ⟨_, rfl, ?_⟩
  refine Rets.mono (rkDeep hlr h) ?_
  clear h
  rintro _ w ⟨rfl, h⟩
  refine ⟨_, rfl, fun hc => ?_, fun hc => ?_⟩
  · have hc := dec_t hc
    cases lr with
    | nil => simp only [Tr.deep] at hc; omega
    | node mk mv ml mr =>
      obtain ⟨gm, pml, pmr, hpm, hgm, hml, hmr⟩ := hlr
      cases hpm
      have hd : ll.deep < (Tr.node mk mv ml mr).deep := by omega
      have el : leftUp k v (.node lk lv ll (.node mk mv ml mr)) r = .node mk mv (.node lk lv ll ml) (.node k v mr r) := by unfold leftUp; exact if_pos hd
      rw [el]
      simp only [Tr.size] at hs
      refine h.drw fun w h => ⟨fun w => Own e w (imm h0 :: F), h, smR (smR (smR (smR ⟨_, fun w h => h.immCell hgm (i := 0) rfl, _, fun w h => h.immCell hgm (i := 1) rfl, _, fun w h => h.immCell hg (i := 0) rfl, _, fun w h => h.immCell hg (i := 1) rfl, _, fun w h => h.immCell hg (i := 2) rfl, _, fun w h => h.immCell hgm (i := 2) rfl, _, fun w h => h.immCell hgm (i := 3) rfl, ?_⟩)))⟩
      refine Rets.mono (rkMade hll hml (by omega) h) ?_
      clear h
      rintro _ w ⟨h1, p1, rfl, le1, t1, h⟩
      refine ⟨_, rfl, h.immLe le1, ?_⟩
      refine Rets.mono (rkMade (hmr.mono le1) (hr.mono le1) (by omega) h) ?_
      clear h
      rintro _ w ⟨h2, p2, rfl, le2, t2, h⟩
      refine ⟨_, rfl, h.immLe (LeH.trans le1 le2), ?_⟩
      refine Rets.mono (rkMade (t1.mono le2) t2 (by simp only [Tr.size]; omega) h) ?_
      clear h
      rintro _ w ⟨h3, p3, rfl, le3, t3, h⟩
      exact ⟨_, rfl, h3, p3, rfl, LeH.trans (LeH.trans le1 le2) le3, t3, h⟩
  · have hc := dec_f hc
    have el : leftUp k v (.node lk lv ll lr) r = .node lk lv ll (.node k v lr r) := by
      cases lr with
      | nil => rfl
      | node mk mv ml mr => unfold leftUp; exact if_neg (by omega)
    rw [el]
    refine h.drw fun w h => ⟨fun w => Own e w (imm h0 :: F), h, _, fun w h => h.immCell hg (i := 0) rfl, _, fun w h => h.immCell hg (i := 1) rfl, _, fun w h => h.immCell hg (i := 2) rfl, _, fun w h => h.immCell hg (i := 3) rfl, ?_⟩
    refine Rets.mono (rkMade hlr hr (by omega) h) ?_
    clear h
    rintro _ w ⟨h1, p1, rfl, le1, t1, h⟩
    refine ⟨_, rfl, h.immLe le1, ?_⟩
    refine Rets.mono (rkMade (hll.mono le1) t1 (by simp only [Tr.size]; omega) h) ?_
    clear h
    rintro _ w ⟨h2, p2, rfl, le2, t2, h⟩
    exact ⟨_, rfl, h2, p2, rfl, LeH.trans le1 le2, t2, h⟩
theorem rkRightUp {rk rv : Int} {rl rr : Tr} (hl : TrA h0 l p) (hr : TrA h0 (.node rk rv rl rr) (some ⟨g, 0, none⟩)) (hs : (Tr.node rk rv rl rr).size + l.size ≤ 900) (h : Own e w (imm h0 :: F)) :
    Rets Tryz.prog 135 #[.int .u64 k, .int .i64 v, .pointer p, .pointer (some ⟨g, 0, none⟩)] w (RT e F h0 (rightUp k v l (.node rk rv rl rr))) := by
  obtain ⟨g', pl, pr, hp, hg, hrl, hrr⟩ := hr
  cases hp
  simp only [Tr.size] at hs
  refine rank_rightUp_int_int_go _ _ _ _ ⟨_, h.immCell hg (i := 2) rfl, _, h.immCell hg (i := 3) rfl, ?_⟩
  refine Rets.mono (rkDeep hrr h) ?_
  clear h
  rintro _ w ⟨rfl, h⟩
  refine ⟨_, rfl, ?_⟩
  refine Rets.mono (rkDeep hrl h) ?_
  clear h
  rintro _ w ⟨rfl, h⟩
  refine ⟨_, rfl, fun hc => ?_, fun hc => ?_⟩
  · have hc := dec_t hc
    cases rl with
    | nil => simp only [Tr.deep] at hc; omega
    | node mk mv ml mr =>
      obtain ⟨gm, pml, pmr, hpm, hgm, hml, hmr⟩ := hrl
      cases hpm
      have hd : rr.deep < (Tr.node mk mv ml mr).deep := by omega
      have el : rightUp k v l (.node rk rv (.node mk mv ml mr) rr) = .node mk mv (.node k v l ml) (.node rk rv mr rr) := by unfold rightUp; exact if_pos hd
      rw [el]
      simp only [Tr.size] at hs
      refine h.drw fun w h => ⟨fun w => Own e w (imm h0 :: F), h, smR (smR (smR (smR ⟨_, fun w h => h.immCell hgm (i := 0) rfl, _, fun w h => h.immCell hgm (i := 1) rfl, _, fun w h => h.immCell hgm (i := 2) rfl, _, fun w h => h.immCell hg (i := 0) rfl, _, fun w h => h.immCell hg (i := 1) rfl, _, fun w h => h.immCell hgm (i := 3) rfl, _, fun w h => h.immCell hg (i := 3) rfl, ?_⟩)))⟩
      refine Rets.mono (rkMade hl hml (by omega) h) ?_
      clear h
      rintro _ w ⟨h1, p1, rfl, le1, t1, h⟩
      refine ⟨_, rfl, h.immLe le1, ?_⟩
      refine Rets.mono (rkMade (hmr.mono le1) (hrr.mono le1) (by omega) h) ?_
      clear h
      rintro _ w ⟨h2, p2, rfl, le2, t2, h⟩
      refine ⟨_, rfl, h.immLe (LeH.trans le1 le2), ?_⟩
      refine Rets.mono (rkMade (t1.mono le2) t2 (by simp only [Tr.size]; omega) h) ?_
      clear h
      rintro _ w ⟨h3, p3, rfl, le3, t3, h⟩
      exact ⟨_, rfl, h3, p3, rfl, LeH.trans (LeH.trans le1 le2) le3, t3, h⟩
  · have hc := dec_f hc
    have el : rightUp k v l (.node rk rv rl rr) = .node rk rv (.node k v l rl) rr := by
      cases rl with
      | nil => rfl
      | node mk mv ml mr => unfold rightUp; exact if_neg (by omega)
    rw [el]
    refine h.drw fun w h => ⟨fun w => Own e w (imm h0 :: F), h, _, fun w h => h.immCell hg (i := 0) rfl, _, fun w h => h.immCell hg (i := 1) rfl, _, fun w h => h.immCell hg (i := 2) rfl, _, fun w h => h.immCell hg (i := 3) rfl, ?_⟩
    refine Rets.mono (rkMade hl hrl (by omega) h) ?_
    clear h
    rintro _ w ⟨h1, p1, rfl, le1, t1, h⟩
    refine ⟨_, rfl, h.immLe le1, ?_⟩
    refine Rets.mono (rkMade t1 (hrr.mono le1) (by simp only [Tr.size]; omega) h) ?_
    clear h
    rintro _ w ⟨h2, p2, rfl, le2, t2, h⟩
    exact ⟨_, rfl, h2, p2, rfl, LeH.trans le1 le2, t2, h⟩
theorem rkJoined (hl : TrA h0 l p) (hr : TrA h0 r q) (hs : l.size + r.size ≤ 900) (h : Own e w (imm h0 :: F)) : Rets Tryz.prog 121 #[.int .u64 k, .int .i64 v, .pointer p, .pointer q] w (RT e F h0 (joined k v l r)) := by
  have d1 := deep_le l
  have d2 := deep_le r
  refine rank_joined_int_int_go _ _ _ _ ?_
  refine Rets.mono (rkDeep hl h) ?_
  clear h
  rintro _ w ⟨rfl, h⟩
  refine ⟨_, rfl, ?_⟩
  refine Rets.mono (rkDeep hr h) ?_
  clear h
  rintro _ w ⟨rfl, h⟩
  refine ⟨_, rfl, ?_⟩
  rw [wI64 (n := (l.deep : Int) - (r.deep : Int)) (by omega) (by omega)]
  unfold joined
  refine ⟨fun hc => ?_, fun hc => ⟨fun hc2 => ?_, fun hc2 => ?_⟩⟩
  · have hc := dec_t hc
    rw [if_pos (by omega)]
    cases l with
    | nil => simp only [Tr.deep] at hc; omega
    | node lk lv ll lr =>
      have hl' := hl
      obtain ⟨g, pl, pr, rfl, _⟩ := hl'
      refine Rets.mono (rkLeftUp hl hr hs h) ?_
      clear h
      rintro _ w ⟨h1, p1, rfl, le1, t1, h⟩
      exact ⟨_, rfl, h1, p1, rfl, le1, t1, h⟩
  · have hc := dec_f hc
    have hc2 := dec_t hc2
    rw [if_neg (by omega), if_pos (by omega)]
    cases r with
    | nil => simp only [Tr.deep] at hc2; omega
    | node lk lv ll lr =>
      have hr' := hr
      obtain ⟨g, pl, pr, rfl, _⟩ := hr'
      refine Rets.mono (rkRightUp hl hr (by omega) h) ?_
      clear h
      rintro _ w ⟨h1, p1, rfl, le1, t1, h⟩
      exact ⟨_, rfl, h1, p1, rfl, le1, t1, h⟩
  · have hc := dec_f hc
    have hc2 := dec_f hc2
    rw [if_neg (by omega), if_neg (by omega)]
    refine Rets.mono (rkMade hl hr (by omega) h) ?_
    clear h
    rintro _ w ⟨h1, p1, rfl, le1, t1, h⟩
    exact ⟨_, rfl, h1, p1, rfl, le1, t1, h⟩
theorem rkFirst : ∀ (l : Tr) (k v : Int) (r : Tr) (g : Nat) (h0 : Nat → Option Obj) (w : World), TrA h0 (.node k v l r) (some ⟨g, 0, none⟩) → (Tr.node k v l r).size ≤ 800 → Own e w (imm h0 :: F) →
    Rets Tryz.prog 136 #[.pointer (some ⟨g, 0, none⟩)] w fun v' w' => ∃ (h1 : Nat → Option Obj) (p' : Option Addr) (gl : Nat) (rest : List Value), v' = .tuple #[.pointer p', .pointer (some ⟨gl, 0, none⟩)] ∧ LeH h0 h1 ∧ TrA h1 (tfirst k v r l).1 p' ∧ h1 gl = some (.cells (.int .u64 (tfirst k v r l).2.1 :: .int .i64 (tfirst k v r l).2.2 :: rest).toArray 131 (0, 0)) ∧ Own e w' (imm h1 :: F)
  | .nil, k, v, r, g, h0, w, ht, hs, h => by
    obtain ⟨g', pl, pr, hp, hg, hl, hr⟩ := ht
    cases hp
    obtain rfl : pl = none := hl
    exact rank_first_int_int_go _ ⟨_, h.immCell hg (i := 2) rfl, fun _ => ⟨_, h.immCell hg (i := 3) rfl, h0, pr, g, _, rfl, LeH.refl _, hr, hg, h⟩, fun hc => (by cases hc)⟩
  | .node lk lv ll lr, k, v, r, g, h0, w, ht, hs, h => by
    obtain ⟨g', pl, pr, hp, hg, hl, hr⟩ := ht
    cases hp
    have hl' := hl
    obtain ⟨gl, pll, plr, rfl, _⟩ := hl'
    simp only [Tr.size] at hs
    refine rank_first_int_int_go _ ⟨_, h.immCell hg (i := 2) rfl, fun hc => (by cases hc), fun _ => ⟨_, h.immCell hg (i := 2) rfl, ?_⟩⟩
    refine Rets.mono (rkFirst ll lk lv lr gl h0 w hl (by simp only [Tr.size]; omega) h) ?_
    clear h
    rintro _ w ⟨h1, p1, g1, rest, rfl, le1, t1, hg1, h⟩
    refine ⟨_, _, rfl, h.drw fun w h => ⟨_, h.immCell (le1 _ _ hg) (i := 0) rfl, _, h.immCell (le1 _ _ hg) (i := 1) rfl, _, h.immCell (le1 _ _ hg) (i := 3) rfl, ?_⟩⟩
    refine Rets.mono (rkJoined t1 (hr.mono le1) (by rw [size_first]; omega) h) ?_
    clear h
    rintro _ w ⟨h2, p2, rfl, le2, t2, h⟩
    exact ⟨_, rfl, h2, p2, g1, rest, rfl, LeH.trans le1 le2, t2, le2 _ _ hg1, h⟩
theorem rkBoth (hl : TrA h0 l p) (hr : TrA h0 r q) (hs : l.size + r.size ≤ 800) (h : Own e w (imm h0 :: F)) : Rets Tryz.prog 123 #[.pointer p, .pointer q] w (RT e F h0 (tboth l r)) := by
  cases l with
  | nil =>
    obtain rfl : p = none := hl
    exact rank_both_int_int_go _ _ ⟨fun _ => ⟨h0, q, rfl, LeH.refl _, hr, h⟩, fun hc => (by cases hc)⟩
  | node a b c d =>
    have hl' := hl
    obtain ⟨gl, pll, plr, rfl, _⟩ := hl'
    cases r with
    | nil =>
      obtain rfl : q = none := hr
      exact rank_both_int_int_go _ _ ⟨fun hc => (by cases hc), fun _ => ⟨fun _ => ⟨h0, _, rfl, LeH.refl _, hl, h⟩, fun hc => (by cases hc)⟩⟩
    | node k v rl rr =>
      have hr' := hr
      obtain ⟨gr, prl, prr, rfl, _⟩ := hr'
      simp only [Tr.size] at hs
      refine rank_both_int_int_go _ _ ⟨fun hc => (by cases hc), fun _ => ⟨fun hc => (by cases hc), fun _ => ?_⟩⟩
      refine Rets.mono (rkFirst rl k v rr gr h0 w hr (by simp only [Tr.size]; omega) h) ?_
      clear h
      rintro _ w ⟨h1, p1, g1, rest, rfl, le1, t1, hg1, h⟩
      refine ⟨_, _, rfl, h.drw fun w h => smR (smR ⟨_, h.immCell hg1 (i := 0) rfl, _, h.immCell hg1 (i := 1) rfl, ?_⟩)⟩
      refine Rets.mono (rkJoined (hl.mono le1) t1 (by rw [size_first]; simp only [Tr.size]; omega) h) ?_
      clear h
      rintro _ w ⟨h2, p2, rfl, le2, t2, h⟩
      exact ⟨_, rfl, h2, p2, rfl, LeH.trans le1 le2, t2, h⟩
theorem rkput {pt : Option Addr} : ∀ (t : Tr) (h0 : Nat → Option Obj) (p : Option Addr) (w : World), TrOrd h0 g pt → TrA h0 t p → t.size ≤ 700 → Own e w (imm h0 :: F) →
    Rets Tryz.prog 97 #[.pointer (some ⟨g, 0, none⟩), .pointer p, .int .u64 k, .int .i64 v] w (RT e F h0 (tput k v t))
  | .nil, h0, p, w, ho, ht, hs, h => by
    obtain rfl : p = none := ht
    refine rank_Tree_int_int_put_go _ _ _ _ ⟨fun _ => ?_, fun hc => (by cases hc)⟩
    refine Rets.mono (rkMade (l := .nil) (r := .nil) rfl rfl (by decide) h) ?_
    clear h
    rintro _ w ⟨h1, p1, rfl, le1, t1, h⟩
    exact ⟨_, rfl, h1, p1, rfl, le1, t1, h⟩
  | .node x xv l r, h0, p, w, ho, ht, hs, h => by
    obtain ⟨gn, pl, pr, rfl, hg, hl, hr⟩ := ht
    simp only [Tr.size] at hs
    have s1 := size_put k v l
    have s2 := size_put k v r
    refine rank_Tree_int_int_put_go _ _ _ _ ⟨fun hc => (by cases hc), fun _ => h.drw fun w h => smR ⟨_, _, _, h.immCell (vs := [.func (.func 75) #[] #[], .pointer pt]) ho (i := 0) rfl, _, h.immCell hg (i := 0) rfl, callG.mk Tryz.func75 (by kernel_rfl) ?_⟩⟩
    refine Rets.mono (rkOrder (x := k) (y := x) h) ?_
    clear h
    rintro _ w ⟨rfl, h⟩
    unfold tput
    refine ⟨_, rfl, fun hc => ?_, fun hc => ⟨fun hc2 => ?_, fun hc2 => ?_⟩⟩
    · have hc := ordI_lt.1 (dec_t hc)
      rw [if_pos hc]
      refine h.drw fun w h => ⟨fun w => Own e w (imm h0 :: F), h, smR (smR (smR (smR ⟨_, fun w h => h.immCell hg (i := 0) rfl, _, fun w h => h.immCell hg (i := 1) rfl, _, fun w h => h.immCell hg (i := 2) rfl, _, fun w h => h.immCell hg (i := 3) rfl, ?_⟩)))⟩
      refine Rets.mono (rkput l h0 pl w ho hl (by omega) h) ?_
      clear h
      rintro _ w ⟨h1, p1, rfl, le1, t1, h⟩
      refine ⟨_, rfl, h.immLe le1, ?_⟩
      refine Rets.mono (rkJoined t1 (hr.mono le1) (by omega) h) ?_
      clear h
      rintro _ w ⟨h2, p2, rfl, le2, t2, h⟩
      exact ⟨_, rfl, h2, p2, rfl, LeH.trans le1 le2, t2, h⟩
    · have hc := fun x => dec_f hc (ordI_lt.2 x)
      have hc2 := ordI_gt.1 (dec_t hc2)
      rw [if_neg hc, if_pos hc2]
      refine h.drw fun w h => ⟨fun w => Own e w (imm h0 :: F), h, smR (smR (smR (smR ⟨_, fun w h => h.immCell hg (i := 0) rfl, _, fun w h => h.immCell hg (i := 1) rfl, _, fun w h => h.immCell hg (i := 2) rfl, _, fun w h => h.immCell hg (i := 3) rfl, ?_⟩)))⟩
      refine Rets.mono (rkput r h0 pr w ho hr (by omega) h) ?_
      clear h
      rintro _ w ⟨h1, p1, rfl, le1, t1, h⟩
      refine ⟨_, rfl, h.immLe le1, ?_⟩
      refine Rets.mono (rkJoined (hl.mono le1) t1 (by omega) h) ?_
      clear h
      rintro _ w ⟨h2, p2, rfl, le2, t2, h⟩
      exact ⟨_, rfl, h2, p2, rfl, LeH.trans le1 le2, t2, h⟩
    · have hc := fun x => dec_f hc (ordI_lt.2 x)
      have hc2 := fun x => dec_f hc2 (ordI_gt.2 x)
      rw [if_neg hc, if_neg hc2]
      refine h.drw fun w h => smR (smR ⟨_, h.immCell hg (i := 2) rfl, _, h.immCell hg (i := 3) rfl, ?_⟩)
      refine Rets.mono (rkMade hl hr (by omega) h) ?_
      clear h
      rintro _ w ⟨h1, p1, rfl, le1, t1, h⟩
      exact ⟨_, rfl, h1, p1, rfl, le1, t1, h⟩
theorem rkdrop {pt : Option Addr} : ∀ (t : Tr) (h0 : Nat → Option Obj) (p : Option Addr) (w : World), TrOrd h0 g pt → TrA h0 t p → t.size ≤ 700 → Own e w (imm h0 :: F) →
    Rets Tryz.prog 101 #[.pointer (some ⟨g, 0, none⟩), .pointer p, .int .u64 k] w (RT e F h0 (tdrop k t))
  | .nil, h0, p, w, ho, ht, hs, h => by
    obtain rfl : p = none := ht
    exact rank_Tree_int_int_drop_go _ _ _ ⟨fun _ => ⟨h0, none, rfl, LeH.refl _, rfl, h⟩, fun hc => (by cases hc)⟩
  | .node x xv l r, h0, p, w, ho, ht, hs, h => by
    obtain ⟨gn, pl, pr, rfl, hg, hl, hr⟩ := ht
    simp only [Tr.size] at hs
    have s1 := size_drop k l
    have s2 := size_drop k r
    refine rank_Tree_int_int_drop_go _ _ _ ⟨fun hc => (by cases hc), fun _ => h.drw fun w h => smR ⟨_, _, _, h.immCell (vs := [.func (.func 75) #[] #[], .pointer pt]) ho (i := 0) rfl, _, h.immCell hg (i := 0) rfl, callG.mk Tryz.func75 (by kernel_rfl) ?_⟩⟩
    refine Rets.mono (rkOrder (x := k) (y := x) h) ?_
    clear h
    rintro _ w ⟨rfl, h⟩
    unfold tdrop
    refine ⟨_, rfl, fun hc => ?_, fun hc => ⟨fun hc2 => ?_, fun hc2 => ?_⟩⟩
    · have hc := ordI_lt.1 (dec_t hc)
      rw [if_pos hc]
      refine h.drw fun w h => ⟨fun w => Own e w (imm h0 :: F), h, smR (smR (smR (smR ⟨_, fun w h => h.immCell hg (i := 0) rfl, _, fun w h => h.immCell hg (i := 1) rfl, _, fun w h => h.immCell hg (i := 2) rfl, _, fun w h => h.immCell hg (i := 3) rfl, ?_⟩)))⟩
      refine Rets.mono (rkdrop l h0 pl w ho hl (by omega) h) ?_
      clear h
      rintro _ w ⟨h1, p1, rfl, le1, t1, h⟩
      refine ⟨_, rfl, h.immLe le1, ?_⟩
      refine Rets.mono (rkJoined t1 (hr.mono le1) (by omega) h) ?_
      clear h
      rintro _ w ⟨h2, p2, rfl, le2, t2, h⟩
      exact ⟨_, rfl, h2, p2, rfl, LeH.trans le1 le2, t2, h⟩
    · have hc := fun x => dec_f hc (ordI_lt.2 x)
      have hc2 := ordI_gt.1 (dec_t hc2)
      rw [if_neg hc, if_pos hc2]
      refine h.drw fun w h => ⟨fun w => Own e w (imm h0 :: F), h, smR (smR (smR (smR ⟨_, fun w h => h.immCell hg (i := 0) rfl, _, fun w h => h.immCell hg (i := 1) rfl, _, fun w h => h.immCell hg (i := 2) rfl, _, fun w h => h.immCell hg (i := 3) rfl, ?_⟩)))⟩
      refine Rets.mono (rkdrop r h0 pr w ho hr (by omega) h) ?_
      clear h
      rintro _ w ⟨h1, p1, rfl, le1, t1, h⟩
      refine ⟨_, rfl, h.immLe le1, ?_⟩
      refine Rets.mono (rkJoined (hl.mono le1) t1 (by omega) h) ?_
      clear h
      rintro _ w ⟨h2, p2, rfl, le2, t2, h⟩
      exact ⟨_, rfl, h2, p2, rfl, LeH.trans le1 le2, t2, h⟩
    · have hc := fun x => dec_f hc (ordI_lt.2 x)
      have hc2 := fun x => dec_f hc2 (ordI_gt.2 x)
      rw [if_neg hc, if_neg hc2]
      refine h.drw fun w h => smR (smR ⟨_, h.immCell hg (i := 2) rfl, _, h.immCell hg (i := 3) rfl, ?_⟩)
      refine Rets.mono (rkBoth hl hr (by omega) h) ?_
      clear h
      rintro _ w ⟨h1, p1, rfl, le1, t1, h⟩
      exact ⟨_, rfl, h1, p1, rfl, le1, t1, h⟩
/-! ### Trees -/
def TreeA (h0 : Nat → Option Obj) (t : Tr) (g : Nat) : Prop := ∃ p, TrOrd h0 g p ∧ TrA h0 t p
theorem TreeA.mono {h1 : Nat → Option Obj} (hle : LeH h0 h1) : TreeA h0 t g → TreeA h1 t g
  | ⟨p, a, b⟩ => ⟨p, hle _ _ a, b.mono hle⟩
/-- A tree is told. -/
abbrev RR (e : World) (F : List HP) (h0 : Nat → Option Obj) (t : Tr) (v : Value) (w' : World) : Prop := ∃ (h1 : Nat → Option Obj) (g : Nat), v = .pointer (some ⟨g, 0, none⟩) ∧ LeH h0 h1 ∧ TreeA h1 t g ∧ Own e w' (imm h1 :: F)
theorem rkNew (h : Own e w (imm h0 :: F)) : Rets Tryz.prog 74 #[.func (.func 75) #[] #[]] w (RR e F h0 .nil) := by
  refine rank_New_int_int_go _ ⟨fun hc => (by cases hc), fun _ => h.newR fun g w h => ?_⟩
  obtain ⟨h1, le1, hg, h⟩ := Own.absorb h
  exact ⟨h1, g, rfl, le1, ⟨none, hg, rfl⟩, h⟩
theorem rkPut (hT : TreeA h0 t g) (hs : t.size ≤ 700) (h : Own e w (imm h0 :: F)) : Rets Tryz.prog 70 #[.pointer (some ⟨g, 0, none⟩), .int .u64 k, .int .i64 v] w (RR e F h0 (tput k v t)) := by
  obtain ⟨p, ho, ht⟩ := hT
  refine rank_Tree_int_int_Put_go _ _ _ ⟨fun hc => (by cases hc), fun _ => h.drw fun w h => ⟨fun w => Own e w (imm h0 :: F), h, _, _, _, fun w h => h.immCell (vs := [.func (.func 75) #[] #[], .pointer p]) ho (i := 0) rfl, _, fun w h => h.immCell (vs := [.func (.func 75) #[] #[], .pointer p]) ho (i := 1) rfl, ?_⟩⟩
  refine Rets.mono (rkput t h0 p w ho ht hs h) ?_
  clear h
  rintro _ w ⟨h1, p1, rfl, le1, t1, h⟩
  refine ⟨_, rfl, h.immLe le1, h.newR fun g w h => ?_⟩
  obtain ⟨h2, le2, hg, h⟩ := Own.absorb h
  exact ⟨h2, g, rfl, LeH.trans le1 le2, ⟨p1, hg, t1.mono le2⟩, h⟩
theorem rkDrop (hT : TreeA h0 t g) (hs : t.size ≤ 700) (h : Own e w (imm h0 :: F)) : Rets Tryz.prog 77 #[.pointer (some ⟨g, 0, none⟩), .int .u64 k] w (RR e F h0 (tdrop k t)) := by
  obtain ⟨p, ho, ht⟩ := hT
  refine rank_Tree_int_int_Drop_go _ _ ⟨fun hc => (by cases hc), fun _ => h.drw fun w h => ⟨fun w => Own e w (imm h0 :: F), h, _, _, _, fun w h => h.immCell (vs := [.func (.func 75) #[] #[], .pointer p]) ho (i := 0) rfl, _, fun w h => h.immCell (vs := [.func (.func 75) #[] #[], .pointer p]) ho (i := 1) rfl, ?_⟩⟩
  refine Rets.mono (rkdrop t h0 p w ho ht hs h) ?_
  clear h
  rintro _ w ⟨h1, p1, rfl, le1, t1, h⟩
  refine ⟨_, rfl, h.immLe le1, h.newR fun g w h => ?_⟩
  obtain ⟨h2, le2, hg, h⟩ := Own.absorb h
  exact ⟨h2, g, rfl, LeH.trans le1 le2, ⟨p1, hg, t1.mono le2⟩, h⟩
theorem rkLen (hT : TreeA h0 t g) (h : Own e w (imm h0 :: F)) : Rets Tryz.prog 41 #[.pointer (some ⟨g, 0, none⟩)] w fun v w' => v = .int .i64 (t.size : Int) ∧ Own e w' (imm h0 :: F) := by
  obtain ⟨p, ho, ht⟩ := hT
  refine rank_Tree_int_int_Len_go _ ⟨fun hc => (by cases hc), fun _ => ⟨_, h.immCell (vs := [.func (.func 75) #[] #[], .pointer p]) ho (i := 1) rfl, ?_⟩⟩
  refine Rets.mono (rkSize ht h) ?_
  rintro _ w ⟨rfl, h⟩
  exact ⟨_, rfl, rfl, h⟩
def FoundA (h0 : Nat → Option Obj) (o : Option (Int × Int)) (p : Option Addr) : Prop := match o with
  | none => p = none
  | some x => ∃ (g : Nat) (rest : List Value), p = some ⟨g, 0, none⟩ ∧ h0 g = some (.cells (.int .u64 x.1 :: .int .i64 x.2 :: rest).toArray 131 (0, 0))
theorem rkFind (hT : TreeA h0 t g) (hs : t.size ≤ 700) (h : Own e w (imm h0 :: F)) : Rets Tryz.prog 67 #[.pointer (some ⟨g, 0, none⟩), .int .u64 k] w fun v w' => (∃ p', v = .tuple #[.pointer p', .int .i64 ((tfind k t 0).2 : Int)] ∧ FoundA h0 (tfind k t 0).1 p') ∧ Own e w' (imm h0 :: F) := by
  obtain ⟨p, ho, ht⟩ := hT
  refine rank_Tree_int_int_find_go _ _ ⟨fun hc => (by cases hc), fun _ => ⟨_, h.immCell (vs := [.func (.func 75) #[] #[], .pointer p]) ho (i := 1) rfl, ?_⟩⟩
  refine ⟨fun m vs w => ∃ (t' : Tr) (a : Nat) (p' : Option Addr), vs = [.int .i64 (a : Int), .pointer p'] ∧ m = t'.size ∧ a + t'.size ≤ 700 ∧ TrA h0 t' p' ∧ tfind k t' a = tfind k t 0 ∧ Own e w (imm h0 :: F), ⟨t.size, t, 0, p, rfl, rfl, by omega, ht, rfl, h⟩, ?_⟩
  clear h
  intro m w1
  intros
  rename_i hI
  obtain ⟨t', a, q2, hvs, rfl, hb, ht', hf, h⟩ := hI
  simp at hvs
  obtain ⟨rfl, hq2⟩ := hvs
  have hq2 := hq2.symm
  subst hq2
  cases t' with
  | nil =>
    obtain rfl : q2 = none := ht'
    refine ⟨fun hc => (by cases hc), fun _ => ⟨⟨none, ?_, ?_⟩, h⟩⟩
    · rw [← hf]; rfl
    · rw [← hf]; exact rfl
  | node x xv l r =>
    obtain ⟨gn, pl, pr, rfl, hg, hl, hr⟩ := ht'
    simp only [Tr.size] at hb
    have hf : (if k = x then (some (x, xv), a + l.size) else if k < x then tfind k l a else tfind k r (a + l.size + 1)) = tfind k t 0 := hf
    refine ⟨fun _ => h.drw fun w h => smR ⟨_, _, _, h.immCell (vs := [.func (.func 75) #[] #[], .pointer p]) ho (i := 0) rfl, _, h.immCell hg (i := 0) rfl, callG.mk Tryz.func75 (by kernel_rfl) ?_⟩, fun hc => (by cases hc)⟩
    refine Rets.mono (rkOrder (x := k) (y := x) h) ?_
    clear h
    rintro _ w ⟨rfl, h⟩
    refine ⟨_, rfl, fun hc => ?_, fun hc => ⟨fun hc2 => ?_, fun hc2 => ?_⟩⟩
    · have hc := ordI_eq.1 (beq_t hc)
      rw [if_pos hc] at hf
      refine smR ⟨_, h.immCell hg (i := 2) rfl, ?_⟩
      refine Rets.mono (rkSize hl h) ?_
      clear h
      rintro _ w ⟨rfl, h⟩
      refine ⟨_, rfl, ⟨some ⟨gn, 0, none⟩, ?_, ?_⟩, h⟩
      · rw [← hf, wI64 (by omega) (by omega)]; rfl
      · rw [← hf]; exact ⟨gn, _, rfl, hg⟩
    · have hc := fun x => beq_f hc (ordI_eq.2 x)
      have hc2 := ordI_lt.1 (dec_t hc2)
      rw [if_neg hc, if_pos hc2] at hf
      exact smR ⟨_, h.immCell hg (i := 2) rfl, l.size, by simp only [Tr.size]; omega, l, a, pl, rfl, rfl, by omega, hl, hf, h⟩
    · have hc := fun x => beq_f hc (ordI_eq.2 x)
      have hc2 := fun x => dec_f hc2 (ordI_lt.2 x)
      rw [if_neg hc, if_neg hc2] at hf
      refine h.drw fun w h => ⟨fun w => Own e w (imm h0 :: F), h, smR (smR ⟨_, fun w h => h.immCell hg (i := 2) rfl, _, fun w h => h.immCell hg (i := 3) rfl, ?_⟩)⟩
      refine Rets.mono (rkSize hl h) ?_
      clear h
      rintro _ w ⟨rfl, h⟩
      refine ⟨_, rfl, h, r.size, by simp only [Tr.size]; omega, r, a + l.size + 1, pr, ?_, rfl, by omega, hr, hf, h⟩
      rw [wI64 (n := (a : Int) + (l.size : Int)) (by omega) (by omega), wI64 (by omega) (by omega)]
      rfl
theorem rkGet (hT : TreeA h0 t g) (hs : t.size ≤ 700) (h : Own e w (imm h0 :: F)) : Rets Tryz.prog 42 #[.pointer (some ⟨g, 0, none⟩), .int .u64 k] w fun v w' => v = .tuple #[.int .i64 ((tfind k t 0).1.getD (0, 0)).2, .bool (tfind k t 0).1.isSome] ∧ Own e w' (imm h0 :: F) := by
  refine rank_Tree_int_int_Get_go _ _ ?_
  refine Rets.mono (rkFind (k := k) hT hs h) ?_
  clear h
  rintro _ w ⟨⟨p', rfl, hF⟩, h⟩
  cases ho : (tfind k t 0).1 with
  | none =>
    rw [ho] at hF
    obtain rfl : p' = none := hF
    exact ⟨_, _, rfl, fun _ => ⟨rfl, h⟩, fun hc => (by cases hc)⟩
  | some x =>
    rw [ho] at hF
    obtain ⟨gx, rest, rfl, hg⟩ := hF
    exact ⟨_, _, rfl, fun hc => (by cases hc), fun _ => smR ⟨_, h.immCell hg (i := 1) rfl, rfl, h⟩⟩
theorem rkAt {i : Nat} (hT : TreeA h0 t g) (hs : t.size ≤ 700) (hi : i ≤ 9223372036854775807) (h : Own e w (imm h0 :: F)) : Rets Tryz.prog 139 #[.pointer (some ⟨g, 0, none⟩), .int .i64 (i : Int)] w fun v w' => v = .tuple #[.int .u64 ((tat t i).getD (0, 0)).1, .int .i64 ((tat t i).getD (0, 0)).2, .bool (tat t i).isSome] ∧ Own e w' (imm h0 :: F) := by
  obtain ⟨p, ho, ht⟩ := hT
  refine rank_Tree_int_int_At_go _ _ ⟨fun _ => ⟨fun hc => (by have := dec_t hc; omega), fun _ => ⟨_, h.immCell (vs := [.func (.func 75) #[] #[], .pointer p]) ho (i := 1) rfl, ?_⟩⟩, fun hc => (by cases hc)⟩
  refine ⟨fun m vs w => ∃ (t' : Tr) (j : Nat) (p' : Option Addr), vs = [.int .i64 (j : Int), .int .u64 0, .int .i64 0, .pointer p'] ∧ m = t'.size ∧ t'.size ≤ 700 ∧ j ≤ 9223372036854775807 ∧ TrA h0 t' p' ∧ tat t' j = tat t i ∧ Own e w (imm h0 :: F), ⟨t.size, t, i, p, rfl, rfl, hs, hi, ht, rfl, h⟩, ?_⟩
  clear h
  intro m w1
  intros
  rename_i hI
  obtain ⟨t', j, q2, hvs, rfl, hb, hj, ht', hf, h⟩ := hI
  simp at hvs
  obtain ⟨rfl, rfl, rfl, hq2⟩ := hvs
  have hq2 := hq2.symm
  subst hq2
  cases t' with
  | nil =>
    obtain rfl : q2 = none := ht'
    refine ⟨fun hc => (by cases hc), fun _ => ⟨?_, h⟩⟩
    rw [← hf]; rfl
  | node x xv l r =>
    obtain ⟨gn, pl, pr, rfl, hg, hl, hr⟩ := ht'
    simp only [Tr.size] at hb
    have hf : (if j < l.size then tat l j else if j > l.size then tat r (j - l.size - 1) else some (x, xv)) = tat t i := hf
    refine ⟨fun _ => smR ⟨_, h.immCell hg (i := 2) rfl, ?_⟩, fun hc => (by cases hc)⟩
    refine Rets.mono (rkSize hl h) ?_
    clear h
    rintro _ w ⟨rfl, h⟩
    refine ⟨_, rfl, fun hc => ?_, fun hc => ⟨fun hc2 => ?_, fun hc2 => ?_⟩⟩
    · have hc := dec_t hc
      rw [if_pos (by omega)] at hf
      exact smR ⟨_, h.immCell hg (i := 2) rfl, l.size, by simp only [Tr.size]; omega, l, j, pl, rfl, rfl, by omega, hj, hl, hf, h⟩
    · have hc := dec_f hc
      have hc2 := dec_t hc2
      rw [if_neg (by omega), if_pos (by omega)] at hf
      refine h.drw fun w h => smR ⟨_, h.immCell hg (i := 3) rfl, r.size, by simp only [Tr.size]; omega, r, j - l.size - 1, pr, ?_, rfl, by omega, by omega, hr, hf, h⟩
      rw [wI64 (n := (j : Int) - (l.size : Int)) (by omega) (by omega), wI64 (by omega) (by omega)]
      congr 2; omega
    · have hc := dec_f hc
      have hc2 := dec_f hc2
      rw [if_neg (by omega), if_neg (by omega)] at hf
      refine h.drw fun w h => smR (smR ⟨_, h.immCell hg (i := 0) rfl, _, h.immCell hg (i := 1) rfl, ?_, h⟩)
      rw [← hf]; rfl
end
def lfind (k : Int) (l : LE2) : Option (Int × Int) := l.find? (fun e => decide (e.1 = k))
theorem lfind_no {k : Int} {l : LE2} (h : ∀ e ∈ l, e.1 ≠ k) : lfind k l = none := List.find?_eq_none.2 fun e he => by simpa using h e he
theorem lfind_app {k : Int} {l m : LE2} (h : ∀ e ∈ l, e.1 ≠ k) : lfind k (l ++ m) = lfind k m := by
  unfold lfind
  rw [List.find?_append]
  rw [show l.find? (fun e => decide (e.1 = k)) = none from lfind_no h]; rfl
theorem lfind_cons {k v : Int} {m : LE2} : lfind k ((k, v) :: m) = some (k, v) := by
  unfold lfind
  rw [List.find?_cons_of_pos]; simp
theorem lfind_app_no {k : Int} {l m : LE2} (h : ∀ e ∈ m, e.1 ≠ k) : lfind k (l ++ m) = lfind k l := by
  unfold lfind
  rw [List.find?_append]
  rw [show m.find? (fun e => decide (e.1 = k)) = none from lfind_no h]; simp
theorem lfind_ne {k x xv : Int} {m : LE2} (h : x ≠ k) : lfind k ((x, xv) :: m) = lfind k m := by
  unfold lfind
  rw [List.find?_cons_of_neg]; simpa using h
theorem lrank_app (k : Int) (l m : LE2) : lrank k (l ++ m) = lrank k l + lrank k m := by unfold lrank; rw [List.filter_append, List.length_append]
theorem lrank_all {k : Int} {l : LE2} (h : ∀ e ∈ l, e.1 < k) : lrank k l = l.length := by unfold lrank; rw [fl_all (fun e he => by simpa using h e he)]
theorem lrank_no {k : Int} {l : LE2} (h : ∀ e ∈ l, k ≤ e.1) : lrank k l = 0 := by unfold lrank; rw [fl_no (fun e he => by have := h e he; simp; omega)]; rfl
theorem lrank_cons (k x xv : Int) (m : LE2) : lrank k ((x, xv) :: m) = (if x < k then 1 else 0) + lrank k m := by
  unfold lrank
  rw [List.filter_cons]
  by_cases h : x < k
  · rw [if_pos (by simpa using h), if_pos h, List.length_cons]; omega
  · rw [if_neg (by simpa using h), if_neg h]; omega
theorem tfind_eq (k : Int) : ∀ (t : Tr) (a : Nat), Srt t.toL → tfind k t a = (lfind k t.toL, a + lrank k t.toL)
  | .nil, a, _ => rfl
  | .node x xv l r, a, h => by
    obtain ⟨h1, h2, h3, h4⟩ := Srt.split h
    unfold tfind
    simp only [Tr.toL]
    split
    · rename_i hk
      subst hk
      rw [lfind_app (fun e he => by have := h3 e he; omega), lfind_cons, lrank_app, lrank_all h3, lrank_cons, if_neg (by omega), lrank_no (l := r.toL) (fun e he => by have := h4 e he; omega), Tr.size_toL]
      rfl
    · rename_i hk
      split
      · rename_i hk2
        rw [tfind_eq k l a h1, lfind_app_no, lrank_app, lrank_no (l := (x, xv) :: r.toL)]
        · rfl
        · intro e he
          rcases List.mem_cons.1 he with rfl | he
          · show k ≤ x; omega
          · have := h4 e he; omega
        · intro e he
          rcases List.mem_cons.1 he with rfl | he
          · show x ≠ k; omega
          · have := h4 e he; omega
      · rw [tfind_eq k r _ h2, lfind_app (fun e he => by have := h3 e he; omega), lfind_ne (by omega), lrank_app, lrank_all (l := l.toL) (fun e he => by have := h3 e he; omega), lrank_cons, if_pos (by omega), Tr.size_toL]
        congr 1; omega
theorem tat_eq : ∀ (t : Tr) (i : Nat), tat t i = t.toL[i]?
  | .nil, i => rfl
  | .node x xv l r, i => by
    unfold tat
    simp only [Tr.toL]
    have hl := Tr.size_toL l
    split
    · rw [tat_eq l i, List.getElem?_append_left (by omega)]
    · split
      · rw [tat_eq r, List.getElem?_append_right (by omega), hl]
        have : i - l.size = (i - l.size - 1) + 1 := by omega
        conv => rhs; rw [this]
        rw [List.getElem?_cons_succ]
      · rw [List.getElem?_append_right (by omega), hl, show i - l.size = 0 by omega]; rfl
theorem at_cut {l : LE2} {i : Nat} (hi : i < l.length) : l = l.take i ++ l[i] :: l.drop (i + 1) := by rw [List.getElem_cons_drop, List.take_append_drop]
/-! ### The document's steps -/
def pdone (k : Int) (l : LE2) : Bool := l.any (fun e => decide (k ≤ e.1))
def pout (k v : Int) (l : LE2) : LE2 := if pdone k l = true then lput k v l else l
theorem pdone_snoc (k : Int) (l : LE2) (e : Int × Int) : pdone k (l ++ [e]) = (pdone k l || decide (k ≤ e.1)) := by simp [pdone]
theorem pdone_no {k : Int} {l : LE2} (h : pdone k l = false) : ∀ e ∈ l, e.1 < k := fun e he => by
  have := (List.any_eq_false.1 h) e he
  simp at this; omega
theorem lput_lt {k v : Int} {l : LE2} (h : ∀ e ∈ l, e.1 < k) : lput k v l = l ++ [(k, v)] := by
  unfold lput
  rw [fl_all (fun e he => by simpa using h e he), fl_no (fun e he => by have := h e he; simp; omega)]
theorem pout_A {k v : Int} {l : LE2} {e : Int × Int} (hs : Srt (l ++ [e])) (hd : pdone k l = true) : k < e.1 ∧ pdone k (l ++ [e]) = true ∧ pout k v (l ++ [e]) = pout k v l ++ [e] := by
  obtain ⟨x, hx, hx2⟩ := List.any_eq_true.1 hd
  have h1 := (List.pairwise_append.1 hs).2.2 x hx e (by simp)
  have hx2 : k ≤ x.1 := by simpa using hx2
  have hk : k < e.1 := by omega
  have hd2 : pdone k (l ++ [e]) = true := by rw [pdone_snoc, hd]; rfl
  refine ⟨hk, hd2, ?_⟩
  unfold pout
  rw [if_pos hd2, if_pos hd]
  unfold lput
  rw [List.filter_append, List.filter_append, fl_no (l := [e]) (fun a ha => by rw [List.mem_singleton.1 ha]; simp; omega), fl_all (l := [e]) (p := fun e => decide (k < e.1)) (fun a ha => by rw [List.mem_singleton.1 ha]; simp; omega)]
  simp
theorem pout_B {k v : Int} {l : LE2} {e : Int × Int} (hd : pdone k l = false) (hk : k ≤ e.1) : pdone k (l ++ [e]) = true ∧ pout k v l = l ∧ pout k v (l ++ [e]) = (l ++ [(k, v)]) ++ (if e.1 = k then [] else [e]) := by
  have hd2 : pdone k (l ++ [e]) = true := by rw [pdone_snoc, hd]; simp; omega
  refine ⟨hd2, if_neg (by rw [hd]; simp), ?_⟩
  have hl := pdone_no hd
  unfold pout
  rw [if_pos hd2]
  unfold lput
  rw [List.filter_append, List.filter_append, fl_no (l := [e]) (p := fun e => decide (e.1 < k)) (fun a ha => by rw [List.mem_singleton.1 ha]; simp; omega), fl_all (l := l) (p := fun e => decide (e.1 < k)) (fun a ha => by simpa using hl a ha), fl_no (l := l) (p := fun e => decide (k < e.1)) (fun a ha => by have := hl a ha; simp; omega)]
  by_cases h : e.1 = k
  · rw [if_pos h, fl_no (l := [e]) (fun a ha => by rw [List.mem_singleton.1 ha]; simp; omega)]; simp
  · rw [if_neg h, fl_all (l := [e]) (fun a ha => by rw [List.mem_singleton.1 ha]; simp; omega)]; simp
theorem pout_C {k v : Int} {l : LE2} {e : Int × Int} (hd : pdone k l = false) (hk : e.1 < k) : pdone k (l ++ [e]) = false ∧ pout k v l = l ∧ pout k v (l ++ [e]) = l ++ [e] := by
  have hd2 : pdone k (l ++ [e]) = false := by rw [pdone_snoc, hd]; simp; omega
  exact ⟨hd2, if_neg (by rw [hd]; simp), if_neg (by rw [hd2]; simp)⟩
theorem pout_end {k v : Int} {l : LE2} : (pdone k l = true → pout k v l = lput k v l) ∧ (pdone k l = false → pout k v l ++ [(k, v)] = lput k v l) := by
  refine ⟨fun h => if_pos h, fun h => ?_⟩
  have : pout k v l = l := if_neg (by rw [h]; simp)
  rw [this, lput_lt (pdone_no h)]
theorem fl_two (k : Int) : ∀ l : LE2, (l.filter (fun e => decide (e.1 < k))).length + (l.filter (fun e => decide (k < e.1))).length ≤ l.length
  | [] => by simp
  | x :: r => by
    have ih := fl_two k r
    simp only [List.filter_cons, List.length_cons]
    split
    · rename_i h1
      have h1 : x.1 < k := by simpa using h1
      rw [if_neg (by simp; omega), List.length_cons]; omega
    · split
      · rw [List.length_cons]; omega
      · omega
theorem pout_len (k v : Int) (l : LE2) : (pout k v l).length ≤ l.length + 1 := by
  unfold pout
  split
  · unfold lput
    rw [List.length_append, List.length_cons]
    have h1 := fl_two k l
    omega
  · omega
theorem ldrop_snoc (k : Int) (l : LE2) (e : Int × Int) : ldrop k (l ++ [e]) = ldrop k l ++ (if e.1 = k then [] else [e]) := by
  unfold ldrop
  rw [List.filter_append]
  by_cases h : e.1 = k
  · rw [if_pos h, fl_no (l := [e]) (fun a ha => by rw [List.mem_singleton.1 ha]; simpa using h)]
  · rw [if_neg h, fl_all (l := [e]) (fun a ha => by rw [List.mem_singleton.1 ha]; simpa using h)]
theorem ldrop_len (k : Int) (l : LE2) : (ldrop k l).length ≤ l.length := List.length_filter_le _ _
theorem Srt.take {l : LE2} (h : Srt l) (i : Nat) : Srt (l.take i) := List.Pairwise.sublist (List.take_sublist _ _) h
def sumV : LE2 → Int
  | [] => 0
  | e :: l => e.2 + sumV l
theorem sumV_app (l m : LE2) : sumV (l ++ m) = sumV l + sumV m := by
  induction l with
  | nil => simp [sumV]
  | cons e l ih => simp only [List.cons_append, sumV, ih]; omega
theorem sumV_nn {l : LE2} (h : ∀ e ∈ l, 0 ≤ e.2) : 0 ≤ sumV l := by
  induction l with
  | nil => exact Int.le_refl _
  | cons e l ih =>
    have h1 := h e (by simp)
    have h2 := ih fun x hx => h x (by simp [hx])
    simp only [sumV]; omega
theorem sumV_parts (k : Int) (l : LE2) : sumV (l.filter (fun e => decide (e.1 < k))) + sumV (l.filter (fun e => decide (k < e.1))) = sumV (ldrop k l) := by
  unfold ldrop
  induction l with
  | nil => rfl
  | cons e l ih =>
    obtain ⟨a, b⟩ := e
    simp only [ne_eq] at ih ⊢
    by_cases h1 : a < k
    · have h2 : ¬ k < a := by omega
      have h3 : a ≠ k := by omega
      simp only [List.filter_cons, h1, h2, h3, decide_true, decide_false, ne_eq, not_false_eq_true, if_true, Bool.false_eq_true, if_false, sumV]; omega
    · by_cases h2 : k < a
      · have h3 : a ≠ k := by omega
        simp only [List.filter_cons, h1, h2, h3, decide_true, decide_false, ne_eq, not_false_eq_true, if_true, Bool.false_eq_true, if_false, sumV]; omega
      · have h3 : a = k := by omega
        simp only [List.filter_cons, h1, h2, h3, decide_true, decide_false, ne_eq, not_true_eq_false, if_true, Bool.false_eq_true, if_false]; simpa [h3] using ih
theorem sumV_lput (k v : Int) (l : LE2) : sumV (lput k v l) = sumV (ldrop k l) + v := by
  unfold lput
  rw [sumV_app, ← sumV_parts]
  simp only [sumV]; omega
theorem ldrop_no {k : Int} {l : LE2} (h : ∀ e ∈ l, e.1 ≠ k) : ldrop k l = l := fl_all fun e he => by simpa using h e he
def lval (k : Int) (l : LE2) : Int := ((lfind k l).getD (0, 0)).2
theorem sumV_ldrop {k : Int} {l : LE2} (h : Srt l) : sumV (ldrop k l) = sumV l - lval k l := by
  induction l with
  | nil => rfl
  | cons e l ih =>
    obtain ⟨a, b⟩ := e
    have h2 : Srt l := (List.pairwise_cons.1 h).2
    have hgt : ∀ e ∈ l, a < e.1 := (List.pairwise_cons.1 h).1
    by_cases hx : a = k
    · subst hx
      have e1 : ldrop a ((a, b) :: l) = l := by
        have := ldrop_no (k := a) (l := l) fun e he => by have := hgt e he; omega
        unfold ldrop at this ⊢
        rw [List.filter_cons, if_neg (by simp), this]
      rw [e1]; unfold lval; rw [lfind_cons]; simp only [sumV, Option.getD_some]; omega
    · have e1 : ldrop k ((a, b) :: l) = (a, b) :: ldrop k l := by unfold ldrop; rw [List.filter_cons, if_pos (by simpa using hx)]
      have e2 : lval k ((a, b) :: l) = lval k l := by unfold lval; rw [lfind_ne hx]
      rw [e1, e2]; simp only [sumV, ih h2]; omega
theorem lfind_in {k : Int} {l : LE2} {e : Int × Int} (h : lfind k l = some e) : e ∈ l ∧ e.1 = k := by
  unfold lfind at h
  exact ⟨List.mem_of_find?_eq_some h, by simpa using List.find?_some h⟩
theorem lval_bd {k : Int} {l : LE2} (hS : Srt l) (h : ∀ e ∈ l, 0 ≤ e.2) : 0 ≤ lval k l ∧ lval k l ≤ sumV l := by
  have h1 := sumV_ldrop (k := k) hS
  have h2 : 0 ≤ sumV (ldrop k l) := sumV_nn fun e he => h e (List.mem_filter.1 he).1
  refine ⟨?_, by omega⟩
  unfold lval
  cases hf : lfind k l with
  | none => exact Int.le_refl _
  | some e => exact h e (lfind_in hf).1
theorem nn_lput {k v : Int} {l : LE2} (hv : 0 ≤ v) (h : ∀ e ∈ l, 0 ≤ e.2) : ∀ e ∈ lput k v l, 0 ≤ e.2 := fun e he => by
  unfold lput at he
  rcases List.mem_append.1 he with he | he
  · exact h e (List.mem_filter.1 he).1
  · rcases List.mem_cons.1 he with rfl | he
    · exact hv
    · exact h e (List.mem_filter.1 he).1
theorem nn_ldrop {k : Int} {l : LE2} (h : ∀ e ∈ l, 0 ≤ e.2) : ∀ e ∈ ldrop k l, 0 ≤ e.2 := fun e he => h e (List.mem_filter.1 he).1
/-- What a ledger knows. -/
structure Lg where
  t : Tr
  used : Int
  most : Int
def LgOk (s : Lg) : Prop := Srt s.t.toL ∧ sumV s.t.toL = s.used ∧ (∀ e ∈ s.t.toL, 0 ≤ e.2) ∧ s.used ≤ s.most ∧ s.most ≤ 4611686018427387904
theorem LgOk.nn {s : Lg} (h : LgOk s) : 0 ≤ s.used := by rw [← h.2.1]; exact sumV_nn h.2.2.1
theorem LgOk.val {s : Lg} (h : LgOk s) (k : Int) : 0 ≤ lval k s.t.toL ∧ lval k s.t.toL ≤ s.used := by
  have := lval_bd (k := k) h.1 h.2.2.1
  rwa [h.2.1] at this
def lgAdd (k n : Int) (s : Lg) : Lg × Bool := if (lfind k s.t.toL).isSome = true then (s, false) else if 0 ≤ n ∧ s.used + n ≤ s.most then (⟨tput k n s.t, s.used + n, s.most⟩, true) else (s, false)
def lgMove (k n : Int) (s : Lg) : Lg × Bool := if (lfind k s.t.toL).isSome = true then (if 0 ≤ n ∧ s.used - lval k s.t.toL + n ≤ s.most then (⟨tput k n s.t, s.used - lval k s.t.toL + n, s.most⟩, true) else (s, false)) else (s, false)
def lgDrop (k : Int) (s : Lg) : Lg := if (lfind k s.t.toL).isSome = true then ⟨tdrop k s.t, s.used - lval k s.t.toL, s.most⟩ else s
def lgLimit (n : Int) (s : Lg) : Lg × Bool := if 0 ≤ n ∧ n ≤ 4611686018427387904 ∧ s.used ≤ n then (⟨s.t, s.used, n⟩, true) else (s, false)
def lgClear (s : Lg) : Lg := ⟨.nil, 0, s.most⟩
theorem lval_no {k : Int} {l : LE2} (h : ¬ (lfind k l).isSome = true) : lval k l = 0 := by
  unfold lval
  cases hf : lfind k l with
  | none => rfl
  | some e => rw [hf] at h; exact absurd rfl h
theorem LgOk.put {s : Lg} {k n : Int} (h : LgOk s) (hn : 0 ≤ n ∧ s.used - lval k s.t.toL + n ≤ s.most) : LgOk ⟨tput k n s.t, s.used - lval k s.t.toL + n, s.most⟩ := by
  obtain ⟨h1, h2, h3, h4, h5⟩ := h
  refine ⟨?_, ?_, ?_, hn.2, h5⟩
  · rw [tput_toL k n s.t h1]; exact lput_srt h1
  · rw [tput_toL k n s.t h1, sumV_lput, sumV_ldrop h1, h2]
  · rw [tput_toL k n s.t h1]; exact nn_lput hn.1 h3
theorem LgOk.add {s : Lg} {k n : Int} (h : LgOk s) : LgOk (lgAdd k n s).1 := by
  unfold lgAdd
  split
  · exact h
  · rename_i hf
    split
    · rename_i hn
      have := h.put (k := k) (n := n) (by rw [lval_no hf]; exact ⟨hn.1, by omega⟩)
      rw [lval_no hf] at this
      rwa [show s.used + n = s.used - 0 + n by omega]
    · exact h
theorem LgOk.move {s : Lg} {k n : Int} (h : LgOk s) : LgOk (lgMove k n s).1 := by
  unfold lgMove
  split
  · split
    · rename_i hn; exact h.put hn
    · exact h
  · exact h
theorem LgOk.drop {s : Lg} {k : Int} (h : LgOk s) : LgOk (lgDrop k s) := by
  unfold lgDrop
  split
  · have hv := h.val k
    obtain ⟨h1, h2, h3, h4, h5⟩ := h
    refine ⟨?_, ?_, ?_, ?_, h5⟩
    · show Srt (tdrop k s.t).toL
      rw [tdrop_toL k s.t h1]; exact ldrop_srt h1
    · show sumV (tdrop k s.t).toL = s.used - lval k s.t.toL
      rw [tdrop_toL k s.t h1, sumV_ldrop h1, h2]
    · show ∀ e ∈ (tdrop k s.t).toL, 0 ≤ e.2
      rw [tdrop_toL k s.t h1]; exact nn_ldrop h3
    · show s.used - lval k s.t.toL ≤ s.most
      omega
  · exact h
theorem LgOk.limit {s : Lg} {n : Int} (h : LgOk s) : LgOk (lgLimit n s).1 := by
  unfold lgLimit
  split
  · rename_i hn; exact ⟨h.1, h.2.1, h.2.2.1, hn.2.2, hn.2.1⟩
  · exact h
theorem LgOk.nil {most : Int} (h : 0 ≤ most ∧ most ≤ 4611686018427387904) : LgOk ⟨.nil, 0, most⟩ := ⟨List.Pairwise.nil, rfl, fun e he => (by cases he), h.1, h.2⟩
theorem LgOk.clear {s : Lg} (h : LgOk s) : LgOk (lgClear s) := LgOk.nil ⟨by have := h.nn; have := h.2.2.2.1; omega, h.2.2.2.2⟩
theorem lgAdd_size (k n : Int) (s : Lg) : (lgAdd k n s).1.t.size ≤ s.t.size + 1 := by
  have := size_put k n s.t
  unfold lgAdd; split
  · exact Nat.le_succ _
  · split
    · exact this
    · exact Nat.le_succ _
theorem lgDrop_size (k : Int) (s : Lg) : (lgDrop k s).t.size ≤ s.t.size + 1 := by
  have := size_drop k s.t
  unfold lgDrop; split
  · show (tdrop k s.t).size ≤ s.t.size + 1; omega
  · exact Nat.le_succ _
abbrev ldB (g gt : Nat) (used most : Int) : HP := blk g 97 [.pointer (some ⟨gt, 0, none⟩), .int .i64 used, .int .i64 most]
/-- A ledger stands there. -/
def LD (e : World) (F : List HP) (h0 : Nat → Option Obj) (g : Nat) (s : Lg) (w : World) : Prop := ∃ h1 gt, LeH h0 h1 ∧ TreeA h1 s.t gt ∧ Own e w (imm h1 :: ldB g gt s.used s.most :: F)
def rightB (n : Int) : Bool := decide (0 ≤ n ∧ n ≤ 4611686018427387904)
theorem rightB_t {n : Int} : rightB n = true ↔ 0 ≤ n ∧ n ≤ 4611686018427387904 := by unfold rightB; exact decide_eq_true_iff
theorem rightB_f {n : Int} : rightB n = false ↔ ¬ (0 ≤ n ∧ n ≤ 4611686018427387904) := by unfold rightB; exact decide_eq_false_iff_not
section
variable {e w : World} {F : List HP} {h0 : Nat → Option Obj} {n a b c used most k : Int} {g gt : Nat} {t : Tr} {s : Lg}
theorem cRight (h : Own e w F) : Rets Tryz.prog 43 #[.int .i64 n] w fun v w' => v = .bool (rightB n) ∧ Own e w' F := by
  refine cost_Right_go _ ⟨fun hc => ⟨?_, h⟩, fun hc => ⟨?_, h⟩⟩
  · have hc := dec_t hc
    have : rightB n = decide (n ≤ 4611686018427387904) := by unfold rightB; rw [decide_eq_decide]; omega
    rw [this]
  · have hc := dec_f hc
    have : rightB n = false := rightB_f.2 (by omega)
    rw [this]
theorem rRight (h : Own e w F) : Rets Tryz.prog 52 #[.int .i64 n] w fun v w' => v = .bool (rightB n) ∧ Own e w' F := by
  refine cortadoref02_Right_go _ ⟨fun hc => ⟨?_, h⟩, fun hc => ⟨?_, h⟩⟩
  · have hc := dec_t hc
    have : rightB n = decide (n ≤ 4611686018427387904) := by unfold rightB; rw [decide_eq_decide]; omega
    rw [this]
  · have hc := dec_f hc
    have : rightB n = false := rightB_f.2 (by omega)
    rw [this]
def cutI (n : Int) : Int := maxI 0 (minI n 4611686018427387904)
theorem cutI_bd (n : Int) : 0 ≤ cutI n ∧ cutI n ≤ 4611686018427387904 := by unfold cutI maxI minI; split <;> split <;> omega
theorem cCut (h : Own e w F) : Rets Tryz.prog 49 #[.int .i64 n] w fun v w' => v = .int .i64 (cutI n) ∧ Own e w' F := cost_Cut_go _ ⟨rfl, h⟩
theorem rCut (h : Own e w F) : Rets Tryz.prog 24 #[.int .i64 n] w fun v w' => v = .int .i64 (cutI n) ∧ Own e w' F := by
  refine cortadoref02_Cut_go _ ⟨fun hc => ⟨?_, h⟩, fun hc => ?_⟩
  · have hc := dec_t hc
    have : cutI n = 0 := by unfold cutI maxI minI; split <;> split <;> omega
    rw [this]
  · have hc := dec_f hc
    refine Rets.mono (rRight h) ?_
    clear h
    rintro _ w ⟨rfl, h⟩
    refine ⟨_, rfl, fun hb => ⟨?_, h⟩, fun hb => ⟨?_, h⟩⟩
    · have hb := rightB_f.1 (by simpa using hb)
      have : cutI n = 4611686018427387904 := by unfold cutI maxI minI; split <;> split <;> omega
      rw [this]
    · have hb := rightB_t.1 (by simpa using hb)
      have : cutI n = n := by unfold cutI maxI minI; split <;> split <;> omega
      rw [this]
theorem cRoom (h : Own e w F) : Rets Tryz.prog 95 #[.int .i64 a, .int .i64 b] w fun v w' => v = .tuple #[.int .i64 (if 0 ≤ b ∧ b ≤ a ∧ a ≤ 4611686018427387904 then a - b else 0), .bool (decide (0 ≤ b ∧ b ≤ a ∧ a ≤ 4611686018427387904))] ∧ Own e w' F := by
  refine cost_Room_go _ _ ?_
  refine Rets.mono (cRight h) ?_
  clear h
  rintro _ w ⟨rfl, h⟩
  have no : ¬ (0 ≤ b ∧ b ≤ a ∧ a ≤ 4611686018427387904) → ∀ w, Own e w F → (Value.tuple #[.int .i64 0, .bool false] = .tuple #[.int .i64 (if 0 ≤ b ∧ b ≤ a ∧ a ≤ 4611686018427387904 then a - b else 0), .bool (decide (0 ≤ b ∧ b ≤ a ∧ a ≤ 4611686018427387904))] ∧ Own e w F) := fun hn w h => by
    rw [if_neg hn, decide_eq_false hn]; exact ⟨rfl, h⟩
  refine ⟨_, rfl, fun ha => ?_, fun ha => ?_⟩
  · have ha := rightB_t.1 (by simpa using ha)
    refine Rets.mono (cRight h) ?_
    clear h
    rintro _ w ⟨rfl, h⟩
    refine ⟨_, rfl, fun hb => ⟨fun hc => ?_, fun hc => ?_⟩, fun hb => ?_⟩
    · have hc := dec_t hc
      exact no (by omega) w h
    · have hc := dec_f hc
      have hb := rightB_t.1 (by simpa using hb)
      have hy : 0 ≤ b ∧ b ≤ a ∧ a ≤ 4611686018427387904 := by omega
      rw [if_pos hy, decide_eq_true hy, wI64 (by omega) (by omega)]; exact ⟨rfl, h⟩
    · have hb := rightB_f.1 (by simpa using hb)
      exact no (by omega) w h
  · have ha := rightB_f.1 (by simpa using ha)
    exact no (by omega) w h
theorem cAdd (h : Own e w F) : Rets Tryz.prog 119 #[.int .i64 a, .int .i64 b] w fun v w' => v = .tuple #[.int .i64 (if 0 ≤ a ∧ 0 ≤ b ∧ a + b ≤ 4611686018427387904 then a + b else 0), .bool (decide (0 ≤ a ∧ 0 ≤ b ∧ a + b ≤ 4611686018427387904))] ∧ Own e w' F := by
  refine cost_Add_go _ _ ?_
  refine Rets.mono (cRight h) ?_
  clear h
  rintro _ w ⟨rfl, h⟩
  have no : ¬ (0 ≤ a ∧ 0 ≤ b ∧ a + b ≤ 4611686018427387904) → ∀ w, Own e w F → (Value.tuple #[.int .i64 0, .bool false] = .tuple #[.int .i64 (if 0 ≤ a ∧ 0 ≤ b ∧ a + b ≤ 4611686018427387904 then a + b else 0), .bool (decide (0 ≤ a ∧ 0 ≤ b ∧ a + b ≤ 4611686018427387904))] ∧ Own e w F) := fun hn w h => by
    rw [if_neg hn, decide_eq_false hn]; exact ⟨rfl, h⟩
  refine ⟨_, rfl, fun ha => ?_, fun ha => ?_⟩
  · have ha := rightB_t.1 (by simpa using ha)
    refine Rets.mono (cRight h) ?_
    clear h
    rintro _ w ⟨rfl, h⟩
    refine ⟨_, rfl, fun hb => ?_, fun hb => ?_⟩
    · have hb := rightB_t.1 (by simpa using hb)
      rw [wI64 (n := 4611686018427387904 - b) (by omega) (by omega)]
      refine ⟨fun hc => ?_, fun hc => ?_⟩
      · have hc := dec_t hc
        exact no (by omega) w h
      · have hc := dec_f hc
        have hy : 0 ≤ a ∧ 0 ≤ b ∧ a + b ≤ 4611686018427387904 := by omega
        rw [if_pos hy, decide_eq_true hy, wI64 (by omega) (by omega)]; exact ⟨rfl, h⟩
    · have hb := rightB_f.1 (by simpa using hb)
      exact no (by omega) w h
  · have ha := rightB_f.1 (by simpa using ha)
    exact no (by omega) w h
theorem cMove (h : Own e w F) (hu : 0 ≤ a ∧ a ≤ used ∧ used ≤ 4611686018427387904) : Rets Tryz.prog 96 #[.int .i64 used, .int .i64 a, .int .i64 b] w fun v w' => v = .tuple #[.int .i64 (if 0 ≤ used - a ∧ 0 ≤ b ∧ used - a + b ≤ 4611686018427387904 then used - a + b else 0), .bool (decide (0 ≤ used - a ∧ 0 ≤ b ∧ used - a + b ≤ 4611686018427387904))] ∧ Own e w' F := by
  refine cost_Move_go _ _ _ ?_
  refine Rets.mono (cRoom h) ?_
  clear h
  rintro _ w ⟨rfl, h⟩
  rw [if_pos hu, decide_eq_true hu]
  refine ⟨_, _, rfl, fun hb => (by cases hb), fun _ => ?_⟩
  refine Rets.mono (cAdd h) ?_
  clear h
  rintro _ w ⟨rfl, h⟩
  exact ⟨_, _, rfl, rfl, h⟩
theorem ldSpend (h : Own e w (ldB g gt used most :: F)) (hu : 0 ≤ a ∧ a ≤ used ∧ used ≤ most ∧ most ≤ 4611686018427387904) : Rets Tryz.prog 69 #[.pointer (some ⟨g, 0, none⟩), .int .i64 a, .int .i64 b] w fun v w' =>
    (v = .bool true ∧ (0 ≤ b ∧ used - a + b ≤ most) ∧ Own e w' (ldB g gt (used - a + b) most :: F)) ∨ (v = .bool false ∧ ¬ (0 ≤ b ∧ used - a + b ≤ most) ∧ Own e w' (ldB g gt used most :: F)) := by
  refine ledger_Ledger_spend_go _ _ _ ⟨_, Own.ld (g := g) (k := 1) h (by repeat (first | with_reducible exact Pick.here | apply Pick.there)) rfl, ?_⟩
  refine Rets.mono (cMove h (by omega)) ?_
  clear h
  rintro _ w ⟨rfl, h⟩
  by_cases hy : 0 ≤ used - a ∧ 0 ≤ b ∧ used - a + b ≤ 4611686018427387904
  · rw [if_pos hy, decide_eq_true hy]
    refine ⟨_, _, rfl, fun _ => ⟨_, Own.ld (g := g) (k := 2) h (by repeat (first | with_reducible exact Pick.here | apply Pick.there)) rfl, fun hc => ?_, fun hc => ?_⟩, fun hb => (by cases hb)⟩
    · have hc := dec_t hc
      exact .inr ⟨rfl, by omega, h⟩
    · have hc := dec_f hc
      refine Own.stP (g := g) (k := 1) h (by repeat (first | with_reducible exact Pick.here | apply Pick.there)) (by simp) (by simp [Value.oneCell']) fun w h => .inl ⟨rfl, by omega, ?_⟩
      simp only [setFrom, List.set_cons_zero, List.set_cons_succ, List.set_nil] at h
      exact h
  · rw [if_neg hy, decide_eq_false hy]
    exact ⟨_, _, rfl, fun hb => (by cases hb), fun _ => .inr ⟨rfl, by omega, h⟩⟩
theorem ldNone (h : Own e w (imm h0 :: F)) : Rets Tryz.prog 48 #[] w (RR e F h0 .nil) := by
  refine ledger_none_go ?_
  refine Rets.mono (rkNew h) ?_
  rintro _ w ⟨h1, gu, rfl, le1, hU, h⟩
  exact ⟨_, rfl, h1, gu, rfl, le1, hU, h⟩
theorem ldNew (h : Own e w (imm h0 :: F)) : Rets Tryz.prog 22 #[.int .i64 n] w fun v w' => ∃ g, v = .pointer (some ⟨g, 0, none⟩) ∧ LD e F h0 g ⟨.nil, 0, cutI n⟩ w' := by
  refine ledger_New_go _ ?_
  refine Rets.mono (ldNone h) ?_
  clear h
  rintro _ w ⟨h1, gu, rfl, le1, hU, h⟩
  refine ⟨_, rfl, ?_⟩
  refine Rets.mono (cCut h) ?_
  clear h
  rintro _ w ⟨rfl, h⟩
  exact ⟨_, rfl, h.newR fun g w h => ⟨g, rfl, h1, gu, le1, hU, h.swap⟩⟩
theorem ldCost (hT : TreeA h0 t gt) (hs : t.size ≤ 700) (hS : Srt t.toL) (h : Own e w (imm h0 :: ldB g gt used most :: F)) : Rets Tryz.prog 18 #[.pointer (some ⟨g, 0, none⟩), .int .u64 k] w fun v w' => v = .tuple #[.int .i64 (lval k t.toL), .bool (lfind k t.toL).isSome] ∧ Own e w' (imm h0 :: ldB g gt used most :: F) := by
  refine ledger_Ledger_Cost_go _ _ ⟨fun hc => (by cases hc), fun _ => ⟨_, Own.ld (g := g) (k := 0) h (by repeat (first | with_reducible exact Pick.here | apply Pick.there)) rfl, ?_⟩⟩
  have hg := rkGet (k := k) hT hs h
  rw [tfind_eq k t 0 hS] at hg
  refine Rets.mono hg ?_
  rintro _ w ⟨rfl, h⟩
  exact ⟨_, _, rfl, rfl, h⟩
theorem ldUsed (h : Own e w (imm h0 :: ldB g gt used most :: F)) : Rets Tryz.prog 14 #[.pointer (some ⟨g, 0, none⟩)] w fun v w' => v = .int .i64 used ∧ Own e w' (imm h0 :: ldB g gt used most :: F) :=
  ledger_Ledger_Used_go _ ⟨fun hc => (by cases hc), fun _ => ⟨_, Own.ld (g := g) (k := 1) h (by repeat (first | with_reducible exact Pick.here | apply Pick.there)) rfl, rfl, h⟩⟩
theorem ldMost (h : Own e w (imm h0 :: ldB g gt used most :: F)) : Rets Tryz.prog 16 #[.pointer (some ⟨g, 0, none⟩)] w fun v w' => v = .int .i64 most ∧ Own e w' (imm h0 :: ldB g gt used most :: F) :=
  ledger_Ledger_Most_go _ ⟨fun hc => (by cases hc), fun _ => ⟨_, Own.ld (g := g) (k := 2) h (by repeat (first | with_reducible exact Pick.here | apply Pick.there)) rfl, rfl, h⟩⟩
theorem ldLen (hT : TreeA h0 t gt) (h : Own e w (imm h0 :: ldB g gt used most :: F)) : Rets Tryz.prog 17 #[.pointer (some ⟨g, 0, none⟩)] w fun v w' => v = .int .i64 (t.size : Int) ∧ Own e w' (imm h0 :: ldB g gt used most :: F) := by
  refine ledger_Ledger_Len_go _ ⟨fun hc => (by cases hc), fun _ => ⟨_, Own.ld (g := g) (k := 0) h (by repeat (first | with_reducible exact Pick.here | apply Pick.there)) rfl, ?_⟩⟩
  refine Rets.mono (rkLen hT h) ?_
  rintro _ w ⟨rfl, h⟩
  exact ⟨_, rfl, rfl, h⟩
theorem ldAt {i : Nat} (hT : TreeA h0 t gt) (hs : t.size ≤ 700) (hi : i ≤ 9223372036854775807) (h : Own e w (imm h0 :: ldB g gt used most :: F)) : Rets Tryz.prog 129 #[.pointer (some ⟨g, 0, none⟩), .int .i64 (i : Int)] w fun v w' => v = .tuple #[.int .u64 ((t.toL[i]?).getD (0, 0)).1, .bool (t.toL[i]?).isSome] ∧ Own e w' (imm h0 :: ldB g gt used most :: F) := by
  refine ledger_Ledger_At_go _ _ ⟨fun hc => (by cases hc), fun _ => ⟨_, Own.ld (g := g) (k := 0) h (by repeat (first | with_reducible exact Pick.here | apply Pick.there)) rfl, ?_⟩⟩
  have hg := rkAt hT hs hi h
  rw [tat_eq] at hg
  refine Rets.mono hg ?_
  rintro _ w ⟨rfl, h⟩
  exact ⟨_, _, _, rfl, rfl, h⟩
theorem ldRoom (hu : 0 ≤ used ∧ used ≤ most ∧ most ≤ 4611686018427387904) (h : Own e w (imm h0 :: ldB g gt used most :: F)) : Rets Tryz.prog 68 #[.pointer (some ⟨g, 0, none⟩)] w fun v w' => v = .int .i64 (most - used) ∧ Own e w' (imm h0 :: ldB g gt used most :: F) := by
  refine ledger_Ledger_Room_go _ ?_
  refine Rets.mono (ldMost h) ?_
  clear h
  rintro _ w ⟨rfl, h⟩
  refine ⟨_, rfl, ?_⟩
  refine Rets.mono (ldUsed h) ?_
  clear h
  rintro _ w ⟨rfl, h⟩
  refine ⟨_, rfl, ?_⟩
  refine Rets.mono (cRoom h) ?_
  clear h
  rintro _ w ⟨rfl, h⟩
  rw [if_pos hu]
  exact ⟨_, _, rfl, rfl, h⟩
theorem ldAdd (ok : LgOk s) (hs : s.t.size ≤ 700) (hT : TreeA h0 s.t gt) (h : Own e w (imm h0 :: ldB g gt s.used s.most :: F)) : Rets Tryz.prog 45 #[.pointer (some ⟨g, 0, none⟩), .int .u64 k, .int .i64 n] w fun v w' => v = .bool (lgAdd k n s).2 ∧ LD e F h0 g (lgAdd k n s).1 w' := by
  have hnn := ok.nn
  obtain ⟨ok1, ok2, ok3, ok4, ok5⟩ := ok
  refine ledger_Ledger_Add_go _ _ _ ⟨fun hc => (by cases hc), fun _ => ?_⟩
  refine Rets.mono (ldCost (k := k) hT hs ok1 h) ?_
  clear h
  rintro _ w ⟨rfl, h⟩
  unfold lgAdd
  refine ⟨_, _, rfl, fun hb => ?_, fun hb => ?_⟩
  · rw [if_neg (by rw [hb]; simp)]
    refine Rets.mono (ldSpend (a := 0) (b := n) h.swap (by omega)) ?_
    clear h
    rintro _ w (⟨rfl, hy, h⟩ | ⟨rfl, hy, h⟩)
    · rw [if_pos (by omega)]
      refine ⟨_, rfl, fun hb => (by cases hb), fun _ => ⟨_, Own.ld (g := g) (k := 0) h (by repeat (first | with_reducible exact Pick.here | apply Pick.there)) rfl, ?_⟩⟩
      refine Rets.mono (rkPut (k := k) (v := n) hT hs h.swap) ?_
      clear h
      rintro _ w ⟨h1, gu, rfl, le1, hU, h⟩
      refine ⟨_, rfl, Own.stP (g := g) (k := 0) h (by repeat (first | with_reducible exact Pick.here | apply Pick.there)) (by simp) (by simp [Value.oneCell']) fun w h => ⟨rfl, h1, gu, le1, hU, ?_⟩⟩
      simp only [setFrom, List.set_cons_zero, List.set_cons_succ, List.set_nil] at h
      rw [show s.used - 0 + n = s.used + n by omega] at h
      exact (Own.sub (h) (by repeat (first | exact Sub.nil _ | exact Sub.rfl _ | (apply Sub.cons; focus ((repeat (first | with_reducible exact Pick.here | apply Pick.there)); done)) | apply Sub.drop)))
    · rw [if_neg (by omega)]
      exact ⟨_, rfl, fun _ => ⟨rfl, h0, gt, LeH.refl _, hT, h.swap⟩, fun hb => (by cases hb)⟩
  · rw [if_pos hb]
    exact ⟨rfl, h0, gt, LeH.refl _, hT, h⟩
theorem ldDrop (ok : LgOk s) (hs : s.t.size ≤ 700) (hT : TreeA h0 s.t gt) (h : Own e w (imm h0 :: ldB g gt s.used s.most :: F)) : Rets Tryz.prog 53 #[.pointer (some ⟨g, 0, none⟩), .int .u64 k] w fun v w' => v = .tuple #[.int .i64 (lval k s.t.toL), .bool (lfind k s.t.toL).isSome] ∧ LD e F h0 g (lgDrop k s) w' := by
  have hnn := ok.nn
  have hv := ok.val k
  obtain ⟨ok1, ok2, ok3, ok4, ok5⟩ := ok
  refine ledger_Ledger_Drop_go _ _ ?_
  refine Rets.mono (ldCost (k := k) hT hs ok1 h) ?_
  clear h
  rintro _ w ⟨rfl, h⟩
  unfold lgDrop
  refine ⟨_, _, rfl, fun hb => ?_, fun hb => ?_⟩
  · have hb : ¬ (lfind k s.t.toL).isSome = true := by simpa using hb
    rw [if_neg hb, lval_no hb]
    have hb : (lfind k s.t.toL).isSome = false := by simpa using hb
    rw [hb]
    exact ⟨rfl, h0, gt, LeH.refl _, hT, h⟩
  · have hb : (lfind k s.t.toL).isSome = true := by simpa using hb
    rw [if_pos hb]
    refine Rets.mono (ldSpend (a := lval k s.t.toL) (b := 0) h.swap (by omega)) ?_
    clear h
    rintro _ w (⟨rfl, hy, h⟩ | ⟨rfl, hy, h⟩)
    · refine ⟨_, rfl, _, Own.ld (g := g) (k := 0) h (by repeat (first | with_reducible exact Pick.here | apply Pick.there)) rfl, ?_⟩
      refine Rets.mono (rkDrop (k := k) hT hs h.swap) ?_
      clear h
      rintro _ w ⟨h1, gu, rfl, le1, hU, h⟩
      refine ⟨_, rfl, Own.stP (g := g) (k := 0) h (by repeat (first | with_reducible exact Pick.here | apply Pick.there)) (by simp) (by simp [Value.oneCell']) fun w h => ⟨by rw [hb], h1, gu, le1, hU, ?_⟩⟩
      simp only [setFrom, List.set_cons_zero, List.set_cons_succ, List.set_nil] at h
      rw [show s.used - lval k s.t.toL + 0 = s.used - lval k s.t.toL by omega] at h
      exact (Own.sub (h) (by repeat (first | exact Sub.nil _ | exact Sub.rfl _ | (apply Sub.cons; focus ((repeat (first | with_reducible exact Pick.here | apply Pick.there)); done)) | apply Sub.drop)))
    · exact absurd ⟨Int.le_refl 0, by omega⟩ hy
theorem ldLimit (hT : TreeA h0 s.t gt) (h : Own e w (imm h0 :: ldB g gt s.used s.most :: F)) : Rets Tryz.prog 59 #[.pointer (some ⟨g, 0, none⟩), .int .i64 n] w fun v w' => v = .bool (lgLimit n s).2 ∧ LD e F h0 g (lgLimit n s).1 w' := by
  refine ledger_Ledger_Limit_go _ _ ⟨fun _ => ?_, fun hc => (by cases hc)⟩
  refine Rets.mono (cRight h) ?_
  clear h
  rintro _ w ⟨rfl, h⟩
  unfold lgLimit
  refine ⟨_, rfl, fun hb => ⟨_, Own.ld (g := g) (k := 1) h (by repeat (first | with_reducible exact Pick.here | apply Pick.there)) rfl, fun hc => ?_, fun hc => ?_⟩, fun hb => ?_⟩
  · have hc := dec_t hc
    rw [if_neg (by omega)]
    exact ⟨rfl, h0, gt, LeH.refl _, hT, h⟩
  · have hc := dec_f hc
    have hb := rightB_t.1 (by simpa using hb)
    rw [if_pos (by omega)]
    refine Own.stP (g := g) (k := 2) h (by repeat (first | with_reducible exact Pick.here | apply Pick.there)) (by simp) (by simp [Value.oneCell']) fun w h => ⟨rfl, h0, gt, LeH.refl _, hT, ?_⟩
    simp only [setFrom, List.set_cons_zero, List.set_cons_succ, List.set_nil] at h
    exact (Own.sub (h) (by repeat (first | exact Sub.nil _ | exact Sub.rfl _ | (apply Sub.cons; focus ((repeat (first | with_reducible exact Pick.here | apply Pick.there)); done)) | apply Sub.drop)))
  · have hb := rightB_f.1 (by simpa using hb)
    rw [if_neg (by omega)]
    exact ⟨rfl, h0, gt, LeH.refl _, hT, h⟩
theorem ldClear (h : Own e w (imm h0 :: ldB g gt s.used s.most :: F)) : Rets Tryz.prog 60 #[.pointer (some ⟨g, 0, none⟩)] w fun v w' => v = .tuple #[] ∧ LD e F h0 g (lgClear s) w' := by
  refine ledger_Ledger_Clear_go _ ⟨fun _ => ?_, fun hc => (by cases hc)⟩
  refine Rets.mono (ldNone h) ?_
  clear h
  rintro _ w ⟨h1, gu, rfl, le1, hU, h⟩
  refine ⟨_, rfl, Own.stP (g := g) (k := 0) h (by repeat (first | with_reducible exact Pick.here | apply Pick.there)) (by simp) (by simp [Value.oneCell']) fun w h => ?_⟩
  simp only [setFrom, List.set_cons_zero, List.set_cons_succ, List.set_nil] at h
  refine Own.stP (g := g) (k := 1) h (by repeat (first | with_reducible exact Pick.here | apply Pick.there)) (by simp) (by simp [Value.oneCell']) fun w h => ⟨rfl, h1, gu, le1, hU, ?_⟩
  simp only [setFrom, List.set_cons_zero, List.set_cons_succ, List.set_nil] at h
  exact (Own.sub (h) (by repeat (first | exact Sub.nil _ | exact Sub.rfl _ | (apply Sub.cons; focus ((repeat (first | with_reducible exact Pick.here | apply Pick.there)); done)) | apply Sub.drop)))
end
abbrev enc24 (x : Int × Int) : List Value := [.int .u64 x.1, .int .i64 x.2]
theorem enc24_len (x : Int × Int) : (enc24 x).length = 2 := rfl
abbrev E24 (l : LE2) : List Value := l.flatMap enc24
theorem E24_snoc (l : LE2) (x : Int × Int) : E24 (l ++ [x]) = E24 l ++ [.int .u64 x.1, .int .i64 x.2] := by simp [E24]
/-- What may be read for ever. -/
def ImR (h0 : Nat → Option Obj) (q : Option Addr) (us : List Value) : Prop := ∀ e w F, Own e w (imm h0 :: F) → RdC w q us
theorem ImR.mono {h0 h1 : Nat → Option Obj} {q : Option Addr} {us : List Value} (hle : LeH h0 h1) (h : ImR h0 q us) : ImR h1 q us := fun e w F ho => h e w F (ho.immLe hle)
theorem Own.slImm {e w : World} {F : List HP} {h0 : Nat → Option Obj} {T : TypeId} {s n c : Nat} {q : Option Addr} {xs : List Value} (h : Own e w (slO T s q n c xs :: imm h0 :: F)) : ∃ h1, LeH h0 h1 ∧ ImR h1 q xs ∧ n ≤ c ∧ Own e w (imm h1 :: F) := by
  have hnc := h.slFacts.2.1
  rcases h.slCases with ⟨rfl, rfl, rfl, rfl⟩ | ⟨g, rest, rfl, hl, h⟩
  · exact ⟨h0, LeH.refl _, fun e w F ho => .inl rfl, hnc, h.drop⟩
  · obtain ⟨h1, le1, hg, h⟩ := Own.absorb h
    refine ⟨h1, le1, fun e w F ho => .inr ⟨_, rfl, fun j u hj => ?_⟩, hnc, h⟩
    exact ho.immCell (vs := xs ++ rest) hg (by rw [List.getElem?_append_left (List.getElem?_eq_some_iff.1 hj).1]; exact hj)
theorem lput_ldrop (k v : Int) (l : LE2) : lput k v (ldrop k l) = lput k v l := by
  have e1 : (ldrop k l).filter (fun e => decide (e.1 < k)) = l.filter (fun e => decide (e.1 < k)) := by
    unfold ldrop; rw [List.filter_filter]
    congr 1; funext e
    by_cases h : e.1 < k
    · have : e.1 ≠ k := by omega
      simp [h, this]
    · simp [h]
  have e2 : (ldrop k l).filter (fun e => decide (k < e.1)) = l.filter (fun e => decide (k < e.1)) := by
    unfold ldrop; rw [List.filter_filter]
    congr 1; funext e
    by_cases h : k < e.1
    · have : e.1 ≠ k := by omega
      simp [h, this]
    · simp [h]
  unfold lput; rw [e1, e2]
abbrev L24 (q : Option Addr) (n c : Nat) (m : Int) : Value := .agg #[.slice q n c, .int .i64 m]
abbrev B24 (g : Nat) (q : Option Addr) (n c : Nat) (m : Int) : HP := blk g 41 [.slice q n c, .int .i64 m]
abbrev R24 (e : World) (F : List HP) (h0 : Nat → Option Obj) (l : LE2) (m : Int) (v : Value) (w' : World) : Prop := ∃ (h1 : Nat → Option Obj) (q : Option Addr) (c : Nat), v = L24 q l.length c m ∧ LeH h0 h1 ∧ ImR h1 q (E24 l) ∧ l.length ≤ c ∧ Own e w' (imm h1 :: F)
abbrev R24b (e : World) (F : List HP) (h0 : Nat → Option Obj) (l : LE2) (m : Int) (b : Bool) (v : Value) (w' : World) : Prop := ∃ (h1 : Nat → Option Obj) (q : Option Addr) (c : Nat), v = .tuple #[L24 q l.length c m, .bool b] ∧ LeH h0 h1 ∧ ImR h1 q (E24 l) ∧ l.length ≤ c ∧ Own e w' (imm h1 :: F)
section
variable {e w : World} {F : List HP} {h0 : Nat → Option Obj} {q : Option Addr} {L : LE2} {c : Nat} {m k n : Int}
theorem ImR.adr24 (hI : ImR h0 q (E24 L)) {i : Nat} (hi : i < L.length) (h : Own e w (imm h0 :: F)) : ∃ ad, q = some ad ∧ ∀ e w F, Own e w (imm h0 :: F) → cellAt w ((ad.add (Int.toNat (i : Int) * 2)).add 0) (.int .u64 L[i].1) ∧ cellAt w ((ad.add (Int.toNat (i : Int) * 2)).add 1) (.int .i64 L[i].2) := by
  obtain ⟨ad, rfl, hc⟩ := (hI e w F h).rec enc24_len hi (by omega)
  refine ⟨ad, rfl, fun e w F h => ?_⟩
  obtain ⟨ad', ea, hc⟩ := (hI e w F h).rec enc24_len hi (by omega)
  cases ea
  rw [Int.toNat_natCast]
  exact ⟨hc i hi 0 _ rfl, hc i hi 1 _ rfl⟩
theorem app24 {K : Value → World → Prop} {g c2 : Nat} {x : Int × Int} (hn : L.length ≤ 100000) (h : Own e w (blk g 64 [.int .u64 x.1, .int .i64 x.2] :: slO 64 2 q L.length c (E24 L) :: F))
    (hk : ∀ q' c' w', Own e w' (slO 64 2 q' (L ++ [x]).length c' (E24 (L ++ [x])) :: F) → K (.slice q' (L ++ [x]).length c') w') :
    RunR Tryz.prog (builtinV .append #[39, 39] 39 #[.slice q L.length c, .slice (some ⟨g, 0, none⟩) 1 c2]) w K := by
  have hsrc : RdC w (some ⟨g, 0, none⟩) [.int .u64 x.1, .int .i64 x.2] := h.blkRd
  refine Own.append (z := [.int .u64 0, .int .i64 0]) (b := 16) (m := 1) h.drop (by kernel_rfl) (by kernel_rfl) (by kernel_rfl) (by kernel_rfl) (by kernel_rfl) (by omega) hsrc rfl (fun u hu => ?_) (by unfold maxLen; omega) (by omega) fun q' c' w h _ => ?_
  · simp at hu; rcases hu with rfl | rfl <;> rfl
  · have e1 : L.length + 1 = (L ++ [x]).length := by simp
    rw [e1, ← E24_snoc] at h
    rw [e1]
    exact hk q' c' w h
theorem sumV_take {l : LE2} {i : Nat} (hi : i < l.length) : sumV (l.take (i + 1)) = sumV (l.take i) + l[i].2 := by
  rw [List.take_succ_eq_append_getElem hi, sumV_app]; simp [sumV]
theorem sumV_bd {l : LE2} (hn : ∀ e ∈ l, 0 ≤ e.2) (i : Nat) : 0 ≤ sumV (l.take i) ∧ sumV (l.take i) ≤ sumV l := by
  have h1 := sumV_app (l.take i) (l.drop i)
  rw [List.take_append_drop] at h1
  have h2 : 0 ≤ sumV (l.drop i) := sumV_nn fun e he => hn e (List.mem_of_mem_drop he)
  exact ⟨sumV_nn fun e he => hn e (List.mem_of_mem_take he), by omega⟩
theorem rUsed (hn : ∀ e ∈ L, 0 ≤ e.2) (hs : sumV L ≤ 4611686018427387904) (hl : L.length ≤ 700) (hI : ImR h0 q (E24 L)) (h : Own e w (imm h0 :: F)) : Rets Tryz.prog 15 #[L24 q L.length c m] w fun v w' => v = .int .i64 (sumV L) ∧ Own e w' (imm h0 :: F) := by
  refine cortadoref24_Used_go _ _ _ _ (h.newR fun ga w h => ?_)
  obtain ⟨ha0, le0, ha, hh⟩ := Own.absorb h
  clear h
  have h := hh
  clear hh
  have hI := hI.mono le0
  refine ⟨fun z vs w => ∃ i : Nat, vs = [.int .i64 (sumV (L.take i)), .int .i64 (i : Int)] ∧ z + i = L.length ∧ Own e w (imm ha0 :: F), ⟨L.length, 0, rfl, rfl, h⟩, ?_⟩
  clear h
  rintro z w n1 n2
  intros
  rename_i hI2
  obtain ⟨i, hvs, hz, h⟩ := hI2
  obtain ⟨rfl, rfl⟩ : n1 = sumV (L.take i) ∧ n2 = (i : Int) := by simpa using hvs
  refine ⟨_, _, _, h.immCell ha (i := 0) rfl, fun hc => ?_, fun hc => ?_⟩
  · have hc := dec_t hc
    have hi : i < L.length := by omega
    obtain ⟨ad, rfl, rd⟩ := hI.adr24 hi h
    have b1 := sumV_bd hn i
    have b2 := sumV_bd hn (i + 1)
    have e1 := sumV_take hi
    refine ⟨_, _, _, h.immCell ha (i := 0) rfl, by omega, by omega, smR ⟨_, (rd _ _ _ h).2, z - 1, by omega, i + 1, ?_, by omega, h⟩⟩
    rw [wI64 (by omega) (by omega), wI64 (by omega) (by omega), ← e1]; rfl
  · have hc := dec_f hc
    obtain rfl : i = L.length := by omega
    rw [List.take_length]
    exact ⟨rfl, h.immLe le0⟩
theorem rCost (hl : L.length ≤ 700) (hI : ImR h0 q (E24 L)) (h : Own e w (imm h0 :: F)) : Rets Tryz.prog 28 #[L24 q L.length c m, .int .u64 k] w fun v w' => v = .tuple #[.int .i64 (lval k L), .bool (lfind k L).isSome] ∧ Own e w' (imm h0 :: F) := by
  refine cortadoref24_Cost_go _ _ _ _ _ (h.newR fun ga w h => ?_)
  obtain ⟨ha0, le0, ha, hh⟩ := Own.absorb h
  clear h
  have h := hh
  clear hh
  have hI := hI.mono le0
  refine ⟨fun z vs w => ∃ (i : Nat), vs = [.int .i64 (i : Int)] ∧ z + i = L.length ∧ (∀ x ∈ L.take i, x.1 ≠ k) ∧ Own e w (imm ha0 :: F), ⟨L.length, 0, rfl, rfl, fun x hx => (by cases hx), h⟩, ?_⟩
  clear h
  intro z w
  intros
  rename_i hI2
  obtain ⟨i, hvs, hz, hno, h⟩ := hI2
  simp at hvs
  subst hvs
  refine ⟨_, _, _, h.immCell ha (i := 0) rfl, fun hc => ?_, fun hc => ?_⟩
  · have hc := dec_t hc
    have hi : i < L.length := by omega
    obtain ⟨ad, rfl, rd⟩ := hI.adr24 hi h
    obtain ⟨x, hx⟩ : ∃ x, x = L[i] := ⟨_, rfl⟩
    have et : L.take (i + 1) = L.take i ++ [x] := by rw [hx]; exact List.take_succ_eq_append_getElem hi
    have ec := at_cut hi
    rw [← hx] at rd ec
    refine ⟨_, _, _, h.immCell ha (i := 0) rfl, by omega, by omega, smR ⟨_, (rd _ _ _ h).1, fun hn => ?_, fun hn => ?_⟩⟩
    · have hn := beq_t hn
      have ef : lfind k L = some x := by
        rw [ec, lfind_app hno, ← hn]; exact lfind_cons
      have ev : lval k L = x.2 := by unfold lval; rw [ef]; rfl
      rw [ef, ev]
      exact ⟨_, _, _, h.immCell ha (i := 0) rfl, by omega, by omega, smR ⟨_, (rd _ _ _ h).2, rfl, h.immLe le0⟩⟩
    · have hn := beq_f hn
      refine ⟨z - 1, by omega, i + 1, by rw [wI64 (by omega) (by omega)]; rfl, by omega, fun y hy => ?_, h⟩
      rw [et] at hy
      rcases List.mem_append.1 hy with hy | hy
      · exact hno y hy
      · rw [List.mem_singleton.1 hy]; exact hn
  · have hc := dec_f hc
    obtain rfl : i = L.length := by omega
    rw [List.take_length] at hno
    have ef := lfind_no hno
    have ev : lval k L = 0 := by unfold lval; rw [ef]; rfl
    rw [ef, ev]
    exact ⟨rfl, h.immLe le0⟩
theorem rDrop (hl : L.length ≤ 700) (hI : ImR h0 q (E24 L)) (h : Own e w (imm h0 :: F)) : Rets Tryz.prog 29 #[L24 q L.length c m, .int .u64 k] w (R24 e F h0 (ldrop k L) m) := by
  refine cortadoref24_Drop_go _ _ _ _ _ (h.newR fun ga w h => ?_)
  obtain ⟨ha0, le0, ha, hh⟩ := Own.absorb h
  clear h
  have h := hh
  clear hh
  have hI := hI.mono le0
  refine h.newR fun g2 w h => ⟨_, h.swap.immCell ha (i := 1) rfl, h.newR fun g3 w h => Own.stP' (g := g3) h (by repeat (first | with_reducible exact Pick.here | apply Pick.there)) (by simp) (by simp [Value.oneCell']) fun w h => ?_⟩
  simp only [setFrom, List.set_cons_zero, List.set_cons_succ, List.set_nil] at h
  have h : Own e w (imm ha0 :: B24 g3 none 0 0 m :: slO 64 2 none 0 0 [] :: B24 g2 none 0 0 0 :: F) := by
    have h : Own e w (slO 64 2 none 0 0 [] :: B24 g3 none 0 0 m :: B24 g2 none 0 0 0 :: imm ha0 :: F) := h.slNil
    exact (Own.sub (h) (by repeat (first | with_reducible exact Sub.nil _ | with_reducible exact Sub.rfl _ | (apply Sub.cons; focus ((repeat (first | with_reducible exact Pick.here | apply Pick.there)); done)) | apply Sub.drop)))
  refine ⟨fun z vs w => ∃ (i : Nat) (q' : Option Addr) (c' : Nat), vs = [.int .i64 (i : Int)] ∧ z + i = L.length ∧ Own e w (imm ha0 :: B24 g3 q' (ldrop k (L.take i)).length c' m :: slO 64 2 q' (ldrop k (L.take i)).length c' (E24 (ldrop k (L.take i))) :: B24 g2 none 0 0 0 :: F), ⟨L.length, 0, none, 0, rfl, rfl, h⟩, ?_⟩
  clear h
  rintro z w n2
  intros
  rename_i hI2
  obtain ⟨i, q', c', hvs, hz, h⟩ := hI2
  obtain rfl : n2 = (i : Int) := by simpa using hvs
  have hpl := ldrop_len k (L.take i)
  have htl : (L.take i).length ≤ 700 := by rw [List.length_take]; omega
  refine ⟨_, _, _, h.immCell ha (i := 0) rfl, fun hc => ?_, fun hc => ?_⟩
  · have hc := dec_t hc
    have hi : i < L.length := by omega
    have ei : IntKind.wrap .i64 ((i : Int) + 1) = ((i + 1 : Nat) : Int) := by rw [wI64 (by omega) (by omega)]; rfl
    rw [ei]
    obtain ⟨ad, rfl, rd⟩ := hI.adr24 hi h
    obtain ⟨x, hx⟩ : ∃ x, x = L[i] := ⟨_, rfl⟩
    have et : L.take (i + 1) = L.take i ++ [x] := by rw [hx]; exact List.take_succ_eq_append_getElem hi
    have d3 := ldrop_snoc k (L.take i) x
    rw [← et] at d3
    rw [← hx] at rd
    obtain ⟨M, hM⟩ : ∃ M, M = ldrop k (L.take i) := ⟨_, rfl⟩
    rw [← hM] at h hpl d3
    let S : World → Prop := fun w => Own e w (imm ha0 :: B24 g3 q' M.length c' m :: slO 64 2 q' M.length c' (E24 M) :: B24 g2 none 0 0 0 :: F)
    have h : S w := h
    refine ⟨_, _, _, Own.immCell h ha (i := 0) rfl, by omega, by omega, smR ⟨_, (rd _ _ _ h).1, ?_⟩⟩
    refine ⟨fun vs w => vs = [] ∧ ∃ (q' : Option Addr) (c' : Nat), Own e w (imm ha0 :: B24 g3 q' (ldrop k (L.take (i + 1))).length c' m :: slO 64 2 q' (ldrop k (L.take (i + 1))).length c' (E24 (ldrop k (L.take (i + 1)))) :: B24 g2 none 0 0 0 :: F), ⟨fun hn => ?_, fun hn => ?_⟩, ?_⟩
    · have hn := bool_ne hn
      rw [if_neg hn] at d3
      refine Own.drw h fun w h => ⟨S, h, _, _, _, fun w h => Own.ld (g := g3) (k := 0) h (by repeat (first | with_reducible exact Pick.here | apply Pick.there)) rfl, _, _, _, fun w h => Own.immCell h ha (i := 0) rfl, by omega, by omega, smR ⟨_, _, ⟨fun w h => (rd _ _ _ h).1, fun w h => (rd _ _ _ h).2⟩, Own.newR h fun g5 w h => ⟨?_, ?_⟩⟩⟩
      · exact h.drop
      · have h : Own e w (blk g5 64 [.int .u64 x.1, .int .i64 x.2] :: slO 64 2 q' M.length c' (E24 M) :: imm ha0 :: B24 g3 q' M.length c' m :: B24 g2 none 0 0 0 :: F) := (Own.sub (h) (by repeat (first | with_reducible exact Sub.nil _ | with_reducible exact Sub.rfl _ | (apply Sub.cons; focus ((repeat (first | with_reducible exact Pick.here | apply Pick.there)); done)) | apply Sub.drop)))
        refine app24 (x := x) (by omega) h fun q3 c3 w h => ⟨_, _, _, rfl, Own.stP (g := g3) (k := 0) h (by repeat (first | with_reducible exact Pick.here | apply Pick.there)) (by simp) (by simp [Value.oneCell']) fun w h => ⟨rfl, q3, c3, ?_⟩⟩
        simp only [setFrom, List.set_cons_zero, List.set_cons_succ, List.set_nil] at h
        rw [d3]
        exact (Own.sub (h) (by repeat (first | exact Sub.nil _ | exact Sub.rfl _ | (apply Sub.cons; focus ((repeat (first | with_reducible exact Pick.here | apply Pick.there)); done)) | apply Sub.drop)))
    · have hn := bool_eq hn
      rw [if_pos hn, List.append_nil] at d3
      rw [d3]
      exact ⟨rfl, q', c', h⟩
    clear h
    rintro w
    intros
    rename_i hI3
    obtain ⟨_, q3, c3, h⟩ := hI3
    exact ⟨z - 1, by omega, i + 1, q3, c3, rfl, by omega, h⟩
  · have hc := dec_f hc
    obtain rfl : i = L.length := by omega
    rw [List.take_length] at h
    refine ⟨_, _, _, _, ⟨Own.ld (g := g3) (k := 0) h (by repeat (first | with_reducible exact Pick.here | apply Pick.there)) rfl, Own.ld (g := g3) (k := 1) h (by repeat (first | with_reducible exact Pick.here | apply Pick.there)) rfl⟩, Own.stP' (g := g2) h (by repeat (first | with_reducible exact Pick.here | apply Pick.there)) (by simp) (by simp [Value.oneCell']) fun w h => ?_⟩
    simp only [setFrom, List.set_cons_zero, List.set_cons_succ, List.set_nil] at h
    refine ⟨_, _, _, _, ⟨Own.ld (g := g2) (k := 0) h (by repeat (first | with_reducible exact Pick.here | apply Pick.there)) rfl, Own.ld (g := g2) (k := 1) h (by repeat (first | with_reducible exact Pick.here | apply Pick.there)) rfl⟩, ?_⟩
    have h : Own e w (slO 64 2 q' (ldrop k L).length c' (E24 (ldrop k L)) :: imm ha0 :: F) := (Own.sub (h) (by repeat (first | exact Sub.nil _ | exact Sub.rfl _ | (apply Sub.cons; focus ((repeat (first | with_reducible exact Pick.here | apply Pick.there)); done)) | apply Sub.drop)))
    obtain ⟨h1, le1, hR, hnc, h⟩ := h.slImm
    exact ⟨h1, _, _, rfl, LeH.trans le0 le1, hR, hnc, h⟩
end
section
variable {e w : World} {F : List HP} {h0 : Nat → Option Obj} {q : Option Addr} {L : LE2} {c : Nat} {m k n : Int} {s : Lg}
theorem rset (hs : Srt L) (hl : L.length ≤ 600) (hI : ImR h0 q (E24 L)) (h : Own e w (imm h0 :: F)) : Rets Tryz.prog 79 #[L24 q L.length c m, .int .u64 k, .int .i64 n] w (R24 e F h0 (lput k n L) m) := by
  refine cortadoref24_set_go _ _ _ _ _ _ (h.newR fun ga w h => ?_)
  obtain ⟨ha0, le0, ha, hh⟩ := Own.absorb h
  clear h
  have h := hh
  clear hh
  have hI := hI.mono le0
  refine h.newR fun g2 w h => ?_
  have h : Own e w (imm ha0 :: B24 g2 none 0 0 0 :: F) := h.swap
  refine ⟨_, _, _, _, ⟨h.immCell ha (i := 0) rfl, h.immCell ha (i := 1) rfl⟩, ?_⟩
  refine Rets.mono (rDrop (k := k) (by omega) hI h) ?_
  clear h
  rintro _ w ⟨h1, qr, cr, rfl, le1, hR, hnc, h⟩
  have ha := le1 _ _ ha
  obtain ⟨R, eR⟩ : ∃ R, R = ldrop k L := ⟨_, rfl⟩
  have hsR : Srt R := by rw [eR]; exact ldrop_srt hs
  have hlR : R.length ≤ 600 := by rw [eR]; have := ldrop_len k L; omega
  have hnk : ∀ x ∈ R, x.1 ≠ k := fun x hx => by rw [eR] at hx; simpa using (List.mem_filter.1 hx).2
  rw [← lput_ldrop, ← eR]
  rw [← eR] at hR hnc
  clear eR
  refine ⟨_, _, _, _, rfl, h.newR fun g3 w h => Own.stP' (g := g3) h (by repeat (first | with_reducible exact Pick.here | apply Pick.there)) (by simp) (by simp [Value.oneCell']) fun w h => ?_⟩
  simp only [setFrom, List.set_cons_zero, List.set_cons_succ, List.set_nil] at h
  obtain ⟨hb0, le2, hb, hh⟩ := Own.absorb h
  clear h
  have h := hh
  clear hh
  have ha := le2 _ _ ha
  have hR := hR.mono le2
  refine ⟨_, h.immCell ha (i := 1) rfl, h.newR fun g4 w h => Own.stP' (g := g4) h (by repeat (first | with_reducible exact Pick.here | apply Pick.there)) (by simp) (by simp [Value.oneCell']) fun w h => ?_⟩
  simp only [setFrom, List.set_cons_zero, List.set_cons_succ, List.set_nil] at h
  have h : Own e w (imm hb0 :: B24 g4 none 0 0 m :: slO 64 2 none 0 0 [] :: B24 g2 none 0 0 0 :: F) := by
    have h : Own e w (slO 64 2 none 0 0 [] :: B24 g4 none 0 0 m :: imm hb0 :: B24 g2 none 0 0 0 :: F) := h.slNil
    exact (Own.sub (h) (by repeat (first | with_reducible exact Sub.nil _ | with_reducible exact Sub.rfl _ | (apply Sub.cons; focus ((repeat (first | with_reducible exact Pick.here | apply Pick.there)); done)) | apply Sub.drop)))
  refine ⟨fun z vs w => ∃ (i : Nat) (q' : Option Addr) (c' : Nat), vs = [.bool (pdone k (R.take i)), .int .i64 (i : Int)] ∧ z + i = R.length ∧ Own e w (imm hb0 :: B24 g4 q' (pout k n (R.take i)).length c' m :: slO 64 2 q' (pout k n (R.take i)).length c' (E24 (pout k n (R.take i))) :: B24 g2 none 0 0 0 :: F), ⟨R.length, 0, none, 0, rfl, rfl, h⟩, ?_⟩
  clear h
  rintro z w b1 n4
  intros
  rename_i hI2
  obtain ⟨i, q', c', hvs, hz, h⟩ := hI2
  obtain ⟨rfl, rfl⟩ : b1 = pdone k (R.take i) ∧ n4 = (i : Int) := by simpa using hvs
  have hpl := pout_len k n (R.take i)
  have htl : (R.take i).length ≤ 600 := by rw [List.length_take]; omega
  refine ⟨_, _, _, h.immCell hb (i := 0) rfl, fun hc => ?_, fun hc => ?_⟩
  · have hc := dec_t hc
    have hi : i < R.length := by omega
    have ei : IntKind.wrap .i64 ((i : Int) + 1) = ((i + 1 : Nat) : Int) := by rw [wI64 (by omega) (by omega)]; rfl
    rw [ei]
    obtain ⟨ad, eqr, rd⟩ := hR.adr24 hi h
    rw [eqr] at hb
    obtain ⟨x, hx⟩ : ∃ x, x = R[i] := ⟨_, rfl⟩
    have hxk : x.1 ≠ k := by rw [hx]; exact hnk _ (List.getElem_mem hi)
    have et : R.take (i + 1) = R.take i ++ [x] := by rw [hx]; exact List.take_succ_eq_append_getElem hi
    have hsn : Srt (R.take i ++ [x]) := by rw [← et]; exact hsR.take _
    rw [← hx] at rd
    obtain ⟨d, hd⟩ : ∃ d, d = pdone k (R.take i) := ⟨_, rfl⟩
    refine ⟨fun vs w => vs = [.bool (!pdone k (R.take i) && decide (x.1 > k))] ∧ Own e w (imm hb0 :: B24 g4 q' (pout k n (R.take i)).length c' m :: slO 64 2 q' (pout k n (R.take i)).length c' (E24 (pout k n (R.take i))) :: B24 g2 none 0 0 0 :: F), ⟨fun hq => ⟨_, _, _, h.immCell hb (i := 0) rfl, by omega, by omega, smR ⟨_, (rd _ _ _ h).1, ?_, h⟩⟩, fun hq => ⟨?_, h⟩⟩, ?_⟩
    · have hq : pdone k (R.take i) = false := by simpa using hq
      rw [hq]; rfl
    · have hq : pdone k (R.take i) = true := by simpa using hq
      rw [hq]; rfl
    clear h
    rintro w
    intros
    rename_i b2 hI3
    obtain ⟨hvs2, h⟩ := hI3
    obtain rfl : b2 = (!pdone k (R.take i) && decide (x.1 > k)) := by simpa using hvs2
    refine ⟨fun vs w => vs = [.bool (pdone k (R.take (i + 1)))] ∧ ∃ (M : LE2) (q' : Option Addr) (c' : Nat), M ++ [x] = pout k n (R.take (i + 1)) ∧ M.length ≤ 602 ∧ Own e w (imm hb0 :: B24 g4 q' M.length c' m :: slO 64 2 q' M.length c' (E24 M) :: B24 g2 none 0 0 0 :: F), ⟨fun hq => ?_, fun hq => ?_⟩, ?_⟩
    · have hq : pdone k (R.take i) = false ∧ k < x.1 := by simpa using hq
      obtain ⟨d1, d2, d3⟩ := pout_B (v := n) hq.1 (Int.le_of_lt hq.2)
      rw [if_neg hxk, ← et] at d3
      rw [← et] at d1
      rw [d2] at h
      refine ⟨_, _, _, Own.ld (g := g4) (k := 0) h (by repeat (first | with_reducible exact Pick.here | apply Pick.there)) rfl, h.newR fun g5 w h => ?_⟩
      have h : Own e w (blk g5 64 [.int .u64 (k, n).1, .int .i64 (k, n).2] :: slO 64 2 q' (R.take i).length c' (E24 (R.take i)) :: imm hb0 :: B24 g4 q' (R.take i).length c' m :: B24 g2 none 0 0 0 :: F) := (Own.sub (h) (by repeat (first | with_reducible exact Sub.nil _ | with_reducible exact Sub.rfl _ | (apply Sub.cons; focus ((repeat (first | with_reducible exact Pick.here | apply Pick.there)); done)) | apply Sub.drop)))
      refine app24 (x := (k, n)) (by omega) h fun q3 c3 w h => ⟨_, _, _, rfl, Own.stP (g := g4) (k := 0) h (by repeat (first | with_reducible exact Pick.here | apply Pick.there)) (by simp) (by simp [Value.oneCell']) fun w h => ⟨by rw [d1], R.take i ++ [(k, n)], q3, c3, d3.symm, by rw [List.length_append]; simp; omega, ?_⟩⟩
      simp only [setFrom, List.set_cons_zero, List.set_cons_succ, List.set_nil] at h
      exact (Own.sub (h) (by repeat (first | exact Sub.nil _ | exact Sub.rfl _ | (apply Sub.cons; focus ((repeat (first | with_reducible exact Pick.here | apply Pick.there)); done)) | apply Sub.drop)))
    · have hq : pdone k (R.take i) = false → ¬ k < x.1 := fun h1 h2 => by rw [h1] at hq; simp at hq; omega
      cases hpd : pdone k (R.take i) with
      | true =>
        obtain ⟨d0, d1, d3⟩ := pout_A (v := n) hsn hpd
        rw [← et] at d1 d3
        exact ⟨by rw [d1], _, q', c', d3.symm, by omega, h⟩
      | false =>
        have hq := hq hpd
        obtain ⟨d1, d2, d3⟩ := pout_C (k := k) (v := n) (e := x) hpd (by omega)
        rw [← et] at d1
        rw [d2] at h
        exact ⟨by rw [d1], _, q', c', by rw [et, d3], by omega, h⟩
    clear h
    rintro w b3
    intros
    rename_i hI4
    obtain ⟨hvs3, M, q2, c2, hM, hMl, h⟩ := hI4
    obtain rfl : b3 = pdone k (R.take (i + 1)) := by simpa using hvs3
    let S : World → Prop := fun w => Own e w (imm hb0 :: B24 g4 q2 M.length c2 m :: slO 64 2 q2 M.length c2 (E24 M) :: B24 g2 none 0 0 0 :: F)
    have h : S w := h
    refine Own.drw h fun w h => ⟨S, h, _, _, _, fun w h => Own.ld (g := g4) (k := 0) h (by repeat (first | with_reducible exact Pick.here | apply Pick.there)) rfl, _, _, _, fun w h => Own.immCell h hb (i := 0) rfl, by omega, by omega, smR ⟨_, _, ⟨fun w h => (rd _ _ _ h).1, fun w h => (rd _ _ _ h).2⟩, Own.newR h fun g5 w h => ⟨?_, ?_⟩⟩⟩
    · exact h.drop
    · have h : Own e w (blk g5 64 [.int .u64 x.1, .int .i64 x.2] :: slO 64 2 q2 M.length c2 (E24 M) :: imm hb0 :: B24 g4 q2 M.length c2 m :: B24 g2 none 0 0 0 :: F) := (Own.sub (h) (by repeat (first | with_reducible exact Sub.nil _ | with_reducible exact Sub.rfl _ | (apply Sub.cons; focus ((repeat (first | with_reducible exact Pick.here | apply Pick.there)); done)) | apply Sub.drop)))
      refine app24 (x := x) (by omega) h fun q3 c3 w h => ⟨_, _, _, rfl, Own.stP (g := g4) (k := 0) h (by repeat (first | with_reducible exact Pick.here | apply Pick.there)) (by simp) (by simp [Value.oneCell']) fun w h => ⟨z - 1, by omega, i + 1, q3, c3, rfl, by omega, ?_⟩⟩
      simp only [setFrom, List.set_cons_zero, List.set_cons_succ, List.set_nil] at h
      rw [hM] at h
      exact (Own.sub (h) (by repeat (first | exact Sub.nil _ | exact Sub.rfl _ | (apply Sub.cons; focus ((repeat (first | with_reducible exact Pick.here | apply Pick.there)); done)) | apply Sub.drop)))
  · have hc := dec_f hc
    obtain rfl : i = R.length := by omega
    rw [List.take_length] at h hpl ⊢
    obtain ⟨e1, e2⟩ := pout_end (k := k) (v := n) (l := R)
    refine ⟨fun vs w => vs = [] ∧ ∃ (q' : Option Addr) (c' : Nat), Own e w (imm hb0 :: B24 g4 q' (lput k n R).length c' m :: slO 64 2 q' (lput k n R).length c' (E24 (lput k n R)) :: B24 g2 none 0 0 0 :: F), ⟨fun hq => ?_, fun hq => ?_⟩, ?_⟩
    · have e2 := e2 (by simpa using hq)
      refine ⟨_, _, _, Own.ld (g := g4) (k := 0) h (by repeat (first | with_reducible exact Pick.here | apply Pick.there)) rfl, h.newR fun g5 w h => ?_⟩
      have h : Own e w (blk g5 64 [.int .u64 (k, n).1, .int .i64 (k, n).2] :: slO 64 2 q' (pout k n R).length c' (E24 (pout k n R)) :: imm hb0 :: B24 g4 q' (pout k n R).length c' m :: B24 g2 none 0 0 0 :: F) := (Own.sub (h) (by repeat (first | with_reducible exact Sub.nil _ | with_reducible exact Sub.rfl _ | (apply Sub.cons; focus ((repeat (first | with_reducible exact Pick.here | apply Pick.there)); done)) | apply Sub.drop)))
      refine app24 (x := (k, n)) (by omega) h fun q3 c3 w h => ⟨_, _, _, rfl, Own.stP (g := g4) (k := 0) h (by repeat (first | with_reducible exact Pick.here | apply Pick.there)) (by simp) (by simp [Value.oneCell']) fun w h => ⟨rfl, q3, c3, ?_⟩⟩
      simp only [setFrom, List.set_cons_zero, List.set_cons_succ, List.set_nil] at h
      rw [e2] at h
      exact (Own.sub (h) (by repeat (first | exact Sub.nil _ | exact Sub.rfl _ | (apply Sub.cons; focus ((repeat (first | with_reducible exact Pick.here | apply Pick.there)); done)) | apply Sub.drop)))
    · have e1 := e1 (by simpa using hq)
      rw [e1] at h
      exact ⟨rfl, q', c', h⟩
    clear h
    rintro w
    intros
    rename_i hI5
    obtain ⟨_, q3, c3, h⟩ := hI5
    refine ⟨_, _, _, _, ⟨Own.ld (g := g4) (k := 0) h (by repeat (first | with_reducible exact Pick.here | apply Pick.there)) rfl, Own.ld (g := g4) (k := 1) h (by repeat (first | with_reducible exact Pick.here | apply Pick.there)) rfl⟩, Own.stP' (g := g2) h (by repeat (first | with_reducible exact Pick.here | apply Pick.there)) (by simp) (by simp [Value.oneCell']) fun w h => ?_⟩
    simp only [setFrom, List.set_cons_zero, List.set_cons_succ, List.set_nil] at h
    refine ⟨_, _, _, _, ⟨Own.ld (g := g2) (k := 0) h (by repeat (first | with_reducible exact Pick.here | apply Pick.there)) rfl, Own.ld (g := g2) (k := 1) h (by repeat (first | with_reducible exact Pick.here | apply Pick.there)) rfl⟩, ?_⟩
    have h : Own e w (slO 64 2 q3 (lput k n R).length c3 (E24 (lput k n R)) :: imm hb0 :: F) := (Own.sub (h) (by repeat (first | exact Sub.nil _ | exact Sub.rfl _ | (apply Sub.cons; focus ((repeat (first | with_reducible exact Pick.here | apply Pick.there)); done)) | apply Sub.drop)))
    obtain ⟨h3, le3, hR3, hnc3, h⟩ := h.slImm
    exact ⟨h3, _, _, rfl, LeH.trans le0 (LeH.trans le1 (LeH.trans le2 le3)), hR3, hnc3, h⟩
theorem rAdd (ok : LgOk s) (hl : s.t.size ≤ 600) (hI : ImR h0 q (E24 s.t.toL)) (hnc : s.t.toL.length ≤ c) (h : Own e w (imm h0 :: F)) : Rets Tryz.prog 55 #[L24 q s.t.toL.length c s.most, .int .u64 k, .int .i64 n] w (R24b e F h0 (lgAdd k n s).1.t.toL (lgAdd k n s).1.most (lgAdd k n s).2) := by
  have hnn := ok.nn
  have hsz := Tr.size_toL s.t
  obtain ⟨o1, o2, o3, o4, o5⟩ := ok
  have ey : (lfind k s.t.toL).isSome = false → 0 ≤ n ∧ s.used + n ≤ s.most → (lgAdd k n s) = (⟨tput k n s.t, s.used + n, s.most⟩, true) := fun h1 h2 => by unfold lgAdd; rw [if_neg (by rw [h1]; simp), if_pos h2]
  have en : ¬ ((lfind k s.t.toL).isSome = false ∧ 0 ≤ n ∧ s.used + n ≤ s.most) → lgAdd k n s = (s, false) := fun h1 => by
    unfold lgAdd
    split
    · rfl
    · rename_i hf; rw [if_neg (fun h2 => h1 ⟨by simpa using hf, h2⟩)]
  obtain ⟨X, hX⟩ : ∃ X, X = lgAdd k n s := ⟨_, rfl⟩
  rw [← hX] at ey en ⊢
  clear hX
  refine cortadoref24_Add_go _ _ _ _ _ _ (h.newR fun ga w h => ?_)
  obtain ⟨ha0, le0, ha, hh⟩ := Own.absorb h
  clear h
  have h := hh
  clear hh
  have hI := hI.mono le0
  refine h.newR fun g2 w h => ?_
  have h : Own e w (imm ha0 :: B24 g2 none 0 0 0 :: F) := h.swap
  refine ⟨_, _, _, _, ⟨h.immCell ha (i := 0) rfl, h.immCell ha (i := 1) rfl⟩, ?_⟩
  refine Rets.mono (rCost (k := k) (by omega) hI h) ?_
  clear h
  rintro _ w ⟨rfl, h⟩
  let S : World → Prop := fun w => Own e w (imm ha0 :: B24 g2 none 0 0 0 :: F)
  have h : S w := h
  refine ⟨_, _, rfl, fun vs w => ∃ b, vs = [.bool b] ∧ (b = false ↔ ((lfind k s.t.toL).isSome = false ∧ 0 ≤ n ∧ s.used + n ≤ s.most)) ∧ S w, Own.drw h fun w h => ⟨S, h, fun hf => ?_, fun hf => ?_⟩, ?_⟩
  · refine Rets.mono (rRight h) ?_
    clear h
    rintro _ w ⟨rfl, h⟩
    refine ⟨_, rfl, h, fun hb => ⟨_, fun w h => Own.immCell h ha (i := 1) rfl, _, _, _, _, ⟨fun w h => Own.immCell h ha (i := 0) rfl, fun w h => Own.immCell h ha (i := 1) rfl⟩, ?_⟩, fun hb => ?_⟩
    · have hb := rightB_t.1 (by simpa using hb)
      refine Rets.mono (rUsed o3 (by omega) (by omega) hI h) ?_
      clear h
      rintro _ w ⟨rfl, h⟩
      rw [o2]
      refine ⟨_, rfl, h, _, rfl, ?_, h⟩
      rw [wI64 (by omega) (by omega), decide_eq_false_iff_not]
      exact ⟨fun h1 => ⟨hf, hb.1, by omega⟩, fun h1 => by omega⟩
    · have hb := rightB_f.1 (by simpa using hb)
      exact ⟨_, rfl, ⟨fun h1 => (by cases h1), fun h1 => by omega⟩, h⟩
  · exact ⟨_, rfl, ⟨fun h1 => (by cases h1), fun h1 => (by rw [hf] at h1; cases h1.1)⟩, h⟩
  clear h
  rintro w
  intros
  rename_i b3 hI3
  obtain ⟨b, hvs, hb, h⟩ := hI3
  obtain rfl : b3 = b := by simpa using hvs
  have h : Own e w (imm ha0 :: B24 g2 none 0 0 0 :: F) := h
  refine ⟨fun hq => ?_, fun hq => ?_⟩
  · rw [en (fun h1 => by rw [hb.2 h1] at hq; cases hq)]
    refine ⟨_, _, _, _, ⟨h.immCell ha (i := 0) rfl, h.immCell ha (i := 1) rfl⟩, Own.stP' (g := g2) h (by repeat (first | with_reducible exact Pick.here | apply Pick.there)) (by simp) (by simp [Value.oneCell']) fun w h => ?_⟩
    simp only [setFrom, List.set_cons_zero, List.set_cons_succ, List.set_nil] at h
    refine ⟨_, _, _, _, ⟨Own.ld (g := g2) (k := 0) h (by repeat (first | with_reducible exact Pick.here | apply Pick.there)) rfl, Own.ld (g := g2) (k := 1) h (by repeat (first | with_reducible exact Pick.here | apply Pick.there)) rfl⟩, ?_⟩
    have h : Own e w (imm ha0 :: F) := (Own.sub (h) (by repeat (first | exact Sub.nil _ | exact Sub.rfl _ | (apply Sub.cons; focus ((repeat (first | with_reducible exact Pick.here | apply Pick.there)); done)) | apply Sub.drop)))
    exact ⟨ha0, _, _, rfl, le0, hI, hnc, h⟩
  · obtain ⟨y1, y2⟩ := hb.1 hq
    rw [ey y1 y2]
    refine ⟨_, _, _, _, ⟨h.immCell ha (i := 0) rfl, h.immCell ha (i := 1) rfl⟩, ?_⟩
    refine Rets.mono (rset (k := k) (n := n) o1 (by omega) hI h) ?_
    clear h
    rintro _ w ⟨h1, q1, c1, rfl, le1, hR, hnc, h⟩
    refine ⟨_, _, _, _, rfl, Own.stP' (g := g2) h (by repeat (first | with_reducible exact Pick.here | apply Pick.there)) (by simp) (by simp [Value.oneCell']) fun w h => ?_⟩
    simp only [setFrom, List.set_cons_zero, List.set_cons_succ, List.set_nil] at h
    refine ⟨_, _, _, _, ⟨Own.ld (g := g2) (k := 0) h (by repeat (first | with_reducible exact Pick.here | apply Pick.there)) rfl, Own.ld (g := g2) (k := 1) h (by repeat (first | with_reducible exact Pick.here | apply Pick.there)) rfl⟩, ?_⟩
    have h : Own e w (imm h1 :: F) := (Own.sub (h) (by repeat (first | exact Sub.nil _ | exact Sub.rfl _ | (apply Sub.cons; focus ((repeat (first | with_reducible exact Pick.here | apply Pick.there)); done)) | apply Sub.drop)))
    have ep := tput_toL k n s.t o1
    rw [← ep] at hR hnc ⊢
    exact ⟨h1, _, _, rfl, LeH.trans le0 le1, hR, hnc, h⟩
end
end Go.Proofs.YtggflkjdgcdcmaaGreatDoor.Eng
