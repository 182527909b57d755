/- Joined: ExP ExQ ExR ExV ExW ExX ExY ExN. -/
import Derived.Test.YtjdbeopgmpbikaaDoorRkW
import Derived.Test.YtjdbeopgmpbikaaDoorExaG
import Derived.Test.YtjdbeopgmpbikaaDoorExcG
import Derived.Test.YtjdbeopgmpbikaaDoorEngA
import Derived.Test.YtjdbeopgmpbikaaDoorExbG
import Derived.Test.YtjdbeopgmpbikaaDoorExdG
namespace Go.Proofs.YtjdbeopgmpbikaaDoor.Eng
open Go Go.RowKit Go.Proofs
set_option linter.unusedVariables false
set_option linter.unusedSimpArgs false
set_option maxRecDepth 1000000
/-- A value: 2n + came. -/
def vB (v : Int) : Bool := decide (v % 2 = 1)
def vN (v : Int) : Int := v / 2
abbrev vA (v : Int) : Value := .agg #[.bool (vB v), .int .i64 (vN v)]
abbrev vC (v : Int) : List Value := [.bool (vB v), .int .i64 (vN v)]
abbrev nodC (k v : Int) (pl pr : Option Addr) (l r : Tr) : List Value := [.int .u64 k, .bool (vB v), .int .i64 (vN v), .pointer pl, .pointer pr, .int .i64 (((Tr.node k v l r).size : Nat) : Int), .int .i64 (((Tr.node k v l r).deep : Nat) : Int)]
def TrA (h0 : Nat → Option Obj) : Tr → Option Addr → Prop
  | .nil, p => p = none
  | .node k v l r, p => ∃ (g : Nat) (pl pr : Option Addr), p = some ⟨g, 0, none⟩ ∧ h0 g = some (.cells (nodC k v pl pr l r).toArray 90 (0, 0)) ∧ TrA h0 l pl ∧ TrA h0 r pr
theorem TrA.mono {h0 h1 : Nat → Option Obj} (hle : LeH h0 h1) : ∀ {t : Tr} {p : Option Addr}, TrA h0 t p → TrA h1 t p
  | .nil, _, h => h
  | .node k v l r, _, ⟨g, pl, pr, a1, a2, a3, a4⟩ => ⟨g, pl, pr, a1, hle _ _ a2, TrA.mono hle a3, TrA.mono hle a4⟩
theorem deep_le : ∀ t : Tr, t.deep ≤ t.size
  | .nil => Nat.le_refl _
  | .node k v l r => by
    have := deep_le l; have := deep_le r
    simp only [Tr.deep, Tr.size]; omega
theorem size_joined (k v : Int) (l r : Tr) : (joined k v l r).size = l.size + r.size + 1 := by
  rw [← Tr.size_toL, toL_joined, List.length_append, List.length_cons, Tr.size_toL, Tr.size_toL]; omega
theorem size_first (l : Tr) (k v : Int) (r : Tr) : (tfirst k v r l).1.size = l.size + r.size := by
  have := congrArg List.length (tfirst_toL l k v r)
  rw [List.length_cons, List.length_append, List.length_cons, Tr.size_toL, Tr.size_toL, Tr.size_toL] at this
  omega
theorem size_both (l r : Tr) : (tboth l r).size = l.size + r.size := by
  rw [← Tr.size_toL, tboth_toL, List.length_append, Tr.size_toL, Tr.size_toL]
theorem size_put (k v : Int) : ∀ t : Tr, (tput k v t).size ≤ t.size + 1
  | .nil => Nat.le_refl _
  | .node x xv l r => by
    have i1 := size_put k v l; have i2 := size_put k v r
    unfold tput
    split
    · rw [size_joined]; simp only [Tr.size]; omega
    · split
      · rw [size_joined]; simp only [Tr.size]; omega
      · simp only [Tr.size]; omega
theorem size_drop (k : Int) : ∀ t : Tr, (tdrop k t).size ≤ t.size
  | .nil => Nat.le_refl _
  | .node x xv l r => by
    have i1 := size_drop k l; have i2 := size_drop k r
    unfold tdrop
    split
    · rw [size_joined]; simp only [Tr.size]; omega
    · split
      · rw [size_joined]; simp only [Tr.size]; omega
      · rw [size_both]; simp only [Tr.size]; omega
/-- A part is told. -/
abbrev RT (e : World) (F : List HP) (h0 : Nat → Option Obj) (t : Tr) (v : Value) (w' : World) : Prop := ∃ (h1 : Nat → Option Obj) (p : Option Addr), v = .pointer p ∧ LeH h0 h1 ∧ TrA h1 t p ∧ Own e w' (imm h1 :: F)
def ordI (x y : Int) : Int := if x < y then -1 else if x > y then 1 else 0
theorem ordI_lt {x y : Int} : ordI x y < 0 ↔ x < y := by unfold ordI; split <;> (try split) <;> omega
theorem ordI_gt {x y : Int} : ordI x y > 0 ↔ y < x := by unfold ordI; split <;> (try split) <;> omega
theorem ordI_eq {x y : Int} : ordI x y = 0 ↔ x = y := by unfold ordI; split <;> (try split) <;> omega
def TrOrd (h0 : Nat → Option Obj) (g : Nat) (p : Option Addr) : Prop := h0 g = some (.cells #[.func (.func 42) #[] #[], .pointer p] 92 (0, 0))
def tfind (k : Int) : Tr → Nat → Option (Int × Int) × Nat
  | .nil, a => (none, a)
  | .node x xv l r, a => if k = x then (some (x, xv), a + l.size) else if k < x then tfind k l a else tfind k r (a + l.size + 1)
theorem tfind_le (k : Int) : ∀ (t : Tr) (a : Nat), (tfind k t a).2 ≤ a + t.size
  | .nil, a => Nat.le_refl _
  | .node x xv l r, a => by
    have i1 := tfind_le k l a; have i2 := tfind_le k r (a + l.size + 1)
    unfold tfind
    split
    · simp only [Tr.size]; omega
    · split <;> simp only [Tr.size] <;> omega
def tat : Tr → Nat → Option (Int × Int)
  | .nil, _ => none
  | .node x xv l r, i => if i < l.size then tat l i else if i > l.size then tat r (i - l.size - 1) else some (x, xv)
theorem RT.le {e : World} {F : List HP} {h0 h1 : Nat → Option Obj} {t : Tr} {v : Value} {w' : World} (hle : LeH h0 h1) : RT e F h1 t v w' → RT e F h0 t v w'
  | ⟨h2, p, a, b, c, d⟩ => ⟨h2, p, a, LeH.trans hle b, c, d⟩
section
variable {e w : World} {F : List HP} {h0 : Nat → Option Obj} {t l r : Tr} {p q : Option Addr} {k v : Int} {g : Nat}
theorem rkNan {x : Int} (h : Own e w F) : Rets Tryd.prog 61 #[.int .u64 x] w fun v w' => v = .bool false ∧ Own e w' F :=
  cmp_isNaN_uint64_go _ ⟨by simp, h⟩
theorem rkOrder {x y : Int} (h : Own e w F) : Rets Tryd.prog 42 #[.int .u64 x, .int .u64 y] w fun v w' => v = .int .i64 (ordI x y) ∧ Own e w' F := by
  refine cmp_Compare_uint64_go _ _ ?_
  refine Rets.mono (rkNan h) ?_
  rintro _ w ⟨rfl, h⟩
  refine ⟨_, rfl, ?_⟩
  refine Rets.mono (rkNan h) ?_
  rintro _ w ⟨rfl, h⟩
  refine ⟨_, rfl, fun vs w => Own e w F, ⟨fun hc => (by cases hc), fun _ => h⟩, ?_⟩
  clear h
  rintro w
  intros
  rename_i h
  refine ⟨fun hc => (by cases hc), fun _ => ⟨fun hc => ?_, fun hc => ⟨fun hc2 => ?_, fun hc2 => ?_⟩⟩⟩
  · exact ⟨by unfold ordI; rw [if_pos (dec_t hc)], h⟩
  · exact ⟨by unfold ordI; rw [if_neg (dec_f hc), if_pos (dec_t hc2)], h⟩
  · exact ⟨by unfold ordI; rw [if_neg (dec_f hc), if_neg (dec_f hc2)], h⟩
theorem rkSize (ht : TrA h0 t p) (h : Own e w (imm h0 :: F)) : Rets Tryd.prog 58 #[.pointer p] w fun v w' => v = .int .i64 (t.size : Int) ∧ Own e w' (imm h0 :: F) := by
  cases t with
  | nil =>
    obtain rfl : p = none := ht
    exact rank_nil_size_go ⟨fun _ => ⟨rfl, h⟩, fun hc => (by cases hc)⟩
  | node k v l r =>
    obtain ⟨g, pl, pr, rfl, hg, hl, hr⟩ := ht
    exact rank_size_int_int_go _ ⟨fun hc => (by cases hc), fun _ => ⟨_, h.immCell hg (i := 5) rfl, rfl, h⟩⟩
theorem rkDeep (ht : TrA h0 t p) (h : Own e w (imm h0 :: F)) : Rets Tryd.prog 75 #[.pointer p] w fun v w' => v = .int .i64 (t.deep : Int) ∧ Own e w' (imm h0 :: F) := by
  cases t with
  | nil =>
    obtain rfl : p = none := ht
    exact rank_nil_deep_go ⟨fun _ => ⟨rfl, h⟩, fun hc => (by cases hc)⟩
  | node k v l r =>
    obtain ⟨g, pl, pr, rfl, hg, hl, hr⟩ := ht
    exact rank_deep_int_int_go _ ⟨fun hc => (by cases hc), fun _ => ⟨_, h.immCell hg (i := 6) rfl, rfl, h⟩⟩
theorem rkMade (hl : TrA h0 l p) (hr : TrA h0 r q) (hs : l.size + r.size ≤ 1000) (h : Own e w (imm h0 :: F)) : Rets Tryd.prog 66 #[.int .u64 k, vA v, .pointer p, .pointer q] w (RT e F h0 (.node k v l r)) := by
  have d1 := deep_le l
  have d2 := deep_le r
  refine rank_made_int_int_go _ _ _ _ _ (h.newR fun ga w h => ?_)
  obtain ⟨ha0, le0, ha, h⟩ := Own.absorb h
  have hl := hl.mono le0
  have hr := hr.mono le0
  refine h.drw fun w h => ⟨fun w => Own e w (imm ha0 :: F), h, _, _, ⟨fun w h => h.immCell ha (i := 0) rfl, fun w h => h.immCell ha (i := 1) rfl⟩, ?_⟩
  refine Rets.mono (rkSize hl h) ?_
  clear h
  rintro _ w ⟨rfl, h⟩
  refine ⟨_, rfl, h, ?_⟩
  refine Rets.mono (rkSize hr h) ?_
  clear h
  rintro _ w ⟨rfl, h⟩
  refine ⟨_, rfl, h, ?_⟩
  refine Rets.mono (rkDeep hl h) ?_
  clear h
  rintro _ w ⟨rfl, h⟩
  refine ⟨_, rfl, h, ?_⟩
  refine Rets.mono (rkDeep hr h) ?_
  clear h
  rintro _ w ⟨rfl, h⟩
  refine ⟨_, rfl, h, h.newR fun g w h => ?_⟩
  have e1 : IntKind.wrap .i64 (IntKind.wrap .i64 ((l.size : Int) + (r.size : Int)) + 1) = (((Tr.node k v l r).size : Nat) : Int) := by
    rw [wI64 (n := (l.size : Int) + (r.size : Int)) (by omega) (by omega), wI64 (by omega) (by omega)]
    simp only [Tr.size]; omega
  have e2 : IntKind.wrap .i64 (maxI (l.deep : Int) (r.deep : Int) + 1) = (((Tr.node k v l r).deep : Nat) : Int) := by
    have : maxI (l.deep : Int) (r.deep : Int) = ((max l.deep r.deep : Nat) : Int) := by unfold maxI; split <;> omega
    rw [this, wI64 (by omega) (by omega)]
    simp only [Tr.deep]; omega
  rw [e1, e2] at h
  obtain ⟨h1, le1, hg, h⟩ := Own.absorb h
  exact ⟨h1, _, rfl, LeH.trans le0 le1, ⟨g, p, q, rfl, hg, hl.mono le1, hr.mono le1⟩, h⟩
theorem rkLeftUp {lk lv : Int} {ll lr : Tr} (hl : TrA h0 (.node lk lv ll lr) (some ⟨g, 0, none⟩)) (hr : TrA h0 r q) (hs : (Tr.node lk lv ll lr).size + r.size ≤ 900) (h : Own e w (imm h0 :: F)) :
    Rets Tryd.prog 76 #[.int .u64 k, vA v, .pointer (some ⟨g, 0, none⟩), .pointer q] w (RT e F h0 (leftUp k v (.node lk lv ll lr) r)) := by
  refine rank_leftUp_int_int_go _ _ _ _ _ (h.newR fun ga w h => ?_)
  obtain ⟨ha0, le0, ha, h⟩ := Own.absorb h
  have hl := hl.mono le0
  have hr := hr.mono le0
  obtain ⟨g', pl, pr, hp, hg, hll, hlr⟩ := hl
  cases hp
  simp only [Tr.size] at hs
  refine ⟨_, h.immCell hg (i := 4) rfl, _, h.immCell hg (i := 3) rfl, ?_⟩
  refine Rets.mono (rkDeep hll h) ?_
  clear h
  rintro _ w ⟨rfl, h⟩
  refine ⟨_, rfl, ?_⟩
  refine Rets.mono (rkDeep hlr h) ?_
  clear h
  rintro _ w ⟨rfl, h⟩
  refine ⟨_, rfl, fun hc => ?_, fun hc => ?_⟩
  · have hc := dec_t hc
    cases lr with
    | nil => simp only [Tr.deep] at hc; omega
    | node mk mv ml mr =>
      obtain ⟨gm, pml, pmr, hpm, hgm, hml, hmr⟩ := hlr
      cases hpm
      have hd : ll.deep < (Tr.node mk mv ml mr).deep := by omega
      have el : leftUp k v (.node lk lv ll (.node mk mv ml mr)) r = .node mk mv (.node lk lv ll ml) (.node k v mr r) := by unfold leftUp; exact if_pos hd
      rw [el]
      simp only [Tr.size] at hs
      refine h.drw fun w h => ⟨fun w => Own e w (imm ha0 :: F), h, smR (smR (smR (smR ⟨_, fun w h => h.immCell hgm (i := 0) rfl, _, _, ⟨fun w h => h.immCell hgm (i := 1) rfl, fun w h => h.immCell hgm (i := 2) rfl⟩, _, fun w h => h.immCell hg (i := 0) rfl, _, _, ⟨fun w h => h.immCell hg (i := 1) rfl, fun w h => h.immCell hg (i := 2) rfl⟩, _, fun w h => h.immCell hg (i := 3) rfl, _, fun w h => h.immCell hgm (i := 3) rfl, _, _, ⟨fun w h => h.immCell ha (i := 0) rfl, fun w h => h.immCell ha (i := 1) rfl⟩, _, fun w h => h.immCell hgm (i := 4) rfl, ?_⟩)))⟩
      refine Rets.mono (rkMade hll hml (by omega) h) ?_
      clear h
      rintro _ w ⟨h1, p1, rfl, le1, t1, h⟩
      refine ⟨_, rfl, h.immLe le1, ?_⟩
      refine Rets.mono (rkMade (hmr.mono le1) (hr.mono le1) (by omega) h) ?_
      clear h
      rintro _ w ⟨h2, p2, rfl, le2, t2, h⟩
      refine ⟨_, rfl, h.immLe (LeH.trans le1 le2), ?_⟩
      refine Rets.mono (rkMade (t1.mono le2) t2 (by simp only [Tr.size]; omega) h) ?_
      clear h
      rintro _ w ⟨h3, p3, rfl, le3, t3, h⟩
      exact ⟨_, rfl, h3, p3, rfl, LeH.trans le0 (LeH.trans (LeH.trans le1 le2) le3), t3, h⟩
  · have hc := dec_f hc
    have el : leftUp k v (.node lk lv ll lr) r = .node lk lv ll (.node k v lr r) := by
      cases lr with
      | nil => rfl
      | node mk mv ml mr => unfold leftUp; exact if_neg (by omega)
    rw [el]
    refine h.drw fun w h => ⟨fun w => Own e w (imm ha0 :: F), h, _, fun w h => h.immCell hg (i := 0) rfl, _, _, ⟨fun w h => h.immCell hg (i := 1) rfl, fun w h => h.immCell hg (i := 2) rfl⟩, _, fun w h => h.immCell hg (i := 3) rfl, _, _, ⟨fun w h => h.immCell ha (i := 0) rfl, fun w h => h.immCell ha (i := 1) rfl⟩, _, fun w h => h.immCell hg (i := 4) rfl, ?_⟩
    refine Rets.mono (rkMade hlr hr (by omega) h) ?_
    clear h
    rintro _ w ⟨h1, p1, rfl, le1, t1, h⟩
    refine ⟨_, rfl, h.immLe le1, ?_⟩
    refine Rets.mono (rkMade (hll.mono le1) t1 (by simp only [Tr.size]; omega) h) ?_
    clear h
    rintro _ w ⟨h2, p2, rfl, le2, t2, h⟩
    exact ⟨_, rfl, h2, p2, rfl, LeH.trans le0 (LeH.trans le1 le2), t2, h⟩
theorem rkRightUp {rk rv : Int} {rl rr : Tr} (hl : TrA h0 l p) (hr : TrA h0 (.node rk rv rl rr) (some ⟨g, 0, none⟩)) (hs : (Tr.node rk rv rl rr).size + l.size ≤ 900) (h : Own e w (imm h0 :: F)) :
    Rets Tryd.prog 77 #[.int .u64 k, vA v, .pointer p, .pointer (some ⟨g, 0, none⟩)] w (RT e F h0 (rightUp k v l (.node rk rv rl rr))) := by
  refine rank_rightUp_int_int_go _ _ _ _ _ (h.newR fun ga w h => ?_)
  obtain ⟨ha0, le0, ha, h⟩ := Own.absorb h
  have hl := hl.mono le0
  have hr := hr.mono le0
  obtain ⟨g', pl, pr, hp, hg, hrl, hrr⟩ := hr
  cases hp
  simp only [Tr.size] at hs
  refine ⟨_, h.immCell hg (i := 3) rfl, _, h.immCell hg (i := 4) rfl, ?_⟩
  refine Rets.mono (rkDeep hrr h) ?_
  clear h
  rintro _ w ⟨rfl, h⟩
  refine ⟨_, rfl, ?_⟩
  refine Rets.mono (rkDeep hrl h) ?_
  clear h
  rintro _ w ⟨rfl, h⟩
  refine ⟨_, rfl, fun hc => ?_, fun hc => ?_⟩
  · have hc := dec_t hc
    cases rl with
    | nil => simp only [Tr.deep] at hc; omega
    | node mk mv ml mr =>
      obtain ⟨gm, pml, pmr, hpm, hgm, hml, hmr⟩ := hrl
      cases hpm
      have hd : rr.deep < (Tr.node mk mv ml mr).deep := by omega
      have el : rightUp k v l (.node rk rv (.node mk mv ml mr) rr) = .node mk mv (.node k v l ml) (.node rk rv mr rr) := by unfold rightUp; exact if_pos hd
      rw [el]
      simp only [Tr.size] at hs
      refine h.drw fun w h => ⟨fun w => Own e w (imm ha0 :: F), h, smR (smR (smR (smR ⟨_, fun w h => h.immCell hgm (i := 0) rfl, _, _, ⟨fun w h => h.immCell hgm (i := 1) rfl, fun w h => h.immCell hgm (i := 2) rfl⟩, _, _, ⟨fun w h => h.immCell ha (i := 0) rfl, fun w h => h.immCell ha (i := 1) rfl⟩, _, fun w h => h.immCell hgm (i := 3) rfl, _, fun w h => h.immCell hg (i := 0) rfl, _, _, ⟨fun w h => h.immCell hg (i := 1) rfl, fun w h => h.immCell hg (i := 2) rfl⟩, _, fun w h => h.immCell hgm (i := 4) rfl, _, fun w h => h.immCell hg (i := 4) rfl, ?_⟩)))⟩
      refine Rets.mono (rkMade hl hml (by omega) h) ?_
      clear h
      rintro _ w ⟨h1, p1, rfl, le1, t1, h⟩
      refine ⟨_, rfl, h.immLe le1, ?_⟩
      refine Rets.mono (rkMade (hmr.mono le1) (hrr.mono le1) (by omega) h) ?_
      clear h
      rintro _ w ⟨h2, p2, rfl, le2, t2, h⟩
      refine ⟨_, rfl, h.immLe (LeH.trans le1 le2), ?_⟩
      refine Rets.mono (rkMade (t1.mono le2) t2 (by simp only [Tr.size]; omega) h) ?_
      clear h
      rintro _ w ⟨h3, p3, rfl, le3, t3, h⟩
      exact ⟨_, rfl, h3, p3, rfl, LeH.trans le0 (LeH.trans (LeH.trans le1 le2) le3), t3, h⟩
  · have hc := dec_f hc
    have el : rightUp k v l (.node rk rv rl rr) = .node rk rv (.node k v l rl) rr := by
      cases rl with
      | nil => rfl
      | node mk mv ml mr => unfold rightUp; exact if_neg (by omega)
    rw [el]
    refine h.drw fun w h => ⟨fun w => Own e w (imm ha0 :: F), h, _, fun w h => h.immCell hg (i := 0) rfl, _, _, ⟨fun w h => h.immCell hg (i := 1) rfl, fun w h => h.immCell hg (i := 2) rfl⟩, _, _, ⟨fun w h => h.immCell ha (i := 0) rfl, fun w h => h.immCell ha (i := 1) rfl⟩, _, fun w h => h.immCell hg (i := 3) rfl, _, fun w h => h.immCell hg (i := 4) rfl, ?_⟩
    refine Rets.mono (rkMade hl hrl (by omega) h) ?_
    clear h
    rintro _ w ⟨h1, p1, rfl, le1, t1, h⟩
    refine ⟨_, rfl, h.immLe le1, ?_⟩
    refine Rets.mono (rkMade t1 (hrr.mono le1) (by simp only [Tr.size]; omega) h) ?_
    clear h
    rintro _ w ⟨h2, p2, rfl, le2, t2, h⟩
    exact ⟨_, rfl, h2, p2, rfl, LeH.trans le0 (LeH.trans le1 le2), t2, h⟩
theorem rkJoined (hl : TrA h0 l p) (hr : TrA h0 r q) (hs : l.size + r.size ≤ 900) (h : Own e w (imm h0 :: F)) : Rets Tryd.prog 67 #[.int .u64 k, vA v, .pointer p, .pointer q] w (RT e F h0 (joined k v l r)) := by
  have d1 := deep_le l
  have d2 := deep_le r
  refine rank_joined_int_int_go _ _ _ _ _ (h.newR fun ga w h => ?_)
  obtain ⟨ha0, le0, ha, h⟩ := Own.absorb h
  have hl := hl.mono le0
  have hr := hr.mono le0
  refine Rets.mono (rkDeep hl h) ?_
  clear h
  rintro _ w ⟨rfl, h⟩
  refine ⟨_, rfl, ?_⟩
  refine Rets.mono (rkDeep hr h) ?_
  clear h
  rintro _ w ⟨rfl, h⟩
  refine ⟨_, rfl, ?_⟩
  rw [wI64 (n := (l.deep : Int) - (r.deep : Int)) (by omega) (by omega)]
  unfold joined
  refine ⟨fun hc => ?_, fun hc => ⟨fun hc2 => ?_, fun hc2 => ?_⟩⟩
  · have hc := dec_t hc
    rw [if_pos (by omega)]
    cases l with
    | nil => simp only [Tr.deep] at hc; omega
    | node lk lv ll lr =>
      have hl' := hl
      obtain ⟨g, pl, pr, rfl, _⟩ := hl'
      refine ⟨_, _, ⟨h.immCell ha (i := 0) rfl, h.immCell ha (i := 1) rfl⟩, Rets.mono (rkLeftUp hl hr hs h) ?_⟩
      clear h
      rintro _ w ⟨h1, p1, rfl, le1, t1, h⟩
      exact ⟨_, rfl, h1, p1, rfl, LeH.trans le0 le1, t1, h⟩
  · have hc := dec_f hc
    have hc2 := dec_t hc2
    rw [if_neg (by omega), if_pos (by omega)]
    cases r with
    | nil => simp only [Tr.deep] at hc2; omega
    | node lk lv ll lr =>
      have hr' := hr
      obtain ⟨g, pl, pr, rfl, _⟩ := hr'
      refine ⟨_, _, ⟨h.immCell ha (i := 0) rfl, h.immCell ha (i := 1) rfl⟩, Rets.mono (rkRightUp hl hr (by omega) h) ?_⟩
      clear h
      rintro _ w ⟨h1, p1, rfl, le1, t1, h⟩
      exact ⟨_, rfl, h1, p1, rfl, LeH.trans le0 le1, t1, h⟩
  · have hc := dec_f hc
    have hc2 := dec_f hc2
    rw [if_neg (by omega), if_neg (by omega)]
    refine ⟨_, _, ⟨h.immCell ha (i := 0) rfl, h.immCell ha (i := 1) rfl⟩, Rets.mono (rkMade hl hr (by omega) h) ?_⟩
    clear h
    rintro _ w ⟨h1, p1, rfl, le1, t1, h⟩
    exact ⟨_, rfl, h1, p1, rfl, LeH.trans le0 le1, t1, h⟩
theorem rkput {pt : Option Addr} : ∀ (t : Tr) (h0 : Nat → Option Obj) (p : Option Addr) (w : World), TrOrd h0 g pt → TrA h0 t p → t.size ≤ 700 → Own e w (imm h0 :: F) →
    Rets Tryd.prog 49 #[.pointer (some ⟨g, 0, none⟩), .pointer p, .int .u64 k, vA v] w (RT e F h0 (tput k v t))
  | .nil, h0, p, w, ho, ht, hs, h => by
    obtain rfl : p = none := ht
    refine rank_Tree_int_int_put_go _ _ _ _ _ (h.newR fun ga w h => ?_)
    obtain ⟨ha0, le0, ha, h⟩ := Own.absorb h
    refine ⟨fun _ => ⟨_, _, ⟨h.immCell ha (i := 0) rfl, h.immCell ha (i := 1) rfl⟩, ?_⟩, fun hc => (by cases hc)⟩
    refine Rets.mono (rkMade (l := .nil) (r := .nil) rfl rfl (by decide) h) ?_
    clear h
    rintro _ w ⟨h1, p1, rfl, le1, t1, h⟩
    exact ⟨_, rfl, h1, p1, rfl, LeH.trans le0 le1, t1, h⟩
  | .node x xv l r, h0, p, w, ho, ht, hs, h => by
    refine rank_Tree_int_int_put_go _ _ _ _ _ (h.newR fun ga w h => ?_)
    obtain ⟨ha0, le0, ha, h⟩ := Own.absorb h
    have ho : TrOrd ha0 g pt := le0 _ _ ho
    have ht := ht.mono le0
    obtain ⟨gn, pl, pr, rfl, hg, hl, hr⟩ := ht
    simp only [Tr.size] at hs
    have s1 := size_put k v l
    have s2 := size_put k v r
    refine ⟨fun hc => (by cases hc), fun _ => h.drw fun w h => smR ⟨_, _, _, h.immCell (vs := [.func (.func 42) #[] #[], .pointer pt]) ho (i := 0) rfl, _, h.immCell hg (i := 0) rfl, callG.mk Tryd.func42 (by kernel_rfl) ?_⟩⟩
    refine Rets.mono (rkOrder (x := k) (y := x) h) ?_
    clear h
    rintro _ w ⟨rfl, h⟩
    unfold tput
    refine ⟨_, rfl, fun hc => ?_, fun hc => ⟨fun hc2 => ?_, fun hc2 => ?_⟩⟩
    · have hc := ordI_lt.1 (dec_t hc)
      rw [if_pos hc]
      refine h.drw fun w h => ⟨fun w => Own e w (imm ha0 :: F), h, smR (smR (smR (smR ⟨_, fun w h => h.immCell hg (i := 0) rfl, _, _, ⟨fun w h => h.immCell hg (i := 1) rfl, fun w h => h.immCell hg (i := 2) rfl⟩, _, fun w h => h.immCell hg (i := 3) rfl, _, _, ⟨fun w h => h.immCell ha (i := 0) rfl, fun w h => h.immCell ha (i := 1) rfl⟩, _, fun w h => h.immCell hg (i := 4) rfl, ?_⟩)))⟩
      refine Rets.mono (rkput l ha0 pl w ho hl (by omega) h) ?_
      clear h
      rintro _ w ⟨h1, p1, rfl, le1, t1, h⟩
      refine ⟨_, rfl, h.immLe le1, ?_⟩
      refine Rets.mono (rkJoined t1 (hr.mono le1) (by omega) h) ?_
      clear h
      rintro _ w ⟨h2, p2, rfl, le2, t2, h⟩
      exact ⟨_, rfl, h2, p2, rfl, LeH.trans le0 (LeH.trans le1 le2), t2, h⟩
    · have hc := fun x => dec_f hc (ordI_lt.2 x)
      have hc2 := ordI_gt.1 (dec_t hc2)
      rw [if_neg hc, if_pos hc2]
      refine h.drw fun w h => ⟨fun w => Own e w (imm ha0 :: F), h, smR (smR (smR (smR ⟨_, fun w h => h.immCell hg (i := 0) rfl, _, _, ⟨fun w h => h.immCell hg (i := 1) rfl, fun w h => h.immCell hg (i := 2) rfl⟩, _, fun w h => h.immCell hg (i := 3) rfl, _, fun w h => h.immCell hg (i := 4) rfl, _, _, ⟨fun w h => h.immCell ha (i := 0) rfl, fun w h => h.immCell ha (i := 1) rfl⟩, ?_⟩)))⟩
      refine Rets.mono (rkput r ha0 pr w ho hr (by omega) h) ?_
      clear h
      rintro _ w ⟨h1, p1, rfl, le1, t1, h⟩
      refine ⟨_, rfl, h.immLe le1, ?_⟩
      refine Rets.mono (rkJoined (hl.mono le1) t1 (by omega) h) ?_
      clear h
      rintro _ w ⟨h2, p2, rfl, le2, t2, h⟩
      exact ⟨_, rfl, h2, p2, rfl, LeH.trans le0 (LeH.trans le1 le2), t2, h⟩
    · have hc := fun x => dec_f hc (ordI_lt.2 x)
      have hc2 := fun x => dec_f hc2 (ordI_gt.2 x)
      rw [if_neg hc, if_neg hc2]
      refine h.drw fun w h => smR (smR ⟨_, _, ⟨h.immCell ha (i := 0) rfl, h.immCell ha (i := 1) rfl⟩, _, h.immCell hg (i := 3) rfl, _, h.immCell hg (i := 4) rfl, ?_⟩)
      refine Rets.mono (rkMade hl hr (by omega) h) ?_
      clear h
      rintro _ w ⟨h1, p1, rfl, le1, t1, h⟩
      exact ⟨_, rfl, h1, p1, rfl, LeH.trans le0 le1, t1, h⟩
def TreeA (h0 : Nat → Option Obj) (t : Tr) (g : Nat) : Prop := ∃ p, TrOrd h0 g p ∧ TrA h0 t p
theorem TreeA.mono {h1 : Nat → Option Obj} (hle : LeH h0 h1) : TreeA h0 t g → TreeA h1 t g
  | ⟨p, a, b⟩ => ⟨p, hle _ _ a, b.mono hle⟩
abbrev RR (e : World) (F : List HP) (h0 : Nat → Option Obj) (t : Tr) (v : Value) (w' : World) : Prop := ∃ (h1 : Nat → Option Obj) (g : Nat), v = .pointer (some ⟨g, 0, none⟩) ∧ LeH h0 h1 ∧ TreeA h1 t g ∧ Own e w' (imm h1 :: F)
theorem rkNew (h : Own e w (imm h0 :: F)) : Rets Tryd.prog 41 #[.func (.func 42) #[] #[]] w (RR e F h0 .nil) := by
  refine rank_New_int_int_go _ ⟨fun hc => (by cases hc), fun _ => h.newR fun g w h => ?_⟩
  obtain ⟨h1, le1, hg, h⟩ := Own.absorb h
  exact ⟨h1, g, rfl, le1, ⟨none, hg, rfl⟩, h⟩
theorem rkPut (hT : TreeA h0 t g) (hs : t.size ≤ 700) (h : Own e w (imm h0 :: F)) : Rets Tryd.prog 27 #[.pointer (some ⟨g, 0, none⟩), .int .u64 k, vA v] w (RR e F h0 (tput k v t)) := by
  refine rank_Tree_int_int_Put_go _ _ _ _ (h.newR fun ga w h => ?_)
  obtain ⟨ha0, le0, ha, h⟩ := Own.absorb h
  obtain ⟨p, ho, ht⟩ := hT.mono le0
  refine ⟨fun hc => (by cases hc), fun _ => h.drw fun w h => ⟨fun w => Own e w (imm ha0 :: F), h, _, _, _, fun w h => h.immCell (vs := [.func (.func 42) #[] #[], .pointer p]) ho (i := 0) rfl, _, fun w h => h.immCell (vs := [.func (.func 42) #[] #[], .pointer p]) ho (i := 1) rfl, _, _, ⟨fun w h => h.immCell ha (i := 0) rfl, fun w h => h.immCell ha (i := 1) rfl⟩, ?_⟩⟩
  refine Rets.mono (rkput t ha0 p w ho ht hs h) ?_
  clear h
  rintro _ w ⟨h1, p1, rfl, le1, t1, h⟩
  refine ⟨_, rfl, h.immLe le1, h.newR fun g w h => ?_⟩
  obtain ⟨h2, le2, hg, h⟩ := Own.absorb h
  exact ⟨h2, g, rfl, LeH.trans le0 (LeH.trans le1 le2), ⟨p1, hg, t1.mono le2⟩, h⟩
theorem rkLen (hT : TreeA h0 t g) (h : Own e w (imm h0 :: F)) : Rets Tryd.prog 37 #[.pointer (some ⟨g, 0, none⟩)] w fun v w' => v = .int .i64 (t.size : Int) ∧ Own e w' (imm h0 :: F) := by
  obtain ⟨p, ho, ht⟩ := hT
  refine rank_Tree_int_int_Len_go _ ⟨fun hc => (by cases hc), fun _ => ⟨_, h.immCell (vs := [.func (.func 42) #[] #[], .pointer p]) ho (i := 1) rfl, ?_⟩⟩
  refine Rets.mono (rkSize ht h) ?_
  rintro _ w ⟨rfl, h⟩
  exact ⟨_, rfl, rfl, h⟩
def FoundA (h0 : Nat → Option Obj) (o : Option (Int × Int)) (p : Option Addr) : Prop := match o with
  | none => p = none
  | some x => ∃ (g : Nat) (rest : List Value), p = some ⟨g, 0, none⟩ ∧ h0 g = some (.cells (.int .u64 x.1 :: .bool (vB x.2) :: .int .i64 (vN x.2) :: rest).toArray 90 (0, 0))
theorem rkFind (hT : TreeA h0 t g) (hs : t.size ≤ 700) (h : Own e w (imm h0 :: F)) : Rets Tryd.prog 48 #[.pointer (some ⟨g, 0, none⟩), .int .u64 k] w fun v w' => (∃ p', v = .tuple #[.pointer p', .int .i64 ((tfind k t 0).2 : Int)] ∧ FoundA h0 (tfind k t 0).1 p') ∧ Own e w' (imm h0 :: F) := by
  obtain ⟨p, ho, ht⟩ := hT
  refine rank_Tree_int_int_find_go _ _ ⟨fun hc => (by cases hc), fun _ => ⟨_, h.immCell (vs := [.func (.func 42) #[] #[], .pointer p]) ho (i := 1) rfl, ?_⟩⟩
  refine ⟨fun m vs w => ∃ (t' : Tr) (a : Nat) (p' : Option Addr), vs = [.int .i64 (a : Int), .pointer p'] ∧ m = t'.size ∧ a + t'.size ≤ 700 ∧ TrA h0 t' p' ∧ tfind k t' a = tfind k t 0 ∧ Own e w (imm h0 :: F), ⟨t.size, t, 0, p, rfl, rfl, by omega, ht, rfl, h⟩, ?_⟩
  clear h
  intro m w1
  intros
  rename_i hI
  obtain ⟨t', a, q2, hvs, rfl, hb, ht', hf, h⟩ := hI
  simp at hvs
  obtain ⟨rfl, hq2⟩ := hvs
  have hq2 := hq2.symm
  subst hq2
  cases t' with
  | nil =>
    obtain rfl : q2 = none := ht'
    refine ⟨fun hc => (by cases hc), fun _ => ⟨⟨none, ?_, ?_⟩, h⟩⟩
    · rw [← hf]; rfl
    · rw [← hf]; exact rfl
  | node x xv l r =>
    obtain ⟨gn, pl, pr, rfl, hg, hl, hr⟩ := ht'
    simp only [Tr.size] at hb
    have hf : (if k = x then (some (x, xv), a + l.size) else if k < x then tfind k l a else tfind k r (a + l.size + 1)) = tfind k t 0 := hf
    refine ⟨fun _ => h.drw fun w h => smR ⟨_, _, _, h.immCell (vs := [.func (.func 42) #[] #[], .pointer p]) ho (i := 0) rfl, _, h.immCell hg (i := 0) rfl, callG.mk Tryd.func42 (by kernel_rfl) ?_⟩, fun hc => (by cases hc)⟩
    refine Rets.mono (rkOrder (x := k) (y := x) h) ?_
    clear h
    rintro _ w ⟨rfl, h⟩
    refine ⟨_, rfl, fun hc => ?_, fun hc => ⟨fun hc2 => ?_, fun hc2 => ?_⟩⟩
    · have hc := ordI_eq.1 (beq_t hc)
      rw [if_pos hc] at hf
      refine smR ⟨_, h.immCell hg (i := 3) rfl, ?_⟩
      refine Rets.mono (rkSize hl h) ?_
      clear h
      rintro _ w ⟨rfl, h⟩
      refine ⟨_, rfl, ⟨some ⟨gn, 0, none⟩, ?_, ?_⟩, h⟩
      · rw [← hf, wI64 (by omega) (by omega)]; rfl
      · rw [← hf]; exact ⟨gn, _, rfl, hg⟩
    · have hc := fun x => beq_f hc (ordI_eq.2 x)
      have hc2 := ordI_lt.1 (dec_t hc2)
      rw [if_neg hc, if_pos hc2] at hf
      exact smR ⟨_, h.immCell hg (i := 3) rfl, l.size, by simp only [Tr.size]; omega, l, a, pl, rfl, rfl, by omega, hl, hf, h⟩
    · have hc := fun x => beq_f hc (ordI_eq.2 x)
      have hc2 := fun x => dec_f hc2 (ordI_lt.2 x)
      rw [if_neg hc, if_neg hc2] at hf
      refine h.drw fun w h => ⟨fun w => Own e w (imm h0 :: F), h, smR (smR ⟨_, fun w h => h.immCell hg (i := 3) rfl, _, fun w h => h.immCell hg (i := 4) rfl, ?_⟩)⟩
      refine Rets.mono (rkSize hl h) ?_
      clear h
      rintro _ w ⟨rfl, h⟩
      refine ⟨_, rfl, h, r.size, by simp only [Tr.size]; omega, r, a + l.size + 1, pr, ?_, rfl, by omega, hr, hf, h⟩
      rw [wI64 (n := (a : Int) + (l.size : Int)) (by omega) (by omega), wI64 (by omega) (by omega)]
      rfl
theorem rkGet (hT : TreeA h0 t g) (hs : t.size ≤ 700) (h : Own e w (imm h0 :: F)) : Rets Tryd.prog 26 #[.pointer (some ⟨g, 0, none⟩), .int .u64 k] w fun v w' => v = .tuple #[vA ((tfind k t 0).1.getD (0, 0)).2, .bool (tfind k t 0).1.isSome] ∧ Own e w' (imm h0 :: F) := by
  refine rank_Tree_int_int_Get_go _ _ (h.newR fun ga w h => ?_)
  refine Rets.mono (rkFind (k := k) hT hs h.swap) ?_
  clear h
  rintro _ w ⟨⟨p', rfl, hF⟩, h⟩
  cases ho : (tfind k t 0).1 with
  | none =>
    rw [ho] at hF
    obtain rfl : p' = none := hF
    refine ⟨_, _, rfl, fun _ => ⟨_, _, ⟨Own.ld (g := ga) (k := 0) h (by repeat (first | with_reducible exact Pick.here | apply Pick.there)) rfl, Own.ld (g := ga) (k := 1) h (by repeat (first | with_reducible exact Pick.here | apply Pick.there)) rfl⟩, Own.stP' (g := ga) h (by repeat (first | with_reducible exact Pick.here | apply Pick.there)) (by simp) (by simp [Value.oneCell']) fun w h => ?_⟩, fun hc => (by cases hc)⟩
    simp only [setFrom, List.set_cons_zero, List.set_cons_succ, List.set_nil] at h
    exact ⟨_, _, ⟨Own.ld (g := ga) (k := 0) h (by repeat (first | with_reducible exact Pick.here | apply Pick.there)) rfl, Own.ld (g := ga) (k := 1) h (by repeat (first | with_reducible exact Pick.here | apply Pick.there)) rfl⟩, rfl, h.drop⟩
  | some x =>
    rw [ho] at hF
    obtain ⟨gx, rest, rfl, hg⟩ := hF
    refine ⟨_, _, rfl, fun hc => (by cases hc), fun _ => smR ⟨_, _, ⟨h.immCell hg (i := 1) rfl, h.immCell hg (i := 2) rfl⟩, Own.stP' (g := ga) h (by repeat (first | with_reducible exact Pick.here | apply Pick.there)) (by simp) (by simp [Value.oneCell']) fun w h => ?_⟩⟩
    simp only [setFrom, List.set_cons_zero, List.set_cons_succ, List.set_nil] at h
    exact ⟨_, _, ⟨Own.ld (g := ga) (k := 0) h (by repeat (first | with_reducible exact Pick.here | apply Pick.there)) rfl, Own.ld (g := ga) (k := 1) h (by repeat (first | with_reducible exact Pick.here | apply Pick.there)) rfl⟩, rfl, h.drop⟩
end
set_option maxHeartbeats 1000000
theorem imm0 {e w : World} {F : List HP} (h : Own e w F) : Own e w (imm (fun _ => none) :: F) := by
  have h : Own e w (allH [] :: F) := Own.close_ (l := []) h
  exact h.mono fun k hk b o hb => (by cases hb)
theorem immJoin {e w : World} {F : List HP} {h0 h1 : Nat → Option Obj} (h : Own e w (imm h0 :: imm h1 :: F)) : ∃ h2, LeH h0 h2 ∧ LeH h1 h2 ∧ Own e w (imm h2 :: F) := by
  obtain ⟨he, k, hk, k1, k2, ha, rfl, hA, k3, k4, ha2, rfl, hB, hF⟩ := h
  have a13 : Apart k1 k3 := fun b => (ha b).imp id fun h => (joinH_none_iff h).1
  refine ⟨fun b => joinH k1 k3 b, fun b o hb => joinH_left (hA b o hb), fun b o hb => joinH_right a13 (hB b o hb), he, joinH k1 (joinH k3 k4), hk, joinH k1 k3, k4, fun b => ?_, joinH_assoc _ _ _, fun b o hb => hb, hF⟩
  rcases ha b with h | h
  · rcases ha2 b with h' | h'
    · exact .inl (joinH_none h h')
    · exact .inr h'
  · exact .inr (joinH_none_iff h).2
theorem Own.head {e w : World} {A : HP} {F : List HP} (h : Own e w (A :: F)) : Own e w [A] := h.sub (Sub.cons Pick.here (Sub.nil _))
section
variable {e w : World} {F : List HP} {h0 : Nat → Option Obj} {t : Tr} {g : Nat} {pt : Option Addr}
theorem rkAll (h : Own e w (imm h0 :: F)) : Rets Tryd.prog 50 #[.pointer (some ⟨g, 0, none⟩)] w fun v w' => ∃ h1 b, v = .func (.func 68) #[] #[.pointer (some ⟨b, 0, none⟩)] ∧ LeH h0 h1 ∧ h1 b = some (.cells #[.pointer (some ⟨g, 0, none⟩)] 53 (0, 0)) ∧ Own e w' (imm h1 :: F) := by
  refine rank_Tree_int_int_All_go _ (h.newR fun b w h => ?_)
  obtain ⟨h1, le1, hg, h⟩ := Own.absorb h
  exact ⟨h1, b, rfl, le1, hg, h⟩
theorem wkMay_all {x : Int} (h : Own e w F) : Rets Tryd.prog 70 #[.int .u64 x] w fun v w' => v = .bool true ∧ Own e w' F := rank_Tree_int_int_All_1_1_go _ ⟨rfl, h⟩
theorem wk_all  {lp : Nat} {Fr : Nat → List HP} {Fin : World → Prop} {T : LE2} (hfin : ∀ w, Fin w → Own e w [imm h0])
    (hround : ∀ (i : Nat) w (hi : i < T.length), Own e w (imm h0 :: Fr i) → RoundR Tryd.prog lp #[.int .u64 T[i].1, vA T[i].2] w fun v w' => (v = .bool true ∧ Own e w' (imm h0 :: Fr (i + 1))) ∨ (v = .bool false ∧ Fin w')) :
    ∀ (t : Tr) (p : Option Addr) (w : World) (pre post : LE2), TrA h0 t p → Srt t.toL → T = pre ++ (t.toL.filter (fun _ => true) ++ post) → Own e w (imm h0 :: Fr pre.length) →
    Rets Tryd.prog 69 #[.pointer p, (.func (.func 70) #[] #[]), .func (.yield lp) #[] #[]] w fun v w' => (v = .bool true ∧ Own e w' (imm h0 :: Fr (pre.length + (t.toL.filter (fun _ => true)).length))) ∨ (v = .bool false ∧ Fin w')
  | .nil, p, w, pre, post, ht, hs, hT, h => by
    obtain rfl : p = none := ht
    exact walk_all_go _ _ ⟨fun _ => .inl ⟨rfl, h⟩, fun hc => (by cases hc)⟩
  | .node k v l r, p, w, pre, post, ht, hs, hT, h => by
    obtain ⟨gn, pl, pr, rfl, hg, hl, hr⟩ := ht
    obtain ⟨s1, s2, s3, s4⟩ := Srt.split hs
    have ef : (Tr.node k v l r).toL.filter (fun _ => true) = l.toL.filter (fun _ => true) ++ ((if (fun _ => true) (k, v) = true then [(k, v)] else []) ++ r.toL.filter (fun _ => true)) := by
      simp only [Tr.toL, List.filter_append, List.filter_cons]
      split <;> simp
    rw [ef] at hT ⊢
    refine walk_all_go _ _ ⟨fun hc => (by cases hc), fun _ => smR ⟨_, h.immCell hg (i := 0) rfl, ?_⟩⟩
    refine Rets.mono (wkMay_all (x := k) h) ?_
    clear h
    rintro _ w ⟨rfl, h⟩
    refine ⟨_, rfl, fun hm => ?_, fun hm => ?_⟩
    · simp at hm
    · have hm2 : (fun _ => true) (k, v) = true := rfl
      rw [if_pos hm2] at hT ⊢
      generalize hL : l.toL.filter (fun _ => true) = Lf at hT ⊢
      have ihl := wk_all hfin hround l pl
      rw [hL] at ihl
      refine h.drw fun w h => ⟨fun w => Own e w [imm h0], h.head, smR ⟨_, fun w h => h.immCell hg (i := 3) rfl, ?_⟩⟩
      refine Rets.mono (ihl w pre (([(k, v)] ++ r.toL.filter (fun _ => true)) ++ post) hl s1 (by rw [hT]; simp) h) ?_
      clear h
      rintro _ w (⟨rfl, h⟩ | ⟨rfl, hF⟩)
      · have hlt : pre.length + Lf.length < T.length := by rw [hT]; simp
        have hTe : T[pre.length + Lf.length] = (k, v) := by
          have e1 : T = (pre ++ Lf) ++ (k, v) :: (r.toL.filter (fun _ => true) ++ post) := by rw [hT]; simp
          simp [e1]
        have hR := hround _ w hlt h
        rw [hTe] at hR
        refine ⟨_, rfl, h.head, fun _ => smR (smR ⟨_, fun w h => h.immCell hg (i := 0) rfl, _, _, ⟨fun w h => h.immCell hg (i := 1) rfl, fun w h => h.immCell hg (i := 2) rfl⟩, ?_⟩), fun hc => (by cases hc)⟩
        refine RoundR.mono hR ?_
        clear hR h
        rintro _ w (⟨rfl, h⟩ | ⟨rfl, hF⟩)
        · refine ⟨_, rfl, h.head, fun _ => smR ⟨_, fun w h => h.immCell hg (i := 4) rfl, ?_⟩, fun hc => (by cases hc)⟩
          have el : (pre ++ Lf ++ [(k, v)]).length = pre.length + Lf.length + 1 := by simp; omega
          rw [← el] at h
          refine Rets.mono (wk_all hfin hround r pr w (pre ++ Lf ++ [(k, v)]) post hr s2 (by rw [hT]; simp) h) ?_
          clear h
          rintro _ w (⟨rfl, h⟩ | ⟨rfl, hF⟩)
          · refine ⟨_, rfl, .inl ⟨rfl, ?_⟩⟩
            have el2 : pre.length + (Lf ++ ([(k, v)] ++ r.toL.filter (fun _ => true))).length = (pre ++ Lf ++ [(k, v)]).length + (r.toL.filter (fun _ => true)).length := by simp; omega
            rw [el2]; exact h
          · exact ⟨_, rfl, .inr ⟨rfl, hF⟩⟩
        · exact ⟨_, rfl, hfin w hF, fun hc => (by cases hc), fun _ => .inr ⟨rfl, hF⟩⟩
      · exact ⟨_, rfl, hfin w hF, fun hc => (by cases hc), fun _ => .inr ⟨rfl, hF⟩⟩
/-- An age gone: what is left of each. -/
def agT : LE2 → Tr → Tr
  | [], u => u
  | x :: l, u => agT l (if 0 < vN x.2 / 2 then tput x.1 (2 * (vN x.2 / 2)) u else u)
theorem agT_snoc (l : LE2) (x : Int × Int) : ∀ u, agT (l ++ [x]) u = if 0 < vN x.2 / 2 then tput x.1 (2 * (vN x.2 / 2)) (agT l u) else agT l u := by
  induction l with
  | nil => intro u; rfl
  | cons y l ih => intro u; exact ih _
theorem agT_size (l : LE2) : ∀ u, (agT l u).size ≤ u.size + l.length := by
  induction l with
  | nil => intro u; exact Nat.le_refl _
  | cons y l ih =>
    intro u
    have h1 := ih (if 0 < vN y.2 / 2 then tput y.1 (2 * (vN y.2 / 2)) u else u)
    have h2 := size_put y.1 (2 * (vN y.2 / 2)) u
    show (agT l _).size ≤ u.size + (y :: l).length
    rw [List.length_cons]
    split at h1 <;> rename_i hc
    · rw [if_pos hc]; omega
    · rw [if_neg hc]; omega
theorem exNone (h : Own e w (imm h0 :: F)) : Rets Tryd.prog 21 #[] w (RR e F h0 .nil) := by
  refine exact_none_go ?_
  refine Rets.mono (rkNew h) ?_
  rintro _ w ⟨h1, g, rfl, le1, t1, h⟩
  exact ⟨_, rfl, h1, g, rfl, le1, t1, h⟩
abbrev exB (g gt : Nat) (ct lim : Int) : HP := blk g 56 [.pointer (some ⟨gt, 0, none⟩), .int .i64 ct, .int .i64 lim]
/-- What an age leaves: a tree beside. -/
abbrev lefT (g1 : Nat) (u : Tr) : HP := exH fun (p : (Nat → Option Obj) × Nat) => puH (TreeA p.1 u p.2) (allH [blk g1 53 [.pointer (some ⟨p.2, 0, none⟩)], imm p.1])
theorem lefT.op {g1 : Nat} {u : Tr} (h : Own e w (lefT g1 u :: F)) : ∃ h1 gu, TreeA h1 u gu ∧ Own e w (blk g1 53 [.pointer (some ⟨gu, 0, none⟩)] :: imm h1 :: F) := by
  obtain ⟨⟨h1, gu⟩, h⟩ := h.ex
  obtain ⟨hT, h⟩ := h.pu
  exact ⟨h1, gu, hT, h.open_⟩
theorem lefT.cl {g1 gu : Nat} {u : Tr} {h1 : Nat → Option Obj} (hT : TreeA h1 u gu) (h : Own e w (blk g1 53 [.pointer (some ⟨gu, 0, none⟩)] :: imm h1 :: F)) : Own e w (lefT g1 u :: F) := by
  have h : Own e w ([blk g1 53 [.pointer (some ⟨gu, 0, none⟩)], imm h1] ++ F) := h
  exact Own.mkEx (P := fun (p : (Nat → Option Obj) × Nat) => puH (TreeA p.1 u p.2) (allH [blk g1 53 [.pointer (some ⟨p.2, 0, none⟩)], imm p.1])) (h1, gu) (Own.mkPu hT h.close_)
theorem vA2 (a : Int) : vA (2 * a) = .agg #[.bool false, .int .i64 a] := by
  have e1 : vB (2 * a) = false := by unfold vB; exact decide_eq_false (by omega)
  have e2 : vN (2 * a) = a := by unfold vN; omega
  unfold vA; rw [e1, e2]
theorem exAge {ct lim : Int} {gt : Nat} (hv : ∀ x ∈ t.toL, 0 ≤ vN x.2 ∧ vN x.2 ≤ 100) (hS : Srt t.toL) (hz : t.size ≤ 300) (hT : TreeA h0 t gt) (h : Own e w (imm h0 :: exB g gt ct lim :: F)) :
    Rets Tryd.prog 28 #[.pointer (some ⟨g, 0, none⟩)] w fun v w' => v = .tuple #[] ∧ ∃ h1 gu, LeH h0 h1 ∧ TreeA h1 (agT t.toL .nil) gu ∧ Own e w' (imm h1 :: exB g gu 0 lim :: F) := by
  have hsz := Tr.size_toL t
  refine exact_Exact_age_go _ ?_
  refine Rets.mono (exNone (imm0 h)) ?_
  clear h
  rintro _ w ⟨h1, gu, rfl, le1, hU, h⟩
  refine ⟨_, rfl, h.newR fun g1 w h => Own.stP' (g := g1) h (by repeat (first | with_reducible exact Pick.here | apply Pick.there)) (by simp) (by simp [Value.oneCell']) fun w h => ?_⟩
  simp only [setFrom, List.set_cons_zero, List.set_cons_succ, List.set_nil] at h
  have h : Own e w (lefT g1 .nil :: imm h0 :: exB g gt ct lim :: F) := lefT.cl hU h
  refine ⟨_, Own.ld (g := g) (k := 0) h (by repeat (first | with_reducible exact Pick.here | apply Pick.there)) rfl, ?_⟩
  have h : Own e w (imm h0 :: exB g gt ct lim :: lefT g1 .nil :: F) := (Own.sub (h) (by repeat (first | with_reducible exact Sub.nil _ | with_reducible exact Sub.rfl _ | (apply Sub.cons; focus ((repeat (first | with_reducible exact Pick.here | apply Pick.there)); done)) | apply Sub.drop)))
  refine Rets.mono (rkAll h) ?_
  clear h
  rintro _ w ⟨h2, b, rfl, le2, hb, h⟩
  have hT := hT.mono le2
  refine ⟨_, _, _, rfl, _, rfl, h.loopR fun mk lp LL w h hround => ?_⟩
  obtain ⟨pt', ho, ht⟩ := hT
  obtain ⟨T, hTe⟩ : ∃ T, T = t.toL := ⟨_, rfl⟩
  have hTl : T.length ≤ 300 := by rw [hTe]; omega
  have hTf : T = t.toL.filter (fun _ => true) := by rw [hTe]; exact (List.filter_eq_self.2 (fun _ _ => rfl)).symm
  let Fr : Nat → List HP := fun i => lefT g1 (agT (T.take i) .nil) :: pt lp (LoopObj LL .ready none) :: pt mk (.deferred (some [])) :: exB g gt ct lim :: F
  have h : Own e w (imm h2 :: lefT g1 .nil :: pt lp (LoopObj LL .ready none) :: pt mk (.deferred (some [])) :: exB g gt ct lim :: F) := (Own.sub (h) (by repeat (first | with_reducible exact Sub.nil _ | with_reducible exact Sub.rfl _ | (apply Sub.cons; focus ((repeat (first | with_reducible exact Pick.here | apply Pick.there)); done)) | apply Sub.drop)))
  have h : Own e w (imm h2 :: Fr 0) := h
  have hr2 : ∀ (i : Nat) w (hi : i < T.length), Own e w (imm h2 :: Fr i) → RoundR Tryd.prog lp #[.int .u64 T[i].1, vA T[i].2] w fun v w' => (v = .bool true ∧ Own e w' (imm h2 :: Fr (i + 1))) ∨ (v = .bool false ∧ False) := fun i w hi h => by
    have h : Own e w (imm h2 :: lefT g1 (agT (T.take i) .nil) :: pt lp (LoopObj LL .ready none) :: pt mk (.deferred (some [])) :: exB g gt ct lim :: F) := h
    have hvi := hv T[i] (by rw [← hTe]; exact List.getElem_mem hi)
    have hsi := agT_size (T.take i) .nil
    have hti : (T.take i).length = i := by simp; omega
    have e1 : agT (T.take (i + 1)) .nil = if 0 < vN T[i].2 / 2 then tput T[i].1 (2 * (vN T[i].2 / 2)) (agT (T.take i) .nil) else agT (T.take i) .nil := by
      rw [List.take_succ_eq_append_getElem hi, agT_snoc]
    obtain ⟨x, hx⟩ : ∃ x, x = T[i] := ⟨_, rfl⟩
    rw [← hx] at hvi e1 ⊢
    obtain ⟨u, hu⟩ : ∃ u, u = agT (T.take i) .nil := ⟨_, rfl⟩
    rw [← hu] at h hsi e1
    simp only [Tr.size] at hsi
    have en : IntKind.wrap .i64 (Int.tdiv (vN x.2) 2) = vN x.2 / 2 := by
      rw [Int.tdiv_eq_ediv_of_nonneg (by omega), wI64 (by omega) (by omega)]
    refine hround _ _ _ w _ (Own.recR (l := lp) (L := LL) (Own.pk h (by repeat (first | with_reducible exact Pick.here | apply Pick.there)))) ?_
    refine h.newR fun g3 w h => Own.stP' (g := g3) h (by repeat (first | with_reducible exact Pick.here | apply Pick.there)) (by simp) (by simp [Value.oneCell']) fun w h => ?_
    simp only [setFrom, List.set_cons_zero, List.set_cons_succ, List.set_nil] at h
    refine Own.begR (l := lp) (L := LL) (Own.pk h (by repeat (first | with_reducible exact Pick.here | apply Pick.there))) fun w h => ?_
    refine ⟨_, Own.ld (g := g3) (k := 1) h (by repeat (first | with_reducible exact Pick.here | apply Pick.there)) rfl, by omega, fun hc => ?_, fun hc => ?_⟩
    · have hc := dec_t hc
      rw [en] at hc
      rw [if_pos (by omega)] at e1
      have h : Own e w (lefT g1 u :: blk g3 60 [.bool (vB x.2), .int .i64 (vN x.2)] :: pt lp (LoopObj LL .busy none) :: imm h2 :: pt mk (.deferred (some [])) :: exB g gt ct lim :: F) := (Own.sub (h) (by repeat (first | with_reducible exact Sub.nil _ | with_reducible exact Sub.rfl _ | (apply Sub.cons; focus ((repeat (first | with_reducible exact Pick.here | apply Pick.there)); done)) | apply Sub.drop)))
      obtain ⟨h3, gu3, hU3, h⟩ := lefT.op h
      refine ⟨_, (Own.ld' h (by repeat (first | with_reducible exact Pick.here | apply Pick.there)) (by rfl)), _, Own.ld (g := g3) (k := 1) h (by repeat (first | with_reducible exact Pick.here | apply Pick.there)) rfl, by omega, ?_⟩
      rw [en, ← vA2]
      refine Rets.mono (rkPut (k := x.1) (v := 2 * (vN x.2 / 2)) hU3 (by omega) h.swap) ?_
      clear h
      rintro _ w ⟨h4, gu4, rfl, le4, hU4, h⟩
      refine ⟨_, rfl, Own.stP' (g := g1) h (by repeat (first | with_reducible exact Pick.here | apply Pick.there)) (by simp) (by simp [Value.oneCell']) fun w h => ?_⟩
      simp only [setFrom, List.set_cons_zero, List.set_cons_succ, List.set_nil] at h
      have h : Own e w (lefT g1 (tput x.1 (2 * (vN x.2 / 2)) u) :: _) := lefT.cl hU4 h
      refine Own.finT (l := lp) (L := LL) (Own.pk h (by repeat (first | with_reducible exact Pick.here | apply Pick.there))) fun w h => .inl ⟨rfl, ?_⟩
      have h : Own e w (imm h2 :: lefT g1 (agT (T.take (i + 1)) .nil) :: pt lp (LoopObj LL .ready none) :: pt mk (.deferred (some [])) :: exB g gt ct lim :: F) := by
        rw [e1]
        exact (Own.sub (h) (by repeat (first | exact Sub.nil _ | exact Sub.rfl _ | (apply Sub.cons; focus ((repeat (first | with_reducible exact Pick.here | apply Pick.there)); done)) | apply Sub.drop)))
      exact h
    · have hc := dec_f hc
      rw [en] at hc
      rw [if_neg (by omega)] at e1
      refine Own.finT (l := lp) (L := LL) (Own.pk h (by repeat (first | with_reducible exact Pick.here | apply Pick.there))) fun w h => .inl ⟨rfl, ?_⟩
      have h : Own e w (imm h2 :: lefT g1 (agT (T.take (i + 1)) .nil) :: pt lp (LoopObj LL .ready none) :: pt mk (.deferred (some [])) :: exB g gt ct lim :: F) := by
        rw [e1]
        exact (Own.sub (h) (by repeat (first | exact Sub.nil _ | exact Sub.rfl _ | (apply Sub.cons; focus ((repeat (first | with_reducible exact Pick.here | apply Pick.there)); done)) | apply Sub.drop)))
      exact h
  have hwk : Rets Tryd.prog 68 #[.func (.yield lp) #[] #[], .pointer (some ⟨b, 0, none⟩)] w fun v w' => Own e w' (imm h2 :: Fr T.length) := by
    refine rank_Tree_int_int_All_1_go _ _ ⟨_, h.immCell (vs := [.pointer (some ⟨gt, 0, none⟩)]) hb (i := 0) rfl, fun _ => ⟨_, h.immCell (vs := [.pointer (some ⟨gt, 0, none⟩)]) hb (i := 0) rfl, smR ⟨_, h.immCell (vs := [.func (.func 42) #[] #[], .pointer pt']) ho (i := 1) rfl, ?_⟩⟩, fun hc => (by cases hc)⟩
    refine Rets.mono (wk_all (T := T) (Fr := Fr) (Fin := fun _ => False) (fun w h => h.elim) hr2 t pt' w [] [] ht hS (by rw [hTf]; simp) h) ?_
    rintro _ w (⟨rfl, h⟩ | ⟨rfl, h⟩)
    · refine ⟨_, rfl, ?_⟩
      rw [← hTf] at h
      simpa using h
    · exact h.elim
  refine Rets.mono hwk ?_
  clear h hr2 hwk
  rintro v w h
  have h : Own e w (imm h2 :: lefT g1 (agT (T.take T.length) .nil) :: pt lp (LoopObj LL .ready none) :: pt mk (.deferred (some [])) :: exB g gt ct lim :: F) := h
  rw [List.take_length, hTe] at h
  refine Own.endR (l := lp) (L := LL) (Own.pk h (by repeat (first | with_reducible exact Pick.here | apply Pick.there))) (by simp) fun w h => ?_
  have h : Own e w (lefT g1 (agT t.toL .nil) :: imm h2 :: pt mk (.deferred (some [])) :: exB g gt ct lim :: F) := (Own.sub (h) (by repeat (first | with_reducible exact Sub.nil _ | with_reducible exact Sub.rfl _ | (apply Sub.cons; focus ((repeat (first | with_reducible exact Pick.here | apply Pick.there)); done)) | apply Sub.drop)))
  obtain ⟨h3, gu3, hU3, h⟩ := lefT.op h
  refine ⟨_, (Own.ld' h (by repeat (first | with_reducible exact Pick.here | apply Pick.there)) (by rfl)), Own.stP (g := g) (k := 0) h (by repeat (first | with_reducible exact Pick.here | apply Pick.there)) (by simp) (by simp [Value.oneCell']) fun w h => ?_⟩
  simp only [setFrom, List.set_cons_zero, List.set_cons_succ, List.set_nil] at h
  refine Own.stP (g := g) (k := 1) h (by repeat (first | with_reducible exact Pick.here | apply Pick.there)) (by simp) (by simp [Value.oneCell']) fun w h => ?_
  simp only [setFrom, List.set_cons_zero, List.set_cons_succ, List.set_nil] at h
  refine Own.markR (g := mk) (Own.pk h (by repeat (first | with_reducible exact Pick.here | apply Pick.there))) fun w h => ⟨rfl, ?_⟩
  have h : Own e w (imm h2 :: imm h3 :: exB g gu3 0 lim :: F) := (Own.sub (h) (by repeat (first | exact Sub.nil _ | exact Sub.rfl _ | (apply Sub.cons; focus ((repeat (first | with_reducible exact Pick.here | apply Pick.there)); done)) | apply Sub.drop)))
  obtain ⟨h4, le4, le5, h⟩ := immJoin h
  exact ⟨h4, gu3, LeH.trans le2 le4, hU3.mono le5, h⟩
end
theorem vA1 (a : Int) : vA (2 * a + 1) = .agg #[.bool true, .int .i64 a] := by
  have e1 : vB (2 * a + 1) = true := by unfold vB; exact decide_eq_true (by omega)
  have e2 : vN (2 * a + 1) = a := by unfold vN; omega
  unfold vA; rw [e1, e2]
def kyN (v : Int) : Int := if vB v = true then minI 15 (vN v + 1) else vN v
def kyV (x : Int) (t : Tr) : Int := ((tfind x t 0).1.getD (0, 0)).2
def kyT (x : Int) (t : Tr) : Tr := tput x (2 * kyN (kyV x t) + 1) t
section
variable {e w : World} {F : List HP} {h0 : Nat → Option Obj} {t : Tr} {g gt : Nat} {x ct lim n : Int}
abbrev EX (e : World) (F : List HP) (h0 : Nat → Option Obj) (g : Nat) (t : Tr) (ct lim : Int) (w' : World) : Prop := ∃ h1 gu, LeH h0 h1 ∧ TreeA h1 t gu ∧ Own e w' (imm h1 :: exB g gu ct lim :: F)
theorem exNew (h : Own e w (imm h0 :: F)) : Rets Tryd.prog 7 #[.int .i64 n] w fun v w' => ∃ g, v = .pointer (some ⟨g, 0, none⟩) ∧ EX e F h0 g .nil 0 (maxI 1 (minI n 4096)) w' := by
  refine exact_New_go _ ?_
  refine Rets.mono (exNone h) ?_
  clear h
  rintro _ w ⟨h1, gu, rfl, le1, hU, h⟩
  exact ⟨_, rfl, h.newR fun g w h => ⟨g, rfl, h1, gu, le1, hU, h.swap⟩⟩
theorem exCount (h : Own e w (imm h0 :: exB g gt ct lim :: F)) : Rets Tryd.prog 13 #[.pointer (some ⟨g, 0, none⟩)] w fun v w' => v = .int .i64 ct ∧ Own e w' (imm h0 :: exB g gt ct lim :: F) :=
  exact_Exact_Count_go _ ⟨fun hc => (by cases hc), fun _ => ⟨_, Own.ld (g := g) (k := 1) h (by repeat (first | with_reducible exact Pick.here | apply Pick.there)) rfl, rfl, h⟩⟩
theorem exLen (hT : TreeA h0 t gt) (h : Own e w (imm h0 :: exB g gt ct lim :: F)) : Rets Tryd.prog 18 #[.pointer (some ⟨g, 0, none⟩)] w fun v w' => v = .int .i64 (t.size : Int) ∧ Own e w' (imm h0 :: exB g gt ct lim :: F) := by
  refine exact_Exact_Len_go _ ⟨fun hc => (by cases hc), fun _ => ⟨_, Own.ld (g := g) (k := 0) h (by repeat (first | with_reducible exact Pick.here | apply Pick.there)) rfl, ?_⟩⟩
  refine Rets.mono (rkLen hT h) ?_
  rintro _ w ⟨rfl, h⟩
  exact ⟨_, rfl, rfl, h⟩
theorem exEst (hT : TreeA h0 t gt) (hs : t.size ≤ 700) (hv : 0 ≤ vN (kyV x t) ∧ vN (kyV x t) ≤ 100) (h : Own e w (imm h0 :: exB g gt ct lim :: F)) : Rets Tryd.prog 11 #[.pointer (some ⟨g, 0, none⟩), .int .u64 x] w fun v w' => v = .int .i64 (vN (kyV x t) + if vB (kyV x t) = true then 1 else 0) ∧ Own e w' (imm h0 :: exB g gt ct lim :: F) := by
  refine exact_Exact_Estimate_go _ _ ⟨fun hc => (by cases hc), fun _ => ⟨_, Own.ld (g := g) (k := 0) h (by repeat (first | with_reducible exact Pick.here | apply Pick.there)) rfl, ?_⟩⟩
  refine Rets.mono (rkGet (k := x) hT hs h) ?_
  clear h
  rintro _ w ⟨rfl, h⟩
  have e0 : ((tfind x t 0).1.getD (0, 0)).2 = kyV x t := rfl
  rw [e0]
  refine ⟨_, _, _, rfl, h.newR fun ga w h => Own.stP' (g := ga) h (by repeat (first | with_reducible exact Pick.here | apply Pick.there)) (by simp) (by simp [Value.oneCell']) fun w h => ?_⟩
  simp only [setFrom, List.set_cons_zero, List.set_cons_succ, List.set_nil] at h
  refine ⟨_, Own.ld (g := ga) (k := 0) h (by repeat (first | with_reducible exact Pick.here | apply Pick.there)) rfl, fun hb => ⟨_, Own.ld (g := ga) (k := 1) h (by repeat (first | with_reducible exact Pick.here | apply Pick.there)) rfl, ?_, h.drop⟩, fun hb => ⟨_, Own.ld (g := ga) (k := 1) h (by repeat (first | with_reducible exact Pick.here | apply Pick.there)) rfl, ?_, h.drop⟩⟩
  · rw [if_pos hb, wI64 (by omega) (by omega)]
  · rw [if_neg (by rw [hb]; simp), Int.add_zero]
theorem exAdd (hT : TreeA h0 t gt) (hs : t.size ≤ 200) (hS : Srt t.toL) (hv : 0 ≤ vN (kyV x t) ∧ vN (kyV x t) ≤ 15) (hvs : ∀ y ∈ (kyT x t).toL, 0 ≤ vN y.2 ∧ vN y.2 ≤ 100) (hct : 0 ≤ ct ∧ ct < lim ∧ lim ≤ 4096) (h : Own e w (imm h0 :: exB g gt ct lim :: F)) : Rets Tryd.prog 9 #[.pointer (some ⟨g, 0, none⟩), .int .u64 x] w fun v w' => v = .tuple #[] ∧
    ((lim ≤ ct + 1 ∧ EX e F h0 g (agT (kyT x t).toL .nil) 0 lim w') ∨ (ct + 1 < lim ∧ EX e F h0 g (kyT x t) (ct + 1) lim w')) := by
  have hsz := size_put x (2 * kyN (kyV x t) + 1) t
  have hS2 : Srt (kyT x t).toL := by unfold kyT; rw [tput_toL _ _ t hS]; exact lput_srt hS
  refine exact_Exact_Add_go _ _ ⟨fun hc => (by cases hc), fun _ => ⟨_, Own.ld (g := g) (k := 0) h (by repeat (first | with_reducible exact Pick.here | apply Pick.there)) rfl, ?_⟩⟩
  refine Rets.mono (rkGet (k := x) hT (by omega) h) ?_
  clear h
  rintro _ w ⟨rfl, h⟩
  have e0 : ((tfind x t 0).1.getD (0, 0)).2 = kyV x t := rfl
  rw [e0]
  refine ⟨_, _, _, rfl, h.newR fun ga w h => Own.stP' (g := ga) h (by repeat (first | with_reducible exact Pick.here | apply Pick.there)) (by simp) (by simp [Value.oneCell']) fun w h => ?_⟩
  simp only [setFrom, List.set_cons_zero, List.set_cons_succ, List.set_nil] at h
  refine ⟨_, Own.ld (g := ga) (k := 0) h (by repeat (first | with_reducible exact Pick.here | apply Pick.there)) rfl, fun vs w => vs = [] ∧ ∃ b, Own e w (imm h0 :: blk ga 60 [.bool b, .int .i64 (kyN (kyV x t))] :: exB g gt ct lim :: F), ⟨fun hb => ?_, fun hb => ?_⟩, ?_⟩
  · refine ⟨_, Own.ld (g := ga) (k := 1) h (by repeat (first | with_reducible exact Pick.here | apply Pick.there)) rfl, Own.stP (g := ga) (k := 1) h (by repeat (first | with_reducible exact Pick.here | apply Pick.there)) (by simp) (by simp [Value.oneCell']) fun w h => ⟨rfl, vB (kyV x t), ?_⟩⟩
    simp only [setFrom, List.set_cons_zero, List.set_cons_succ, List.set_nil] at h
    have e1 : kyN (kyV x t) = minI 15 (IntKind.wrap .i64 (vN (kyV x t) + 1)) := by unfold kyN; rw [if_pos hb, wI64 (by omega) (by omega)]
    rw [e1]
    exact (Own.sub (h) (by repeat (first | with_reducible exact Sub.nil _ | with_reducible exact Sub.rfl _ | (apply Sub.cons; focus ((repeat (first | with_reducible exact Pick.here | apply Pick.there)); done)) | apply Sub.drop)))
  · have e1 : kyN (kyV x t) = vN (kyV x t) := by unfold kyN; rw [if_neg (by rw [hb]; simp)]
    rw [e1]
    exact ⟨rfl, vB (kyV x t), (Own.sub (h) (by repeat (first | with_reducible exact Sub.nil _ | with_reducible exact Sub.rfl _ | (apply Sub.cons; focus ((repeat (first | with_reducible exact Pick.here | apply Pick.there)); done)) | apply Sub.drop)))⟩
  clear h
  rintro w
  intros
  rename_i hI
  obtain ⟨_, b, h⟩ := hI
  refine Own.stP (g := ga) (k := 0) h (by repeat (first | with_reducible exact Pick.here | apply Pick.there)) (by simp) (by simp [Value.oneCell']) fun w h => ?_
  simp only [setFrom, List.set_cons_zero, List.set_cons_succ, List.set_nil] at h
  refine h.drw fun w h => ⟨_, Own.ld (g := g) (k := 0) h (by repeat (first | with_reducible exact Pick.here | apply Pick.there)) rfl, _, _, ⟨Own.ld (g := ga) (k := 0) h (by repeat (first | with_reducible exact Pick.here | apply Pick.there)) rfl, Own.ld (g := ga) (k := 1) h (by repeat (first | with_reducible exact Pick.here | apply Pick.there)) rfl⟩, ?_⟩
  rw [← vA1]
  have h : Own e w (imm h0 :: exB g gt ct lim :: F) := (Own.sub (h) (by repeat (first | exact Sub.nil _ | exact Sub.rfl _ | (apply Sub.cons; focus ((repeat (first | with_reducible exact Pick.here | apply Pick.there)); done)) | apply Sub.drop)))
  refine Rets.mono (rkPut (k := x) (v := 2 * kyN (kyV x t) + 1) hT (by omega) h) ?_
  clear h
  rintro _ w ⟨h1, gu, rfl, le1, hU, h⟩
  have hU : TreeA h1 (kyT x t) gu := hU
  refine ⟨_, rfl, Own.stP (g := g) (k := 0) h (by repeat (first | with_reducible exact Pick.here | apply Pick.there)) (by simp) (by simp [Value.oneCell']) fun w h => ?_⟩
  simp only [setFrom, List.set_cons_zero, List.set_cons_succ, List.set_nil] at h
  refine ⟨_, Own.ld (g := g) (k := 1) h (by repeat (first | with_reducible exact Pick.here | apply Pick.there)) rfl, Own.stP (g := g) (k := 1) h (by repeat (first | with_reducible exact Pick.here | apply Pick.there)) (by simp) (by simp [Value.oneCell']) fun w h => ?_⟩
  simp only [setFrom, List.set_cons_zero, List.set_cons_succ, List.set_nil] at h
  rw [wI64 (by omega) (by omega)] at h
  refine h.drw fun w h => ⟨_, Own.ld (g := g) (k := 1) h (by repeat (first | with_reducible exact Pick.here | apply Pick.there)) rfl, _, Own.ld (g := g) (k := 2) h (by repeat (first | with_reducible exact Pick.here | apply Pick.there)) rfl, fun hc => ?_, fun hc => ⟨rfl, .inr ⟨?_, h1, gu, le1, hU, h.swap⟩⟩⟩
  · have hc := dec_t hc
    refine Rets.mono (exAge hvs hS2 (by have : (kyT x t).size = (tput x (2 * kyN (kyV x t) + 1) t).size := rfl; omega) hU h.swap) ?_
    clear h
    rintro _ w ⟨rfl, h2, gv, le2, hV, h⟩
    exact ⟨rfl, rfl, .inl ⟨by omega, h2, gv, LeH.trans le1 le2, hV, h⟩⟩
  · have hc := dec_f hc; omega
theorem xnAdd (h : Own e w F) : Rets Tryd.prog 9 #[.pointer none, .int .u64 x] w fun v w' => v = .tuple #[] ∧ Own e w' F := exact_nil_Add_go _ ⟨fun _ => ⟨rfl, h⟩, fun hc => (by cases hc)⟩
/-- Keys one after another. -/
theorem exPush {L : List Int} {q : Option Addr} {c : Nat} (S : Nat → World → Prop) (hL : L.length ≤ 1000) (hr : ∀ i w, S i w → RdC w q (cs .u64 L)) (ha : ∀ i w (hi : i < L.length), S i w → Rets Tryd.prog 9 #[.pointer (some ⟨g, 0, none⟩), .int .u64 L[i]] w fun v w' => v = .tuple #[] ∧ S (i + 1) w') (h : S 0 w) : Rets Tryd.prog 17 #[.pointer (some ⟨g, 0, none⟩), .slice q L.length c] w fun v w' => v = .tuple #[] ∧ S L.length w' := by
  refine exact_Exact_Push_go _ _ _ _ ⟨fun k vs w => ∃ i : Nat, vs = [.int .i64 (i : Int)] ∧ k + i = L.length ∧ S i w, ⟨L.length, 0, rfl, rfl, h⟩, ?_⟩
  clear h
  rintro k w v1 n1
  intros
  rename_i hI
  obtain ⟨i, hvs, hk, h⟩ := hI
  obtain rfl : n1 = (i : Int) := by simpa using hvs
  refine ⟨fun hc => ?_, fun hc => ?_⟩
  · have hc := dec_t hc
    have hi : i < L.length := by omega
    refine ⟨by omega, by omega, (hr i w h).int hi fun a ha2 => ⟨_, by rw [Int.toNat_natCast]; exact ha2, ?_⟩⟩
    refine Rets.mono (ha i w hi h) ?_
    rintro _ w ⟨rfl, h⟩
    exact ⟨rfl, k - 1, by omega, i + 1, by rw [wI64 (by omega) (by omega)]; rfl, by omega, h⟩
  · have hc := dec_f hc
    obtain rfl : i = L.length := by omega
    exact ⟨rfl, h⟩
theorem xnEst (h : Own e w F) : Rets Tryd.prog 11 #[.pointer none, .int .u64 x] w fun v w' => v = .int .i64 0 ∧ Own e w' F := exact_nil_Estimate_go _ ⟨fun _ => ⟨rfl, h⟩, fun hc => (by cases hc)⟩
theorem xnCount (h : Own e w F) : Rets Tryd.prog 13 #[.pointer none] w fun v w' => v = .int .i64 0 ∧ Own e w' F := exact_nil_Count_go ⟨fun _ => ⟨rfl, h⟩, fun hc => (by cases hc)⟩
theorem xnLen (h : Own e w F) : Rets Tryd.prog 18 #[.pointer none] w fun v w' => v = .int .i64 0 ∧ Own e w' F := exact_nil_Len_go ⟨fun _ => ⟨rfl, h⟩, fun hc => (by cases hc)⟩
theorem xnPush {L : List Int} {q : Option Addr} {c : Nat} (hL : L.length ≤ 1000) (hr : ∀ w, Own e w F → RdC w q (cs .u64 L)) (h : Own e w F) : Rets Tryd.prog 17 #[.pointer none, .slice q L.length c] w fun v w' => v = .tuple #[] ∧ Own e w' F := by
  refine exact_nil_Push_go _ _ _ ⟨fun k vs w => ∃ i : Nat, vs = [.int .i64 (i : Int)] ∧ k + i = L.length ∧ Own e w F, ⟨L.length, 0, rfl, rfl, h⟩, ?_⟩
  clear h
  rintro k w v1 n1
  intros
  rename_i hI
  obtain ⟨i, hvs, hk, h⟩ := hI
  obtain rfl : n1 = (i : Int) := by simpa using hvs
  refine ⟨fun hc => ?_, fun hc => ?_⟩
  · have hc := dec_t hc
    have hi : i < L.length := by omega
    refine ⟨by omega, by omega, (hr w h).int hi fun a ha2 => ⟨_, by rw [Int.toNat_natCast]; exact ha2, ?_⟩⟩
    refine Rets.mono (xnAdd h) ?_
    rintro _ w ⟨rfl, h⟩
    exact ⟨rfl, k - 1, by omega, i + 1, by rw [wI64 (by omega) (by omega)]; rfl, by omega, h⟩
  · exact ⟨rfl, h⟩
end
def lfind (k : Int) (l : LE2) : Option (Int × Int) := l.find? (fun e => decide (e.1 = k))
theorem lfind_no {k : Int} {l : LE2} (h : ∀ e ∈ l, e.1 ≠ k) : lfind k l = none := List.find?_eq_none.2 fun e he => by simpa using h e he
theorem lfind_app {k : Int} {l m : LE2} (h : ∀ e ∈ l, e.1 ≠ k) : lfind k (l ++ m) = lfind k m := by
  unfold lfind
  rw [List.find?_append]
  rw [show l.find? (fun e => decide (e.1 = k)) = none from lfind_no h]; rfl
theorem lfind_cons {k v : Int} {m : LE2} : lfind k ((k, v) :: m) = some (k, v) := by
  unfold lfind
  rw [List.find?_cons_of_pos]; simp
theorem lfind_app_no {k : Int} {l m : LE2} (h : ∀ e ∈ m, e.1 ≠ k) : lfind k (l ++ m) = lfind k l := by
  unfold lfind
  rw [List.find?_append]
  rw [show m.find? (fun e => decide (e.1 = k)) = none from lfind_no h]; simp
theorem lfind_ne {k x xv : Int} {m : LE2} (h : x ≠ k) : lfind k ((x, xv) :: m) = lfind k m := by
  unfold lfind
  rw [List.find?_cons_of_neg]; simpa using h
theorem lrank_app (k : Int) (l m : LE2) : lrank k (l ++ m) = lrank k l + lrank k m := by unfold lrank; rw [List.filter_append, List.length_append]
theorem lrank_all {k : Int} {l : LE2} (h : ∀ e ∈ l, e.1 < k) : lrank k l = l.length := by unfold lrank; rw [fl_all (fun e he => by simpa using h e he)]
theorem lrank_no {k : Int} {l : LE2} (h : ∀ e ∈ l, k ≤ e.1) : lrank k l = 0 := by unfold lrank; rw [fl_no (fun e he => by have := h e he; simp; omega)]; rfl
theorem lrank_cons (k x xv : Int) (m : LE2) : lrank k ((x, xv) :: m) = (if x < k then 1 else 0) + lrank k m := by
  unfold lrank
  rw [List.filter_cons]
  by_cases h : x < k
  · rw [if_pos (by simpa using h), if_pos h, List.length_cons]; omega
  · rw [if_neg (by simpa using h), if_neg h]; omega
theorem tfind_eq (k : Int) : ∀ (t : Tr) (a : Nat), Srt t.toL → tfind k t a = (lfind k t.toL, a + lrank k t.toL)
  | .nil, a, _ => rfl
  | .node x xv l r, a, h => by
    obtain ⟨h1, h2, h3, h4⟩ := Srt.split h
    unfold tfind
    simp only [Tr.toL]
    split
    · rename_i hk
      subst hk
      rw [lfind_app (fun e he => by have := h3 e he; omega), lfind_cons, lrank_app, lrank_all h3, lrank_cons, if_neg (by omega), lrank_no (l := r.toL) (fun e he => by have := h4 e he; omega), Tr.size_toL]
      rfl
    · rename_i hk
      split
      · rename_i hk2
        rw [tfind_eq k l a h1, lfind_app_no, lrank_app, lrank_no (l := (x, xv) :: r.toL)]
        · rfl
        · intro e he
          rcases List.mem_cons.1 he with rfl | he
          · show k ≤ x; omega
          · have := h4 e he; omega
        · intro e he
          rcases List.mem_cons.1 he with rfl | he
          · show x ≠ k; omega
          · have := h4 e he; omega
      · rw [tfind_eq k r _ h2, lfind_app (fun e he => by have := h3 e he; omega), lfind_ne (by omega), lrank_app, lrank_all (l := l.toL) (fun e he => by have := h3 e he; omega), lrank_cons, if_pos (by omega), Tr.size_toL]
        congr 1; omega
theorem tat_eq : ∀ (t : Tr) (i : Nat), tat t i = t.toL[i]?
  | .nil, i => rfl
  | .node x xv l r, i => by
    unfold tat
    simp only [Tr.toL]
    have hl := Tr.size_toL l
    split
    · rw [tat_eq l i, List.getElem?_append_left (by omega)]
    · split
      · rw [tat_eq r, List.getElem?_append_right (by omega), hl]
        have : i - l.size = (i - l.size - 1) + 1 := by omega
        conv => rhs; rw [this]
        rw [List.getElem?_cons_succ]
      · rw [List.getElem?_append_right (by omega), hl, show i - l.size = 0 by omega]; rfl
theorem take_lt {l : LE2} (h : Srt l) {i : Nat} (hi : i < l.length) : (∀ e ∈ l.take i, e.1 < l[i].1) ∧ ∀ e ∈ l.drop (i + 1), l[i].1 < e.1 := by
  have e1 : l = l.take i ++ (l[i].1, l[i].2) :: l.drop (i + 1) := by
    show l = l.take i ++ l[i] :: l.drop (i + 1)
    rw [List.getElem_cons_drop, List.take_append_drop]
  have h' := h
  rw [e1] at h'
  obtain ⟨_, _, h3, h4⟩ := Srt.split h'
  exact ⟨h3, h4⟩
theorem at_cut {l : LE2} {i : Nat} (hi : i < l.length) : l = l.take i ++ l[i] :: l.drop (i + 1) := by rw [List.getElem_cons_drop, List.take_append_drop]
theorem lrank_at {l : LE2} (h : Srt l) {i : Nat} (hi : i < l.length) : lrank l[i].1 l = i := by
  obtain ⟨h1, h2⟩ := take_lt h hi
  have e1 := at_cut hi
  obtain ⟨x, hx⟩ : ∃ x, x = l[i] := ⟨_, rfl⟩
  rw [← hx] at h1 h2 e1 ⊢
  rw [e1, lrank_app, lrank_all h1, show x = (x.1, x.2) from rfl, lrank_cons, if_neg (by omega), lrank_no (fun e he => by have := h2 e he; show x.1 ≤ e.1; omega), List.length_take]
  omega
theorem lfind_at {l : LE2} (h : Srt l) {i : Nat} (hi : i < l.length) : lfind l[i].1 l = some l[i] := by
  obtain ⟨h1, h2⟩ := take_lt h hi
  have e1 := at_cut hi
  obtain ⟨x, hx⟩ : ∃ x, x = l[i] := ⟨_, rfl⟩
  rw [← hx] at h1 h2 e1 ⊢
  rw [e1, lfind_app (fun e he => by have := h1 e he; omega)]
  exact lfind_cons
/-! ### The document's steps -/
def pdone (k : Int) (l : LE2) : Bool := l.any (fun e => decide (k ≤ e.1))
def pout (k v : Int) (l : LE2) : LE2 := if pdone k l = true then lput k v l else l
theorem pdone_snoc (k : Int) (l : LE2) (e : Int × Int) : pdone k (l ++ [e]) = (pdone k l || decide (k ≤ e.1)) := by simp [pdone]
theorem pdone_no {k : Int} {l : LE2} (h : pdone k l = false) : ∀ e ∈ l, e.1 < k := fun e he => by
  have := (List.any_eq_false.1 h) e he
  simp at this; omega
theorem lput_lt {k v : Int} {l : LE2} (h : ∀ e ∈ l, e.1 < k) : lput k v l = l ++ [(k, v)] := by
  unfold lput
  rw [fl_all (fun e he => by simpa using h e he), fl_no (fun e he => by have := h e he; simp; omega)]
theorem pout_A {k v : Int} {l : LE2} {e : Int × Int} (hs : Srt (l ++ [e])) (hd : pdone k l = true) : k < e.1 ∧ pdone k (l ++ [e]) = true ∧ pout k v (l ++ [e]) = pout k v l ++ [e] := by
  obtain ⟨x, hx, hx2⟩ := List.any_eq_true.1 hd
  have h1 := (List.pairwise_append.1 hs).2.2 x hx e (by simp)
  have hx2 : k ≤ x.1 := by simpa using hx2
  have hk : k < e.1 := by omega
  have hd2 : pdone k (l ++ [e]) = true := by rw [pdone_snoc, hd]; rfl
  refine ⟨hk, hd2, ?_⟩
  unfold pout
  rw [if_pos hd2, if_pos hd]
  unfold lput
  rw [List.filter_append, List.filter_append, fl_no (l := [e]) (fun a ha => by rw [List.mem_singleton.1 ha]; simp; omega), fl_all (l := [e]) (p := fun e => decide (k < e.1)) (fun a ha => by rw [List.mem_singleton.1 ha]; simp; omega)]
  simp
theorem pout_B {k v : Int} {l : LE2} {e : Int × Int} (hd : pdone k l = false) (hk : k ≤ e.1) : pdone k (l ++ [e]) = true ∧ pout k v l = l ∧ pout k v (l ++ [e]) = (l ++ [(k, v)]) ++ (if e.1 = k then [] else [e]) := by
  have hd2 : pdone k (l ++ [e]) = true := by rw [pdone_snoc, hd]; simp; omega
  refine ⟨hd2, if_neg (by rw [hd]; simp), ?_⟩
  have hl := pdone_no hd
  unfold pout
  rw [if_pos hd2]
  unfold lput
  rw [List.filter_append, List.filter_append, fl_no (l := [e]) (p := fun e => decide (e.1 < k)) (fun a ha => by rw [List.mem_singleton.1 ha]; simp; omega), fl_all (l := l) (p := fun e => decide (e.1 < k)) (fun a ha => by simpa using hl a ha), fl_no (l := l) (p := fun e => decide (k < e.1)) (fun a ha => by have := hl a ha; simp; omega)]
  by_cases h : e.1 = k
  · rw [if_pos h, fl_no (l := [e]) (fun a ha => by rw [List.mem_singleton.1 ha]; simp; omega)]; simp
  · rw [if_neg h, fl_all (l := [e]) (fun a ha => by rw [List.mem_singleton.1 ha]; simp; omega)]; simp
theorem pout_C {k v : Int} {l : LE2} {e : Int × Int} (hd : pdone k l = false) (hk : e.1 < k) : pdone k (l ++ [e]) = false ∧ pout k v l = l ∧ pout k v (l ++ [e]) = l ++ [e] := by
  have hd2 : pdone k (l ++ [e]) = false := by rw [pdone_snoc, hd]; simp; omega
  exact ⟨hd2, if_neg (by rw [hd]; simp), if_neg (by rw [hd2]; simp)⟩
theorem pout_end {k v : Int} {l : LE2} : (pdone k l = true → pout k v l = lput k v l) ∧ (pdone k l = false → pout k v l ++ [(k, v)] = lput k v l) := by
  refine ⟨fun h => if_pos h, fun h => ?_⟩
  have : pout k v l = l := if_neg (by rw [h]; simp)
  rw [this, lput_lt (pdone_no h)]
theorem fl_two (k : Int) : ∀ l : LE2, (l.filter (fun e => decide (e.1 < k))).length + (l.filter (fun e => decide (k < e.1))).length ≤ l.length
  | [] => by simp
  | x :: r => by
    have ih := fl_two k r
    simp only [List.filter_cons, List.length_cons]
    split
    · rename_i h1
      have h1 : x.1 < k := by simpa using h1
      rw [if_neg (by simp; omega), List.length_cons]; omega
    · split
      · rw [List.length_cons]; omega
      · omega
theorem pout_len (k v : Int) (l : LE2) : (pout k v l).length ≤ l.length + 1 := by
  unfold pout
  split
  · unfold lput
    rw [List.length_append, List.length_cons]
    have h1 := fl_two k l
    omega
  · omega
theorem ldrop_snoc (k : Int) (l : LE2) (e : Int × Int) : ldrop k (l ++ [e]) = ldrop k l ++ (if e.1 = k then [] else [e]) := by
  unfold ldrop
  rw [List.filter_append]
  by_cases h : e.1 = k
  · rw [if_pos h, fl_no (l := [e]) (fun a ha => by rw [List.mem_singleton.1 ha]; simpa using h)]
  · rw [if_neg h, fl_all (l := [e]) (fun a ha => by rw [List.mem_singleton.1 ha]; simpa using h)]
theorem ldrop_len (k : Int) (l : LE2) : (ldrop k l).length ≤ l.length := List.length_filter_le _ _
theorem Srt.take {l : LE2} (h : Srt l) (i : Nat) : Srt (l.take i) := List.Pairwise.sublist (List.take_sublist _ _) h
theorem deep_log {t : Tr} (hb : t.bal) {i : Nat} (hX : (t.size + 1) / 2 ^ i = 0) : 1 ≤ i ∧ t.deep ≤ 2 * (i - 1) + 1 := by
  have h1 := (deep_size t hb).1
  have h2 : t.size + 1 < 2 ^ i := Nat.lt_of_div_eq_zero (Nat.pow_pos (by omega)) hX
  have h3 : t.deep / 2 < i := by
    refine Nat.lt_of_not_le fun hle => ?_
    have : 2 ^ i ≤ 2 ^ (t.deep / 2) := Nat.pow_le_pow_right (by omega) hle
    omega
  omega
theorem lfind_filter {x : Int} {p : Int × Int → Bool} (l : LE2) (h : ∀ e ∈ l, e.1 = x → p e = true) : lfind x (l.filter p) = lfind x l := by
  induction l with
  | nil => rfl
  | cons e l ih =>
    have ih := ih fun e he => h e (List.mem_cons_of_mem _ he)
    rw [List.filter_cons]
    by_cases hx : e.1 = x
    · rw [if_pos (h e List.mem_cons_self hx)]
      obtain ⟨a, b⟩ := e
      obtain rfl : a = x := hx
      rw [lfind_cons, lfind_cons]
    · obtain ⟨a, b⟩ := e
      rw [lfind_ne hx]
      split
      · rw [lfind_ne hx, ih]
      · exact ih
theorem lfind_lput (x k v : Int) (l : LE2) : lfind x (lput k v l) = if x = k then some (k, v) else lfind x l := by
  unfold lput
  by_cases h : x = k
  · subst h
    rw [if_pos rfl, lfind_app (fun e he => by have := (List.mem_filter.1 he).2; simp at this; omega), lfind_cons]
  · rw [if_neg h]
    by_cases hlt : x < k
    · rw [lfind_app_no (fun e he => by
        rcases List.mem_cons.1 he with rfl | he
        · exact fun hh => h hh.symm
        · have := (List.mem_filter.1 he).2; simp at this; omega)]
      exact lfind_filter l fun e he hx => by simp; omega
    · rw [lfind_app (fun e he => by have := (List.mem_filter.1 he).2; simp at this; omega), lfind_ne (fun hh => h hh.symm)]
      exact lfind_filter l fun e he hx => by simp; omega
theorem lfind_put (x k v : Int) {t : Tr} (h : Srt t.toL) : lfind x (tput k v t).toL = if x = k then some (k, v) else lfind x t.toL := by rw [tput_toL k v t h, lfind_lput]
theorem srt_put (k v : Int) {t : Tr} (h : Srt t.toL) : Srt (tput k v t).toL := by rw [tput_toL k v t h]; exact lput_srt h
theorem agT_srt (l : LE2) : ∀ u : Tr, Srt u.toL → Srt (agT l u).toL := by
  induction l with
  | nil => intro u h; exact h
  | cons y l ih =>
    intro u h
    refine ih _ ?_
    split
    · exact srt_put _ _ h
    · exact h
/-- What an age leaves of a key. -/
theorem agT_find (x : Int) (l : LE2) : ∀ u : Tr, Srt l → Srt u.toL → lfind x (agT l u).toL = match lfind x l with
    | some e => if 0 < vN e.2 / 2 then some (x, 2 * (vN e.2 / 2)) else lfind x u.toL
    | none => lfind x u.toL := by
  induction l with
  | nil => intro u _ _; rfl
  | cons y l ih =>
    intro u hl hu
    obtain ⟨y1, y2⟩ := y
    have hl2 : Srt l := (List.pairwise_cons.1 hl).2
    have hgt : ∀ e ∈ l, y1 < e.1 := (List.pairwise_cons.1 hl).1
    have hu2 : Srt (if 0 < vN y2 / 2 then tput y1 (2 * (vN y2 / 2)) u else u).toL := by
      split
      · exact srt_put _ _ hu
      · exact hu
    have ih := ih (if 0 < vN y2 / 2 then tput y1 (2 * (vN y2 / 2)) u else u) hl2 hu2
    show lfind x (agT l (if 0 < vN y2 / 2 then tput y1 (2 * (vN y2 / 2)) u else u)).toL = _
    rw [ih]
    by_cases hx : y1 = x
    · subst hx
      rw [lfind_no (l := l) (fun e he => by have := hgt e he; omega), lfind_cons]
      show lfind y1 (if 0 < vN y2 / 2 then tput y1 (2 * (vN y2 / 2)) u else u).toL = if 0 < vN y2 / 2 then some (y1, 2 * (vN y2 / 2)) else lfind y1 u.toL
      split
      · rw [lfind_put _ _ _ hu, if_pos rfl]
      · rfl
    · rw [lfind_ne hx]
      have e1 : lfind x (if 0 < vN y2 / 2 then tput y1 (2 * (vN y2 / 2)) u else u).toL = lfind x u.toL := by
        split
        · rw [lfind_put _ _ _ hu, if_neg (fun hh => hx hh.symm)]
        · rfl
      rw [e1]
/-! ### The document's state of a key: how many came, whether it came, its number -/
def kst (lim x : Int) (s : Nat × Bool × Int) (y : Int) : Nat × Bool × Int :=
  let n := if y = x ∧ s.2.1 = true then minI 15 (s.2.2 + 1) else s.2.2
  let b := s.2.1 || decide (y = x)
  if Int.tmod ((s.1 : Int) + 1) lim = 0 then (s.1 + 1, false, n / 2) else (s.1 + 1, b, n)
def kn (lim x : Int) (l : List Int) : Nat × Bool × Int := l.foldl (kst lim x) (0, false, 0)
theorem kn_snoc (lim x : Int) (l : List Int) (y : Int) : kn lim x (l ++ [y]) = kst lim x (kn lim x l) y := by unfold kn; rw [List.foldl_append]; rfl
theorem kst_one (lim x : Int) (s : Nat × Bool × Int) (y : Int) : (kst lim x s y).1 = s.1 + 1 := by
  unfold kst; dsimp only; split <;> rfl
theorem kst_bd {lim x : Int} {s : Nat × Bool × Int} {y : Int} (h : 0 ≤ s.2.2 ∧ s.2.2 ≤ 15) : 0 ≤ (kst lim x s y).2.2 ∧ (kst lim x s y).2.2 ≤ 15 := by
  unfold kst minI; dsimp only
  split <;> (dsimp only; split <;> (try split) <;> omega)
def k2v (s : Nat × Bool × Int) : Int := 2 * s.2.2 + if s.2.1 = true then 1 else 0
theorem k2v_N (s : Nat × Bool × Int) : vN (k2v s) = s.2.2 := by unfold vN k2v; split <;> omega
theorem k2v_B (s : Nat × Bool × Int) : vB (k2v s) = s.2.1 := by
  unfold vB k2v
  cases s.2.1 with
  | true => exact decide_eq_true (by simp)
  | false => exact decide_eq_false (by simp)
/-- A tree tells the document's state. -/
def Rl (lim : Int) (t : Tr) (l : List Int) : Prop := Srt t.toL ∧ ∀ x, lfind x t.toL = if (kn lim x l).2 = (false, 0) then none else some (x, k2v (kn lim x l))
theorem kyV_eq {x : Int} {t : Tr} (h : Srt t.toL) : kyV x t = ((lfind x t.toL).getD (0, 0)).2 := by
  unfold kyV; rw [tfind_eq x t 0 h]
theorem Rl.val {lim x : Int} {t : Tr} {l : List Int} (h : Rl lim t l) : kyV x t = k2v (kn lim x l) := by
  rw [kyV_eq h.1, h.2 x]
  split
  · rename_i hz
    unfold k2v; rw [hz]; rfl
  · rfl
theorem kyN_eq {lim x : Int} {t : Tr} {l : List Int} (h : Rl lim t l) : kyN (kyV x t) = if (kn lim x l).2.1 = true then minI 15 ((kn lim x l).2.2 + 1) else (kn lim x l).2.2 := by
  rw [h.val]; unfold kyN; rw [k2v_N, k2v_B]
/-- Behind one key, ahead of an age. -/
theorem Rl.put {lim y : Int} {t : Tr} {l : List Int} (h : Rl lim t l) (x : Int) : lfind x (kyT y t).toL = if ((kn lim x l).2.1 || decide (y = x)) = false ∧ (if y = x ∧ (kn lim x l).2.1 = true then minI 15 ((kn lim x l).2.2 + 1) else (kn lim x l).2.2) = 0 then none else some (x, 2 * (if y = x ∧ (kn lim x l).2.1 = true then minI 15 ((kn lim x l).2.2 + 1) else (kn lim x l).2.2) + if ((kn lim x l).2.1 || decide (y = x)) = true then 1 else 0) := by
  unfold kyT
  rw [lfind_put _ _ _ h.1, kyN_eq h]
  by_cases hx : x = y
  · subst hx
    rw [if_pos rfl]
    simp
  · rw [if_neg hx, h.2 x]
    have hy : ¬ y = x := fun e => hx e.symm
    obtain ⟨i, b, n⟩ := kn lim x l
    simp [hy, k2v]
theorem Rl.step {lim y : Int} {t : Tr} {l : List Int} (h : Rl lim t l) (hn : ∀ x, (kn lim x l).1 = l.length) (hm : Int.tmod ((l.length : Int) + 1) lim ≠ 0) : Rl lim (kyT y t) (l ++ [y]) := by
  refine ⟨by unfold kyT; exact srt_put _ _ h.1, fun x => ?_⟩
  rw [h.put x, kn_snoc]
  have hi := hn x
  generalize kn lim x l = s at hi ⊢
  obtain ⟨i, b, n⟩ := s
  have hi : i = l.length := hi
  subst hi
  unfold kst k2v
  dsimp only
  rw [if_neg hm]
  dsimp only
  simp [Prod.ext_iff]
theorem Rl.age {lim y : Int} {t : Tr} {l : List Int} (h : Rl lim t l) (hn : ∀ x, (kn lim x l).1 = l.length) (hb : ∀ x, 0 ≤ (kn lim x l).2.2 ∧ (kn lim x l).2.2 ≤ 15) (hm : Int.tmod ((l.length : Int) + 1) lim = 0) : Rl lim (agT (kyT y t).toL .nil) (l ++ [y]) := by
  have hS : Srt (kyT y t).toL := by unfold kyT; exact srt_put _ _ h.1
  refine ⟨agT_srt _ Tr.nil List.Pairwise.nil, fun x => ?_⟩
  rw [agT_find x _ Tr.nil hS List.Pairwise.nil, h.put x, kn_snoc]
  have hi := hn x
  have hb := hb x
  generalize kn lim x l = s at hi hb ⊢
  obtain ⟨i, b, n⟩ := s
  have hi : i = l.length := hi
  have hb : 0 ≤ n ∧ n ≤ 15 := hb
  subst hi
  unfold kst k2v
  dsimp only
  rw [if_pos hm]
  dsimp only
  obtain ⟨N, hN⟩ : ∃ N, N = (if y = x ∧ b = true then minI 15 (n + 1) else n) := ⟨_, rfl⟩
  have hNb : 0 ≤ N ∧ N ≤ 15 := by rw [hN]; unfold minI; split <;> (try split) <;> omega
  rw [← hN]
  clear hN
  obtain ⟨c, hc⟩ : ∃ c : Bool, c = (b || decide (y = x)) := ⟨_, rfl⟩
  rw [← hc]
  by_cases hz : c = false ∧ N = 0
  · rw [if_pos hz]
    obtain ⟨_, rfl⟩ := hz
    rfl
  · rw [if_neg hz]
    have e1 : vN (2 * N + if c = true then 1 else 0) = N := by unfold vN; split <;> omega
    show (if 0 < vN (2 * N + if c = true then 1 else 0) / 2 then some (x, 2 * (vN (2 * N + if c = true then 1 else 0) / 2)) else lfind x Tr.nil.toL) = _
    rw [e1]
    by_cases h2 : 0 < N / 2
    · rw [if_pos h2, if_neg (by simp; omega)]
      simp
    · rw [if_neg h2, if_pos (by simp; omega)]
      rfl
def knE (s : Nat × Bool × Int) : Int := s.2.2 + if s.2.1 = true then 1 else 0
theorem kn_len (lim x : Int) (l : List Int) : (kn lim x l).1 = l.length := by
  suffices h : ∀ s, (l.foldl (kst lim x) s).1 = s.1 + l.length by unfold kn; rw [h]; simp
  induction l with
  | nil => intro s; rfl
  | cons y l ih => intro s; rw [List.foldl_cons, ih, kst_one, List.length_cons]; omega
theorem kn_bd (lim x : Int) (l : List Int) : 0 ≤ (kn lim x l).2.2 ∧ (kn lim x l).2.2 ≤ 15 := by
  suffices h : ∀ s : Nat × Bool × Int, 0 ≤ s.2.2 ∧ s.2.2 ≤ 15 → 0 ≤ (l.foldl (kst lim x) s).2.2 ∧ (l.foldl (kst lim x) s).2.2 ≤ 15 by exact h _ ⟨by decide, by decide⟩
  induction l with
  | nil => intro s h; exact h
  | cons y l ih => intro s h; exact ih _ (kst_bd h)
section
variable {e w : World} {F : List HP} {q : Option Addr} {L : List Int} {c : Nat} {n x : Int}
end
theorem lfind_mem {l : LE2} (h : Srt l) {e : Int × Int} (he : e ∈ l) : lfind e.1 l = some e := by
  obtain ⟨i, hi, rfl⟩ := List.getElem_of_mem he
  exact lfind_at h hi
theorem cnt_key (x : Int) {l : LE2} (h : Srt l) : l.countP (fun e => decide (e.1 = x)) = if (lfind x l).isSome = true then 1 else 0 := by
  induction l with
  | nil => rfl
  | cons y l ih =>
    obtain ⟨a, b⟩ := y
    have h2 : Srt l := (List.pairwise_cons.1 h).2
    have hgt : ∀ e ∈ l, a < e.1 := (List.pairwise_cons.1 h).1
    rw [List.countP_cons]
    by_cases hx : a = x
    · subst hx
      have e0 : l.countP (fun e => decide (e.1 = a)) = 0 := List.countP_eq_zero.2 fun e he => by have := hgt e he; simp; omega
      rw [e0, lfind_cons]; simp
    · rw [ih h2, lfind_ne hx]; simp [hx]
theorem cnt_step (T : List Int) (x : Int) {l : LE2} (h : Srt l) : l.countP (fun e => decide (e.1 ∈ T ++ [x])) = l.countP (fun e => decide (e.1 ∈ T)) + if x ∉ T ∧ (lfind x l).isSome = true then 1 else 0 := by
  by_cases hx : x ∈ T
  · rw [if_neg (fun hh => hh.1 hx), Nat.add_zero]
    congr 1
    funext e
    rw [decide_eq_decide, List.mem_append, List.mem_singleton]
    exact ⟨fun hh => hh.elim id fun e => e ▸ hx, .inl⟩
  · have e1 : l.countP (fun e => decide (e.1 ∈ T ++ [x])) = l.countP (fun e => decide (e.1 ∈ T)) + l.countP (fun e => decide (e.1 = x)) := by
      clear h
      induction l with
      | nil => rfl
      | cons y l ih =>
        rw [List.countP_cons, List.countP_cons, List.countP_cons, ih]
        by_cases h1 : y.1 = x
        · have : y.1 ∉ T := by rw [h1]; exact hx
          simp [h1, hx]; omega
        · simp [h1]; omega
    rw [e1, cnt_key x h]
    simp [hx]
theorem tmod_step {i lim ct : Int} (h0 : 0 ≤ i) (hl : 1 ≤ lim) (hct : ct = Int.tmod i lim) : 0 ≤ ct ∧ ct < lim ∧ Int.tmod (i + 1) lim = if lim ≤ ct + 1 then 0 else ct + 1 := by
  rw [Int.tmod_eq_emod_of_nonneg h0] at hct
  rw [Int.tmod_eq_emod_of_nonneg (by omega)]
  have h1 := Int.emod_nonneg i (show lim ≠ 0 by omega)
  have h2 := Int.emod_lt_of_pos i (show 0 < lim by omega)
  have h3 := Int.emod_add_emod i lim 1
  rw [← hct] at h1 h2 h3
  refine ⟨h1, h2, ?_⟩
  rw [← h3]
  split
  · have : ct + 1 = lim := by omega
    rw [this, Int.emod_self]
  · exact Int.emod_eq_of_lt (by omega) (by omega)
theorem Rl.bd {lim y : Int} {t : Tr} {l : List Int} (h : Rl lim t l) : (0 ≤ vN (kyV y t) ∧ vN (kyV y t) ≤ 15) ∧ ∀ e ∈ (kyT y t).toL, 0 ≤ vN e.2 ∧ vN e.2 ≤ 100 := by
  refine ⟨by rw [h.val, k2v_N]; exact kn_bd lim y l, fun e he => ?_⟩
  have hS : Srt (kyT y t).toL := by unfold kyT; exact srt_put _ _ h.1
  have hf := h.put (y := y) e.1
  rw [lfind_mem hS he] at hf
  have hb := kn_bd lim e.1 l
  generalize kn lim e.1 l = s at hf hb
  obtain ⟨N, hN⟩ : ∃ N, N = (if y = e.1 ∧ s.2.1 = true then minI 15 (s.2.2 + 1) else s.2.2) := ⟨_, rfl⟩
  have hNb : 0 ≤ N ∧ N ≤ 15 := by rw [hN]; unfold minI; split <;> (try split) <;> omega
  rw [← hN] at hf
  split at hf
  · cases hf
  · have hf := congrArg (fun o => (o.getD (0, 0)).2) hf
    have hf : e.2 = 2 * N + _ := hf
    rw [hf]
    unfold vN
    split <;> omega
theorem Rl.nil (lim : Int) : Rl lim .nil [] := ⟨List.Pairwise.nil, fun x => rfl⟩
/-- The next tree. -/
def nxE (lim : Int) (i : Nat) (y : Int) (t : Tr) : Tr := if Int.tmod ((i : Int) + 1) lim = 0 then agT (kyT y t).toL .nil else kyT y t
theorem Rl.next {lim y : Int} {t : Tr} {l : List Int} (h : Rl lim t l) : Rl lim (nxE lim l.length y t) (l ++ [y]) := by
  unfold nxE
  split
  · rename_i hm; exact h.age (fun x => kn_len lim x l) (fun x => kn_bd lim x l) hm
  · rename_i hm; exact h.step (fun x => kn_len lim x l) hm
theorem nxE_size {lim y : Int} {t : Tr} {i n : Nat} (h : t.size ≤ n) : (nxE lim i y t).size ≤ n + 1 := by
  have h1 : (kyT y t).size ≤ t.size + 1 := size_put _ _ _
  unfold nxE
  split
  · have := agT_size (kyT y t).toL .nil
    rw [Tr.size_toL] at this
    simp only [Tr.size] at this
    omega
  · omega
/-- What stands in a tree: the keys whose estimate is above 0. -/
theorem Rl.some {lim x : Int} {t : Tr} {l : List Int} (h : Rl lim t l) : (lfind x t.toL).isSome = true ↔ 0 < knE (kn lim x l) := by
  rw [h.2 x]
  have hb := kn_bd lim x l
  generalize kn lim x l = s at hb ⊢
  obtain ⟨i, b, m⟩ := s
  have hb : 0 ≤ m ∧ m ≤ 15 := hb
  unfold knE
  dsimp only
  cases b with
  | true => simp; omega
  | false =>
    by_cases hm : m = 0
    · subst hm; simp
    · simp [hm]; omega
theorem kn_no {lim x : Int} {l : List Int} (h : x ∉ l) : (kn lim x l).2 = (false, 0) := by
  suffices hh : ∀ s : Nat × Bool × Int, s.2 = (false, 0) → (l.foldl (kst lim x) s).2 = (false, 0) by exact hh _ rfl
  induction l with
  | nil => intro s hs; exact hs
  | cons y l ih =>
    intro s hs
    have hy : ¬ y = x := fun e => h (e ▸ List.mem_cons_self)
    refine ih (fun hm => h (List.mem_cons_of_mem _ hm)) _ ?_
    obtain ⟨i, b, m⟩ := s
    cases hs
    unfold kst
    simp [hy]
theorem Rl.all {lim : Int} {t : Tr} {l L : List Int} (h : Rl lim t l) (hs : ∀ x ∈ l, x ∈ L) : t.toL.countP (fun e => decide (e.1 ∈ L)) = t.size := by
  rw [← Tr.size_toL t]
  refine List.countP_eq_length.2 fun e he => ?_
  refine decide_eq_true (hs _ ?_)
  refine Decidable.byContradiction fun hn => ?_
  have h1 := lfind_mem h.1 he
  rw [h.2 e.1, if_pos (kn_no hn)] at h1
  cases h1
theorem slcA0 (q : Option Addr) (c z : Nat) : slcA q 0 c z = q := by
  unfold slcA
  split
  · rfl
  · cases q with
    | none => rfl
    | some a =>
      show some (a.add (0 * z)) = some a
      rw [Nat.zero_mul]; rfl
theorem nin1 {T : List Int} (a b : Int) (h : b ∉ T) : decide (b ∉ T ++ [a]) = (a != b) := by
  by_cases e : a = b
  · subst e; simp
  · have e' : ¬ b = a := fun hh => e hh.symm
    simp [h, e, e']
theorem nin2 {T : List Int} (a b : Int) (h : b ∈ T) : decide (b ∉ T ++ [a]) = false := by simp [h]
section
variable {e w : World} {F : List HP} {h0 : Nat → Option Obj} {t : Tr} {g gt : Nat} {y ct lim : Int} {l : List Int}
theorem exAddN (R : Rl lim t l) (hl : 1 ≤ lim ∧ lim ≤ 4096) (hs : t.size ≤ 200) (hT : TreeA h0 t gt) (h : Own e w (imm h0 :: exB g gt (Int.tmod (l.length : Int) lim) lim :: F)) : Rets Tryd.prog 9 #[.pointer (some ⟨g, 0, none⟩), .int .u64 y] w fun v w' => v = .tuple #[] ∧ EX e F h0 g (nxE lim l.length y t) (Int.tmod ((l.length : Int) + 1) lim) lim w' := by
  obtain ⟨c0, c1, c2⟩ := tmod_step (i := (l.length : Int)) (by omega) hl.1 rfl
  refine Rets.mono (exAdd (x := y) hT hs R.1 (R.bd (y := y)).1 (R.bd (y := y)).2 ⟨c0, c1, hl.2⟩ h) ?_
  clear h
  rintro _ w ⟨rfl, ⟨hc, h⟩ | ⟨hc, h⟩⟩
  · rw [if_pos hc] at c2
    unfold nxE
    rw [c2, if_pos rfl]; exact ⟨rfl, h⟩
  · rw [if_neg (by omega)] at c2
    unfold nxE
    rw [c2, if_neg (by omega)]; exact ⟨rfl, h⟩
theorem exEstN {x : Int} (R : Rl lim t l) (hs : t.size ≤ 700) (hT : TreeA h0 t gt) (h : Own e w (imm h0 :: exB g gt ct lim :: F)) : Rets Tryd.prog 11 #[.pointer (some ⟨g, 0, none⟩), .int .u64 x] w fun v w' => v = .int .i64 (knE (kn lim x l)) ∧ Own e w' (imm h0 :: exB g gt ct lim :: F) := by
  have hb := (R.bd (y := x)).1
  have := exEst (x := x) hT hs ⟨hb.1, by omega⟩ h
  rw [R.val, k2v_N, k2v_B] at this
  exact this
theorem exAwake (h : Own e w (imm h0 :: F)) : Rets Tryd.prog 5 #[] w fun v w' => v = .bool true ∧ Own e w' (imm h0 :: F) := by
  refine cortadolaw14_awake_go ?_
  refine Rets.mono (exNew (n := 4) h) ?_
  clear h
  rintro _ w ⟨g, rfl, h1, gu, le1, hU, h⟩
  rw [show maxI 1 (minI 4 4096) = (4 : Int) by decide] at h
  refine ⟨_, rfl, h.newR fun ga w h => ?_⟩
  let S : Nat → World → Prop := fun i w => ∃ (t : Tr) (h1 : Nat → Option Obj) (gu : Nat), Rl 4 t (([7, 7, 7] : List Int).take i) ∧ t.size ≤ i ∧ LeH h0 h1 ∧ TreeA h1 t gu ∧ Own e w (imm h1 :: exB g gu (Int.tmod (i : Int) 4) 4 :: blk ga 22 [.int .u64 7, .int .u64 7, .int .u64 7] :: F)
  have h : Own e w (imm h1 :: exB g gu 0 4 :: blk ga 22 [.int .u64 7, .int .u64 7, .int .u64 7] :: F) := (Own.sub (h) (by repeat (first | with_reducible exact Sub.nil _ | with_reducible exact Sub.rfl _ | (apply Sub.cons; focus ((repeat (first | with_reducible exact Pick.here | apply Pick.there)); done)) | apply Sub.drop)))
  have hS : S 0 w := ⟨.nil, h1, gu, Rl.nil 4, Nat.le_refl _, le1, hU, h⟩
  clear h
  refine Rets.mono (exPush (g := g) (L := [7, 7, 7]) (q := some ⟨ga, 0, none⟩) (c := 3) S (by decide) (fun i w hS => ?_) (fun i w hi hS => ?_) hS) ?_
  · obtain ⟨_, _, _, _, _, _, _, h⟩ := hS
    have h : Own e w (blk ga 22 [.int .u64 7, .int .u64 7, .int .u64 7] :: _) := h.drop.drop
    exact h.blkRd
  · obtain ⟨t, h2, gv, R, hs, le2, hT, h⟩ := hS
    have hi : i < 3 := hi
    have hti : (([7, 7, 7] : List Int).take i).length = i := by simp; omega
    have R2 := R.next (y := ([7, 7, 7] : List Int)[i])
    have ha := exAddN (y := ([7, 7, 7] : List Int)[i]) R ⟨by decide, by decide⟩ (by omega) hT (by rw [hti]; exact h)
    rw [hti] at ha R2
    refine Rets.mono ha ?_
    clear h ha
    rintro _ w ⟨rfl, h3, gw, le3, hT3, h⟩
    exact ⟨rfl, _, h3, gw, by rw [List.take_succ_eq_append_getElem hi]; exact R2, nxE_size hs, LeH.trans le2 le3, hT3, h⟩
  · rintro _ w ⟨rfl, t, h2, gv, R, hs, le2, hT, h⟩
    have R : Rl 4 t [7, 7, 7] := R
    have hs : t.size ≤ 3 := hs
    refine ⟨rfl, ?_⟩
    refine Rets.mono (exEstN (x := 7) R (by omega) hT h) ?_
    clear h
    rintro _ w ⟨rfl, h⟩
    refine ⟨_, rfl, fun _ => ?_, fun hc => absurd hc (by decide)⟩
    refine Rets.mono (exCount h) ?_
    clear h
    rintro _ w ⟨rfl, h⟩
    refine ⟨_, rfl, fun _ => ?_, fun hc => absurd hc (by decide)⟩
    refine Rets.mono (exLen hT h) ?_
    rintro _ w ⟨rfl, h⟩
    have e1 := R.all (L := [] ++ [7]) (by simp)
    rw [cnt_step [] 7 R.1, if_pos ⟨by simp, R.some.2 (by decide)⟩] at e1
    have e2 : t.size = 1 := by rw [← e1]; simp
    rw [e2]
    have h : Own e w (imm h2 :: F) := (Own.sub (h) (by repeat (first | exact Sub.nil _ | exact Sub.rfl _ | (apply Sub.cons; focus ((repeat (first | with_reducible exact Pick.here | apply Pick.there)); done)) | apply Sub.drop)))
    exact ⟨_, rfl, rfl, h.immLe le2⟩
end
end Go.Proofs.YtjdbeopgmpbikaaDoor.Eng
