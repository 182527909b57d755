/- Rank at [uint64, int]. -/
import Derived.Test.YtajckpjlliiekaaDoorRkW
import Derived.Test.YtajckpjlliiekaaDoorLgaG
namespace Go.Proofs.YtajckpjlliiekaaDoor.Eng
open Go Go.RowKit Go.Proofs
set_option linter.unusedVariables false
set_option linter.unusedSimpArgs false
set_option maxRecDepth 1000000
abbrev nodC (k v : Int) (pl pr : Option Addr) (l r : Tr) : List Value := [.int .u64 k, .int .i64 v, .pointer pl, .pointer pr, .int .i64 (((Tr.node k v l r).size : Nat) : Int), .int .i64 (((Tr.node k v l r).deep : Nat) : Int)]
def TrA (h0 : Nat → Option Obj) : Tr → Option Addr → Prop
  | .nil, p => p = none
  | .node k v l r, p => ∃ (g : Nat) (pl pr : Option Addr), p = some ⟨g, 0, none⟩ ∧ h0 g = some (.cells (nodC k v pl pr l r).toArray 110 (0, 0)) ∧ TrA h0 l pl ∧ TrA h0 r pr
theorem TrA.mono {h0 h1 : Nat → Option Obj} (hle : LeH h0 h1) : ∀ {t : Tr} {p : Option Addr}, TrA h0 t p → TrA h1 t p
  | .nil, _, h => h
  | .node k v l r, _, ⟨g, pl, pr, a1, a2, a3, a4⟩ => ⟨g, pl, pr, a1, hle _ _ a2, TrA.mono hle a3, TrA.mono hle a4⟩
theorem deep_le : ∀ t : Tr, t.deep ≤ t.size
  | .nil => Nat.le_refl _
  | .node k v l r => by
    have := deep_le l; have := deep_le r
    simp only [Tr.deep, Tr.size]; omega
theorem size_joined (k v : Int) (l r : Tr) : (joined k v l r).size = l.size + r.size + 1 := by
  rw [← Tr.size_toL, toL_joined, List.length_append, List.length_cons, Tr.size_toL, Tr.size_toL]; omega
theorem size_first (l : Tr) (k v : Int) (r : Tr) : (tfirst k v r l).1.size = l.size + r.size := by
  have := congrArg List.length (tfirst_toL l k v r)
  rw [List.length_cons, List.length_append, List.length_cons, Tr.size_toL, Tr.size_toL, Tr.size_toL] at this
  omega
theorem size_both (l r : Tr) : (tboth l r).size = l.size + r.size := by
  rw [← Tr.size_toL, tboth_toL, List.length_append, Tr.size_toL, Tr.size_toL]
theorem size_put (k v : Int) : ∀ t : Tr, (tput k v t).size ≤ t.size + 1
  | .nil => Nat.le_refl _
  | .node x xv l r => by
    have i1 := size_put k v l; have i2 := size_put k v r
    unfold tput
    split
    · rw [size_joined]; simp only [Tr.size]; omega
    · split
      · rw [size_joined]; simp only [Tr.size]; omega
      · simp only [Tr.size]; omega
theorem size_drop (k : Int) : ∀ t : Tr, (tdrop k t).size ≤ t.size
  | .nil => Nat.le_refl _
  | .node x xv l r => by
    have i1 := size_drop k l; have i2 := size_drop k r
    unfold tdrop
    split
    · rw [size_joined]; simp only [Tr.size]; omega
    · split
      · rw [size_joined]; simp only [Tr.size]; omega
      · rw [size_both]; simp only [Tr.size]; omega
/-- A part is told. -/
abbrev RT (e : World) (F : List HP) (h0 : Nat → Option Obj) (t : Tr) (v : Value) (w' : World) : Prop := ∃ (h1 : Nat → Option Obj) (p : Option Addr), v = .pointer p ∧ LeH h0 h1 ∧ TrA h1 t p ∧ Own e w' (imm h1 :: F)
def ordI (x y : Int) : Int := if x < y then -1 else if x > y then 1 else 0
theorem ordI_lt {x y : Int} : ordI x y < 0 ↔ x < y := by unfold ordI; split <;> (try split) <;> omega
theorem ordI_gt {x y : Int} : ordI x y > 0 ↔ y < x := by unfold ordI; split <;> (try split) <;> omega
theorem ordI_eq {x y : Int} : ordI x y = 0 ↔ x = y := by unfold ordI; split <;> (try split) <;> omega
def TrOrd (h0 : Nat → Option Obj) (g : Nat) (p : Option Addr) : Prop := h0 g = some (.cells #[.func (.func 82) #[] #[], .pointer p] 124 (0, 0))
def tfind (k : Int) : Tr → Nat → Option (Int × Int) × Nat
  | .nil, a => (none, a)
  | .node x xv l r, a => if k = x then (some (x, xv), a + l.size) else if k < x then tfind k l a else tfind k r (a + l.size + 1)
theorem tfind_le (k : Int) : ∀ (t : Tr) (a : Nat), (tfind k t a).2 ≤ a + t.size
  | .nil, a => Nat.le_refl _
  | .node x xv l r, a => by
    have i1 := tfind_le k l a; have i2 := tfind_le k r (a + l.size + 1)
    unfold tfind
    split
    · simp only [Tr.size]; omega
    · split <;> simp only [Tr.size] <;> omega
def tat : Tr → Nat → Option (Int × Int)
  | .nil, _ => none
  | .node x xv l r, i => if i < l.size then tat l i else if i > l.size then tat r (i - l.size - 1) else some (x, xv)
section
variable {e w : World} {F : List HP} {h0 : Nat → Option Obj} {t l r : Tr} {p q : Option Addr} {k v : Int} {g : Nat}
theorem rkNan {x : Int} (h : Own e w F) : Rets Tryd.prog 103 #[.int .u64 x] w fun v w' => v = .bool false ∧ Own e w' F :=
  cmp_isNaN_uint64_go _ ⟨by simp, h⟩
theorem rkOrder {x y : Int} (h : Own e w F) : Rets Tryd.prog 82 #[.int .u64 x, .int .u64 y] w fun v w' => v = .int .i64 (ordI x y) ∧ Own e w' F := by
  refine cmp_Compare_uint64_go _ _ ?_
  refine Rets.mono (rkNan h) ?_
  rintro _ w ⟨rfl, h⟩
  refine ⟨_, rfl, ?_⟩
  refine Rets.mono (rkNan h) ?_
  rintro _ w ⟨rfl, h⟩
  refine ⟨_, rfl, fun vs w => Own e w F, ⟨fun hc => (by cases hc), fun _ => h⟩, ?_⟩
  clear h
  rintro w
  intros
  rename_i h
  refine ⟨fun hc => (by cases hc), fun _ => ⟨fun hc => ?_, fun hc => ⟨fun hc2 => ?_, fun hc2 => ?_⟩⟩⟩
  · exact ⟨by unfold ordI; rw [if_pos (dec_t hc)], h⟩
  · exact ⟨by unfold ordI; rw [if_neg (dec_f hc), if_pos (dec_t hc2)], h⟩
  · exact ⟨by unfold ordI; rw [if_neg (dec_f hc), if_neg (dec_f hc2)], h⟩
theorem rkSize (ht : TrA h0 t p) (h : Own e w (imm h0 :: F)) : Rets Tryd.prog 77 #[.pointer p] w fun v w' => v = .int .i64 (t.size : Int) ∧ Own e w' (imm h0 :: F) := by
  cases t with
  | nil =>
    obtain rfl : p = none := ht
    exact rank_nil_size_go ⟨fun _ => ⟨rfl, h⟩, fun hc => (by cases hc)⟩
  | node k v l r =>
    obtain ⟨g, pl, pr, rfl, hg, hl, hr⟩ := ht
    exact rank_size_int_int_go _ ⟨fun hc => (by cases hc), fun _ => ⟨_, h.immCell hg (i := 4) rfl, rfl, h⟩⟩
theorem rkDeep (ht : TrA h0 t p) (h : Own e w (imm h0 :: F)) : Rets Tryd.prog 116 #[.pointer p] w fun v w' => v = .int .i64 (t.deep : Int) ∧ Own e w' (imm h0 :: F) := by
  cases t with
  | nil =>
    obtain rfl : p = none := ht
    exact rank_nil_deep_go ⟨fun _ => ⟨rfl, h⟩, fun hc => (by cases hc)⟩
  | node k v l r =>
    obtain ⟨g, pl, pr, rfl, hg, hl, hr⟩ := ht
    exact rank_deep_int_int_go _ ⟨fun hc => (by cases hc), fun _ => ⟨_, h.immCell hg (i := 5) rfl, rfl, h⟩⟩
theorem rkMade (hl : TrA h0 l p) (hr : TrA h0 r q) (hs : l.size + r.size ≤ 1000) (h : Own e w (imm h0 :: F)) : Rets Tryd.prog 105 #[.int .u64 k, .int .i64 v, .pointer p, .pointer q] w (RT e F h0 (.node k v l r)) := by
  have d1 := deep_le l
  have d2 := deep_le r
  refine rank_made_int_int_go _ _ _ _ ?_
  refine Rets.mono (rkSize hl h) ?_
  clear h
  rintro _ w ⟨rfl, h⟩
  refine ⟨_, rfl, ?_⟩
  refine Rets.mono (rkSize hr h) ?_
  clear h
  rintro _ w ⟨rfl, h⟩
  refine ⟨_, rfl, ?_⟩
  refine Rets.mono (rkDeep hl h) ?_
  clear h
  rintro _ w ⟨rfl, h⟩
  refine ⟨_, rfl, ?_⟩
  refine Rets.mono (rkDeep hr h) ?_
  clear h
  rintro _ w ⟨rfl, h⟩
  refine ⟨_, rfl, h.newR fun g w h => ?_⟩
  have e1 : IntKind.wrap .i64 (IntKind.wrap .i64 ((l.size : Int) + (r.size : Int)) + 1) = (((Tr.node k v l r).size : Nat) : Int) := by
    rw [wI64 (n := (l.size : Int) + (r.size : Int)) (by omega) (by omega), wI64 (by omega) (by omega)]
    simp only [Tr.size]; omega
  have e2 : IntKind.wrap .i64 (maxI (l.deep : Int) (r.deep : Int) + 1) = (((Tr.node k v l r).deep : Nat) : Int) := by
    have : maxI (l.deep : Int) (r.deep : Int) = ((max l.deep r.deep : Nat) : Int) := by unfold maxI; split <;> omega
    rw [this, wI64 (by omega) (by omega)]
    simp only [Tr.deep]; omega
  rw [e1, e2] at h
  obtain ⟨h1, le1, hg, h⟩ := Own.absorb h
  exact ⟨h1, _, rfl, le1, ⟨g, p, q, rfl, hg, hl.mono le1, hr.mono le1⟩, h⟩
theorem rkLeftUp {lk lv : Int} {ll lr : Tr} (hl : TrA h0 (.node lk lv ll lr) (some ⟨g, 0, none⟩)) (hr : TrA h0 r q) (hs : (Tr.node lk lv ll lr).size + r.size ≤ 900) (h : Own e w (imm h0 :: F)) :
    Rets Tryd.prog 117 #[.int .u64 k, .int .i64 v, .pointer (some ⟨g, 0, none⟩), .pointer q] w (RT e F h0 (leftUp k v (.node lk lv ll lr) r)) := by
  obtain ⟨g', pl, pr, hp, hg, hll, hlr⟩ := hl
  cases hp
  simp only [Tr.size] at hs
  refine rank_leftUp_int_int_go _ _ _ _ ⟨_, h.immCell hg (i := 3) rfl, _, h.immCell hg (i := 2) rfl, ?_⟩
  refine Rets.mono (rkDeep hll h) ?_
  clear h
  rintro _ w ⟨rfl, h⟩
  refine ⟨_, rfl, ?_⟩
  refine Rets.mono (rkDeep hlr h) ?_
  clear h
  rintro _ w ⟨rfl, h⟩
  refine ⟨_, rfl, fun hc => ?_, fun hc => ?_⟩
  · have hc := dec_t hc
    cases lr with
    | nil => simp only [Tr.deep] at hc; omega
    | node mk mv ml mr =>
      obtain ⟨gm, pml, pmr, hpm, hgm, hml, hmr⟩ := hlr
      cases hpm
      have hd : ll.deep < (Tr.node mk mv ml mr).deep := by omega
      have el : leftUp k v (.node lk lv ll (.node mk mv ml mr)) r = .node mk mv (.node lk lv ll ml) (.node k v mr r) := by unfold leftUp; exact if_pos hd
      rw [el]
      simp only [Tr.size] at hs
      refine h.drw fun w h => ⟨fun w => Own e w (imm h0 :: F), h, smR (smR (smR (smR ⟨_, fun w h => h.immCell hgm (i := 0) rfl, _, fun w h => h.immCell hgm (i := 1) rfl, _, fun w h => h.immCell hg (i := 0) rfl, _, fun w h => h.immCell hg (i := 1) rfl, _, fun w h => h.immCell hg (i := 2) rfl, _, fun w h => h.immCell hgm (i := 2) rfl, _, fun w h => h.immCell hgm (i := 3) rfl, ?_⟩)))⟩
      refine Rets.mono (rkMade hll hml (by omega) h) ?_
      clear h
      rintro _ w ⟨h1, p1, rfl, le1, t1, h⟩
      refine ⟨_, rfl, h.immLe le1, ?_⟩
      refine Rets.mono (rkMade (hmr.mono le1) (hr.mono le1) (by omega) h) ?_
      clear h
      rintro _ w ⟨h2, p2, rfl, le2, t2, h⟩
      refine ⟨_, rfl, h.immLe (LeH.trans le1 le2), ?_⟩
      refine Rets.mono (rkMade (t1.mono le2) t2 (by simp only [Tr.size]; omega) h) ?_
      clear h
      rintro _ w ⟨h3, p3, rfl, le3, t3, h⟩
      exact ⟨_, rfl, h3, p3, rfl, LeH.trans (LeH.trans le1 le2) le3, t3, h⟩
  · have hc := dec_f hc
    have el : leftUp k v (.node lk lv ll lr) r = .node lk lv ll (.node k v lr r) := by
      cases lr with
      | nil => rfl
      | node mk mv ml mr => unfold leftUp; exact if_neg (by omega)
    rw [el]
    refine h.drw fun w h => ⟨fun w => Own e w (imm h0 :: F), h, _, fun w h => h.immCell hg (i := 0) rfl, _, fun w h => h.immCell hg (i := 1) rfl, _, fun w h => h.immCell hg (i := 2) rfl, _, fun w h => h.immCell hg (i := 3) rfl, ?_⟩
    refine Rets.mono (rkMade hlr hr (by omega) h) ?_
    clear h
    rintro _ w ⟨h1, p1, rfl, le1, t1, h⟩
    refine ⟨_, rfl, h.immLe le1, ?_⟩
    refine Rets.mono (rkMade (hll.mono le1) t1 (by simp only [Tr.size]; omega) h) ?_
    clear h
    rintro _ w ⟨h2, p2, rfl, le2, t2, h⟩
    exact ⟨_, rfl, h2, p2, rfl, LeH.trans le1 le2, t2, h⟩
theorem rkRightUp {rk rv : Int} {rl rr : Tr} (hl : TrA h0 l p) (hr : TrA h0 (.node rk rv rl rr) (some ⟨g, 0, none⟩)) (hs : (Tr.node rk rv rl rr).size + l.size ≤ 900) (h : Own e w (imm h0 :: F)) :
    Rets Tryd.prog 118 #[.int .u64 k, .int .i64 v, .pointer p, .pointer (some ⟨g, 0, none⟩)] w (RT e F h0 (rightUp k v l (.node rk rv rl rr))) := by
  obtain ⟨g', pl, pr, hp, hg, hrl, hrr⟩ := hr
  cases hp
  simp only [Tr.size] at hs
  refine rank_rightUp_int_int_go _ _ _ _ ⟨_, h.immCell hg (i := 2) rfl, _, h.immCell hg (i := 3) rfl, ?_⟩
  refine Rets.mono (rkDeep hrr h) ?_
  clear h
  rintro _ w ⟨rfl, h⟩
  refine ⟨_, rfl, ?_⟩
  refine Rets.mono (rkDeep hrl h) ?_
  clear h
  rintro _ w ⟨rfl, h⟩
  refine ⟨_, rfl, fun hc => ?_, fun hc => ?_⟩
  · have hc := dec_t hc
    cases rl with
    | nil => simp only [Tr.deep] at hc; omega
    | node mk mv ml mr =>
      obtain ⟨gm, pml, pmr, hpm, hgm, hml, hmr⟩ := hrl
      cases hpm
      have hd : rr.deep < (Tr.node mk mv ml mr).deep := by omega
      have el : rightUp k v l (.node rk rv (.node mk mv ml mr) rr) = .node mk mv (.node k v l ml) (.node rk rv mr rr) := by unfold rightUp; exact if_pos hd
      rw [el]
      simp only [Tr.size] at hs
      refine h.drw fun w h => ⟨fun w => Own e w (imm h0 :: F), h, smR (smR (smR (smR ⟨_, fun w h => h.immCell hgm (i := 0) rfl, _, fun w h => h.immCell hgm (i := 1) rfl, _, fun w h => h.immCell hgm (i := 2) rfl, _, fun w h => h.immCell hg (i := 0) rfl, _, fun w h => h.immCell hg (i := 1) rfl, _, fun w h => h.immCell hgm (i := 3) rfl, _, fun w h => h.immCell hg (i := 3) rfl, ?_⟩)))⟩
      refine Rets.mono (rkMade hl hml (by omega) h) ?_
      clear h
      rintro _ w ⟨h1, p1, rfl, le1, t1, h⟩
      refine ⟨_, rfl, h.immLe le1, ?_⟩
      refine Rets.mono (rkMade (hmr.mono le1) (hrr.mono le1) (by omega) h) ?_
      clear h
      rintro _ w ⟨h2, p2, rfl, le2, t2, h⟩
      refine ⟨_, rfl, h.immLe (LeH.trans le1 le2), ?_⟩
      refine Rets.mono (rkMade (t1.mono le2) t2 (by simp only [Tr.size]; omega) h) ?_
      clear h
      rintro _ w ⟨h3, p3, rfl, le3, t3, h⟩
      exact ⟨_, rfl, h3, p3, rfl, LeH.trans (LeH.trans le1 le2) le3, t3, h⟩
  · have hc := dec_f hc
    have el : rightUp k v l (.node rk rv rl rr) = .node rk rv (.node k v l rl) rr := by
      cases rl with
      | nil => rfl
      | node mk mv ml mr => unfold rightUp; exact if_neg (by omega)
    rw [el]
    refine h.drw fun w h => ⟨fun w => Own e w (imm h0 :: F), h, _, fun w h => h.immCell hg (i := 0) rfl, _, fun w h => h.immCell hg (i := 1) rfl, _, fun w h => h.immCell hg (i := 2) rfl, _, fun w h => h.immCell hg (i := 3) rfl, ?_⟩
    refine Rets.mono (rkMade hl hrl (by omega) h) ?_
    clear h
    rintro _ w ⟨h1, p1, rfl, le1, t1, h⟩
    refine ⟨_, rfl, h.immLe le1, ?_⟩
    refine Rets.mono (rkMade t1 (hrr.mono le1) (by simp only [Tr.size]; omega) h) ?_
    clear h
    rintro _ w ⟨h2, p2, rfl, le2, t2, h⟩
    exact ⟨_, rfl, h2, p2, rfl, LeH.trans le1 le2, t2, h⟩
theorem rkJoined (hl : TrA h0 l p) (hr : TrA h0 r q) (hs : l.size + r.size ≤ 900) (h : Own e w (imm h0 :: F)) : Rets Tryd.prog 106 #[.int .u64 k, .int .i64 v, .pointer p, .pointer q] w (RT e F h0 (joined k v l r)) := by
  have d1 := deep_le l
  have d2 := deep_le r
  refine rank_joined_int_int_go _ _ _ _ ?_
  refine Rets.mono (rkDeep hl h) ?_
  clear h
  rintro _ w ⟨rfl, h⟩
  refine ⟨_, rfl, ?_⟩
  refine Rets.mono (rkDeep hr h) ?_
  clear h
  rintro _ w ⟨rfl, h⟩
  refine ⟨_, rfl, ?_⟩
  rw [wI64 (n := (l.deep : Int) - (r.deep : Int)) (by omega) (by omega)]
  unfold joined
  refine ⟨fun hc => ?_, fun hc => ⟨fun hc2 => ?_, fun hc2 => ?_⟩⟩
  · have hc := dec_t hc
    rw [if_pos (by omega)]
    cases l with
    | nil => simp only [Tr.deep] at hc; omega
    | node lk lv ll lr =>
      have hl' := hl
      obtain ⟨g, pl, pr, rfl, _⟩ := hl'
      refine Rets.mono (rkLeftUp hl hr hs h) ?_
      clear h
      rintro _ w ⟨h1, p1, rfl, le1, t1, h⟩
      exact ⟨_, rfl, h1, p1, rfl, le1, t1, h⟩
  · have hc := dec_f hc
    have hc2 := dec_t hc2
    rw [if_neg (by omega), if_pos (by omega)]
    cases r with
    | nil => simp only [Tr.deep] at hc2; omega
    | node lk lv ll lr =>
      have hr' := hr
      obtain ⟨g, pl, pr, rfl, _⟩ := hr'
      refine Rets.mono (rkRightUp hl hr (by omega) h) ?_
      clear h
      rintro _ w ⟨h1, p1, rfl, le1, t1, h⟩
      exact ⟨_, rfl, h1, p1, rfl, le1, t1, h⟩
  · have hc := dec_f hc
    have hc2 := dec_f hc2
    rw [if_neg (by omega), if_neg (by omega)]
    refine Rets.mono (rkMade hl hr (by omega) h) ?_
    clear h
    rintro _ w ⟨h1, p1, rfl, le1, t1, h⟩
    exact ⟨_, rfl, h1, p1, rfl, le1, t1, h⟩
theorem rkFirst : ∀ (l : Tr) (k v : Int) (r : Tr) (g : Nat) (h0 : Nat → Option Obj) (w : World), TrA h0 (.node k v l r) (some ⟨g, 0, none⟩) → (Tr.node k v l r).size ≤ 800 → Own e w (imm h0 :: F) →
    Rets Tryd.prog 123 #[.pointer (some ⟨g, 0, none⟩)] w fun v' w' => ∃ (h1 : Nat → Option Obj) (p' : Option Addr) (gl : Nat) (rest : List Value), v' = .tuple #[.pointer p', .pointer (some ⟨gl, 0, none⟩)] ∧ LeH h0 h1 ∧ TrA h1 (tfirst k v r l).1 p' ∧ h1 gl = some (.cells (.int .u64 (tfirst k v r l).2.1 :: .int .i64 (tfirst k v r l).2.2 :: rest).toArray 110 (0, 0)) ∧ Own e w' (imm h1 :: F)
  | .nil, k, v, r, g, h0, w, ht, hs, h => by
    obtain ⟨g', pl, pr, hp, hg, hl, hr⟩ := ht
    cases hp
    obtain rfl : pl = none := hl
    exact rank_first_int_int_go _ ⟨_, h.immCell hg (i := 2) rfl, fun _ => ⟨_, h.immCell hg (i := 3) rfl, h0, pr, g, _, rfl, LeH.refl _, hr, hg, h⟩, fun hc => (by cases hc)⟩
  | .node lk lv ll lr, k, v, r, g, h0, w, ht, hs, h => by
    obtain ⟨g', pl, pr, hp, hg, hl, hr⟩ := ht
    cases hp
    have hl' := hl
    obtain ⟨gl, pll, plr, rfl, _⟩ := hl'
    simp only [Tr.size] at hs
    refine rank_first_int_int_go _ ⟨_, h.immCell hg (i := 2) rfl, fun hc => (by cases hc), fun _ => ⟨_, h.immCell hg (i := 2) rfl, ?_⟩⟩
    refine Rets.mono (rkFirst ll lk lv lr gl h0 w hl (by simp only [Tr.size]; omega) h) ?_
    clear h
    rintro _ w ⟨h1, p1, g1, rest, rfl, le1, t1, hg1, h⟩
    refine ⟨_, _, rfl, h.drw fun w h => ⟨_, h.immCell (le1 _ _ hg) (i := 0) rfl, _, h.immCell (le1 _ _ hg) (i := 1) rfl, _, h.immCell (le1 _ _ hg) (i := 3) rfl, ?_⟩⟩
    refine Rets.mono (rkJoined t1 (hr.mono le1) (by rw [size_first]; omega) h) ?_
    clear h
    rintro _ w ⟨h2, p2, rfl, le2, t2, h⟩
    exact ⟨_, rfl, h2, p2, g1, rest, rfl, LeH.trans le1 le2, t2, le2 _ _ hg1, h⟩
theorem rkBoth (hl : TrA h0 l p) (hr : TrA h0 r q) (hs : l.size + r.size ≤ 800) (h : Own e w (imm h0 :: F)) : Rets Tryd.prog 115 #[.pointer p, .pointer q] w (RT e F h0 (tboth l r)) := by
  cases l with
  | nil =>
    obtain rfl : p = none := hl
    exact rank_both_int_int_go _ _ ⟨fun _ => ⟨h0, q, rfl, LeH.refl _, hr, h⟩, fun hc => (by cases hc)⟩
  | node a b c d =>
    have hl' := hl
    obtain ⟨gl, pll, plr, rfl, _⟩ := hl'
    cases r with
    | nil =>
      obtain rfl : q = none := hr
      exact rank_both_int_int_go _ _ ⟨fun hc => (by cases hc), fun _ => ⟨fun _ => ⟨h0, _, rfl, LeH.refl _, hl, h⟩, fun hc => (by cases hc)⟩⟩
    | node k v rl rr =>
      have hr' := hr
      obtain ⟨gr, prl, prr, rfl, _⟩ := hr'
      simp only [Tr.size] at hs
      refine rank_both_int_int_go _ _ ⟨fun hc => (by cases hc), fun _ => ⟨fun hc => (by cases hc), fun _ => ?_⟩⟩
      refine Rets.mono (rkFirst rl k v rr gr h0 w hr (by simp only [Tr.size]; omega) h) ?_
      clear h
      rintro _ w ⟨h1, p1, g1, rest, rfl, le1, t1, hg1, h⟩
      refine ⟨_, _, rfl, h.drw fun w h => smR (smR ⟨_, h.immCell hg1 (i := 0) rfl, _, h.immCell hg1 (i := 1) rfl, ?_⟩)⟩
      refine Rets.mono (rkJoined (hl.mono le1) t1 (by rw [size_first]; simp only [Tr.size]; omega) h) ?_
      clear h
      rintro _ w ⟨h2, p2, rfl, le2, t2, h⟩
      exact ⟨_, rfl, h2, p2, rfl, LeH.trans le1 le2, t2, h⟩
theorem rkput {pt : Option Addr} : ∀ (t : Tr) (h0 : Nat → Option Obj) (p : Option Addr) (w : World), TrOrd h0 g pt → TrA h0 t p → t.size ≤ 700 → Own e w (imm h0 :: F) →
    Rets Tryd.prog 84 #[.pointer (some ⟨g, 0, none⟩), .pointer p, .int .u64 k, .int .i64 v] w (RT e F h0 (tput k v t))
  | .nil, h0, p, w, ho, ht, hs, h => by
    obtain rfl : p = none := ht
    refine rank_Tree_int_int_put_go _ _ _ _ ⟨fun _ => ?_, fun hc => (by cases hc)⟩
    refine Rets.mono (rkMade (l := .nil) (r := .nil) rfl rfl (by decide) h) ?_
    clear h
    rintro _ w ⟨h1, p1, rfl, le1, t1, h⟩
    exact ⟨_, rfl, h1, p1, rfl, le1, t1, h⟩
  | .node x xv l r, h0, p, w, ho, ht, hs, h => by
    obtain ⟨gn, pl, pr, rfl, hg, hl, hr⟩ := ht
    simp only [Tr.size] at hs
    have s1 := size_put k v l
    have s2 := size_put k v r
    refine rank_Tree_int_int_put_go _ _ _ _ ⟨fun hc => (by cases hc), fun _ => h.drw fun w h => smR ⟨_, _, _, h.immCell (vs := [.func (.func 82) #[] #[], .pointer pt]) ho (i := 0) rfl, _, h.immCell hg (i := 0) rfl, callG.mk Tryd.func82 (by kernel_rfl) ?_⟩⟩
    refine Rets.mono (rkOrder (x := k) (y := x) h) ?_
    clear h
    rintro _ w ⟨rfl, h⟩
    unfold tput
    refine ⟨_, rfl, fun hc => ?_, fun hc => ⟨fun hc2 => ?_, fun hc2 => ?_⟩⟩
    · have hc := ordI_lt.1 (dec_t hc)
      rw [if_pos hc]
      refine h.drw fun w h => ⟨fun w => Own e w (imm h0 :: F), h, smR (smR (smR (smR ⟨_, fun w h => h.immCell hg (i := 0) rfl, _, fun w h => h.immCell hg (i := 1) rfl, _, fun w h => h.immCell hg (i := 2) rfl, _, fun w h => h.immCell hg (i := 3) rfl, ?_⟩)))⟩
      refine Rets.mono (rkput l h0 pl w ho hl (by omega) h) ?_
      clear h
      rintro _ w ⟨h1, p1, rfl, le1, t1, h⟩
      refine ⟨_, rfl, h.immLe le1, ?_⟩
      refine Rets.mono (rkJoined t1 (hr.mono le1) (by omega) h) ?_
      clear h
      rintro _ w ⟨h2, p2, rfl, le2, t2, h⟩
      exact ⟨_, rfl, h2, p2, rfl, LeH.trans le1 le2, t2, h⟩
    · have hc := fun x => dec_f hc (ordI_lt.2 x)
      have hc2 := ordI_gt.1 (dec_t hc2)
      rw [if_neg hc, if_pos hc2]
      refine h.drw fun w h => ⟨fun w => Own e w (imm h0 :: F), h, smR (smR (smR (smR ⟨_, fun w h => h.immCell hg (i := 0) rfl, _, fun w h => h.immCell hg (i := 1) rfl, _, fun w h => h.immCell hg (i := 2) rfl, _, fun w h => h.immCell hg (i := 3) rfl, ?_⟩)))⟩
      refine Rets.mono (rkput r h0 pr w ho hr (by omega) h) ?_
      clear h
      rintro _ w ⟨h1, p1, rfl, le1, t1, h⟩
      refine ⟨_, rfl, h.immLe le1, ?_⟩
      refine Rets.mono (rkJoined (hl.mono le1) t1 (by omega) h) ?_
      clear h
      rintro _ w ⟨h2, p2, rfl, le2, t2, h⟩
      exact ⟨_, rfl, h2, p2, rfl, LeH.trans le1 le2, t2, h⟩
    · have hc := fun x => dec_f hc (ordI_lt.2 x)
      have hc2 := fun x => dec_f hc2 (ordI_gt.2 x)
      rw [if_neg hc, if_neg hc2]
      refine h.drw fun w h => smR (smR ⟨_, h.immCell hg (i := 2) rfl, _, h.immCell hg (i := 3) rfl, ?_⟩)
      refine Rets.mono (rkMade hl hr (by omega) h) ?_
      clear h
      rintro _ w ⟨h1, p1, rfl, le1, t1, h⟩
      exact ⟨_, rfl, h1, p1, rfl, le1, t1, h⟩
theorem rkdrop {pt : Option Addr} : ∀ (t : Tr) (h0 : Nat → Option Obj) (p : Option Addr) (w : World), TrOrd h0 g pt → TrA h0 t p → t.size ≤ 700 → Own e w (imm h0 :: F) →
    Rets Tryd.prog 101 #[.pointer (some ⟨g, 0, none⟩), .pointer p, .int .u64 k] w (RT e F h0 (tdrop k t))
  | .nil, h0, p, w, ho, ht, hs, h => by
    obtain rfl : p = none := ht
    exact rank_Tree_int_int_drop_go _ _ _ ⟨fun _ => ⟨h0, none, rfl, LeH.refl _, rfl, h⟩, fun hc => (by cases hc)⟩
  | .node x xv l r, h0, p, w, ho, ht, hs, h => by
    obtain ⟨gn, pl, pr, rfl, hg, hl, hr⟩ := ht
    simp only [Tr.size] at hs
    have s1 := size_drop k l
    have s2 := size_drop k r
    refine rank_Tree_int_int_drop_go _ _ _ ⟨fun hc => (by cases hc), fun _ => h.drw fun w h => smR ⟨_, _, _, h.immCell (vs := [.func (.func 82) #[] #[], .pointer pt]) ho (i := 0) rfl, _, h.immCell hg (i := 0) rfl, callG.mk Tryd.func82 (by kernel_rfl) ?_⟩⟩
    refine Rets.mono (rkOrder (x := k) (y := x) h) ?_
    clear h
    rintro _ w ⟨rfl, h⟩
    unfold tdrop
    refine ⟨_, rfl, fun hc => ?_, fun hc => ⟨fun hc2 => ?_, fun hc2 => ?_⟩⟩
    · have hc := ordI_lt.1 (dec_t hc)
      rw [if_pos hc]
      refine h.drw fun w h => ⟨fun w => Own e w (imm h0 :: F), h, smR (smR (smR (smR ⟨_, fun w h => h.immCell hg (i := 0) rfl, _, fun w h => h.immCell hg (i := 1) rfl, _, fun w h => h.immCell hg (i := 2) rfl, _, fun w h => h.immCell hg (i := 3) rfl, ?_⟩)))⟩
      refine Rets.mono (rkdrop l h0 pl w ho hl (by omega) h) ?_
      clear h
      rintro _ w ⟨h1, p1, rfl, le1, t1, h⟩
      refine ⟨_, rfl, h.immLe le1, ?_⟩
      refine Rets.mono (rkJoined t1 (hr.mono le1) (by omega) h) ?_
      clear h
      rintro _ w ⟨h2, p2, rfl, le2, t2, h⟩
      exact ⟨_, rfl, h2, p2, rfl, LeH.trans le1 le2, t2, h⟩
    · have hc := fun x => dec_f hc (ordI_lt.2 x)
      have hc2 := ordI_gt.1 (dec_t hc2)
      rw [if_neg hc, if_pos hc2]
      refine h.drw fun w h => ⟨fun w => Own e w (imm h0 :: F), h, smR (smR (smR (smR ⟨_, fun w h => h.immCell hg (i := 0) rfl, _, fun w h => h.immCell hg (i := 1) rfl, _, fun w h => h.immCell hg (i := 2) rfl, _, fun w h => h.immCell hg (i := 3) rfl, ?_⟩)))⟩
      refine Rets.mono (rkdrop r h0 pr w ho hr (by omega) h) ?_
      clear h
      rintro _ w ⟨h1, p1, rfl, le1, t1, h⟩
      refine ⟨_, rfl, h.immLe le1, ?_⟩
      refine Rets.mono (rkJoined (hl.mono le1) t1 (by omega) h) ?_
      clear h
      rintro _ w ⟨h2, p2, rfl, le2, t2, h⟩
      exact ⟨_, rfl, h2, p2, rfl, LeH.trans le1 le2, t2, h⟩
    · have hc := fun x => dec_f hc (ordI_lt.2 x)
      have hc2 := fun x => dec_f hc2 (ordI_gt.2 x)
      rw [if_neg hc, if_neg hc2]
      refine h.drw fun w h => smR (smR ⟨_, h.immCell hg (i := 2) rfl, _, h.immCell hg (i := 3) rfl, ?_⟩)
      refine Rets.mono (rkBoth hl hr (by omega) h) ?_
      clear h
      rintro _ w ⟨h1, p1, rfl, le1, t1, h⟩
      exact ⟨_, rfl, h1, p1, rfl, le1, t1, h⟩
/-! ### Trees -/
def TreeA (h0 : Nat → Option Obj) (t : Tr) (g : Nat) : Prop := ∃ p, TrOrd h0 g p ∧ TrA h0 t p
theorem TreeA.mono {h1 : Nat → Option Obj} (hle : LeH h0 h1) : TreeA h0 t g → TreeA h1 t g
  | ⟨p, a, b⟩ => ⟨p, hle _ _ a, b.mono hle⟩
/-- A tree is told. -/
abbrev RR (e : World) (F : List HP) (h0 : Nat → Option Obj) (t : Tr) (v : Value) (w' : World) : Prop := ∃ (h1 : Nat → Option Obj) (g : Nat), v = .pointer (some ⟨g, 0, none⟩) ∧ LeH h0 h1 ∧ TreeA h1 t g ∧ Own e w' (imm h1 :: F)
theorem rkNew (h : Own e w (imm h0 :: F)) : Rets Tryd.prog 81 #[.func (.func 82) #[] #[]] w (RR e F h0 .nil) := by
  refine rank_New_int_int_go _ ⟨fun hc => (by cases hc), fun _ => h.newR fun g w h => ?_⟩
  obtain ⟨h1, le1, hg, h⟩ := Own.absorb h
  exact ⟨h1, g, rfl, le1, ⟨none, hg, rfl⟩, h⟩
theorem rkPut (hT : TreeA h0 t g) (hs : t.size ≤ 700) (h : Own e w (imm h0 :: F)) : Rets Tryd.prog 63 #[.pointer (some ⟨g, 0, none⟩), .int .u64 k, .int .i64 v] w (RR e F h0 (tput k v t)) := by
  obtain ⟨p, ho, ht⟩ := hT
  refine rank_Tree_int_int_Put_go _ _ _ ⟨fun hc => (by cases hc), fun _ => h.drw fun w h => ⟨fun w => Own e w (imm h0 :: F), h, _, _, _, fun w h => h.immCell (vs := [.func (.func 82) #[] #[], .pointer p]) ho (i := 0) rfl, _, fun w h => h.immCell (vs := [.func (.func 82) #[] #[], .pointer p]) ho (i := 1) rfl, ?_⟩⟩
  refine Rets.mono (rkput t h0 p w ho ht hs h) ?_
  clear h
  rintro _ w ⟨h1, p1, rfl, le1, t1, h⟩
  refine ⟨_, rfl, h.immLe le1, h.newR fun g w h => ?_⟩
  obtain ⟨h2, le2, hg, h⟩ := Own.absorb h
  exact ⟨h2, g, rfl, LeH.trans le1 le2, ⟨p1, hg, t1.mono le2⟩, h⟩
theorem rkDrop (hT : TreeA h0 t g) (hs : t.size ≤ 700) (h : Own e w (imm h0 :: F)) : Rets Tryd.prog 78 #[.pointer (some ⟨g, 0, none⟩), .int .u64 k] w (RR e F h0 (tdrop k t)) := by
  obtain ⟨p, ho, ht⟩ := hT
  refine rank_Tree_int_int_Drop_go _ _ ⟨fun hc => (by cases hc), fun _ => h.drw fun w h => ⟨fun w => Own e w (imm h0 :: F), h, _, _, _, fun w h => h.immCell (vs := [.func (.func 82) #[] #[], .pointer p]) ho (i := 0) rfl, _, fun w h => h.immCell (vs := [.func (.func 82) #[] #[], .pointer p]) ho (i := 1) rfl, ?_⟩⟩
  refine Rets.mono (rkdrop t h0 p w ho ht hs h) ?_
  clear h
  rintro _ w ⟨h1, p1, rfl, le1, t1, h⟩
  refine ⟨_, rfl, h.immLe le1, h.newR fun g w h => ?_⟩
  obtain ⟨h2, le2, hg, h⟩ := Own.absorb h
  exact ⟨h2, g, rfl, LeH.trans le1 le2, ⟨p1, hg, t1.mono le2⟩, h⟩
theorem rkLen (hT : TreeA h0 t g) (h : Own e w (imm h0 :: F)) : Rets Tryd.prog 54 #[.pointer (some ⟨g, 0, none⟩)] w fun v w' => v = .int .i64 (t.size : Int) ∧ Own e w' (imm h0 :: F) := by
  obtain ⟨p, ho, ht⟩ := hT
  refine rank_Tree_int_int_Len_go _ ⟨fun hc => (by cases hc), fun _ => ⟨_, h.immCell (vs := [.func (.func 82) #[] #[], .pointer p]) ho (i := 1) rfl, ?_⟩⟩
  refine Rets.mono (rkSize ht h) ?_
  rintro _ w ⟨rfl, h⟩
  exact ⟨_, rfl, rfl, h⟩
def FoundA (h0 : Nat → Option Obj) (o : Option (Int × Int)) (p : Option Addr) : Prop := match o with
  | none => p = none
  | some x => ∃ (g : Nat) (rest : List Value), p = some ⟨g, 0, none⟩ ∧ h0 g = some (.cells (.int .u64 x.1 :: .int .i64 x.2 :: rest).toArray 110 (0, 0))
theorem rkFind (hT : TreeA h0 t g) (hs : t.size ≤ 700) (h : Own e w (imm h0 :: F)) : Rets Tryd.prog 69 #[.pointer (some ⟨g, 0, none⟩), .int .u64 k] w fun v w' => (∃ p', v = .tuple #[.pointer p', .int .i64 ((tfind k t 0).2 : Int)] ∧ FoundA h0 (tfind k t 0).1 p') ∧ Own e w' (imm h0 :: F) := by
  obtain ⟨p, ho, ht⟩ := hT
  refine rank_Tree_int_int_find_go _ _ ⟨fun hc => (by cases hc), fun _ => ⟨_, h.immCell (vs := [.func (.func 82) #[] #[], .pointer p]) ho (i := 1) rfl, ?_⟩⟩
  refine ⟨fun m vs w => ∃ (t' : Tr) (a : Nat) (p' : Option Addr), vs = [.int .i64 (a : Int), .pointer p'] ∧ m = t'.size ∧ a + t'.size ≤ 700 ∧ TrA h0 t' p' ∧ tfind k t' a = tfind k t 0 ∧ Own e w (imm h0 :: F), ⟨t.size, t, 0, p, rfl, rfl, by omega, ht, rfl, h⟩, ?_⟩
  clear h
  intro m w1
  intros
  rename_i hI
  obtain ⟨t', a, q2, hvs, rfl, hb, ht', hf, h⟩ := hI
  simp at hvs
  obtain ⟨rfl, hq2⟩ := hvs
  have hq2 := hq2.symm
  subst hq2
  cases t' with
  | nil =>
    obtain rfl : q2 = none := ht'
    refine ⟨fun hc => (by cases hc), fun _ => ⟨⟨none, ?_, ?_⟩, h⟩⟩
    · rw [← hf]; rfl
    · rw [← hf]; exact rfl
  | node x xv l r =>
    obtain ⟨gn, pl, pr, rfl, hg, hl, hr⟩ := ht'
    simp only [Tr.size] at hb
    have hf : (if k = x then (some (x, xv), a + l.size) else if k < x then tfind k l a else tfind k r (a + l.size + 1)) = tfind k t 0 := hf
    refine ⟨fun _ => h.drw fun w h => smR ⟨_, _, _, h.immCell (vs := [.func (.func 82) #[] #[], .pointer p]) ho (i := 0) rfl, _, h.immCell hg (i := 0) rfl, callG.mk Tryd.func82 (by kernel_rfl) ?_⟩, fun hc => (by cases hc)⟩
    refine Rets.mono (rkOrder (x := k) (y := x) h) ?_
    clear h
    rintro _ w ⟨rfl, h⟩
    refine ⟨_, rfl, fun hc => ?_, fun hc => ⟨fun hc2 => ?_, fun hc2 => ?_⟩⟩
    · have hc := ordI_eq.1 (beq_t hc)
      rw [if_pos hc] at hf
      refine smR ⟨_, h.immCell hg (i := 2) rfl, ?_⟩
      refine Rets.mono (rkSize hl h) ?_
      clear h
      rintro _ w ⟨rfl, h⟩
      refine ⟨_, rfl, ⟨some ⟨gn, 0, none⟩, ?_, ?_⟩, h⟩
      · rw [← hf, wI64 (by omega) (by omega)]; rfl
      · rw [← hf]; exact ⟨gn, _, rfl, hg⟩
    · have hc := fun x => beq_f hc (ordI_eq.2 x)
      have hc2 := ordI_lt.1 (dec_t hc2)
      rw [if_neg hc, if_pos hc2] at hf
      exact smR ⟨_, h.immCell hg (i := 2) rfl, l.size, by simp only [Tr.size]; omega, l, a, pl, rfl, rfl, by omega, hl, hf, h⟩
    · have hc := fun x => beq_f hc (ordI_eq.2 x)
      have hc2 := fun x => dec_f hc2 (ordI_lt.2 x)
      rw [if_neg hc, if_neg hc2] at hf
      refine h.drw fun w h => ⟨fun w => Own e w (imm h0 :: F), h, smR (smR ⟨_, fun w h => h.immCell hg (i := 2) rfl, _, fun w h => h.immCell hg (i := 3) rfl, ?_⟩)⟩
      refine Rets.mono (rkSize hl h) ?_
      clear h
      rintro _ w ⟨rfl, h⟩
      refine ⟨_, rfl, h, r.size, by simp only [Tr.size]; omega, r, a + l.size + 1, pr, ?_, rfl, by omega, hr, hf, h⟩
      rw [wI64 (n := (a : Int) + (l.size : Int)) (by omega) (by omega), wI64 (by omega) (by omega)]
      rfl
theorem rkGet (hT : TreeA h0 t g) (hs : t.size ≤ 700) (h : Own e w (imm h0 :: F)) : Rets Tryd.prog 46 #[.pointer (some ⟨g, 0, none⟩), .int .u64 k] w fun v w' => v = .tuple #[.int .i64 ((tfind k t 0).1.getD (0, 0)).2, .bool (tfind k t 0).1.isSome] ∧ Own e w' (imm h0 :: F) := by
  refine rank_Tree_int_int_Get_go _ _ ?_
  refine Rets.mono (rkFind (k := k) hT hs h) ?_
  clear h
  rintro _ w ⟨⟨p', rfl, hF⟩, h⟩
  cases ho : (tfind k t 0).1 with
  | none =>
    rw [ho] at hF
    obtain rfl : p' = none := hF
    exact ⟨_, _, rfl, fun _ => ⟨rfl, h⟩, fun hc => (by cases hc)⟩
  | some x =>
    rw [ho] at hF
    obtain ⟨gx, rest, rfl, hg⟩ := hF
    exact ⟨_, _, rfl, fun hc => (by cases hc), fun _ => smR ⟨_, h.immCell hg (i := 1) rfl, rfl, h⟩⟩
theorem rkAt {i : Nat} (hT : TreeA h0 t g) (hs : t.size ≤ 700) (hi : i ≤ 9223372036854775807) (h : Own e w (imm h0 :: F)) : Rets Tryd.prog 85 #[.pointer (some ⟨g, 0, none⟩), .int .i64 (i : Int)] w fun v w' => v = .tuple #[.int .u64 ((tat t i).getD (0, 0)).1, .int .i64 ((tat t i).getD (0, 0)).2, .bool (tat t i).isSome] ∧ Own e w' (imm h0 :: F) := by
  obtain ⟨p, ho, ht⟩ := hT
  refine rank_Tree_int_int_At_go _ _ ⟨fun _ => ⟨fun hc => (by have := dec_t hc; omega), fun _ => ⟨_, h.immCell (vs := [.func (.func 82) #[] #[], .pointer p]) ho (i := 1) rfl, ?_⟩⟩, fun hc => (by cases hc)⟩
  refine ⟨fun m vs w => ∃ (t' : Tr) (j : Nat) (p' : Option Addr), vs = [.int .i64 (j : Int), .int .u64 0, .int .i64 0, .pointer p'] ∧ m = t'.size ∧ t'.size ≤ 700 ∧ j ≤ 9223372036854775807 ∧ TrA h0 t' p' ∧ tat t' j = tat t i ∧ Own e w (imm h0 :: F), ⟨t.size, t, i, p, rfl, rfl, hs, hi, ht, rfl, h⟩, ?_⟩
  clear h
  intro m w1
  intros
  rename_i hI
  obtain ⟨t', j, q2, hvs, rfl, hb, hj, ht', hf, h⟩ := hI
  simp at hvs
  obtain ⟨rfl, rfl, rfl, hq2⟩ := hvs
  have hq2 := hq2.symm
  subst hq2
  cases t' with
  | nil =>
    obtain rfl : q2 = none := ht'
    refine ⟨fun hc => (by cases hc), fun _ => ⟨?_, h⟩⟩
    rw [← hf]; rfl
  | node x xv l r =>
    obtain ⟨gn, pl, pr, rfl, hg, hl, hr⟩ := ht'
    simp only [Tr.size] at hb
    have hf : (if j < l.size then tat l j else if j > l.size then tat r (j - l.size - 1) else some (x, xv)) = tat t i := hf
    refine ⟨fun _ => smR ⟨_, h.immCell hg (i := 2) rfl, ?_⟩, fun hc => (by cases hc)⟩
    refine Rets.mono (rkSize hl h) ?_
    clear h
    rintro _ w ⟨rfl, h⟩
    refine ⟨_, rfl, fun hc => ?_, fun hc => ⟨fun hc2 => ?_, fun hc2 => ?_⟩⟩
    · have hc := dec_t hc
      rw [if_pos (by omega)] at hf
      exact smR ⟨_, h.immCell hg (i := 2) rfl, l.size, by simp only [Tr.size]; omega, l, j, pl, rfl, rfl, by omega, hj, hl, hf, h⟩
    · have hc := dec_f hc
      have hc2 := dec_t hc2
      rw [if_neg (by omega), if_pos (by omega)] at hf
      refine h.drw fun w h => smR ⟨_, h.immCell hg (i := 3) rfl, r.size, by simp only [Tr.size]; omega, r, j - l.size - 1, pr, ?_, rfl, by omega, by omega, hr, hf, h⟩
      rw [wI64 (n := (j : Int) - (l.size : Int)) (by omega) (by omega), wI64 (by omega) (by omega)]
      congr 2; omega
    · have hc := dec_f hc
      have hc2 := dec_f hc2
      rw [if_neg (by omega), if_neg (by omega)] at hf
      refine h.drw fun w h => smR (smR ⟨_, h.immCell hg (i := 0) rfl, _, h.immCell hg (i := 1) rfl, ?_, h⟩)
      rw [← hf]; rfl
theorem rkAtNeg {i : Int} (hi : i < 0) (h : Own e w F) : Rets Tryd.prog 85 #[.pointer (some ⟨g, 0, none⟩), .int .i64 i] w fun v w' => v = .tuple #[.int .u64 0, .int .i64 0, .bool false] ∧ Own e w' F :=
  rank_Tree_int_int_At_go _ _ ⟨fun _ => ⟨fun _ => ⟨rfl, h⟩, fun hc => (by have := dec_f hc; omega)⟩, fun hc => (by cases hc)⟩
end
end Go.Proofs.YtajckpjlliiekaaDoor.Eng
