/- Ledgers: what each function does. -/
import Derived.Test.YtajckpjlliiekaaDoorLgW
import Derived.Test.YtajckpjlliiekaaDoorLdgG
namespace Go.Proofs.YtajckpjlliiekaaDoor.Eng
open Go Go.RowKit Go.Proofs
set_option linter.unusedVariables false
set_option linter.unusedSimpArgs false
set_option maxRecDepth 1000000
abbrev ldB (g gt : Nat) (used most : Int) : HP := blk g 91 [.pointer (some ⟨gt, 0, none⟩), .int .i64 used, .int .i64 most]
/-- A ledger stands there. -/
def LD (e : World) (F : List HP) (h0 : Nat → Option Obj) (g : Nat) (s : Lg) (w : World) : Prop := ∃ h1 gt, LeH h0 h1 ∧ TreeA h1 s.t gt ∧ Own e w (imm h1 :: ldB g gt s.used s.most :: F)
def rightB (n : Int) : Bool := decide (0 ≤ n ∧ n ≤ 4611686018427387904)
theorem rightB_t {n : Int} : rightB n = true ↔ 0 ≤ n ∧ n ≤ 4611686018427387904 := by unfold rightB; exact decide_eq_true_iff
theorem rightB_f {n : Int} : rightB n = false ↔ ¬ (0 ≤ n ∧ n ≤ 4611686018427387904) := by unfold rightB; exact decide_eq_false_iff_not
section
variable {e w : World} {F : List HP} {h0 : Nat → Option Obj} {n a b c used most k : Int} {g gt : Nat} {t : Tr} {s : Lg}
theorem cRight (h : Own e w F) : Rets Tryd.prog 50 #[.int .i64 n] w fun v w' => v = .bool (rightB n) ∧ Own e w' F := by
  refine cost_Right_go _ ⟨fun hc => ⟨?_, h⟩, fun hc => ⟨?_, h⟩⟩
  · have hc := dec_t hc
    have : rightB n = decide (n ≤ 4611686018427387904) := by unfold rightB; rw [decide_eq_decide]; omega
    rw [this]
  · have hc := dec_f hc
    have : rightB n = false := rightB_f.2 (by omega)
    rw [this]
theorem rRight (h : Own e w F) : Rets Tryd.prog 64 #[.int .i64 n] w fun v w' => v = .bool (rightB n) ∧ Own e w' F := by
  refine cortadoref02_Right_go _ ⟨fun hc => ⟨?_, h⟩, fun hc => ⟨?_, h⟩⟩
  · have hc := dec_t hc
    have : rightB n = decide (n ≤ 4611686018427387904) := by unfold rightB; rw [decide_eq_decide]; omega
    rw [this]
  · have hc := dec_f hc
    have : rightB n = false := rightB_f.2 (by omega)
    rw [this]
def cutI (n : Int) : Int := maxI 0 (minI n 4611686018427387904)
theorem cutI_bd (n : Int) : 0 ≤ cutI n ∧ cutI n ≤ 4611686018427387904 := by unfold cutI maxI minI; split <;> split <;> omega
theorem cCut (h : Own e w F) : Rets Tryd.prog 61 #[.int .i64 n] w fun v w' => v = .int .i64 (cutI n) ∧ Own e w' F := cost_Cut_go _ ⟨rfl, h⟩
theorem cRoom (h : Own e w F) : Rets Tryd.prog 92 #[.int .i64 a, .int .i64 b] w fun v w' => v = .tuple #[.int .i64 (if 0 ≤ b ∧ b ≤ a ∧ a ≤ 4611686018427387904 then a - b else 0), .bool (decide (0 ≤ b ∧ b ≤ a ∧ a ≤ 4611686018427387904))] ∧ Own e w' F := by
  refine cost_Room_go _ _ ?_
  refine Rets.mono (cRight h) ?_
  clear h
  rintro _ w ⟨rfl, h⟩
  have no : ¬ (0 ≤ b ∧ b ≤ a ∧ a ≤ 4611686018427387904) → ∀ w, Own e w F → (Value.tuple #[.int .i64 0, .bool false] = .tuple #[.int .i64 (if 0 ≤ b ∧ b ≤ a ∧ a ≤ 4611686018427387904 then a - b else 0), .bool (decide (0 ≤ b ∧ b ≤ a ∧ a ≤ 4611686018427387904))] ∧ Own e w F) := fun hn w h => by
    rw [if_neg hn, decide_eq_false hn]; exact ⟨rfl, h⟩
  refine ⟨_, rfl, fun ha => ?_, fun ha => ?_⟩
  · have ha := rightB_t.1 (by simpa using ha)
    refine Rets.mono (cRight h) ?_
    clear h
    rintro _ w ⟨rfl, h⟩
    refine ⟨_, rfl, fun hb => ⟨fun hc => ?_, fun hc => ?_⟩, fun hb => ?_⟩
    · have hc := dec_t hc
      exact no (by omega) w h
    · have hc := dec_f hc
      have hb := rightB_t.1 (by simpa using hb)
      have hy : 0 ≤ b ∧ b ≤ a ∧ a ≤ 4611686018427387904 := by omega
      rw [if_pos hy, decide_eq_true hy, wI64 (by omega) (by omega)]; exact ⟨rfl, h⟩
    · have hb := rightB_f.1 (by simpa using hb)
      exact no (by omega) w h
  · have ha := rightB_f.1 (by simpa using ha)
    exact no (by omega) w h
theorem cAdd (h : Own e w F) : Rets Tryd.prog 104 #[.int .i64 a, .int .i64 b] w fun v w' => v = .tuple #[.int .i64 (if 0 ≤ a ∧ 0 ≤ b ∧ a + b ≤ 4611686018427387904 then a + b else 0), .bool (decide (0 ≤ a ∧ 0 ≤ b ∧ a + b ≤ 4611686018427387904))] ∧ Own e w' F := by
  refine cost_Add_go _ _ ?_
  refine Rets.mono (cRight h) ?_
  clear h
  rintro _ w ⟨rfl, h⟩
  have no : ¬ (0 ≤ a ∧ 0 ≤ b ∧ a + b ≤ 4611686018427387904) → ∀ w, Own e w F → (Value.tuple #[.int .i64 0, .bool false] = .tuple #[.int .i64 (if 0 ≤ a ∧ 0 ≤ b ∧ a + b ≤ 4611686018427387904 then a + b else 0), .bool (decide (0 ≤ a ∧ 0 ≤ b ∧ a + b ≤ 4611686018427387904))] ∧ Own e w F) := fun hn w h => by
    rw [if_neg hn, decide_eq_false hn]; exact ⟨rfl, h⟩
  refine ⟨_, rfl, fun ha => ?_, fun ha => ?_⟩
  · have ha := rightB_t.1 (by simpa using ha)
    refine Rets.mono (cRight h) ?_
    clear h
    rintro _ w ⟨rfl, h⟩
    refine ⟨_, rfl, fun hb => ?_, fun hb => ?_⟩
    · have hb := rightB_t.1 (by simpa using hb)
      rw [wI64 (n := 4611686018427387904 - b) (by omega) (by omega)]
      refine ⟨fun hc => ?_, fun hc => ?_⟩
      · have hc := dec_t hc
        exact no (by omega) w h
      · have hc := dec_f hc
        have hy : 0 ≤ a ∧ 0 ≤ b ∧ a + b ≤ 4611686018427387904 := by omega
        rw [if_pos hy, decide_eq_true hy, wI64 (by omega) (by omega)]; exact ⟨rfl, h⟩
    · have hb := rightB_f.1 (by simpa using hb)
      exact no (by omega) w h
  · have ha := rightB_f.1 (by simpa using ha)
    exact no (by omega) w h
theorem cMove (h : Own e w F) (hu : 0 ≤ a ∧ a ≤ used ∧ used ≤ 4611686018427387904) : Rets Tryd.prog 83 #[.int .i64 used, .int .i64 a, .int .i64 b] w fun v w' => v = .tuple #[.int .i64 (if 0 ≤ used - a ∧ 0 ≤ b ∧ used - a + b ≤ 4611686018427387904 then used - a + b else 0), .bool (decide (0 ≤ used - a ∧ 0 ≤ b ∧ used - a + b ≤ 4611686018427387904))] ∧ Own e w' F := by
  refine cost_Move_go _ _ _ ?_
  refine Rets.mono (cRoom h) ?_
  clear h
  rintro _ w ⟨rfl, h⟩
  rw [if_pos hu, decide_eq_true hu]
  refine ⟨_, _, rfl, fun hb => (by cases hb), fun _ => ?_⟩
  refine Rets.mono (cAdd h) ?_
  clear h
  rintro _ w ⟨rfl, h⟩
  exact ⟨_, _, rfl, rfl, h⟩
theorem ldSpend (h : Own e w (ldB g gt used most :: F)) (hu : 0 ≤ a ∧ a ≤ used ∧ used ≤ most ∧ most ≤ 4611686018427387904) : Rets Tryd.prog 62 #[.pointer (some ⟨g, 0, none⟩), .int .i64 a, .int .i64 b] w fun v w' =>
    (v = .bool true ∧ (0 ≤ b ∧ used - a + b ≤ most) ∧ Own e w' (ldB g gt (used - a + b) most :: F)) ∨ (v = .bool false ∧ ¬ (0 ≤ b ∧ used - a + b ≤ most) ∧ Own e w' (ldB g gt used most :: F)) := by
  refine ledger_Ledger_spend_go _ _ _ ⟨_, Own.ld (g := g) (k := 1) h (by repeat (first | with_reducible exact Pick.here | apply Pick.there)) rfl, ?_⟩
  refine Rets.mono (cMove h (by omega)) ?_
  clear h
  rintro _ w ⟨rfl, h⟩
  by_cases hy : 0 ≤ used - a ∧ 0 ≤ b ∧ used - a + b ≤ 4611686018427387904
  · rw [if_pos hy, decide_eq_true hy]
    refine ⟨_, _, rfl, fun _ => ⟨_, Own.ld (g := g) (k := 2) h (by repeat (first | with_reducible exact Pick.here | apply Pick.there)) rfl, fun hc => ?_, fun hc => ?_⟩, fun hb => (by cases hb)⟩
    · have hc := dec_t hc
      exact .inr ⟨rfl, by omega, h⟩
    · have hc := dec_f hc
      refine Own.stP (g := g) (k := 1) h (by repeat (first | with_reducible exact Pick.here | apply Pick.there)) (by simp) (by simp [Value.oneCell']) fun w h => .inl ⟨rfl, by omega, ?_⟩
      simp only [setFrom, List.set_cons_zero, List.set_cons_succ, List.set_nil] at h
      exact h
  · rw [if_neg hy, decide_eq_false hy]
    exact ⟨_, _, rfl, fun hb => (by cases hb), fun _ => .inr ⟨rfl, by omega, h⟩⟩
theorem ldNone (h : Own e w (imm h0 :: F)) : Rets Tryd.prog 60 #[] w (RR e F h0 .nil) := by
  refine ledger_none_go ?_
  refine Rets.mono (rkNew h) ?_
  rintro _ w ⟨h1, gu, rfl, le1, hU, h⟩
  exact ⟨_, rfl, h1, gu, rfl, le1, hU, h⟩
theorem ldNew (h : Own e w (imm h0 :: F)) : Rets Tryd.prog 40 #[.int .i64 n] w fun v w' => ∃ g, v = .pointer (some ⟨g, 0, none⟩) ∧ LD e F h0 g ⟨.nil, 0, cutI n⟩ w' := by
  refine ledger_New_go _ ?_
  refine Rets.mono (ldNone h) ?_
  clear h
  rintro _ w ⟨h1, gu, rfl, le1, hU, h⟩
  refine ⟨_, rfl, ?_⟩
  refine Rets.mono (cCut h) ?_
  clear h
  rintro _ w ⟨rfl, h⟩
  exact ⟨_, rfl, h.newR fun g w h => ⟨g, rfl, h1, gu, le1, hU, h.swap⟩⟩
theorem ldCost (hT : TreeA h0 t gt) (hs : t.size ≤ 700) (hS : Srt t.toL) (h : Own e w (imm h0 :: ldB g gt used most :: F)) : Rets Tryd.prog 12 #[.pointer (some ⟨g, 0, none⟩), .int .u64 k] w fun v w' => v = .tuple #[.int .i64 (lval k t.toL), .bool (lfind k t.toL).isSome] ∧ Own e w' (imm h0 :: ldB g gt used most :: F) := by
  refine ledger_Ledger_Cost_go _ _ ⟨fun hc => (by cases hc), fun _ => ⟨_, Own.ld (g := g) (k := 0) h (by repeat (first | with_reducible exact Pick.here | apply Pick.there)) rfl, ?_⟩⟩
  have hg := rkGet (k := k) hT hs h
  rw [tfind_eq k t 0 hS] at hg
  refine Rets.mono hg ?_
  rintro _ w ⟨rfl, h⟩
  exact ⟨_, _, rfl, rfl, h⟩
theorem ldUsed (h : Own e w (imm h0 :: ldB g gt used most :: F)) : Rets Tryd.prog 35 #[.pointer (some ⟨g, 0, none⟩)] w fun v w' => v = .int .i64 used ∧ Own e w' (imm h0 :: ldB g gt used most :: F) :=
  ledger_Ledger_Used_go _ ⟨fun hc => (by cases hc), fun _ => ⟨_, Own.ld (g := g) (k := 1) h (by repeat (first | with_reducible exact Pick.here | apply Pick.there)) rfl, rfl, h⟩⟩
theorem ldMost (h : Own e w (imm h0 :: ldB g gt used most :: F)) : Rets Tryd.prog 30 #[.pointer (some ⟨g, 0, none⟩)] w fun v w' => v = .int .i64 most ∧ Own e w' (imm h0 :: ldB g gt used most :: F) :=
  ledger_Ledger_Most_go _ ⟨fun hc => (by cases hc), fun _ => ⟨_, Own.ld (g := g) (k := 2) h (by repeat (first | with_reducible exact Pick.here | apply Pick.there)) rfl, rfl, h⟩⟩
theorem ldLen (hT : TreeA h0 t gt) (h : Own e w (imm h0 :: ldB g gt used most :: F)) : Rets Tryd.prog 28 #[.pointer (some ⟨g, 0, none⟩)] w fun v w' => v = .int .i64 (t.size : Int) ∧ Own e w' (imm h0 :: ldB g gt used most :: F) := by
  refine ledger_Ledger_Len_go _ ⟨fun hc => (by cases hc), fun _ => ⟨_, Own.ld (g := g) (k := 0) h (by repeat (first | with_reducible exact Pick.here | apply Pick.there)) rfl, ?_⟩⟩
  refine Rets.mono (rkLen hT h) ?_
  rintro _ w ⟨rfl, h⟩
  exact ⟨_, rfl, rfl, h⟩
theorem ldAt {i : Nat} (hT : TreeA h0 t gt) (hs : t.size ≤ 700) (hi : i ≤ 9223372036854775807) (h : Own e w (imm h0 :: ldB g gt used most :: F)) : Rets Tryd.prog 66 #[.pointer (some ⟨g, 0, none⟩), .int .i64 (i : Int)] w fun v w' => v = .tuple #[.int .u64 ((t.toL[i]?).getD (0, 0)).1, .bool (t.toL[i]?).isSome] ∧ Own e w' (imm h0 :: ldB g gt used most :: F) := by
  refine ledger_Ledger_At_go _ _ ⟨fun hc => (by cases hc), fun _ => ⟨_, Own.ld (g := g) (k := 0) h (by repeat (first | with_reducible exact Pick.here | apply Pick.there)) rfl, ?_⟩⟩
  have hg := rkAt hT hs hi h
  rw [tat_eq] at hg
  refine Rets.mono hg ?_
  rintro _ w ⟨rfl, h⟩
  exact ⟨_, _, _, rfl, rfl, h⟩
theorem ldAtNeg {i : Int} (hi : i < 0) (h : Own e w (imm h0 :: ldB g gt used most :: F)) : Rets Tryd.prog 66 #[.pointer (some ⟨g, 0, none⟩), .int .i64 i] w fun v w' => v = .tuple #[.int .u64 0, .bool false] ∧ Own e w' (imm h0 :: ldB g gt used most :: F) := by
  refine ledger_Ledger_At_go _ _ ⟨fun hc => (by cases hc), fun _ => ⟨_, Own.ld (g := g) (k := 0) h (by repeat (first | with_reducible exact Pick.here | apply Pick.there)) rfl, ?_⟩⟩
  refine Rets.mono (rkAtNeg hi h) ?_
  rintro _ w ⟨rfl, h⟩
  exact ⟨_, _, _, rfl, rfl, h⟩
theorem ldRoom (hu : 0 ≤ used ∧ used ≤ most ∧ most ≤ 4611686018427387904) (h : Own e w (imm h0 :: ldB g gt used most :: F)) : Rets Tryd.prog 73 #[.pointer (some ⟨g, 0, none⟩)] w fun v w' => v = .int .i64 (most - used) ∧ Own e w' (imm h0 :: ldB g gt used most :: F) := by
  refine ledger_Ledger_Room_go _ ?_
  refine Rets.mono (ldMost h) ?_
  clear h
  rintro _ w ⟨rfl, h⟩
  refine ⟨_, rfl, ?_⟩
  refine Rets.mono (ldUsed h) ?_
  clear h
  rintro _ w ⟨rfl, h⟩
  refine ⟨_, rfl, ?_⟩
  refine Rets.mono (cRoom h) ?_
  clear h
  rintro _ w ⟨rfl, h⟩
  rw [if_pos hu]
  exact ⟨_, _, rfl, rfl, h⟩
theorem ldAdd (ok : LgOk s) (hs : s.t.size ≤ 700) (hT : TreeA h0 s.t gt) (h : Own e w (imm h0 :: ldB g gt s.used s.most :: F)) : Rets Tryd.prog 41 #[.pointer (some ⟨g, 0, none⟩), .int .u64 k, .int .i64 n] w fun v w' => v = .bool (lgAdd k n s).2 ∧ LD e F h0 g (lgAdd k n s).1 w' := by
  have hnn := ok.nn
  obtain ⟨ok1, ok2, ok3, ok4, ok5⟩ := ok
  refine ledger_Ledger_Add_go _ _ _ ⟨fun hc => (by cases hc), fun _ => ?_⟩
  refine Rets.mono (ldCost (k := k) hT hs ok1 h) ?_
  clear h
  rintro _ w ⟨rfl, h⟩
  unfold lgAdd
  refine ⟨_, _, rfl, fun hb => ?_, fun hb => ?_⟩
  · rw [if_neg (by rw [hb]; simp)]
    refine Rets.mono (ldSpend (a := 0) (b := n) h.swap (by omega)) ?_
    clear h
    rintro _ w (⟨rfl, hy, h⟩ | ⟨rfl, hy, h⟩)
    · rw [if_pos (by omega)]
      refine ⟨_, rfl, fun hb => (by cases hb), fun _ => ⟨_, Own.ld (g := g) (k := 0) h (by repeat (first | with_reducible exact Pick.here | apply Pick.there)) rfl, ?_⟩⟩
      refine Rets.mono (rkPut (k := k) (v := n) hT hs h.swap) ?_
      clear h
      rintro _ w ⟨h1, gu, rfl, le1, hU, h⟩
      refine ⟨_, rfl, Own.stP (g := g) (k := 0) h (by repeat (first | with_reducible exact Pick.here | apply Pick.there)) (by simp) (by simp [Value.oneCell']) fun w h => ⟨rfl, h1, gu, le1, hU, ?_⟩⟩
      simp only [setFrom, List.set_cons_zero, List.set_cons_succ, List.set_nil] at h
      rw [show s.used - 0 + n = s.used + n by omega] at h
      exact (Own.sub (h) (by repeat (first | exact Sub.nil _ | exact Sub.rfl _ | (apply Sub.cons; focus ((repeat (first | with_reducible exact Pick.here | apply Pick.there)); done)) | apply Sub.drop)))
    · rw [if_neg (by omega)]
      exact ⟨_, rfl, fun _ => ⟨rfl, h0, gt, LeH.refl _, hT, h.swap⟩, fun hb => (by cases hb)⟩
  · rw [if_pos hb]
    exact ⟨rfl, h0, gt, LeH.refl _, hT, h⟩
theorem ldDrop (ok : LgOk s) (hs : s.t.size ≤ 700) (hT : TreeA h0 s.t gt) (h : Own e w (imm h0 :: ldB g gt s.used s.most :: F)) : Rets Tryd.prog 55 #[.pointer (some ⟨g, 0, none⟩), .int .u64 k] w fun v w' => v = .tuple #[.int .i64 (lval k s.t.toL), .bool (lfind k s.t.toL).isSome] ∧ LD e F h0 g (lgDrop k s) w' := by
  have hnn := ok.nn
  have hv := ok.val k
  obtain ⟨ok1, ok2, ok3, ok4, ok5⟩ := ok
  refine ledger_Ledger_Drop_go _ _ ?_
  refine Rets.mono (ldCost (k := k) hT hs ok1 h) ?_
  clear h
  rintro _ w ⟨rfl, h⟩
  unfold lgDrop
  refine ⟨_, _, rfl, fun hb => ?_, fun hb => ?_⟩
  · have hb : ¬ (lfind k s.t.toL).isSome = true := by simpa using hb
    rw [if_neg hb, lval_no hb]
    have hb : (lfind k s.t.toL).isSome = false := by simpa using hb
    rw [hb]
    exact ⟨rfl, h0, gt, LeH.refl _, hT, h⟩
  · have hb : (lfind k s.t.toL).isSome = true := by simpa using hb
    rw [if_pos hb]
    refine Rets.mono (ldSpend (a := lval k s.t.toL) (b := 0) h.swap (by omega)) ?_
    clear h
    rintro _ w (⟨rfl, hy, h⟩ | ⟨rfl, hy, h⟩)
    · refine ⟨_, rfl, _, Own.ld (g := g) (k := 0) h (by repeat (first | with_reducible exact Pick.here | apply Pick.there)) rfl, ?_⟩
      refine Rets.mono (rkDrop (k := k) hT hs h.swap) ?_
      clear h
      rintro _ w ⟨h1, gu, rfl, le1, hU, h⟩
      refine ⟨_, rfl, Own.stP (g := g) (k := 0) h (by repeat (first | with_reducible exact Pick.here | apply Pick.there)) (by simp) (by simp [Value.oneCell']) fun w h => ⟨by rw [hb], h1, gu, le1, hU, ?_⟩⟩
      simp only [setFrom, List.set_cons_zero, List.set_cons_succ, List.set_nil] at h
      rw [show s.used - lval k s.t.toL + 0 = s.used - lval k s.t.toL by omega] at h
      exact (Own.sub (h) (by repeat (first | exact Sub.nil _ | exact Sub.rfl _ | (apply Sub.cons; focus ((repeat (first | with_reducible exact Pick.here | apply Pick.there)); done)) | apply Sub.drop)))
    · exact absurd ⟨Int.le_refl 0, by omega⟩ hy
theorem ldLimit (hT : TreeA h0 s.t gt) (h : Own e w (imm h0 :: ldB g gt s.used s.most :: F)) : Rets Tryd.prog 57 #[.pointer (some ⟨g, 0, none⟩), .int .i64 n] w fun v w' => v = .bool (lgLimit n s).2 ∧ LD e F h0 g (lgLimit n s).1 w' := by
  refine ledger_Ledger_Limit_go _ _ ⟨fun _ => ?_, fun hc => (by cases hc)⟩
  refine Rets.mono (cRight h) ?_
  clear h
  rintro _ w ⟨rfl, h⟩
  unfold lgLimit
  refine ⟨_, rfl, fun hb => ⟨_, Own.ld (g := g) (k := 1) h (by repeat (first | with_reducible exact Pick.here | apply Pick.there)) rfl, fun hc => ?_, fun hc => ?_⟩, fun hb => ?_⟩
  · have hc := dec_t hc
    rw [if_neg (by omega)]
    exact ⟨rfl, h0, gt, LeH.refl _, hT, h⟩
  · have hc := dec_f hc
    have hb := rightB_t.1 (by simpa using hb)
    rw [if_pos (by omega)]
    refine Own.stP (g := g) (k := 2) h (by repeat (first | with_reducible exact Pick.here | apply Pick.there)) (by simp) (by simp [Value.oneCell']) fun w h => ⟨rfl, h0, gt, LeH.refl _, hT, ?_⟩
    simp only [setFrom, List.set_cons_zero, List.set_cons_succ, List.set_nil] at h
    exact (Own.sub (h) (by repeat (first | exact Sub.nil _ | exact Sub.rfl _ | (apply Sub.cons; focus ((repeat (first | with_reducible exact Pick.here | apply Pick.there)); done)) | apply Sub.drop)))
  · have hb := rightB_f.1 (by simpa using hb)
    rw [if_neg (by omega)]
    exact ⟨rfl, h0, gt, LeH.refl _, hT, h⟩
theorem ldClear (h : Own e w (imm h0 :: ldB g gt s.used s.most :: F)) : Rets Tryd.prog 58 #[.pointer (some ⟨g, 0, none⟩)] w fun v w' => v = .tuple #[] ∧ LD e F h0 g (lgClear s) w' := by
  refine ledger_Ledger_Clear_go _ ⟨fun _ => ?_, fun hc => (by cases hc)⟩
  refine Rets.mono (ldNone h) ?_
  clear h
  rintro _ w ⟨h1, gu, rfl, le1, hU, h⟩
  refine ⟨_, rfl, Own.stP (g := g) (k := 0) h (by repeat (first | with_reducible exact Pick.here | apply Pick.there)) (by simp) (by simp [Value.oneCell']) fun w h => ?_⟩
  simp only [setFrom, List.set_cons_zero, List.set_cons_succ, List.set_nil] at h
  refine Own.stP (g := g) (k := 1) h (by repeat (first | with_reducible exact Pick.here | apply Pick.there)) (by simp) (by simp [Value.oneCell']) fun w h => ⟨rfl, h1, gu, le1, hU, ?_⟩
  simp only [setFrom, List.set_cons_zero, List.set_cons_succ, List.set_nil] at h
  exact (Own.sub (h) (by repeat (first | exact Sub.nil _ | exact Sub.rfl _ | (apply Sub.cons; focus ((repeat (first | with_reducible exact Pick.here | apply Pick.there)); done)) | apply Sub.drop)))
theorem lnCost (h : Own e w F) : Rets Tryd.prog 12 #[.pointer none, .int .u64 k] w fun v w' => v = .tuple #[.int .i64 0, .bool false] ∧ Own e w' F := ledger_nil_Cost_go _ ⟨fun _ => ⟨rfl, h⟩, fun hc => (by cases hc)⟩
theorem lnAdd (h : Own e w F) : Rets Tryd.prog 41 #[.pointer none, .int .u64 k, .int .i64 n] w fun v w' => v = .bool false ∧ Own e w' F := ledger_nil_Add_go _ _ ⟨fun _ => ⟨rfl, h⟩, fun hc => (by cases hc)⟩
theorem lnDrop (h : Own e w F) : Rets Tryd.prog 55 #[.pointer none, .int .u64 k] w fun v w' => v = .tuple #[.int .i64 0, .bool false] ∧ Own e w' F := by
  refine ledger_nil_Drop_go _ ?_
  refine Rets.mono (lnCost h) ?_
  rintro _ w ⟨rfl, h⟩
  exact ⟨_, _, rfl, fun _ => ⟨rfl, h⟩, fun hc => (by cases hc)⟩
theorem lnUsed (h : Own e w F) : Rets Tryd.prog 35 #[.pointer none] w fun v w' => v = .int .i64 0 ∧ Own e w' F := ledger_nil_Used_go ⟨fun _ => ⟨rfl, h⟩, fun hc => (by cases hc)⟩
theorem lnMost (h : Own e w F) : Rets Tryd.prog 30 #[.pointer none] w fun v w' => v = .int .i64 0 ∧ Own e w' F := ledger_nil_Most_go ⟨fun _ => ⟨rfl, h⟩, fun hc => (by cases hc)⟩
theorem lnLen (h : Own e w F) : Rets Tryd.prog 28 #[.pointer none] w fun v w' => v = .int .i64 0 ∧ Own e w' F := ledger_nil_Len_go ⟨fun _ => ⟨rfl, h⟩, fun hc => (by cases hc)⟩
theorem lnAt {i : Int} (h : Own e w F) : Rets Tryd.prog 66 #[.pointer none, .int .i64 i] w fun v w' => v = .tuple #[.int .u64 0, .bool false] ∧ Own e w' F := ledger_nil_At_go _ ⟨fun _ => ⟨rfl, h⟩, fun hc => (by cases hc)⟩
theorem lnLimit (h : Own e w F) : Rets Tryd.prog 57 #[.pointer none, .int .i64 n] w fun v w' => v = .bool false ∧ Own e w' F := ledger_nil_Limit_go _ ⟨fun hc => (by cases hc), fun _ => ⟨rfl, h⟩⟩
theorem lnClear (h : Own e w F) : Rets Tryd.prog 58 #[.pointer none] w fun v w' => v = .tuple #[] ∧ Own e w' F := ledger_nil_Clear_go ⟨fun hc => (by cases hc), fun _ => ⟨rfl, h⟩⟩
theorem lnRoom (h : Own e w F) : Rets Tryd.prog 73 #[.pointer none] w fun v w' => v = .int .i64 0 ∧ Own e w' F := by
  refine ledger_nil_Room_go ?_
  refine Rets.mono (lnMost h) ?_
  clear h
  rintro _ w ⟨rfl, h⟩
  refine ⟨_, rfl, ?_⟩
  refine Rets.mono (lnUsed h) ?_
  clear h
  rintro _ w ⟨rfl, h⟩
  refine ⟨_, rfl, ?_⟩
  refine Rets.mono (cRoom h) ?_
  clear h
  rintro _ w ⟨rfl, h⟩
  exact ⟨_, _, rfl, rfl, h⟩
end
end Go.Proofs.YtajckpjlliiekaaDoor.Eng
