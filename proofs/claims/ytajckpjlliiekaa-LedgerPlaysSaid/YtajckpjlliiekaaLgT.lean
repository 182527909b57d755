/- LedgerPlays: a step on both. -/
import Derived.Test.YtajckpjlliiekaaLgS
import Derived.Test.YtajckpjlliiekaaLgB
namespace Go.Proofs.Ytajckpjlliiekaa.Eng
open Go Go.RowKit Go.Proofs
set_option linter.unusedVariables false
set_option linter.unusedSimpArgs false
set_option maxRecDepth 1000000
theorem lgDrop_toL {s : Lg} (h : Srt s.t.toL) (k : Int) : (lgDrop k s).t.toL = ldrop k s.t.toL := by
  unfold lgDrop
  split
  · exact tdrop_toL k s.t h
  · rename_i hf
    refine (ldrop_no fun e he hk => ?_).symm
    have := List.find?_eq_none.1 (show lfind k s.t.toL = none by
      cases hx : lfind k s.t.toL with
      | none => rfl
      | some x => rw [hx] at hf; exact absurd rfl hf) e he
    simp at this
    exact this hk
theorem lgDrop_most (k : Int) (s : Lg) : (lgDrop k s).most = s.most := by unfold lgDrop; split <;> rfl
/-- Both stand there. -/
def DL (e : World) (F : List HP) (h0 : Nat → Option Obj) (g : Nat) (s : Lg) (q : Option Addr) (c : Nat) (w : World) : Prop :=
  ∃ h1 gt, LeH h0 h1 ∧ ImR h1 q (E24 s.t.toL) ∧ s.t.toL.length ≤ c ∧ TreeA h1 s.t gt ∧ Own e w (imm h1 :: ldB g gt s.used s.most :: F)
section
variable {e w : World} {F : List HP} {h0 : Nat → Option Obj} {q : Option Addr} {c g gt : Nat} {k n : Int} {s : Lg} {p : Int × Int × Int}
theorem ldo (ok : LgOk s) (hl : s.t.size ≤ 500) (hI : ImR h0 q (E24 s.t.toL)) (hnc : s.t.toL.length ≤ c) (hT : TreeA h0 s.t gt) (h : Own e w (imm h0 :: ldB g gt s.used s.most :: F)) :
    Rets Try.prog 20 #[.pointer (some ⟨g, 0, none⟩), L24 q s.t.toL.length c s.most, .agg #[.int .u64 p.1, .int .u64 p.2.1, .int .i64 p.2.2]] w fun v w' => ∃ q' c', v = .tuple #[L24 q' (stepL p s).1.t.toL.length c' (stepL p s).1.most, .bool true] ∧ DL e F h0 g (stepL p s).1 q' c' w' := by
  refine cortadolaw24_do_go _ _ _ _ _ _ _ _ (h.newR fun ga w h => ?_)
  obtain ⟨ha0, le0, ha, hh⟩ := Own.absorb h
  clear h
  have h := hh
  clear hh
  refine h.newR fun gb w h => ?_
  obtain ⟨hb0, le1, hb, hh⟩ := Own.absorb h
  clear h
  have h := hh
  clear hh
  have ha := le1 _ _ ha
  have le2 := LeH.trans le0 le1
  clear le0 le1
  have hI := hI.mono le2
  have hT := hT.mono le2
  refine h.newR fun g3 w h => ?_
  have h : Own e w (imm hb0 :: ldB g gt s.used s.most :: B24 g3 none 0 0 0 :: F) := (Own.sub (h) (by repeat (first | with_reducible exact Sub.nil _ | with_reducible exact Sub.rfl _ | (apply Sub.cons; focus ((repeat (first | with_reducible exact Pick.here | apply Pick.there)); done)) | apply Sub.drop)))
  refine ⟨_, h.immCell hb (i := 0) rfl, by omega, fun hk => ?_, fun hk => ⟨fun hk2 => ?_, fun hk2 => ⟨fun hk3 => ?_, fun hk3 => ⟨fun hk4 => ?_, fun hk4 => ?_⟩⟩⟩⟩
  · have hk := beq_t hk
    have est : stepL p s = lgMove p.2.1 p.2.2 s := by unfold stepL; rw [if_pos hk]
    rw [est]
    refine ⟨_, _, _, _, ⟨h.immCell ha (i := 0) rfl, h.immCell ha (i := 1) rfl⟩, _, h.immCell hb (i := 1) rfl, _, h.immCell hb (i := 2) rfl, ?_⟩
    refine Rets.mono (rMove (k := p.2.1) (n := p.2.2) ok (by omega) hI hnc h) ?_
    clear h
    rintro _ w ⟨h3, q3, c3, rfl, le3, hI3, hnc3, h⟩
    refine ⟨_, _, _, _, _, rfl, h.newR fun g4 w h => Own.stP' (g := g4) h (by repeat (first | with_reducible exact Pick.here | apply Pick.there)) (by simp) (by simp [Value.oneCell']) fun w h => ?_⟩
    simp only [setFrom, List.set_cons_zero, List.set_cons_succ, List.set_nil] at h
    obtain ⟨h4, le4, h4g, hh⟩ := Own.absorb h
    clear h
    have h := hh
    clear hh
    have hb := le4 _ _ (le3 _ _ hb)
    have hT := hT.mono (LeH.trans le3 le4)
    let S : World → Prop := fun w => ∃ F', Own e w (imm h4 :: F')
    refine h.drw fun w h => ⟨S, ⟨_, h⟩, _, _, _, _, ⟨fun w ⟨F', h⟩ => h.immCell h4g (i := 0) rfl, fun w ⟨F', h⟩ => h.immCell h4g (i := 1) rfl⟩, _, fun w ⟨F', h⟩ => h.immCell hb (i := 1) rfl, _, fun w ⟨F', h⟩ => h.immCell hb (i := 2) rfl, ?_⟩
    refine Rets.mono (ldMove (k := p.2.1) (n := p.2.2) ok (by omega) hT h) ?_
    clear h
    rintro _ w ⟨rfl, h5, gt5, le5, hT5, h⟩
    refine ⟨_, rfl, ⟨_, h.immLe le5⟩, Own.stP' (g := g3) h (by repeat (first | with_reducible exact Pick.here | apply Pick.there)) (by simp) (by simp [Value.oneCell']) fun w h => ?_⟩
    simp only [setFrom, List.set_cons_zero, List.set_cons_succ, List.set_nil] at h
    refine ⟨_, _, _, _, ⟨Own.ld (g := g3) (k := 0) h (by repeat (first | with_reducible exact Pick.here | apply Pick.there)) rfl, Own.ld (g := g3) (k := 1) h (by repeat (first | with_reducible exact Pick.here | apply Pick.there)) rfl⟩, _, _, ?_, h5, gt5, LeH.trans le2 (LeH.trans le3 (LeH.trans le4 le5)), hI3.mono (LeH.trans le4 le5), hnc3, hT5, (Own.sub (h) (by repeat (first | exact Sub.nil _ | exact Sub.rfl _ | (apply Sub.cons; focus ((repeat (first | with_reducible exact Pick.here | apply Pick.there)); done)) | apply Sub.drop)))⟩
    simp
  · have hk := beq_f hk
    have hk2 := beq_t hk2
    have est : (stepL p s).1 = lgDrop p.2.1 s := by unfold stepL; rw [if_neg hk, if_pos hk2]
    rw [est, lgDrop_toL ok.1, lgDrop_most]
    refine ⟨_, h.immCell hb (i := 1) rfl, ?_⟩
    refine Rets.mono (ldDrop (k := p.2.1) ok (by omega) hT h) ?_
    clear h
    rintro _ w ⟨rfl, h5, gt5, le5, hT5, h⟩
    have ha := le5 _ _ ha
    have hb := le5 _ _ hb
    have hI := hI.mono le5
    refine ⟨_, _, rfl, _, _, _, _, ⟨h.immCell ha (i := 0) rfl, h.immCell ha (i := 1) rfl⟩, _, h.immCell hb (i := 1) rfl, ?_⟩
    refine Rets.mono (rCost (k := p.2.1) (by rw [Tr.size_toL]; omega) hI h) ?_
    clear h
    rintro _ w ⟨rfl, h⟩
    refine ⟨_, _, rfl, fun vs w => vs = [.bool true] ∧ ∃ h3 q3 c3, LeH h5 h3 ∧ ImR h3 q3 (E24 (ldrop p.2.1 s.t.toL)) ∧ (ldrop p.2.1 s.t.toL).length ≤ c3 ∧ Own e w (imm h3 :: ldB g gt5 (lgDrop p.2.1 s).used (lgDrop p.2.1 s).most :: B24 g3 q3 (ldrop p.2.1 s.t.toL).length c3 s.most :: F), ⟨_, _, _, _, ⟨h.immCell ha (i := 0) rfl, h.immCell ha (i := 1) rfl⟩, _, h.immCell hb (i := 1) rfl, ?_⟩, ?_⟩
    · refine Rets.mono (rDrop (k := p.2.1) (by rw [Tr.size_toL]; omega) hI h) ?_
      clear h
      rintro _ w ⟨h3, q3, c3, rfl, le3, hI3, hnc3, h⟩
      refine ⟨_, _, _, _, rfl, fun _ => Own.stP' (g := g3) h (by repeat (first | with_reducible exact Pick.here | apply Pick.there)) (by simp) (by simp [Value.oneCell']) fun w h => ?_, fun hq => (by simp at hq)⟩
      simp only [setFrom, List.set_cons_zero, List.set_cons_succ, List.set_nil] at h
      exact ⟨by simp, h3, q3, c3, le3, hI3, hnc3, (Own.sub (h) (by repeat (first | exact Sub.nil _ | exact Sub.rfl _ | (apply Sub.cons; focus ((repeat (first | with_reducible exact Pick.here | apply Pick.there)); done)) | apply Sub.drop)))⟩
    clear h
    rintro w b5
    intros
    rename_i hI5
    obtain ⟨hvs, h3, q3, c3, le3, hI3, hnc3, h⟩ := hI5
    obtain rfl : b5 = true := by simpa using hvs
    have eL := lgDrop_toL ok.1 p.2.1
    refine ⟨_, _, _, _, ⟨Own.ld (g := g3) (k := 0) h (by repeat (first | with_reducible exact Pick.here | apply Pick.there)) rfl, Own.ld (g := g3) (k := 1) h (by repeat (first | with_reducible exact Pick.here | apply Pick.there)) rfl⟩, _, _, rfl, h3, gt5, LeH.trans le2 (LeH.trans le5 le3), by rw [eL]; exact hI3, by rw [eL]; exact hnc3, hT5.mono le3, (Own.sub (h) (by repeat (first | exact Sub.nil _ | exact Sub.rfl _ | (apply Sub.cons; focus ((repeat (first | with_reducible exact Pick.here | apply Pick.there)); done)) | apply Sub.drop)))⟩
  · have hk := beq_f hk
    have hk2 := beq_f hk2
    have hk3 := beq_t hk3
    have est : stepL p s = lgLimit p.2.2 s := by unfold stepL; rw [if_neg hk, if_neg hk2, if_pos hk3]
    rw [est]
    refine ⟨_, _, _, _, ⟨h.immCell ha (i := 0) rfl, h.immCell ha (i := 1) rfl⟩, _, h.immCell hb (i := 2) rfl, ?_⟩
    refine Rets.mono (rLimit (n := p.2.2) ok (by omega) hI hnc h) ?_
    clear h
    rintro _ w ⟨h3, q3, c3, rfl, le3, hI3, hnc3, h⟩
    refine ⟨_, _, _, _, _, rfl, h.newR fun g4 w h => Own.stP' (g := g4) h (by repeat (first | with_reducible exact Pick.here | apply Pick.there)) (by simp) (by simp [Value.oneCell']) fun w h => ?_⟩
    simp only [setFrom, List.set_cons_zero, List.set_cons_succ, List.set_nil] at h
    obtain ⟨h4, le4, h4g, hh⟩ := Own.absorb h
    clear h
    have h := hh
    clear hh
    have hb := le4 _ _ (le3 _ _ hb)
    have hT := hT.mono (LeH.trans le3 le4)
    let S : World → Prop := fun w => ∃ F', Own e w (imm h4 :: F')
    refine h.drw fun w h => ⟨S, ⟨_, h⟩, _, _, _, _, ⟨fun w ⟨F', h⟩ => h.immCell h4g (i := 0) rfl, fun w ⟨F', h⟩ => h.immCell h4g (i := 1) rfl⟩, _, fun w ⟨F', h⟩ => h.immCell hb (i := 2) rfl, ?_⟩
    refine Rets.mono (ldLimit (n := p.2.2) hT h) ?_
    clear h
    rintro _ w ⟨rfl, h5, gt5, le5, hT5, h⟩
    refine ⟨_, rfl, ⟨_, h.immLe le5⟩, Own.stP' (g := g3) h (by repeat (first | with_reducible exact Pick.here | apply Pick.there)) (by simp) (by simp [Value.oneCell']) fun w h => ?_⟩
    simp only [setFrom, List.set_cons_zero, List.set_cons_succ, List.set_nil] at h
    refine ⟨_, _, _, _, ⟨Own.ld (g := g3) (k := 0) h (by repeat (first | with_reducible exact Pick.here | apply Pick.there)) rfl, Own.ld (g := g3) (k := 1) h (by repeat (first | with_reducible exact Pick.here | apply Pick.there)) rfl⟩, _, _, ?_, h5, gt5, LeH.trans le2 (LeH.trans le3 (LeH.trans le4 le5)), hI3.mono (LeH.trans le4 le5), hnc3, hT5, (Own.sub (h) (by repeat (first | exact Sub.nil _ | exact Sub.rfl _ | (apply Sub.cons; focus ((repeat (first | with_reducible exact Pick.here | apply Pick.there)); done)) | apply Sub.drop)))⟩
    simp
  · have hk := beq_f hk
    have hk2 := beq_f hk2
    have hk3 := beq_f hk3
    have hk4 := beq_t hk4
    have est : stepL p s = (lgClear s, true) := by unfold stepL; rw [if_neg hk, if_neg hk2, if_neg hk3, if_pos hk4]
    rw [est]
    refine Rets.mono (ldClear (s := s) h) ?_
    clear h
    rintro _ w ⟨rfl, h5, gt5, le5, hT5, h⟩
    have ha := le5 _ _ ha
    refine ⟨rfl, _, h.immCell ha (i := 1) rfl, Own.stP' (g := g3) h (by repeat (first | with_reducible exact Pick.here | apply Pick.there)) (by simp) (by simp [Value.oneCell']) fun w h => ?_⟩
    simp only [setFrom, List.set_cons_zero, List.set_cons_succ, List.set_nil] at h
    exact ⟨_, _, _, _, ⟨Own.ld (g := g3) (k := 0) h (by repeat (first | with_reducible exact Pick.here | apply Pick.there)) rfl, Own.ld (g := g3) (k := 1) h (by repeat (first | with_reducible exact Pick.here | apply Pick.there)) rfl⟩, none, 0, rfl, h5, gt5, LeH.trans le2 le5, fun e w F ho => .inl rfl, Nat.le_refl _, hT5, (Own.sub (h) (by repeat (first | exact Sub.nil _ | exact Sub.rfl _ | (apply Sub.cons; focus ((repeat (first | with_reducible exact Pick.here | apply Pick.there)); done)) | apply Sub.drop)))⟩
  · have hk := beq_f hk
    have hk2 := beq_f hk2
    have hk3 := beq_f hk3
    have hk4 := beq_f hk4
    have est : stepL p s = lgAdd p.2.1 p.2.2 s := by unfold stepL; rw [if_neg hk, if_neg hk2, if_neg hk3, if_neg hk4]
    rw [est]
    refine ⟨_, _, _, _, ⟨h.immCell ha (i := 0) rfl, h.immCell ha (i := 1) rfl⟩, _, h.immCell hb (i := 1) rfl, _, h.immCell hb (i := 2) rfl, ?_⟩
    refine Rets.mono (rAdd (k := p.2.1) (n := p.2.2) ok (by omega) hI hnc h) ?_
    clear h
    rintro _ w ⟨h3, q3, c3, rfl, le3, hI3, hnc3, h⟩
    refine ⟨_, _, _, _, _, rfl, h.newR fun g4 w h => Own.stP' (g := g4) h (by repeat (first | with_reducible exact Pick.here | apply Pick.there)) (by simp) (by simp [Value.oneCell']) fun w h => ?_⟩
    simp only [setFrom, List.set_cons_zero, List.set_cons_succ, List.set_nil] at h
    obtain ⟨h4, le4, h4g, hh⟩ := Own.absorb h
    clear h
    have h := hh
    clear hh
    have hb := le4 _ _ (le3 _ _ hb)
    have hT := hT.mono (LeH.trans le3 le4)
    let S : World → Prop := fun w => ∃ F', Own e w (imm h4 :: F')
    refine h.drw fun w h => ⟨S, ⟨_, h⟩, _, _, _, _, ⟨fun w ⟨F', h⟩ => h.immCell h4g (i := 0) rfl, fun w ⟨F', h⟩ => h.immCell h4g (i := 1) rfl⟩, _, fun w ⟨F', h⟩ => h.immCell hb (i := 1) rfl, _, fun w ⟨F', h⟩ => h.immCell hb (i := 2) rfl, ?_⟩
    refine Rets.mono (ldAdd (k := p.2.1) (n := p.2.2) ok (by omega) hT h) ?_
    clear h
    rintro _ w ⟨rfl, h5, gt5, le5, hT5, h⟩
    refine ⟨_, rfl, ⟨_, h.immLe le5⟩, Own.stP' (g := g3) h (by repeat (first | with_reducible exact Pick.here | apply Pick.there)) (by simp) (by simp [Value.oneCell']) fun w h => ?_⟩
    simp only [setFrom, List.set_cons_zero, List.set_cons_succ, List.set_nil] at h
    refine ⟨_, _, _, _, ⟨Own.ld (g := g3) (k := 0) h (by repeat (first | with_reducible exact Pick.here | apply Pick.there)) rfl, Own.ld (g := g3) (k := 1) h (by repeat (first | with_reducible exact Pick.here | apply Pick.there)) rfl⟩, _, _, ?_, h5, gt5, LeH.trans le2 (LeH.trans le3 (LeH.trans le4 le5)), hI3.mono (LeH.trans le4 le5), hnc3, hT5, (Own.sub (h) (by repeat (first | exact Sub.nil _ | exact Sub.rfl _ | (apply Sub.cons; focus ((repeat (first | with_reducible exact Pick.here | apply Pick.there)); done)) | apply Sub.drop)))⟩
    simp
end
end Go.Proofs.Ytajckpjlliiekaa.Eng
