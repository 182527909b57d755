/- SampleFills: for any hashes, any beginning, any draws the law answers true. -/
import Derived.Test.YtajckpjlliiekaaDoorSamR
import Derived.Test.YtajckpjlliiekaaDoorSmfG
namespace Go.Proofs.YtajckpjlliiekaaDoor.Eng
open Go Go.RowKit Go.Proofs
set_option linter.unusedVariables false
set_option linter.unusedSimpArgs false
set_option maxRecDepth 1000000
section
variable {W : World} {q q2 q3 : Option Addr} {c c2 c3 : Nat} {L ins D : List Int}
theorem SampleFills_spec (HL : MixLaid W) (hb : RdC W q (cs .u64 L)) (hm : L.length * 8 ≤ 140737488351232) (hc : L.length ≤ c) (hw : ∀ x ∈ L, (Lit.int .u64 x).wf = true)
    (hb2 : RdC W q2 (cs .u64 ins)) (hm2 : ins.length * 8 ≤ 140737488351232) (hc2 : ins.length ≤ c2) (hw2 : ∀ x ∈ ins, (Lit.int .u64 x).wf = true)
    (hb3 : RdC W q3 (cs .i64 D)) (hm3 : D.length * 8 ≤ 140737488351232) (hc3 : D.length ≤ c3) (hw3 : ∀ x ∈ D, (Lit.int .i64 x).wf = true) :
    Rets Tryd.prog 4 #[.slice q L.length c, .slice q2 ins.length c2, .slice q3 D.length c3] W fun v w' => v = .bool true ∧ Below W.heap.size W w' := by
  refine Rets.mono (k := fun v w' => v = .bool true ∧ ∃ F, Own W w' (snap W :: F)) ?_ (fun v w' h => ⟨h.1, h.2.elim fun F h => h.below⟩)
  have h := Own.begin W
  rw [snap_imm] at h ⊢
  obtain ⟨hW, ehW⟩ : ∃ hW : Nat → Option Obj, hW = (fun b => W.heap[b]?) := ⟨_, rfl⟩
  have rdm : ∀ {h1 : Nat → Option Obj} (le : LeH hW h1) w F, Own W w (imm h1 :: F) → RdC w mixQ mixC := fun le w F h => by rw [ehW] at le; exact Own.snapRd (W := W) (h.immLe le) HL.rd
  have rdL : ∀ {h1 : Nat → Option Obj} (le : LeH hW h1) w F, Own W w (imm h1 :: F) → RdC w q (cs .u64 L) := fun le w F h => by rw [ehW] at le; exact Own.snapRd (W := W) (h.immLe le) hb
  have rdI : ∀ {h1 : Nat → Option Obj} (le : LeH hW h1) w F, Own W w (imm h1 :: F) → RdC w q2 (cs .u64 ins) := fun le w F h => by rw [ehW] at le; exact Own.snapRd (W := W) (h.immLe le) hb2
  have rdD : ∀ {h1 : Nat → Option Obj} (le : LeH hW h1) w F, Own W w (imm h1 :: F) → RdC w q3 (cs .i64 D) := fun le w F h => by rw [ehW] at le; exact Own.snapRd (W := W) (h.immLe le) hb3
  rw [← ehW] at h ⊢
  clear ehW
  have aw : ∀ {h1 : Nat → Option Obj} {w F}, LeH hW h1 → Own W w (imm h1 :: F) → Rets Tryd.prog 8 #[] w fun v w' => ∃ b, v = Value.bool b ∧ (Value.bool b) = .bool true ∧ ∃ F, Own W w' (imm hW :: F) := fun le h => by
    refine Rets.mono (smAwake (rdm le) h) ?_
    rintro _ w ⟨rfl, F, h⟩
    exact ⟨_, rfl, rfl, _, h.immLe le⟩
  refine cortadolaw25_SampleFills_go _ _ _ _ _ _ _ _ _ ⟨fun hx => ⟨fun hx2 => aw (LeH.refl _) h, fun hx2 => ?_⟩, fun hx => aw (LeH.refl _) h⟩
  have hx := dec_f hx
  have hx2 := dec_f hx2
  refine Rets.mono (smMade (ins := L) (c2 := c) (by omega) (rdL (LeH.refl _)) h) ?_
  clear h
  rintro _ w ⟨h1, g, gt, qr, cr, rfl, le1, I1, hnc, T1, h⟩
  obtain ⟨ok, hsz⟩ := mdS_ok L
  have hl1 := Tr.size_toL (mdS L).t
  refine ⟨_, _, _, _, _, rfl, h.newR fun g2 w h => Own.stP' (g := g2) h (by repeat (first | with_reducible exact Pick.here | apply Pick.there)) (by simp) (by simp [Value.oneCell']) fun w h => ?_⟩
  simp only [setFrom, List.set_cons_zero, List.set_cons_succ, List.set_nil] at h
  obtain ⟨s, hs⟩ : ∃ s, s = mdS L := ⟨_, rfl⟩
  rw [← hs] at h I1 hnc T1 ok hsz hl1
  clear hs
  obtain ⟨ha0, le2, ha, hh⟩ := Own.absorb h
  clear h
  have h := hh
  clear hh
  have I1 := I1.mono le2
  have T1 := T1.mono le2
  have le3 := LeH.trans le1 le2
  refine Rets.mono (dcNew (L := D) (q := q3) (c := c3) (s := 7) h (fun w h => rdD le3 w _ h) hm3) ?_
  clear h
  rintro _ w ⟨gd, rfl, h⟩
  refine ⟨_, rfl, h.newR fun g4 w h => ?_⟩
  have h : Own W w (rdO g4 q3 D.length c3 7 0 :: dicO gd D 7 0 :: imm ha0 :: ldB g gt s.used s.most :: []) := h
  have h : Own W w (imm ha0 :: ldB g gt s.used s.most :: dicO gd D 7 0 :: rdO g4 q3 D.length c3 7 0 :: []) := (Own.sub (h) (by repeat (first | with_reducible exact Sub.nil _ | with_reducible exact Sub.rfl _ | (apply Sub.cons; focus ((repeat (first | with_reducible exact Pick.here | apply Pick.there)); done)) | apply Sub.drop)))
  let S1 : World → Prop := fun w => ∃ F, Own W w (imm ha0 :: F)
  refine h.drw fun w h => ⟨S1, ⟨_, h⟩, _, _, _, _, ⟨fun w ⟨F, h⟩ => h.immCell ha (i := 0) rfl, fun w ⟨F, h⟩ => h.immCell ha (i := 1) rfl⟩, ?_⟩
  refine Rets.mono (smFill (ins := ins) (c := c2) (D := D) (s := 7) (u := 0) T1 (by omega) (by omega) (by omega) hm3 (rdm le3) (rdI le3) h) ?_
  clear h
  rintro _ w ⟨q5, c5, rfl, h⟩
  have h : Own W w (imm ha0 :: rdO g4 q3 D.length c3 7 0 :: sl64 q5 (outS D 7 (keysL s.t.toL) ins 0).1.length c5 (outS D 7 (keysL s.t.toL) ins 0).1 :: dicO gd D 7 (outS D 7 (keysL s.t.toL) ins 0).2 :: []) := (Own.sub (h) (by repeat (first | with_reducible exact Sub.nil _ | with_reducible exact Sub.rfl _ | (apply Sub.cons; focus ((repeat (first | with_reducible exact Pick.here | apply Pick.there)); done)) | apply Sub.drop)))
  refine ⟨_, _, _, rfl, S1, fun _ h => h, ⟨_, h⟩, ?_⟩
  refine Rets.mono (rFillS (ins := ins) (c2 := c2) (by omega) (by omega) (by omega) (by unfold M64; omega) hm3 I1 (rdD le3) (rdI le3) h) ?_
  clear h
  rintro _ w ⟨h5, q6, c6, rfl, le5, h⟩
  obtain ⟨R, hR⟩ : ∃ R, R = outS D 7 (keysL s.t.toL) ins 0 := ⟨_, rfl⟩
  have hRl : R.1.length ≤ 900 := by
    have key : ∀ k out u, (filS (keysL s.t.toL) (belN D 7 (keysL s.t.toL).length) k out u).1.length ≤ out.length + k := by
      intro k
      induction k with
      | zero => intro out u; exact Nat.le_refl _
      | succ k ih =>
        intro out u
        unfold filS
        split
        · have := ih (out ++ [(nxtK (keysL s.t.toL) (belN D 7 (keysL s.t.toL).length u) out).getD 0]) (u + 1)
          simp at this ⊢; omega
        · show out.length ≤ _; omega
    have := key 5 ins 0
    rw [hR]; show (filS _ _ 5 ins 0).1.length ≤ 900; omega
  rw [← hR] at h ⊢
  clear hR
  have h : Own W w (imm h5 :: sl64 q5 R.1.length c5 R.1 :: sl64 q6 R.1.length c6 R.1 :: dicO gd D 7 R.2 :: rdO g4 q3 D.length c3 7 R.2 :: []) := (Own.sub (h) (by repeat (first | with_reducible exact Sub.nil _ | with_reducible exact Sub.rfl _ | (apply Sub.cons; focus ((repeat (first | with_reducible exact Pick.here | apply Pick.there)); done)) | apply Sub.drop)))
  let S3 : World → Prop := fun w => Own W w (imm h5 :: sl64 q5 R.1.length c5 R.1 :: sl64 q6 R.1.length c6 R.1 :: dicO gd D 7 R.2 :: rdO g4 q3 D.length c3 7 R.2 :: [])
  have h : S3 w := h
  refine ⟨_, _, _, rfl, S3, fun w (h : Own W w _) => ⟨_, h.immLe le5⟩, h, ?_⟩
  refine Rets.mono (uSame (xs := R.1) (q := q5) (q2 := q6) (c := c5) (c2 := c6) h (fun w h => Own.rdP (T := 32) h (by repeat (first | with_reducible exact Pick.here | apply Pick.there))) (fun w (h : Own W w _) => (Own.rdP (T := 32) (h.at 1).drop (by repeat (first | with_reducible exact Pick.here | apply Pick.there)))) (by omega)) ?_
  clear h
  rintro _ w ⟨rfl, h⟩
  refine ⟨_, rfl, S3, fun _ h => h, h, fun _ => ⟨_, fun w h => Own.ld (g := g4) (k := 2) h (by repeat (first | with_reducible exact Pick.here | apply Pick.there)) rfl, ?_⟩, fun hq => (by cases hq)⟩
  have h : Own W w (dicO gd D 7 R.2 :: imm h5 :: sl64 q5 R.1.length c5 R.1 :: sl64 q6 R.1.length c6 R.1 :: rdO g4 q3 D.length c3 7 R.2 :: []) := (Own.sub (h) (by repeat (first | with_reducible exact Sub.nil _ | with_reducible exact Sub.rfl _ | (apply Sub.cons; focus ((repeat (first | with_reducible exact Pick.here | apply Pick.there)); done)) | apply Sub.drop)))
  refine Rets.mono (dcUsed h) ?_
  clear h
  rintro _ w ⟨rfl, h⟩
  have h : Own W w (imm h5 :: sl64 q5 R.1.length c5 R.1 :: sl64 q6 R.1.length c6 R.1 :: dicO gd D 7 R.2 :: rdO g4 q3 D.length c3 7 R.2 :: []) := (Own.sub (h) (by repeat (first | with_reducible exact Sub.nil _ | with_reducible exact Sub.rfl _ | (apply Sub.cons; focus ((repeat (first | with_reducible exact Pick.here | apply Pick.there)); done)) | apply Sub.drop)))
  exact ⟨_, rfl, h, fun _ => aw (LeH.trans le3 le5) h, fun hq => (by simp at hq)⟩
end
end Go.Proofs.YtajckpjlliiekaaDoor.Eng
