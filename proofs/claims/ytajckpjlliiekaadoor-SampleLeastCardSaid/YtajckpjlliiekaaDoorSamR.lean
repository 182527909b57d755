/- Samples: the law's own check. -/
import Derived.Test.YtajckpjlliiekaaDoorSamQ
namespace Go.Proofs.YtajckpjlliiekaaDoor.Eng
open Go Go.RowKit Go.Proofs
set_option linter.unusedVariables false
set_option linter.unusedSimpArgs false
set_option maxRecDepth 1000000
section
variable {e w : World} {F : List HP} {h0 : Nat → Option Obj}
theorem smAwake (hm : ∀ w F, Own e w (imm h0 :: F) → RdC w mixQ mixC) (h : Own e w (imm h0 :: F)) : Rets Tryd.prog 8 #[] w fun v w' => v = .bool true ∧ ∃ F, Own e w' (imm h0 :: F) := by
  refine cortadolaw25_awake_go (h.newR fun g1 w h => ?_)
  obtain ⟨ha0, le0, ha, hh⟩ := Own.absorb h
  clear h
  have h := hh
  clear hh
  have rd1 : ∀ w F, Own e w (imm ha0 :: F) → RdC w (some ⟨g1, 0, none⟩) (cs .u64 [10, 20, 30]) := fun w F h => .inr ⟨_, rfl, fun j u hj => h.immCell (vs := [.int .u64 10, .int .u64 20, .int .u64 30]) ha hj⟩
  refine Rets.mono (smMade (ins := [10, 20, 30]) (q2 := some ⟨g1, 0, none⟩) (c2 := 3) (by decide) rd1 h) ?_
  clear h
  rintro _ w ⟨h1, g, gt, q, c, rfl, le1, I1, hnc, T1, h⟩
  have le1 := LeH.trans le0 le1
  have ek : keysL (mdS [10, 20, 30]).t.toL = [10, 20, 30] := rfl
  have es : (mdS [10, 20, 30]).t.size = 3 := rfl
  refine ⟨_, _, _, _, _, rfl, h.newR fun g2 w h => Own.stP' (g := g2) h (by repeat (first | with_reducible exact Pick.here | apply Pick.there)) (by simp) (by simp [Value.oneCell']) fun w h => h.newR fun g3 w h => ?_⟩
  have h : Own e w (blk g3 3 [.int .i64 5, .int .i64 0, .int .i64 0] :: imm h1 :: ldB g gt (mdS [10, 20, 30]).used (mdS [10, 20, 30]).most :: F) := (Own.sub (h) (by repeat (first | exact Sub.nil _ | exact Sub.rfl _ | (apply Sub.cons; focus ((repeat (first | with_reducible exact Pick.here | apply Pick.there)); done)) | apply Sub.drop)))
  obtain ⟨hb0, le2, hb, hh⟩ := Own.absorb h
  clear h
  have h := hh
  clear hh
  refine Rets.mono (dcNew (L := [5, 0, 0]) (q := some ⟨g3, 0, none⟩) (c := 3) (s := 0) h (fun w h => .inr ⟨_, rfl, fun j u hj => h.immCell (vs := [.int .i64 5, .int .i64 0, .int .i64 0]) hb hj⟩) (by decide)) ?_
  clear h
  rintro _ w ⟨gd, rfl, h⟩
  have h : Own e w (imm hb0 :: ldB g gt (mdS [10, 20, 30]).used (mdS [10, 20, 30]).most :: dicO gd [5, 0, 0] 0 0 :: F) := (Own.sub (h) (by repeat (first | with_reducible exact Sub.nil _ | with_reducible exact Sub.rfl _ | (apply Sub.cons; focus ((repeat (first | with_reducible exact Pick.here | apply Pick.there)); done)) | apply Sub.drop)))
  refine ⟨_, rfl, ?_⟩
  refine Rets.mono (smFill (ins := []) (q := none) (c := 0) (D := [5, 0, 0]) (s := 0) (u := 0) (T1.mono le2) (by rw [es]; decide) (by decide) (by decide) (by decide) (fun w F h => hm w F (h.immLe (LeH.trans le1 le2))) (fun w F h => .inl rfl) h) ?_
  clear h
  rintro _ w ⟨q4, c4, rfl, h⟩
  rw [ek] at h ⊢
  have eo : (outS [5, 0, 0] 0 [10, 20, 30] [] 0).1 = [30, 10, 20] := rfl
  rw [eo] at h ⊢
  refine ⟨_, _, _, rfl, h.newR fun g5 w h => ?_⟩
  refine Rets.mono (uSame (xs := [30, 10, 20]) (q := q4) (q2 := some ⟨g5, 0, none⟩) (c := c4) (c2 := 3) h (fun w h => Own.rdP (T := 32) h (by repeat (first | with_reducible exact Pick.here | apply Pick.there))) (fun w h => h.blkRd) (by decide)) ?_
  clear h
  rintro _ w ⟨rfl, h⟩
  exact ⟨_, rfl, rfl, _, ((Own.sub (h) (by repeat (first | exact Sub.nil _ | exact Sub.rfl _ | (apply Sub.cons; focus ((repeat (first | with_reducible exact Pick.here | apply Pick.there)); done)) | apply Sub.drop))) : Own e w (imm hb0 :: F)).immLe (LeH.trans le1 le2)⟩
end
end Go.Proofs.YtajckpjlliiekaaDoor.Eng
