/- Rank at [uint64, int]: the walk. -/
import Derived.Test.YtajckpjlliiekaaLgP
import Derived.Test.YtajckpjlliiekaaLdcG
import Derived.Test.YtajckpjlliiekaaEngA
namespace Go.Proofs.Ytajckpjlliiekaa.Eng
open Go Go.RowKit Go.Proofs
set_option linter.unusedVariables false
set_option linter.unusedSimpArgs false
set_option maxRecDepth 1000000
set_option maxHeartbeats 1000000
theorem Own.head {e w : World} {A : HP} {F : List HP} (h : Own e w (A :: F)) : Own e w [A] := h.sub (Sub.cons Pick.here (Sub.nil _))
section
variable {e w : World} {F : List HP} {h0 : Nat → Option Obj} {t : Tr} {g : Nat} {pt : Option Addr}
theorem rkAll (h : Own e w (imm h0 :: F)) : Rets Try.prog 38 #[.pointer (some ⟨g, 0, none⟩)] w fun v w' => ∃ h1 b, v = .func (.func 47) #[] #[.pointer (some ⟨b, 0, none⟩)] ∧ LeH h0 h1 ∧ h1 b = some (.cells #[.pointer (some ⟨g, 0, none⟩)] 51 (0, 0)) ∧ Own e w' (imm h1 :: F) := by
  refine rank_Tree_int_int_All_go _ (h.newR fun b w h => ?_)
  obtain ⟨h1, le1, hg, h⟩ := Own.absorb h
  exact ⟨h1, b, rfl, le1, hg, h⟩
theorem wkMay_all {x : Int} (h : Own e w F) : Rets Try.prog 49 #[.int .u64 x] w fun v w' => v = .bool true ∧ Own e w' F := rank_Tree_int_int_All_1_1_go _ ⟨rfl, h⟩
theorem wk_all  {lp : Nat} {Fr : Nat → List HP} {Fin : World → Prop} {T : LE2} (hfin : ∀ w, Fin w → Own e w [imm h0])
    (hround : ∀ (i : Nat) w (hi : i < T.length), Own e w (imm h0 :: Fr i) → RoundR Try.prog lp #[.int .u64 T[i].1, .int .i64 T[i].2] w fun v w' => (v = .bool true ∧ Own e w' (imm h0 :: Fr (i + 1))) ∨ (v = .bool false ∧ Fin w')) :
    ∀ (t : Tr) (p : Option Addr) (w : World) (pre post : LE2), TrA h0 t p → Srt t.toL → T = pre ++ (t.toL.filter (fun _ => true) ++ post) → Own e w (imm h0 :: Fr pre.length) →
    Rets Try.prog 48 #[.pointer p, (.func (.func 49) #[] #[]), .func (.yield lp) #[] #[]] w fun v w' => (v = .bool true ∧ Own e w' (imm h0 :: Fr (pre.length + (t.toL.filter (fun _ => true)).length))) ∨ (v = .bool false ∧ Fin w')
  | .nil, p, w, pre, post, ht, hs, hT, h => by
    obtain rfl : p = none := ht
    exact walk_all_go _ _ ⟨fun _ => .inl ⟨rfl, h⟩, fun hc => (by cases hc)⟩
  | .node k v l r, p, w, pre, post, ht, hs, hT, h => by
    obtain ⟨gn, pl, pr, rfl, hg, hl, hr⟩ := ht
    obtain ⟨s1, s2, s3, s4⟩ := Srt.split hs
    have ef : (Tr.node k v l r).toL.filter (fun _ => true) = l.toL.filter (fun _ => true) ++ ((if (fun _ => true) (k, v) = true then [(k, v)] else []) ++ r.toL.filter (fun _ => true)) := by
      simp only [Tr.toL, List.filter_append, List.filter_cons]
      split <;> simp
    rw [ef] at hT ⊢
    refine walk_all_go _ _ ⟨fun hc => (by cases hc), fun _ => smR ⟨_, h.immCell hg (i := 0) rfl, ?_⟩⟩
    refine Rets.mono (wkMay_all (x := k) h) ?_
    clear h
    rintro _ w ⟨rfl, h⟩
    refine ⟨_, rfl, fun hm => ?_, fun hm => ?_⟩
    · simp at hm
    · have hm2 : (fun _ => true) (k, v) = true := rfl
      rw [if_pos hm2] at hT ⊢
      generalize hL : l.toL.filter (fun _ => true) = Lf at hT ⊢
      have ihl := wk_all hfin hround l pl
      rw [hL] at ihl
      refine h.drw fun w h => ⟨fun w => Own e w [imm h0], h.head, smR ⟨_, fun w h => h.immCell hg (i := 2) rfl, ?_⟩⟩
      refine Rets.mono (ihl w pre (([(k, v)] ++ r.toL.filter (fun _ => true)) ++ post) hl s1 (by rw [hT]; simp) h) ?_
      clear h
      rintro _ w (⟨rfl, h⟩ | ⟨rfl, hF⟩)
      · have hlt : pre.length + Lf.length < T.length := by rw [hT]; simp
        have hTe : T[pre.length + Lf.length] = (k, v) := by
          have e1 : T = (pre ++ Lf) ++ (k, v) :: (r.toL.filter (fun _ => true) ++ post) := by rw [hT]; simp
          simp [e1]
        have hR := hround _ w hlt h
        rw [hTe] at hR
        refine ⟨_, rfl, h.head, fun _ => smR (smR ⟨_, fun w h => h.immCell hg (i := 0) rfl, _, fun w h => h.immCell hg (i := 1) rfl, ?_⟩), fun hc => (by cases hc)⟩
        refine RoundR.mono hR ?_
        clear hR h
        rintro _ w (⟨rfl, h⟩ | ⟨rfl, hF⟩)
        · refine ⟨_, rfl, h.head, fun _ => smR ⟨_, fun w h => h.immCell hg (i := 3) rfl, ?_⟩, fun hc => (by cases hc)⟩
          have el : (pre ++ Lf ++ [(k, v)]).length = pre.length + Lf.length + 1 := by simp; omega
          rw [← el] at h
          refine Rets.mono (wk_all hfin hround r pr w (pre ++ Lf ++ [(k, v)]) post hr s2 (by rw [hT]; simp) h) ?_
          clear h
          rintro _ w (⟨rfl, h⟩ | ⟨rfl, hF⟩)
          · refine ⟨_, rfl, .inl ⟨rfl, ?_⟩⟩
            have el2 : pre.length + (Lf ++ ([(k, v)] ++ r.toL.filter (fun _ => true))).length = (pre ++ Lf ++ [(k, v)]).length + (r.toL.filter (fun _ => true)).length := by simp; omega
            rw [el2]; exact h
          · exact ⟨_, rfl, .inr ⟨rfl, hF⟩⟩
        · exact ⟨_, rfl, hfin w hF, fun hc => (by cases hc), fun _ => .inr ⟨rfl, hF⟩⟩
      · exact ⟨_, rfl, hfin w hF, fun hc => (by cases hc), fun _ => .inr ⟨rfl, hF⟩⟩
end
end Go.Proofs.Ytajckpjlliiekaa.Eng
