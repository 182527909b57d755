/- All of a tree, and what isn't below a key. -/
import Derived.Test.YtipcbhaeoeghnaaRkQ
import Derived.Test.YtipcbhaeoeghnaaRankTG
namespace Go.Proofs.Ytipcbhaeoeghnaa.Eng
open Go Go.RowKit Go.Proofs
set_option linter.unusedVariables false
set_option linter.unusedSimpArgs false
set_option maxRecDepth 1000000
set_option maxHeartbeats 1000000
theorem Own.head {e w : World} {A : HP} {F : List HP} (h : Own e w (A :: F)) : Own e w [A] := h.sub (Sub.cons Pick.here (Sub.nil _))
section
variable {e w : World} {F : List HP} {h0 : Nat → Option Obj} {t : Tr} {g : Nat} {pt : Option Addr}
theorem rkAll (h : Own e w (imm h0 :: F)) : Rets Try.prog 37 #[.pointer (some ⟨g, 0, none⟩)] w fun v w' => ∃ h1 b, v = .func (.func 87) #[] #[.pointer (some ⟨b, 0, none⟩)] ∧ LeH h0 h1 ∧ h1 b = some (.cells #[.pointer (some ⟨g, 0, none⟩)] 59 (0, 0)) ∧ Own e w' (imm h1 :: F) := by
  refine rank_Tree_int_int_All_go _ (h.newR fun b w h => ?_)
  obtain ⟨h1, le1, hg, h⟩ := Own.absorb h
  exact ⟨h1, b, rfl, le1, hg, h⟩
theorem rkFrom {fr : Int} (h : Own e w (imm h0 :: F)) : Rets Try.prog 38 #[.pointer (some ⟨g, 0, none⟩), .int .i64 fr] w fun v w' => ∃ h1 a b, v = .func (.func 90) #[] #[.pointer (some ⟨a, 0, none⟩), .pointer (some ⟨b, 0, none⟩)] ∧ LeH h0 h1 ∧ h1 a = some (.cells #[.pointer (some ⟨g, 0, none⟩)] 59 (0, 0)) ∧ h1 b = some (.cells #[.int .i64 fr] 3 (0, 0)) ∧ Own e w' (imm h1 :: F) := by
  refine rank_Tree_int_int_From_go _ _ (h.newR fun a w h => ?_)
  obtain ⟨h1, le1, hg, h⟩ := Own.absorb h
  refine h.newR fun b w h => ?_
  obtain ⟨h2, le2, hg2, h⟩ := Own.absorb h
  exact ⟨h2, a, b, rfl, LeH.trans le1 le2, le2 _ _ hg, hg2, h⟩
theorem wkMay_all {x : Int} (h : Own e w F) : Rets Try.prog 89 #[.int .i64 x] w fun v w' => v = .bool true ∧ Own e w' F := rank_Tree_int_int_All_1_1_go _ ⟨rfl, h⟩
theorem wkMay_from {a b : Nat} {fr x : Int} (hbt : h0 a = some (.cells #[.pointer (some ⟨g, 0, none⟩)] 59 (0, 0))) (hbk : h0 b = some (.cells #[.int .i64 fr] 3 (0, 0))) (ho : TrOrd h0 g pt) (h : Own e w (imm h0 :: F)) : Rets Try.prog 91 #[.int .i64 x, .pointer (some ⟨a, 0, none⟩), .pointer (some ⟨b, 0, none⟩)] w fun v w' => v = .bool (decide (fr ≤ x)) ∧ Own e w' (imm h0 :: F) := by
  refine rank_Tree_int_int_From_1_1_go _ _ _ (h.drw fun w h => ⟨_, h.immCell (vs := [.pointer (some ⟨g, 0, none⟩)]) hbt (i := 0) rfl, smR ⟨_, _, _, h.immCell (vs := [.func (.func 32) #[] #[], .pointer pt]) ho (i := 0) rfl, _, h.immCell (vs := [.int .i64 fr]) hbk (i := 0) rfl, callG.mk Try.func32 (by kernel_rfl) ?_⟩⟩)
  refine Rets.mono (rkOrder (x := x) (y := fr) h) ?_
  clear h
  rintro _ w ⟨rfl, h⟩
  refine ⟨_, rfl, ?_, h⟩
  congr 1
  rw [decide_eq_decide]
  have h1 := @ordI_lt x fr
  omega
theorem wk_all  {lp : Nat} {Fr : Nat → List HP} {Fin : World → Prop} {T : LE2} (hfin : ∀ w, Fin w → Own e w [imm h0])
    (hround : ∀ (i : Nat) w (hi : i < T.length), Own e w (imm h0 :: Fr i) → RoundR Try.prog lp #[.int .i64 T[i].1, .int .i64 T[i].2] w fun v w' => (v = .bool true ∧ Own e w' (imm h0 :: Fr (i + 1))) ∨ (v = .bool false ∧ Fin w')) :
    ∀ (t : Tr) (p : Option Addr) (w : World) (pre post : LE2), TrA h0 t p → Srt t.toL → T = pre ++ (t.toL.filter (fun _ => true) ++ post) → Own e w (imm h0 :: Fr pre.length) →
    Rets Try.prog 88 #[.pointer p, (.func (.func 89) #[] #[]), .func (.yield lp) #[] #[]] w fun v w' => (v = .bool true ∧ Own e w' (imm h0 :: Fr (pre.length + (t.toL.filter (fun _ => true)).length))) ∨ (v = .bool false ∧ Fin w')
  | .nil, p, w, pre, post, ht, hs, hT, h => by
    obtain rfl : p = none := ht
    exact walk_all_go _ _ ⟨fun _ => .inl ⟨rfl, h⟩, fun hc => (by cases hc)⟩
  | .node k v l r, p, w, pre, post, ht, hs, hT, h => by
    obtain ⟨gn, pl, pr, rfl, hg, hl, hr⟩ := ht
    obtain ⟨s1, s2, s3, s4⟩ := Srt.split hs
    have ef : (Tr.node k v l r).toL.filter (fun _ => true) = l.toL.filter (fun _ => true) ++ ((if (fun _ => true) (k, v) = true then [(k, v)] else []) ++ r.toL.filter (fun _ => true)) := by
      simp only [Tr.toL, List.filter_append, List.filter_cons]
      split <;> simp
    rw [ef] at hT ⊢
    refine walk_all_go _ _ ⟨fun hc => (by cases hc), fun _ => smR ⟨_, h.immCell hg (i := 0) rfl, ?_⟩⟩
    refine Rets.mono (wkMay_all (x := k) h) ?_
    clear h
    rintro _ w ⟨rfl, h⟩
    refine ⟨_, rfl, fun hm => ?_, fun hm => ?_⟩
    · simp at hm
    · have hm2 : (fun _ => true) (k, v) = true := rfl
      rw [if_pos hm2] at hT ⊢
      generalize hL : l.toL.filter (fun _ => true) = Lf at hT ⊢
      have ihl := wk_all hfin hround l pl
      rw [hL] at ihl
      refine h.drw fun w h => ⟨fun w => Own e w [imm h0], h.head, smR ⟨_, fun w h => h.immCell hg (i := 2) rfl, ?_⟩⟩
      refine Rets.mono (ihl w pre (([(k, v)] ++ r.toL.filter (fun _ => true)) ++ post) hl s1 (by rw [hT]; simp) h) ?_
      clear h
      rintro _ w (⟨rfl, h⟩ | ⟨rfl, hF⟩)
      · have hlt : pre.length + Lf.length < T.length := by rw [hT]; simp
        have hTe : T[pre.length + Lf.length] = (k, v) := by
          have e1 : T = (pre ++ Lf) ++ (k, v) :: (r.toL.filter (fun _ => true) ++ post) := by rw [hT]; simp
          simp [e1]
        have hR := hround _ w hlt h
        rw [hTe] at hR
        refine ⟨_, rfl, h.head, fun _ => smR (smR ⟨_, fun w h => h.immCell hg (i := 0) rfl, _, fun w h => h.immCell hg (i := 1) rfl, ?_⟩), fun hc => (by cases hc)⟩
        refine RoundR.mono hR ?_
        clear hR h
        rintro _ w (⟨rfl, h⟩ | ⟨rfl, hF⟩)
        · refine ⟨_, rfl, h.head, fun _ => smR ⟨_, fun w h => h.immCell hg (i := 3) rfl, ?_⟩, fun hc => (by cases hc)⟩
          have el : (pre ++ Lf ++ [(k, v)]).length = pre.length + Lf.length + 1 := by simp; omega
          rw [← el] at h
          refine Rets.mono (wk_all hfin hround r pr w (pre ++ Lf ++ [(k, v)]) post hr s2 (by rw [hT]; simp) h) ?_
          clear h
          rintro _ w (⟨rfl, h⟩ | ⟨rfl, hF⟩)
          · refine ⟨_, rfl, .inl ⟨rfl, ?_⟩⟩
            have el2 : pre.length + (Lf ++ ([(k, v)] ++ r.toL.filter (fun _ => true))).length = (pre ++ Lf ++ [(k, v)]).length + (r.toL.filter (fun _ => true)).length := by simp; omega
            rw [el2]; exact h
          · exact ⟨_, rfl, .inr ⟨rfl, hF⟩⟩
        · exact ⟨_, rfl, hfin w hF, fun hc => (by cases hc), fun _ => .inr ⟨rfl, hF⟩⟩
      · exact ⟨_, rfl, hfin w hF, fun hc => (by cases hc), fun _ => .inr ⟨rfl, hF⟩⟩
theorem told_all_spec {b : Nat} {most : Nat} (hS : Srt t.toL) (hz : t.size ≤ 700) (hmo : most ≤ 1000) (hbt : h0 b = some (.cells #[.pointer (some ⟨g, 0, none⟩)] 59 (0, 0))) (hT : TreeA h0 t g) (h : Own e w (imm h0 :: F)) :
    Rets Try.prog 36 #[.func (.func 87) #[] #[.pointer (some ⟨b, 0, none⟩)], .int .i64 (most : Int)] w (RL e F h0 ((t.toL.filter (fun _ => true)).take most)) := by
  obtain ⟨pt', ho, ht⟩ := hT
  have hsz := Tr.size_toL t
  obtain ⟨T, hTe⟩ : ∃ T, T = t.toL.filter (fun _ => true) := ⟨_, rfl⟩
  have hTl : T.length ≤ 700 := by have := List.length_filter_le (fun _ => true) t.toL; rw [hTe]; omega
  rw [← hTe]
  refine told_all_go _ _ (h.newR fun g1 w h => h.newR fun g2 w h => ⟨fun hc => (by cases hc), fun _ => ⟨_, rfl, h.loopR fun mk lp L w h hround => ?_⟩⟩)
  let Got : LE2 → HP := fun l => exH fun q' => exH fun c' => allH [blk g2 58 [.slice q' l.length c'], slO 64 2 q' l.length c' (E2 l)]
  have gotOp : ∀ {w} {l : LE2} {R : List HP}, Own e w (Got l :: R) → ∃ q' c', Own e w (blk g2 58 [.slice q' l.length c'] :: slO 64 2 q' l.length c' (E2 l) :: R) := fun h => by
    obtain ⟨q', h⟩ := h.ex
    obtain ⟨c', h⟩ := h.ex
    exact ⟨q', c', h.open_⟩
  have gotCl : ∀ {w} {l : LE2} {R : List HP} {q' c'}, Own e w (blk g2 58 [.slice q' l.length c'] :: slO 64 2 q' l.length c' (E2 l) :: R) → Own e w (Got l :: R) := fun {w} {l} {R} {q'} {c'} h => by
    have h : Own e w ([blk g2 58 [.slice q' l.length c'], slO 64 2 q' l.length c' (E2 l)] ++ R) := h
    exact Own.mkEx q' (Own.mkEx c' h.close_)
  let Fr : Nat → List HP := fun i => puH (i ≤ most) (Got (T.take i)) :: pt lp (LoopObj L .ready none) :: pt mk (.deferred (some [])) :: blk g1 3 [.int .i64 (most : Int)] :: F
  let Fin : World → Prop := fun w => Own e w (imm h0 :: Got (T.take most) :: pt lp (LoopObj L .done (some (.exit 0))) :: pt mk (.deferred (some [])) :: F)
  have h := Own.slNil (T := 64) (s := 2) h
  have h : Own e w (blk g2 58 [.slice none 0 0] :: slO 64 2 none 0 0 [] :: _) := (Own.pk2 h (by repeat (first | with_reducible exact Pick.here | apply Pick.there)) (by repeat (first | with_reducible exact Pick.here | apply Pick.there)))
  have h : Own e w (Got (T.take 0) :: _) := gotCl (l := []) h
  have h : Own e w (puH (0 ≤ most) (Got (T.take 0)) :: _) := Own.mkPu (by omega) h
  have h : Own e w (imm h0 :: Fr 0) := (Own.sub (h) (by repeat (first | with_reducible exact Sub.nil _ | with_reducible exact Sub.rfl _ | (apply Sub.cons; focus ((repeat (first | with_reducible exact Pick.here | apply Pick.there)); done)) | apply Sub.drop)))
  have hr2 : ∀ (i : Nat) w (hi : i < T.length), Own e w (imm h0 :: Fr i) → RoundR Try.prog lp #[.int .i64 T[i].1, .int .i64 T[i].2] w fun v w' => (v = .bool true ∧ Own e w' (imm h0 :: Fr (i + 1))) ∨ (v = .bool false ∧ Fin w') := fun i w hi h => by
    have h : Own e w (imm h0 :: puH (i ≤ most) (Got (T.take i)) :: pt lp (LoopObj L .ready none) :: pt mk (.deferred (some [])) :: blk g1 3 [.int .i64 (most : Int)] :: F) := h
    refine hround _ _ w _ (Own.recR (l := lp) (L := L) (Own.pk h (by repeat (first | with_reducible exact Pick.here | apply Pick.there)))) ?_
    refine Own.begR (l := lp) (L := L) (Own.pk h (by repeat (first | with_reducible exact Pick.here | apply Pick.there))) fun w h => ?_
    have h : Own e w (puH (i ≤ most) (Got (T.take i)) :: pt lp (LoopObj L .busy none) :: imm h0 :: pt mk (.deferred (some [])) :: blk g1 3 [.int .i64 (most : Int)] :: F) := (Own.sub (h) (by repeat (first | with_reducible exact Sub.nil _ | with_reducible exact Sub.rfl _ | (apply Sub.cons; focus ((repeat (first | with_reducible exact Pick.here | apply Pick.there)); done)) | apply Sub.drop)))
    obtain ⟨him, h⟩ := h.pu
    obtain ⟨q', c', h⟩ := gotOp h
    have hti : (T.take i).length = i := by simp; omega
    refine ⟨_, _, _, (Own.ld' h (by repeat (first | with_reducible exact Pick.here | apply Pick.there)) (by rfl)), _, (Own.ld' h (by repeat (first | with_reducible exact Pick.here | apply Pick.there)) (by rfl)), fun hx => ?_, fun hx => ?_⟩
    · have hx := dec_t hx
      obtain rfl : i = most := by omega
      refine Own.finF (l := lp) (L := L) (Own.pk h (by repeat (first | with_reducible exact Pick.here | apply Pick.there))) fun w h => .inr ⟨rfl, ?_⟩
      have h := gotCl (l := T.take i) (Own.pk2 h (by repeat (first | with_reducible exact Pick.here | apply Pick.there)) (by repeat (first | with_reducible exact Pick.here | apply Pick.there)))
      exact (Own.sub (h) (by repeat (first | with_reducible exact Sub.nil _ | with_reducible exact Sub.rfl _ | (apply Sub.cons; focus ((repeat (first | with_reducible exact Pick.here | apply Pick.there)); done)) | apply Sub.drop)))
    · have hx := dec_f hx
      refine ⟨_, _, _, (Own.ld' h (by repeat (first | with_reducible exact Pick.here | apply Pick.there)) (by rfl)), h.newR fun g3 w h => ?_⟩
      have h : Own e w (blk g3 64 [.int .i64 T[i].1, .int .i64 T[i].2] :: slO 64 2 q' (T.take i).length c' (E2 (T.take i)) :: _) := (Own.pk2 h (by repeat (first | with_reducible exact Pick.here | apply Pick.there)) (by repeat (first | with_reducible exact Pick.here | apply Pick.there)))
      refine appE (x := T[i]) (by omega) h fun q'' c'' w h => ⟨_, _, _, rfl, Own.stP' h (by repeat (first | with_reducible exact Pick.here | apply Pick.there)) (by simp) (by simp [Value.oneCell']) fun w h => ?_⟩
      simp only [setFrom, List.set_cons_zero, List.set_cons_succ, List.set_nil] at h
      refine Own.finT (l := lp) (L := L) (Own.pk h (by repeat (first | with_reducible exact Pick.here | apply Pick.there))) fun w h => .inl ⟨rfl, ?_⟩
      have e1 : T.take (i + 1) = T.take i ++ [T[i]] := List.take_succ_eq_append_getElem hi
      rw [← e1] at h
      have h := gotCl (l := T.take (i + 1)) (Own.pk2 h (by repeat (first | with_reducible exact Pick.here | apply Pick.there)) (by repeat (first | with_reducible exact Pick.here | apply Pick.there)))
      have h : Own e w (puH (i + 1 ≤ most) (Got (T.take (i + 1))) :: _) := Own.mkPu (by omega) h
      have h : Own e w (imm h0 :: puH (i + 1 ≤ most) (Got (T.take (i + 1))) :: pt lp (LoopObj L .ready none) :: pt mk (.deferred (some [])) :: blk g1 3 [.int .i64 (most : Int)] :: F) := (Own.sub (h) (by repeat (first | with_reducible exact Sub.nil _ | with_reducible exact Sub.rfl _ | (apply Sub.cons; focus ((repeat (first | with_reducible exact Pick.here | apply Pick.there)); done)) | apply Sub.drop)))
      exact h
  have done : ∀ {R : List HP} (w : World) (l : LE2), Own e w (Got l :: imm h0 :: pt mk (.deferred (some [])) :: F) → ∃ q4 k9 k10, cellAt w (⟨g2, 0, none⟩ : Addr) (.slice q4 k9 k10) ∧ MarkR mk w fun w13 => RL e F h0 l (.slice q4 k9 k10) w13 := fun w l h => by
    obtain ⟨q', c', h⟩ := gotOp h
    refine ⟨_, _, _, (Own.ld' h (by repeat (first | with_reducible exact Pick.here | apply Pick.there)) (by rfl)), Own.markR (g := mk) (Own.pk h (by repeat (first | with_reducible exact Pick.here | apply Pick.there))) fun w h => ?_⟩
    have h : Own e w (slO 64 2 q' l.length c' (E2 l) :: imm h0 :: F) := (Own.sub (h) (by repeat (first | with_reducible exact Sub.nil _ | with_reducible exact Sub.rfl _ | (apply Sub.cons; focus ((repeat (first | with_reducible exact Pick.here | apply Pick.there)); done)) | apply Sub.drop)))
    obtain ⟨h1, le1, hR, hnc, h⟩ := h.slImm
    exact ⟨h1, _, _, rfl, le1, hR, hnc, h⟩
  have hwk : Rets Try.prog 87 #[.func (.yield lp) #[] #[], .pointer (some ⟨b, 0, none⟩)] w fun v w' => Own e w' (imm h0 :: Fr T.length) ∨ Fin w' := by
    refine rank_Tree_int_int_All_1_go _ _ ⟨_, h.immCell (vs := [.pointer (some ⟨g, 0, none⟩)]) hbt (i := 0) rfl, fun _ => ⟨_, h.immCell (vs := [.pointer (some ⟨g, 0, none⟩)]) hbt (i := 0) rfl, smR ⟨_, h.immCell (vs := [.func (.func 32) #[] #[], .pointer pt']) ho (i := 1) rfl, ?_⟩⟩, fun hc => (by cases hc)⟩
    refine Rets.mono (wk_all (T := T) (Fr := Fr) (Fin := Fin) (fun w h => h.head) hr2 t pt' w [] [] ht hS (by rw [hTe]; simp) h) ?_
    rintro _ w (⟨rfl, h⟩ | ⟨rfl, h⟩)
    · refine ⟨_, rfl, .inl ?_⟩
      rw [← hTe] at h
      simpa using h
    · exact ⟨_, rfl, .inr h⟩
  refine Rets.mono hwk ?_
  clear h hr2 hwk
  rintro v w (h | h)
  · left
    have h : Own e w (imm h0 :: puH (T.length ≤ most) (Got (T.take T.length)) :: pt lp (LoopObj L .ready none) :: pt mk (.deferred (some [])) :: blk g1 3 [.int .i64 (most : Int)] :: F) := h
    refine Own.endR (l := lp) (L := L) (Own.pk h (by repeat (first | with_reducible exact Pick.here | apply Pick.there))) (by simp) fun w h => ?_
    have h : Own e w (puH (T.length ≤ most) (Got (T.take T.length)) :: imm h0 :: pt mk (.deferred (some [])) :: F) := (Own.sub (h) (by repeat (first | with_reducible exact Sub.nil _ | with_reducible exact Sub.rfl _ | (apply Sub.cons; focus ((repeat (first | with_reducible exact Pick.here | apply Pick.there)); done)) | apply Sub.drop)))
    obtain ⟨hle, h⟩ := h.pu
    rw [List.take_length] at h
    have et : T.take most = T := List.take_of_length_le hle
    rw [et]
    exact done (R := []) w T h
  · right
    have h : Own e w (imm h0 :: Got (T.take most) :: pt lp (LoopObj L .done (some (.exit 0))) :: pt mk (.deferred (some [])) :: F) := h
    refine Own.endR (l := lp) (L := L) (Own.pk h (by repeat (first | with_reducible exact Pick.here | apply Pick.there))) (by simp) fun w h => ?_
    have h : Own e w (Got (T.take most) :: imm h0 :: pt mk (.deferred (some [])) :: F) := (Own.sub (h) (by repeat (first | with_reducible exact Sub.nil _ | with_reducible exact Sub.rfl _ | (apply Sub.cons; focus ((repeat (first | with_reducible exact Pick.here | apply Pick.there)); done)) | apply Sub.drop)))
    exact done (R := []) w _ h
theorem wk_from {a b : Nat} {fr : Int} {lp : Nat} {Fr : Nat → List HP} {Fin : World → Prop} {T : LE2} (hfin : ∀ w, Fin w → Own e w [imm h0])
    (hround : ∀ (i : Nat) w (hi : i < T.length), Own e w (imm h0 :: Fr i) → RoundR Try.prog lp #[.int .i64 T[i].1, .int .i64 T[i].2] w fun v w' => (v = .bool true ∧ Own e w' (imm h0 :: Fr (i + 1))) ∨ (v = .bool false ∧ Fin w')) (hbt : h0 a = some (.cells #[.pointer (some ⟨g, 0, none⟩)] 59 (0, 0))) (hbk : h0 b = some (.cells #[.int .i64 fr] 3 (0, 0))) (ho : TrOrd h0 g pt) :
    ∀ (t : Tr) (p : Option Addr) (w : World) (pre post : LE2), TrA h0 t p → Srt t.toL → T = pre ++ (t.toL.filter (fun x => decide (fr ≤ x.1)) ++ post) → Own e w (imm h0 :: Fr pre.length) →
    Rets Try.prog 88 #[.pointer p, (.func (.func 91) #[] #[.pointer (some ⟨a, 0, none⟩), .pointer (some ⟨b, 0, none⟩)]), .func (.yield lp) #[] #[]] w fun v w' => (v = .bool true ∧ Own e w' (imm h0 :: Fr (pre.length + (t.toL.filter (fun x => decide (fr ≤ x.1))).length))) ∨ (v = .bool false ∧ Fin w')
  | .nil, p, w, pre, post, ht, hs, hT, h => by
    obtain rfl : p = none := ht
    exact walk_from_go _ _ _ _ ⟨fun _ => .inl ⟨rfl, h⟩, fun hc => (by cases hc)⟩
  | .node k v l r, p, w, pre, post, ht, hs, hT, h => by
    obtain ⟨gn, pl, pr, rfl, hg, hl, hr⟩ := ht
    obtain ⟨s1, s2, s3, s4⟩ := Srt.split hs
    have ef : (Tr.node k v l r).toL.filter (fun x => decide (fr ≤ x.1)) = l.toL.filter (fun x => decide (fr ≤ x.1)) ++ ((if (fun x => decide (fr ≤ x.1)) (k, v) = true then [(k, v)] else []) ++ r.toL.filter (fun x => decide (fr ≤ x.1))) := by
      simp only [Tr.toL, List.filter_append, List.filter_cons]
      split <;> simp
    rw [ef] at hT ⊢
    refine walk_from_go _ _ _ _ ⟨fun hc => (by cases hc), fun _ => smR ⟨_, h.immCell hg (i := 0) rfl, ?_⟩⟩
    refine Rets.mono (wkMay_from (x := k) hbt hbk ho h) ?_
    clear h
    rintro _ w ⟨rfl, h⟩
    refine ⟨_, rfl, fun hm => ?_, fun hm => ?_⟩
    · have hm2 : k < fr := by simpa using hm
      have hm3 : ¬ (decide (fr ≤ (k, v).1) = true) := by simp; omega
      have e2 : l.toL.filter (fun x => decide (fr ≤ x.1)) = [] := fl_no fun x hx => by have := s3 x hx; simp; omega
      rw [if_neg hm3, e2] at hT ⊢
      refine smR ⟨_, h.immCell hg (i := 3) rfl, ?_⟩
      refine Rets.mono (wk_from hfin hround hbt hbk ho r pr w pre post hr s2 (by rw [hT]; simp) h) ?_
      clear h
      rintro _ w (⟨rfl, h⟩ | ⟨rfl, hF⟩)
      · exact ⟨_, rfl, .inl ⟨rfl, by simpa using h⟩⟩
      · exact ⟨_, rfl, .inr ⟨rfl, hF⟩⟩
    · have hm2 : (fun x => decide (fr ≤ x.1)) (k, v) = true := by simpa using hm
      rw [if_pos hm2] at hT ⊢
      generalize hL : l.toL.filter (fun x => decide (fr ≤ x.1)) = Lf at hT ⊢
      have ihl := wk_from hfin hround hbt hbk ho l pl
      rw [hL] at ihl
      refine h.drw fun w h => ⟨fun w => Own e w [imm h0], h.head, smR ⟨_, fun w h => h.immCell hg (i := 2) rfl, ?_⟩⟩
      refine Rets.mono (ihl w pre (([(k, v)] ++ r.toL.filter (fun x => decide (fr ≤ x.1))) ++ post) hl s1 (by rw [hT]; simp) h) ?_
      clear h
      rintro _ w (⟨rfl, h⟩ | ⟨rfl, hF⟩)
      · have hlt : pre.length + Lf.length < T.length := by rw [hT]; simp
        have hTe : T[pre.length + Lf.length] = (k, v) := by
          have e1 : T = (pre ++ Lf) ++ (k, v) :: (r.toL.filter (fun x => decide (fr ≤ x.1)) ++ post) := by rw [hT]; simp
          simp [e1]
        have hR := hround _ w hlt h
        rw [hTe] at hR
        refine ⟨_, rfl, h.head, fun _ => smR (smR ⟨_, fun w h => h.immCell hg (i := 0) rfl, _, fun w h => h.immCell hg (i := 1) rfl, ?_⟩), fun hc => (by cases hc)⟩
        refine RoundR.mono hR ?_
        clear hR h
        rintro _ w (⟨rfl, h⟩ | ⟨rfl, hF⟩)
        · refine ⟨_, rfl, h.head, fun _ => smR ⟨_, fun w h => h.immCell hg (i := 3) rfl, ?_⟩, fun hc => (by cases hc)⟩
          have el : (pre ++ Lf ++ [(k, v)]).length = pre.length + Lf.length + 1 := by simp; omega
          rw [← el] at h
          refine Rets.mono (wk_from hfin hround hbt hbk ho r pr w (pre ++ Lf ++ [(k, v)]) post hr s2 (by rw [hT]; simp) h) ?_
          clear h
          rintro _ w (⟨rfl, h⟩ | ⟨rfl, hF⟩)
          · refine ⟨_, rfl, .inl ⟨rfl, ?_⟩⟩
            have el2 : pre.length + (Lf ++ ([(k, v)] ++ r.toL.filter (fun x => decide (fr ≤ x.1)))).length = (pre ++ Lf ++ [(k, v)]).length + (r.toL.filter (fun x => decide (fr ≤ x.1))).length := by simp; omega
            rw [el2]; exact h
          · exact ⟨_, rfl, .inr ⟨rfl, hF⟩⟩
        · exact ⟨_, rfl, hfin w hF, fun hc => (by cases hc), fun _ => .inr ⟨rfl, hF⟩⟩
      · exact ⟨_, rfl, hfin w hF, fun hc => (by cases hc), fun _ => .inr ⟨rfl, hF⟩⟩
theorem told_from_spec {a b : Nat} {fr : Int} {most : Nat} (hS : Srt t.toL) (hz : t.size ≤ 700) (hmo : most ≤ 1000) (hbt : h0 a = some (.cells #[.pointer (some ⟨g, 0, none⟩)] 59 (0, 0))) (hbk : h0 b = some (.cells #[.int .i64 fr] 3 (0, 0))) (hT : TreeA h0 t g) (h : Own e w (imm h0 :: F)) :
    Rets Try.prog 36 #[.func (.func 90) #[] #[.pointer (some ⟨a, 0, none⟩), .pointer (some ⟨b, 0, none⟩)], .int .i64 (most : Int)] w (RL e F h0 ((t.toL.filter (fun x => decide (fr ≤ x.1))).take most)) := by
  obtain ⟨pt', ho, ht⟩ := hT
  have hsz := Tr.size_toL t
  obtain ⟨T, hTe⟩ : ∃ T, T = t.toL.filter (fun x => decide (fr ≤ x.1)) := ⟨_, rfl⟩
  have hTl : T.length ≤ 700 := by have := List.length_filter_le (fun x => decide (fr ≤ x.1)) t.toL; rw [hTe]; omega
  rw [← hTe]
  refine told_from_go _ _ _ (h.newR fun g1 w h => h.newR fun g2 w h => ⟨fun hc => (by cases hc), fun _ => ⟨_, _, rfl, h.loopR fun mk lp L w h hround => ?_⟩⟩)
  let Got : LE2 → HP := fun l => exH fun q' => exH fun c' => allH [blk g2 58 [.slice q' l.length c'], slO 64 2 q' l.length c' (E2 l)]
  have gotOp : ∀ {w} {l : LE2} {R : List HP}, Own e w (Got l :: R) → ∃ q' c', Own e w (blk g2 58 [.slice q' l.length c'] :: slO 64 2 q' l.length c' (E2 l) :: R) := fun h => by
    obtain ⟨q', h⟩ := h.ex
    obtain ⟨c', h⟩ := h.ex
    exact ⟨q', c', h.open_⟩
  have gotCl : ∀ {w} {l : LE2} {R : List HP} {q' c'}, Own e w (blk g2 58 [.slice q' l.length c'] :: slO 64 2 q' l.length c' (E2 l) :: R) → Own e w (Got l :: R) := fun {w} {l} {R} {q'} {c'} h => by
    have h : Own e w ([blk g2 58 [.slice q' l.length c'], slO 64 2 q' l.length c' (E2 l)] ++ R) := h
    exact Own.mkEx q' (Own.mkEx c' h.close_)
  let Fr : Nat → List HP := fun i => puH (i ≤ most) (Got (T.take i)) :: pt lp (LoopObj L .ready none) :: pt mk (.deferred (some [])) :: blk g1 3 [.int .i64 (most : Int)] :: F
  let Fin : World → Prop := fun w => Own e w (imm h0 :: Got (T.take most) :: pt lp (LoopObj L .done (some (.exit 0))) :: pt mk (.deferred (some [])) :: F)
  have h := Own.slNil (T := 64) (s := 2) h
  have h : Own e w (blk g2 58 [.slice none 0 0] :: slO 64 2 none 0 0 [] :: _) := (Own.pk2 h (by repeat (first | with_reducible exact Pick.here | apply Pick.there)) (by repeat (first | with_reducible exact Pick.here | apply Pick.there)))
  have h : Own e w (Got (T.take 0) :: _) := gotCl (l := []) h
  have h : Own e w (puH (0 ≤ most) (Got (T.take 0)) :: _) := Own.mkPu (by omega) h
  have h : Own e w (imm h0 :: Fr 0) := (Own.sub (h) (by repeat (first | with_reducible exact Sub.nil _ | with_reducible exact Sub.rfl _ | (apply Sub.cons; focus ((repeat (first | with_reducible exact Pick.here | apply Pick.there)); done)) | apply Sub.drop)))
  have hr2 : ∀ (i : Nat) w (hi : i < T.length), Own e w (imm h0 :: Fr i) → RoundR Try.prog lp #[.int .i64 T[i].1, .int .i64 T[i].2] w fun v w' => (v = .bool true ∧ Own e w' (imm h0 :: Fr (i + 1))) ∨ (v = .bool false ∧ Fin w') := fun i w hi h => by
    have h : Own e w (imm h0 :: puH (i ≤ most) (Got (T.take i)) :: pt lp (LoopObj L .ready none) :: pt mk (.deferred (some [])) :: blk g1 3 [.int .i64 (most : Int)] :: F) := h
    refine hround _ _ w _ (Own.recR (l := lp) (L := L) (Own.pk h (by repeat (first | with_reducible exact Pick.here | apply Pick.there)))) ?_
    refine Own.begR (l := lp) (L := L) (Own.pk h (by repeat (first | with_reducible exact Pick.here | apply Pick.there))) fun w h => ?_
    have h : Own e w (puH (i ≤ most) (Got (T.take i)) :: pt lp (LoopObj L .busy none) :: imm h0 :: pt mk (.deferred (some [])) :: blk g1 3 [.int .i64 (most : Int)] :: F) := (Own.sub (h) (by repeat (first | with_reducible exact Sub.nil _ | with_reducible exact Sub.rfl _ | (apply Sub.cons; focus ((repeat (first | with_reducible exact Pick.here | apply Pick.there)); done)) | apply Sub.drop)))
    obtain ⟨him, h⟩ := h.pu
    obtain ⟨q', c', h⟩ := gotOp h
    have hti : (T.take i).length = i := by simp; omega
    refine ⟨_, _, _, (Own.ld' h (by repeat (first | with_reducible exact Pick.here | apply Pick.there)) (by rfl)), _, (Own.ld' h (by repeat (first | with_reducible exact Pick.here | apply Pick.there)) (by rfl)), fun hx => ?_, fun hx => ?_⟩
    · have hx := dec_t hx
      obtain rfl : i = most := by omega
      refine Own.finF (l := lp) (L := L) (Own.pk h (by repeat (first | with_reducible exact Pick.here | apply Pick.there))) fun w h => .inr ⟨rfl, ?_⟩
      have h := gotCl (l := T.take i) (Own.pk2 h (by repeat (first | with_reducible exact Pick.here | apply Pick.there)) (by repeat (first | with_reducible exact Pick.here | apply Pick.there)))
      exact (Own.sub (h) (by repeat (first | with_reducible exact Sub.nil _ | with_reducible exact Sub.rfl _ | (apply Sub.cons; focus ((repeat (first | with_reducible exact Pick.here | apply Pick.there)); done)) | apply Sub.drop)))
    · have hx := dec_f hx
      refine ⟨_, _, _, (Own.ld' h (by repeat (first | with_reducible exact Pick.here | apply Pick.there)) (by rfl)), h.newR fun g3 w h => ?_⟩
      have h : Own e w (blk g3 64 [.int .i64 T[i].1, .int .i64 T[i].2] :: slO 64 2 q' (T.take i).length c' (E2 (T.take i)) :: _) := (Own.pk2 h (by repeat (first | with_reducible exact Pick.here | apply Pick.there)) (by repeat (first | with_reducible exact Pick.here | apply Pick.there)))
      refine appE (x := T[i]) (by omega) h fun q'' c'' w h => ⟨_, _, _, rfl, Own.stP' h (by repeat (first | with_reducible exact Pick.here | apply Pick.there)) (by simp) (by simp [Value.oneCell']) fun w h => ?_⟩
      simp only [setFrom, List.set_cons_zero, List.set_cons_succ, List.set_nil] at h
      refine Own.finT (l := lp) (L := L) (Own.pk h (by repeat (first | with_reducible exact Pick.here | apply Pick.there))) fun w h => .inl ⟨rfl, ?_⟩
      have e1 : T.take (i + 1) = T.take i ++ [T[i]] := List.take_succ_eq_append_getElem hi
      rw [← e1] at h
      have h := gotCl (l := T.take (i + 1)) (Own.pk2 h (by repeat (first | with_reducible exact Pick.here | apply Pick.there)) (by repeat (first | with_reducible exact Pick.here | apply Pick.there)))
      have h : Own e w (puH (i + 1 ≤ most) (Got (T.take (i + 1))) :: _) := Own.mkPu (by omega) h
      have h : Own e w (imm h0 :: puH (i + 1 ≤ most) (Got (T.take (i + 1))) :: pt lp (LoopObj L .ready none) :: pt mk (.deferred (some [])) :: blk g1 3 [.int .i64 (most : Int)] :: F) := (Own.sub (h) (by repeat (first | with_reducible exact Sub.nil _ | with_reducible exact Sub.rfl _ | (apply Sub.cons; focus ((repeat (first | with_reducible exact Pick.here | apply Pick.there)); done)) | apply Sub.drop)))
      exact h
  have done : ∀ {R : List HP} (w : World) (l : LE2), Own e w (Got l :: imm h0 :: pt mk (.deferred (some [])) :: F) → ∃ q4 k9 k10, cellAt w (⟨g2, 0, none⟩ : Addr) (.slice q4 k9 k10) ∧ MarkR mk w fun w13 => RL e F h0 l (.slice q4 k9 k10) w13 := fun w l h => by
    obtain ⟨q', c', h⟩ := gotOp h
    refine ⟨_, _, _, (Own.ld' h (by repeat (first | with_reducible exact Pick.here | apply Pick.there)) (by rfl)), Own.markR (g := mk) (Own.pk h (by repeat (first | with_reducible exact Pick.here | apply Pick.there))) fun w h => ?_⟩
    have h : Own e w (slO 64 2 q' l.length c' (E2 l) :: imm h0 :: F) := (Own.sub (h) (by repeat (first | with_reducible exact Sub.nil _ | with_reducible exact Sub.rfl _ | (apply Sub.cons; focus ((repeat (first | with_reducible exact Pick.here | apply Pick.there)); done)) | apply Sub.drop)))
    obtain ⟨h1, le1, hR, hnc, h⟩ := h.slImm
    exact ⟨h1, _, _, rfl, le1, hR, hnc, h⟩
  have hwk : Rets Try.prog 90 #[.func (.yield lp) #[] #[], .pointer (some ⟨a, 0, none⟩), .pointer (some ⟨b, 0, none⟩)] w fun v w' => Own e w' (imm h0 :: Fr T.length) ∨ Fin w' := by
    refine rank_Tree_int_int_From_1_go _ _ _ ⟨_, h.immCell (vs := [.pointer (some ⟨g, 0, none⟩)]) hbt (i := 0) rfl, fun _ => ⟨_, h.immCell (vs := [.pointer (some ⟨g, 0, none⟩)]) hbt (i := 0) rfl, smR ⟨_, h.immCell (vs := [.func (.func 32) #[] #[], .pointer pt']) ho (i := 1) rfl, ?_⟩⟩, fun hc => (by cases hc)⟩
    refine Rets.mono (wk_from (T := T) (Fr := Fr) (Fin := Fin) (fun w h => h.head) hr2 hbt hbk ho t pt' w [] [] ht hS (by rw [hTe]; simp) h) ?_
    rintro _ w (⟨rfl, h⟩ | ⟨rfl, h⟩)
    · refine ⟨_, rfl, .inl ?_⟩
      rw [← hTe] at h
      simpa using h
    · exact ⟨_, rfl, .inr h⟩
  refine Rets.mono hwk ?_
  clear h hr2 hwk
  rintro v w (h | h)
  · left
    have h : Own e w (imm h0 :: puH (T.length ≤ most) (Got (T.take T.length)) :: pt lp (LoopObj L .ready none) :: pt mk (.deferred (some [])) :: blk g1 3 [.int .i64 (most : Int)] :: F) := h
    refine Own.endR (l := lp) (L := L) (Own.pk h (by repeat (first | with_reducible exact Pick.here | apply Pick.there))) (by simp) fun w h => ?_
    have h : Own e w (puH (T.length ≤ most) (Got (T.take T.length)) :: imm h0 :: pt mk (.deferred (some [])) :: F) := (Own.sub (h) (by repeat (first | with_reducible exact Sub.nil _ | with_reducible exact Sub.rfl _ | (apply Sub.cons; focus ((repeat (first | with_reducible exact Pick.here | apply Pick.there)); done)) | apply Sub.drop)))
    obtain ⟨hle, h⟩ := h.pu
    rw [List.take_length] at h
    have et : T.take most = T := List.take_of_length_le hle
    rw [et]
    exact done (R := []) w T h
  · right
    have h : Own e w (imm h0 :: Got (T.take most) :: pt lp (LoopObj L .done (some (.exit 0))) :: pt mk (.deferred (some [])) :: F) := h
    refine Own.endR (l := lp) (L := L) (Own.pk h (by repeat (first | with_reducible exact Pick.here | apply Pick.there))) (by simp) fun w h => ?_
    have h : Own e w (Got (T.take most) :: imm h0 :: pt mk (.deferred (some [])) :: F) := (Own.sub (h) (by repeat (first | with_reducible exact Sub.nil _ | with_reducible exact Sub.rfl _ | (apply Sub.cons; focus ((repeat (first | with_reducible exact Pick.here | apply Pick.there)); done)) | apply Sub.drop)))
    exact done (R := []) w _ h
theorem rlSame {q1 q2 : Option Addr} {c1 c2 : Nat} {L : LE2} (hI1 : ImR h0 q1 (E2 L)) (hI2 : ImR h0 q2 (E2 L)) (hl : L.length ≤ 700) (h : Own e w (imm h0 :: F)) : Rets Try.prog 35 #[.slice q1 L.length c1, .slice q2 L.length c2] w fun v w' => v = .bool true ∧ Own e w' (imm h0 :: F) := by
  refine cortadoref08_Same_go _ _ _ _ _ _ ⟨fun hc => absurd hc (by simp), fun _ => ⟨fun m vs w => ∃ (i : Nat), vs = [.int .i64 (i : Int)] ∧ m + i = L.length ∧ Own e w (imm h0 :: F), ⟨L.length, 0, rfl, rfl, h⟩, ?_⟩⟩
  clear h
  intro m w
  intros
  rename_i hI
  obtain ⟨i, hvs, hm, h⟩ := hI
  simp at hvs
  subst hvs
  refine ⟨fun hc => ?_, fun hc => ⟨rfl, h⟩⟩
  have hc := dec_t hc
  have hi : i < L.length := by omega
  obtain ⟨ad1, rfl, rd1⟩ := hI1.adr hi h
  obtain ⟨ad2, rfl, rd2⟩ := hI2.adr hi h
  refine h.drw fun w h => ⟨by omega, by omega, smR ⟨by omega, by omega, smR ⟨_, _, rd1 _ _ _ h, _, _, rd2 _ _ _ h, fun hc => absurd hc (by simp), fun _ => ⟨m - 1, by omega, i + 1, by rw [wI64 (by omega) (by omega)]; rfl, by omega, h⟩⟩⟩⟩
end
end Go.Proofs.Ytipcbhaeoeghnaa.Eng
