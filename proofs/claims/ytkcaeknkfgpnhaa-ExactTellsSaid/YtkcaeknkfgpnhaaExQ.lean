/- Exact: ageing. -/
import Derived.Test.YtkcaeknkfgpnhaaExP
import Derived.Test.YtkcaeknkfgpnhaaExcG
import Derived.Test.YtkcaeknkfgpnhaaEngA
namespace Go.Proofs.Ytkcaeknkfgpnhaa.Eng
open Go Go.RowKit Go.Proofs
set_option linter.unusedVariables false
set_option linter.unusedSimpArgs false
set_option maxRecDepth 1000000
set_option maxHeartbeats 1000000
theorem imm0 {e w : World} {F : List HP} (h : Own e w F) : Own e w (imm (fun _ => none) :: F) := by
  have h : Own e w (allH [] :: F) := Own.close_ (l := []) h
  exact h.mono fun k hk b o hb => (by cases hb)
theorem immJoin {e w : World} {F : List HP} {h0 h1 : Nat → Option Obj} (h : Own e w (imm h0 :: imm h1 :: F)) : ∃ h2, LeH h0 h2 ∧ LeH h1 h2 ∧ Own e w (imm h2 :: F) := by
  obtain ⟨he, k, hk, k1, k2, ha, rfl, hA, k3, k4, ha2, rfl, hB, hF⟩ := h
  have a13 : Apart k1 k3 := fun b => (ha b).imp id fun h => (joinH_none_iff h).1
  refine ⟨fun b => joinH k1 k3 b, fun b o hb => joinH_left (hA b o hb), fun b o hb => joinH_right a13 (hB b o hb), he, joinH k1 (joinH k3 k4), hk, joinH k1 k3, k4, fun b => ?_, joinH_assoc _ _ _, fun b o hb => hb, hF⟩
  rcases ha b with h | h
  · rcases ha2 b with h' | h'
    · exact .inl (joinH_none h h')
    · exact .inr h'
  · exact .inr (joinH_none_iff h).2
theorem Own.head {e w : World} {A : HP} {F : List HP} (h : Own e w (A :: F)) : Own e w [A] := h.sub (Sub.cons Pick.here (Sub.nil _))
section
variable {e w : World} {F : List HP} {h0 : Nat → Option Obj} {t : Tr} {g : Nat} {pt : Option Addr}
theorem rkAll (h : Own e w (imm h0 :: F)) : Rets Try.prog 152 #[.pointer (some ⟨g, 0, none⟩)] w fun v w' => ∃ h1 b, v = .func (.func 168) #[] #[.pointer (some ⟨b, 0, none⟩)] ∧ LeH h0 h1 ∧ h1 b = some (.cells #[.pointer (some ⟨g, 0, none⟩)] 138 (0, 0)) ∧ Own e w' (imm h1 :: F) := by
  refine rank_Tree_int_int_All_go _ (h.newR fun b w h => ?_)
  obtain ⟨h1, le1, hg, h⟩ := Own.absorb h
  exact ⟨h1, b, rfl, le1, hg, h⟩
theorem wkMay_all {x : Int} (h : Own e w F) : Rets Try.prog 170 #[.int .u64 x] w fun v w' => v = .bool true ∧ Own e w' F := rank_Tree_int_int_All_1_1_go _ ⟨rfl, h⟩
theorem wk_all  {lp : Nat} {Fr : Nat → List HP} {Fin : World → Prop} {T : LE2} (hfin : ∀ w, Fin w → Own e w [imm h0])
    (hround : ∀ (i : Nat) w (hi : i < T.length), Own e w (imm h0 :: Fr i) → RoundR Try.prog lp #[.int .u64 T[i].1, vA T[i].2] w fun v w' => (v = .bool true ∧ Own e w' (imm h0 :: Fr (i + 1))) ∨ (v = .bool false ∧ Fin w')) :
    ∀ (t : Tr) (p : Option Addr) (w : World) (pre post : LE2), TrA h0 t p → Srt t.toL → T = pre ++ (t.toL.filter (fun _ => true) ++ post) → Own e w (imm h0 :: Fr pre.length) →
    Rets Try.prog 169 #[.pointer p, (.func (.func 170) #[] #[]), .func (.yield lp) #[] #[]] w fun v w' => (v = .bool true ∧ Own e w' (imm h0 :: Fr (pre.length + (t.toL.filter (fun _ => true)).length))) ∨ (v = .bool false ∧ Fin w')
  | .nil, p, w, pre, post, ht, hs, hT, h => by
    obtain rfl : p = none := ht
    exact walk_all_go _ _ ⟨fun _ => .inl ⟨rfl, h⟩, fun hc => (by cases hc)⟩
  | .node k v l r, p, w, pre, post, ht, hs, hT, h => by
    obtain ⟨gn, pl, pr, rfl, hg, hl, hr⟩ := ht
    obtain ⟨s1, s2, s3, s4⟩ := Srt.split hs
    have ef : (Tr.node k v l r).toL.filter (fun _ => true) = l.toL.filter (fun _ => true) ++ ((if (fun _ => true) (k, v) = true then [(k, v)] else []) ++ r.toL.filter (fun _ => true)) := by
      simp only [Tr.toL, List.filter_append, List.filter_cons]
      split <;> simp
    rw [ef] at hT ⊢
    refine walk_all_go _ _ ⟨fun hc => (by cases hc), fun _ => smR ⟨_, h.immCell hg (i := 0) rfl, ?_⟩⟩
    refine Rets.mono (wkMay_all (x := k) h) ?_
    clear h
    rintro _ w ⟨rfl, h⟩
    refine ⟨_, rfl, fun hm => ?_, fun hm => ?_⟩
    · simp at hm
    · have hm2 : (fun _ => true) (k, v) = true := rfl
      rw [if_pos hm2] at hT ⊢
      generalize hL : l.toL.filter (fun _ => true) = Lf at hT ⊢
      have ihl := wk_all hfin hround l pl
      rw [hL] at ihl
      refine h.drw fun w h => ⟨fun w => Own e w [imm h0], h.head, smR ⟨_, fun w h => h.immCell hg (i := 3) rfl, ?_⟩⟩
      refine Rets.mono (ihl w pre (([(k, v)] ++ r.toL.filter (fun _ => true)) ++ post) hl s1 (by rw [hT]; simp) h) ?_
      clear h
      rintro _ w (⟨rfl, h⟩ | ⟨rfl, hF⟩)
      · have hlt : pre.length + Lf.length < T.length := by rw [hT]; simp
        have hTe : T[pre.length + Lf.length] = (k, v) := by
          have e1 : T = (pre ++ Lf) ++ (k, v) :: (r.toL.filter (fun _ => true) ++ post) := by rw [hT]; simp
          simp [e1]
        have hR := hround _ w hlt h
        rw [hTe] at hR
        refine ⟨_, rfl, h.head, fun _ => smR (smR ⟨_, fun w h => h.immCell hg (i := 0) rfl, _, _, ⟨fun w h => h.immCell hg (i := 1) rfl, fun w h => h.immCell hg (i := 2) rfl⟩, ?_⟩), fun hc => (by cases hc)⟩
        refine RoundR.mono hR ?_
        clear hR h
        rintro _ w (⟨rfl, h⟩ | ⟨rfl, hF⟩)
        · refine ⟨_, rfl, h.head, fun _ => smR ⟨_, fun w h => h.immCell hg (i := 4) rfl, ?_⟩, fun hc => (by cases hc)⟩
          have el : (pre ++ Lf ++ [(k, v)]).length = pre.length + Lf.length + 1 := by simp; omega
          rw [← el] at h
          refine Rets.mono (wk_all hfin hround r pr w (pre ++ Lf ++ [(k, v)]) post hr s2 (by rw [hT]; simp) h) ?_
          clear h
          rintro _ w (⟨rfl, h⟩ | ⟨rfl, hF⟩)
          · refine ⟨_, rfl, .inl ⟨rfl, ?_⟩⟩
            have el2 : pre.length + (Lf ++ ([(k, v)] ++ r.toL.filter (fun _ => true))).length = (pre ++ Lf ++ [(k, v)]).length + (r.toL.filter (fun _ => true)).length := by simp; omega
            rw [el2]; exact h
          · exact ⟨_, rfl, .inr ⟨rfl, hF⟩⟩
        · exact ⟨_, rfl, hfin w hF, fun hc => (by cases hc), fun _ => .inr ⟨rfl, hF⟩⟩
      · exact ⟨_, rfl, hfin w hF, fun hc => (by cases hc), fun _ => .inr ⟨rfl, hF⟩⟩
/-- An age gone: what is left of each. -/
def agT : LE2 → Tr → Tr
  | [], u => u
  | x :: l, u => agT l (if 0 < vN x.2 / 2 then tput x.1 (2 * (vN x.2 / 2)) u else u)
theorem agT_snoc (l : LE2) (x : Int × Int) : ∀ u, agT (l ++ [x]) u = if 0 < vN x.2 / 2 then tput x.1 (2 * (vN x.2 / 2)) (agT l u) else agT l u := by
  induction l with
  | nil => intro u; rfl
  | cons y l ih => intro u; exact ih _
theorem agT_size (l : LE2) : ∀ u, (agT l u).size ≤ u.size + l.length := by
  induction l with
  | nil => intro u; exact Nat.le_refl _
  | cons y l ih =>
    intro u
    have h1 := ih (if 0 < vN y.2 / 2 then tput y.1 (2 * (vN y.2 / 2)) u else u)
    have h2 := size_put y.1 (2 * (vN y.2 / 2)) u
    show (agT l _).size ≤ u.size + (y :: l).length
    rw [List.length_cons]
    split at h1 <;> rename_i hc
    · rw [if_pos hc]; omega
    · rw [if_neg hc]; omega
theorem exNone (h : Own e w (imm h0 :: F)) : Rets Try.prog 120 #[] w (RR e F h0 .nil) := by
  refine exact_none_go ?_
  refine Rets.mono (rkNew h) ?_
  rintro _ w ⟨h1, g, rfl, le1, t1, h⟩
  exact ⟨_, rfl, h1, g, rfl, le1, t1, h⟩
abbrev exB (g gt : Nat) (ct lim : Int) : HP := blk g 141 [.pointer (some ⟨gt, 0, none⟩), .int .i64 ct, .int .i64 lim]
/-- What an age leaves: a tree beside. -/
abbrev lefT (g1 : Nat) (u : Tr) : HP := exH fun (p : (Nat → Option Obj) × Nat) => puH (TreeA p.1 u p.2) (allH [blk g1 138 [.pointer (some ⟨p.2, 0, none⟩)], imm p.1])
theorem lefT.op {g1 : Nat} {u : Tr} (h : Own e w (lefT g1 u :: F)) : ∃ h1 gu, TreeA h1 u gu ∧ Own e w (blk g1 138 [.pointer (some ⟨gu, 0, none⟩)] :: imm h1 :: F) := by
  obtain ⟨⟨h1, gu⟩, h⟩ := h.ex
  obtain ⟨hT, h⟩ := h.pu
  exact ⟨h1, gu, hT, h.open_⟩
theorem lefT.cl {g1 gu : Nat} {u : Tr} {h1 : Nat → Option Obj} (hT : TreeA h1 u gu) (h : Own e w (blk g1 138 [.pointer (some ⟨gu, 0, none⟩)] :: imm h1 :: F)) : Own e w (lefT g1 u :: F) := by
  have h : Own e w ([blk g1 138 [.pointer (some ⟨gu, 0, none⟩)], imm h1] ++ F) := h
  exact Own.mkEx (P := fun (p : (Nat → Option Obj) × Nat) => puH (TreeA p.1 u p.2) (allH [blk g1 138 [.pointer (some ⟨p.2, 0, none⟩)], imm p.1])) (h1, gu) (Own.mkPu hT h.close_)
theorem vA2 (a : Int) : vA (2 * a) = .agg #[.bool false, .int .i64 a] := by
  have e1 : vB (2 * a) = false := by unfold vB; exact decide_eq_false (by omega)
  have e2 : vN (2 * a) = a := by unfold vN; omega
  unfold vA; rw [e1, e2]
theorem exAge {ct lim : Int} {gt : Nat} (hv : ∀ x ∈ t.toL, 0 ≤ vN x.2 ∧ vN x.2 ≤ 100) (hS : Srt t.toL) (hz : t.size ≤ 300) (hT : TreeA h0 t gt) (h : Own e w (imm h0 :: exB g gt ct lim :: F)) :
    Rets Try.prog 123 #[.pointer (some ⟨g, 0, none⟩)] w fun v w' => v = .tuple #[] ∧ ∃ h1 gu, LeH h0 h1 ∧ TreeA h1 (agT t.toL .nil) gu ∧ Own e w' (imm h1 :: exB g gu 0 lim :: F) := by
  have hsz := Tr.size_toL t
  refine exact_Exact_age_go _ ?_
  refine Rets.mono (exNone (imm0 h)) ?_
  clear h
  rintro _ w ⟨h1, gu, rfl, le1, hU, h⟩
  refine ⟨_, rfl, h.newR fun g1 w h => Own.stP' (g := g1) h (by repeat (first | with_reducible exact Pick.here | apply Pick.there)) (by simp) (by simp [Value.oneCell']) fun w h => ?_⟩
  simp only [setFrom, List.set_cons_zero, List.set_cons_succ, List.set_nil] at h
  have h : Own e w (lefT g1 .nil :: imm h0 :: exB g gt ct lim :: F) := lefT.cl hU h
  refine ⟨_, Own.ld (g := g) (k := 0) h (by repeat (first | with_reducible exact Pick.here | apply Pick.there)) rfl, ?_⟩
  have h : Own e w (imm h0 :: exB g gt ct lim :: lefT g1 .nil :: F) := (Own.sub (h) (by repeat (first | with_reducible exact Sub.nil _ | with_reducible exact Sub.rfl _ | (apply Sub.cons; focus ((repeat (first | with_reducible exact Pick.here | apply Pick.there)); done)) | apply Sub.drop)))
  refine Rets.mono (rkAll h) ?_
  clear h
  rintro _ w ⟨h2, b, rfl, le2, hb, h⟩
  have hT := hT.mono le2
  refine ⟨_, _, _, rfl, _, rfl, h.loopR fun mk lp LL w h hround => ?_⟩
  obtain ⟨pt', ho, ht⟩ := hT
  obtain ⟨T, hTe⟩ : ∃ T, T = t.toL := ⟨_, rfl⟩
  have hTl : T.length ≤ 300 := by rw [hTe]; omega
  have hTf : T = t.toL.filter (fun _ => true) := by rw [hTe]; exact (List.filter_eq_self.2 (fun _ _ => rfl)).symm
  let Fr : Nat → List HP := fun i => lefT g1 (agT (T.take i) .nil) :: pt lp (LoopObj LL .ready none) :: pt mk (.deferred (some [])) :: exB g gt ct lim :: F
  have h : Own e w (imm h2 :: lefT g1 .nil :: pt lp (LoopObj LL .ready none) :: pt mk (.deferred (some [])) :: exB g gt ct lim :: F) := (Own.sub (h) (by repeat (first | with_reducible exact Sub.nil _ | with_reducible exact Sub.rfl _ | (apply Sub.cons; focus ((repeat (first | with_reducible exact Pick.here | apply Pick.there)); done)) | apply Sub.drop)))
  have h : Own e w (imm h2 :: Fr 0) := h
  have hr2 : ∀ (i : Nat) w (hi : i < T.length), Own e w (imm h2 :: Fr i) → RoundR Try.prog lp #[.int .u64 T[i].1, vA T[i].2] w fun v w' => (v = .bool true ∧ Own e w' (imm h2 :: Fr (i + 1))) ∨ (v = .bool false ∧ False) := fun i w hi h => by
    have h : Own e w (imm h2 :: lefT g1 (agT (T.take i) .nil) :: pt lp (LoopObj LL .ready none) :: pt mk (.deferred (some [])) :: exB g gt ct lim :: F) := h
    have hvi := hv T[i] (by rw [← hTe]; exact List.getElem_mem hi)
    have hsi := agT_size (T.take i) .nil
    have hti : (T.take i).length = i := by simp; omega
    have e1 : agT (T.take (i + 1)) .nil = if 0 < vN T[i].2 / 2 then tput T[i].1 (2 * (vN T[i].2 / 2)) (agT (T.take i) .nil) else agT (T.take i) .nil := by
      rw [List.take_succ_eq_append_getElem hi, agT_snoc]
    obtain ⟨x, hx⟩ : ∃ x, x = T[i] := ⟨_, rfl⟩
    rw [← hx] at hvi e1 ⊢
    obtain ⟨u, hu⟩ : ∃ u, u = agT (T.take i) .nil := ⟨_, rfl⟩
    rw [← hu] at h hsi e1
    simp only [Tr.size] at hsi
    have en : IntKind.wrap .i64 (Int.tdiv (vN x.2) 2) = vN x.2 / 2 := by
      rw [Int.tdiv_eq_ediv_of_nonneg (by omega), wI64 (by omega) (by omega)]
    refine hround _ _ _ w _ (Own.recR (l := lp) (L := LL) (Own.pk h (by repeat (first | with_reducible exact Pick.here | apply Pick.there)))) ?_
    refine h.newR fun g3 w h => Own.stP' (g := g3) h (by repeat (first | with_reducible exact Pick.here | apply Pick.there)) (by simp) (by simp [Value.oneCell']) fun w h => ?_
    simp only [setFrom, List.set_cons_zero, List.set_cons_succ, List.set_nil] at h
    refine Own.begR (l := lp) (L := LL) (Own.pk h (by repeat (first | with_reducible exact Pick.here | apply Pick.there))) fun w h => ?_
    refine ⟨_, Own.ld (g := g3) (k := 1) h (by repeat (first | with_reducible exact Pick.here | apply Pick.there)) rfl, by omega, fun hc => ?_, fun hc => ?_⟩
    · have hc := dec_t hc
      rw [en] at hc
      rw [if_pos (by omega)] at e1
      have h : Own e w (lefT g1 u :: blk g3 143 [.bool (vB x.2), .int .i64 (vN x.2)] :: pt lp (LoopObj LL .busy none) :: imm h2 :: pt mk (.deferred (some [])) :: exB g gt ct lim :: F) := (Own.sub (h) (by repeat (first | with_reducible exact Sub.nil _ | with_reducible exact Sub.rfl _ | (apply Sub.cons; focus ((repeat (first | with_reducible exact Pick.here | apply Pick.there)); done)) | apply Sub.drop)))
      obtain ⟨h3, gu3, hU3, h⟩ := lefT.op h
      refine ⟨_, (Own.ld' h (by repeat (first | with_reducible exact Pick.here | apply Pick.there)) (by rfl)), _, Own.ld (g := g3) (k := 1) h (by repeat (first | with_reducible exact Pick.here | apply Pick.there)) rfl, by omega, ?_⟩
      rw [en, ← vA2]
      refine Rets.mono (rkPut (k := x.1) (v := 2 * (vN x.2 / 2)) hU3 (by omega) h.swap) ?_
      clear h
      rintro _ w ⟨h4, gu4, rfl, le4, hU4, h⟩
      refine ⟨_, rfl, Own.stP' (g := g1) h (by repeat (first | with_reducible exact Pick.here | apply Pick.there)) (by simp) (by simp [Value.oneCell']) fun w h => ?_⟩
      simp only [setFrom, List.set_cons_zero, List.set_cons_succ, List.set_nil] at h
      have h : Own e w (lefT g1 (tput x.1 (2 * (vN x.2 / 2)) u) :: _) := lefT.cl hU4 h
      refine Own.finT (l := lp) (L := LL) (Own.pk h (by repeat (first | with_reducible exact Pick.here | apply Pick.there))) fun w h => .inl ⟨rfl, ?_⟩
      have h : Own e w (imm h2 :: lefT g1 (agT (T.take (i + 1)) .nil) :: pt lp (LoopObj LL .ready none) :: pt mk (.deferred (some [])) :: exB g gt ct lim :: F) := by
        rw [e1]
        exact (Own.sub (h) (by repeat (first | exact Sub.nil _ | exact Sub.rfl _ | (apply Sub.cons; focus ((repeat (first | with_reducible exact Pick.here | apply Pick.there)); done)) | apply Sub.drop)))
      exact h
    · have hc := dec_f hc
      rw [en] at hc
      rw [if_neg (by omega)] at e1
      refine Own.finT (l := lp) (L := LL) (Own.pk h (by repeat (first | with_reducible exact Pick.here | apply Pick.there))) fun w h => .inl ⟨rfl, ?_⟩
      have h : Own e w (imm h2 :: lefT g1 (agT (T.take (i + 1)) .nil) :: pt lp (LoopObj LL .ready none) :: pt mk (.deferred (some [])) :: exB g gt ct lim :: F) := by
        rw [e1]
        exact (Own.sub (h) (by repeat (first | exact Sub.nil _ | exact Sub.rfl _ | (apply Sub.cons; focus ((repeat (first | with_reducible exact Pick.here | apply Pick.there)); done)) | apply Sub.drop)))
      exact h
  have hwk : Rets Try.prog 168 #[.func (.yield lp) #[] #[], .pointer (some ⟨b, 0, none⟩)] w fun v w' => Own e w' (imm h2 :: Fr T.length) := by
    refine rank_Tree_int_int_All_1_go _ _ ⟨_, h.immCell (vs := [.pointer (some ⟨gt, 0, none⟩)]) hb (i := 0) rfl, fun _ => ⟨_, h.immCell (vs := [.pointer (some ⟨gt, 0, none⟩)]) hb (i := 0) rfl, smR ⟨_, h.immCell (vs := [.func (.func 149) #[] #[], .pointer pt']) ho (i := 1) rfl, ?_⟩⟩, fun hc => (by cases hc)⟩
    refine Rets.mono (wk_all (T := T) (Fr := Fr) (Fin := fun _ => False) (fun w h => h.elim) hr2 t pt' w [] [] ht hS (by rw [hTf]; simp) h) ?_
    rintro _ w (⟨rfl, h⟩ | ⟨rfl, h⟩)
    · refine ⟨_, rfl, ?_⟩
      rw [← hTf] at h
      simpa using h
    · exact h.elim
  refine Rets.mono hwk ?_
  clear h hr2 hwk
  rintro v w h
  have h : Own e w (imm h2 :: lefT g1 (agT (T.take T.length) .nil) :: pt lp (LoopObj LL .ready none) :: pt mk (.deferred (some [])) :: exB g gt ct lim :: F) := h
  rw [List.take_length, hTe] at h
  refine Own.endR (l := lp) (L := LL) (Own.pk h (by repeat (first | with_reducible exact Pick.here | apply Pick.there))) (by simp) fun w h => ?_
  have h : Own e w (lefT g1 (agT t.toL .nil) :: imm h2 :: pt mk (.deferred (some [])) :: exB g gt ct lim :: F) := (Own.sub (h) (by repeat (first | with_reducible exact Sub.nil _ | with_reducible exact Sub.rfl _ | (apply Sub.cons; focus ((repeat (first | with_reducible exact Pick.here | apply Pick.there)); done)) | apply Sub.drop)))
  obtain ⟨h3, gu3, hU3, h⟩ := lefT.op h
  refine ⟨_, (Own.ld' h (by repeat (first | with_reducible exact Pick.here | apply Pick.there)) (by rfl)), Own.stP (g := g) (k := 0) h (by repeat (first | with_reducible exact Pick.here | apply Pick.there)) (by simp) (by simp [Value.oneCell']) fun w h => ?_⟩
  simp only [setFrom, List.set_cons_zero, List.set_cons_succ, List.set_nil] at h
  refine Own.stP (g := g) (k := 1) h (by repeat (first | with_reducible exact Pick.here | apply Pick.there)) (by simp) (by simp [Value.oneCell']) fun w h => ?_
  simp only [setFrom, List.set_cons_zero, List.set_cons_succ, List.set_nil] at h
  refine Own.markR (g := mk) (Own.pk h (by repeat (first | with_reducible exact Pick.here | apply Pick.there))) fun w h => ⟨rfl, ?_⟩
  have h : Own e w (imm h2 :: imm h3 :: exB g gu3 0 lim :: F) := (Own.sub (h) (by repeat (first | exact Sub.nil _ | exact Sub.rfl _ | (apply Sub.cons; focus ((repeat (first | with_reducible exact Pick.here | apply Pick.there)); done)) | apply Sub.drop)))
  obtain ⟨h4, le4, le5, h⟩ := immJoin h
  exact ⟨h4, gu3, LeH.trans le2 le4, hU3.mono le5, h⟩
end
end Go.Proofs.Ytkcaeknkfgpnhaa.Eng
