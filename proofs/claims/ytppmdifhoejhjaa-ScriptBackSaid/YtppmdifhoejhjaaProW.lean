/- Calls read, and the document's programs. -/
import Derived.Test.YtppmdifhoejhjaaProT
import Derived.Test.YtppmdifhoejhjaaProV
import Derived.Test.YtppmdifhoejhjaaProHG
namespace Go.Proofs.Ytppmdifhoejhjaa.Eng
open Go Go.RowKit Go.Proofs
set_option linter.unusedVariables false
set_option linter.unusedSimpArgs false
set_option maxRecDepth 1000000
abbrev opsB (q : Option Addr) (n c : Nat) (l : List Op5) : HP := slO 50 5 q n c (l.flatMap encO)
theorem encO_one {x : Op5} : ∀ u ∈ encO x, u.oneCell' = true := fun u hu => by
  simp only [encO, List.mem_cons, List.not_mem_nil, or_false] at hu
  rcases hu with rfl | rfl | rfl | rfl | rfl <;> rfl
section
variable {e w : World} {F : List HP} {g at_ c : Nat} {q : Option Addr} {bs : List Int}
theorem putOp {k : Value → World → Prop} {g n c c2 : Nat} {q : Option Addr} {l : List Op5} {x : Op5} (h : Own e w (blk g 50 (encO x) :: opsB q n c l :: F)) (hn : n + 1 ≤ 1000000)
    (hk : ∀ q' c' w', Own e w' (opsB q' (n + 1) c' (l ++ [x]) :: F) → k (.slice q' (n + 1) c') w') :
    RunR Try.prog (builtinV .append #[30, 30] 30 #[.slice q n c, .slice (some ⟨g, 0, none⟩) 1 c2]) w k := by
  refine Own.append (z := encO (0, 0, 0, 0, 0)) (b := 40) (news := encO x) h.swap (by kernel_rfl) (by kernel_rfl) (by kernel_rfl) (by kernel_rfl) (by kernel_rfl) (by omega) h.blkRd rfl encO_one ?_ (by omega) ?_
  · unfold maxLen; omega
  · intro q' c' w' h _
    have e1 : l.flatMap encO ++ encO x = (l ++ [x]).flatMap encO := by simp
    rw [e1] at h
    exact hk q' c' w' h.swap.drop
theorem prCall (h : Own e w (tapeB 76 g q bs.length c at_ :: F)) (hrd : ∀ w a, Own e w (tapeB 76 g q bs.length c a :: F) → RdC w q (cs .u8 bs)) (hat : at_ ≤ bs.length) (hn : bs.length ≤ 1000000) (hb : ∀ x ∈ bs, 0 ≤ x ∧ x < 256) :
    Rets Try.prog 52 #[.pointer (some ⟨g, 0, none⟩)] w fun v w' => v = .agg (opV (rdCall bs at_).1).toArray ∧ Own e w' (tapeB 76 g q bs.length c (rdCall bs at_).2 :: F) := by
  refine prog_call_go _ ?_
  refine h.newR fun g1 w h => h.newR fun g2 w h => ⟨_, (Own.ld' h (by repeat (first | with_reducible exact Pick.here | apply Pick.there)) (by rfl)), ?_⟩
  have h : Own e w (tapeB 76 g q bs.length c at_ :: blk g2 50 _ :: blk g1 57 _ :: F) := (Own.sub (h) (by repeat (first | exact Sub.nil _ | exact Sub.rfl _ | (apply Sub.cons; focus ((repeat (first | with_reducible exact Pick.here | apply Pick.there)); done)) | apply Sub.drop)))
  refine Rets.mono (Byte_spec h (fun w a h => hrd w a (Own.sub (h) (by repeat (first | exact Sub.nil _ | exact Sub.rfl _ | (apply Sub.cons; focus ((repeat (first | with_reducible exact Pick.here | apply Pick.there)); done)) | apply Sub.drop)))) hat hn hb) ?_
  rintro _ w ⟨rfl, h⟩
  have hle := tbA_le hat
  have hrc : rdCall bs at_ = if knownB (tbV bs at_) = true then cSt (tbV bs at_) bs (tbA bs at_) (pls (tbV bs at_)).length else ([0, 0, 0, 0, 0], tbA bs at_) := rfl
  obtain ⟨k, hk⟩ : ∃ k, k = tbV bs at_ := ⟨_, rfl⟩
  obtain ⟨a1, ha1⟩ : ∃ a, a = tbA bs at_ := ⟨_, rfl⟩
  rw [← hk, ← ha1] at hrc
  rw [← ha1] at h hle
  rw [← hk]
  refine ⟨_, rfl, h.newR fun g3 w h => Own.stP' h (by repeat (first | with_reducible exact Pick.here | apply Pick.there)) (by simp) (by simp [Value.oneCell']) fun w h => ?_⟩
  simp only [setFrom, List.set_cons_zero, List.set_cons_succ, List.set_nil] at h
  refine ⟨_, (Own.ld h (by repeat (first | with_reducible exact Pick.here | apply Pick.there)) (by rfl)), ?_⟩
  refine Rets.mono (prKnown h) ?_
  rintro _ w ⟨rfl, h⟩
  refine ⟨_, rfl, fun hx => ?_, fun hx => ?_⟩
  · have hx : knownB k = false := by simpa using hx
    refine Own.stP' h (by repeat (first | with_reducible exact Pick.here | apply Pick.there)) (by simp) (by simp [Value.oneCell']) fun w h => ?_
    simp only [setFrom, List.set_cons_zero, List.set_cons_succ, List.set_nil] at h
    rw [hx, if_neg (by simp)] at hrc
    rw [hrc]
    refine ⟨_, _, _, _, _, ⟨(Own.ld h (by repeat (first | with_reducible exact Pick.here | apply Pick.there)) (by rfl)), (Own.ld h (by repeat (first | with_reducible exact Pick.here | apply Pick.there)) (by rfl)), (Own.ld h (by repeat (first | with_reducible exact Pick.here | apply Pick.there)) (by rfl)), (Own.ld h (by repeat (first | with_reducible exact Pick.here | apply Pick.there)) (by rfl)), (Own.ld h (by repeat (first | with_reducible exact Pick.here | apply Pick.there)) (by rfl))⟩, rfl, (Own.sub (h) (by repeat (first | exact Sub.nil _ | exact Sub.rfl _ | (apply Sub.cons; focus ((repeat (first | with_reducible exact Pick.here | apply Pick.there)); done)) | apply Sub.drop)))⟩
  have hx : knownB k = true := by simpa using hx
  rw [if_pos hx] at hrc
  refine Rets.mono (prOwn (g := g3) h) ?_
  rintro _ w ⟨b1, rfl, h⟩
  refine ⟨_, _, _, rfl, _, rfl, h.loopR fun mk lp L w h hround => ?_⟩
  let Fr : Nat → List HP := fun i => tapeB 76 g q bs.length c (cSt k bs a1 i).2 :: pt lp (LoopObj L .ready none) :: blk b1 72 [.pointer (some ⟨g3, 0, none⟩)] :: blk g3 50 (opV (cSt k bs a1 i).1) :: pt mk (.deferred (some [])) :: blk g1 57 [.pointer (some ⟨g, 0, none⟩)] :: blk g2 50 (opV [0, 0, 0, 0, 0]) :: F
  have h0 : Own e w (Fr 0) := by
    show Own e w (tapeB 76 g q bs.length c a1 :: pt lp (LoopObj L .ready none) :: blk b1 72 [.pointer (some ⟨g3, 0, none⟩)] :: blk g3 50 [.int .i64 k, .int .i64 0, .int .i64 0, .int .i64 0, .int .i64 0] :: pt mk (.deferred (some [])) :: blk g1 57 [.pointer (some ⟨g, 0, none⟩)] :: blk g2 50 [.int .i64 0, .int .i64 0, .int .i64 0, .int .i64 0, .int .i64 0] :: F)
    exact (Own.sub (h) (by repeat (first | exact Sub.nil _ | exact Sub.rfl _ | (apply Sub.cons; focus ((repeat (first | with_reducible exact Pick.here | apply Pick.there)); done)) | apply Sub.drop)))
  refine Rets.mono (ow1 (e := e) (g := g3) (k := k) (lp := lp) (b := b1) (Fr := Fr) (fun w h => (Own.ld' h (by repeat (first | with_reducible exact Pick.here | apply Pick.there)) (by rfl))) (fun w h => Own.ld h (by repeat (first | with_reducible exact Pick.here | apply Pick.there)) (by rfl)) (fun R j w hj h => ?_) h0) ?_
  · refine hround _ w _ (Own.recR (l := lp) (L := L) (Own.pk h (by repeat (first | with_reducible exact Pick.here | apply Pick.there)))) ?_
    refine Own.begR (l := lp) (L := L) (Own.pk h (by repeat (first | with_reducible exact Pick.here | apply Pick.there))) fun w h => ?_
    refine ⟨_, Own.ld' (g := g1) (T := 57) h (by repeat (first | with_reducible exact Pick.here | apply Pick.there)) (by rfl), ?_⟩
    have hp5 : (pls k)[j] < 5 := pls_lt (List.getElem_mem hj)
    have hl5 := cSt_len k bs a1 j
    have hcle := cSt_le (k := k) hle j
    have es := cSt_succ (k := k) (bs := bs) (a := a1) hj
    have h : Own e w (tapeB 76 g q bs.length c (cSt k bs a1 j).2 :: pt lp (LoopObj L .busy none) :: R :: blk b1 72 [.pointer (some ⟨g3, 0, none⟩)] :: blk g3 50 (opV (cSt k bs a1 j).1) :: pt mk (.deferred (some [])) :: blk g1 57 [.pointer (some ⟨g, 0, none⟩)] :: blk g2 50 (opV [0, 0, 0, 0, 0]) :: F) := (Own.sub (h) (by repeat (first | exact Sub.nil _ | exact Sub.rfl _ | (apply Sub.cons; focus ((repeat (first | with_reducible exact Pick.here | apply Pick.there)); done)) | apply Sub.drop)))
    refine Rets.mono (Int_spec h (fun w a h => hrd w a (Own.sub (h) (by repeat (first | exact Sub.nil _ | exact Sub.rfl _ | (apply Sub.cons; focus ((repeat (first | with_reducible exact Pick.here | apply Pick.there)); done)) | apply Sub.drop)))) hcle hn hb) ?_
    rintro _ w ⟨rfl, h⟩
    refine ⟨_, rfl, smR ?_⟩
    refine Own.stP (g := g3) (T := 50) h (by repeat (first | with_reducible exact Pick.here | apply Pick.there)) (by rw [cs_len, hl5]; simp; omega) (by simp [Value.oneCell']) fun w h => ?_
    have e2 : setFrom (opV (cSt k bs a1 j).1) (pls k)[j] [.int .i64 (tInt bs (cSt k bs a1 j).2).1] = opV (cSt k bs a1 (j + 1)).1 := by
      rw [es]
      show (opV (cSt k bs a1 j).1).set _ _ = _
      simp only [opV, cs, List.map_set, cStep]
    rw [e2] at h
    refine Own.finT (l := lp) (L := L) (Own.pk h (by repeat (first | with_reducible exact Pick.here | apply Pick.there))) fun w h => ⟨rfl, ?_⟩
    have e3 : (tInt bs (cSt k bs a1 j).2).2 = (cSt k bs a1 (j + 1)).2 := by rw [es]; rfl
    rw [e3] at h
    have h : Own e w (R :: tapeB 76 g q bs.length c (cSt k bs a1 (j + 1)).2 :: pt lp (LoopObj L .ready none) :: blk b1 72 [.pointer (some ⟨g3, 0, none⟩)] :: blk g3 50 (opV (cSt k bs a1 (j + 1)).1) :: pt mk (.deferred (some [])) :: blk g1 57 [.pointer (some ⟨g, 0, none⟩)] :: blk g2 50 (opV [0, 0, 0, 0, 0]) :: F) := (Own.sub (h) (by repeat (first | exact Sub.nil _ | exact Sub.rfl _ | (apply Sub.cons; focus ((repeat (first | with_reducible exact Pick.here | apply Pick.there)); done)) | apply Sub.drop)))
    exact h
  rintro _ w h
  have h : Own e w (tapeB 76 g q bs.length c (cSt k bs a1 (pls k).length).2 :: pt lp (LoopObj L .ready none) :: blk b1 72 [.pointer (some ⟨g3, 0, none⟩)] :: blk g3 50 (opV (cSt k bs a1 (pls k).length).1) :: pt mk (.deferred (some [])) :: blk g1 57 [.pointer (some ⟨g, 0, none⟩)] :: blk g2 50 (opV [0, 0, 0, 0, 0]) :: F) := h
  rw [← hrc] at h
  obtain ⟨z0, z1, z2, z3, z4, hz⟩ := five (rdCall_len bs at_)
  rw [hz] at h ⊢
  have h : Own e w (pt lp (LoopObj L .ready none) :: tapeB 76 g q bs.length c (rdCall bs at_).2 :: blk g3 50 [.int .i64 z0, .int .i64 z1, .int .i64 z2, .int .i64 z3, .int .i64 z4] :: pt mk (.deferred (some [])) :: blk g2 50 [.int .i64 0, .int .i64 0, .int .i64 0, .int .i64 0, .int .i64 0] :: F) := by
    have h : Own e w (pt lp (LoopObj L .ready none) :: tapeB 76 g q bs.length c (rdCall bs at_).2 :: blk g3 50 (opV [z0, z1, z2, z3, z4]) :: pt mk (.deferred (some [])) :: blk g2 50 (opV [0, 0, 0, 0, 0]) :: F) := (Own.sub (h) (by repeat (first | exact Sub.nil _ | exact Sub.rfl _ | (apply Sub.cons; focus ((repeat (first | with_reducible exact Pick.here | apply Pick.there)); done)) | apply Sub.drop)))
    exact h
  refine Own.endR (l := lp) (L := L) h (by simp) fun w h => ?_
  refine ⟨_, _, _, _, _, ⟨Own.ld (g := g3) h (by repeat (first | with_reducible exact Pick.here | apply Pick.there)) (by rfl), Own.ld (g := g3) h (by repeat (first | with_reducible exact Pick.here | apply Pick.there)) (by rfl), Own.ld (g := g3) h (by repeat (first | with_reducible exact Pick.here | apply Pick.there)) (by rfl), Own.ld (g := g3) h (by repeat (first | with_reducible exact Pick.here | apply Pick.there)) (by rfl), Own.ld (g := g3) h (by repeat (first | with_reducible exact Pick.here | apply Pick.there)) (by rfl)⟩, Own.stP' (g := g2) h (by repeat (first | with_reducible exact Pick.here | apply Pick.there)) (by simp) (by simp [Value.oneCell']) fun w h => ?_⟩
  simp only [setFrom, List.set_cons_zero, List.set_cons_succ, List.set_nil] at h
  refine Own.markR (g := mk) (Own.pk h (by repeat (first | with_reducible exact Pick.here | apply Pick.there))) fun w h => ?_
  exact ⟨_, _, _, _, _, ⟨Own.ld (g := g2) h (by repeat (first | with_reducible exact Pick.here | apply Pick.there)) (by rfl), Own.ld (g := g2) h (by repeat (first | with_reducible exact Pick.here | apply Pick.there)) (by rfl), Own.ld (g := g2) h (by repeat (first | with_reducible exact Pick.here | apply Pick.there)) (by rfl), Own.ld (g := g2) h (by repeat (first | with_reducible exact Pick.here | apply Pick.there)) (by rfl), Own.ld (g := g2) h (by repeat (first | with_reducible exact Pick.here | apply Pick.there)) (by rfl)⟩, rfl, (Own.sub (h) (by repeat (first | exact Sub.nil _ | exact Sub.rfl _ | (apply Sub.cons; focus ((repeat (first | with_reducible exact Pick.here | apply Pick.there)); done)) | apply Sub.drop)))⟩
theorem prRead (h : Own e w (tapeB 76 g q bs.length c at_ :: F)) (hrd : ∀ w a, Own e w (tapeB 76 g q bs.length c a :: F) → RdC w q (cs .u8 bs)) (hat : at_ ≤ bs.length) (hn : bs.length ≤ 1000000) (hb : ∀ x ∈ bs, 0 ≤ x ∧ x < 256) :
    Rets Try.prog 40 #[.pointer (some ⟨g, 0, none⟩)] w fun v w' => ∃ q' c', v = .slice q' (rdProg bs at_).1.length c' ∧ Own e w' (opsB q' (rdProg bs at_).1.length c' (rdProg bs at_).1 :: tapeB 76 g q bs.length c (rdProg bs at_).2 :: F) := by
  refine prog_Read_go _ ?_
  refine Rets.mono (Below_spec h hrd hat hn hb) ?_
  rintro _ w ⟨rfl, h⟩
  rw [if_neg (by omega)] at h ⊢
  have hv := tbV_bd hb at_
  obtain ⟨n, hnn⟩ : ∃ n, n = (tbV bs at_ % 25).toNat := ⟨_, rfl⟩
  have en : (tbV bs at_).tmod 25 = (n : Int) := by rw [Int.tmod_eq_emod_of_nonneg (by omega)]; omega
  rw [en]
  have hrp : rdProg bs at_ = rdN bs n (tbA bs at_) := by unfold rdProg; rw [hnn]
  have hle := tbA_le hat
  refine ⟨_, rfl, fun m vs w => ∃ (i : Nat) (q' : Option Addr) (c' : Nat), vs = [.slice q' i c', .int .i64 (i : Int)] ∧ m + i = n ∧ Own e w (opsB q' i c' (rdN bs i (tbA bs at_)).1 :: tapeB 76 g q bs.length c (rdN bs i (tbA bs at_)).2 :: F), ⟨n, 0, none, 0, rfl, rfl, h.slNil⟩, ?_⟩
  rintro m w q1 k3 k4 n2
  intros
  rename_i hI
  obtain ⟨i, q', c', hvs, hm, h⟩ := hI
  obtain ⟨⟨rfl, rfl, rfl⟩, rfl⟩ : (q1 = q' ∧ k3 = i ∧ k4 = c') ∧ n2 = (i : Int) := by simpa using hvs
  refine ⟨fun hc => ?_, fun hc => ?_⟩
  · have hc := dec_t hc
    refine Rets.mono (prCall h.swap (fun w a h => hrd w a (Own.sub (h) (by repeat (first | exact Sub.nil _ | exact Sub.rfl _ | (apply Sub.cons; focus ((repeat (first | with_reducible exact Pick.here | apply Pick.there)); done)) | apply Sub.drop)))) (rdN_le hle k3) hn hb) ?_
    rintro _ w ⟨rfl, h⟩
    obtain ⟨z0, z1, z2, z3, z4, hz⟩ := five (rdCall_len bs (rdN bs k3 (tbA bs at_)).2)
    refine ⟨z0, z1, z2, z3, z4, by rw [hz]; rfl, h.newR fun g5 w h => ?_⟩
    have h : Own e w (blk g5 50 (encO (to5 (rdCall bs (rdN bs k3 (tbA bs at_)).2).1)) :: opsB q1 k3 k4 (rdN bs k3 (tbA bs at_)).1 :: tapeB 76 g q bs.length c (rdCall bs (rdN bs k3 (tbA bs at_)).2).2 :: F) := by
      rw [hz]
      exact h.sub (Sub.cons .here (Sub.cons (.there .here) (Sub.cons .here (Sub.rfl _))))
    have hn25 : n < 25 := by omega
    refine putOp h (by omega) fun q2 c2 w h => ⟨_, _, _, rfl, m - 1, by omega, k3 + 1, _, _, ?_, by omega, h⟩
    rw [wI64 (by omega) (by omega)]; rfl
  · have hc := dec_f hc
    obtain rfl : k3 = n := by omega
    have el : (rdProg bs at_).1.length = k3 := by rw [hrp, rdN_len]
    rw [el, hrp]
    exact ⟨_, _, rfl, h⟩
theorem rfNumbers {x : Op5} (h : Own e w F) : Rets Try.prog 51 #[.agg (encO x).toArray] w fun v w' => ∃ q' c', v = .slice q' (ownL x).length c' ∧ Own e w' (inB q' (ownL x).length c' (ownL x) :: F) := by
  obtain ⟨k0, k1, k2, k3, k4⟩ := x
  have mk : ∀ (a n : Nat) (vs : List Int) w, vs = ownL (k0, k1, k2, k3, k4) → n = vs.length → Own e w (blk a 3 (cs .i64 vs) :: F) → ∃ q' c', (.slice (some ⟨a, 0, none⟩) n n : Value) = .slice q' (ownL (k0, k1, k2, k3, k4)).length c' ∧ Own e w (inB q' (ownL (k0, k1, k2, k3, k4)).length c' (ownL (k0, k1, k2, k3, k4)) :: F) := by
    rintro a n vs w rfl rfl h
    have := ownL_len (k0, k1, k2, k3, k4)
    exact ⟨_, _, rfl, Own.slMk (rest := []) (by simp [cs]) (Nat.le_refl _) (by unfold maxLen; omega) (by simp [cs]) (by rw [List.append_nil]; exact h)⟩
  refine cortadoref17_Numbers_go _ _ _ _ _ (h.newR fun g1 w h => ⟨_, (Own.ld h (by repeat (first | with_reducible exact Pick.here | apply Pick.there)) (by rfl)), fun h1 => ?_, fun h1 => ⟨fun h3 => ?_, fun h3 => ⟨fun h2 => ?_, fun h2 => ⟨fun h7 => ?_, fun h7 => ?_⟩⟩⟩⟩)
  · obtain rfl := beq_t h1
    exact ⟨_, (Own.ld h (by repeat (first | with_reducible exact Pick.here | apply Pick.there)) (by rfl)), h.newR fun g2 w h => mk _ 1 [k1] w rfl rfl h.swap.drop⟩
  · obtain rfl := beq_t h3
    exact ⟨_, (Own.ld h (by repeat (first | with_reducible exact Pick.here | apply Pick.there)) (by rfl)), h.newR fun g2 w h => mk _ 1 [k1] w rfl rfl h.swap.drop⟩
  · obtain rfl := beq_t h2
    exact ⟨_, (Own.ld h (by repeat (first | with_reducible exact Pick.here | apply Pick.there)) (by rfl)), _, (Own.ld h (by repeat (first | with_reducible exact Pick.here | apply Pick.there)) (by rfl)), _, (Own.ld h (by repeat (first | with_reducible exact Pick.here | apply Pick.there)) (by rfl)), _, (Own.ld h (by repeat (first | with_reducible exact Pick.here | apply Pick.there)) (by rfl)), h.newR fun g2 w h => mk _ 4 [k1, k2, k3, k4] w rfl rfl h.swap.drop⟩
  · obtain rfl := beq_t h7
    exact ⟨_, (Own.ld h (by repeat (first | with_reducible exact Pick.here | apply Pick.there)) (by rfl)), h.newR fun g2 w h => mk _ 1 [k3] w rfl rfl h.swap.drop⟩
  · have h1 := beq_f h1
    have h3 := beq_f h3
    have h2 := beq_f h2
    have h7 := beq_f h7
    have e1 : ownL (k0, k1, k2, k3, k4) = [] := by
      unfold ownL valsL pls
      rw [if_neg (by show ¬ (k0 = 1 ∨ k0 = 3); omega), if_neg h2, if_neg h7]; rfl
    rw [e1]
    exact ⟨none, 0, rfl, h.drop.slNil⟩
theorem rfPutP {l : List Op5} (h : Own e w F) (hr : ∀ w, Own e w F → RdC w q (l.flatMap encO)) (hf : fineB l = true) : Rets Try.prog 35 #[.slice q l.length c] w fun v w' => ∃ q' c', v = .slice q' (putP l).length c' ∧ Own e w' (byB q' (putP l).length c' (putP l) :: F) := by
  have hl := fine_len hf
  refine cortadoref17_Put_go _ _ _ ?_
  unfold cortadoref17_Put_m
  rw [wU8' (n := (l.length : Int)) (by omega) (by omega)]
  refine h.newR fun g1 w h => ?_
  have h : Own e w (byB (some ⟨g1, 0, none⟩) 1 1 [(l.length : Int)] :: F) := Own.slMk (rest := []) (by rfl) (by omega) (by unfold maxLen; omega) (by rfl) h
  let P : Nat → List Int := fun i => (l.length : Int) :: (l.take i).flatMap encB
  have hP : ∀ i, i ≤ l.length → (P i).length ≤ 1000 := fun i hi => by
    have h1 := encBs_len (l.take i)
    have h2 : (l.take i).length = i := by simp; omega
    simp only [P, List.length_cons]; omega
  refine ⟨fun m vs w => ∃ (i : Nat) (q' : Option Addr) (c' : Nat), vs = [.slice q' (P i).length c', .int .i64 (i : Int)] ∧ m + i = l.length ∧ Own e w (byB q' (P i).length c' (P i) :: F), ⟨l.length, 0, some ⟨g1, 0, none⟩, 1, rfl, rfl, h⟩, ?_⟩
  rintro m w q1 k3 k4 n2
  intros
  rename_i hI
  obtain ⟨i, q', c', hvs, hm, h⟩ := hI
  obtain ⟨⟨rfl, rfl, rfl⟩, rfl⟩ : (q1 = q' ∧ k3 = (P i).length ∧ k4 = c') ∧ n2 = (i : Int) := by simpa using hvs
  have hPi := hP i (by omega)
  refine ⟨fun hc => ?_, fun hc => ?_⟩
  · have hc := dec_t hc
    have hi : i < l.length := by omega
    obtain ⟨ad, rfl, hcell⟩ := RdC.rec encO_len (hr w h.drop) hi (by omega)
    have hkk := fine_kind hf (List.getElem_mem hi)
    refine ⟨by omega, by omega, smR ⟨_, hcell i hi 0 _ rfl, ?_⟩⟩
    rw [wU8' (n := l[i].1) (by omega) (by omega)]
    refine h.newR fun g2 w h => ?_
    have h : Own e w (blk g2 5 (cs .u8 [l[i].1]) :: byB q1 (P i).length k4 (P i) :: F) := h
    refine put8 (a := ⟨0, 0, none⟩) h rfl (by omega) fun q2 c2 w h => ⟨_, _, _, rfl, by omega, by omega, ?_⟩
    have hcell2 := recS (S := fun w => Own e w F) hr hi
    refine smR ⟨_, _, _, _, _, ⟨hcell2 0 _ rfl w h.drop, hcell2 1 _ rfl w h.drop, hcell2 2 _ rfl w h.drop, hcell2 3 _ rfl w h.drop, hcell2 4 _ rfl w h.drop⟩, ?_⟩
    refine Rets.mono (rfNumbers (x := l[i]) h) ?_
    rintro _ w ⟨q3, c3, rfl, h⟩
    have ho := ownL_len l[i]
    refine ⟨_, _, _, rfl, ?_⟩
    refine Rets.mono (rPut_spec h (fun w h => h.slRd) (by omega)) ?_
    rintro _ w ⟨q4, c4, rfl, h⟩
    have hpl := putL_len (ownL l[i])
    refine ⟨_, _, _, rfl, ?_⟩
    have h : Own e w (byB q2 ((P i).length + 1) c2 (P i ++ [l[i].1]) :: byB q4 (putL (ownL l[i])).length c4 (putL (ownL l[i])) :: F) := (Own.sub (h) (by repeat (first | exact Sub.nil _ | exact Sub.rfl _ | (apply Sub.cons; focus ((repeat (first | with_reducible exact Pick.here | apply Pick.there)); done)) | apply Sub.drop)))
    have e1 : P (i + 1) = P i ++ [l[i].1] ++ putL (ownL l[i]) := by
      simp only [P]
      rw [List.take_succ_eq_append_getElem hi, List.flatMap_append]
      simp [encB]
    refine app8 h h.drop.slRd rfl (by omega) fun q5 c5 w h => ⟨_, _, _, rfl, m - 1, by omega, i + 1, q5, c5, ?_, by omega, ?_⟩
    · rw [wI64 (by omega) (by omega), e1, List.length_append, List.length_append]; rfl
    · have h : Own e w (byB q5 _ c5 (P i ++ [l[i].1] ++ putL (ownL l[i])) :: F) := (Own.sub (h) (by repeat (first | exact Sub.nil _ | exact Sub.rfl _ | (apply Sub.cons; focus ((repeat (first | with_reducible exact Pick.here | apply Pick.there)); done)) | apply Sub.drop)))
      rw [e1, List.length_append, List.length_append]; exact h
  · have hc := dec_f hc
    obtain rfl : i = l.length := by omega
    have e1 : P l.length = putP l := by simp only [P, List.take_length]; rfl
    rw [e1] at h ⊢
    exact ⟨_, _, rfl, h⟩
theorem rfSame {l : List Op5} {q2 : Option Addr} {c2 : Nat} (h : Own e w F) (hr : ∀ w, Own e w F → RdC w q (l.flatMap encO)) (hr2 : ∀ w, Own e w F → RdC w q2 (l.flatMap encO)) (hl : l.length ≤ 1000000) : Rets Try.prog 30 #[.slice q l.length c, .slice q2 l.length c2] w fun v w' => v = .bool true ∧ Own e w' F := by
  refine cortadoref17_Same_go _ _ _ _ _ _ ⟨fun hc => absurd hc (by simp), fun _ => ?_⟩
  refine ⟨fun m vs w => ∃ i : Nat, vs = [.int .i64 (i : Int)] ∧ m + i = l.length ∧ Own e w F, ⟨l.length, 0, rfl, rfl, h⟩, ?_⟩
  rintro m w v1 n1
  intros
  rename_i hI
  obtain ⟨i, hvs, hm, h⟩ := hI
  obtain rfl : n1 = (i : Int) := by simpa using hvs
  refine ⟨fun hc => ?_, fun hc => ⟨rfl, h⟩⟩
  have hc := dec_t hc
  have hi : i < l.length := by omega
  refine h.drw fun w h => ?_
  obtain ⟨ad, rfl, hcell⟩ := RdC.rec encO_len (hr w h) hi (by omega)
  obtain ⟨ad2, rfl, hcell2⟩ := RdC.rec encO_len (hr2 w h) hi (by omega)
  refine ⟨by omega, by omega, smR ⟨by omega, by omega, smR ⟨_, _, _, _, _, ⟨hcell i hi 0 _ rfl, hcell i hi 1 _ rfl, hcell i hi 2 _ rfl, hcell i hi 3 _ rfl, hcell i hi 4 _ rfl⟩, _, _, _, _, _, ⟨hcell2 i hi 0 _ rfl, hcell2 i hi 1 _ rfl, hcell2 i hi 2 _ rfl, hcell2 i hi 3 _ rfl, hcell2 i hi 4 _ rfl⟩, fun hc => absurd hc (by simp), fun _ => ⟨m - 1, by omega, i + 1, ?_, by omega, h⟩⟩⟩⟩
  rw [wI64 (by omega) (by omega)]; rfl
end
end Go.Proofs.Ytppmdifhoejhjaa.Eng
