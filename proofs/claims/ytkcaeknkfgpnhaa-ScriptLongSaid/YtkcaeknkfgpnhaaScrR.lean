/- Scripts: the document's parser, which are right, which are the same. -/
import Derived.Test.YtkcaeknkfgpnhaaScrQ
namespace Go.Proofs.Ytkcaeknkfgpnhaa.Eng
open Go Go.RowKit Go.Proofs
set_option linter.unusedVariables false
set_option linter.unusedSimpArgs false
set_option maxRecDepth 1000000
section
variable {e w : World} {F : List HP} {c : Nat} {q : Option Addr} {bs : List Int}
theorem rdParse (h8 : ∀ x ∈ bs, 0 ≤ x ∧ x < 256) (hn : bs.length ≤ 1000000) (hc : bs.length ≤ c) (hr : ∀ w, Own e w F → RdC w q (cs .u8 bs)) (h : Own e w F) :
    Rets Try.prog 14 #[.slice q bs.length c] w fun v w' => ∃ q1 d1 q2 d2 q3 d3, ∃ ms : List (Sl Op5), v = .agg #[.int .i64 (sC0 (bs.take 16384)), .int .i64 (sC1 (bs.take 16384)), .int .i64 (sC2 (bs.take 16384)), .int .i64 (sC3 (bs.take 16384)), .int .i64 (sC4 (bs.take 16384)), .slice q1 ms.length d1, .slice q2 (sPk (bs.take 16384)).length d2, .slice q3 (sDs (bs.take 16384)).length d3] ∧ ms.map (fun x => x.2.2) = sPs (bs.take 16384) ∧
      Own e w' (prgB q1 ms.length d1 ms :: prgIn ms :: inB q2 (sPk (bs.take 16384)).length d2 (sPk (bs.take 16384)) :: inB q3 (sDs (bs.take 16384)).length d3 (sDs (bs.take 16384)) :: F) := by
  obtain ⟨B, hB⟩ : ∃ B, B = bs.take 16384 := ⟨_, rfl⟩
  have hBl : B.length ≤ bs.length ∧ B.length ≤ 16384 := by rw [hB, List.length_take]; omega
  have hb : ∀ x ∈ B, 0 ≤ x ∧ x < 256 := fun x hx => h8 x (List.mem_of_mem_take (hB ▸ hx))
  have hr0 : ∀ w, Own e w F → RdC w (slcA q 0 c 1) (cs .u8 B) := fun w h => by
    have h1 := (hr w h).cut (l := 0) (c := c) (by omega) (by rw [cs_len]; exact hc)
    have h2 := h1.take 16384
    rwa [show ((cs .u8 bs).drop 0).take 16384 = cs .u8 B by rw [hB]; simp [cs]] at h2
  have hr1 : ∀ w, Own e w F → RdC w q (cs .u8 B) := fun w h => by
    have h2 := (hr w h).take 16384
    rwa [show (cs .u8 bs).take 16384 = cs .u8 B by rw [hB]; simp [cs]] at h2
  obtain ⟨l1, l2, l3, l4, l5, l6, l7, l8, l9⟩ := sp_le B
  have hbl1 : bs.length > 16384 → B.length = 16384 := fun hx => by rw [hB, List.length_take]; omega
  have hbl2 : ¬ bs.length > 16384 → bs.length = B.length := fun hx => by rw [hB, List.length_take]; omega
  rw [← hB]
  refine cortadoref18_Parse_go _ _ _ ?_
  unfold cortadoref18_Parse_m
  simp only [addr_add_add, Nat.zero_add, Nat.sub_zero]
  clear hB
  refine h.newR fun a1 w h => ⟨fun hx => ?_, fun hx => ?_⟩
  · have hx := dec_t hx
    have e1 := hbl1 (by omega)
    refine ⟨by omega, by omega, ?_⟩
    rw [← e1]
    obtain ⟨q0, hq0⟩ : ∃ q0, q0 = slcA q 0 c 1 := ⟨_, rfl⟩
    rw [← hq0] at hr0 ⊢
    clear hx hbl1 hbl2 hr1 hq0 e1
    refine h.newR fun a7 w h => h.newR fun a8 w h => ?_
    have h : Own e w (scB a8 0 0 0 0 0 (.slice none 0 0) (.slice none 0 0) (.slice none 0 0) :: tapeB 99 a7 q0 B.length c 0 :: blk a1 29 [.int .i64 0, .int .i64 0, .int .i64 0, .int .i64 0, .int .i64 0, .slice none 0 0, .slice none 0 0, .slice none 0 0] :: F) := h
    have h := h.swap
    have hrd : ∀ c0 c1 c2 c3 c4 s1 s2 s3 w a, Own e w (tapeB 99 a7 q0 B.length c a :: scB a8 c0 c1 c2 c3 c4 s1 s2 s3 :: blk a1 29 [.int .i64 0, .int .i64 0, .int .i64 0, .int .i64 0, .int .i64 0, .slice none 0 0, .slice none 0 0, .slice none 0 0] :: F) → RdC w q0 (cs .u8 B) := fun c0 c1 c2 c3 c4 s1 s2 s3 w a h => hr0 w h.drop.drop.drop
    refine Rets.mono (rInt_spec h (hrd _ _ _ _ _ _ _ _) (Nat.zero_le _) (by omega) hb) ?_
    clear h
    rintro _ w ⟨rfl, h⟩
    have h : Own e w (tapeB 99 a7 q0 B.length c (sp1 B) :: _) := h
    refine ⟨_, rfl, ?_⟩
    refine Rets.mono (rBelow_spec h (hrd _ _ _ _ _ _ _ _) l1 (by omega) hb) ?_
    clear h
    rintro _ w ⟨rfl, h⟩
    rw [if_neg (by omega)] at h ⊢
    have h : Own e w (tapeB 99 a7 q0 B.length c (sp2 B) :: _) := h
    refine ⟨_, rfl, ?_⟩
    refine Rets.mono (rBelow_spec h (hrd _ _ _ _ _ _ _ _) l2 (by omega) hb) ?_
    clear h
    rintro _ w ⟨rfl, h⟩
    rw [if_neg (by omega)] at h ⊢
    have h : Own e w (tapeB 99 a7 q0 B.length c (sp3 B) :: _) := h
    refine ⟨_, rfl, ?_⟩
    refine Rets.mono (rBelow_spec h (hrd _ _ _ _ _ _ _ _) l3 (by omega) hb) ?_
    clear h
    rintro _ w ⟨rfl, h⟩
    rw [if_neg (by omega)] at h ⊢
    have h : Own e w (tapeB 99 a7 q0 B.length c (sp4 B) :: _) := h
    refine ⟨_, rfl, ?_⟩
    refine Rets.mono (rInt_spec h (hrd _ _ _ _ _ _ _ _) l4 (by omega) hb) ?_
    clear h
    rintro _ w ⟨rfl, h⟩
    have h : Own e w (tapeB 99 a7 q0 B.length c (sp5 B) :: _) := h
    have v1 := tbV_bd hb (sp1 B)
    have v2 := tbV_bd hb (sp2 B)
    have v3 := tbV_bd hb (sp3 B)
    refine ⟨_, rfl, ?_⟩
    rw [Int.tmod_eq_emod_of_nonneg (a := tbV B (sp1 B)) (by omega), Int.tmod_eq_emod_of_nonneg (a := tbV B (sp2 B)) (by omega), Int.tmod_eq_emod_of_nonneg (a := tbV B (sp3 B)) (by omega), wI64 (n := tbV B (sp1 B) % 64 + 1) (by omega) (by omega), wI64 (n := tbV B (sp2 B) % 16 + 1) (by omega) (by omega)]
    refine Rets.mono (rdNear h) ?_
    clear h
    rintro _ w ⟨rfl, h⟩
    refine ⟨_, _, _, _, _, rfl, Own.stP (g := a8) h (by repeat (first | with_reducible exact Pick.here | apply Pick.there)) (by simp) (by simp [Value.oneCell']) fun w h => ?_⟩
    simp only [setFrom, List.set_cons_zero, List.set_cons_succ, List.set_nil] at h
    have h : Own e w (scB a8 (sC0 B) (sC1 B) (sC2 B) (sC3 B) (sC4 B) (.slice none 0 0) (.slice none 0 0) (.slice none 0 0) :: _) := h
    generalize sC0 B = c0, sC1 B = c1, sC2 B = c2, sC3 B = c3, sC4 B = c4 at h ⊢
    have h : Own e w (tapeB 99 a7 q0 B.length c (sp5 B) :: scB a8 c0 c1 c2 c3 c4 (.slice none 0 0) (.slice none 0 0) (.slice none 0 0) :: blk a1 29 [.int .i64 0, .int .i64 0, .int .i64 0, .int .i64 0, .int .i64 0, .slice none 0 0, .slice none 0 0, .slice none 0 0] :: F) := (Own.sub (h) (by repeat (first | exact Sub.nil _ | exact Sub.rfl _ | (apply Sub.cons; focus ((repeat (first | with_reducible exact Pick.here | apply Pick.there)); done)) | apply Sub.drop)))
    refine Rets.mono (rBelow_spec h (hrd _ _ _ _ _ _ _ _) l5 (by omega) hb) ?_
    clear h
    rintro _ w ⟨rfl, h⟩
    have v5 := tbV_bd hb (sp5 B)
    rw [if_neg (by omega)] at h ⊢
    have en : (tbV B (sp5 B)).tmod 7 = (snp B : Int) := by rw [Int.tmod_eq_emod_of_nonneg (by omega)]; unfold snp; omega
    rw [en]
    have hnp : snp B < 7 := by unfold snp; omega
    have h : Own e w (tapeB 99 a7 q0 B.length c (sp6 B) :: _) := h
    have h : Own e w (prgB none 0 0 [] :: prgIn [] :: _) := (prgIn.nil h).slNil
    refine ⟨_, rfl, fun z vs w => ∃ (i : Nat) (q1 : Option Addr) (d1 : Nat) (ms : List (Sl Op5)), vs = [.int .i64 (i : Int)] ∧ z + i = snp B ∧ ms.length = i ∧ ms.map (fun x => x.2.2) = (rdPs B i (sp6 B)).1 ∧ Own e w (prgB q1 i d1 ms :: prgIn ms :: tapeB 99 a7 q0 B.length c (rdPs B i (sp6 B)).2 :: scB a8 c0 c1 c2 c3 c4 (.slice q1 i d1) (.slice none 0 0) (.slice none 0 0) :: blk a1 29 [.int .i64 0, .int .i64 0, .int .i64 0, .int .i64 0, .int .i64 0, .slice none 0 0, .slice none 0 0, .slice none 0 0] :: F), ⟨snp B, 0, none, 0, [], rfl, rfl, rfl, rfl, h⟩, ?_⟩
    clear h hrd
    rintro z w n17
    intros
    rename_i hI
    obtain ⟨i, q1, d1, ms, hvs, hz, hml, hms, h⟩ := hI
    obtain rfl : n17 = (i : Int) := by simpa using hvs
    refine ⟨fun hx => ?_, fun hx => ?_⟩
    · have hx := dec_t hx
      have lp := rdPs_le l6 i
      have h : Own e w (tapeB 99 a7 q0 B.length c (rdPs B i (sp6 B)).2 :: prgB q1 i d1 ms :: prgIn ms :: scB a8 c0 c1 c2 c3 c4 (.slice q1 i d1) (.slice none 0 0) (.slice none 0 0) :: blk a1 29 [.int .i64 0, .int .i64 0, .int .i64 0, .int .i64 0, .int .i64 0, .slice none 0 0, .slice none 0 0, .slice none 0 0] :: F) := (Own.sub (h) (by repeat (first | exact Sub.nil _ | exact Sub.rfl _ | (apply Sub.cons; focus ((repeat (first | with_reducible exact Pick.here | apply Pick.there)); done)) | apply Sub.drop)))
      refine h.drw fun w h => ⟨fun w => Own e w [scB a8 c0 c1 c2 c3 c4 (.slice q1 i d1) (.slice none 0 0) (.slice none 0 0)], (Own.sub (h) (by repeat (first | exact Sub.nil _ | exact Sub.rfl _ | (apply Sub.cons; focus ((repeat (first | with_reducible exact Pick.here | apply Pick.there)); done)) | apply Sub.drop))), _, _, _, fun w h => Own.ld (g := a8) h (by repeat (first | with_reducible exact Pick.here | apply Pick.there)) rfl, ?_⟩
      refine Rets.mono (rfRead h (fun w a h => hr0 w h.drop.drop.drop.drop.drop) lp (by omega) hb) ?_
      clear h
      rintro _ w ⟨q6, d6, rfl, h⟩
      obtain ⟨R, hR⟩ : ∃ R, R = rdProg B (rdPs B i (sp6 B)).2 := ⟨_, rfl⟩
      rw [← hR] at h ⊢
      refine ⟨_, _, _, rfl, (Own.sub (h) (by repeat (first | exact Sub.nil _ | exact Sub.rfl _ | (apply Sub.cons; focus ((repeat (first | with_reducible exact Pick.here | apply Pick.there)); done)) | apply Sub.drop))), h.newR fun a3 w h => ⟨(Own.sub (h) (by repeat (first | exact Sub.nil _ | exact Sub.rfl _ | (apply Sub.cons; focus ((repeat (first | with_reducible exact Pick.here | apply Pick.there)); done)) | apply Sub.drop))), ?_⟩⟩
      have h : Own e w (blk a3 76 [Sl.v (q6, d6, R.1)] :: _) := h
      have h : Own e w (blk a3 76 [Sl.v (q6, d6, R.1)] :: prgB q1 i d1 ms :: opsB q6 R.1.length d6 R.1 :: tapeB 99 a7 q0 B.length c R.2 :: prgIn ms :: scB a8 c0 c1 c2 c3 c4 (.slice q1 i d1) (.slice none 0 0) (.slice none 0 0) :: blk a1 29 [.int .i64 0, .int .i64 0, .int .i64 0, .int .i64 0, .int .i64 0, .slice none 0 0, .slice none 0 0, .slice none 0 0] :: F) := (Own.sub (h) (by repeat (first | exact Sub.nil _ | exact Sub.rfl _ | (apply Sub.cons; focus ((repeat (first | with_reducible exact Pick.here | apply Pick.there)); done)) | apply Sub.drop)))
      refine putPr h (by omega) fun q7 d7 w h => ⟨_, _, _, rfl, Own.stP (g := a8) h (by repeat (first | with_reducible exact Pick.here | apply Pick.there)) (by simp) (by simp [Value.oneCell']) fun w h => ?_⟩
      simp only [setFrom, List.set_cons_zero, List.set_cons_succ, List.set_nil] at h
      have h : Own e w (slP (q6, d6, R.1) :: prgIn ms :: prgB q7 (i + 1) d7 (ms ++ [(q6, d6, R.1)]) :: tapeB 99 a7 q0 B.length c R.2 :: scB a8 c0 c1 c2 c3 c4 (.slice q7 (i + 1) d7) (.slice none 0 0) (.slice none 0 0) :: blk a1 29 [.int .i64 0, .int .i64 0, .int .i64 0, .int .i64 0, .int .i64 0, .slice none 0 0, .slice none 0 0, .slice none 0 0] :: F) := by
        have h : Own e w (opsB q6 R.1.length d6 R.1 :: prgIn ms :: prgB q7 (i + 1) d7 (ms ++ [(q6, d6, R.1)]) :: tapeB 99 a7 q0 B.length c R.2 :: scB a8 c0 c1 c2 c3 c4 (.slice q7 (i + 1) d7) (.slice none 0 0) (.slice none 0 0) :: blk a1 29 [.int .i64 0, .int .i64 0, .int .i64 0, .int .i64 0, .int .i64 0, .slice none 0 0, .slice none 0 0, .slice none 0 0] :: F) := (Own.sub (h) (by repeat (first | exact Sub.nil _ | exact Sub.rfl _ | (apply Sub.cons; focus ((repeat (first | with_reducible exact Pick.here | apply Pick.there)); done)) | apply Sub.drop)))
        exact h
      have h := prgIn.add h
      refine ⟨z - 1, by omega, i + 1, q7, d7, ms ++ [(q6, d6, R.1)], ?_, by omega, by simp [hml], ?_, ?_⟩
      · rw [wI64 (by omega) (by omega)]; rfl
      · rw [List.map_append, hms]
        show _ = (rdPs B i (sp6 B)).1 ++ [(rdProg B (rdPs B i (sp6 B)).2).1]
        rw [← hR]; rfl
      · have e1 : (rdPs B (i + 1) (sp6 B)).2 = R.2 := by rw [hR]; rfl
        rw [e1]; exact h.swap
    have hx := dec_f hx
    obtain rfl : i = snp B := by omega
    have e7 : (rdPs B (snp B) (sp6 B)).2 = sp7 B := rfl
    rw [e7] at h
    have hms : ms.map (fun x => x.2.2) = sPs B := hms
    obtain ⟨np, hnpe⟩ : ∃ np, np = snp B := ⟨_, rfl⟩
    rw [← hnpe] at h hml
    clear hx hvs hz hnpe
    have h : Own e w (tapeB 99 a7 q0 B.length c (sp7 B) :: prgB q1 np d1 ms :: prgIn ms :: scB a8 c0 c1 c2 c3 c4 (.slice q1 np d1) (.slice none 0 0) (.slice none 0 0) :: blk a1 29 [.int .i64 0, .int .i64 0, .int .i64 0, .int .i64 0, .int .i64 0, .slice none 0 0, .slice none 0 0, .slice none 0 0] :: F) := (Own.sub (h) (by repeat (first | exact Sub.nil _ | exact Sub.rfl _ | (apply Sub.cons; focus ((repeat (first | with_reducible exact Pick.here | apply Pick.there)); done)) | apply Sub.drop)))
    refine Rets.mono (rByte_spec h (fun w a h => hr0 w h.drop.drop.drop.drop.drop) l7 (by omega) hb) ?_
    clear h
    rintro _ w ⟨rfl, h⟩
    have v7 := tbV_bd hb (sp7 B)
    have en2 : tbV B (sp7 B) = (snd B : Int) := by unfold snd; omega
    have hnd : snd B < 256 := by unfold snd; omega
    rw [en2]
    have h : Own e w (tapeB 99 a7 q0 B.length c (sp8 B) :: _) := h
    have h : Own e w (inB none 0 0 [] :: _) := h.slNil
    refine ⟨_, rfl, fun z vs w => ∃ (i : Nat) (q3 : Option Addr) (d3 : Nat), vs = [.int .i64 (i : Int)] ∧ z + i = snd B ∧ Own e w (inB q3 i d3 (rdDs B i (sp8 B)).1 :: tapeB 99 a7 q0 B.length c (rdDs B i (sp8 B)).2 :: prgB q1 np d1 ms :: prgIn ms :: scB a8 c0 c1 c2 c3 c4 (.slice q1 np d1) (.slice none 0 0) (.slice q3 i d3) :: blk a1 29 [.int .i64 0, .int .i64 0, .int .i64 0, .int .i64 0, .int .i64 0, .slice none 0 0, .slice none 0 0, .slice none 0 0] :: F), ⟨snd B, 0, none, 0, rfl, rfl, h⟩, ?_⟩
    clear h
    rintro z w n19
    intros
    rename_i hI
    obtain ⟨i, q3, d3, hvs, hz, h⟩ := hI
    obtain rfl : n19 = (i : Int) := by simpa using hvs
    refine ⟨fun hx => ?_, fun hx => ?_⟩
    · have hx := dec_t hx
      have lp := rdDs_le l8 i
      have h : Own e w (tapeB 99 a7 q0 B.length c (rdDs B i (sp8 B)).2 :: inB q3 i d3 (rdDs B i (sp8 B)).1 :: prgB q1 np d1 ms :: prgIn ms :: scB a8 c0 c1 c2 c3 c4 (.slice q1 np d1) (.slice none 0 0) (.slice q3 i d3) :: blk a1 29 [.int .i64 0, .int .i64 0, .int .i64 0, .int .i64 0, .int .i64 0, .slice none 0 0, .slice none 0 0, .slice none 0 0] :: F) := (Own.sub (h) (by repeat (first | exact Sub.nil _ | exact Sub.rfl _ | (apply Sub.cons; focus ((repeat (first | with_reducible exact Pick.here | apply Pick.there)); done)) | apply Sub.drop)))
      refine h.drw fun w h => ⟨fun w => Own e w [scB a8 c0 c1 c2 c3 c4 (.slice q1 np d1) (.slice none 0 0) (.slice q3 i d3)], (Own.sub (h) (by repeat (first | exact Sub.nil _ | exact Sub.rfl _ | (apply Sub.cons; focus ((repeat (first | with_reducible exact Pick.here | apply Pick.there)); done)) | apply Sub.drop))), _, _, _, fun w h => Own.ld (g := a8) h (by repeat (first | with_reducible exact Pick.here | apply Pick.there)) rfl, ?_⟩
      refine Rets.mono (rInt_spec h (fun w a h => hr0 w h.drop.drop.drop.drop.drop.drop) lp (by omega) hb) ?_
      clear h
      rintro _ w ⟨rfl, h⟩
      obtain ⟨R, hR⟩ : ∃ R, R = tInt B (rdDs B i (sp8 B)).2 := ⟨_, rfl⟩
      rw [← hR] at h ⊢
      refine ⟨_, rfl, (Own.sub (h) (by repeat (first | exact Sub.nil _ | exact Sub.rfl _ | (apply Sub.cons; focus ((repeat (first | with_reducible exact Pick.here | apply Pick.there)); done)) | apply Sub.drop))), h.newR fun a3 w h => ⟨(Own.sub (h) (by repeat (first | exact Sub.nil _ | exact Sub.rfl _ | (apply Sub.cons; focus ((repeat (first | with_reducible exact Pick.here | apply Pick.there)); done)) | apply Sub.drop))), ?_⟩⟩
      have h : Own e w (blk a3 3 (cs .i64 [R.1]) :: _) := h
      have h : Own e w (blk a3 3 (cs .i64 [R.1]) :: inB q3 i d3 (rdDs B i (sp8 B)).1 :: tapeB 99 a7 q0 B.length c R.2 :: prgB q1 np d1 ms :: prgIn ms :: scB a8 c0 c1 c2 c3 c4 (.slice q1 np d1) (.slice none 0 0) (.slice q3 i d3) :: blk a1 29 [.int .i64 0, .int .i64 0, .int .i64 0, .int .i64 0, .int .i64 0, .slice none 0 0, .slice none 0 0, .slice none 0 0] :: F) := (Own.sub (h) (by repeat (first | exact Sub.nil _ | exact Sub.rfl _ | (apply Sub.cons; focus ((repeat (first | with_reducible exact Pick.here | apply Pick.there)); done)) | apply Sub.drop)))
      refine put64 (ys := [R.1]) h rfl (by omega) fun q7 d7 w h => ⟨_, _, _, rfl, Own.stP (g := a8) h (by repeat (first | with_reducible exact Pick.here | apply Pick.there)) (by simp) (by simp [Value.oneCell']) fun w h => ?_⟩
      simp only [setFrom, List.set_cons_zero, List.set_cons_succ, List.set_nil] at h
      refine ⟨z - 1, by omega, i + 1, q7, d7, ?_, by omega, ?_⟩
      · rw [wI64 (by omega) (by omega)]; rfl
      · have e1 : (rdDs B (i + 1) (sp8 B)) = ((rdDs B i (sp8 B)).1 ++ [R.1], R.2) := by rw [hR]; rfl
        rw [e1]; exact (Own.sub (h) (by repeat (first | exact Sub.nil _ | exact Sub.rfl _ | (apply Sub.cons; focus ((repeat (first | with_reducible exact Pick.here | apply Pick.there)); done)) | apply Sub.drop)))
    have hx := dec_f hx
    obtain rfl : i = snd B := by omega
    have e9 : (rdDs B (snd B) (sp8 B)).2 = sp9 B := rfl
    have e10 : (rdDs B (snd B) (sp8 B)).1 = sDs B := rfl
    have e11 : (sDs B).length = snd B := rdDs_len _ _ _
    rw [e9, e10, ← e11] at h
    clear hx hvs hz
    obtain ⟨DS, hDS⟩ : ∃ DS, DS = sDs B := ⟨_, rfl⟩
    rw [← hDS] at h ⊢
    obtain ⟨p9, hp9⟩ : ∃ p9, p9 = sp9 B := ⟨_, rfl⟩
    obtain ⟨PK, hPK⟩ : ∃ PK, PK = sPk B := ⟨_, rfl⟩
    have hPR : PK = (B.drop p9).take 4096 := by rw [hPK, hp9]; rfl
    have hPl : PK.length = min 4096 (B.length - p9) := by rw [hPR, List.length_take, List.length_drop]
    rw [← hp9] at h l9
    rw [← hPK]
    have hD255 : DS.length ≤ 255 := by rw [hDS, e11]; omega
    have h : Own e w (tapeB 99 a7 q0 B.length c p9 :: inB q3 DS.length d3 DS :: prgB q1 np d1 ms :: prgIn ms :: scB a8 c0 c1 c2 c3 c4 (.slice q1 np d1) (.slice none 0 0) (.slice q3 DS.length d3) :: blk a1 29 [.int .i64 0, .int .i64 0, .int .i64 0, .int .i64 0, .int .i64 0, .slice none 0 0, .slice none 0 0, .slice none 0 0] :: F) := (Own.sub (h) (by repeat (first | exact Sub.nil _ | exact Sub.rfl _ | (apply Sub.cons; focus ((repeat (first | with_reducible exact Pick.here | apply Pick.there)); done)) | apply Sub.drop)))
    have h : Own e w (tapeB 99 a7 q0 B.length c (p9 + 0) :: _) := h
    refine ⟨fun z vs w => ∃ (i : Nat) (q2 : Option Addr) (d2 : Nat), vs = [] ∧ z + i = PK.length ∧ Own e w (inB q2 i d2 (PK.take i) :: tapeB 99 a7 q0 B.length c (p9 + i) :: inB q3 DS.length d3 DS :: prgB q1 np d1 ms :: prgIn ms :: scB a8 c0 c1 c2 c3 c4 (.slice q1 np d1) (.slice q2 i d2) (.slice q3 DS.length d3) :: blk a1 29 [.int .i64 0, .int .i64 0, .int .i64 0, .int .i64 0, .int .i64 0, .slice none 0 0, .slice none 0 0, .slice none 0 0] :: F), ⟨PK.length, 0, none, 0, rfl, rfl, h.slNil⟩, ?_⟩
    clear h
    rintro z w
    intros
    rename_i hI
    obtain ⟨i, q2, d2, _, hz, h⟩ := hI
    refine h.drw fun w h => ⟨_, Own.ld (g := a7) h (by repeat (first | with_reducible exact Pick.here | apply Pick.there)) rfl, _, _, _, Own.ld (g := a7) h (by repeat (first | with_reducible exact Pick.here | apply Pick.there)) rfl, fun h1 => ⟨_, _, _, Own.ld (g := a8) h (by repeat (first | with_reducible exact Pick.here | apply Pick.there)) rfl, fun h2 => ?_, fun h2 => ?_⟩, fun h1 => ?_⟩
    · have h1 := dec_t h1
      have h2 := dec_t h2
      have hi : i < PK.length := by omega
      have hpB : p9 + i < B.length := by omega
      have h : Own e w (tapeB 99 a7 q0 B.length c (p9 + i) :: inB q2 i d2 (PK.take i) :: inB q3 DS.length d3 DS :: prgB q1 np d1 ms :: prgIn ms :: scB a8 c0 c1 c2 c3 c4 (.slice q1 np d1) (.slice q2 i d2) (.slice q3 DS.length d3) :: blk a1 29 [.int .i64 0, .int .i64 0, .int .i64 0, .int .i64 0, .int .i64 0, .slice none 0 0, .slice none 0 0, .slice none 0 0] :: F) := (Own.sub (h) (by repeat (first | exact Sub.nil _ | exact Sub.rfl _ | (apply Sub.cons; focus ((repeat (first | with_reducible exact Pick.here | apply Pick.there)); done)) | apply Sub.drop)))
      refine h.drw fun w h => ⟨fun w => Own e w [scB a8 c0 c1 c2 c3 c4 (.slice q1 np d1) (.slice q2 i d2) (.slice q3 DS.length d3)], (Own.sub (h) (by repeat (first | exact Sub.nil _ | exact Sub.rfl _ | (apply Sub.cons; focus ((repeat (first | with_reducible exact Pick.here | apply Pick.there)); done)) | apply Sub.drop))), _, _, _, fun w h => Own.ld (g := a8) h (by repeat (first | with_reducible exact Pick.here | apply Pick.there)) rfl, ?_⟩
      refine Rets.mono (rByte_spec h (fun w a h => hr0 w h.drop.drop.drop.drop.drop.drop.drop) (by omega) (by omega) hb) ?_
      clear h
      rintro _ w ⟨rfl, h⟩
      have ev : tbV B (p9 + i) = PK[i] := by
        unfold tbV
        rw [List.getD_eq_getElem?_getD, List.getElem?_eq_getElem hpB, Option.getD_some]
        simp only [hPR, List.getElem_take, List.getElem_drop]
      have ea : tbA B (p9 + i) = p9 + (i + 1) := by unfold tbA; rw [if_pos hpB]; omega
      rw [ea] at h
      rw [ev]
      refine ⟨_, rfl, (Own.sub (h) (by repeat (first | exact Sub.nil _ | exact Sub.rfl _ | (apply Sub.cons; focus ((repeat (first | with_reducible exact Pick.here | apply Pick.there)); done)) | apply Sub.drop))), h.newR fun a3 w h => ⟨(Own.sub (h) (by repeat (first | exact Sub.nil _ | exact Sub.rfl _ | (apply Sub.cons; focus ((repeat (first | with_reducible exact Pick.here | apply Pick.there)); done)) | apply Sub.drop))), ?_⟩⟩
      have h : Own e w (blk a3 3 (cs .i64 [PK[i]]) :: _) := h
      have h : Own e w (blk a3 3 (cs .i64 [PK[i]]) :: inB q2 i d2 (PK.take i) :: tapeB 99 a7 q0 B.length c (p9 + (i + 1)) :: inB q3 DS.length d3 DS :: prgB q1 np d1 ms :: prgIn ms :: scB a8 c0 c1 c2 c3 c4 (.slice q1 np d1) (.slice q2 i d2) (.slice q3 DS.length d3) :: blk a1 29 [.int .i64 0, .int .i64 0, .int .i64 0, .int .i64 0, .int .i64 0, .slice none 0 0, .slice none 0 0, .slice none 0 0] :: F) := (Own.sub (h) (by repeat (first | exact Sub.nil _ | exact Sub.rfl _ | (apply Sub.cons; focus ((repeat (first | with_reducible exact Pick.here | apply Pick.there)); done)) | apply Sub.drop)))
      have et : PK.take (i + 1) = PK.take i ++ [PK[i]] := List.take_succ_eq_append_getElem hi
      refine put64 (ys := [PK[i]]) h rfl (by omega) fun q7 d7 w h => ⟨_, _, _, rfl, Own.stP (g := a8) h (by repeat (first | with_reducible exact Pick.here | apply Pick.there)) (by simp) (by simp [Value.oneCell']) fun w h => ?_⟩
      simp only [setFrom, List.set_cons_zero, List.set_cons_succ, List.set_nil] at h
      rw [← et] at h
      exact ⟨z - 1, by omega, i + 1, q7, d7, rfl, by omega, (Own.sub (h) (by repeat (first | exact Sub.nil _ | exact Sub.rfl _ | (apply Sub.cons; focus ((repeat (first | with_reducible exact Pick.here | apply Pick.there)); done)) | apply Sub.drop)))⟩
    · have h1 := dec_t h1
      have h2 := dec_f h2
      obtain rfl : i = PK.length := by omega
      rw [List.take_length] at h
      refine ⟨_, _, _, _, _, _, _, _, _, _, _, _, _, _, ⟨Own.ld (g := a8) h (by repeat (first | with_reducible exact Pick.here | apply Pick.there)) rfl, Own.ld (g := a8) h (by repeat (first | with_reducible exact Pick.here | apply Pick.there)) rfl, Own.ld (g := a8) h (by repeat (first | with_reducible exact Pick.here | apply Pick.there)) rfl, Own.ld (g := a8) h (by repeat (first | with_reducible exact Pick.here | apply Pick.there)) rfl, Own.ld (g := a8) h (by repeat (first | with_reducible exact Pick.here | apply Pick.there)) rfl, Own.ld (g := a8) h (by repeat (first | with_reducible exact Pick.here | apply Pick.there)) rfl, Own.ld (g := a8) h (by repeat (first | with_reducible exact Pick.here | apply Pick.there)) rfl, Own.ld (g := a8) h (by repeat (first | with_reducible exact Pick.here | apply Pick.there)) rfl⟩, Own.stP' (g := a1) h (by repeat (first | with_reducible exact Pick.here | apply Pick.there)) (by simp) (by simp [Value.oneCell']) fun w h => ?_⟩
      simp only [setFrom, List.set_cons_zero, List.set_cons_succ, List.set_nil] at h
      refine ⟨_, _, _, _, _, _, _, _, _, _, _, _, _, _, ⟨Own.ld (g := a1) h (by repeat (first | with_reducible exact Pick.here | apply Pick.there)) rfl, Own.ld (g := a1) h (by repeat (first | with_reducible exact Pick.here | apply Pick.there)) rfl, Own.ld (g := a1) h (by repeat (first | with_reducible exact Pick.here | apply Pick.there)) rfl, Own.ld (g := a1) h (by repeat (first | with_reducible exact Pick.here | apply Pick.there)) rfl, Own.ld (g := a1) h (by repeat (first | with_reducible exact Pick.here | apply Pick.there)) rfl, Own.ld (g := a1) h (by repeat (first | with_reducible exact Pick.here | apply Pick.there)) rfl, Own.ld (g := a1) h (by repeat (first | with_reducible exact Pick.here | apply Pick.there)) rfl, Own.ld (g := a1) h (by repeat (first | with_reducible exact Pick.here | apply Pick.there)) rfl⟩, q1, d1, q2, d2, q3, d3, ms, by rw [hml], hms, ?_⟩
      rw [hml]
      exact (Own.sub (h) (by repeat (first | exact Sub.nil _ | exact Sub.rfl _ | (apply Sub.cons; focus ((repeat (first | with_reducible exact Pick.here | apply Pick.there)); done)) | apply Sub.drop)))
    · have h1 := dec_f h1
      obtain rfl : i = PK.length := by omega
      rw [List.take_length] at h
      refine ⟨_, _, _, _, _, _, _, _, _, _, _, _, _, _, ⟨Own.ld (g := a8) h (by repeat (first | with_reducible exact Pick.here | apply Pick.there)) rfl, Own.ld (g := a8) h (by repeat (first | with_reducible exact Pick.here | apply Pick.there)) rfl, Own.ld (g := a8) h (by repeat (first | with_reducible exact Pick.here | apply Pick.there)) rfl, Own.ld (g := a8) h (by repeat (first | with_reducible exact Pick.here | apply Pick.there)) rfl, Own.ld (g := a8) h (by repeat (first | with_reducible exact Pick.here | apply Pick.there)) rfl, Own.ld (g := a8) h (by repeat (first | with_reducible exact Pick.here | apply Pick.there)) rfl, Own.ld (g := a8) h (by repeat (first | with_reducible exact Pick.here | apply Pick.there)) rfl, Own.ld (g := a8) h (by repeat (first | with_reducible exact Pick.here | apply Pick.there)) rfl⟩, Own.stP' (g := a1) h (by repeat (first | with_reducible exact Pick.here | apply Pick.there)) (by simp) (by simp [Value.oneCell']) fun w h => ?_⟩
      simp only [setFrom, List.set_cons_zero, List.set_cons_succ, List.set_nil] at h
      refine ⟨_, _, _, _, _, _, _, _, _, _, _, _, _, _, ⟨Own.ld (g := a1) h (by repeat (first | with_reducible exact Pick.here | apply Pick.there)) rfl, Own.ld (g := a1) h (by repeat (first | with_reducible exact Pick.here | apply Pick.there)) rfl, Own.ld (g := a1) h (by repeat (first | with_reducible exact Pick.here | apply Pick.there)) rfl, Own.ld (g := a1) h (by repeat (first | with_reducible exact Pick.here | apply Pick.there)) rfl, Own.ld (g := a1) h (by repeat (first | with_reducible exact Pick.here | apply Pick.there)) rfl, Own.ld (g := a1) h (by repeat (first | with_reducible exact Pick.here | apply Pick.there)) rfl, Own.ld (g := a1) h (by repeat (first | with_reducible exact Pick.here | apply Pick.there)) rfl, Own.ld (g := a1) h (by repeat (first | with_reducible exact Pick.here | apply Pick.there)) rfl⟩, q1, d1, q2, d2, q3, d3, ms, by rw [hml], hms, ?_⟩
      rw [hml]
      exact (Own.sub (h) (by repeat (first | exact Sub.nil _ | exact Sub.rfl _ | (apply Sub.cons; focus ((repeat (first | with_reducible exact Pick.here | apply Pick.there)); done)) | apply Sub.drop)))
  · have hx := dec_f hx
    have e1 := hbl2 (by omega)
    rw [e1]
    obtain ⟨q0, hq0⟩ : ∃ q0, q0 = q := ⟨_, rfl⟩
    rw [← hq0] at hr1 ⊢
    have hr0 := hr1
    clear hx hbl1 hbl2 hr1 hq0 e1
    refine h.newR fun a7 w h => h.newR fun a8 w h => ?_
    have h : Own e w (scB a8 0 0 0 0 0 (.slice none 0 0) (.slice none 0 0) (.slice none 0 0) :: tapeB 99 a7 q0 B.length c 0 :: blk a1 29 [.int .i64 0, .int .i64 0, .int .i64 0, .int .i64 0, .int .i64 0, .slice none 0 0, .slice none 0 0, .slice none 0 0] :: F) := h
    have h := h.swap
    have hrd : ∀ c0 c1 c2 c3 c4 s1 s2 s3 w a, Own e w (tapeB 99 a7 q0 B.length c a :: scB a8 c0 c1 c2 c3 c4 s1 s2 s3 :: blk a1 29 [.int .i64 0, .int .i64 0, .int .i64 0, .int .i64 0, .int .i64 0, .slice none 0 0, .slice none 0 0, .slice none 0 0] :: F) → RdC w q0 (cs .u8 B) := fun c0 c1 c2 c3 c4 s1 s2 s3 w a h => hr0 w h.drop.drop.drop
    refine Rets.mono (rInt_spec h (hrd _ _ _ _ _ _ _ _) (Nat.zero_le _) (by omega) hb) ?_
    clear h
    rintro _ w ⟨rfl, h⟩
    have h : Own e w (tapeB 99 a7 q0 B.length c (sp1 B) :: _) := h
    refine ⟨_, rfl, ?_⟩
    refine Rets.mono (rBelow_spec h (hrd _ _ _ _ _ _ _ _) l1 (by omega) hb) ?_
    clear h
    rintro _ w ⟨rfl, h⟩
    rw [if_neg (by omega)] at h ⊢
    have h : Own e w (tapeB 99 a7 q0 B.length c (sp2 B) :: _) := h
    refine ⟨_, rfl, ?_⟩
    refine Rets.mono (rBelow_spec h (hrd _ _ _ _ _ _ _ _) l2 (by omega) hb) ?_
    clear h
    rintro _ w ⟨rfl, h⟩
    rw [if_neg (by omega)] at h ⊢
    have h : Own e w (tapeB 99 a7 q0 B.length c (sp3 B) :: _) := h
    refine ⟨_, rfl, ?_⟩
    refine Rets.mono (rBelow_spec h (hrd _ _ _ _ _ _ _ _) l3 (by omega) hb) ?_
    clear h
    rintro _ w ⟨rfl, h⟩
    rw [if_neg (by omega)] at h ⊢
    have h : Own e w (tapeB 99 a7 q0 B.length c (sp4 B) :: _) := h
    refine ⟨_, rfl, ?_⟩
    refine Rets.mono (rInt_spec h (hrd _ _ _ _ _ _ _ _) l4 (by omega) hb) ?_
    clear h
    rintro _ w ⟨rfl, h⟩
    have h : Own e w (tapeB 99 a7 q0 B.length c (sp5 B) :: _) := h
    have v1 := tbV_bd hb (sp1 B)
    have v2 := tbV_bd hb (sp2 B)
    have v3 := tbV_bd hb (sp3 B)
    refine ⟨_, rfl, ?_⟩
    rw [Int.tmod_eq_emod_of_nonneg (a := tbV B (sp1 B)) (by omega), Int.tmod_eq_emod_of_nonneg (a := tbV B (sp2 B)) (by omega), Int.tmod_eq_emod_of_nonneg (a := tbV B (sp3 B)) (by omega), wI64 (n := tbV B (sp1 B) % 64 + 1) (by omega) (by omega), wI64 (n := tbV B (sp2 B) % 16 + 1) (by omega) (by omega)]
    refine Rets.mono (rdNear h) ?_
    clear h
    rintro _ w ⟨rfl, h⟩
    refine ⟨_, _, _, _, _, rfl, Own.stP (g := a8) h (by repeat (first | with_reducible exact Pick.here | apply Pick.there)) (by simp) (by simp [Value.oneCell']) fun w h => ?_⟩
    simp only [setFrom, List.set_cons_zero, List.set_cons_succ, List.set_nil] at h
    have h : Own e w (scB a8 (sC0 B) (sC1 B) (sC2 B) (sC3 B) (sC4 B) (.slice none 0 0) (.slice none 0 0) (.slice none 0 0) :: _) := h
    generalize sC0 B = c0, sC1 B = c1, sC2 B = c2, sC3 B = c3, sC4 B = c4 at h ⊢
    have h : Own e w (tapeB 99 a7 q0 B.length c (sp5 B) :: scB a8 c0 c1 c2 c3 c4 (.slice none 0 0) (.slice none 0 0) (.slice none 0 0) :: blk a1 29 [.int .i64 0, .int .i64 0, .int .i64 0, .int .i64 0, .int .i64 0, .slice none 0 0, .slice none 0 0, .slice none 0 0] :: F) := (Own.sub (h) (by repeat (first | exact Sub.nil _ | exact Sub.rfl _ | (apply Sub.cons; focus ((repeat (first | with_reducible exact Pick.here | apply Pick.there)); done)) | apply Sub.drop)))
    refine Rets.mono (rBelow_spec h (hrd _ _ _ _ _ _ _ _) l5 (by omega) hb) ?_
    clear h
    rintro _ w ⟨rfl, h⟩
    have v5 := tbV_bd hb (sp5 B)
    rw [if_neg (by omega)] at h ⊢
    have en : (tbV B (sp5 B)).tmod 7 = (snp B : Int) := by rw [Int.tmod_eq_emod_of_nonneg (by omega)]; unfold snp; omega
    rw [en]
    have hnp : snp B < 7 := by unfold snp; omega
    have h : Own e w (tapeB 99 a7 q0 B.length c (sp6 B) :: _) := h
    have h : Own e w (prgB none 0 0 [] :: prgIn [] :: _) := (prgIn.nil h).slNil
    refine ⟨_, rfl, fun z vs w => ∃ (i : Nat) (q1 : Option Addr) (d1 : Nat) (ms : List (Sl Op5)), vs = [.int .i64 (i : Int)] ∧ z + i = snp B ∧ ms.length = i ∧ ms.map (fun x => x.2.2) = (rdPs B i (sp6 B)).1 ∧ Own e w (prgB q1 i d1 ms :: prgIn ms :: tapeB 99 a7 q0 B.length c (rdPs B i (sp6 B)).2 :: scB a8 c0 c1 c2 c3 c4 (.slice q1 i d1) (.slice none 0 0) (.slice none 0 0) :: blk a1 29 [.int .i64 0, .int .i64 0, .int .i64 0, .int .i64 0, .int .i64 0, .slice none 0 0, .slice none 0 0, .slice none 0 0] :: F), ⟨snp B, 0, none, 0, [], rfl, rfl, rfl, rfl, h⟩, ?_⟩
    clear h hrd
    rintro z w n17
    intros
    rename_i hI
    obtain ⟨i, q1, d1, ms, hvs, hz, hml, hms, h⟩ := hI
    obtain rfl : n17 = (i : Int) := by simpa using hvs
    refine ⟨fun hx => ?_, fun hx => ?_⟩
    · have hx := dec_t hx
      have lp := rdPs_le l6 i
      have h : Own e w (tapeB 99 a7 q0 B.length c (rdPs B i (sp6 B)).2 :: prgB q1 i d1 ms :: prgIn ms :: scB a8 c0 c1 c2 c3 c4 (.slice q1 i d1) (.slice none 0 0) (.slice none 0 0) :: blk a1 29 [.int .i64 0, .int .i64 0, .int .i64 0, .int .i64 0, .int .i64 0, .slice none 0 0, .slice none 0 0, .slice none 0 0] :: F) := (Own.sub (h) (by repeat (first | exact Sub.nil _ | exact Sub.rfl _ | (apply Sub.cons; focus ((repeat (first | with_reducible exact Pick.here | apply Pick.there)); done)) | apply Sub.drop)))
      refine h.drw fun w h => ⟨fun w => Own e w [scB a8 c0 c1 c2 c3 c4 (.slice q1 i d1) (.slice none 0 0) (.slice none 0 0)], (Own.sub (h) (by repeat (first | exact Sub.nil _ | exact Sub.rfl _ | (apply Sub.cons; focus ((repeat (first | with_reducible exact Pick.here | apply Pick.there)); done)) | apply Sub.drop))), _, _, _, fun w h => Own.ld (g := a8) h (by repeat (first | with_reducible exact Pick.here | apply Pick.there)) rfl, ?_⟩
      refine Rets.mono (rfRead h (fun w a h => hr0 w h.drop.drop.drop.drop.drop) lp (by omega) hb) ?_
      clear h
      rintro _ w ⟨q6, d6, rfl, h⟩
      obtain ⟨R, hR⟩ : ∃ R, R = rdProg B (rdPs B i (sp6 B)).2 := ⟨_, rfl⟩
      rw [← hR] at h ⊢
      refine ⟨_, _, _, rfl, (Own.sub (h) (by repeat (first | exact Sub.nil _ | exact Sub.rfl _ | (apply Sub.cons; focus ((repeat (first | with_reducible exact Pick.here | apply Pick.there)); done)) | apply Sub.drop))), h.newR fun a3 w h => ⟨(Own.sub (h) (by repeat (first | exact Sub.nil _ | exact Sub.rfl _ | (apply Sub.cons; focus ((repeat (first | with_reducible exact Pick.here | apply Pick.there)); done)) | apply Sub.drop))), ?_⟩⟩
      have h : Own e w (blk a3 76 [Sl.v (q6, d6, R.1)] :: _) := h
      have h : Own e w (blk a3 76 [Sl.v (q6, d6, R.1)] :: prgB q1 i d1 ms :: opsB q6 R.1.length d6 R.1 :: tapeB 99 a7 q0 B.length c R.2 :: prgIn ms :: scB a8 c0 c1 c2 c3 c4 (.slice q1 i d1) (.slice none 0 0) (.slice none 0 0) :: blk a1 29 [.int .i64 0, .int .i64 0, .int .i64 0, .int .i64 0, .int .i64 0, .slice none 0 0, .slice none 0 0, .slice none 0 0] :: F) := (Own.sub (h) (by repeat (first | exact Sub.nil _ | exact Sub.rfl _ | (apply Sub.cons; focus ((repeat (first | with_reducible exact Pick.here | apply Pick.there)); done)) | apply Sub.drop)))
      refine putPr h (by omega) fun q7 d7 w h => ⟨_, _, _, rfl, Own.stP (g := a8) h (by repeat (first | with_reducible exact Pick.here | apply Pick.there)) (by simp) (by simp [Value.oneCell']) fun w h => ?_⟩
      simp only [setFrom, List.set_cons_zero, List.set_cons_succ, List.set_nil] at h
      have h : Own e w (slP (q6, d6, R.1) :: prgIn ms :: prgB q7 (i + 1) d7 (ms ++ [(q6, d6, R.1)]) :: tapeB 99 a7 q0 B.length c R.2 :: scB a8 c0 c1 c2 c3 c4 (.slice q7 (i + 1) d7) (.slice none 0 0) (.slice none 0 0) :: blk a1 29 [.int .i64 0, .int .i64 0, .int .i64 0, .int .i64 0, .int .i64 0, .slice none 0 0, .slice none 0 0, .slice none 0 0] :: F) := by
        have h : Own e w (opsB q6 R.1.length d6 R.1 :: prgIn ms :: prgB q7 (i + 1) d7 (ms ++ [(q6, d6, R.1)]) :: tapeB 99 a7 q0 B.length c R.2 :: scB a8 c0 c1 c2 c3 c4 (.slice q7 (i + 1) d7) (.slice none 0 0) (.slice none 0 0) :: blk a1 29 [.int .i64 0, .int .i64 0, .int .i64 0, .int .i64 0, .int .i64 0, .slice none 0 0, .slice none 0 0, .slice none 0 0] :: F) := (Own.sub (h) (by repeat (first | exact Sub.nil _ | exact Sub.rfl _ | (apply Sub.cons; focus ((repeat (first | with_reducible exact Pick.here | apply Pick.there)); done)) | apply Sub.drop)))
        exact h
      have h := prgIn.add h
      refine ⟨z - 1, by omega, i + 1, q7, d7, ms ++ [(q6, d6, R.1)], ?_, by omega, by simp [hml], ?_, ?_⟩
      · rw [wI64 (by omega) (by omega)]; rfl
      · rw [List.map_append, hms]
        show _ = (rdPs B i (sp6 B)).1 ++ [(rdProg B (rdPs B i (sp6 B)).2).1]
        rw [← hR]; rfl
      · have e1 : (rdPs B (i + 1) (sp6 B)).2 = R.2 := by rw [hR]; rfl
        rw [e1]; exact h.swap
    have hx := dec_f hx
    obtain rfl : i = snp B := by omega
    have e7 : (rdPs B (snp B) (sp6 B)).2 = sp7 B := rfl
    rw [e7] at h
    have hms : ms.map (fun x => x.2.2) = sPs B := hms
    obtain ⟨np, hnpe⟩ : ∃ np, np = snp B := ⟨_, rfl⟩
    rw [← hnpe] at h hml
    clear hx hvs hz hnpe
    have h : Own e w (tapeB 99 a7 q0 B.length c (sp7 B) :: prgB q1 np d1 ms :: prgIn ms :: scB a8 c0 c1 c2 c3 c4 (.slice q1 np d1) (.slice none 0 0) (.slice none 0 0) :: blk a1 29 [.int .i64 0, .int .i64 0, .int .i64 0, .int .i64 0, .int .i64 0, .slice none 0 0, .slice none 0 0, .slice none 0 0] :: F) := (Own.sub (h) (by repeat (first | exact Sub.nil _ | exact Sub.rfl _ | (apply Sub.cons; focus ((repeat (first | with_reducible exact Pick.here | apply Pick.there)); done)) | apply Sub.drop)))
    refine Rets.mono (rByte_spec h (fun w a h => hr0 w h.drop.drop.drop.drop.drop) l7 (by omega) hb) ?_
    clear h
    rintro _ w ⟨rfl, h⟩
    have v7 := tbV_bd hb (sp7 B)
    have en2 : tbV B (sp7 B) = (snd B : Int) := by unfold snd; omega
    have hnd : snd B < 256 := by unfold snd; omega
    rw [en2]
    have h : Own e w (tapeB 99 a7 q0 B.length c (sp8 B) :: _) := h
    have h : Own e w (inB none 0 0 [] :: _) := h.slNil
    refine ⟨_, rfl, fun z vs w => ∃ (i : Nat) (q3 : Option Addr) (d3 : Nat), vs = [.int .i64 (i : Int)] ∧ z + i = snd B ∧ Own e w (inB q3 i d3 (rdDs B i (sp8 B)).1 :: tapeB 99 a7 q0 B.length c (rdDs B i (sp8 B)).2 :: prgB q1 np d1 ms :: prgIn ms :: scB a8 c0 c1 c2 c3 c4 (.slice q1 np d1) (.slice none 0 0) (.slice q3 i d3) :: blk a1 29 [.int .i64 0, .int .i64 0, .int .i64 0, .int .i64 0, .int .i64 0, .slice none 0 0, .slice none 0 0, .slice none 0 0] :: F), ⟨snd B, 0, none, 0, rfl, rfl, h⟩, ?_⟩
    clear h
    rintro z w n19
    intros
    rename_i hI
    obtain ⟨i, q3, d3, hvs, hz, h⟩ := hI
    obtain rfl : n19 = (i : Int) := by simpa using hvs
    refine ⟨fun hx => ?_, fun hx => ?_⟩
    · have hx := dec_t hx
      have lp := rdDs_le l8 i
      have h : Own e w (tapeB 99 a7 q0 B.length c (rdDs B i (sp8 B)).2 :: inB q3 i d3 (rdDs B i (sp8 B)).1 :: prgB q1 np d1 ms :: prgIn ms :: scB a8 c0 c1 c2 c3 c4 (.slice q1 np d1) (.slice none 0 0) (.slice q3 i d3) :: blk a1 29 [.int .i64 0, .int .i64 0, .int .i64 0, .int .i64 0, .int .i64 0, .slice none 0 0, .slice none 0 0, .slice none 0 0] :: F) := (Own.sub (h) (by repeat (first | exact Sub.nil _ | exact Sub.rfl _ | (apply Sub.cons; focus ((repeat (first | with_reducible exact Pick.here | apply Pick.there)); done)) | apply Sub.drop)))
      refine h.drw fun w h => ⟨fun w => Own e w [scB a8 c0 c1 c2 c3 c4 (.slice q1 np d1) (.slice none 0 0) (.slice q3 i d3)], (Own.sub (h) (by repeat (first | exact Sub.nil _ | exact Sub.rfl _ | (apply Sub.cons; focus ((repeat (first | with_reducible exact Pick.here | apply Pick.there)); done)) | apply Sub.drop))), _, _, _, fun w h => Own.ld (g := a8) h (by repeat (first | with_reducible exact Pick.here | apply Pick.there)) rfl, ?_⟩
      refine Rets.mono (rInt_spec h (fun w a h => hr0 w h.drop.drop.drop.drop.drop.drop) lp (by omega) hb) ?_
      clear h
      rintro _ w ⟨rfl, h⟩
      obtain ⟨R, hR⟩ : ∃ R, R = tInt B (rdDs B i (sp8 B)).2 := ⟨_, rfl⟩
      rw [← hR] at h ⊢
      refine ⟨_, rfl, (Own.sub (h) (by repeat (first | exact Sub.nil _ | exact Sub.rfl _ | (apply Sub.cons; focus ((repeat (first | with_reducible exact Pick.here | apply Pick.there)); done)) | apply Sub.drop))), h.newR fun a3 w h => ⟨(Own.sub (h) (by repeat (first | exact Sub.nil _ | exact Sub.rfl _ | (apply Sub.cons; focus ((repeat (first | with_reducible exact Pick.here | apply Pick.there)); done)) | apply Sub.drop))), ?_⟩⟩
      have h : Own e w (blk a3 3 (cs .i64 [R.1]) :: _) := h
      have h : Own e w (blk a3 3 (cs .i64 [R.1]) :: inB q3 i d3 (rdDs B i (sp8 B)).1 :: tapeB 99 a7 q0 B.length c R.2 :: prgB q1 np d1 ms :: prgIn ms :: scB a8 c0 c1 c2 c3 c4 (.slice q1 np d1) (.slice none 0 0) (.slice q3 i d3) :: blk a1 29 [.int .i64 0, .int .i64 0, .int .i64 0, .int .i64 0, .int .i64 0, .slice none 0 0, .slice none 0 0, .slice none 0 0] :: F) := (Own.sub (h) (by repeat (first | exact Sub.nil _ | exact Sub.rfl _ | (apply Sub.cons; focus ((repeat (first | with_reducible exact Pick.here | apply Pick.there)); done)) | apply Sub.drop)))
      refine put64 (ys := [R.1]) h rfl (by omega) fun q7 d7 w h => ⟨_, _, _, rfl, Own.stP (g := a8) h (by repeat (first | with_reducible exact Pick.here | apply Pick.there)) (by simp) (by simp [Value.oneCell']) fun w h => ?_⟩
      simp only [setFrom, List.set_cons_zero, List.set_cons_succ, List.set_nil] at h
      refine ⟨z - 1, by omega, i + 1, q7, d7, ?_, by omega, ?_⟩
      · rw [wI64 (by omega) (by omega)]; rfl
      · have e1 : (rdDs B (i + 1) (sp8 B)) = ((rdDs B i (sp8 B)).1 ++ [R.1], R.2) := by rw [hR]; rfl
        rw [e1]; exact (Own.sub (h) (by repeat (first | exact Sub.nil _ | exact Sub.rfl _ | (apply Sub.cons; focus ((repeat (first | with_reducible exact Pick.here | apply Pick.there)); done)) | apply Sub.drop)))
    have hx := dec_f hx
    obtain rfl : i = snd B := by omega
    have e9 : (rdDs B (snd B) (sp8 B)).2 = sp9 B := rfl
    have e10 : (rdDs B (snd B) (sp8 B)).1 = sDs B := rfl
    have e11 : (sDs B).length = snd B := rdDs_len _ _ _
    rw [e9, e10, ← e11] at h
    clear hx hvs hz
    obtain ⟨DS, hDS⟩ : ∃ DS, DS = sDs B := ⟨_, rfl⟩
    rw [← hDS] at h ⊢
    obtain ⟨p9, hp9⟩ : ∃ p9, p9 = sp9 B := ⟨_, rfl⟩
    obtain ⟨PK, hPK⟩ : ∃ PK, PK = sPk B := ⟨_, rfl⟩
    have hPR : PK = (B.drop p9).take 4096 := by rw [hPK, hp9]; rfl
    have hPl : PK.length = min 4096 (B.length - p9) := by rw [hPR, List.length_take, List.length_drop]
    rw [← hp9] at h l9
    rw [← hPK]
    have hD255 : DS.length ≤ 255 := by rw [hDS, e11]; omega
    have h : Own e w (tapeB 99 a7 q0 B.length c p9 :: inB q3 DS.length d3 DS :: prgB q1 np d1 ms :: prgIn ms :: scB a8 c0 c1 c2 c3 c4 (.slice q1 np d1) (.slice none 0 0) (.slice q3 DS.length d3) :: blk a1 29 [.int .i64 0, .int .i64 0, .int .i64 0, .int .i64 0, .int .i64 0, .slice none 0 0, .slice none 0 0, .slice none 0 0] :: F) := (Own.sub (h) (by repeat (first | exact Sub.nil _ | exact Sub.rfl _ | (apply Sub.cons; focus ((repeat (first | with_reducible exact Pick.here | apply Pick.there)); done)) | apply Sub.drop)))
    have h : Own e w (tapeB 99 a7 q0 B.length c (p9 + 0) :: _) := h
    refine ⟨fun z vs w => ∃ (i : Nat) (q2 : Option Addr) (d2 : Nat), vs = [] ∧ z + i = PK.length ∧ Own e w (inB q2 i d2 (PK.take i) :: tapeB 99 a7 q0 B.length c (p9 + i) :: inB q3 DS.length d3 DS :: prgB q1 np d1 ms :: prgIn ms :: scB a8 c0 c1 c2 c3 c4 (.slice q1 np d1) (.slice q2 i d2) (.slice q3 DS.length d3) :: blk a1 29 [.int .i64 0, .int .i64 0, .int .i64 0, .int .i64 0, .int .i64 0, .slice none 0 0, .slice none 0 0, .slice none 0 0] :: F), ⟨PK.length, 0, none, 0, rfl, rfl, h.slNil⟩, ?_⟩
    clear h
    rintro z w
    intros
    rename_i hI
    obtain ⟨i, q2, d2, _, hz, h⟩ := hI
    refine h.drw fun w h => ⟨_, Own.ld (g := a7) h (by repeat (first | with_reducible exact Pick.here | apply Pick.there)) rfl, _, _, _, Own.ld (g := a7) h (by repeat (first | with_reducible exact Pick.here | apply Pick.there)) rfl, fun h1 => ⟨_, _, _, Own.ld (g := a8) h (by repeat (first | with_reducible exact Pick.here | apply Pick.there)) rfl, fun h2 => ?_, fun h2 => ?_⟩, fun h1 => ?_⟩
    · have h1 := dec_t h1
      have h2 := dec_t h2
      have hi : i < PK.length := by omega
      have hpB : p9 + i < B.length := by omega
      have h : Own e w (tapeB 99 a7 q0 B.length c (p9 + i) :: inB q2 i d2 (PK.take i) :: inB q3 DS.length d3 DS :: prgB q1 np d1 ms :: prgIn ms :: scB a8 c0 c1 c2 c3 c4 (.slice q1 np d1) (.slice q2 i d2) (.slice q3 DS.length d3) :: blk a1 29 [.int .i64 0, .int .i64 0, .int .i64 0, .int .i64 0, .int .i64 0, .slice none 0 0, .slice none 0 0, .slice none 0 0] :: F) := (Own.sub (h) (by repeat (first | exact Sub.nil _ | exact Sub.rfl _ | (apply Sub.cons; focus ((repeat (first | with_reducible exact Pick.here | apply Pick.there)); done)) | apply Sub.drop)))
      refine h.drw fun w h => ⟨fun w => Own e w [scB a8 c0 c1 c2 c3 c4 (.slice q1 np d1) (.slice q2 i d2) (.slice q3 DS.length d3)], (Own.sub (h) (by repeat (first | exact Sub.nil _ | exact Sub.rfl _ | (apply Sub.cons; focus ((repeat (first | with_reducible exact Pick.here | apply Pick.there)); done)) | apply Sub.drop))), _, _, _, fun w h => Own.ld (g := a8) h (by repeat (first | with_reducible exact Pick.here | apply Pick.there)) rfl, ?_⟩
      refine Rets.mono (rByte_spec h (fun w a h => hr0 w h.drop.drop.drop.drop.drop.drop.drop) (by omega) (by omega) hb) ?_
      clear h
      rintro _ w ⟨rfl, h⟩
      have ev : tbV B (p9 + i) = PK[i] := by
        unfold tbV
        rw [List.getD_eq_getElem?_getD, List.getElem?_eq_getElem hpB, Option.getD_some]
        simp only [hPR, List.getElem_take, List.getElem_drop]
      have ea : tbA B (p9 + i) = p9 + (i + 1) := by unfold tbA; rw [if_pos hpB]; omega
      rw [ea] at h
      rw [ev]
      refine ⟨_, rfl, (Own.sub (h) (by repeat (first | exact Sub.nil _ | exact Sub.rfl _ | (apply Sub.cons; focus ((repeat (first | with_reducible exact Pick.here | apply Pick.there)); done)) | apply Sub.drop))), h.newR fun a3 w h => ⟨(Own.sub (h) (by repeat (first | exact Sub.nil _ | exact Sub.rfl _ | (apply Sub.cons; focus ((repeat (first | with_reducible exact Pick.here | apply Pick.there)); done)) | apply Sub.drop))), ?_⟩⟩
      have h : Own e w (blk a3 3 (cs .i64 [PK[i]]) :: _) := h
      have h : Own e w (blk a3 3 (cs .i64 [PK[i]]) :: inB q2 i d2 (PK.take i) :: tapeB 99 a7 q0 B.length c (p9 + (i + 1)) :: inB q3 DS.length d3 DS :: prgB q1 np d1 ms :: prgIn ms :: scB a8 c0 c1 c2 c3 c4 (.slice q1 np d1) (.slice q2 i d2) (.slice q3 DS.length d3) :: blk a1 29 [.int .i64 0, .int .i64 0, .int .i64 0, .int .i64 0, .int .i64 0, .slice none 0 0, .slice none 0 0, .slice none 0 0] :: F) := (Own.sub (h) (by repeat (first | exact Sub.nil _ | exact Sub.rfl _ | (apply Sub.cons; focus ((repeat (first | with_reducible exact Pick.here | apply Pick.there)); done)) | apply Sub.drop)))
      have et : PK.take (i + 1) = PK.take i ++ [PK[i]] := List.take_succ_eq_append_getElem hi
      refine put64 (ys := [PK[i]]) h rfl (by omega) fun q7 d7 w h => ⟨_, _, _, rfl, Own.stP (g := a8) h (by repeat (first | with_reducible exact Pick.here | apply Pick.there)) (by simp) (by simp [Value.oneCell']) fun w h => ?_⟩
      simp only [setFrom, List.set_cons_zero, List.set_cons_succ, List.set_nil] at h
      rw [← et] at h
      exact ⟨z - 1, by omega, i + 1, q7, d7, rfl, by omega, (Own.sub (h) (by repeat (first | exact Sub.nil _ | exact Sub.rfl _ | (apply Sub.cons; focus ((repeat (first | with_reducible exact Pick.here | apply Pick.there)); done)) | apply Sub.drop)))⟩
    · have h1 := dec_t h1
      have h2 := dec_f h2
      obtain rfl : i = PK.length := by omega
      rw [List.take_length] at h
      refine ⟨_, _, _, _, _, _, _, _, _, _, _, _, _, _, ⟨Own.ld (g := a8) h (by repeat (first | with_reducible exact Pick.here | apply Pick.there)) rfl, Own.ld (g := a8) h (by repeat (first | with_reducible exact Pick.here | apply Pick.there)) rfl, Own.ld (g := a8) h (by repeat (first | with_reducible exact Pick.here | apply Pick.there)) rfl, Own.ld (g := a8) h (by repeat (first | with_reducible exact Pick.here | apply Pick.there)) rfl, Own.ld (g := a8) h (by repeat (first | with_reducible exact Pick.here | apply Pick.there)) rfl, Own.ld (g := a8) h (by repeat (first | with_reducible exact Pick.here | apply Pick.there)) rfl, Own.ld (g := a8) h (by repeat (first | with_reducible exact Pick.here | apply Pick.there)) rfl, Own.ld (g := a8) h (by repeat (first | with_reducible exact Pick.here | apply Pick.there)) rfl⟩, Own.stP' (g := a1) h (by repeat (first | with_reducible exact Pick.here | apply Pick.there)) (by simp) (by simp [Value.oneCell']) fun w h => ?_⟩
      simp only [setFrom, List.set_cons_zero, List.set_cons_succ, List.set_nil] at h
      refine ⟨_, _, _, _, _, _, _, _, _, _, _, _, _, _, ⟨Own.ld (g := a1) h (by repeat (first | with_reducible exact Pick.here | apply Pick.there)) rfl, Own.ld (g := a1) h (by repeat (first | with_reducible exact Pick.here | apply Pick.there)) rfl, Own.ld (g := a1) h (by repeat (first | with_reducible exact Pick.here | apply Pick.there)) rfl, Own.ld (g := a1) h (by repeat (first | with_reducible exact Pick.here | apply Pick.there)) rfl, Own.ld (g := a1) h (by repeat (first | with_reducible exact Pick.here | apply Pick.there)) rfl, Own.ld (g := a1) h (by repeat (first | with_reducible exact Pick.here | apply Pick.there)) rfl, Own.ld (g := a1) h (by repeat (first | with_reducible exact Pick.here | apply Pick.there)) rfl, Own.ld (g := a1) h (by repeat (first | with_reducible exact Pick.here | apply Pick.there)) rfl⟩, q1, d1, q2, d2, q3, d3, ms, by rw [hml], hms, ?_⟩
      rw [hml]
      exact (Own.sub (h) (by repeat (first | exact Sub.nil _ | exact Sub.rfl _ | (apply Sub.cons; focus ((repeat (first | with_reducible exact Pick.here | apply Pick.there)); done)) | apply Sub.drop)))
    · have h1 := dec_f h1
      obtain rfl : i = PK.length := by omega
      rw [List.take_length] at h
      refine ⟨_, _, _, _, _, _, _, _, _, _, _, _, _, _, ⟨Own.ld (g := a8) h (by repeat (first | with_reducible exact Pick.here | apply Pick.there)) rfl, Own.ld (g := a8) h (by repeat (first | with_reducible exact Pick.here | apply Pick.there)) rfl, Own.ld (g := a8) h (by repeat (first | with_reducible exact Pick.here | apply Pick.there)) rfl, Own.ld (g := a8) h (by repeat (first | with_reducible exact Pick.here | apply Pick.there)) rfl, Own.ld (g := a8) h (by repeat (first | with_reducible exact Pick.here | apply Pick.there)) rfl, Own.ld (g := a8) h (by repeat (first | with_reducible exact Pick.here | apply Pick.there)) rfl, Own.ld (g := a8) h (by repeat (first | with_reducible exact Pick.here | apply Pick.there)) rfl, Own.ld (g := a8) h (by repeat (first | with_reducible exact Pick.here | apply Pick.there)) rfl⟩, Own.stP' (g := a1) h (by repeat (first | with_reducible exact Pick.here | apply Pick.there)) (by simp) (by simp [Value.oneCell']) fun w h => ?_⟩
      simp only [setFrom, List.set_cons_zero, List.set_cons_succ, List.set_nil] at h
      refine ⟨_, _, _, _, _, _, _, _, _, _, _, _, _, _, ⟨Own.ld (g := a1) h (by repeat (first | with_reducible exact Pick.here | apply Pick.there)) rfl, Own.ld (g := a1) h (by repeat (first | with_reducible exact Pick.here | apply Pick.there)) rfl, Own.ld (g := a1) h (by repeat (first | with_reducible exact Pick.here | apply Pick.there)) rfl, Own.ld (g := a1) h (by repeat (first | with_reducible exact Pick.here | apply Pick.there)) rfl, Own.ld (g := a1) h (by repeat (first | with_reducible exact Pick.here | apply Pick.there)) rfl, Own.ld (g := a1) h (by repeat (first | with_reducible exact Pick.here | apply Pick.there)) rfl, Own.ld (g := a1) h (by repeat (first | with_reducible exact Pick.here | apply Pick.there)) rfl, Own.ld (g := a1) h (by repeat (first | with_reducible exact Pick.here | apply Pick.there)) rfl⟩, q1, d1, q2, d2, q3, d3, ms, by rw [hml], hms, ?_⟩
      rw [hml]
      exact (Own.sub (h) (by repeat (first | exact Sub.nil _ | exact Sub.rfl _ | (apply Sub.cons; focus ((repeat (first | with_reducible exact Pick.here | apply Pick.there)); done)) | apply Sub.drop)))
end
end Go.Proofs.Ytkcaeknkfgpnhaa.Eng
