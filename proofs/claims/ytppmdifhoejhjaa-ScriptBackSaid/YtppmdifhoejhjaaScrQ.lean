/- Scripts: the program's parser. -/
import Derived.Test.YtppmdifhoejhjaaScrP
namespace Go.Proofs.Ytppmdifhoejhjaa.Eng
open Go Go.RowKit Go.Proofs
set_option linter.unusedVariables false
set_option linter.unusedSimpArgs false
set_option maxRecDepth 1000000
abbrev scB (g : Nat) (c0 c1 c2 c3 c4 : Int) (s1 s2 s3 : Value) : HP := blk g 27 [.int .i64 c0, .int .i64 c1, .int .i64 c2, .int .i64 c3, .int .i64 c4, s1, s2, s3]
abbrev scG (gt a1 a2 : Nat) (qt : Option Addr) (B : List Int) (ct : Nat) (F : List HP) (c0 c1 c2 c3 c4 : Int) (s1 s2 s3 : Value) : List HP := blk a2 57 [.pointer (some ⟨gt, 0, none⟩)] :: byB qt B.length ct B :: scB a1 c0 c1 c2 c3 c4 s1 s2 s3 :: F
section
variable {e w : World} {F : List HP} {c : Nat} {q : Option Addr} {bs : List Int}
theorem scParse (h8 : ∀ x ∈ bs, 0 ≤ x ∧ x < 256) (hn : bs.length ≤ 1000000) (hc : bs.length ≤ c) (hr : ∀ w, Own e w F → RdC w q (cs .u8 bs)) (h : Own e w F) :
    Rets Try.prog 17 #[.slice q bs.length c] w fun v w' => ∃ q1 d1 q2 d2 q3 d3, ∃ ms : List (Sl Op5), v = .agg #[.int .i64 (sC0 (bs.take 16384)), .int .i64 (sC1 (bs.take 16384)), .int .i64 (sC2 (bs.take 16384)), .int .i64 (sC3 (bs.take 16384)), .int .i64 (sC4 (bs.take 16384)), .slice q1 ms.length d1, .slice q2 (sPk (bs.take 16384)).length d2, .slice q3 (sDs (bs.take 16384)).length d3] ∧ ms.map (fun x => x.2.2) = sPs (bs.take 16384) ∧
      Own e w' (prgB q1 ms.length d1 ms :: prgIn ms :: inB q2 (sPk (bs.take 16384)).length d2 (sPk (bs.take 16384)) :: inB q3 (sDs (bs.take 16384)).length d3 (sDs (bs.take 16384)) :: F) := by
  obtain ⟨B, hB⟩ : ∃ B, B = bs.take 16384 := ⟨_, rfl⟩
  have hBl : B.length ≤ bs.length ∧ B.length ≤ 16384 := by rw [hB, List.length_take]; omega
  have hb : ∀ x ∈ B, 0 ≤ x ∧ x < 256 := fun x hx => h8 x (List.mem_of_mem_take (hB ▸ hx))
  have eB : minI (bs.length : Int) 16384 = (B.length : Int) := by rw [hB, List.length_take]; unfold minI; split <;> omega
  rw [← hB]
  obtain ⟨l1, l2, l3, l4, l5, l6, l7, l8, l9⟩ := sp_le B
  refine script_Parse_go _ _ _ ?_
  unfold script_Parse_m
  rw [eB]
  refine h.newR fun a1 w h => ⟨by omega, by omega, ?_⟩
  simp only [addr_add_add, Nat.zero_add, Int.toNat_natCast, Nat.sub_zero]
  refine Rets.mono (New_spec (bs := B) h (fun w h => ?_) (by omega)) ?_
  · have h1 := (hr w h.drop).cut (l := 0) (c := c) (by omega) (by rw [cs_len]; exact hc)
    have h2 := h1.take 16384
    rwa [show ((cs .u8 bs).drop 0).take 16384 = cs .u8 B by rw [hB]; simp [cs]] at h2
  clear h
  rintro _ w ⟨gt, qt, ct, rfl, h⟩
  refine ⟨_, rfl, h.newR fun a2 w h => Own.stP' (g := a2) h (by repeat (first | with_reducible exact Pick.here | apply Pick.there)) (by simp) (by simp [Value.oneCell']) fun w h => ?_⟩
  simp only [setFrom, List.set_cons_zero, List.set_cons_succ, List.set_nil] at h
  have hrd : ∀ c0 c1 c2 c3 c4 s1 s2 s3 w a, Own e w (tapeB 76 gt qt B.length ct a :: scG gt a1 a2 qt B ct F c0 c1 c2 c3 c4 s1 s2 s3) → RdC w qt (cs .u8 B) := fun c0 c1 c2 c3 c4 s1 s2 s3 w a h => h.drop.drop.slRd
  have hrd2 : ∀ c0 c1 c2 c3 c4 s1 s2 s3 w a, Own e w (tapeB 76 gt qt B.length ct a :: byB qt B.length ct B :: scB a1 c0 c1 c2 c3 c4 s1 s2 s3 :: F) → RdC w qt (cs .u8 B) := fun c0 c1 c2 c3 c4 s1 s2 s3 w a h => h.drop.slRd
  have h : Own e w (tapeB 76 gt qt B.length ct 0 :: scG gt a1 a2 qt B ct F 0 0 0 0 0 (.slice none 0 0) (.slice none 0 0) (.slice none 0 0)) := (Own.sub (h) (by repeat (first | exact Sub.nil _ | exact Sub.rfl _ | (apply Sub.cons; focus ((repeat (first | with_reducible exact Pick.here | apply Pick.there)); done)) | apply Sub.drop)))
  refine ⟨_, Own.ld' (g := a2) h (by repeat (first | with_reducible exact Pick.here | apply Pick.there)) rfl, ?_⟩
  refine Rets.mono (Int_spec h (hrd _ _ _ _ _ _ _ _) (Nat.zero_le _) (by omega) hb) ?_
  clear h
  rintro _ w ⟨rfl, h⟩
  have h : Own e w (tapeB 76 gt qt B.length ct (sp1 B) :: _) := h
  refine ⟨_, rfl, Own.stP (g := a1) h (by repeat (first | with_reducible exact Pick.here | apply Pick.there)) (by simp) (by simp [Value.oneCell']) fun w h => ?_⟩
  simp only [setFrom, List.set_cons_zero, List.set_cons_succ, List.set_nil] at h
  have h : Own e w (tapeB 76 gt qt B.length ct (sp1 B) :: scG gt a1 a2 qt B ct F (tInt B 0).1 0 0 0 0 (.slice none 0 0) (.slice none 0 0) (.slice none 0 0)) := (Own.sub (h) (by repeat (first | exact Sub.nil _ | exact Sub.rfl _ | (apply Sub.cons; focus ((repeat (first | with_reducible exact Pick.here | apply Pick.there)); done)) | apply Sub.drop)))
  refine Rets.mono (scBelow (n := 64) (by omega) h (hrd2 _ _ _ _ _ _ _ _) l1 (by omega) hb) ?_
  clear h
  rintro _ w ⟨rfl, h⟩
  have v1 := tbV_bd hb (sp1 B)
  have h : Own e w (tapeB 76 gt qt B.length ct (sp2 B) :: _) := h
  refine ⟨_, rfl, Own.stP (g := a1) h (by repeat (first | with_reducible exact Pick.here | apply Pick.there)) (by simp) (by simp [Value.oneCell']) fun w h => ?_⟩
  simp only [setFrom, List.set_cons_zero, List.set_cons_succ, List.set_nil] at h
  rw [wI64 (by omega) (by omega)] at h
  have h : Own e w (scB a1 (tInt B 0).1 (tbV B (sp1 B) % 64 + 1) 0 0 0 (.slice none 0 0) (.slice none 0 0) (.slice none 0 0) :: _) := h
  have h : Own e w (tapeB 76 gt qt B.length ct (sp2 B) :: scG gt a1 a2 qt B ct F (tInt B 0).1 (tbV B (sp1 B) % 64 + 1) 0 0 0 (.slice none 0 0) (.slice none 0 0) (.slice none 0 0)) := (Own.sub (h) (by repeat (first | exact Sub.nil _ | exact Sub.rfl _ | (apply Sub.cons; focus ((repeat (first | with_reducible exact Pick.here | apply Pick.there)); done)) | apply Sub.drop)))
  refine Rets.mono (scBelow (n := 16) (by omega) h (hrd2 _ _ _ _ _ _ _ _) l2 (by omega) hb) ?_
  clear h
  rintro _ w ⟨rfl, h⟩
  have v2 := tbV_bd hb (sp2 B)
  have h : Own e w (tapeB 76 gt qt B.length ct (sp3 B) :: _) := h
  refine ⟨_, rfl, Own.stP (g := a1) h (by repeat (first | with_reducible exact Pick.here | apply Pick.there)) (by simp) (by simp [Value.oneCell']) fun w h => ?_⟩
  simp only [setFrom, List.set_cons_zero, List.set_cons_succ, List.set_nil] at h
  rw [wI64 (by omega) (by omega)] at h
  have h : Own e w (scB a1 (tInt B 0).1 (tbV B (sp1 B) % 64 + 1) 0 (tbV B (sp2 B) % 16 + 1) 0 (.slice none 0 0) (.slice none 0 0) (.slice none 0 0) :: _) := h
  have h : Own e w (tapeB 76 gt qt B.length ct (sp3 B) :: scG gt a1 a2 qt B ct F (tInt B 0).1 (tbV B (sp1 B) % 64 + 1) 0 (tbV B (sp2 B) % 16 + 1) 0 (.slice none 0 0) (.slice none 0 0) (.slice none 0 0)) := (Own.sub (h) (by repeat (first | exact Sub.nil _ | exact Sub.rfl _ | (apply Sub.cons; focus ((repeat (first | with_reducible exact Pick.here | apply Pick.there)); done)) | apply Sub.drop)))
  refine Rets.mono (scBelow (n := 65) (by omega) h (hrd2 _ _ _ _ _ _ _ _) l3 (by omega) hb) ?_
  clear h
  rintro _ w ⟨rfl, h⟩
  have h : Own e w (tapeB 76 gt qt B.length ct (sp4 B) :: _) := h
  refine ⟨_, rfl, Own.stP (g := a1) h (by repeat (first | with_reducible exact Pick.here | apply Pick.there)) (by simp) (by simp [Value.oneCell']) fun w h => ?_⟩
  simp only [setFrom, List.set_cons_zero, List.set_cons_succ, List.set_nil] at h
  have h : Own e w (scB a1 (tInt B 0).1 (tbV B (sp1 B) % 64 + 1) 0 (tbV B (sp2 B) % 16 + 1) (tbV B (sp3 B) % 65) (.slice none 0 0) (.slice none 0 0) (.slice none 0 0) :: _) := h
  have h : Own e w (tapeB 76 gt qt B.length ct (sp4 B) :: scG gt a1 a2 qt B ct F (tInt B 0).1 (tbV B (sp1 B) % 64 + 1) 0 (tbV B (sp2 B) % 16 + 1) (tbV B (sp3 B) % 65) (.slice none 0 0) (.slice none 0 0) (.slice none 0 0)) := (Own.sub (h) (by repeat (first | exact Sub.nil _ | exact Sub.rfl _ | (apply Sub.cons; focus ((repeat (first | with_reducible exact Pick.here | apply Pick.there)); done)) | apply Sub.drop)))
  refine ⟨_, Own.ld' (g := a2) h (by repeat (first | with_reducible exact Pick.here | apply Pick.there)) rfl, ?_⟩
  refine Rets.mono (Int_spec h (hrd _ _ _ _ _ _ _ _) l4 (by omega) hb) ?_
  clear h
  rintro _ w ⟨rfl, h⟩
  have h : Own e w (tapeB 76 gt qt B.length ct (sp5 B) :: _) := h
  refine ⟨_, rfl, Own.stP (g := a1) h (by repeat (first | with_reducible exact Pick.here | apply Pick.there)) (by simp) (by simp [Value.oneCell']) fun w h => ?_⟩
  simp only [setFrom, List.set_cons_zero, List.set_cons_succ, List.set_nil] at h
  refine ⟨_, _, _, _, _, ⟨Own.ld (g := a1) h (by repeat (first | with_reducible exact Pick.here | apply Pick.there)) rfl, Own.ld (g := a1) h (by repeat (first | with_reducible exact Pick.here | apply Pick.there)) rfl, Own.ld (g := a1) h (by repeat (first | with_reducible exact Pick.here | apply Pick.there)) rfl, Own.ld (g := a1) h (by repeat (first | with_reducible exact Pick.here | apply Pick.there)) rfl, Own.ld (g := a1) h (by repeat (first | with_reducible exact Pick.here | apply Pick.there)) rfl⟩, ?_⟩
  refine Rets.mono (scNear h) ?_
  clear h
  rintro _ w ⟨rfl, h⟩
  refine ⟨_, _, _, _, _, rfl, Own.stP (g := a1) h (by repeat (first | with_reducible exact Pick.here | apply Pick.there)) (by simp) (by simp [Value.oneCell']) fun w h => ?_⟩
  simp only [setFrom, List.set_cons_zero, List.set_cons_succ, List.set_nil] at h
  have h : Own e w (scB a1 (sC0 B) (sC1 B) (sC2 B) (sC3 B) (sC4 B) (.slice none 0 0) (.slice none 0 0) (.slice none 0 0) :: _) := h
  have h : Own e w (tapeB 76 gt qt B.length ct (sp5 B) :: scG gt a1 a2 qt B ct F (sC0 B) (sC1 B) (sC2 B) (sC3 B) (sC4 B) (.slice none 0 0) (.slice none 0 0) (.slice none 0 0)) := (Own.sub (h) (by repeat (first | exact Sub.nil _ | exact Sub.rfl _ | (apply Sub.cons; focus ((repeat (first | with_reducible exact Pick.here | apply Pick.there)); done)) | apply Sub.drop)))
  generalize sC0 B = c0, sC1 B = c1, sC2 B = c2, sC3 B = c3, sC4 B = c4 at h ⊢
  refine Rets.mono (scBelow (n := 7) (by omega) h (hrd2 _ _ _ _ _ _ _ _) l5 (by omega) hb) ?_
  clear h
  rintro _ w ⟨rfl, h⟩
  have v5 := tbV_bd hb (sp5 B)
  have en : tbV B (sp5 B) % ((7 : Nat) : Int) = (snp B : Int) := by unfold snp; omega
  rw [en]
  have hnp : snp B < 7 := by unfold snp; omega
  have h : Own e w (prgB none 0 0 [] :: prgIn [] :: tapeB 76 gt qt B.length ct (sp6 B) :: scG gt a1 a2 qt B ct F c0 c1 c2 c3 c4 (.slice none 0 0) (.slice none 0 0) (.slice none 0 0)) := (prgIn.nil h).slNil
  refine ⟨_, rfl, fun z vs w => ∃ (i : Nat) (q1 : Option Addr) (d1 : Nat) (ms : List (Sl Op5)), vs = [.int .i64 (i : Int)] ∧ z + i = snp B ∧ ms.length = i ∧ ms.map (fun x => x.2.2) = (rdPs B i (sp6 B)).1 ∧ Own e w (prgB q1 i d1 ms :: prgIn ms :: tapeB 76 gt qt B.length ct (rdPs B i (sp6 B)).2 :: scG gt a1 a2 qt B ct F c0 c1 c2 c3 c4 (.slice q1 i d1) (.slice none 0 0) (.slice none 0 0)), ⟨snp B, 0, none, 0, [], rfl, rfl, rfl, rfl, h⟩, ?_⟩
  clear h
  rintro z w n17
  intros
  rename_i hI
  obtain ⟨i, q1, d1, ms, hvs, hz, hml, hms, h⟩ := hI
  obtain rfl : n17 = (i : Int) := by simpa using hvs
  refine ⟨fun hx => ?_, fun hx => ?_⟩
  · have hx := dec_t hx
    let S : World → Prop := fun w => Own e w [blk a2 57 [.pointer (some ⟨gt, 0, none⟩)], scB a1 c0 c1 c2 c3 c4 (.slice q1 i d1) (.slice none 0 0) (.slice none 0 0)]
    have lp := rdPs_le l6 i
    have h : Own e w (tapeB 76 gt qt B.length ct (rdPs B i (sp6 B)).2 :: prgB q1 i d1 ms :: prgIn ms :: scG gt a1 a2 qt B ct F c0 c1 c2 c3 c4 (.slice q1 i d1) (.slice none 0 0) (.slice none 0 0)) := (Own.sub (h) (by repeat (first | exact Sub.nil _ | exact Sub.rfl _ | (apply Sub.cons; focus ((repeat (first | with_reducible exact Pick.here | apply Pick.there)); done)) | apply Sub.drop)))
    refine h.drw fun w h => ⟨S, (Own.sub (h) (by repeat (first | exact Sub.nil _ | exact Sub.rfl _ | (apply Sub.cons; focus ((repeat (first | with_reducible exact Pick.here | apply Pick.there)); done)) | apply Sub.drop))), _, _, _, fun w h => Own.ld (g := a1) h (by repeat (first | with_reducible exact Pick.here | apply Pick.there)) rfl, _, fun w h => Own.ld' (g := a2) h (by repeat (first | with_reducible exact Pick.here | apply Pick.there)) rfl, ?_⟩
    refine Rets.mono (prRead h (fun w a h => h.drop.drop.drop.drop.slRd) lp (by omega) hb) ?_
    clear h
    rintro _ w ⟨q6, d6, rfl, h⟩
    obtain ⟨R, hR⟩ : ∃ R, R = rdProg B (rdPs B i (sp6 B)).2 := ⟨_, rfl⟩
    rw [← hR] at h ⊢
    refine ⟨_, _, _, rfl, (Own.sub (h) (by repeat (first | exact Sub.nil _ | exact Sub.rfl _ | (apply Sub.cons; focus ((repeat (first | with_reducible exact Pick.here | apply Pick.there)); done)) | apply Sub.drop))), h.newR fun a3 w h => ⟨(Own.sub (h) (by repeat (first | exact Sub.nil _ | exact Sub.rfl _ | (apply Sub.cons; focus ((repeat (first | with_reducible exact Pick.here | apply Pick.there)); done)) | apply Sub.drop))), ?_⟩⟩
    have h : Own e w (blk a3 30 [Sl.v (q6, d6, R.1)] :: _) := h
    have h : Own e w (blk a3 30 [Sl.v (q6, d6, R.1)] :: prgB q1 i d1 ms :: opsB q6 R.1.length d6 R.1 :: tapeB 76 gt qt B.length ct R.2 :: prgIn ms :: scG gt a1 a2 qt B ct F c0 c1 c2 c3 c4 (.slice q1 i d1) (.slice none 0 0) (.slice none 0 0)) := (Own.sub (h) (by repeat (first | exact Sub.nil _ | exact Sub.rfl _ | (apply Sub.cons; focus ((repeat (first | with_reducible exact Pick.here | apply Pick.there)); done)) | apply Sub.drop)))
    refine putPr h (by omega) fun q7 d7 w h => ⟨_, _, _, rfl, Own.stP (g := a1) h (by repeat (first | with_reducible exact Pick.here | apply Pick.there)) (by simp) (by simp [Value.oneCell']) fun w h => ?_⟩
    simp only [setFrom, List.set_cons_zero, List.set_cons_succ, List.set_nil] at h
    have h : Own e w (slP (q6, d6, R.1) :: prgIn ms :: prgB q7 (i + 1) d7 (ms ++ [(q6, d6, R.1)]) :: tapeB 76 gt qt B.length ct R.2 :: scG gt a1 a2 qt B ct F c0 c1 c2 c3 c4 (.slice q7 (i + 1) d7) (.slice none 0 0) (.slice none 0 0)) := by
      have h : Own e w (opsB q6 R.1.length d6 R.1 :: prgIn ms :: prgB q7 (i + 1) d7 (ms ++ [(q6, d6, R.1)]) :: tapeB 76 gt qt B.length ct R.2 :: scG gt a1 a2 qt B ct F c0 c1 c2 c3 c4 (.slice q7 (i + 1) d7) (.slice none 0 0) (.slice none 0 0)) := (Own.sub (h) (by repeat (first | exact Sub.nil _ | exact Sub.rfl _ | (apply Sub.cons; focus ((repeat (first | with_reducible exact Pick.here | apply Pick.there)); done)) | apply Sub.drop)))
      exact h
    have h := prgIn.add h
    refine ⟨z - 1, by omega, i + 1, q7, d7, ms ++ [(q6, d6, R.1)], ?_, by omega, by simp [hml], ?_, ?_⟩
    · rw [wI64 (by omega) (by omega)]; rfl
    · rw [List.map_append, hms]
      show _ = (rdPs B i (sp6 B)).1 ++ [(rdProg B (rdPs B i (sp6 B)).2).1]
      rw [← hR]; rfl
    · have e1 : (rdPs B (i + 1) (sp6 B)).2 = R.2 := by rw [hR]; rfl
      rw [e1]; exact h.swap
  have hx := dec_f hx
  obtain rfl : i = snp B := by omega
  have e7 : (rdPs B (snp B) (sp6 B)).2 = sp7 B := rfl
  rw [e7] at h
  have hms : ms.map (fun x => x.2.2) = sPs B := hms
  obtain ⟨np, hnpe⟩ : ∃ np, np = snp B := ⟨_, rfl⟩
  rw [← hnpe] at h hml
  clear hx hvs hz hnpe
  have h : Own e w (tapeB 76 gt qt B.length ct (sp7 B) :: prgB q1 np d1 ms :: prgIn ms :: scG gt a1 a2 qt B ct F c0 c1 c2 c3 c4 (.slice q1 np d1) (.slice none 0 0) (.slice none 0 0)) := (Own.sub (h) (by repeat (first | exact Sub.nil _ | exact Sub.rfl _ | (apply Sub.cons; focus ((repeat (first | with_reducible exact Pick.here | apply Pick.there)); done)) | apply Sub.drop)))
  refine ⟨_, Own.ld' (g := a2) h (by repeat (first | with_reducible exact Pick.here | apply Pick.there)) rfl, ?_⟩
  refine Rets.mono (Byte_spec h (fun w a h => h.drop.drop.drop.drop.slRd) l7 (by omega) hb) ?_
  clear h
  rintro _ w ⟨rfl, h⟩
  have v7 := tbV_bd hb (sp7 B)
  have en2 : tbV B (sp7 B) = (snd B : Int) := by unfold snd; omega
  have hnd : snd B < 256 := by unfold snd; omega
  rw [en2]
  have h : Own e w (inB none 0 0 [] :: tapeB 76 gt qt B.length ct (sp8 B) :: prgB q1 np d1 ms :: prgIn ms :: scG gt a1 a2 qt B ct F c0 c1 c2 c3 c4 (.slice q1 np d1) (.slice none 0 0) (.slice none 0 0)) := h.slNil
  refine ⟨_, rfl, fun z vs w => ∃ (i : Nat) (q3 : Option Addr) (d3 : Nat), vs = [.int .i64 (i : Int)] ∧ z + i = snd B ∧ Own e w (inB q3 i d3 (rdDs B i (sp8 B)).1 :: tapeB 76 gt qt B.length ct (rdDs B i (sp8 B)).2 :: prgB q1 np d1 ms :: prgIn ms :: scG gt a1 a2 qt B ct F c0 c1 c2 c3 c4 (.slice q1 np d1) (.slice none 0 0) (.slice q3 i d3)), ⟨snd B, 0, none, 0, rfl, rfl, h⟩, ?_⟩
  clear h
  rintro z w n19
  intros
  rename_i hI
  obtain ⟨i, q3, d3, hvs, hz, h⟩ := hI
  obtain rfl : n19 = (i : Int) := by simpa using hvs
  refine ⟨fun hx => ?_, fun hx => ?_⟩
  · have hx := dec_t hx
    let S : World → Prop := fun w => Own e w [blk a2 57 [.pointer (some ⟨gt, 0, none⟩)], scB a1 c0 c1 c2 c3 c4 (.slice q1 np d1) (.slice none 0 0) (.slice q3 i d3)]
    have lp := rdDs_le l8 i
    have h : Own e w (tapeB 76 gt qt B.length ct (rdDs B i (sp8 B)).2 :: inB q3 i d3 (rdDs B i (sp8 B)).1 :: prgB q1 np d1 ms :: prgIn ms :: scG gt a1 a2 qt B ct F c0 c1 c2 c3 c4 (.slice q1 np d1) (.slice none 0 0) (.slice q3 i d3)) := (Own.sub (h) (by repeat (first | exact Sub.nil _ | exact Sub.rfl _ | (apply Sub.cons; focus ((repeat (first | with_reducible exact Pick.here | apply Pick.there)); done)) | apply Sub.drop)))
    refine h.drw fun w h => ⟨S, (Own.sub (h) (by repeat (first | exact Sub.nil _ | exact Sub.rfl _ | (apply Sub.cons; focus ((repeat (first | with_reducible exact Pick.here | apply Pick.there)); done)) | apply Sub.drop))), _, _, _, fun w h => Own.ld (g := a1) h (by repeat (first | with_reducible exact Pick.here | apply Pick.there)) rfl, _, fun w h => Own.ld' (g := a2) h (by repeat (first | with_reducible exact Pick.here | apply Pick.there)) rfl, ?_⟩
    refine Rets.mono (Int_spec h (fun w a h => h.drop.drop.drop.drop.drop.slRd) lp (by omega) hb) ?_
    clear h
    rintro _ w ⟨rfl, h⟩
    obtain ⟨R, hR⟩ : ∃ R, R = tInt B (rdDs B i (sp8 B)).2 := ⟨_, rfl⟩
    rw [← hR] at h ⊢
    refine ⟨_, rfl, (Own.sub (h) (by repeat (first | exact Sub.nil _ | exact Sub.rfl _ | (apply Sub.cons; focus ((repeat (first | with_reducible exact Pick.here | apply Pick.there)); done)) | apply Sub.drop))), h.newR fun a3 w h => ⟨(Own.sub (h) (by repeat (first | exact Sub.nil _ | exact Sub.rfl _ | (apply Sub.cons; focus ((repeat (first | with_reducible exact Pick.here | apply Pick.there)); done)) | apply Sub.drop))), ?_⟩⟩
    have h : Own e w (blk a3 3 [.int .i64 R.1] :: inB q3 i d3 (rdDs B i (sp8 B)).1 :: tapeB 76 gt qt B.length ct R.2 :: prgB q1 np d1 ms :: prgIn ms :: scG gt a1 a2 qt B ct F c0 c1 c2 c3 c4 (.slice q1 np d1) (.slice none 0 0) (.slice q3 i d3)) := (Own.sub (h) (by repeat (first | exact Sub.nil _ | exact Sub.rfl _ | (apply Sub.cons; focus ((repeat (first | with_reducible exact Pick.here | apply Pick.there)); done)) | apply Sub.drop)))
    have h : Own e w (blk a3 3 (cs .i64 [R.1]) :: inB q3 i d3 (rdDs B i (sp8 B)).1 :: tapeB 76 gt qt B.length ct R.2 :: prgB q1 np d1 ms :: prgIn ms :: scG gt a1 a2 qt B ct F c0 c1 c2 c3 c4 (.slice q1 np d1) (.slice none 0 0) (.slice q3 i d3)) := h
    refine put64 (ys := [R.1]) h rfl (by omega) fun q7 d7 w h => ⟨_, _, _, rfl, Own.stP (g := a1) h (by repeat (first | with_reducible exact Pick.here | apply Pick.there)) (by simp) (by simp [Value.oneCell']) fun w h => ?_⟩
    simp only [setFrom, List.set_cons_zero, List.set_cons_succ, List.set_nil] at h
    refine ⟨z - 1, by omega, i + 1, q7, d7, ?_, by omega, ?_⟩
    · rw [wI64 (by omega) (by omega)]; rfl
    · have e1 : (rdDs B (i + 1) (sp8 B)) = ((rdDs B i (sp8 B)).1 ++ [R.1], R.2) := by rw [hR]; rfl
      rw [e1]; exact (Own.sub (h) (by repeat (first | exact Sub.nil _ | exact Sub.rfl _ | (apply Sub.cons; focus ((repeat (first | with_reducible exact Pick.here | apply Pick.there)); done)) | apply Sub.drop)))
  have hx := dec_f hx
  obtain rfl : i = snd B := by omega
  have e9 : (rdDs B (snd B) (sp8 B)).2 = sp9 B := rfl
  have e10 : (rdDs B (snd B) (sp8 B)).1 = sDs B := rfl
  have e11 : (sDs B).length = snd B := rdDs_len _ _ _
  rw [e9, e10, ← e11] at h
  clear hx hvs hz
  obtain ⟨DS, hDS⟩ : ∃ DS, DS = sDs B := ⟨_, rfl⟩
  rw [← hDS] at h ⊢
  have h : Own e w (tapeB 76 gt qt B.length ct (sp9 B) :: inB q3 DS.length d3 DS :: prgB q1 np d1 ms :: prgIn ms :: scG gt a1 a2 qt B ct F c0 c1 c2 c3 c4 (.slice q1 np d1) (.slice none 0 0) (.slice q3 DS.length d3)) := (Own.sub (h) (by repeat (first | exact Sub.nil _ | exact Sub.rfl _ | (apply Sub.cons; focus ((repeat (first | with_reducible exact Pick.here | apply Pick.there)); done)) | apply Sub.drop)))
  refine ⟨_, Own.ld' (g := a2) h (by repeat (first | with_reducible exact Pick.here | apply Pick.there)) rfl, ?_⟩
  have hct : B.length ≤ ct := by
    have h : Own e w (byB qt B.length ct B :: _) := (Own.pk h (by repeat (first | with_reducible exact Pick.here | apply Pick.there)))
    exact h.slFacts.2.1
  refine Rets.mono (Rest_spec h hct (fun w h => h.drop.drop.drop.drop.drop.slRd) l9 (by omega)) ?_
  clear h
  rintro _ w ⟨q13, c13, rfl, h⟩
  obtain ⟨R, hR⟩ : ∃ R, R = B.drop (sp9 B) := ⟨_, rfl⟩
  have hRl : R.length ≤ 16384 := by rw [hR, List.length_drop]; omega
  have hRb : ∀ x ∈ R, 0 ≤ x ∧ x < 256 := fun x hx => hb x (List.mem_of_mem_drop (hR ▸ hx))
  obtain ⟨PK, hPK⟩ : ∃ PK, PK = sPk B := ⟨_, rfl⟩
  have hPR : PK = R.take 4096 := by rw [hPK, hR]; rfl
  have eP : minI (R.length : Int) 4096 = (PK.length : Int) := by rw [hPR, List.length_take]; unfold minI; split <;> omega
  have hPl : PK.length ≤ R.length := by rw [hPR, List.length_take]; omega
  rw [← hR] at h ⊢
  rw [← hPK]
  have h : Own e w (byB q13 R.length c13 R :: inB q3 DS.length d3 DS :: prgB q1 np d1 ms :: prgIn ms :: scB a1 c0 c1 c2 c3 c4 (.slice q1 np d1) (.slice none 0 0) (.slice q3 DS.length d3) :: F) := (Own.sub (h) (by repeat (first | exact Sub.nil _ | exact Sub.rfl _ | (apply Sub.cons; focus ((repeat (first | with_reducible exact Pick.here | apply Pick.there)); done)) | apply Sub.drop)))
  have hc13 := h.slFacts.2.1
  refine ⟨_, _, _, rfl, ?_⟩
  rw [eP]
  simp only [Int.toNat_natCast, Nat.sub_zero]
  refine ⟨by omega, by omega, fun z vs w => ∃ (i : Nat) (q2 : Option Addr) (d2 : Nat), vs = [.int .i64 (i : Int)] ∧ z + i = PK.length ∧ Own e w (inB q2 i d2 (PK.take i) :: byB q13 R.length c13 R :: inB q3 DS.length d3 DS :: prgB q1 np d1 ms :: prgIn ms :: scB a1 c0 c1 c2 c3 c4 (.slice q1 np d1) (.slice q2 i d2) (.slice q3 DS.length d3) :: F), ⟨PK.length, 0, none, 0, rfl, rfl, h.slNil⟩, ?_⟩
  clear h
  rintro z w v33 n21
  intros
  rename_i hI
  obtain ⟨i, q2, d2, hvs, hz, h⟩ := hI
  obtain rfl : n21 = (i : Int) := by simpa using hvs
  refine ⟨fun hx => ?_, fun hx => ?_⟩
  · have hx := dec_t hx
    have hi : i < PK.length := by omega
    have hiR : i < R.length := by omega
    have hpi : R[i] = PK[i] := by simp only [hPR, List.getElem_take]
    have hxb := hRb R[i] (List.getElem_mem hiR)
    have hrR := (h.drop.slRd).cut (l := 0) (c := c13) (by omega) (by rw [cs_len]; exact hc13)
    rw [List.drop_zero] at hrR
    refine ⟨by omega, by omega, hrR.int (i := i) hiR fun a ha => ⟨R[i], by rw [Int.toNat_natCast]; exact ha, _, _, _, Own.ld (g := a1) h (by repeat (first | with_reducible exact Pick.here | apply Pick.there)) rfl, ?_⟩⟩
    rw [wI64 (n := R[i]) (by omega) (by omega), hpi]
    refine h.newR fun a6 w h => ?_
    have h : Own e w (blk a6 3 (cs .i64 [PK[i]]) :: inB q2 i d2 (PK.take i) :: byB q13 R.length c13 R :: inB q3 DS.length d3 DS :: prgB q1 np d1 ms :: prgIn ms :: scB a1 c0 c1 c2 c3 c4 (.slice q1 np d1) (.slice q2 i d2) (.slice q3 DS.length d3) :: F) := h
    have et : PK.take (i + 1) = PK.take i ++ [PK[i]] := List.take_succ_eq_append_getElem hi
    refine put64 (ys := [PK[i]]) h rfl (by omega) fun q7 d7 w h => ⟨_, _, _, rfl, Own.stP (g := a1) h (by repeat (first | with_reducible exact Pick.here | apply Pick.there)) (by simp) (by simp [Value.oneCell']) fun w h => ?_⟩
    simp only [setFrom, List.set_cons_zero, List.set_cons_succ, List.set_nil] at h
    rw [← et] at h
    refine ⟨z - 1, by omega, i + 1, q7, d7, ?_, by omega, (Own.sub (h) (by repeat (first | exact Sub.nil _ | exact Sub.rfl _ | (apply Sub.cons; focus ((repeat (first | with_reducible exact Pick.here | apply Pick.there)); done)) | apply Sub.drop)))⟩
    rw [wI64 (by omega) (by omega)]; rfl
  · have hx := dec_f hx
    obtain rfl : i = PK.length := by omega
    rw [List.take_length] at h
    refine ⟨_, _, _, _, _, _, _, _, _, _, _, _, _, _, ⟨Own.ld (g := a1) h (by repeat (first | with_reducible exact Pick.here | apply Pick.there)) rfl, Own.ld (g := a1) h (by repeat (first | with_reducible exact Pick.here | apply Pick.there)) rfl, Own.ld (g := a1) h (by repeat (first | with_reducible exact Pick.here | apply Pick.there)) rfl, Own.ld (g := a1) h (by repeat (first | with_reducible exact Pick.here | apply Pick.there)) rfl, Own.ld (g := a1) h (by repeat (first | with_reducible exact Pick.here | apply Pick.there)) rfl, Own.ld (g := a1) h (by repeat (first | with_reducible exact Pick.here | apply Pick.there)) rfl, Own.ld (g := a1) h (by repeat (first | with_reducible exact Pick.here | apply Pick.there)) rfl, Own.ld (g := a1) h (by repeat (first | with_reducible exact Pick.here | apply Pick.there)) rfl⟩, Own.stP' (g := a1) h (by repeat (first | with_reducible exact Pick.here | apply Pick.there)) (by simp) (by simp [Value.oneCell']) fun w h => ?_⟩
    simp only [setFrom, List.set_cons_zero, List.set_cons_succ, List.set_nil] at h
    refine ⟨_, _, _, _, _, _, _, _, _, _, _, _, _, _, ⟨Own.ld (g := a1) h (by repeat (first | with_reducible exact Pick.here | apply Pick.there)) rfl, Own.ld (g := a1) h (by repeat (first | with_reducible exact Pick.here | apply Pick.there)) rfl, Own.ld (g := a1) h (by repeat (first | with_reducible exact Pick.here | apply Pick.there)) rfl, Own.ld (g := a1) h (by repeat (first | with_reducible exact Pick.here | apply Pick.there)) rfl, Own.ld (g := a1) h (by repeat (first | with_reducible exact Pick.here | apply Pick.there)) rfl, Own.ld (g := a1) h (by repeat (first | with_reducible exact Pick.here | apply Pick.there)) rfl, Own.ld (g := a1) h (by repeat (first | with_reducible exact Pick.here | apply Pick.there)) rfl, Own.ld (g := a1) h (by repeat (first | with_reducible exact Pick.here | apply Pick.there)) rfl⟩, q1, d1, q2, d2, q3, d3, ms, by rw [hml], hms, ?_⟩
    rw [hml]
    exact (Own.sub (h) (by repeat (first | exact Sub.nil _ | exact Sub.rfl _ | (apply Sub.cons; focus ((repeat (first | with_reducible exact Pick.here | apply Pick.there)); done)) | apply Sub.drop)))
end
end Go.Proofs.Ytppmdifhoejhjaa.Eng
