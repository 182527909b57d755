/- Scripts: what bytes of a script say is the script (plain). -/
import Derived.Test.YtppmdifhoejhjaaScnA
import Derived.Test.YtppmdifhoejhjaaTapeB
namespace Go.Proofs.Ytppmdifhoejhjaa.Eng
open Go Go.RowKit Go.Proofs
set_option linter.unusedVariables false
set_option linter.unusedSimpArgs false
set_option maxRecDepth 1000000
theorem split_at {α : Type} {l : List α} {i : Nat} (h : i < l.length) : l = l.take i ++ (l[i] :: l.drop (i + 1)) := by rw [← List.drop_eq_getElem_cons h, List.take_append_drop]
theorem rdN_put2 {l : List Op5} (h : ∀ x ∈ l, rightB x = true) (h64 : ∀ x ∈ l, op64 x) (pre post : List Int) (i : Nat) (hi : i ≤ l.length) : rdN (pre ++ l.flatMap encB ++ post) i pre.length = (l.take i, (pre ++ (l.take i).flatMap encB).length) := by
  induction i with
  | zero => simp [rdN]
  | succ i ih =>
    have hl : i < l.length := by omega
    unfold rdN
    rw [ih (by omega)]
    simp only
    have e1 : pre ++ l.flatMap encB ++ post = (pre ++ (l.take i).flatMap encB) ++ encB l[i] ++ ((l.drop (i + 1)).flatMap encB ++ post) := by
      have e2 : l.flatMap encB = (l.take i ++ (l[i] :: l.drop (i + 1))).flatMap encB := congrArg (fun z => z.flatMap encB) (split_at hl)
      rw [e2, List.flatMap_append, List.flatMap_cons]
      simp only [List.append_assoc]
    rw [e1, rdCall_put (h _ (List.getElem_mem hl)) (h64 _ (List.getElem_mem hl)), to5_opL, List.take_succ_eq_append_getElem hl, List.flatMap_append]
    simp only [List.flatMap_cons, List.flatMap_nil, List.append_nil, List.append_assoc]
theorem rdProg_put2 {l : List Op5} (h : fineB l = true) (h64 : ∀ x ∈ l, op64 x) (pre post : List Int) : rdProg (pre ++ putP l ++ post) pre.length = (l, (pre ++ putP l).length) := by
  have hl := fine_len h
  unfold fineB at h
  rw [Bool.and_eq_true, List.all_eq_true] at h
  have e0 : pre ++ putP l ++ post = pre ++ (l.length : Int) :: (l.flatMap encB ++ post) := by unfold putP; simp
  have e1 : tbV (pre ++ putP l ++ post) pre.length = (l.length : Int) := by rw [e0]; exact tbV_app
  have e2 : tbA (pre ++ putP l ++ post) pre.length = pre.length + 1 := by rw [e0]; exact tbA_app
  unfold rdProg
  rw [e1, e2]
  have e3 : ((l.length : Int) % 25).toNat = l.length := by omega
  rw [e3]
  have e4 : pre ++ putP l ++ post = (pre ++ [(l.length : Int)]) ++ l.flatMap encB ++ post := by unfold putP; simp
  have := rdN_put2 h.2 h64 (pre ++ [(l.length : Int)]) post l.length (Nat.le_refl _)
  rw [List.take_length] at this
  rw [e4]
  have e5 : pre.length + 1 = (pre ++ [(l.length : Int)]).length := by simp
  rw [e5, this]
  unfold putP
  simp
theorem rdPs_put {pl : List (List Op5)} (h : ∀ l ∈ pl, fineB l = true) (h64 : ∀ l ∈ pl, ∀ x ∈ l, op64 x) (pre post : List Int) (i : Nat) (hi : i ≤ pl.length) : rdPs (pre ++ pl.flatMap putP ++ post) i pre.length = (pl.take i, (pre ++ (pl.take i).flatMap putP).length) := by
  induction i with
  | zero => simp [rdPs]
  | succ i ih =>
    have hl : i < pl.length := by omega
    unfold rdPs
    rw [ih (by omega)]
    simp only
    have e1 : pre ++ pl.flatMap putP ++ post = (pre ++ (pl.take i).flatMap putP) ++ putP pl[i] ++ ((pl.drop (i + 1)).flatMap putP ++ post) := by
      have e2 : pl.flatMap putP = (pl.take i ++ (pl[i] :: pl.drop (i + 1))).flatMap putP := congrArg (fun z => z.flatMap putP) (split_at hl)
      rw [e2, List.flatMap_append, List.flatMap_cons]
      simp only [List.append_assoc]
    rw [e1, rdProg_put2 (h _ (List.getElem_mem hl)) (h64 _ (List.getElem_mem hl)), List.take_succ_eq_append_getElem hl, List.flatMap_append]
    simp only [List.flatMap_cons, List.flatMap_nil, List.append_nil, List.append_assoc]
theorem rdDs_put {ds : List Int} (h : ∀ n ∈ ds, -9223372036854775808 ≤ n ∧ n ≤ 9223372036854775807) (pre post : List Int) (i : Nat) (hi : i ≤ ds.length) : rdDs (pre ++ putL ds ++ post) i pre.length = (ds.take i, (pre ++ putL (ds.take i)).length) := by
  induction i with
  | zero => simp [rdDs, putL]
  | succ i ih =>
    have hl : i < ds.length := by omega
    unfold rdDs
    rw [ih (by omega)]
    simp only
    have e1 : pre ++ putL ds ++ post = (pre ++ putL (ds.take i)) ++ putN ds[i] ++ (putL (ds.drop (i + 1)) ++ post) := by
      have e2 : putL ds = putL (ds.take i ++ (ds[i] :: ds.drop (i + 1))) := congrArg putL (split_at hl)
      rw [e2, putL_app]
      simp only [putL, List.append_assoc]
    rw [e1, tInt_put (h _ (List.getElem_mem hl)), List.take_succ_eq_append_getElem hl, putL_app]
    simp only [putL, List.append_nil, List.append_assoc]
/-- A script's bytes. -/
def bytesL (c0 c1 c2 c3 c4 : Int) (pl : List (List Op5)) (PK DS : List Int) : List Int :=
  putL [c0] ++ [c1 - 1, c3 - 1, c4] ++ putL [c2] ++ [(pl.length : Int)] ++ pl.flatMap putP ++ [(DS.length : Int)] ++ putL DS ++ PK
theorem sp_put {c0 c1 c2 c3 c4 : Int} {pl : List (List Op5)} {PK DS : List Int} (hn : nearP c0 c1 c2 c3 c4) (hpl : pl.length ≤ 6) (hf : ∀ l ∈ pl, fineB l = true) (h64 : ∀ l ∈ pl, ∀ x ∈ l, op64 x) (hD : DS.length ≤ 255) (hDb : ∀ n ∈ DS, -9223372036854775808 ≤ n ∧ n ≤ 9223372036854775807) (hP : PK.length ≤ 4096)
    {B : List Int} (hB : B = bytesL c0 c1 c2 c3 c4 pl PK DS) : sC0 B = c0 ∧ sC1 B = c1 ∧ sC2 B = c2 ∧ sC3 B = c3 ∧ sC4 B = c4 ∧ sPs B = pl ∧ sDs B = DS ∧ sPk B = PK := by
  obtain ⟨b0, b1, b2, b3, b4⟩ := hn
  have el : ∀ n, putL [n] = putN n := fun n => by simp [putL]
  unfold bytesL at hB
  rw [el, el] at hB
  obtain ⟨R9, hR9⟩ : ∃ R, R = PK := ⟨_, rfl⟩
  have t0 := tInt_put (n := c0) ⟨by omega, by omega⟩ [] ([c1 - 1, c3 - 1, c4] ++ putN c2 ++ [(pl.length : Int)] ++ pl.flatMap putP ++ [(DS.length : Int)] ++ putL DS ++ PK)
  have e0 : B = [] ++ putN c0 ++ ([c1 - 1, c3 - 1, c4] ++ putN c2 ++ [(pl.length : Int)] ++ pl.flatMap putP ++ [(DS.length : Int)] ++ putL DS ++ PK) := by rw [hB]; simp
  rw [← e0] at t0
  have t0 : tInt B 0 = (c0, (putN c0).length) := t0
  have s1 : sp1 B = (putN c0).length := by unfold sp1; rw [t0]
  have e1 : B = putN c0 ++ (c1 - 1) :: ([c3 - 1, c4] ++ putN c2 ++ [(pl.length : Int)] ++ pl.flatMap putP ++ [(DS.length : Int)] ++ putL DS ++ PK) := by rw [hB]; simp
  have v1 : tbV B (sp1 B) = c1 - 1 := by rw [s1, e1]; exact tbV_app
  have s2 : sp2 B = (putN c0 ++ [c1 - 1]).length := by unfold sp2; rw [s1]; rw [e1, tbA_app]; simp
  have e2 : B = (putN c0 ++ [c1 - 1]) ++ (c3 - 1) :: ([c4] ++ putN c2 ++ [(pl.length : Int)] ++ pl.flatMap putP ++ [(DS.length : Int)] ++ putL DS ++ PK) := by rw [hB]; simp
  have v2 : tbV B (sp2 B) = c3 - 1 := by rw [s2, e2]; exact tbV_app
  have s3 : sp3 B = (putN c0 ++ [c1 - 1, c3 - 1]).length := by unfold sp3; rw [s2]; rw [e2, tbA_app]; simp
  have e3 : B = (putN c0 ++ [c1 - 1, c3 - 1]) ++ c4 :: (putN c2 ++ [(pl.length : Int)] ++ pl.flatMap putP ++ [(DS.length : Int)] ++ putL DS ++ PK) := by rw [hB]; simp
  have v3 : tbV B (sp3 B) = c4 := by rw [s3, e3]; exact tbV_app
  have s4 : sp4 B = (putN c0 ++ [c1 - 1, c3 - 1, c4]).length := by unfold sp4; rw [s3]; rw [e3, tbA_app]; simp
  have t4 := tInt_put (n := c2) ⟨by omega, by omega⟩ (putN c0 ++ [c1 - 1, c3 - 1, c4]) ([(pl.length : Int)] ++ pl.flatMap putP ++ [(DS.length : Int)] ++ putL DS ++ PK)
  have e4 : B = (putN c0 ++ [c1 - 1, c3 - 1, c4]) ++ putN c2 ++ ([(pl.length : Int)] ++ pl.flatMap putP ++ [(DS.length : Int)] ++ putL DS ++ PK) := by rw [hB]; simp
  rw [← e4, ← s4] at t4
  have s5 : sp5 B = ((putN c0 ++ [c1 - 1, c3 - 1, c4]) ++ putN c2).length := by unfold sp5; rw [t4]
  obtain ⟨P5, hP5⟩ : ∃ P, P = (putN c0 ++ [c1 - 1, c3 - 1, c4]) ++ putN c2 := ⟨_, rfl⟩
  rw [← hP5] at s5
  have e5 : B = P5 ++ (pl.length : Int) :: (pl.flatMap putP ++ [(DS.length : Int)] ++ putL DS ++ PK) := by rw [hB, hP5]; simp
  have v5 : tbV B (sp5 B) = (pl.length : Int) := by rw [s5, e5]; exact tbV_app
  have s6 : sp6 B = (P5 ++ [(pl.length : Int)]).length := by unfold sp6; rw [s5]; rw [e5, tbA_app]; simp
  have np : snp B = pl.length := by unfold snp; rw [v5]; omega
  have t6 := rdPs_put hf h64 (P5 ++ [(pl.length : Int)]) ([(DS.length : Int)] ++ putL DS ++ PK) pl.length (Nat.le_refl _)
  have e6 : B = (P5 ++ [(pl.length : Int)]) ++ pl.flatMap putP ++ ([(DS.length : Int)] ++ putL DS ++ PK) := by rw [hB, hP5]; simp
  rw [← e6, ← s6, List.take_length] at t6
  have ps : sPs B = pl := by unfold sPs; rw [np, t6]
  obtain ⟨P7, hP7⟩ : ∃ P, P = (P5 ++ [(pl.length : Int)]) ++ pl.flatMap putP := ⟨_, rfl⟩
  have s7 : sp7 B = P7.length := by unfold sp7; rw [np, t6, hP7]
  have e7 : B = P7 ++ (DS.length : Int) :: (putL DS ++ PK) := by rw [hB, hP7, hP5]; simp
  have v7 : tbV B (sp7 B) = (DS.length : Int) := by rw [s7, e7]; exact tbV_app
  have s8 : sp8 B = (P7 ++ [(DS.length : Int)]).length := by unfold sp8; rw [s7]; rw [e7, tbA_app]; simp
  have nd : snd B = DS.length := by unfold snd; rw [v7]; omega
  have t8 := rdDs_put hDb (P7 ++ [(DS.length : Int)]) PK DS.length (Nat.le_refl _)
  have e8 : B = (P7 ++ [(DS.length : Int)]) ++ putL DS ++ PK := by rw [hB, hP7, hP5]
  rw [← e8, ← s8, List.take_length] at t8
  have dsE : sDs B = DS := by unfold sDs; rw [nd, t8]
  have s9 : sp9 B = (P7 ++ [(DS.length : Int)] ++ putL DS).length := by unfold sp9; rw [nd, t8]
  have pk : sPk B = PK := by
    unfold sPk
    rw [s9, e8, List.drop_left' rfl, List.take_of_length_le hP]
  refine ⟨?_, ?_, ?_, ?_, ?_, ps, dsE, pk⟩
  · unfold sC0; rw [t0]; exact crI_id b0
  · unfold sC1; rw [v1, show (c1 - 1) % 64 + 1 = c1 by omega]; exact crI_id b1
  · unfold sC2; rw [t4]; exact crI_id b2
  · unfold sC3; rw [v2, show (c3 - 1) % 16 + 1 = c3 by omega]; exact crI_id b3
  · unfold sC4; rw [v3, show c4 % 65 = c4 by omega]; exact crI_id b4
end Go.Proofs.Ytppmdifhoejhjaa.Eng
