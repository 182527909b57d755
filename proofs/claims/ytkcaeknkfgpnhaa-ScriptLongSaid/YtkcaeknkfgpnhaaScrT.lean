/- ScriptParses. -/
import Derived.Test.YtkcaeknkfgpnhaaScrS
namespace Go.Proofs.Ytkcaeknkfgpnhaa.Eng
open Go Go.RowKit Go.Proofs
set_option linter.unusedVariables false
set_option linter.unusedSimpArgs false
set_option maxRecDepth 1000000
section
variable {e w : World} {F : List HP}
theorem scFacts {B : List Int} (hb : ∀ x ∈ B, 0 ≤ x ∧ x < 256) {ms : List (Sl Op5)} (hms : ms.map (fun x => x.2.2) = sPs B) : nearP (sC0 B) (sC1 B) (sC2 B) (sC3 B) (sC4 B) ∧ ms.length ≤ 6 ∧ (∀ x ∈ ms, fineB x.2.2 = true) ∧ (sPk B).length ≤ 4096 ∧ (∀ x ∈ sPk B, 0 ≤ x ∧ x < 256) ∧ (sDs B).length ≤ 255 := by
  have v5 := tbV_bd hb (sp5 B)
  have v7 := tbV_bd hb (sp7 B)
  have hl := rdPs_len B (sp6 B) (snp B)
  have hl2 := rdDs_len B (sp8 B) (snd B)
  refine ⟨nearP.of _ _ _ _ _, ?_, fun x hx => ?_, ?_, fun x hx => ?_, ?_⟩
  · have h1 := congrArg List.length hms
    rw [List.length_map] at h1
    have h2 : (sPs B).length = snp B := hl
    have h3 : snp B ≤ 6 := by unfold snp; omega
    omega
  · have h1 : x.2.2 ∈ sPs B := by rw [← hms]; exact List.mem_map.2 ⟨x, hx, rfl⟩
    exact rdPs_fine _ _ _ _ h1
  · unfold sPk; rw [List.length_take]; omega
  · exact hb x (List.mem_of_mem_drop (List.mem_of_mem_take hx))
  · have h2 : (sDs B).length = snd B := hl2
    have h3 : snd B ≤ 255 := by unfold snd; omega
    omega
end
theorem ScriptParses_spec {W : World} {q : Option Addr} {c : Nat} {bs : List Int} (hb : RdC W q (cs .u8 bs)) (hm : bs.length ≤ maxLen) (hc : bs.length ≤ c) (h8 : ∀ x ∈ bs, (Lit.int .u8 x).wf = true) :
    Rets Try.prog 3 #[.slice q bs.length c] W fun v w' => v = .bool true ∧ Below W.heap.size W w' := by
  refine Rets.mono (k := fun v w' => v = .bool true ∧ Own W w' [snap W]) ?_ (fun v w' h => ⟨h.1, h.2.below⟩)
  have h := Own.begin W
  have h8 := fun x hx => wf8 (h8 x hx)
  have hr : ∀ w, Own W w [snap W] → RdC w q (cs .u8 bs) := fun w h => h.snapRd hb
  have aw : ∀ w, Own W w [snap W] → Rets Try.prog 11 #[] w fun v w' => ∃ b, v = Value.bool b ∧ (Value.bool b) = .bool true ∧ Own W w' [snap W] := fun w h => by
    refine Rets.mono (scAwake h) ?_
    rintro _ w ⟨rfl, h⟩
    exact ⟨_, rfl, rfl, h⟩
  have hB8 : ∀ x ∈ bs.take 16384, 0 ≤ x ∧ x < 256 := fun x hx => h8 x (List.mem_of_mem_take hx)
  refine cortadolaw18_ScriptParses_go _ _ _ ⟨fun hx => aw W h, fun hx => ?_⟩
  have hx := dec_f hx
  refine Rets.mono (scParse h8 (by omega) hc hr h) ?_
  clear h
  rintro _ w ⟨q1, d1, q2, d2, q3, d3, ms, rfl, hms, h⟩
  obtain ⟨hcf, hml, hf, hP, hPb, hD⟩ := scFacts hB8 hms
  refine ⟨_, _, _, _, _, _, _, _, _, _, _, _, _, _, rfl, h.newR fun a1 w h => Own.stP' (g := a1) h (by repeat (first | with_reducible exact Pick.here | apply Pick.there)) (by simp) (by simp [Value.oneCell']) fun w h => ?_⟩
  simp only [setFrom, List.set_cons_zero, List.set_cons_succ, List.set_nil] at h
  obtain ⟨B, hB⟩ : ∃ B, B = bs.take 16384 := ⟨_, rfl⟩
  rw [← hB] at h hms hcf hP hPb hD
  let PA : List HP := [prgB q1 ms.length d1 ms, prgIn ms, inB q2 (sPk B).length d2 (sPk B), inB q3 (sDs B).length d3 (sDs B)]
  let S : World → Prop := fun w => Own W w [scB a1 (sC0 B) (sC1 B) (sC2 B) (sC3 B) (sC4 B) (.slice q1 ms.length d1) (.slice q2 (sPk B).length d2) (.slice q3 (sDs B).length d3)]
  have h : Own W w (scB a1 (sC0 B) (sC1 B) (sC2 B) (sC3 B) (sC4 B) (.slice q1 ms.length d1) (.slice q2 (sPk B).length d2) (.slice q3 (sDs B).length d3) :: prgB q1 ms.length d1 ms :: prgIn ms :: inB q2 (sPk B).length d2 (sPk B) :: inB q3 (sDs B).length d3 (sDs B) :: [snap W]) := h
  refine h.drw fun w h => ⟨S, (Own.sub (h) (by repeat (first | exact Sub.nil _ | exact Sub.rfl _ | (apply Sub.cons; focus ((repeat (first | with_reducible exact Pick.here | apply Pick.there)); done)) | apply Sub.drop))), _, _, _, _, _, _, _, _, _, _, _, _, _, _, ⟨fun w h => Own.ld (g := a1) h (by repeat (first | with_reducible exact Pick.here | apply Pick.there)) rfl, fun w h => Own.ld (g := a1) h (by repeat (first | with_reducible exact Pick.here | apply Pick.there)) rfl, fun w h => Own.ld (g := a1) h (by repeat (first | with_reducible exact Pick.here | apply Pick.there)) rfl, fun w h => Own.ld (g := a1) h (by repeat (first | with_reducible exact Pick.here | apply Pick.there)) rfl, fun w h => Own.ld (g := a1) h (by repeat (first | with_reducible exact Pick.here | apply Pick.there)) rfl, fun w h => Own.ld (g := a1) h (by repeat (first | with_reducible exact Pick.here | apply Pick.there)) rfl, fun w h => Own.ld (g := a1) h (by repeat (first | with_reducible exact Pick.here | apply Pick.there)) rfl, fun w h => Own.ld (g := a1) h (by repeat (first | with_reducible exact Pick.here | apply Pick.there)) rfl⟩, ?_⟩
  have h : Own W w (scB a1 (sC0 B) (sC1 B) (sC2 B) (sC3 B) (sC4 B) (.slice q1 ms.length d1) (.slice q2 (sPk B).length d2) (.slice q3 (sDs B).length d3) :: prgB q1 ms.length d1 ms :: prgIn ms :: inB q2 (sPk B).length d2 (sPk B) :: inB q3 (sDs B).length d3 (sDs B) :: [snap W]) := h
  refine Rets.mono (rdParse h8 (by omega) hc (fun w h => hr w h.drop.drop.drop.drop.drop) h) ?_
  clear h
  rw [← hB]
  rintro _ w ⟨r1, p1, r2, p2, r3, p3, ns, rfl, hns, h⟩
  have hsame : ms.map (fun x => x.2.2) = ns.map (fun x => x.2.2) := by rw [hms, hns]
  refine ⟨_, _, _, _, _, _, _, _, _, _, _, _, _, _, rfl, (Own.sub (h) (by repeat (first | exact Sub.nil _ | exact Sub.rfl _ | (apply Sub.cons; focus ((repeat (first | with_reducible exact Pick.here | apply Pick.there)); done)) | apply Sub.drop))), ?_⟩
  refine Rets.mono (rdSame18 (ms := ms) (ns := ns) (PK := sPk B) (DS := sDs B) hsame (by omega) (fun x hx => fine_len (hf x hx)) (by omega) (by omega) h
    (fun w h => Own.rdP (T := 76) (q := q1) h (by repeat (first | with_reducible exact Pick.here | apply Pick.there))) (fun w h x hx => prgIn.rd (ms := ms) (Own.pk h (by repeat (first | with_reducible exact Pick.here | apply Pick.there))) hx) (fun w h => Own.rdP (T := 76) (q := r1) h (by repeat (first | with_reducible exact Pick.here | apply Pick.there))) (fun w h x hx => prgIn.rd (ms := ns) (Own.pk h (by repeat (first | with_reducible exact Pick.here | apply Pick.there))) hx)
    (fun w h => Own.rdP (T := 3) (q := q2) h (by repeat (first | with_reducible exact Pick.here | apply Pick.there))) (fun w h => Own.rdP (T := 3) (q := r2) h (by repeat (first | with_reducible exact Pick.here | apply Pick.there))) (fun w h => Own.rdP (T := 3) (q := q3) h (by repeat (first | with_reducible exact Pick.here | apply Pick.there))) (fun w h => Own.rdP (T := 3) (q := r3) h (by repeat (first | with_reducible exact Pick.here | apply Pick.there)))) ?_
  clear h
  rintro _ w ⟨rfl, h⟩
  refine ⟨_, rfl, (Own.sub (h) (by repeat (first | exact Sub.nil _ | exact Sub.rfl _ | (apply Sub.cons; focus ((repeat (first | with_reducible exact Pick.here | apply Pick.there)); done)) | apply Sub.drop))), fun _ => ⟨_, _, _, _, _, _, _, _, _, _, _, _, _, _, ⟨fun w h => Own.ld (g := a1) h (by repeat (first | with_reducible exact Pick.here | apply Pick.there)) rfl, fun w h => Own.ld (g := a1) h (by repeat (first | with_reducible exact Pick.here | apply Pick.there)) rfl, fun w h => Own.ld (g := a1) h (by repeat (first | with_reducible exact Pick.here | apply Pick.there)) rfl, fun w h => Own.ld (g := a1) h (by repeat (first | with_reducible exact Pick.here | apply Pick.there)) rfl, fun w h => Own.ld (g := a1) h (by repeat (first | with_reducible exact Pick.here | apply Pick.there)) rfl, fun w h => Own.ld (g := a1) h (by repeat (first | with_reducible exact Pick.here | apply Pick.there)) rfl, fun w h => Own.ld (g := a1) h (by repeat (first | with_reducible exact Pick.here | apply Pick.there)) rfl, fun w h => Own.ld (g := a1) h (by repeat (first | with_reducible exact Pick.here | apply Pick.there)) rfl⟩, ?_⟩, fun hc => absurd hc (by simp)⟩
  refine Rets.mono (rdRight (ms := ms) (PK := sPk B) (DS := sDs B) hcf hml hf hP hPb hD h (fun w h => Own.rdP (T := 76) (q := q1) h (by repeat (first | with_reducible exact Pick.here | apply Pick.there))) (fun w h x hx => prgIn.rd (ms := ms) (Own.pk h (by repeat (first | with_reducible exact Pick.here | apply Pick.there))) hx) (fun w h => Own.rdP (T := 3) (q := q2) h (by repeat (first | with_reducible exact Pick.here | apply Pick.there)))) ?_
  clear h
  rintro _ w ⟨rfl, h⟩
  refine ⟨_, rfl, (Own.sub (h) (by repeat (first | exact Sub.nil _ | exact Sub.rfl _ | (apply Sub.cons; focus ((repeat (first | with_reducible exact Pick.here | apply Pick.there)); done)) | apply Sub.drop))), fun _ => ⟨_, _, _, _, _, _, _, _, _, _, _, _, _, _, ⟨fun w h => Own.ld (g := a1) h (by repeat (first | with_reducible exact Pick.here | apply Pick.there)) rfl, fun w h => Own.ld (g := a1) h (by repeat (first | with_reducible exact Pick.here | apply Pick.there)) rfl, fun w h => Own.ld (g := a1) h (by repeat (first | with_reducible exact Pick.here | apply Pick.there)) rfl, fun w h => Own.ld (g := a1) h (by repeat (first | with_reducible exact Pick.here | apply Pick.there)) rfl, fun w h => Own.ld (g := a1) h (by repeat (first | with_reducible exact Pick.here | apply Pick.there)) rfl, fun w h => Own.ld (g := a1) h (by repeat (first | with_reducible exact Pick.here | apply Pick.there)) rfl, fun w h => Own.ld (g := a1) h (by repeat (first | with_reducible exact Pick.here | apply Pick.there)) rfl, fun w h => Own.ld (g := a1) h (by repeat (first | with_reducible exact Pick.here | apply Pick.there)) rfl⟩, ?_⟩, fun hc => absurd hc (by simp)⟩
  refine Rets.mono (scRight (ms := ms) (PK := sPk B) (DS := sDs B) hcf hml hf hP hPb hD h (fun w h => Own.rdP (T := 76) (q := q1) h (by repeat (first | with_reducible exact Pick.here | apply Pick.there))) (fun w h x hx => prgIn.rd (ms := ms) (Own.pk h (by repeat (first | with_reducible exact Pick.here | apply Pick.there))) hx) (fun w h => Own.rdP (T := 3) (q := q2) h (by repeat (first | with_reducible exact Pick.here | apply Pick.there)))) ?_
  clear h
  rintro _ w ⟨rfl, h⟩
  exact ⟨_, rfl, fun _ => aw w (Own.sub (h) (by repeat (first | exact Sub.nil _ | exact Sub.rfl _ | (apply Sub.cons; focus ((repeat (first | with_reducible exact Pick.here | apply Pick.there)); done)) | apply Sub.drop))), fun hc => absurd hc (by simp)⟩
end Go.Proofs.Ytkcaeknkfgpnhaa.Eng
