/- ScriptLong. -/
import Derived.Test.YtkcaeknkfgpnhaaScrT
namespace Go.Proofs.Ytkcaeknkfgpnhaa.Eng
open Go Go.RowKit Go.Proofs
set_option linter.unusedVariables false
set_option linter.unusedSimpArgs false
set_option maxRecDepth 1000000
theorem ScriptLong_spec {W : World} {q : Option Addr} {c : Nat} {bs : List Int} {k : Int} (hb : RdC W q (cs .u8 bs)) (hm : bs.length ≤ maxLen) (hc : bs.length ≤ c) (h8 : ∀ x ∈ bs, (Lit.int .u8 x).wf = true) (hkw : (Lit.int .u64 k).wf = true) :
    Rets Try.prog 4 #[.slice q bs.length c, .int .u64 k] W fun v w' => v = .bool true ∧ Below W.heap.size W w' := by
  refine Rets.mono (k := fun v w' => v = .bool true ∧ Own W w' [snap W]) ?_ (fun v w' h => ⟨h.1, h.2.below⟩)
  have h := Own.begin W
  have h8 := fun x hx => wf8 (h8 x hx)
  have hk := wfU64 hkw
  have hr : ∀ w, Own W w [snap W] → RdC w q (cs .u8 bs) := fun w h => h.snapRd hb
  have aw : ∀ w, Own W w [snap W] → Rets Try.prog 11 #[] w fun v w' => ∃ b, v = Value.bool b ∧ (Value.bool b) = .bool true ∧ Own W w' [snap W] := fun w h => by
    refine Rets.mono (scAwake h) ?_
    rintro _ w ⟨rfl, h⟩
    exact ⟨_, rfl, rfl, h⟩
  refine cortadolaw18_ScriptLong_go _ _ _ _ ⟨fun hx => ⟨fun h0 => aw W h, fun h0 => ?_⟩, fun hx => aw W h⟩
  have hx := dec_f hx
  have h0 := beq_f h0
  obtain ⟨T, hT⟩ : ∃ T : Nat, T = 16364 + (k % 40).toNat := ⟨_, rfl⟩
  have eT : IntKind.wrap .i64 (16364 + IntKind.wrap .i64 (Int.tmod k 40)) = (T : Int) := by
    rw [Int.tmod_eq_emod_of_nonneg (by omega), wI64 (n := k % 40) (by omega) (by omega), wI64 (by omega) (by omega)]; omega
  rw [eT]
  refine ⟨fun z vs w => ∃ (all : List Int) (q' : Option Addr) (c' : Nat), vs = [.slice q' all.length c'] ∧ z = 20000 - all.length ∧ all.length ≤ T + 40 ∧ (∀ x ∈ all, 0 ≤ x ∧ x < 256) ∧ Own W w (byB q' all.length c' all :: [snap W]), ⟨20000, [], none, 0, rfl, rfl, Nat.zero_le _, (fun x hx => by cases hx), h.slNil⟩, ?_⟩
  clear h
  rintro z w q1 k3 k4
  intros
  rename_i hI
  obtain ⟨all, q', c', hvs, hz, hal, hab, h⟩ := hI
  obtain ⟨rfl, rfl, rfl⟩ : q1 = q' ∧ k3 = all.length ∧ k4 = c' := by simpa using hvs
  refine ⟨by omega, fun hlt => ?_, fun hge => ?_⟩
  · have hlt := dec_t hlt
    refine app8 h (hr w h.drop) rfl (by omega) fun q2 c2 w h => ⟨_, _, _, rfl, 20000 - (all ++ bs).length, ?_, all ++ bs, q2, c2, ?_, rfl, ?_, fun x hx => ?_, ?_⟩
    · rw [hz, List.length_append]; omega
    · rw [List.length_append]
    · rw [List.length_append]; omega
    · rcases List.mem_append.1 hx with hx | hx
      · exact hab x hx
      · exact h8 x hx
    · rw [List.length_append]; exact h
  clear hge
  have hfa := h.slFacts
  have hB8 : ∀ x ∈ all.take 16384, 0 ≤ x ∧ x < 256 := fun x hx => hab x (List.mem_of_mem_take hx)
  refine Rets.mono (scParse hab (by omega) hfa.2.1 (fun w h => h.slRd) h) ?_
  clear h
  rintro _ w ⟨q9, d1, q2, d2, q3, d3, ms, rfl, hms, h⟩
  obtain ⟨hcf, hml, hf, hP, hPb, hD⟩ := scFacts hB8 hms
  refine ⟨_, _, _, _, _, _, _, _, _, _, _, _, _, _, rfl, h.newR fun a1 w h => Own.stP' (g := a1) h (by repeat (first | with_reducible exact Pick.here | apply Pick.there)) (by simp) (by simp [Value.oneCell']) fun w h => ?_⟩
  simp only [setFrom, List.set_cons_zero, List.set_cons_succ, List.set_nil] at h
  obtain ⟨B, hB⟩ : ∃ B, B = all.take 16384 := ⟨_, rfl⟩
  rw [← hB] at h hms hcf hP hPb hD
  let PA : List HP := [prgB q9 ms.length d1 ms, prgIn ms, inB q2 (sPk B).length d2 (sPk B), inB q3 (sDs B).length d3 (sDs B)]
  let S : World → Prop := fun w => Own W w [scB a1 (sC0 B) (sC1 B) (sC2 B) (sC3 B) (sC4 B) (.slice q9 ms.length d1) (.slice q2 (sPk B).length d2) (.slice q3 (sDs B).length d3)]
  have h : Own W w (scB a1 (sC0 B) (sC1 B) (sC2 B) (sC3 B) (sC4 B) (.slice q9 ms.length d1) (.slice q2 (sPk B).length d2) (.slice q3 (sDs B).length d3) :: prgB q9 ms.length d1 ms :: prgIn ms :: inB q2 (sPk B).length d2 (sPk B) :: inB q3 (sDs B).length d3 (sDs B) :: byB q1 all.length k4 all :: [snap W]) := h
  refine h.drw fun w h => ⟨S, (Own.sub (h) (by repeat (first | exact Sub.nil _ | exact Sub.rfl _ | (apply Sub.cons; focus ((repeat (first | with_reducible exact Pick.here | apply Pick.there)); done)) | apply Sub.drop))), _, _, _, _, _, _, _, _, _, _, _, _, _, _, ⟨fun w h => Own.ld (g := a1) h (by repeat (first | with_reducible exact Pick.here | apply Pick.there)) rfl, fun w h => Own.ld (g := a1) h (by repeat (first | with_reducible exact Pick.here | apply Pick.there)) rfl, fun w h => Own.ld (g := a1) h (by repeat (first | with_reducible exact Pick.here | apply Pick.there)) rfl, fun w h => Own.ld (g := a1) h (by repeat (first | with_reducible exact Pick.here | apply Pick.there)) rfl, fun w h => Own.ld (g := a1) h (by repeat (first | with_reducible exact Pick.here | apply Pick.there)) rfl, fun w h => Own.ld (g := a1) h (by repeat (first | with_reducible exact Pick.here | apply Pick.there)) rfl, fun w h => Own.ld (g := a1) h (by repeat (first | with_reducible exact Pick.here | apply Pick.there)) rfl, fun w h => Own.ld (g := a1) h (by repeat (first | with_reducible exact Pick.here | apply Pick.there)) rfl⟩, ?_⟩
  have h : Own W w (scB a1 (sC0 B) (sC1 B) (sC2 B) (sC3 B) (sC4 B) (.slice q9 ms.length d1) (.slice q2 (sPk B).length d2) (.slice q3 (sDs B).length d3) :: prgB q9 ms.length d1 ms :: prgIn ms :: inB q2 (sPk B).length d2 (sPk B) :: inB q3 (sDs B).length d3 (sDs B) :: byB q1 all.length k4 all :: [snap W]) := h
  refine Rets.mono (rdParse hab (by omega) hfa.2.1 (fun w h => h.drop.drop.drop.drop.drop.slRd) h) ?_
  clear h
  rw [← hB]
  rintro _ w ⟨r1, p1, r2, p2, r3, p3, ns, rfl, hns, h⟩
  have hsame : ms.map (fun x => x.2.2) = ns.map (fun x => x.2.2) := by rw [hms, hns]
  refine ⟨_, _, _, _, _, _, _, _, _, _, _, _, _, _, rfl, (Own.sub (h) (by repeat (first | exact Sub.nil _ | exact Sub.rfl _ | (apply Sub.cons; focus ((repeat (first | with_reducible exact Pick.here | apply Pick.there)); done)) | apply Sub.drop))), ?_⟩
  refine Rets.mono (rdSame18 (ms := ms) (ns := ns) (PK := sPk B) (DS := sDs B) hsame (by omega) (fun x hx => fine_len (hf x hx)) (by omega) (by omega) h
    (fun w h => Own.rdP (T := 76) (q := q9) h (by repeat (first | with_reducible exact Pick.here | apply Pick.there))) (fun w h x hx => prgIn.rd (ms := ms) (Own.pk h (by repeat (first | with_reducible exact Pick.here | apply Pick.there))) hx) (fun w h => Own.rdP (T := 76) (q := r1) h (by repeat (first | with_reducible exact Pick.here | apply Pick.there))) (fun w h x hx => prgIn.rd (ms := ns) (Own.pk h (by repeat (first | with_reducible exact Pick.here | apply Pick.there))) hx)
    (fun w h => Own.rdP (T := 3) (q := q2) h (by repeat (first | with_reducible exact Pick.here | apply Pick.there))) (fun w h => Own.rdP (T := 3) (q := r2) h (by repeat (first | with_reducible exact Pick.here | apply Pick.there))) (fun w h => Own.rdP (T := 3) (q := q3) h (by repeat (first | with_reducible exact Pick.here | apply Pick.there))) (fun w h => Own.rdP (T := 3) (q := r3) h (by repeat (first | with_reducible exact Pick.here | apply Pick.there)))) ?_
  clear h
  rintro _ w ⟨rfl, h⟩
  refine ⟨_, rfl, (Own.sub (h) (by repeat (first | exact Sub.nil _ | exact Sub.rfl _ | (apply Sub.cons; focus ((repeat (first | with_reducible exact Pick.here | apply Pick.there)); done)) | apply Sub.drop))), fun _ => ⟨_, _, _, _, _, _, _, _, _, _, _, _, _, _, ⟨fun w h => Own.ld (g := a1) h (by repeat (first | with_reducible exact Pick.here | apply Pick.there)) rfl, fun w h => Own.ld (g := a1) h (by repeat (first | with_reducible exact Pick.here | apply Pick.there)) rfl, fun w h => Own.ld (g := a1) h (by repeat (first | with_reducible exact Pick.here | apply Pick.there)) rfl, fun w h => Own.ld (g := a1) h (by repeat (first | with_reducible exact Pick.here | apply Pick.there)) rfl, fun w h => Own.ld (g := a1) h (by repeat (first | with_reducible exact Pick.here | apply Pick.there)) rfl, fun w h => Own.ld (g := a1) h (by repeat (first | with_reducible exact Pick.here | apply Pick.there)) rfl, fun w h => Own.ld (g := a1) h (by repeat (first | with_reducible exact Pick.here | apply Pick.there)) rfl, fun w h => Own.ld (g := a1) h (by repeat (first | with_reducible exact Pick.here | apply Pick.there)) rfl⟩, ?_⟩, fun hc => absurd hc (by simp)⟩
  refine Rets.mono (scRight (ms := ms) (PK := sPk B) (DS := sDs B) hcf hml hf hP hPb hD h (fun w h => Own.rdP (T := 76) (q := q9) h (by repeat (first | with_reducible exact Pick.here | apply Pick.there))) (fun w h x hx => prgIn.rd (ms := ms) (Own.pk h (by repeat (first | with_reducible exact Pick.here | apply Pick.there))) hx) (fun w h => Own.rdP (T := 3) (q := q2) h (by repeat (first | with_reducible exact Pick.here | apply Pick.there)))) ?_
  clear h
  rintro _ w ⟨rfl, h⟩
  refine ⟨_, rfl, (Own.sub (h) (by repeat (first | exact Sub.nil _ | exact Sub.rfl _ | (apply Sub.cons; focus ((repeat (first | with_reducible exact Pick.here | apply Pick.there)); done)) | apply Sub.drop))), fun _ => ⟨_, _, _, fun w h => Own.ld (g := a1) h (by repeat (first | with_reducible exact Pick.here | apply Pick.there)) rfl, fun _ => aw w (Own.sub (h) (by repeat (first | exact Sub.nil _ | exact Sub.rfl _ | (apply Sub.cons; focus ((repeat (first | with_reducible exact Pick.here | apply Pick.there)); done)) | apply Sub.drop))), fun hc => absurd (dec_f hc) (by omega)⟩, fun hc => absurd hc (by simp)⟩
end Go.Proofs.Ytkcaeknkfgpnhaa.Eng
