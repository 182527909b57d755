/- RankTells. -/
import Derived.Test.YtipcbhaeoeghnaaRkT
import Derived.Test.YtipcbhaeoeghnaaRankLG
namespace Go.Proofs.Ytipcbhaeoeghnaa.Eng
open Go Go.RowKit Go.Proofs
set_option linter.unusedVariables false
set_option linter.unusedSimpArgs false
set_option maxRecDepth 1000000
set_option maxHeartbeats 1000000
theorem slcA_0 (q : Option Addr) (c z : Nat) : slcA q 0 c z = q := by
  unfold slcA
  split
  · rfl
  · cases q with
    | none => rfl
    | some a =>
      show some (a.add (0 * z)) = some a
      rw [Nat.zero_mul]; rfl
theorem ImR.pre {h0 : Nat → Option Obj} {q : Option Addr} {L : LE2} (h : ImR h0 q (E2 L)) (m : Nat) : ImR h0 q (E2 (L.take m)) := fun e w F ho => by
  have h1 := h e w F ho
  have e1 : E2 L = E2 (L.take m) ++ E2 (L.drop m) := by
    show L.flatMap encE2 = (L.take m).flatMap encE2 ++ (L.drop m).flatMap encE2
    rw [← List.flatMap_append, List.take_append_drop]
  rw [e1] at h1
  exact h1.pre
section
variable {W : World} {q : Option Addr} {c : Nat} {L : LE2} {fr most : Int}
theorem RankTells_spec (hb : RdC W q (L.flatMap encE2)) (hm : L.length ≤ maxLen) (hc : L.length ≤ c) (hw : ∀ s ∈ L, (Lit.int .i64 s.1).wf = true ∧ (Lit.int .i64 s.2).wf = true) (hfw : (Lit.int .i64 fr).wf = true) (hmw : (Lit.int .u64 most).wf = true) :
    Rets Try.prog 6 #[.slice q L.length c, .int .i64 fr, .int .u64 most] W fun v w' => v = .bool true ∧ Below W.heap.size W w' := by
  refine Rets.mono (k := fun v w' => v = .bool true ∧ Own W w' [snap W]) ?_ (fun v w' h => ⟨h.1, h.2.below⟩)
  have h := Own.begin W
  have hmw := wfU64 hmw
  rw [snap_imm] at h ⊢
  have aw : ∀ {h0 : Nat → Option Obj} w, LeH (fun b => W.heap[b]?) h0 → Own W w [imm h0] → Rets Try.prog 30 #[] w fun v w' => ∃ b, v = Value.bool b ∧ (Value.bool b) = .bool true ∧ Own W w' [imm (fun b => W.heap[b]?)] := fun w hle h => by
    refine Rets.mono (rkAwake h) ?_
    rintro _ w ⟨rfl, h⟩
    exact ⟨_, rfl, rfl, h.immLe hle⟩
  refine cortadolaw08_RankTells_go _ _ _ _ _ ⟨fun hx => aw W (LeH.refl _) h, fun hx => ?_⟩
  have hx := dec_f hx
  refine Rets.mono (rkNew h) ?_
  clear h
  rintro _ w ⟨h1, g1, rfl, le1, T1, h⟩
  refine ⟨_, rfl, fun z vs w => ∃ (i : Nat) (t : Tr) (h0 : Nat → Option Obj) (g : Nat) (qx : Option Addr) (cx : Nat), vs = [.pointer (some ⟨g, 0, none⟩), .slice qx t.toL.length cx, .int .i64 (i : Int)] ∧ z + i = L.length ∧ LeH (fun b => W.heap[b]?) h0 ∧ t.size ≤ i ∧ Srt t.toL ∧ TreeA h0 t g ∧ ImR h0 qx (E2 t.toL) ∧ t.toL.length ≤ cx ∧ Own W w [imm h0], ⟨L.length, 0, .nil, h1, g1, none, 0, rfl, rfl, le1, Nat.le_refl _, List.Pairwise.nil, T1, fun e w F h => .inl rfl, Nat.le_refl _, h⟩, ?_⟩
  clear h T1 le1
  intro z w
  intros
  rename_i hI
  obtain ⟨i, t0, h0, g0, q0, c0, hvs, hz, hle0, hsz0, S0, T0, I0, hc0, h⟩ := hI
  simp at hvs
  obtain ⟨rfl, ⟨a1, rfl, a2⟩, rfl⟩ := hvs
  have a1 := a1.symm
  have a2 := a2.symm
  subst a1
  subst a2
  have hl0 := Tr.size_toL t0
  refine ⟨fun hc1 => ?_, fun hc1 => ?_⟩
  · have hc1 := dec_t hc1
    have hi : i < L.length := by omega
    have ei : IntKind.wrap .i64 ((i : Int) + 1) = ((i + 1 : Nat) : Int) := by rw [wI64 (by omega) (by omega)]; rfl
    obtain ⟨ad, rfl, hW⟩ := hb.rec encE2_len hi (by omega)
    obtain ⟨s, hs⟩ : ∃ s, s = L[i] := ⟨_, rfl⟩
    have rd0 : ∀ w, Own W w [imm h0] → cellAt w ((ad.add (Int.toNat (i : Int) * 2)).add 0) (.int .i64 s.1) ∧ cellAt w ((ad.add (Int.toNat (i : Int) * 2)).add 1) (.int .i64 s.2) := fun w h => by
      have h : Own W w [snap W] := h.immLe hle0
      rw [Int.toNat_natCast, hs]
      exact ⟨h.snapCell (hW i hi 0 _ rfl), h.snapCell (hW i hi 1 _ rfl)⟩
    have hput := size_put s.1 s.2 t0
    refine h.drw fun w h => ⟨fun w => Own W w [imm h0], h, by omega, by omega, smR ⟨by omega, by omega, smR ⟨by omega, by omega, smR ⟨by omega, by omega, smR ⟨_, fun w h => (rd0 w h).1, _, fun w h => (rd0 w h).2, _, fun w h => (rd0 w h).1, _, fun w h => (rd0 w h).2, ?_⟩⟩⟩⟩⟩
    refine Rets.mono (rkPut T0 (by omega) h) ?_
    clear h
    rintro _ w ⟨h1, g1, rfl, le1, T1, h⟩
    refine ⟨_, rfl, h.immLe le1, ?_⟩
    refine Rets.mono (rlPut (I0.mono le1) S0 (by omega) h) ?_
    clear h
    rintro _ w ⟨h2, q1, c1, rfl, le2, I1, hcc, h⟩
    refine ⟨_, _, _, rfl, ?_⟩
    have S1 := lput_srt (k := s.1) (v := s.2) S0
    have eL := tput_toL s.1 s.2 t0 S0
    rw [← eL] at I1 S1 hcc ⊢
    exact ⟨z - 1, by omega, i + 1, _, h2, g1, q1, c1, by rw [ei], by omega, LeH.trans hle0 (LeH.trans le1 le2), by omega, S1, T1.mono le2, I1, hcc, h⟩
  · obtain ⟨X, hX⟩ : ∃ X, X = t0.toL := ⟨_, rfl⟩
    have hs0 : t0.size ≤ 40 := by omega
    have hXl : X.length ≤ 40 := by rw [hX, hl0]; omega
    rw [← hX] at I0 S0 hc0 ⊢
    let M : Int × Int → Bool := fun x => decide (fr ≤ x.1)
    refine ⟨fun z vs w => ∃ (j : Nat) (q' : Option Addr) (c' : Nat), vs = [.slice q' ((X.take j).filter M).length c', .int .i64 (j : Int)] ∧ z + j = X.length ∧ Own W w (slO 64 2 q' ((X.take j).filter M).length c' (E2 ((X.take j).filter M)) :: [imm h0]), ⟨X.length, 0, none, 0, rfl, rfl, h.slNil⟩, ?_⟩
    clear h hz hc1
    intro z w
    intros
    rename_i hI
    obtain ⟨j, q6, c6, hvs, hz, h⟩ := hI
    simp at hvs
    obtain ⟨⟨b1, rfl, b2⟩, rfl⟩ := hvs
    have b1 := b1.symm
    have b2 := b2.symm
    subst b1
    subst b2
    have hfl : ((X.take j).filter M).length ≤ 40 := by
      have h1 := List.length_filter_le M (X.take j)
      have h2 : (X.take j).length ≤ X.length := by rw [List.length_take]; omega
      omega
    refine ⟨fun hc2 => ?_, fun hc2 => ?_⟩
    · have hc2 := dec_t hc2
      have hj : j < X.length := by omega
      have ej : IntKind.wrap .i64 ((j : Int) + 1) = ((j + 1 : Nat) : Int) := by rw [wI64 (by omega) (by omega)]; rfl
      rw [ej]
      obtain ⟨ad, rfl, rd⟩ := I0.adr hj h.drop
      obtain ⟨x, hx2⟩ : ∃ x, x = X[j] := ⟨_, rfl⟩
      have et : X.take (j + 1) = X.take j ++ [x] := by rw [hx2]; exact List.take_succ_eq_append_getElem hj
      rw [← hx2] at rd
      refine ⟨by omega, by omega, smR ⟨_, (rd _ _ _ h.drop).1, fun hn => ?_, fun hn => ?_⟩⟩
      · have hn := dec_t hn
        have ef : (X.take (j + 1)).filter M = (X.take j).filter M ++ [x] := by
          rw [et, List.filter_append, fl_all (l := [x]) (fun a ha => by rw [List.mem_singleton.1 ha]; simpa [M] using hn)]
        refine ⟨by omega, by omega, smR ⟨_, _, rd _ _ _ h.drop, h.newR fun g w h => appE (x := x) (by omega) h fun q3 c3 w h => ⟨_, _, _, rfl, z - 1, by omega, j + 1, q3, c3, ?_, by omega, ?_⟩⟩⟩
        · rw [ef]
        · rw [ef]; exact h
      · have hn := dec_f hn
        have ef : (X.take (j + 1)).filter M = (X.take j).filter M := by
          rw [et, List.filter_append, fl_no (l := [x]) (fun a ha => by rw [List.mem_singleton.1 ha]; simp [M]; omega), List.append_nil]
        refine ⟨z - 1, by omega, j + 1, q6, c6, ?_, by omega, ?_⟩
        · rw [ef]
        · rw [ef]; exact h
    · have hc2 := dec_f hc2
      obtain rfl : j = X.length := by omega
      rw [List.take_length] at h hfl ⊢
      obtain ⟨h1, le1, hR, hnc, h⟩ := h.slImm
      obtain ⟨n, hn⟩ : ∃ n : Nat, (n : Int) = Int.tmod most 45 := ⟨(Int.tmod most 45).toNat, by rw [Int.tmod_eq_emod_of_nonneg hmw.1]; omega⟩
      have hn45 : n < 45 := by rw [Int.tmod_eq_emod_of_nonneg hmw.1] at hn; omega
      rw [← hn, wI64 (n := (n : Int)) (by omega) (by omega)]
      have emin : ∀ l : LE2, minI (n : Int) (l.length : Int) = (((l.take n).length : Nat) : Int) := fun l => by
        rw [List.length_take]; unfold minI; split <;> omega
      have lmin : ∀ l : LE2, (l.take n).length ≤ l.length := fun l => by rw [List.length_take]; omega
      have m1 := lmin X
      have m2 := lmin (X.filter M)
      rw [emin X]
      refine ⟨by omega, h.drw fun w h => ⟨by omega, by omega, ?_⟩⟩
      refine Rets.mono (rkAll (g := g0) h) ?_
      clear h
      rintro _ w ⟨h2, b, rfl, le2, hb2, h⟩
      refine ⟨_, _, _, rfl, ?_⟩
      refine Rets.mono (told_all_spec (t := t0) (g := g0) (most := n) (by rw [← hX]; exact S0) (by omega) (by omega) hb2 (T0.mono (LeH.trans le1 le2)) h) ?_
      clear h
      rintro _ w ⟨h3, q8, c8, rfl, le3, hR8, _, h⟩
      refine ⟨_, _, _, rfl, ?_⟩
      have eX : t0.toL.filter (fun _ => true) = X := by rw [hX]; exact fl_all fun _ _ => rfl
      rw [eX] at hR8 ⊢
      rw [slcA_0, Int.toNat_natCast, Nat.sub_zero]
      have hle3 := LeH.trans le1 (LeH.trans le2 le3)
      refine Rets.mono (rlSame (L := X.take n) hR8 ((I0.mono hle3).pre n) (by omega) h) ?_
      clear h
      rintro _ w ⟨rfl, h⟩
      refine ⟨_, rfl, fun _ => ?_, fun hc => by cases hc⟩
      rw [emin (X.filter M)]
      refine ⟨by omega, by omega, ?_⟩
      refine Rets.mono (rkFrom (g := g0) (fr := fr) h) ?_
      clear h
      rintro _ w ⟨h4, a, b', rfl, le4, ha4, hb4, h⟩
      refine ⟨_, _, _, rfl, ?_⟩
      refine Rets.mono (told_from_spec (t := t0) (g := g0) (most := n) (by rw [← hX]; exact S0) (by omega) (by omega) ha4 hb4 (T0.mono (LeH.trans hle3 le4)) h) ?_
      clear h
      rintro _ w ⟨h5, q9, c9, rfl, le5, hR9, _, h⟩
      refine ⟨_, _, _, rfl, ?_⟩
      have eX : t0.toL.filter (fun x => decide (fr ≤ x.1)) = X.filter M := by rw [hX]
      rw [eX] at hR9 ⊢
      rw [slcA_0, Int.toNat_natCast, Nat.sub_zero]
      refine Rets.mono (rlSame (L := (X.filter M).take n) hR9 ((hR.mono (LeH.trans le2 (LeH.trans le3 (LeH.trans le4 le5)))).pre n) (by omega) h) ?_
      clear h
      rintro _ w ⟨rfl, h⟩
      exact ⟨_, rfl, fun _ => aw w (LeH.trans hle0 (LeH.trans hle3 (LeH.trans le4 le5))) h, fun hc => by cases hc⟩
end
end Go.Proofs.Ytipcbhaeoeghnaa.Eng
