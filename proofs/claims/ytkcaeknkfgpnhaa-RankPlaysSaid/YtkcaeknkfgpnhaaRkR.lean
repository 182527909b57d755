/- RankPlays. -/
import Derived.Test.YtkcaeknkfgpnhaaRkQ
import Derived.Test.YtkcaeknkfgpnhaaRankLG
namespace Go.Proofs.Ytkcaeknkfgpnhaa.Eng
open Go Go.RowKit Go.Proofs
set_option linter.unusedVariables false
set_option linter.unusedSimpArgs false
set_option maxRecDepth 1000000
set_option maxHeartbeats 1000000
/-- Steps: a kind, a key, a thing. -/
abbrev encP (s : Int × Int × Int) : List Value := [.int .u64 s.1, .int .i64 s.2.1, .int .i64 s.2.2]
theorem encP_len (s : Int × Int × Int) : (encP s).length = 3 := rfl
section
variable {W : World} {q : Option Addr} {c : Nat} {L : List (Int × Int × Int)}
theorem RankPlays_spec (hb : RdC W q (L.flatMap encP)) (hm : L.length ≤ maxLen) (hc : L.length ≤ c) (hw : ∀ s ∈ L, (Lit.int .u64 s.1).wf = true ∧ (Lit.int .i64 s.2.1).wf = true ∧ (Lit.int .i64 s.2.2).wf = true) :
    Rets Try.prog 5 #[.slice q L.length c] W fun v w' => v = .bool true ∧ Below W.heap.size W w' := by
  refine Rets.mono (k := fun v w' => v = .bool true ∧ Own W w' [snap W]) ?_ (fun v w' h => ⟨h.1, h.2.below⟩)
  have h := Own.begin W
  rw [snap_imm] at h ⊢
  have aw : ∀ {h0 : Nat → Option Obj} w, LeH (fun b => W.heap[b]?) h0 → Own W w [imm h0] → Rets Try.prog 17 #[] w fun v w' => ∃ b, v = Value.bool b ∧ (Value.bool b) = .bool true ∧ Own W w' [imm (fun b => W.heap[b]?)] := fun w hle h => by
    refine Rets.mono (rkAwake h) ?_
    rintro _ w ⟨rfl, h⟩
    exact ⟨_, rfl, rfl, h.immLe hle⟩
  refine cortadolaw08_RankPlays_go _ _ _ ⟨fun hx => aw W (LeH.refl _) h, fun hx => ?_⟩
  have hx := dec_f hx
  refine Rets.mono (rkNew h) ?_
  clear h
  rintro _ w ⟨h1, g1, rfl, le1, T1, h⟩
  refine ⟨_, rfl, fun z vs w => ∃ (i : Nat) (t : Tr) (h0 : Nat → Option Obj) (g : Nat) (qx : Option Addr) (cx : Nat), vs = [.pointer (some ⟨g, 0, none⟩), .slice qx t.toL.length cx, .int .i64 (i : Int)] ∧ z + i = L.length ∧ LeH (fun b => W.heap[b]?) h0 ∧ t.size ≤ i ∧ Srt t.toL ∧ t.bal ∧ TreeA h0 t g ∧ ImR h0 qx (E2 t.toL) ∧ Own W w [imm h0], ⟨L.length, 0, .nil, h1, g1, none, 0, rfl, rfl, le1, Nat.le_refl _, List.Pairwise.nil, trivial, T1, fun e w F h => .inl rfl, h⟩, ?_⟩
  clear h T1 le1
  intro z w
  intros
  rename_i hI
  obtain ⟨i, t0, h0, g0, q0, c0, hvs, hz, hle0, hsz0, S0, B0, T0, I0, h⟩ := hI
  simp at hvs
  obtain ⟨rfl, ⟨a1, rfl, a2⟩, rfl⟩ := hvs
  have a1 := a1.symm
  have a2 := a2.symm
  subst a1
  subst a2
  refine ⟨fun hc1 => ?_, fun hc1 => aw w hle0 h⟩
  have hc1 := dec_t hc1
  have hi : i < L.length := by omega
  have ei : IntKind.wrap .i64 ((i : Int) + 1) = ((i + 1 : Nat) : Int) := by rw [wI64 (by omega) (by omega)]; rfl
  obtain ⟨ad, rfl, hW⟩ := hb.rec encP_len hi (by omega)
  obtain ⟨s, hs⟩ : ∃ s, s = L[i] := ⟨_, rfl⟩
  have rd0 : ∀ {hx : Nat → Option Obj} w, LeH (fun b => W.heap[b]?) hx → Own W w [imm hx] → cellAt w ((ad.add (Int.toNat (i : Int) * 3)).add 0) (.int .u64 s.1) ∧ cellAt w ((ad.add (Int.toNat (i : Int) * 3)).add 1) (.int .i64 s.2.1) ∧ cellAt w ((ad.add (Int.toNat (i : Int) * 3)).add 2) (.int .i64 s.2.2) := fun w hle h => by
    have h : Own W w [snap W] := h.immLe hle
    rw [Int.toNat_natCast, hs]
    exact ⟨h.snapCell (hW i hi 0 _ rfl), h.snapCell (hW i hi 1 _ rfl), h.snapCell (hW i hi 2 _ rfl)⟩
  have hl0 := Tr.size_toL t0
  have hput := size_put s.2.1 s.2.2 t0
  have hdrp := size_drop s.2.1 t0
  let Sg : World → Prop := fun w => Own W w [imm h0]
  refine ⟨by omega, by omega, smR ⟨_, (rd0 w hle0 h).1, by omega, fun hk => ?_, fun hk => ⟨fun hk2 => ?_, fun hk2 => ?_⟩⟩⟩
  · refine h.drw fun w h => ⟨Sg, h, by omega, by omega, smR ⟨by omega, by omega, smR ⟨by omega, by omega, smR ⟨by omega, by omega, smR ⟨_, fun w h => (rd0 w hle0 h).2.1, _, fun w h => (rd0 w hle0 h).2.2, _, fun w h => (rd0 w hle0 h).2.1, _, fun w h => (rd0 w hle0 h).2.2, ?_⟩⟩⟩⟩⟩
    refine Rets.mono (rkPut T0 (by omega) h) ?_
    clear h
    rintro _ w ⟨h1, g1, rfl, le1, T1, h⟩
    refine ⟨_, rfl, h.immLe le1, ?_⟩
    refine Rets.mono (rlPut (I0.mono le1) S0 (by omega) h) ?_
    clear h
    rintro _ w ⟨h2, q1, c1, rfl, le2, I1, h⟩
    refine ⟨_, _, _, rfl, ?_⟩
    have S1 := lput_srt (k := s.2.1) (v := s.2.2) S0
    have eL := tput_toL s.2.1 s.2.2 t0 S0
    obtain ⟨B1, _⟩ := tput_bal s.2.1 s.2.2 t0 B0
    have T1 := T1.mono le2
    rw [← eL] at I1 S1 ⊢
    generalize tput s.2.1 s.2.2 t0 = t1 at hput T1 I1 S1 B1 ⊢
    have hl1 := Tr.size_toL t1
    have hle1 := LeH.trans hle0 (LeH.trans le1 le2)
    have T0 := T0.mono (LeH.trans le1 le2)
    have I0 := I0.mono (LeH.trans le1 le2)
    have rdK : ∀ w, Own W w [imm h2] → cellAt w ((ad.add (Int.toNat (i : Int) * 3)).add 1) (.int .i64 s.2.1) := fun w h => (rd0 w hle1 h).2.1
    refine ⟨by omega, by omega, smR ⟨_, rdK w h, ?_⟩⟩
    refine Rets.mono (tkGet (k := s.2.1) T1 (by omega) S1 h) ?_
    clear h
    rintro _ w ⟨rfl, h⟩
    refine ⟨_, _, rfl, by omega, by omega, smR ⟨_, rdK w h, ?_⟩⟩
    refine Rets.mono (rlGet (k := s.2.1) I1 (by omega) h) ?_
    clear h
    rintro _ w ⟨rfl, h⟩
    refine ⟨_, _, rfl, by omega, by omega, smR ⟨_, rdK w h, ?_⟩⟩
    refine Rets.mono (tkRank (k := s.2.1) T1 (by omega) S1 h) ?_
    clear h
    rintro _ w ⟨rfl, h⟩
    refine ⟨_, _, rfl, by omega, by omega, smR ⟨_, rdK w h, ?_⟩⟩
    refine Rets.mono (rlRank (k := s.2.1) I1 S1 (by omega) h) ?_
    clear h
    rintro _ w ⟨rfl, h⟩
    refine ⟨_, _, rfl, fun _ => ⟨fun _ => ⟨fun _ => ⟨fun _ => ?_, fun hc => absurd hc (by simp)⟩, fun hc => absurd hc (by simp)⟩, fun hc => absurd hc (by simp)⟩, fun hc => absurd hc (by simp)⟩
    refine Rets.mono (tkStands T1 I1 (by omega) S1 h) ?_
    clear h
    rintro _ w ⟨rfl, h⟩
    refine ⟨_, rfl, fun _ => ?_, fun hc => absurd hc (by simp)⟩
    refine Rets.mono (tkStands T0 I0 (by omega) S0 h) ?_
    clear h
    rintro _ w ⟨rfl, h⟩
    refine ⟨_, rfl, fun _ => ?_, fun hc => absurd hc (by simp)⟩
    refine Rets.mono (rkTDeep T1 h) ?_
    clear h
    rintro _ w ⟨rfl, h⟩
    refine ⟨_, rfl, ?_⟩
    have eX : IntKind.wrap .u64 (IntKind.wrap .i64 (((t1.toL.length : Nat) : Int) + 1)) = ((t1.size + 1 : Nat) : Int) := by
      rw [wI64 (by omega) (by omega), wU64' (by omega) (by omega), Tr.size_toL]; omega
    rw [eX]
    refine Rets.mono (rkLog (X := t1.size + 1) (by omega) h) ?_
    clear h
    rintro _ w ⟨⟨j, rfl, hj64, hj, _⟩, h⟩
    obtain ⟨hj1, hjd⟩ := deep_log B1 hj
    refine ⟨_, rfl, ?_⟩
    rw [wI64 (n := 2 * ((j : Int) - 1)) (by omega) (by omega), wI64 (n := 2 * ((j : Int) - 1) + 1) (by omega) (by omega)]
    exact ⟨fun hc => (by have := dec_t hc; omega), fun _ => ⟨z - 1, by omega, i + 1, t1, h2, g1, q1, c1, by rw [ei], by omega, hle1, by omega, S1, B1, T1, I1, h⟩⟩
  · refine h.drw fun w h => ⟨Sg, h, by omega, by omega, smR ⟨by omega, by omega, smR ⟨_, fun w h => (rd0 w hle0 h).2.1, _, fun w h => (rd0 w hle0 h).2.1, ?_⟩⟩⟩
    refine Rets.mono (rkDrop T0 (by omega) h) ?_
    clear h
    rintro _ w ⟨h1, g1, rfl, le1, T1, h⟩
    refine ⟨_, rfl, h.immLe le1, ?_⟩
    refine Rets.mono (rlDrop (k := s.2.1) (I0.mono le1) (by omega) h) ?_
    clear h
    rintro _ w ⟨h2, q1, c1, rfl, le2, I1, h⟩
    refine ⟨_, _, _, rfl, ?_⟩
    have S1 := ldrop_srt (k := s.2.1) S0
    have eL := tdrop_toL s.2.1 t0 S0
    obtain ⟨B1, _⟩ := tdrop_bal s.2.1 t0 B0
    have T1 := T1.mono le2
    rw [← eL] at I1 S1 ⊢
    generalize tdrop s.2.1 t0 = t1 at hdrp T1 I1 S1 B1 ⊢
    have hl1 := Tr.size_toL t1
    have hle1 := LeH.trans hle0 (LeH.trans le1 le2)
    have T0 := T0.mono (LeH.trans le1 le2)
    have I0 := I0.mono (LeH.trans le1 le2)
    have rdK : ∀ w, Own W w [imm h2] → cellAt w ((ad.add (Int.toNat (i : Int) * 3)).add 1) (.int .i64 s.2.1) := fun w h => (rd0 w hle1 h).2.1
    refine ⟨by omega, by omega, smR ⟨_, rdK w h, ?_⟩⟩
    refine Rets.mono (tkGet (k := s.2.1) T1 (by omega) S1 h) ?_
    clear h
    rintro _ w ⟨rfl, h⟩
    refine ⟨_, _, rfl, by omega, by omega, smR ⟨_, rdK w h, ?_⟩⟩
    refine Rets.mono (rlGet (k := s.2.1) I1 (by omega) h) ?_
    clear h
    rintro _ w ⟨rfl, h⟩
    refine ⟨_, _, rfl, by omega, by omega, smR ⟨_, rdK w h, ?_⟩⟩
    refine Rets.mono (tkRank (k := s.2.1) T1 (by omega) S1 h) ?_
    clear h
    rintro _ w ⟨rfl, h⟩
    refine ⟨_, _, rfl, by omega, by omega, smR ⟨_, rdK w h, ?_⟩⟩
    refine Rets.mono (rlRank (k := s.2.1) I1 S1 (by omega) h) ?_
    clear h
    rintro _ w ⟨rfl, h⟩
    refine ⟨_, _, rfl, fun _ => ⟨fun _ => ⟨fun _ => ⟨fun _ => ?_, fun hc => absurd hc (by simp)⟩, fun hc => absurd hc (by simp)⟩, fun hc => absurd hc (by simp)⟩, fun hc => absurd hc (by simp)⟩
    refine Rets.mono (tkStands T1 I1 (by omega) S1 h) ?_
    clear h
    rintro _ w ⟨rfl, h⟩
    refine ⟨_, rfl, fun _ => ?_, fun hc => absurd hc (by simp)⟩
    refine Rets.mono (tkStands T0 I0 (by omega) S0 h) ?_
    clear h
    rintro _ w ⟨rfl, h⟩
    refine ⟨_, rfl, fun _ => ?_, fun hc => absurd hc (by simp)⟩
    refine Rets.mono (rkTDeep T1 h) ?_
    clear h
    rintro _ w ⟨rfl, h⟩
    refine ⟨_, rfl, ?_⟩
    have eX : IntKind.wrap .u64 (IntKind.wrap .i64 (((t1.toL.length : Nat) : Int) + 1)) = ((t1.size + 1 : Nat) : Int) := by
      rw [wI64 (by omega) (by omega), wU64' (by omega) (by omega), Tr.size_toL]; omega
    rw [eX]
    refine Rets.mono (rkLog (X := t1.size + 1) (by omega) h) ?_
    clear h
    rintro _ w ⟨⟨j, rfl, hj64, hj, _⟩, h⟩
    obtain ⟨hj1, hjd⟩ := deep_log B1 hj
    refine ⟨_, rfl, ?_⟩
    rw [wI64 (n := 2 * ((j : Int) - 1)) (by omega) (by omega), wI64 (n := 2 * ((j : Int) - 1) + 1) (by omega) (by omega)]
    exact ⟨fun hc => (by have := dec_t hc; omega), fun _ => ⟨z - 1, by omega, i + 1, t1, h2, g1, q1, c1, by rw [ei], by omega, hle1, by omega, S1, B1, T1, I1, h⟩⟩
  · have rdK : ∀ w, Own W w [imm h0] → cellAt w ((ad.add (Int.toNat (i : Int) * 3)).add 1) (.int .i64 s.2.1) := fun w h => (rd0 w hle0 h).2.1
    refine ⟨by omega, by omega, smR ⟨_, rdK w h, ?_⟩⟩
    refine Rets.mono (tkGet (k := s.2.1) T0 (by omega) S0 h) ?_
    clear h
    rintro _ w ⟨rfl, h⟩
    refine ⟨_, _, rfl, by omega, by omega, smR ⟨_, rdK w h, ?_⟩⟩
    refine Rets.mono (rlGet (k := s.2.1) I0 (by omega) h) ?_
    clear h
    rintro _ w ⟨rfl, h⟩
    refine ⟨_, _, rfl, by omega, by omega, smR ⟨_, rdK w h, ?_⟩⟩
    refine Rets.mono (tkRank (k := s.2.1) T0 (by omega) S0 h) ?_
    clear h
    rintro _ w ⟨rfl, h⟩
    refine ⟨_, _, rfl, by omega, by omega, smR ⟨_, rdK w h, ?_⟩⟩
    refine Rets.mono (rlRank (k := s.2.1) I0 S0 (by omega) h) ?_
    clear h
    rintro _ w ⟨rfl, h⟩
    refine ⟨_, _, rfl, fun _ => ⟨fun _ => ⟨fun _ => ⟨fun _ => ?_, fun hc => absurd hc (by simp)⟩, fun hc => absurd hc (by simp)⟩, fun hc => absurd hc (by simp)⟩, fun hc => absurd hc (by simp)⟩
    refine Rets.mono (tkStands T0 I0 (by omega) S0 h) ?_
    clear h
    rintro _ w ⟨rfl, h⟩
    refine ⟨_, rfl, fun _ => ?_, fun hc => absurd hc (by simp)⟩
    refine Rets.mono (tkStands T0 I0 (by omega) S0 h) ?_
    clear h
    rintro _ w ⟨rfl, h⟩
    refine ⟨_, rfl, fun _ => ?_, fun hc => absurd hc (by simp)⟩
    refine Rets.mono (rkTDeep T0 h) ?_
    clear h
    rintro _ w ⟨rfl, h⟩
    refine ⟨_, rfl, ?_⟩
    have eX : IntKind.wrap .u64 (IntKind.wrap .i64 (((t0.toL.length : Nat) : Int) + 1)) = ((t0.size + 1 : Nat) : Int) := by
      rw [wI64 (by omega) (by omega), wU64' (by omega) (by omega), Tr.size_toL]; omega
    rw [eX]
    refine Rets.mono (rkLog (X := t0.size + 1) (by omega) h) ?_
    clear h
    rintro _ w ⟨⟨j, rfl, hj64, hj, _⟩, h⟩
    obtain ⟨hj1, hjd⟩ := deep_log B0 hj
    refine ⟨_, rfl, ?_⟩
    rw [wI64 (n := 2 * ((j : Int) - 1)) (by omega) (by omega), wI64 (n := 2 * ((j : Int) - 1) + 1) (by omega) (by omega)]
    exact ⟨fun hc => (by have := dec_t hc; omega), fun _ => ⟨z - 1, by omega, i + 1, t0, h0, g0, q0, c0, by rw [ei], by omega, hle0, by omega, S0, B0, T0, I0, h⟩⟩
end
end Go.Proofs.Ytkcaeknkfgpnhaa.Eng
