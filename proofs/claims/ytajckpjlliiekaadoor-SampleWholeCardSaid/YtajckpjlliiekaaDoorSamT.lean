/- SampleWhole: for any hashes, any beginning, any draws the law answers true. -/
import Derived.Test.YtajckpjlliiekaaDoorSamR
import Derived.Test.YtajckpjlliiekaaDoorSmwG
namespace Go.Proofs.YtajckpjlliiekaaDoor.Eng
open Go Go.RowKit Go.Proofs
set_option linter.unusedVariables false
set_option linter.unusedSimpArgs false
set_option maxRecDepth 1000000
theorem slcA0s (q : Option Addr) (c z : Nat) : slcA q 0 c z = q := by
  unfold slcA
  split
  · rfl
  · cases q with
    | none => rfl
    | some a =>
      show some (a.add (0 * z)) = some a
      rw [Nat.zero_mul]; rfl
theorem keys_nodup {l : LE2} (h : Srt l) : (keysL l).Nodup := by
  unfold List.Nodup
  rw [List.pairwise_map]
  exact h.imp fun hlt => by omega
theorem lfind_key {l : LE2} {x : Int} (h : x ∈ keysL l) : (lfind x l).isSome = true := by
  obtain ⟨e, he, rfl⟩ := List.mem_map.1 h
  unfold lfind
  rw [List.find?_isSome]
  exact ⟨e, he, by simp⟩
theorem nodup_at {R : List Int} (h : R.Nodup) {j : Nat} (hj : j < R.length) : R[j] ∉ R.take j := by
  have h1 : (R.take (j + 1)).Nodup := h.sublist (List.take_sublist _ _)
  rw [List.take_succ_eq_append_getElem hj, List.nodup_append] at h1
  exact fun hh => h1.2.2 _ hh _ (by simp) rfl
section
variable {e w : World} {F : List HP}
theorem smnFill (h : Own e w F) : Rets Tryd.prog 10 #[.pointer none, .slice none 0 0, .pointer none] w fun v w' => v = .slice none 0 0 ∧ Own e w' F := by
  refine sample_nil_Fill_go _ _ _ _ ?_
  have hc : Rets Tryd.prog 43 #[.slice none 0 0] w fun v w' => v = .slice none 0 0 ∧ Own e w' F := clone64_go _ _ _ ⟨fun _ => ⟨rfl, h⟩, fun hc => (by cases hc)⟩
  refine Rets.mono hc ?_
  clear h hc
  rintro _ w ⟨rfl, h⟩
  refine ⟨_, _, _, rfl, fun z vs w => vs = [.slice none 0 0] ∧ Own e w F, ⟨0, rfl, h⟩, ?_⟩
  clear h
  rintro z w qz k5 k6
  intros
  rename_i hI
  obtain ⟨hvs, h⟩ := hI
  obtain ⟨rfl, rfl, rfl⟩ : qz = none ∧ k5 = 0 ∧ k6 = 0 := by simpa using hvs
  refine ⟨fun _ => ?_, fun _ => ⟨rfl, h⟩⟩
  have hn : Rets Tryd.prog 44 #[.pointer none, .int .i64 0, .slice none 0 0] w fun v w' => v = .tuple #[.int .u64 0, .bool false] ∧ Own e w' F := by
    refine sample_next_go _ _ _ _ _ ?_
    refine Rets.mono (lnLen h) ?_
    clear h
    rintro _ w ⟨rfl, h⟩
    refine ⟨_, rfl, fun z vs w => vs = [.int .i64 0] ∧ Own e w F, ⟨0, rfl, h⟩, ?_⟩
    clear h
    intro z w
    intros
    rename_i hI
    obtain ⟨hvs, h⟩ := hI
    simp at hvs
    subst hvs
    exact ⟨fun hc => absurd hc (by decide), fun _ => ⟨rfl, h⟩⟩
  refine Rets.mono hn ?_
  rintro _ w ⟨rfl, h⟩
  exact ⟨_, _, rfl, fun _ => ⟨rfl, h⟩, fun hq => (by cases hq)⟩
end
section
variable {W : World} {q q2 : Option Addr} {c c2 : Nat} {L D : List Int} {m : Int}
theorem SampleWhole_spec (HL : MixLaid W) (hb : RdC W q (cs .u64 L)) (hm : L.length * 8 ≤ 140737488351232) (hc : L.length ≤ c) (hw : ∀ x ∈ L, (Lit.int .u64 x).wf = true) (hmw : (Lit.int .u64 m).wf = true)
    (hb2 : RdC W q2 (cs .i64 D)) (hm2 : D.length * 8 ≤ 140737488351232) (hc2 : D.length ≤ c2) (hw2 : ∀ x ∈ D, (Lit.int .i64 x).wf = true) :
    Rets Tryd.prog 3 #[.slice q L.length c, .int .u64 m, .slice q2 D.length c2] W fun v w' => v = .bool true ∧ Below W.heap.size W w' := by
  refine Rets.mono (k := fun v w' => v = .bool true ∧ ∃ F, Own W w' (snap W :: F)) ?_ (fun v w' h => ⟨h.1, h.2.elim fun F h => h.below⟩)
  have h := Own.begin W
  rw [snap_imm] at h ⊢
  obtain ⟨hW, ehW⟩ : ∃ hW : Nat → Option Obj, hW = (fun b => W.heap[b]?) := ⟨_, rfl⟩
  have rdm : ∀ {h1 : Nat → Option Obj} (le : LeH hW h1) w F, Own W w (imm h1 :: F) → RdC w mixQ mixC := fun le w F h => by rw [ehW] at le; exact Own.snapRd (W := W) (h.immLe le) HL.rd
  have rdL : ∀ {h1 : Nat → Option Obj} (le : LeH hW h1) w F, Own W w (imm h1 :: F) → RdC w q (cs .u64 L) := fun le w F h => by rw [ehW] at le; exact Own.snapRd (W := W) (h.immLe le) hb
  have rdD : ∀ {h1 : Nat → Option Obj} (le : LeH hW h1) w F, Own W w (imm h1 :: F) → RdC w q2 (cs .i64 D) := fun le w F h => by rw [ehW] at le; exact Own.snapRd (W := W) (h.immLe le) hb2
  rw [← ehW] at h ⊢
  clear ehW
  have aw : ∀ {h1 : Nat → Option Obj} {w F}, LeH hW h1 → Own W w (imm h1 :: F) → Rets Tryd.prog 8 #[] w fun v w' => ∃ b, v = Value.bool b ∧ (Value.bool b) = .bool true ∧ ∃ F, Own W w' (imm hW :: F) := fun le h => by
    refine Rets.mono (smAwake (rdm le) h) ?_
    rintro _ w ⟨rfl, F, h⟩
    exact ⟨_, rfl, rfl, _, h.immLe le⟩
  have hmn := wfU64 hmw
  have h6 : 0 ≤ Int.tmod m 6 ∧ Int.tmod m 6 ≤ 5 := by rw [Int.tmod_eq_emod_of_nonneg (by omega)]; omega
  have w6 : IntKind.wrap .i64 (Int.tmod m 6) = Int.tmod m 6 := wI64 (by omega) (by omega)
  obtain ⟨M, hM⟩ : ∃ M, M = Int.tmod m 6 := ⟨_, rfl⟩
  rw [← hM] at h6 w6
  refine cortadolaw25_SampleWhole_go _ _ _ _ _ _ _ ⟨fun hx => aw (LeH.refl _) h, fun hx => ?_⟩
  have hx := dec_f hx
  refine Rets.mono (smMade (ins := L) (c2 := c) (by omega) (rdL (LeH.refl _)) h) ?_
  clear h
  rintro _ w ⟨h1, g, gt, qr, cr, rfl, le1, I1, hnc, T1, h⟩
  obtain ⟨ok, hsz⟩ := mdS_ok L
  have hl1 := Tr.size_toL (mdS L).t
  refine ⟨_, _, _, _, _, rfl, h.newR fun g2 w h => Own.stP' (g := g2) h (by repeat (first | with_reducible exact Pick.here | apply Pick.there)) (by simp) (by simp [Value.oneCell']) fun w h => ?_⟩
  simp only [setFrom, List.set_cons_zero, List.set_cons_succ, List.set_nil] at h
  obtain ⟨s, hs⟩ : ∃ s, s = mdS L := ⟨_, rfl⟩
  rw [← hs] at h I1 hnc T1 ok hsz hl1
  clear hs
  obtain ⟨ha0, le2, ha, hh⟩ := Own.absorb h
  clear h
  have h := hh
  clear hh
  have I1 := I1.mono le2
  have T1 := T1.mono le2
  have le3 := LeH.trans le1 le2
  obtain ⟨ks, hks⟩ : ∃ ks, ks = keysL s.t.toL := ⟨_, rfl⟩
  have hkl : ks.length = s.t.size := by rw [hks, List.length_map, hl1]
  have hnd : ks.Nodup := by rw [hks]; exact keys_nodup ok.1
  have h : Own W w (sl64 none 0 0 [] :: imm ha0 :: ldB g gt s.used s.most :: []) := h.slNil
  refine ⟨fun z vs w => ∃ (i : Nat) (q3 : Option Addr) (c3 : Nat), vs = [.slice q3 (ks.reverse.take i).length c3, .int .i64 (i : Int)] ∧ z + i = ks.length ∧ (i : Int) ≤ M ∧ Own W w (sl64 q3 (ks.reverse.take i).length c3 (ks.reverse.take i) :: imm ha0 :: ldB g gt s.used s.most :: []), ⟨ks.length, 0, none, 0, rfl, rfl, by omega, h⟩, ?_⟩
  clear h
  rintro z w q3 k5 k6 n2
  intros
  rename_i hI
  obtain ⟨i, q3', c3, hvs, hz, hiM, h⟩ := hI
  obtain ⟨⟨rfl, rfl, rfl⟩, rfl⟩ : (q3 = q3' ∧ k5 = (ks.reverse.take i).length ∧ k6 = c3) ∧ n2 = (i : Int) := by simpa using hvs
  have hil : (ks.reverse.take i).length = i := by rw [List.length_take, List.length_reverse]; omega
  refine ⟨fun vs w => vs = [.bool (decide ((i : Int) < ks.length) && decide ((i : Int) < M))] ∧ Own W w (sl64 q3 (ks.reverse.take i).length k6 (ks.reverse.take i) :: imm ha0 :: ldB g gt s.used s.most :: []), ⟨_, _, _, h.swap.immCell ha (i := 0) rfl, fun hq => ⟨by omega, ?_, h⟩, fun hq => ⟨?_, h⟩⟩, ?_⟩
  · have hq := dec_t hq
    rw [← hM, w6, decide_eq_true (show (i : Int) < ks.length by omega), Bool.true_and]
  · have hq := dec_f hq
    rw [decide_eq_false (show ¬ (i : Int) < ks.length by omega), Bool.false_and]
  clear h
  rintro w
  intros
  rename_i b2 hI2
  obtain ⟨hvs2, h⟩ := hI2
  obtain rfl : b2 = (decide ((i : Int) < ks.length) && decide ((i : Int) < M)) := by simpa using hvs2
  refine ⟨fun hq => ?_, fun hq => ?_⟩
  · have hq : (i : Int) < ks.length ∧ (i : Int) < M := by simpa using hq
    have hi : i < ks.length := by omega
    have hir : i < ks.reverse.length := by rw [List.length_reverse]; exact hi
    have hj : ks.length - 1 - i < s.t.toL.length := by omega
    have et : ks.reverse.take (i + 1) = ks.reverse.take i ++ [s.t.toL[ks.length - 1 - i].1] := by
      rw [List.take_succ_eq_append_getElem hir, List.getElem_reverse]
      congr 2
      simp [hks]
    obtain ⟨ad, eq, rd⟩ := I1.adr24 hj h.swap
    have ea : IntKind.wrap .i64 (IntKind.wrap .i64 ((s.t.toL.length : Int) - 1) - (i : Int)) = ((ks.length - 1 - i : Nat) : Int) := by
      rw [wI64 (n := (s.t.toL.length : Int) - 1) (by omega) (by omega), wI64 (by omega) (by omega)]; omega
    refine ⟨_, _, _, h.swap.immCell ha (i := 0) rfl, _, _, _, h.swap.immCell ha (i := 0) rfl, ?_⟩
    rw [ea, eq]
    refine ⟨by omega, by omega, smR ⟨_, (rd _ _ _ h.swap).1, h.newR fun ge w h => ?_⟩⟩
    refine uput h (by omega) fun q4 c4 w h => ⟨_, _, _, rfl, z - 1, by omega, i + 1, q4, c4, ?_, by omega, by omega, ?_⟩
    · rw [et, wI64 (by omega) (by omega)]; rfl
    · rw [et]; exact h
  · obtain ⟨ins, hins⟩ : ∃ ins, ins = ks.reverse.take i := ⟨_, rfl⟩
    rw [← hins] at h hil ⊢
    have hrev : ks.reverse.Nodup := by
      unfold List.Nodup
      rw [List.pairwise_reverse]
      exact hnd.imp fun hne => hne.symm
    have hinn : ins.Nodup := by rw [hins]; exact hrev.sublist (List.take_sublist _ _)
    have hink : ∀ x ∈ ins, x ∈ ks := fun x hx => by rw [hins] at hx; exact List.mem_reverse.1 (List.mem_of_mem_take hx)
    clear hins
    obtain ⟨h5, le5, II, _, h⟩ := h.slImm
    have le6 := LeH.trans le3 le5
    have T1 := T1.mono le5
    have ha := le5 _ _ ha
    refine Rets.mono (dcNew (L := D) (q := q2) (c := c2) (s := 3) h (fun w h => rdD le6 w _ h) hm2) ?_
    clear h
    rintro _ w ⟨gd, rfl, h⟩
    have h : Own W w (imm h5 :: ldB g gt s.used s.most :: dicO gd D 3 0 :: []) := (Own.sub (h) (by repeat (first | with_reducible exact Sub.nil _ | with_reducible exact Sub.rfl _ | (apply Sub.cons; focus ((repeat (first | with_reducible exact Pick.here | apply Pick.there)); done)) | apply Sub.drop)))
    refine ⟨_, rfl, ?_⟩
    refine Rets.mono (smFill (ins := ins) (q := q3) (c := k6) (D := D) (s := 3) (u := 0) T1 (by omega) (by omega) (by omega) hm2 (rdm le6) (fun w F h => II _ _ _ h) h) ?_
    clear h
    rintro _ w ⟨q9, c9, rfl, h⟩
    rw [← hks] at h ⊢
    obtain ⟨a1, a2, a3, a4, _⟩ := filS_law (ks := ks) (bel := belN D 3 ks.length) hnd 5 (out := ins) (u := 0) hinn hink (by omega) (by omega)
    obtain ⟨R, hR⟩ : ∃ R, R = (outS D 3 ks ins 0).1 := ⟨_, rfl⟩
    have a1 : (outS D 3 ks ins 0).1.Nodup := a1
    have a2 : ∀ x ∈ (outS D 3 ks ins 0).1, x ∈ ks := a2
    have a3 : (outS D 3 ks ins 0).1.length = min 5 ks.length := a3
    have a4 : ins <+: (outS D 3 ks ins 0).1 := a4
    rw [← hR] at h a1 a2 a3 a4 ⊢
    clear hR
    obtain ⟨h7, le7, IR, _, h⟩ := h.slImm
    have le8 := LeH.trans le6 le7
    have T1 := T1.mono le7
    have II := II.mono le7
    have ha := le7 _ _ ha
    have em : ((R.length : Int) != minI 5 ((s.t.toL.length : Nat) : Int)) = false := by
      have : (R.length : Int) = minI 5 ((s.t.toL.length : Nat) : Int) := by unfold minI; split <;> omega
      simp [this]
    refine ⟨_, _, _, rfl, _, _, _, h.immCell ha (i := 0) rfl, fun hq3 => (by rw [em] at hq3; cases hq3), fun _ => ?_⟩
    let S : World → Prop := fun w => ∃ F, Own W w (imm h7 :: ldB g gt s.used s.most :: F)
    have h : S w := ⟨_, h⟩
    refine ⟨fun z vs w => ∃ j : Nat, vs = [.int .i64 (j : Int)] ∧ z + j = R.length ∧ S w, ⟨R.length, 0, rfl, rfl, h⟩, ?_⟩
    clear h
    intro z2 w
    intros
    rename_i hI4
    obtain ⟨j, hvs4, hz2, h⟩ := hI4
    simp at hvs4
    subst hvs4
    refine ⟨fun hc4 => ?_, fun hc4 => ?_⟩
    · have hc4 := dec_t hc4
      have hj : j < R.length := by omega
      obtain ⟨F4, h⟩ := h
      refine ⟨by omega, by omega, (IR _ _ _ h).int hj fun a ha4 => ⟨_, by rw [Int.toNat_natCast]; exact ha4, ?_⟩⟩
      refine Rets.mono (ldCost (k := R[j]) T1 (by omega) ok.1 h) ?_
      clear h
      rintro _ w ⟨rfl, h⟩
      have hrk : R[j] ∈ keysL s.t.toL := by rw [← hks]; exact a2 _ (List.getElem_mem hj)
      rw [lfind_key hrk]
      have h : S w := ⟨_, h⟩
      have hat : (cs .u64 R)[j]? = some (.int .u64 R[j]) := by simp [cs, hj]
      obtain ⟨ad, eq9, _⟩ := (IR _ _ _ h.choose_spec).addr hat
      have hdr : ∀ w, S w → cellAt w (ad.add (Int.toNat (j : Int) * 1)) (.int .u64 R[j]) := fun w ⟨F, h⟩ => by
        obtain ⟨ad', ead, hcell⟩ := (IR _ _ _ h).addr hat
        rw [eq9] at ead
        cases ead
        rw [Int.toNat_natCast, Nat.mul_one]
        exact hcell _ _ hat
      have hlt : (R.take j).length = j := by rw [List.length_take]; omega
      refine ⟨_, _, rfl, fun vs w => vs = [.bool false] ∧ S w, Own.drw h.choose_spec fun w h => ⟨S, ⟨_, h⟩, fun _ => ⟨by omega, by omega, by omega, by omega, ?_⟩, fun hq4 => (by cases hq4)⟩, ?_⟩
      · have hS : S w := ⟨_, h⟩
        rw [slcA0s, eq9, Int.toNat_natCast, Nat.sub_zero, Nat.sub_zero]
        refine smR ⟨_, fun w h => hdr w h, ?_⟩
        have hA := uAmong (q := some ad) (c := c9) (k := R[j]) (ins := R.take j) h (fun w h => by
          have := (IR _ _ _ h).take j
          rw [eq9] at this
          rwa [show (cs .u64 R).take j = cs .u64 (R.take j) by simp [cs]] at this) (by omega)
        rw [hlt] at hA
        refine Rets.mono hA ?_
        clear h hA
        rintro _ w ⟨rfl, h⟩
        rw [decide_eq_false (nodup_at a1 hj)]
        refine ⟨_, rfl, ⟨_, h⟩, fun _ => ⟨fun hq5 => ?_, fun hq5 => ⟨rfl, _, h⟩⟩, fun hq5 => (by cases hq5)⟩
        have hq5 := dec_t hq5
        have hji : j < ins.length := by omega
        have hpre : ins[j] = R[j] := List.IsPrefix.getElem a4 hji
        have hat2 : (cs .u64 ins)[j]? = some (.int .u64 ins[j]) := by simp [cs, hji]
        obtain ⟨ad3, eq3, _⟩ := (II _ _ _ h).addr hat2
        have hdr2 : ∀ w, S w → cellAt w (ad3.add (Int.toNat (j : Int) * 1)) (.int .u64 ins[j]) := fun w ⟨F, h⟩ => by
          obtain ⟨ad', ead, hcell⟩ := (II _ _ _ h).addr hat2
          rw [eq3] at ead
          cases ead
          rw [Int.toNat_natCast, Nat.mul_one]
          exact hcell _ _ hat2
        rw [eq3]
        refine ⟨by omega, by omega, smR ⟨by omega, by omega, smR ⟨_, fun w h => hdr w h, _, fun w h => hdr2 w h, ?_, _, h⟩⟩⟩
        rw [hpre]; simp
      clear h
      rintro w
      intros
      rename_i b5 hI5
      obtain ⟨hvs5, h⟩ := hI5
      obtain rfl : b5 = false := by simpa using hvs5
      exact ⟨fun hb => (by cases hb), fun _ => ⟨z2 - 1, by omega, j + 1, by rw [wI64 (by omega) (by omega)]; rfl, by omega, h⟩⟩
    · obtain ⟨F4, h⟩ := h
      refine ⟨fun vs w => vs = [.bool true] ∧ ∃ F, Own W w (imm hW :: F), ?_, ?_⟩
      · refine Rets.mono (smnFill h) ?_
        clear h
        rintro _ w ⟨rfl, h⟩
        refine ⟨_, _, _, rfl, fun _ => ?_, fun hq6 => absurd hq6 (by decide)⟩
        refine Rets.mono (aw le8 h) ?_
        rintro _ w ⟨b, rfl, hb6, h⟩
        exact ⟨_, rfl, by rw [hb6], h⟩
      · clear h
        rintro w b7
        intros
        rename_i hI7
        obtain ⟨hvs7, h⟩ := hI7
        obtain rfl : b7 = true := by simpa using hvs7
        exact ⟨rfl, h⟩
end
end Go.Proofs.YtajckpjlliiekaaDoor.Eng
