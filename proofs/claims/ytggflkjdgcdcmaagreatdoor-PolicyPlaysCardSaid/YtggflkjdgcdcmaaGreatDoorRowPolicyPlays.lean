/- PolicyPlays: whatever the input, the law answers true and its arguments read as they did; no condition. -/
import Derived.Test.YtggflkjdgcdcmaaGreatDoorRows
import Derived.Test.YtggflkjdgcdcmaaGreatDoorPyB
import Derived.Test.YtggflkjdgcdcmaaGreatDoorTie
import Derived.Test.YtggflkjdgcdcmaaGreatDoorCards
import Derived.Test.YtggflkjdgcdcmaaGreatDoorMixTab
import Derived.SevenTiedAt
import Derived.Lay
import Derived.WalkKit
import Derived.ProofKit
import Derived.OpenShut
import Derived.ShutString
import Derived.ChangeOld
import Derived.Below
import Derived.SizedLaws
import Derived.Test.YtggflkjdgcdcmaaGreatDoorWSized
import Derived.Test.YtggflkjdgcdcmaaGreatDoorStS
import Derived.Test.YtggflkjdgcdcmaaGreatDoorArr
namespace Go.Proofs.YtggflkjdgcdcmaaGreatDoor.policyPlays
open Go.ChangeShapes Go.WideShapes Go.ChangeAt Go.RowKit Go.Proofs.YtggflkjdgcdcmaaGreatDoorW.PrintWords Go.Proofs.YtggflkjdgcdcmaaGreatDoorW.PrintLast
open Go.ChangeMaps (open_string shut_string)
set_option linter.unusedVariables false
theorem own : ownKnob Tryz.prog.godebug = none := by kernel_rfl
theorem laidOut : laidOutB Tryz.prog = true := by kernel_rfl
def IsRow (k : IntKind) (w : World) (a : Option Addr) (len cap : Nat) (zs : List Int) : Prop :=
  (a = none ∧ len = 0 ∧ cap = 0 ∧ zs = []) ∨
  ∃ x, a = some x ∧ len ≤ cap ∧ cap ≤ maxLen ∧ zs.length = cap ∧ (∀ i, i < zs.length → w.cell? (x.add i) = some (.int k (zs.getD i 0))) ∧ ∀ n ∈ zs, (Lit.int k n).wf = true
theorem len3 {α : Type} {l : List α} (h : l.length = 3) : ∃ z0 z1 z2, l = [z0, z1, z2] := by
  match l, h with
  | [z0, z1, z2], _ => exact ⟨z0, z1, z2, rfl⟩
set_option maxRecDepth 100000 in
abbrev laidL : List (String × DataW Unit) := [("cortado/mix.mixed", Rows.laid_cortado_mix_mixed), ("cortado/mix.twisted", Rows.laid_cortado_mix_twisted)]
theorem of_laid {W : World} (h : laidMetH Tryz.prog laidL W) : Eng.MixLaid W := by
  rw [MakeChecks.laidMetH_plain _ _ _ (by kernel_rfl)] at h
  obtain ⟨ps, ⟨g0, t0, cs0, f0, p0, q0, hg0, ht0, hv0, hd0, ⟨g1, t1, cs1, f1, p1, q1, hg1, ht1, hv1, hd1, _, _⟩, _⟩, _, _⟩ := h
  have gn0 : Tryz.prog.globalNamed "cortado/mix.mixed" = some 0 := by kernel_rfl
  obtain rfl := Option.some.inj (gn0.symm.trans hg0)
  obtain rfl := Option.some.inj ((show (Tryz.prog.globals[0]?).map (·.type) = some 168 by kernel_rfl).symm.trans ht0)
  have hc0 := MixTab.table_cells Tryz.underlying168 Tryz.underlying167 Tryz.underlying3 Tryz.underlying30 rfl rfl (by kernel_rfl) (by kernel_rfl) (by kernel_rfl) (by kernel_rfl) hd0
  obtain ⟨tt0, fr0, hh0⟩ := MixTab.heap_of_var gn0 hv0
  rw [show cs0 = (cs0.toList).toArray from by simp, hc0] at hh0
  have gn1 : Tryz.prog.globalNamed "cortado/mix.twisted" = some 1 := by kernel_rfl
  obtain rfl := Option.some.inj (gn1.symm.trans hg1)
  obtain rfl := Option.some.inj ((show (Tryz.prog.globals[1]?).map (·.type) = some 168 by kernel_rfl).symm.trans ht1)
  have hc1 := MixTab.table_cells Tryz.underlying168 Tryz.underlying167 Tryz.underlying3 Tryz.underlying30 rfl rfl (by kernel_rfl) (by kernel_rfl) (by kernel_rfl) (by kernel_rfl) hd1
  obtain ⟨tt1, fr1, hh1⟩ := MixTab.heap_of_var gn1 hv1
  rw [show cs1 = (cs1.toList).toArray from by simp, hc1] at hh1
  exact ⟨⟨tt0, fr0, hh0⟩, fun q => ⟨tt1, fr1, hh1⟩⟩
set_option maxRecDepth 100000 in
theorem lifted (os : Os) (started : os.Started) (H : Type) (enc : TypeId × Value → H) :
    ReturnsInHanded {} Tryz.checked os 3 .any (fun w args => (Rows.policyPlaysSpec.pre enc Tryz.prog Tryz.f3 [] false w args ∧ laidMetH Tryz.prog laidL w) ∧ sizedMet enc Tryz.prog Tryz.f3 (OpenSpec.ofChange Rows.policyPlaysSpec) false w args)
      (Rows.policyPlaysSpec.post enc Tryz.prog Tryz.f3 false true false false) := by
  refine returnsInHanded_of_change_and (C := Tryz.checked) (X := fun w _ => laidMetH Tryz.prog laidL w) (fun _ _ _ hh h => h.of_heap hh) own started (by kernel_rfl) Tryz.func3
    (ChangeSpec.witness_shaped (enc := enc) (C := Tryz.checked) (os := os) (X := fun w _ => laidMetH Tryz.prog laidL w) false (World.laidAll Tryz.prog os laidL) #[.agg #[.int .i64 0, .int .i64 0, .slice none 0 0], .slice none 0 0] 8 (World.laidAll_os _ _ _) (World.shaped_of_ZipB (by kernel_rfl) (by kernel_rfl)) (by kernel_rfl) (by kernel_rfl) (by kernel_rfl)
      (by rw [MakeChecks.laidMetH_plain _ _ _ (by kernel_rfl)]; exact laidMet_laidAll _ (by kernel_rfl) (by kernel_rfl))) ?_
  intro W base args ds gs before hval0 hW hcnd0 hsz0 hL hlim
  have HLAID := of_laid hL
  have hsz : (DataW.weightsEach Tryz.prog (Tryz.f3.params.toList ++ Rows.policyPlaysSpec.plain.varTypes Tryz.prog) (ds ++ gs)).all (· ≤ reachBytes) = true := hsz0
  have hval : ∀ (j : Nat) t v, Tryz.f3.params[j]? = some t → args[j]? = some v → Value.okWide Tryz.prog W .any base t v := hval0
  have hW' := hW
  obtain ⟨p, q, hA0, hV, rfl, hfz, hnd⟩ := hW
  have hA : DataW.TrodAll enc Tryz.prog W 0 (fun _ => true) true Tryz.f3.params.toList args.toList ds p := hA0
  rw [Tryz.params3] at hA hval hsz
  obtain ⟨v0, vs0, d0, ds0, p0, q0, hargs, rfl, rfl, h0, r0⟩ := trodAll_cons hA
  obtain ⟨v1, vs1, d1, ds1, p1, q1, rfl, rfl, rfl, h1, r1⟩ := trodAll_cons r0
  obtain ⟨rfl, rfl, rfl⟩ := trodAll_nil r1
  obtain rfl : args = #[v0, v1] := by cases args; simp_all
  obtain ⟨rfl, rfl⟩ := trodVars_none hV
  have k0 := h0
  have lt0 : ∀ x ∈ p0, x.block < W.heap.size := by obtain ⟨m, hm⟩ := k0; exact DataW.trod_lt m _ _ _ hm
  have k1 := h1
  have lt1 : ∀ x ∈ p1, x.block < W.heap.size := by obtain ⟨m, hm⟩ := k1; exact DataW.trod_lt m _ _ _ hm
  obtain ⟨lc0, rfl, hlc0⟩ := Arr.agg_of Tryz.underlying24 (by kernel_rfl) (hval 0 24 v0 rfl rfl)
  obtain ⟨c0_0, c0_1, c0_2, rfl⟩ := len3 hlc0
  obtain ⟨fu0, hf0⟩ := h0
  obtain ⟨m0_1, hl0_1⟩ := Arr.field_of2 hsz (j := 0) (t := 24) rfl rfl Tryz.underlying24 hf0
  obtain ⟨z0_2, g0_2, wt0_2⟩ := hl0_1 0 _ rfl
  have q0_2 : DataW.trod enc Tryz.prog W 0 (fun _ => true) true m0_1 3 [c0_0] = some z0_2 := by simpa [Value.cells, show Tryz.prog.cellsOf 3 = 1 from by kernel_rfl] using g0_2
  obtain ⟨a0_0, rfl, w0_0⟩ := Arr.cell_int Tryz.underlying3 q0_2
  obtain ⟨z0_3, g0_3, wt0_3⟩ := hl0_1 1 _ rfl
  have q0_3 : DataW.trod enc Tryz.prog W 0 (fun _ => true) true m0_1 3 [c0_1] = some z0_3 := by simpa [Value.cells, show Tryz.prog.cellsOf 3 = 1 from by kernel_rfl] using g0_3
  obtain ⟨a0_1, rfl, w0_1⟩ := Arr.cell_int Tryz.underlying3 q0_3
  obtain ⟨z0_4, g0_4, wt0_4⟩ := hl0_1 2 _ rfl
  have q0_4 : DataW.trod enc Tryz.prog W 0 (fun _ => true) true m0_1 22 [c0_2] = some z0_4 := by simpa [Value.cells, show Tryz.prog.cellsOf 22 = 1 from by kernel_rfl] using g0_4
  obtain ⟨A0_2, len0_2, cap0_2, zs0_2, rfl, w0_2, y0_2⟩ := Arr.cell_slice2 (B := 8) Tryz.underlying22 Tryz.underlying3 (by kernel_rfl) (by kernel_rfl) q0_4 wt0_4
  obtain ⟨l0_2, rfl, hr0_2, hm0_2, hw0_2, hc0_2⟩ := ReadsInt.ofRowC w0_2
  obtain ⟨a1, len1, cap1, rfl⟩ := okWide_slice Tryz.underlying25 (hval 1 25 v1 rfl rfl)
  obtain ⟨fuel1, hf1⟩ := h1
  have hel1 : ∀ n cs y, DataW.trod enc Tryz.prog W 0 (fun _ => true) true n 54 cs = some y → cs.length = 3 → ∃ x, cs = (Eng.encP3) x ∧ ((fun s => (Lit.int .u64 s.1).wf = true ∧ (Lit.int .u64 s.2.1).wf = true ∧ (Lit.int .i64 s.2.2).wf = true)) x := fun n cs y hy hl => by
    match cs, hl with
    | [c0, c1, c2], _ =>
      obtain ⟨x0, rfl, g0⟩ := Eng.field_int Tryz.underlying54 (i := 0) rfl Tryz.underlying52 (by kernel_rfl) (v := c0) rfl hy
      obtain ⟨x1, rfl, g1⟩ := Eng.field_int Tryz.underlying54 (i := 1) rfl Tryz.underlying30 (by kernel_rfl) (v := c1) rfl hy
      obtain ⟨x2, rfl, g2⟩ := Eng.field_int Tryz.underlying54 (i := 2) rfl Tryz.underlying3 (by kernel_rfl) (v := c2) rfl hy
      exact ⟨⟨x0, x1, x2⟩, rfl, g0, g1, g2⟩
  obtain ⟨l1, rfl, hr1, hm1, hc1, hw1⟩ := Eng.open_recs (c := 3) (enc := Eng.encP3) (ok := (fun s => (Lit.int .u64 s.1).wf = true ∧ (Lit.int .u64 s.2.1).wf = true ∧ (Lit.int .i64 s.2.2).wf = true)) Tryz.underlying25 (by kernel_rfl) (by omega) (fun _ => rfl) hel1 (by simpa [Value.cells] using hf1)
  clear hA0 hval0 hsz0 hsz
  refine (show Calls Tryz.prog 3 _ W _ from Eng.PolicyPlays_spec HLAID w0_0 w0_1 (Eng.of_reads hr0_2) y0_2 hc0_2 hw0_2 hr1 hm1 hc1 hw1).mono fun e W' hE => ?_
  obtain ⟨he, bel0⟩ : e = .returned (.bool true) ∧ Below W.heap.size W W' := by
    cases e with
    | returned v => exact ⟨by rw [show v = .bool true from hE.1], hE.2⟩
    | _ => exact hE.elim
  have bel : Below W.heap.size W W' := by first | exact bel0 | exact bel0.below
  subst he
  exact ⟨_, rfl, _, _, _, [], _, [], hW', trodAll_mk1 (shut_bool Tryz.underlying4 _), (trodAll_cons_mk (Below.trod laidOut (by kernel_rfl) (of_decide_eq_true (by kernel_rfl)) k0 bel lt0) (trodAll_cons_mk (Below.trod laidOut (by kernel_rfl) (of_decide_eq_true (by kernel_rfl)) k1 bel lt1) trodAll_mk0)), rfl, bel.frame _, fun h => by cases h⟩
theorem over : Rows.policyPlaysRow.holds Tryz.pinned (OpenSpec.ofChange Rows.policyPlaysSpec) :=
  OpenClaim.holds_of_wide 3 Tryz.f3 rfl rfl rfl rfl rfl rfl rfl ⟨rfl, rfl, rfl, rfl, rfl⟩ rfl rfl rfl rfl rfl (by kernel_rfl) Tryz.func3 (by kernel_rfl)
    (of_decide_eq_true (by kernel_rfl)) (by unfold Func.isWrapper; first | (rw [if_pos (by decide +kernel)]; kernel_rfl) | (rw [if_neg (by decide +kernel)]; exact ⟨rfl, rfl⟩))
    (fun os started H enc _ => lifted os started H enc)
theorem proved : Rows.PolicyPlaysSaid := over
theorem card_holds : Rows.PolicyPlaysCardSaid :=
  Claim7.holds_tied_plain_at .later [] [.data, .data] true (true, "1e6af7d370c5f6fb3d749066fee5b92cc64a07414a48a484b8c007700ddd4854") false
    proved (fun _ h => by cases h) (by kernel_rfl) (fun _ h => by cases h) policyPlays_row_tie rfl ⟨rfl, rfl⟩ (by kernel_rfl) rfl
    (fun f fn hf hfn => by
      obtain rfl : f = 3 := Option.some.inj ((show Tryz.prog.funcNamed "cortado/cortadolaw26.PolicyPlays" = some 3 by kernel_rfl).symm.trans hf) |>.symm
      obtain rfl : fn = Tryz.f3 := (Option.some.inj (Tryz.func3.symm.trans hfn)).symm
      exact ⟨by kernel_rfl, fun j t ht => by
        rw [Tryz.params3] at ht
        have hm : t ∈ [24, 25] := by simpa using Array.mem_of_getElem? ht
        have hall : ([24, 25].all fun u => !Tryz.prog.wantsStandIn u) = true := by kernel_rfl
        exact (show Tryz.prog.wantsStandIn t = false by simpa using List.all_eq_true.1 hall t hm)⟩)
    (by kernel_rfl)
#print axioms card_holds
end Go.Proofs.YtggflkjdgcdcmaaGreatDoor.policyPlays
namespace Go.Proofs.YtggflkjdgcdcmaaGreatDoor
/-- The row, under a short name, for the claim. -/
theorem policyPlays_holds : Rows.PolicyPlaysCardSaid := policyPlays.card_holds
end Go.Proofs.YtggflkjdgcdcmaaGreatDoor
