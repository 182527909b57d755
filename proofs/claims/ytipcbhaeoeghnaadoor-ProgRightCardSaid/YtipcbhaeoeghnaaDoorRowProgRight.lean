/- ProgRight: whatever the input, the law answers true and its arguments read as they did; no condition. -/
import Derived.Test.YtipcbhaeoeghnaaDoorRows
import Derived.Test.YtipcbhaeoeghnaaDoorProT
import Derived.Test.YtipcbhaeoeghnaaDoorTie
import Derived.Test.YtipcbhaeoeghnaaDoorCards
import Derived.Test.YtipcbhaeoeghnaaDoorMixTab
import Derived.Test.YtipcbhaeoeghnaaDoorNamTab
import Derived.SevenTiedAt
import Derived.Lay
import Derived.WalkKit
import Derived.ProofKit
import Derived.OpenShut
import Derived.ShutString
import Derived.ChangeOld
import Derived.Below
import Derived.SizedLaws
import Derived.Test.YtipcbhaeoeghnaaDoorWSized
namespace Go.Proofs.YtipcbhaeoeghnaaDoor.progRight
open Go.ChangeShapes Go.WideShapes Go.ChangeAt Go.RowKit Go.Proofs.YtipcbhaeoeghnaaDoorW.PrintWords Go.Proofs.YtipcbhaeoeghnaaDoorW.PrintLast
open Go.ChangeMaps (open_string shut_string)
set_option linter.unusedVariables false
theorem own : ownKnob Tryd.prog.godebug = none := by kernel_rfl
theorem laidOut : laidOutB Tryd.prog = true := by kernel_rfl
def IsRow (k : IntKind) (w : World) (a : Option Addr) (len cap : Nat) (zs : List Int) : Prop :=
  (a = none ∧ len = 0 ∧ cap = 0 ∧ zs = []) ∨
  ∃ x, a = some x ∧ len ≤ cap ∧ cap ≤ maxLen ∧ zs.length = cap ∧ (∀ i, i < zs.length → w.cell? (x.add i) = some (.int k (zs.getD i 0))) ∧ ∀ n ∈ zs, (Lit.int k n).wf = true
set_option maxRecDepth 100000 in
abbrev laidL : List (String × DataW Unit) := [("cortado/prog.names", Rows.laid_cortado_prog_names)]
theorem of_laid {W : World} (h : laidMetH Tryd.prog laidL W) : Eng.NamesLaid W := by
  rw [MakeChecks.laidMetH_plain _ _ _ (by kernel_rfl)] at h
  obtain ⟨ps, ⟨g0, t0, cs0, f0, p0, q0, hg0, ht0, hv0, hd0, _, _⟩, _, _⟩ := h
  have gn0 : Tryd.prog.globalNamed "cortado/prog.names" = some 0 := by kernel_rfl
  obtain rfl := Option.some.inj (gn0.symm.trans hg0)
  obtain rfl := Option.some.inj ((show (Tryd.prog.globals[0]?).map (·.type) = some 74 by kernel_rfl).symm.trans ht0)
  have hc0 := MixTab.strs_cells (ss := Eng.nmL) Tryd.underlying74 Tryd.underlying9 (by kernel_rfl) (by kernel_rfl) hd0
  obtain ⟨tt0, fr0, hh0⟩ := MixTab.heap_of_var gn0 hv0
  rw [show cs0 = (cs0.toList).toArray from by simp, hc0] at hh0
  exact ⟨tt0, fr0, hh0⟩
set_option maxRecDepth 100000 in
theorem lifted (os : Os) (started : os.Started) (H : Type) (enc : TypeId × Value → H) :
    ReturnsInHanded {} Tryd.checked os 3 .any (fun w args => (Rows.progRightSpec.pre enc Tryd.prog Tryd.f3 [] false w args ∧ laidMetH Tryd.prog laidL w) ∧ sizedMet enc Tryd.prog Tryd.f3 (OpenSpec.ofChange Rows.progRightSpec) false w args)
      (Rows.progRightSpec.post enc Tryd.prog Tryd.f3 false true false false) := by
  refine returnsInHanded_of_change_and (C := Tryd.checked) (X := fun w _ => laidMetH Tryd.prog laidL w) (fun _ _ _ hh h => h.of_heap hh) own started (by kernel_rfl) Tryd.func3
    (ChangeSpec.witness_shaped (enc := enc) (C := Tryd.checked) (os := os) (X := fun w _ => laidMetH Tryd.prog laidL w) false (World.laidAll Tryd.prog os laidL) #[.slice none 0 0, .int .i64 0] 8 (World.laidAll_os _ _ _) (World.shaped_of_ZipB (by kernel_rfl) (by kernel_rfl)) (by kernel_rfl) (by kernel_rfl) (by kernel_rfl)
      (by rw [MakeChecks.laidMetH_plain _ _ _ (by kernel_rfl)]; exact laidMet_laidAll _ (by kernel_rfl) (by kernel_rfl))) ?_
  intro W base args ds gs before hval0 hW hcnd0 hsz0 hL hlim
  have HLAID := of_laid hL
  have hsz : (DataW.weightsEach Tryd.prog (Tryd.f3.params.toList ++ Rows.progRightSpec.plain.varTypes Tryd.prog) (ds ++ gs)).all (· ≤ reachBytes) = true := hsz0
  have hval : ∀ (j : Nat) t v, Tryd.f3.params[j]? = some t → args[j]? = some v → Value.okWide Tryd.prog W .any base t v := hval0
  have hW' := hW
  obtain ⟨p, q, hA0, hV, rfl, hfz, hnd⟩ := hW
  have hA : DataW.TrodAll enc Tryd.prog W 0 (fun _ => true) true Tryd.f3.params.toList args.toList ds p := hA0
  rw [Tryd.params3] at hA hval hsz
  obtain ⟨v0, vs0, d0, ds0, p0, q0, hargs, rfl, rfl, h0, r0⟩ := trodAll_cons hA
  obtain ⟨v1, vs1, d1, ds1, p1, q1, rfl, rfl, rfl, h1, r1⟩ := trodAll_cons r0
  obtain ⟨rfl, rfl, rfl⟩ := trodAll_nil r1
  obtain rfl : args = #[v0, v1] := by cases args; simp_all
  obtain ⟨rfl, rfl⟩ := trodVars_none hV
  have k0 := h0
  have lt0 : ∀ x ∈ p0, x.block < W.heap.size := by obtain ⟨m, hm⟩ := k0; exact DataW.trod_lt m _ _ _ hm
  have k1 := h1
  have lt1 : ∀ x ∈ p1, x.block < W.heap.size := by obtain ⟨m, hm⟩ := k1; exact DataW.trod_lt m _ _ _ hm
  obtain ⟨a0, len0, cap0, rfl⟩ := okWide_slice Tryd.underlying22 (hval 0 22 v0 rfl rfl)
  obtain ⟨fuel0, hf0⟩ := h0
  have hel0 : ∀ n cs y, DataW.trod enc Tryd.prog W 0 (fun _ => true) true n 25 cs = some y → cs.length = 5 → ∃ x, cs = (Eng.encO) x ∧ ((fun s => (Lit.int .i64 s.1).wf = true ∧ (Lit.int .i64 s.2.1).wf = true ∧ (Lit.int .i64 s.2.2.1).wf = true ∧ (Lit.int .i64 s.2.2.2.1).wf = true ∧ (Lit.int .i64 s.2.2.2.2).wf = true)) x := fun n cs y hy hl => by
    match cs, hl with
    | [c0, c1, c2, c3, c4], _ =>
      obtain ⟨x0, rfl, g0⟩ := Eng.field_int Tryd.underlying25 (i := 0) rfl Tryd.underlying3 (by kernel_rfl) (v := c0) rfl hy
      obtain ⟨x1, rfl, g1⟩ := Eng.field_int Tryd.underlying25 (i := 1) rfl Tryd.underlying3 (by kernel_rfl) (v := c1) rfl hy
      obtain ⟨x2, rfl, g2⟩ := Eng.field_int Tryd.underlying25 (i := 2) rfl Tryd.underlying3 (by kernel_rfl) (v := c2) rfl hy
      obtain ⟨x3, rfl, g3⟩ := Eng.field_int Tryd.underlying25 (i := 3) rfl Tryd.underlying3 (by kernel_rfl) (v := c3) rfl hy
      obtain ⟨x4, rfl, g4⟩ := Eng.field_int Tryd.underlying25 (i := 4) rfl Tryd.underlying3 (by kernel_rfl) (v := c4) rfl hy
      exact ⟨⟨x0, x1, x2, x3, x4⟩, rfl, g0, g1, g2, g3, g4⟩
  obtain ⟨l0, rfl, hr0, hm0, hc0, hw0⟩ := Eng.open_recs (c := 5) (enc := Eng.encO) (ok := (fun s => (Lit.int .i64 s.1).wf = true ∧ (Lit.int .i64 s.2.1).wf = true ∧ (Lit.int .i64 s.2.2.1).wf = true ∧ (Lit.int .i64 s.2.2.2.1).wf = true ∧ (Lit.int .i64 s.2.2.2.2).wf = true)) Tryd.underlying22 (by kernel_rfl) (by omega) (fun _ => rfl) hel0 (by simpa [Value.cells] using hf0)
  obtain ⟨a1, rfl, e1, rfl, w1⟩ := open_int Tryd.underlying3 (hval 1 3 v1 rfl rfl) h1
  clear hA0 hval0 hsz0 hsz
  refine (show Calls Tryd.prog 3 _ W _ from Eng.ProgRight_spec HLAID hr0 hm0 hc0 hw0 w1).mono fun e W' hE => ?_
  obtain ⟨he, bel0⟩ : e = .returned (.bool true) ∧ Below W.heap.size W W' := by
    cases e with
    | returned v => exact ⟨by rw [show v = .bool true from hE.1], hE.2⟩
    | _ => exact hE.elim
  have bel : Below W.heap.size W W' := by first | exact bel0 | exact bel0.below
  subst he
  exact ⟨_, rfl, _, _, _, [], _, [], hW', trodAll_mk1 (shut_bool Tryd.underlying4 _), (trodAll_cons_mk (Below.trod laidOut (by kernel_rfl) (of_decide_eq_true (by kernel_rfl)) k0 bel lt0) (trodAll_cons_mk (Below.trod laidOut (by kernel_rfl) (of_decide_eq_true (by kernel_rfl)) k1 bel lt1) trodAll_mk0)), rfl, bel.frame _, fun h => by cases h⟩
theorem over : Rows.progRightRow.holds Tryd.pinned (OpenSpec.ofChange Rows.progRightSpec) :=
  OpenClaim.holds_of_wide 3 Tryd.f3 rfl rfl rfl rfl rfl rfl rfl ⟨rfl, rfl, rfl, rfl, rfl⟩ rfl rfl rfl rfl rfl (by kernel_rfl) Tryd.func3 (by kernel_rfl)
    (of_decide_eq_true (by kernel_rfl)) (by unfold Func.isWrapper; first | (rw [if_pos (by decide +kernel)]; kernel_rfl) | (rw [if_neg (by decide +kernel)]; exact ⟨rfl, rfl⟩))
    (fun os started H enc _ => lifted os started H enc)
theorem proved : Rows.ProgRightSaid := over
theorem card_holds : Rows.ProgRightCardSaid :=
  Claim7.holds_tied_plain_at .later [] [.data] true (true, "d81c2305288f4b1c1dca921ad85726805c29db222b59e084894cc926d4c2b3a7") false
    proved (fun _ h => by cases h) (by kernel_rfl) (fun _ h => by cases h) progRight_row_tie rfl ⟨rfl, rfl⟩ (by kernel_rfl) rfl
    (fun f fn hf hfn => by
      obtain rfl : f = 3 := Option.some.inj ((show Tryd.prog.funcNamed "cortado/cortadolaw17.ProgRight" = some 3 by kernel_rfl).symm.trans hf) |>.symm
      obtain rfl : fn = Tryd.f3 := (Option.some.inj (Tryd.func3.symm.trans hfn)).symm
      exact ⟨by kernel_rfl, fun j t ht => by
        rw [Tryd.params3] at ht
        have hm : t ∈ [22, 3] := by simpa using Array.mem_of_getElem? ht
        have hall : ([22, 3].all fun u => !Tryd.prog.wantsStandIn u) = true := by kernel_rfl
        exact (show Tryd.prog.wantsStandIn t = false by simpa using List.all_eq_true.1 hall t hm)⟩)
    (by kernel_rfl)
#print axioms card_holds
end Go.Proofs.YtipcbhaeoeghnaaDoor.progRight
namespace Go.Proofs.YtipcbhaeoeghnaaDoor
/-- The row, under a short name, for the claim. -/
theorem progRight_holds : Rows.ProgRightCardSaid := progRight.card_holds
end Go.Proofs.YtipcbhaeoeghnaaDoor
