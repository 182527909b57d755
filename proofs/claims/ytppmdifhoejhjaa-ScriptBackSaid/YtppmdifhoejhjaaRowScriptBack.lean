/- ScriptBack: whatever the input, the law answers true and its arguments read as they did; no condition. -/
import Derived.Test.YtppmdifhoejhjaaRows
import Derived.Test.YtppmdifhoejhjaaScnE
import Derived.WalkKit
import Derived.ProofKit
import Derived.OpenShut
import Derived.ShutString
import Derived.ChangeOld
import Derived.Below
import Derived.SizedLaws
import Derived.Test.YtppmdifhoejhjaaWSized
import Derived.Test.YtppmdifhoejhjaaArr
namespace Go.Proofs.Ytppmdifhoejhjaa.scriptBack
open Go.ChangeShapes Go.WideShapes Go.ChangeAt Go.RowKit Go.Proofs.YtppmdifhoejhjaaW.PrintWords Go.Proofs.YtppmdifhoejhjaaW.PrintLast
open Go.ChangeMaps (open_string shut_string)
set_option linter.unusedVariables false
theorem own : ownKnob Try.prog.godebug = none := by kernel_rfl
theorem laidOut : laidOutB Try.prog = true := by kernel_rfl
def IsRow (k : IntKind) (w : World) (a : Option Addr) (len cap : Nat) (zs : List Int) : Prop :=
  (a = none ∧ len = 0 ∧ cap = 0 ∧ zs = []) ∨
  ∃ x, a = some x ∧ len ≤ cap ∧ cap ≤ maxLen ∧ zs.length = cap ∧ (∀ i, i < zs.length → w.cell? (x.add i) = some (.int k (zs.getD i 0))) ∧ ∀ n ∈ zs, (Lit.int k n).wf = true
theorem len8 {α : Type} {l : List α} (h : l.length = 8) : ∃ z0 z1 z2 z3 z4 z5 z6 z7, l = [z0, z1, z2, z3, z4, z5, z6, z7] := by
  match l, h with
  | [z0, z1, z2, z3, z4, z5, z6, z7], _ => exact ⟨z0, z1, z2, z3, z4, z5, z6, z7, rfl⟩
set_option maxRecDepth 100000 in
theorem lifted (os : Os) (started : os.Started) (H : Type) (enc : TypeId × Value → H) :
    ReturnsInHanded {} Try.checked os 4 .any (Rows.scriptBackSpec.pre6 enc Try.prog Try.f4 Rows.scriptBackRow.domain false) (Rows.scriptBackSpec.post enc Try.prog Try.f4 false true false false) := by
  refine returnsInHanded_of_change_sized (C := Try.checked) own started (by kernel_rfl) Try.func4
    (ChangeSpec.witness6 (enc := enc) (C := Try.checked) false ⟨#[], #[.agg #[.int .i64 0, .int .i64 0, .int .i64 0, .int .i64 0, .int .i64 0, .slice none 0 0, .slice none 0 0, .slice none 0 0]], []⟩ 8 (by kernel_rfl) (by kernel_rfl) (by kernel_rfl) (by kernel_rfl)) ?_
  intro W base args ds gs before hval0 hW hcnd hsz0 _
  have hsz : (DataW.weightsEach Try.prog (Try.f4.params.toList ++ Rows.scriptBackSpec.plain.varTypes Try.prog) (ds ++ gs)).all (· ≤ reachBytes) = true := hsz0
  have hval : ∀ (j : Nat) t v, Try.f4.params[j]? = some t → args[j]? = some v → Value.okWide Try.prog W .any base t v := hval0
  have hW' := hW
  obtain ⟨p, q, hA0, hV, rfl, hfz, hnd⟩ := hW
  have hA : DataW.TrodAll enc Try.prog W 0 (fun _ => true) true Try.f4.params.toList args.toList ds p := hA0
  rw [Try.params4] at hA hval hsz
  obtain ⟨v0, vs0, d0, ds0, p0, q0, hargs, rfl, rfl, h0, r0⟩ := trodAll_cons hA
  obtain ⟨rfl, rfl, rfl⟩ := trodAll_nil r0
  obtain rfl : args = #[v0] := by cases args; simp_all
  obtain ⟨rfl, rfl⟩ := trodVars_none hV
  have k0 := h0
  have lt0 : ∀ x ∈ p0, x.block < W.heap.size := by obtain ⟨m, hm⟩ := k0; exact DataW.trod_lt m _ _ _ hm
  obtain ⟨lc0, rfl, hlc0⟩ := Arr.agg_of Try.underlying27 (by kernel_rfl) (hval 0 27 v0 rfl rfl)
  obtain ⟨c0_0, c0_1, c0_2, c0_3, c0_4, c0_5, c0_6, c0_7, rfl⟩ := len8 hlc0
  obtain ⟨fu0, hf0⟩ := h0
  obtain ⟨m0_1, hl0_1⟩ := Arr.field_of Try.underlying27 hf0
  obtain ⟨z0_2, g0_2⟩ := hl0_1 0 _ rfl
  have q0_2 : DataW.trod enc Try.prog W 0 (fun _ => true) true m0_1 23 [c0_0, c0_1, c0_2, c0_3, c0_4] = some z0_2 := by simpa [Value.cells, show Try.prog.cellsOf 23 = 5 from by kernel_rfl] using g0_2
  obtain ⟨m0_3, hl0_3⟩ := Arr.field_of Try.underlying23 q0_2
  obtain ⟨z0_4, g0_4⟩ := hl0_3 0 _ rfl
  have q0_4 : DataW.trod enc Try.prog W 0 (fun _ => true) true m0_3 3 [c0_0] = some z0_4 := by simpa [Value.cells, show Try.prog.cellsOf 3 = 1 from by kernel_rfl] using g0_4
  obtain ⟨a0_0, rfl, w0_0⟩ := Arr.cell_int Try.underlying3 q0_4
  obtain ⟨z0_5, g0_5⟩ := hl0_3 1 _ rfl
  have q0_5 : DataW.trod enc Try.prog W 0 (fun _ => true) true m0_3 3 [c0_1] = some z0_5 := by simpa [Value.cells, show Try.prog.cellsOf 3 = 1 from by kernel_rfl] using g0_5
  obtain ⟨a0_1, rfl, w0_1⟩ := Arr.cell_int Try.underlying3 q0_5
  obtain ⟨z0_6, g0_6⟩ := hl0_3 2 _ rfl
  have q0_6 : DataW.trod enc Try.prog W 0 (fun _ => true) true m0_3 3 [c0_2] = some z0_6 := by simpa [Value.cells, show Try.prog.cellsOf 3 = 1 from by kernel_rfl] using g0_6
  obtain ⟨a0_2, rfl, w0_2⟩ := Arr.cell_int Try.underlying3 q0_6
  obtain ⟨z0_7, g0_7⟩ := hl0_3 3 _ rfl
  have q0_7 : DataW.trod enc Try.prog W 0 (fun _ => true) true m0_3 3 [c0_3] = some z0_7 := by simpa [Value.cells, show Try.prog.cellsOf 3 = 1 from by kernel_rfl] using g0_7
  obtain ⟨a0_3, rfl, w0_3⟩ := Arr.cell_int Try.underlying3 q0_7
  obtain ⟨z0_8, g0_8⟩ := hl0_3 4 _ rfl
  have q0_8 : DataW.trod enc Try.prog W 0 (fun _ => true) true m0_3 3 [c0_4] = some z0_8 := by simpa [Value.cells, show Try.prog.cellsOf 3 = 1 from by kernel_rfl] using g0_8
  obtain ⟨a0_4, rfl, w0_4⟩ := Arr.cell_int Try.underlying3 q0_8
  obtain ⟨z0_9, g0_9⟩ := hl0_1 1 _ rfl
  have q0_9 : DataW.trod enc Try.prog W 0 (fun _ => true) true m0_1 24 [c0_5] = some z0_9 := by simpa [Value.cells, show Try.prog.cellsOf 24 = 1 from by kernel_rfl] using g0_9
  obtain ⟨A0_5, len0_5, cap0_5, rfl⟩ := Arr.cell_sl Try.underlying24 q0_9
  have hel0_5 : ∀ n cs y, DataW.trod enc Try.prog W 0 (fun _ => true) true n 50 cs = some y → cs.length = 5 → ∃ x, cs = (Eng.encO) x ∧ ((fun s => (Lit.int .i64 s.1).wf = true ∧ (Lit.int .i64 s.2.1).wf = true ∧ (Lit.int .i64 s.2.2.1).wf = true ∧ (Lit.int .i64 s.2.2.2.1).wf = true ∧ (Lit.int .i64 s.2.2.2.2).wf = true)) x := fun n cs y hy hl => by
    match cs, hl with
    | [c0, c1, c2, c3, c4], _ =>
      obtain ⟨x0, rfl, g0⟩ := Eng.field_int Try.underlying50 (i := 0) rfl Try.underlying3 (by kernel_rfl) (v := c0) rfl hy
      obtain ⟨x1, rfl, g1⟩ := Eng.field_int Try.underlying50 (i := 1) rfl Try.underlying3 (by kernel_rfl) (v := c1) rfl hy
      obtain ⟨x2, rfl, g2⟩ := Eng.field_int Try.underlying50 (i := 2) rfl Try.underlying3 (by kernel_rfl) (v := c2) rfl hy
      obtain ⟨x3, rfl, g3⟩ := Eng.field_int Try.underlying50 (i := 3) rfl Try.underlying3 (by kernel_rfl) (v := c3) rfl hy
      obtain ⟨x4, rfl, g4⟩ := Eng.field_int Try.underlying50 (i := 4) rfl Try.underlying3 (by kernel_rfl) (v := c4) rfl hy
      exact ⟨⟨x0, x1, x2, x3, x4⟩, rfl, g0, g1, g2, g3, g4⟩
  obtain ⟨l0_5, rfl, hr0_5, hm0_5, hc0_5, hw0_5⟩ := Eng.open_slices (w := W) (enc0 := enc) (f := fun ys => ys.flatMap (Eng.encO)) (ok := fun ys => ∀ x ∈ ys, ((fun s => (Lit.int .i64 s.1).wf = true ∧ (Lit.int .i64 s.2.1).wf = true ∧ (Lit.int .i64 s.2.2.1).wf = true ∧ (Lit.int .i64 s.2.2.2.1).wf = true ∧ (Lit.int .i64 s.2.2.2.2).wf = true)) x) Try.underlying24 Try.underlying30 (by kernel_rfl) (fun n q l cap y hy => Eng.open_recs (c := 5) (enc := Eng.encO) (ok := (fun s => (Lit.int .i64 s.1).wf = true ∧ (Lit.int .i64 s.2.1).wf = true ∧ (Lit.int .i64 s.2.2.1).wf = true ∧ (Lit.int .i64 s.2.2.2.1).wf = true ∧ (Lit.int .i64 s.2.2.2.2).wf = true)) Try.underlying30 (by kernel_rfl) (by omega) (fun _ => rfl) hel0_5 hy) q0_9
  obtain ⟨z0_10, g0_10⟩ := hl0_1 2 _ rfl
  have q0_10 : DataW.trod enc Try.prog W 0 (fun _ => true) true m0_1 25 [c0_6] = some z0_10 := by simpa [Value.cells, show Try.prog.cellsOf 25 = 1 from by kernel_rfl] using g0_10
  obtain ⟨A0_6, len0_6, cap0_6, zs0_6, rfl, w0_6⟩ := Arr.cell_slice Try.underlying25 Try.underlying3 (by kernel_rfl) q0_10
  obtain ⟨l0_6, rfl, hr0_6, hm0_6, hw0_6, hc0_6⟩ := ReadsInt.ofRowC w0_6
  obtain ⟨z0_11, g0_11⟩ := hl0_1 3 _ rfl
  have q0_11 : DataW.trod enc Try.prog W 0 (fun _ => true) true m0_1 25 [c0_7] = some z0_11 := by simpa [Value.cells, show Try.prog.cellsOf 25 = 1 from by kernel_rfl] using g0_11
  obtain ⟨A0_7, len0_7, cap0_7, zs0_7, rfl, w0_7⟩ := Arr.cell_slice Try.underlying25 Try.underlying3 (by kernel_rfl) q0_11
  obtain ⟨l0_7, rfl, hr0_7, hm0_7, hw0_7, hc0_7⟩ := ReadsInt.ofRowC w0_7
  clear hA0 hval0 hsz0 hsz
  refine (show Calls Try.prog 4 _ W _ from Eng.ScriptBack_spec w0_0 w0_1 w0_2 w0_3 w0_4 hr0_5 hm0_5 hc0_5 hw0_5 (Eng.of_reads hr0_6) hm0_6 hc0_6 hw0_6 (Eng.of_reads hr0_7) hm0_7 hc0_7 hw0_7).mono fun e W' hE => ?_
  obtain ⟨he, bel0⟩ : e = .returned (.bool true) ∧ Below W.heap.size W W' := by
    cases e with
    | returned v => exact ⟨by rw [show v = .bool true from hE.1], hE.2⟩
    | _ => exact hE.elim
  have bel : Below W.heap.size W W' := by first | exact bel0 | exact bel0.below
  subst he
  exact ⟨_, rfl, _, _, _, [], _, [], hW', trodAll_mk1 (shut_bool Try.underlying4 _), (trodAll_cons_mk (Below.trod laidOut (by kernel_rfl) (of_decide_eq_true (by kernel_rfl)) k0 bel lt0) trodAll_mk0), rfl, bel.frame _, fun h => by cases h⟩
theorem over : Rows.scriptBackRow.holds Try.pinned (OpenSpec.ofChange Rows.scriptBackSpec) :=
  OpenClaim.holds_of_wide 4 Try.f4 rfl rfl rfl rfl rfl rfl rfl ⟨rfl, rfl, rfl, rfl, rfl⟩ rfl rfl rfl rfl rfl (by kernel_rfl) Try.func4 (by kernel_rfl)
    (of_decide_eq_true (by kernel_rfl)) (by unfold Func.isWrapper; first | (rw [if_pos (by decide +kernel)]; kernel_rfl) | (rw [if_neg (by decide +kernel)]; exact ⟨rfl, rfl⟩))
    (fun os started H enc _ => lifted os started H enc)
theorem proved : Rows.ScriptBackSaid := over
#print axioms proved
end Go.Proofs.Ytppmdifhoejhjaa.scriptBack
namespace Go.Proofs.Ytppmdifhoejhjaa
/-- The row, under a short name, for the claim. -/
theorem scriptBack_holds : Rows.ScriptBackSaid := scriptBack.proved
end Go.Proofs.Ytppmdifhoejhjaa
