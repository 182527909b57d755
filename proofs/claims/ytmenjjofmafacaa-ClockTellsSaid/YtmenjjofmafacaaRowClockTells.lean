/- ClockTells: whatever the input, the law answers true and its arguments read as they did; no condition. -/
import Derived.Test.YtmenjjofmafacaaRows
import Derived.Test.YtmenjjofmafacaaHClockTellsx2
import Derived.Test.YtmenjjofmafacaaPureClockTells
import Derived.WalkKit
import Derived.ProofKit
import Derived.OpenShut
import Derived.ShutString
import Derived.ChangeOld
import Derived.Below
import Derived.SizedLaws
import Derived.Test.YtmenjjofmafacaaWSized
import Derived.Test.YtmenjjofmafacaaArr
namespace Go.Proofs.Ytmenjjofmafacaa.clockTells
open Go.ChangeShapes Go.WideShapes Go.ChangeAt Go.RowKit Go.Proofs.YtmenjjofmafacaaW.PrintWords Go.Proofs.YtmenjjofmafacaaW.PrintLast
open Go.ChangeMaps (open_string shut_string)
set_option linter.unusedVariables false
theorem own : ownKnob Try.prog.godebug = none := by kernel_rfl
theorem laidOut : laidOutB Try.prog = true := by kernel_rfl
def IsRow (k : IntKind) (w : World) (a : Option Addr) (len cap : Nat) (zs : List Int) : Prop :=
  (a = none ∧ len = 0 ∧ cap = 0 ∧ zs = []) ∨
  ∃ x, a = some x ∧ len ≤ cap ∧ cap ≤ maxLen ∧ zs.length = cap ∧ (∀ i, i < zs.length → w.cell? (x.add i) = some (.int k (zs.getD i 0))) ∧ ∀ n ∈ zs, (Lit.int k n).wf = true
theorem len2 {α : Type} {l : List α} (h : l.length = 2) : ∃ z0 z1, l = [z0, z1] := by
  match l, h with
  | [z0, z1], _ => exact ⟨z0, z1, rfl⟩
theorem len5 {α : Type} {l : List α} (h : l.length = 5) : ∃ z0 z1 z2 z3 z4, l = [z0, z1, z2, z3, z4] := by
  match l, h with
  | [z0, z1, z2, z3, z4], _ => exact ⟨z0, z1, z2, z3, z4, rfl⟩
set_option maxRecDepth 100000 in
theorem lifted (os : Os) (started : os.Started) (H : Type) (enc : TypeId × Value → H) :
    ReturnsInHanded {} Try.checked os 7 .any (Rows.clockTellsSpec.pre6 enc Try.prog Try.f7 Rows.clockTellsRow.domain false) (Rows.clockTellsSpec.post enc Try.prog Try.f7 false true false false) := by
  refine returnsInHanded_of_change_sized (C := Try.checked) own started (by kernel_rfl) Try.func7
    (ChangeSpec.witness6 (enc := enc) (C := Try.checked) false ⟨#[], #[.agg #[.int .i64 0, .slice none 0 0, .int .i64 0, .int .i64 0, .int .i64 0]], []⟩ 8 (by kernel_rfl) (by kernel_rfl) (by kernel_rfl) (by kernel_rfl)) ?_
  intro W base args ds gs before hval0 hW hcnd hsz0 _
  have hsz : (DataW.weightsEach Try.prog (Try.f7.params.toList ++ Rows.clockTellsSpec.plain.varTypes Try.prog) (ds ++ gs)).all (· ≤ reachBytes) = true := hsz0
  have hval : ∀ (j : Nat) t v, Try.f7.params[j]? = some t → args[j]? = some v → Value.okWide Try.prog W .any base t v := hval0
  have hW' := hW
  obtain ⟨p, q, hA0, hV, rfl, hfz, hnd⟩ := hW
  have hA : DataW.TrodAll enc Try.prog W 0 (fun _ => true) true Try.f7.params.toList args.toList ds p := hA0
  rw [Try.params7] at hA hval hsz
  obtain ⟨v0, vs0, d0, ds0, p0, q0, hargs, rfl, rfl, h0, r0⟩ := trodAll_cons hA
  obtain ⟨rfl, rfl, rfl⟩ := trodAll_nil r0
  obtain rfl : args = #[v0] := by cases args; simp_all
  obtain ⟨rfl, rfl⟩ := trodVars_none hV
  have k0 := h0
  have lt0 : ∀ x ∈ p0, x.block < W.heap.size := by obtain ⟨m, hm⟩ := k0; exact DataW.trod_lt m _ _ _ hm
  obtain ⟨lc0, rfl, hlc0⟩ := Arr.agg_of Try.underlying68 (by kernel_rfl) (hval 0 68 v0 rfl rfl)
  obtain ⟨c0_0, c0_1, c0_2, c0_3, c0_4, rfl⟩ := len5 hlc0
  obtain ⟨fu0, hf0⟩ := h0
  obtain ⟨m0_1, hl0_1⟩ := Arr.field_of Try.underlying68 hf0
  obtain ⟨z0_2, g0_2⟩ := hl0_1 0 _ rfl
  have q0_2 : DataW.trod enc Try.prog W 0 (fun _ => true) true m0_1 3 [c0_0] = some z0_2 := by simpa [Value.cells, show Try.prog.cellsOf 3 = 1 from by kernel_rfl] using g0_2
  obtain ⟨a0_0, rfl, w0_0⟩ := Arr.cell_int Try.underlying3 q0_2
  obtain ⟨z0_3, g0_3⟩ := hl0_1 1 _ rfl
  have q0_3 : DataW.trod enc Try.prog W 0 (fun _ => true) true m0_1 26 [c0_1] = some z0_3 := by simpa [Value.cells, show Try.prog.cellsOf 26 = 1 from by kernel_rfl] using g0_3
  obtain ⟨A0_1, len0_1, cap0_1, zs0_1, rfl, w0_1⟩ := Arr.cell_slice Try.underlying26 Try.underlying3 (by kernel_rfl) q0_3
  obtain ⟨l0_1, rfl, hr0_1, hm0_1, hw0_1, hc0_1⟩ := ReadsInt.ofRowC w0_1
  obtain ⟨z0_4, g0_4⟩ := hl0_1 2 _ rfl
  have q0_4 : DataW.trod enc Try.prog W 0 (fun _ => true) true m0_1 3 [c0_2] = some z0_4 := by simpa [Value.cells, show Try.prog.cellsOf 3 = 1 from by kernel_rfl] using g0_4
  obtain ⟨a0_2, rfl, w0_2⟩ := Arr.cell_int Try.underlying3 q0_4
  obtain ⟨z0_5, g0_5⟩ := hl0_1 3 _ rfl
  have q0_5 : DataW.trod enc Try.prog W 0 (fun _ => true) true m0_1 66 [c0_3, c0_4] = some z0_5 := by simpa [Value.cells, show Try.prog.cellsOf 66 = 2 from by kernel_rfl] using g0_5
  obtain ⟨xs0_5, hxs0_5, hxl0_5, hxw0_5⟩ := Arr.cells_arr Try.underlying66 Try.underlying3 (by kernel_rfl) (by kernel_rfl) q0_5
  obtain ⟨a0_3, a0_4, rfl⟩ := len2 hxl0_5
  obtain ⟨rfl, rfl⟩ : c0_3 = .int .i64 a0_3 ∧ c0_4 = .int .i64 a0_4 := by simpa using hxs0_5
  clear hA0 hval0 hsz0 hsz
  obtain ⟨k, hk⟩ := Pure.ClockTells a0_0 l0_1 a0_2 a0_3 a0_4 w0_0 hm0_1 hw0_1 w0_2 (hxw0_5 a0_3 (by simp)) (hxw0_5 a0_4 (by simp))
  refine (HClockTells.cortadolaw19_ClockTells.calls k a0_0 A0_1 cap0_1 l0_1 a0_2 a0_3 a0_4 true W (Kd.C_of_reads (d := (0 : Int)) (h1 := fun _ => rfl) hr0_1) hc0_1 rfl hk).mono fun e W' ⟨he, bel0⟩ => ?_
  have bel : Below W.heap.size W W' := by first | exact bel0 | exact bel0.below
  subst he
  exact ⟨_, rfl, _, _, _, [], _, [], hW', trodAll_mk1 (shut_bool Try.underlying4 _), (trodAll_cons_mk (Below.trod laidOut (by kernel_rfl) (of_decide_eq_true (by kernel_rfl)) k0 bel lt0) trodAll_mk0), rfl, bel.frame _, fun h => by cases h⟩
theorem over : Rows.clockTellsRow.holds Try.pinned (OpenSpec.ofChange Rows.clockTellsSpec) :=
  OpenClaim.holds_of_wide 7 Try.f7 rfl rfl rfl rfl rfl rfl rfl ⟨rfl, rfl, rfl, rfl, rfl⟩ rfl rfl rfl rfl rfl (by kernel_rfl) Try.func7 (by kernel_rfl)
    (of_decide_eq_true (by kernel_rfl)) (by unfold Func.isWrapper; first | (rw [if_pos (by decide +kernel)]; kernel_rfl) | (rw [if_neg (by decide +kernel)]; exact ⟨rfl, rfl⟩))
    (fun os started H enc _ => lifted os started H enc)
theorem proved : Rows.ClockTellsSaid := over
#print axioms proved
end Go.Proofs.Ytmenjjofmafacaa.clockTells
namespace Go.Proofs.Ytmenjjofmafacaa
/-- The row, under a short name, for the claim. -/
theorem clockTells_holds : Rows.ClockTellsSaid := clockTells.proved
end Go.Proofs.Ytmenjjofmafacaa
