/- LruPlays: whatever the input, the law answers true and its arguments read as they did; no condition. -/
import Derived.Test.YtianklbklggboaaRows
import Derived.Test.YtianklbklggboaaLrT
import Derived.WalkKit
import Derived.ProofKit
import Derived.OpenShut
import Derived.ShutString
import Derived.ChangeOld
import Derived.Below
import Derived.SizedLaws
import Derived.Test.YtianklbklggboaaWSized
import Derived.Test.YtianklbklggboaaArr
namespace Go.Proofs.Ytianklbklggboaa.lruPlays
open Go.ChangeShapes Go.WideShapes Go.ChangeAt Go.RowKit Go.Proofs.YtianklbklggboaaW.PrintWords Go.Proofs.YtianklbklggboaaW.PrintLast
open Go.ChangeMaps (open_string shut_string)
set_option linter.unusedVariables false
theorem own : ownKnob Try.prog.godebug = none := by kernel_rfl
theorem laidOut : laidOutB Try.prog = true := by kernel_rfl
def IsRow (k : IntKind) (w : World) (a : Option Addr) (len cap : Nat) (zs : List Int) : Prop :=
  (a = none ∧ len = 0 ∧ cap = 0 ∧ zs = []) ∨
  ∃ x, a = some x ∧ len ≤ cap ∧ cap ≤ maxLen ∧ zs.length = cap ∧ (∀ i, i < zs.length → w.cell? (x.add i) = some (.int k (zs.getD i 0))) ∧ ∀ n ∈ zs, (Lit.int k n).wf = true
set_option maxRecDepth 100000 in
theorem lifted (os : Os) (started : os.Started) (H : Type) (enc : TypeId × Value → H) :
    ReturnsInHanded {} Try.checked os 4 .any (Rows.lruPlaysSpec.pre6 enc Try.prog Try.f4 Rows.lruPlaysRow.domain false) (Rows.lruPlaysSpec.post enc Try.prog Try.f4 false true false false) := by
  refine returnsInHanded_of_change_sized (C := Try.checked) own started (by kernel_rfl) Try.func4
    (ChangeSpec.witness6 (enc := enc) (C := Try.checked) false ⟨#[], #[.int .i64 0, .slice none 0 0, .int .u64 0], []⟩ 8 (by kernel_rfl) (by kernel_rfl) (by kernel_rfl) (by kernel_rfl)) ?_
  intro W base args ds gs before hval0 hW hcnd hsz0 _
  have hsz : (DataW.weightsEach Try.prog (Try.f4.params.toList ++ Rows.lruPlaysSpec.plain.varTypes Try.prog) (ds ++ gs)).all (· ≤ reachBytes) = true := hsz0
  have hval : ∀ (j : Nat) t v, Try.f4.params[j]? = some t → args[j]? = some v → Value.okWide Try.prog W .any base t v := hval0
  have hW' := hW
  obtain ⟨p, q, hA0, hV, rfl, hfz, hnd⟩ := hW
  have hA : DataW.TrodAll enc Try.prog W 0 (fun _ => true) true Try.f4.params.toList args.toList ds p := hA0
  rw [Try.params4] at hA hval hsz
  obtain ⟨v0, vs0, d0, ds0, p0, q0, hargs, rfl, rfl, h0, r0⟩ := trodAll_cons hA
  obtain ⟨v1, vs1, d1, ds1, p1, q1, rfl, rfl, rfl, h1, r1⟩ := trodAll_cons r0
  obtain ⟨v2, vs2, d2, ds2, p2, q2, rfl, rfl, rfl, h2, r2⟩ := trodAll_cons r1
  obtain ⟨rfl, rfl, rfl⟩ := trodAll_nil r2
  obtain rfl : args = #[v0, v1, v2] := by cases args; simp_all
  obtain ⟨rfl, rfl⟩ := trodVars_none hV
  have k0 := h0
  have lt0 : ∀ x ∈ p0, x.block < W.heap.size := by obtain ⟨m, hm⟩ := k0; exact DataW.trod_lt m _ _ _ hm
  have k1 := h1
  have lt1 : ∀ x ∈ p1, x.block < W.heap.size := by obtain ⟨m, hm⟩ := k1; exact DataW.trod_lt m _ _ _ hm
  have k2 := h2
  have lt2 : ∀ x ∈ p2, x.block < W.heap.size := by obtain ⟨m, hm⟩ := k2; exact DataW.trod_lt m _ _ _ hm
  obtain ⟨a0, rfl, e0, rfl, w0⟩ := open_int Try.underlying3 (hval 0 3 v0 rfl rfl) h0
  obtain ⟨a1, len1, cap1, rfl⟩ := okWide_slice Try.underlying33 (hval 1 33 v1 rfl rfl)
  obtain ⟨fuel1, hf1⟩ := h1
  have hel1 : ∀ n cs y, DataW.trod enc Try.prog W 0 (fun _ => true) true n 41 cs = some y → cs.length = 4 → ∃ x, cs = (Eng.encSt) x ∧ ((fun s : Eng.StepT => (Lit.int .u64 s.1).wf = true ∧ (Lit.int .i64 s.2.1).wf = true ∧ (Lit.int .i64 s.2.2.1).wf = true ∧ (Lit.int .i64 s.2.2.2).wf = true)) x := fun n cs y hy hl => by
    match cs, hl with
    | [c0, c1, c2, c3], _ =>
      obtain ⟨mr1, hlr1⟩ := Arr.field_of Try.underlying41 hy
      obtain ⟨zr2, gr2⟩ := hlr1 0 _ rfl
      have qr2 : DataW.trod enc Try.prog W 0 (fun _ => true) true mr1 23 [c0] = some zr2 := by simpa [Value.cells, show Try.prog.cellsOf 23 = 1 from by kernel_rfl] using gr2
      obtain ⟨x0, rfl, g0⟩ := Arr.cell_int Try.underlying23 qr2
      obtain ⟨zr3, gr3⟩ := hlr1 1 _ rfl
      have qr3 : DataW.trod enc Try.prog W 0 (fun _ => true) true mr1 39 [c1, c2, c3] = some zr3 := by simpa [Value.cells, show Try.prog.cellsOf 39 = 3 from by kernel_rfl] using gr3
      obtain ⟨mr4, hlr4⟩ := Arr.field_of Try.underlying39 qr3
      obtain ⟨zr5, gr5⟩ := hlr4 0 _ rfl
      have qr5 : DataW.trod enc Try.prog W 0 (fun _ => true) true mr4 3 [c1] = some zr5 := by simpa [Value.cells, show Try.prog.cellsOf 3 = 1 from by kernel_rfl] using gr5
      obtain ⟨x1, rfl, g1⟩ := Arr.cell_int Try.underlying3 qr5
      obtain ⟨zr6, gr6⟩ := hlr4 1 _ rfl
      have qr6 : DataW.trod enc Try.prog W 0 (fun _ => true) true mr4 3 [c2] = some zr6 := by simpa [Value.cells, show Try.prog.cellsOf 3 = 1 from by kernel_rfl] using gr6
      obtain ⟨x2, rfl, g2⟩ := Arr.cell_int Try.underlying3 qr6
      obtain ⟨zr7, gr7⟩ := hlr4 2 _ rfl
      have qr7 : DataW.trod enc Try.prog W 0 (fun _ => true) true mr4 3 [c3] = some zr7 := by simpa [Value.cells, show Try.prog.cellsOf 3 = 1 from by kernel_rfl] using gr7
      obtain ⟨x3, rfl, g3⟩ := Arr.cell_int Try.underlying3 qr7
      exact ⟨⟨x0, x1, x2, x3⟩, rfl, g0, g1, g2, g3⟩
  obtain ⟨l1, rfl, hr1, hm1, hc1, hw1⟩ := Eng.open_recs (c := 4) (enc := Eng.encSt) (ok := (fun s : Eng.StepT => (Lit.int .u64 s.1).wf = true ∧ (Lit.int .i64 s.2.1).wf = true ∧ (Lit.int .i64 s.2.2.1).wf = true ∧ (Lit.int .i64 s.2.2.2).wf = true)) Try.underlying33 (by kernel_rfl) (by omega) (fun _ => rfl) hel1 (by simpa [Value.cells] using hf1)
  obtain ⟨a2, rfl, e2, rfl, w2⟩ := open_int Try.underlying23 (hval 2 23 v2 rfl rfl) h2
  clear hA0 hval0 hsz0 hsz
  refine (show Calls Try.prog 4 _ W _ from Eng.LruPlays_spec w0 hr1 hm1 hc1 hw1 w2).mono fun e W' hE => ?_
  obtain ⟨he, bel0⟩ : e = .returned (.bool true) ∧ Below W.heap.size W W' := by
    cases e with
    | returned v => exact ⟨by rw [show v = .bool true from hE.1], hE.2⟩
    | _ => exact hE.elim
  have bel : Below W.heap.size W W' := by first | exact bel0 | exact bel0.below
  subst he
  exact ⟨_, rfl, _, _, _, [], _, [], hW', trodAll_mk1 (shut_bool Try.underlying4 _), (trodAll_cons_mk (Below.trod laidOut (by kernel_rfl) (of_decide_eq_true (by kernel_rfl)) k0 bel lt0) (trodAll_cons_mk (Below.trod laidOut (by kernel_rfl) (of_decide_eq_true (by kernel_rfl)) k1 bel lt1) (trodAll_cons_mk (Below.trod laidOut (by kernel_rfl) (of_decide_eq_true (by kernel_rfl)) k2 bel lt2) trodAll_mk0))), rfl, bel.frame _, fun h => by cases h⟩
theorem over : Rows.lruPlaysRow.holds Try.pinned (OpenSpec.ofChange Rows.lruPlaysSpec) :=
  OpenClaim.holds_of_wide 4 Try.f4 rfl rfl rfl rfl rfl rfl rfl ⟨rfl, rfl, rfl, rfl, rfl⟩ rfl rfl rfl rfl rfl (by kernel_rfl) Try.func4 (by kernel_rfl)
    (of_decide_eq_true (by kernel_rfl)) (by unfold Func.isWrapper; first | (rw [if_pos (by decide +kernel)]; kernel_rfl) | (rw [if_neg (by decide +kernel)]; exact ⟨rfl, rfl⟩))
    (fun os started H enc _ => lifted os started H enc)
theorem proved : Rows.LruPlaysSaid := over
#print axioms proved
end Go.Proofs.Ytianklbklggboaa.lruPlays
namespace Go.Proofs.Ytianklbklggboaa
/-- The row, under a short name, for the claim. -/
theorem lruPlays_holds : Rows.LruPlaysSaid := lruPlays.proved
end Go.Proofs.Ytianklbklggboaa
