/- ItemPlays: whatever the input, the law answers true and its arguments read as they did; no condition. -/
import Derived.Test.YtipcbhaeoeghnaaRows
import Derived.Test.YtipcbhaeoeghnaaItL
import Derived.WalkKit
import Derived.ProofKit
import Derived.OpenShut
import Derived.ShutString
import Derived.ChangeOld
import Derived.Below
import Derived.SizedLaws
import Derived.Test.YtipcbhaeoeghnaaWSized
import Derived.Test.YtipcbhaeoeghnaaArr
namespace Go.Proofs.Ytipcbhaeoeghnaa.itemPlays
open Go.ChangeShapes Go.WideShapes Go.ChangeAt Go.RowKit Go.Proofs.YtipcbhaeoeghnaaW.PrintWords Go.Proofs.YtipcbhaeoeghnaaW.PrintLast
open Go.ChangeMaps (open_string shut_string)
set_option linter.unusedVariables false
theorem own : ownKnob Try.prog.godebug = none := by kernel_rfl
theorem laidOut : laidOutB Try.prog = true := by kernel_rfl
def IsRow (k : IntKind) (w : World) (a : Option Addr) (len cap : Nat) (zs : List Int) : Prop :=
  (a = none ∧ len = 0 ∧ cap = 0 ∧ zs = []) ∨
  ∃ x, a = some x ∧ len ≤ cap ∧ cap ≤ maxLen ∧ zs.length = cap ∧ (∀ i, i < zs.length → w.cell? (x.add i) = some (.int k (zs.getD i 0))) ∧ ∀ n ∈ zs, (Lit.int k n).wf = true
set_option maxRecDepth 100000 in
theorem lifted (os : Os) (started : os.Started) (H : Type) (enc : TypeId × Value → H) :
    ReturnsInHanded {} Try.checked os 7 .any (Rows.itemPlaysSpec.pre6 enc Try.prog Try.f7 Rows.itemPlaysRow.domain false) (Rows.itemPlaysSpec.post enc Try.prog Try.f7 false true false false) := by
  refine returnsInHanded_of_change_sized (C := Try.checked) own started (by kernel_rfl) Try.func7
    (ChangeSpec.witness6 (enc := enc) (C := Try.checked) false ⟨#[], #[.int .i64 0, .slice none 0 0, .int .i64 0], []⟩ 8 (by kernel_rfl) (by kernel_rfl) (by kernel_rfl) (by kernel_rfl)) ?_
  intro W base args ds gs before hval0 hW hcnd hsz0 _
  have hsz : (DataW.weightsEach Try.prog (Try.f7.params.toList ++ Rows.itemPlaysSpec.plain.varTypes Try.prog) (ds ++ gs)).all (· ≤ reachBytes) = true := hsz0
  have hval : ∀ (j : Nat) t v, Try.f7.params[j]? = some t → args[j]? = some v → Value.okWide Try.prog W .any base t v := hval0
  have hW' := hW
  obtain ⟨p, q, hA0, hV, rfl, hfz, hnd⟩ := hW
  have hA : DataW.TrodAll enc Try.prog W 0 (fun _ => true) true Try.f7.params.toList args.toList ds p := hA0
  rw [Try.params7] at hA hval hsz
  obtain ⟨v0, vs0, d0, ds0, p0, q0, hargs, rfl, rfl, h0, r0⟩ := trodAll_cons hA
  obtain ⟨v1, vs1, d1, ds1, p1, q1, rfl, rfl, rfl, h1, r1⟩ := trodAll_cons r0
  obtain ⟨v2, vs2, d2, ds2, p2, q2, rfl, rfl, rfl, h2, r2⟩ := trodAll_cons r1
  obtain ⟨rfl, rfl, rfl⟩ := trodAll_nil r2
  obtain rfl : args = #[v0, v1, v2] := by cases args; simp_all
  obtain ⟨rfl, rfl⟩ := trodVars_none hV
  have k0 := h0
  have lt0 : ∀ x ∈ p0, x.block < W.heap.size := by obtain ⟨m, hm⟩ := k0; exact DataW.trod_lt m _ _ _ hm
  have k1 := h1
  have lt1 : ∀ x ∈ p1, x.block < W.heap.size := by obtain ⟨m, hm⟩ := k1; exact DataW.trod_lt m _ _ _ hm
  have k2 := h2
  have lt2 : ∀ x ∈ p2, x.block < W.heap.size := by obtain ⟨m, hm⟩ := k2; exact DataW.trod_lt m _ _ _ hm
  obtain ⟨a0, rfl, e0, rfl, w0⟩ := open_int Try.underlying3 (hval 0 3 v0 rfl rfl) h0
  obtain ⟨a1, len1, cap1, rfl⟩ := okWide_slice Try.underlying70 (hval 1 70 v1 rfl rfl)
  obtain ⟨fuel1, hf1⟩ := h1
  have hel1 : ∀ n cs y, DataW.trod enc Try.prog W 0 (fun _ => true) true n 80 cs = some y → cs.length = 9 → ∃ x, cs = ((Eng.itC (Value.int .i64))) x ∧ ((fun (s : Eng.Itm Int) => (Lit.int .i64 s.k).wf = true ∧ (Lit.int .u64 s.p).wf = true ∧ (Lit.int .u64 s.c).wf = true ∧ (Lit.int .i64 s.v).wf = true ∧ (Lit.int .i64 s.n).wf = true ∧ (Lit.int .i64 s.e).wf = true ∧ (Lit.int .i64 s.o).wf = true ∧ (Lit.int .i64 s.u).wf = true ∧ (Lit.int .i64 s.d).wf = true)) x := fun n cs y hy hl => by
    match cs, hl with
    | [c0, c1, c2, c3, c4, c5, c6, c7, c8], _ =>
      obtain ⟨mr1, hlr1⟩ := Arr.field_of Try.underlying80 hy
      obtain ⟨zr2, gr2⟩ := hlr1 0 _ rfl
      have qr2 : DataW.trod enc Try.prog W 0 (fun _ => true) true mr1 3 [c0] = some zr2 := by simpa [Value.cells, show Try.prog.cellsOf 3 = 1 from by kernel_rfl] using gr2
      obtain ⟨x0, rfl, g0⟩ := Arr.cell_int Try.underlying3 qr2
      obtain ⟨zr3, gr3⟩ := hlr1 1 _ rfl
      have qr3 : DataW.trod enc Try.prog W 0 (fun _ => true) true mr1 78 [c1, c2] = some zr3 := by simpa [Value.cells, show Try.prog.cellsOf 78 = 2 from by kernel_rfl] using gr3
      obtain ⟨mr4, hlr4⟩ := Arr.field_of Try.underlying78 qr3
      obtain ⟨zr5, gr5⟩ := hlr4 0 _ rfl
      have qr5 : DataW.trod enc Try.prog W 0 (fun _ => true) true mr4 76 [c1] = some zr5 := by simpa [Value.cells, show Try.prog.cellsOf 76 = 1 from by kernel_rfl] using gr5
      obtain ⟨x1, rfl, g1⟩ := Arr.cell_int Try.underlying76 qr5
      obtain ⟨zr6, gr6⟩ := hlr4 1 _ rfl
      have qr6 : DataW.trod enc Try.prog W 0 (fun _ => true) true mr4 76 [c2] = some zr6 := by simpa [Value.cells, show Try.prog.cellsOf 76 = 1 from by kernel_rfl] using gr6
      obtain ⟨x2, rfl, g2⟩ := Arr.cell_int Try.underlying76 qr6
      obtain ⟨zr7, gr7⟩ := hlr1 2 _ rfl
      have qr7 : DataW.trod enc Try.prog W 0 (fun _ => true) true mr1 3 [c3] = some zr7 := by simpa [Value.cells, show Try.prog.cellsOf 3 = 1 from by kernel_rfl] using gr7
      obtain ⟨x3, rfl, g3⟩ := Arr.cell_int Try.underlying3 qr7
      obtain ⟨zr8, gr8⟩ := hlr1 3 _ rfl
      have qr8 : DataW.trod enc Try.prog W 0 (fun _ => true) true mr1 3 [c4] = some zr8 := by simpa [Value.cells, show Try.prog.cellsOf 3 = 1 from by kernel_rfl] using gr8
      obtain ⟨x4, rfl, g4⟩ := Arr.cell_int Try.underlying3 qr8
      obtain ⟨zr9, gr9⟩ := hlr1 4 _ rfl
      have qr9 : DataW.trod enc Try.prog W 0 (fun _ => true) true mr1 3 [c5] = some zr9 := by simpa [Value.cells, show Try.prog.cellsOf 3 = 1 from by kernel_rfl] using gr9
      obtain ⟨x5, rfl, g5⟩ := Arr.cell_int Try.underlying3 qr9
      obtain ⟨zr10, gr10⟩ := hlr1 5 _ rfl
      have qr10 : DataW.trod enc Try.prog W 0 (fun _ => true) true mr1 3 [c6] = some zr10 := by simpa [Value.cells, show Try.prog.cellsOf 3 = 1 from by kernel_rfl] using gr10
      obtain ⟨x6, rfl, g6⟩ := Arr.cell_int Try.underlying3 qr10
      obtain ⟨zr11, gr11⟩ := hlr1 6 _ rfl
      have qr11 : DataW.trod enc Try.prog W 0 (fun _ => true) true mr1 3 [c7] = some zr11 := by simpa [Value.cells, show Try.prog.cellsOf 3 = 1 from by kernel_rfl] using gr11
      obtain ⟨x7, rfl, g7⟩ := Arr.cell_int Try.underlying3 qr11
      obtain ⟨zr12, gr12⟩ := hlr1 7 _ rfl
      have qr12 : DataW.trod enc Try.prog W 0 (fun _ => true) true mr1 3 [c8] = some zr12 := by simpa [Value.cells, show Try.prog.cellsOf 3 = 1 from by kernel_rfl] using gr12
      obtain ⟨x8, rfl, g8⟩ := Arr.cell_int Try.underlying3 qr12
      exact ⟨⟨x0, x1, x2, x3, x4, x5, x6, x7, x8⟩, rfl, g0, g1, g2, g3, g4, g5, g6, g7, g8⟩
  obtain ⟨l1, rfl, hr1, hm1, hc1, hw1⟩ := Eng.open_recs (c := 9) (enc := (Eng.itC (Value.int .i64))) (ok := (fun (s : Eng.Itm Int) => (Lit.int .i64 s.k).wf = true ∧ (Lit.int .u64 s.p).wf = true ∧ (Lit.int .u64 s.c).wf = true ∧ (Lit.int .i64 s.v).wf = true ∧ (Lit.int .i64 s.n).wf = true ∧ (Lit.int .i64 s.e).wf = true ∧ (Lit.int .i64 s.o).wf = true ∧ (Lit.int .i64 s.u).wf = true ∧ (Lit.int .i64 s.d).wf = true)) Try.underlying70 (by kernel_rfl) (by omega) (fun _ => rfl) hel1 (by simpa [Value.cells] using hf1)
  obtain ⟨a2, rfl, e2, rfl, w2⟩ := open_int Try.underlying3 (hval 2 3 v2 rfl rfl) h2
  clear hA0 hval0 hsz0 hsz
  refine (show Calls Try.prog 7 _ W _ from Eng.ItemPlays_spec w0 hr1 hm1 hc1 hw1 w2).mono fun e W' hE => ?_
  obtain ⟨he, bel0⟩ : e = .returned (.bool true) ∧ Below W.heap.size W W' := by
    cases e with
    | returned v => exact ⟨by rw [show v = .bool true from hE.1], hE.2⟩
    | _ => exact hE.elim
  have bel : Below W.heap.size W W' := by first | exact bel0 | exact bel0.below
  subst he
  exact ⟨_, rfl, _, _, _, [], _, [], hW', trodAll_mk1 (shut_bool Try.underlying4 _), (trodAll_cons_mk (Below.trod laidOut (by kernel_rfl) (of_decide_eq_true (by kernel_rfl)) k0 bel lt0) (trodAll_cons_mk (Below.trod laidOut (by kernel_rfl) (of_decide_eq_true (by kernel_rfl)) k1 bel lt1) (trodAll_cons_mk (Below.trod laidOut (by kernel_rfl) (of_decide_eq_true (by kernel_rfl)) k2 bel lt2) trodAll_mk0))), rfl, bel.frame _, fun h => by cases h⟩
theorem over : Rows.itemPlaysRow.holds Try.pinned (OpenSpec.ofChange Rows.itemPlaysSpec) :=
  OpenClaim.holds_of_wide 7 Try.f7 rfl rfl rfl rfl rfl rfl rfl ⟨rfl, rfl, rfl, rfl, rfl⟩ rfl rfl rfl rfl rfl (by kernel_rfl) Try.func7 (by kernel_rfl)
    (of_decide_eq_true (by kernel_rfl)) (by unfold Func.isWrapper; first | (rw [if_pos (by decide +kernel)]; kernel_rfl) | (rw [if_neg (by decide +kernel)]; exact ⟨rfl, rfl⟩))
    (fun os started H enc _ => lifted os started H enc)
theorem proved : Rows.ItemPlaysSaid := over
#print axioms proved
end Go.Proofs.Ytipcbhaeoeghnaa.itemPlays
namespace Go.Proofs.Ytipcbhaeoeghnaa
/-- The row, under a short name, for the claim. -/
theorem itemPlays_holds : Rows.ItemPlaysSaid := itemPlays.proved
end Go.Proofs.Ytipcbhaeoeghnaa
