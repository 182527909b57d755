/- RankTells: whatever the input, the law answers true and its arguments read as they did; no condition. -/
import Derived.Test.YtipcbhaeoeghnaaRows
import Derived.Test.YtipcbhaeoeghnaaRkU
import Derived.WalkKit
import Derived.ProofKit
import Derived.OpenShut
import Derived.ShutString
import Derived.ChangeOld
import Derived.Below
import Derived.SizedLaws
import Derived.Test.YtipcbhaeoeghnaaWSized
namespace Go.Proofs.Ytipcbhaeoeghnaa.rankTells
open Go.ChangeShapes Go.WideShapes Go.ChangeAt Go.RowKit Go.Proofs.YtipcbhaeoeghnaaW.PrintWords Go.Proofs.YtipcbhaeoeghnaaW.PrintLast
open Go.ChangeMaps (open_string shut_string)
set_option linter.unusedVariables false
theorem own : ownKnob Try.prog.godebug = none := by kernel_rfl
theorem laidOut : laidOutB Try.prog = true := by kernel_rfl
def IsRow (k : IntKind) (w : World) (a : Option Addr) (len cap : Nat) (zs : List Int) : Prop :=
  (a = none ∧ len = 0 ∧ cap = 0 ∧ zs = []) ∨
  ∃ x, a = some x ∧ len ≤ cap ∧ cap ≤ maxLen ∧ zs.length = cap ∧ (∀ i, i < zs.length → w.cell? (x.add i) = some (.int k (zs.getD i 0))) ∧ ∀ n ∈ zs, (Lit.int k n).wf = true
set_option maxRecDepth 100000 in
theorem lifted (os : Os) (started : os.Started) (H : Type) (enc : TypeId × Value → H) :
    ReturnsInHanded {} Try.checked os 6 .any (Rows.rankTellsSpec.pre6 enc Try.prog Try.f6 Rows.rankTellsRow.domain false) (Rows.rankTellsSpec.post enc Try.prog Try.f6 false true false false) := by
  refine returnsInHanded_of_change_sized (C := Try.checked) own started (by kernel_rfl) Try.func6
    (ChangeSpec.witness6 (enc := enc) (C := Try.checked) false ⟨#[], #[.slice none 0 0, .int .i64 0, .int .u64 0], []⟩ 8 (by kernel_rfl) (by kernel_rfl) (by kernel_rfl) (by kernel_rfl)) ?_
  intro W base args ds gs before hval0 hW hcnd hsz0 _
  have hsz : (DataW.weightsEach Try.prog (Try.f6.params.toList ++ Rows.rankTellsSpec.plain.varTypes Try.prog) (ds ++ gs)).all (· ≤ reachBytes) = true := hsz0
  have hval : ∀ (j : Nat) t v, Try.f6.params[j]? = some t → args[j]? = some v → Value.okWide Try.prog W .any base t v := hval0
  have hW' := hW
  obtain ⟨p, q, hA0, hV, rfl, hfz, hnd⟩ := hW
  have hA : DataW.TrodAll enc Try.prog W 0 (fun _ => true) true Try.f6.params.toList args.toList ds p := hA0
  rw [Try.params6] at hA hval hsz
  obtain ⟨v0, vs0, d0, ds0, p0, q0, hargs, rfl, rfl, h0, r0⟩ := trodAll_cons hA
  obtain ⟨v1, vs1, d1, ds1, p1, q1, rfl, rfl, rfl, h1, r1⟩ := trodAll_cons r0
  obtain ⟨v2, vs2, d2, ds2, p2, q2, rfl, rfl, rfl, h2, r2⟩ := trodAll_cons r1
  obtain ⟨rfl, rfl, rfl⟩ := trodAll_nil r2
  obtain rfl : args = #[v0, v1, v2] := by cases args; simp_all
  obtain ⟨rfl, rfl⟩ := trodVars_none hV
  have k0 := h0
  have lt0 : ∀ x ∈ p0, x.block < W.heap.size := by obtain ⟨m, hm⟩ := k0; exact DataW.trod_lt m _ _ _ hm
  have k1 := h1
  have lt1 : ∀ x ∈ p1, x.block < W.heap.size := by obtain ⟨m, hm⟩ := k1; exact DataW.trod_lt m _ _ _ hm
  have k2 := h2
  have lt2 : ∀ x ∈ p2, x.block < W.heap.size := by obtain ⟨m, hm⟩ := k2; exact DataW.trod_lt m _ _ _ hm
  obtain ⟨a0, len0, cap0, rfl⟩ := okWide_slice Try.underlying58 (hval 0 58 v0 rfl rfl)
  obtain ⟨fuel0, hf0⟩ := h0
  have hel0 : ∀ n cs y, DataW.trod enc Try.prog W 0 (fun _ => true) true n 64 cs = some y → cs.length = 2 → ∃ x, cs = (Eng.encE2) x ∧ ((fun s => (Lit.int .i64 s.1).wf = true ∧ (Lit.int .i64 s.2).wf = true)) x := fun n cs y hy hl => by
    match cs, hl with
    | [c0, c1], _ =>
      obtain ⟨x0, rfl, g0⟩ := Eng.field_int Try.underlying64 (i := 0) rfl Try.underlying3 (by kernel_rfl) (v := c0) rfl hy
      obtain ⟨x1, rfl, g1⟩ := Eng.field_int Try.underlying64 (i := 1) rfl Try.underlying3 (by kernel_rfl) (v := c1) rfl hy
      exact ⟨⟨x0, x1⟩, rfl, g0, g1⟩
  obtain ⟨l0, rfl, hr0, hm0, hc0, hw0⟩ := Eng.open_recs (c := 2) (enc := Eng.encE2) (ok := (fun s => (Lit.int .i64 s.1).wf = true ∧ (Lit.int .i64 s.2).wf = true)) Try.underlying58 (by kernel_rfl) (by omega) (fun _ => rfl) hel0 (by simpa [Value.cells] using hf0)
  obtain ⟨a1, rfl, e1, rfl, w1⟩ := open_int Try.underlying3 (hval 1 3 v1 rfl rfl) h1
  obtain ⟨a2, rfl, e2, rfl, w2⟩ := open_int Try.underlying36 (hval 2 36 v2 rfl rfl) h2
  clear hA0 hval0 hsz0 hsz
  refine (show Calls Try.prog 6 _ W _ from Eng.RankTells_spec hr0 hm0 hc0 hw0 w1 w2).mono fun e W' hE => ?_
  obtain ⟨he, bel0⟩ : e = .returned (.bool true) ∧ Below W.heap.size W W' := by
    cases e with
    | returned v => exact ⟨by rw [show v = .bool true from hE.1], hE.2⟩
    | _ => exact hE.elim
  have bel : Below W.heap.size W W' := by first | exact bel0 | exact bel0.below
  subst he
  exact ⟨_, rfl, _, _, _, [], _, [], hW', trodAll_mk1 (shut_bool Try.underlying4 _), (trodAll_cons_mk (Below.trod laidOut (by kernel_rfl) (of_decide_eq_true (by kernel_rfl)) k0 bel lt0) (trodAll_cons_mk (Below.trod laidOut (by kernel_rfl) (of_decide_eq_true (by kernel_rfl)) k1 bel lt1) (trodAll_cons_mk (Below.trod laidOut (by kernel_rfl) (of_decide_eq_true (by kernel_rfl)) k2 bel lt2) trodAll_mk0))), rfl, bel.frame _, fun h => by cases h⟩
theorem over : Rows.rankTellsRow.holds Try.pinned (OpenSpec.ofChange Rows.rankTellsSpec) :=
  OpenClaim.holds_of_wide 6 Try.f6 rfl rfl rfl rfl rfl rfl rfl ⟨rfl, rfl, rfl, rfl, rfl⟩ rfl rfl rfl rfl rfl (by kernel_rfl) Try.func6 (by kernel_rfl)
    (of_decide_eq_true (by kernel_rfl)) (by unfold Func.isWrapper; first | (rw [if_pos (by decide +kernel)]; kernel_rfl) | (rw [if_neg (by decide +kernel)]; exact ⟨rfl, rfl⟩))
    (fun os started H enc _ => lifted os started H enc)
theorem proved : Rows.RankTellsSaid := over
#print axioms proved
end Go.Proofs.Ytipcbhaeoeghnaa.rankTells
namespace Go.Proofs.Ytipcbhaeoeghnaa
/-- The row, under a short name, for the claim. -/
theorem rankTells_holds : Rows.RankTellsSaid := rankTells.proved
end Go.Proofs.Ytipcbhaeoeghnaa
