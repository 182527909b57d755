/- XxSums. -/
import Derived.Test.YtfcddffcjmgpkaaXxR
namespace Go.Proofs.Ytfcddffcjmgpkaa.Eng
open Go Go.RowKit Go.Proofs
set_option linter.unusedVariables false
set_option linter.unusedSimpArgs false
set_option maxRecDepth 1000000
section
variable {e w : World} {F : List HP}
theorem xxAwake (h : Own e w F) : Rets Try.prog 27 #[] w fun v w' => v = .bool true ∧ Own e w' F := by
  refine cortadolaw04_awake_go (h.newR fun g w h => ?_)
  refine Own.mark (E := 5) h (by kernel_rfl) (by kernel_rfl) fun w h => ⟨_, _, _, rfl, ?_⟩
  refine Rets.mono (xxSum (s := 0) (bs := [97, 98, 99]) ⟨by omega, by omega⟩ (fun x hx => ?_) (fun w h => h.ptRd) (Nat.le_refl _) (by decide) h) ?_
  · simp at hx; omega
  rintro _ w ⟨rfl, h⟩
  exact ⟨_, rfl, congrArg Value.bool (by decide +kernel), h.drop⟩
end
theorem XxSums_spec {W : World} {q : Option Addr} {c : Nat} {bs : List Int} {s : Int} (hb : RdC W q (cs .u8 bs)) (hm : bs.length ≤ maxLen) (hc : bs.length ≤ c) (h8 : ∀ x ∈ bs, (Lit.int .u8 x).wf = true) (hs : (Lit.int .u64 s).wf = true) :
    Rets Try.prog 5 #[.slice q bs.length c, .int .u64 s] W fun v w' => v = .bool true ∧ Below W.heap.size W w' := by
  refine Rets.mono (k := fun v w' => v = .bool true ∧ Own W w' [snap W]) ?_ (fun v w' h => ⟨h.1, h.2.below⟩)
  have h := Own.begin W
  have h8 : By bs := fun x hx => wf8 (h8 x hx)
  have hs : M64 s := wfU64 hs
  have hr : ∀ w, Own W w [snap W] → RdC w q (cs .u8 bs) := fun w h => h.snapRd hb
  have aw : ∀ w, Own W w [snap W] → Rets Try.prog 27 #[] w fun v w' => ∃ b, v = Value.bool b ∧ (Value.bool b) = .bool true ∧ Own W w' [snap W] := fun w h => by
    refine Rets.mono (xxAwake h) ?_
    rintro _ w ⟨rfl, h⟩
    exact ⟨_, rfl, rfl, h⟩
  refine cortadolaw04_XxSums_go _ _ _ _ ⟨fun hx => aw W h, fun hx => ?_⟩
  have hx := dec_f hx
  refine Rets.mono (xxSum hs h8 hr hc (by omega) h) ?_
  clear h
  rintro _ w ⟨rfl, h⟩
  refine ⟨_, rfl, ?_⟩
  refine Rets.mono (rfSum hs h8 hr hc (by omega) h) ?_
  rintro _ w ⟨rfl, h⟩
  exact ⟨_, rfl, fun _ => aw w h, fun hc => absurd hc (by simp)⟩
end Go.Proofs.Ytfcddffcjmgpkaa.Eng
