/- Calls: names; the example. -/
import Derived.Test.YtkcaeknkfgpnhaaDoorProR
namespace Go.Proofs.YtkcaeknkfgpnhaaDoor.Eng
open Go Go.RowKit Go.Proofs
set_option linter.unusedVariables false
set_option linter.unusedSimpArgs false
set_option maxRecDepth 1000000
/-- The names that are laid. -/
def nmL : List ByteArray := [⟨#[110, 111, 110, 101]⟩, ⟨#[103, 101, 116]⟩, ⟨#[115, 101, 116]⟩, ⟨#[100, 101, 108]⟩, ⟨#[119, 97, 105, 116]⟩, ⟨#[99, 108, 101, 97, 114]⟩, ⟨#[99, 108, 111, 115, 101]⟩, ⟨#[108, 105, 109, 105, 116]⟩]
def nmC : List Value := nmL.map Value.string
abbrev nmQ : Option Addr := some ⟨0, 0, none⟩
def nameP (k : Int) : ByteArray := if knownB k = true then (nmL[k.toNat]?).getD ⟨#[]⟩ else ⟨#[]⟩
section
variable {e w : World} {F : List HP} {k : Int}
theorem prName (h : Own e w F) (hn : ∀ w, Own e w F → RdC w nmQ nmC) : Rets Tryd.prog 35 #[.int .i64 k] w fun v w' => v = .string (nameP k) ∧ Own e w' F := by
  refine prog_Name_go _ ?_
  refine Rets.mono (prKnown h) ?_
  rintro _ w ⟨rfl, h⟩
  refine ⟨_, rfl, fun hx => ?_, fun hx => ?_⟩
  · have hx : knownB k = false := by simpa using hx
    unfold nameP; rw [hx]; exact ⟨rfl, h⟩
  · have hx : knownB k = true := by simpa using hx
    have hk : 0 ≤ k ∧ k ≤ 7 := of_decide_eq_true hx
    obtain ⟨j, rfl⟩ := Int.eq_ofNat_of_zero_le hk.1
    have hj : j < nmL.length := by show j < 8; omega
    have key : someR nmQ fun a => ∃ s1, cellAt w (a.add (j * 1)) (.string s1) ∧ Value.string s1 = .string (nameP (j : Int)) ∧ Own e w F := RdC.mp (l := nmL) (f := Value.string) (hn w h) hj fun a ha => ⟨_, ha, by
      unfold nameP; rw [if_pos hx, Int.toNat_natCast, List.getElem?_eq_getElem hj]; rfl, h⟩
    refine ⟨by omega, by omega, ?_⟩
    rw [Int.toNat_natCast]
    exact key
theorem prAwake (h : Own e w F) (hn : ∀ w, Own e w F → RdC w nmQ nmC) : Rets Tryd.prog 7 #[] w fun v w' => v = .bool true ∧ Own e w' F := by
  refine cortadolaw17_awake_go (h.newR fun g1 w h => ?_)
  have h : Own e w (blk g1 81 (([(1, 5, 0, 0, 0)] : List Op5).flatMap encO) :: F) := h
  refine Rets.mono (prPut (q := none) (c := 0) (bs := []) (l := [(1, 5, 0, 0, 0)]) h (fun w h => .inl rfl) (fun w h => h.blkRd) (by simp)) ?_
  rintro _ w (⟨hz, _⟩ | ⟨_, q', c', rfl, h⟩)
  · exact absurd hz (by decide)
  refine ⟨_, _, _, _, rfl, fun _ => ?_, fun hc => (by cases hc)⟩
  refine strRun (ns := [] ++ putP [(1, 5, 0, 0, 0)]) (e := 5) (by kernel_rfl) (by kernel_rfl) (by kernel_rfl) rfl (by decide) h.slRd ⟨_, rfl, fun _ => ?_, fun hc => absurd hc (by decide +kernel)⟩
  refine Rets.mono (prName (k := 7) h (fun w h => hn w h.drop.drop)) ?_
  rintro _ w ⟨rfl, h⟩
  exact ⟨_, rfl, congrArg Value.bool (by decide +kernel), h.drop.drop⟩
end
end Go.Proofs.YtkcaeknkfgpnhaaDoor.Eng
