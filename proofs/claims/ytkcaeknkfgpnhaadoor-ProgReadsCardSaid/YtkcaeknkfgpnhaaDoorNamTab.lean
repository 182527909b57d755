/- What a laid array of strings gives: its cells. -/
import Derived.Test.YtkcaeknkfgpnhaaDoorMixTab
namespace Go.Proofs.YtkcaeknkfgpnhaaDoor.MixTab
open Go.ChangeShapes Go.WideShapes Go.ChangeAt Go.RowKit
section
variable {H : Type} {enc : TypeId × Value → H} {P : Program} {w : World} {base m : Nat} {spare : Nat → Bool} {held : Bool}
theorem strs_cells {n : Nat} {t e : TypeId} {cs : List Value} {p : List MemPlace} {ss : List ByteArray} (ht : P.underlying t = some (.array n e)) (he : P.underlying e = some .string) (zt : P.cellsOf t = n) (ze : P.cellsOf e = 1)
    (h : DataW.trod enc P w base spare held m t cs = some (.agg (ss.map fun s => .lit (.string s.data.toList)), p)) : cs = ss.map Value.string := by
  obtain ⟨xs, n', _, hx, hcl, hl, hel⟩ := DataW.trod_array ht h
  rw [zt] at hcl
  have hx : ss.map (fun s : ByteArray => (DataW.lit (.string s.data.toList) : DataW H)) = xs.map Prod.fst := by
    have := congrArg Prod.fst hx
    simpa using this
  have hsl : ss.length = n := by
    have := congrArg List.length hx
    simp at this; omega
  apply List.ext_getElem
  · simp; omega
  · intro i h1 h2
    have hi : i < n := by omega
    have g := hel i hi
    rw [ze, Nat.mul_one] at g
    have e1 : (cs.drop i).take 1 = [cs[i]] := by
      rw [List.drop_eq_getElem_cons h1]; rfl
    rw [e1, List.getElem?_eq_getElem (by omega)] at g
    obtain ⟨s, hs, hy, _⟩ := DataW.trod_string he g
    have hxi : (ss.map (fun s : ByteArray => (DataW.lit (.string s.data.toList) : DataW H)))[i]'(by simp; omega) = (xs.map Prod.fst)[i]'(by simp; omega) := by
      simp only [hx]
    simp only [List.getElem_map] at hxi
    rw [hy] at hxi
    injection hs with hs
    rw [hs, List.getElem_map]
    simp only at hxi
    injection hxi with hxi
    injection hxi with hxi
    congr 1
    apply ByteArray.ext
    apply Array.toList_inj.1
    exact hxi.symm
end
end Go.Proofs.YtkcaeknkfgpnhaaDoor.MixTab
