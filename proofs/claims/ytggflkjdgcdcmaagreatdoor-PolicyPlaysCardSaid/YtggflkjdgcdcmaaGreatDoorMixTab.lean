/- What the laid tables of mix give: their cells. -/
import Derived.Test.YtggflkjdgcdcmaaGreatDoorRows
import Derived.Test.YtggflkjdgcdcmaaGreatDoorTie
import Derived.Test.YtggflkjdgcdcmaaGreatDoorArr
import Derived.LaidMore
import Derived.Stop.Joined
namespace Go.Proofs.YtggflkjdgcdcmaaGreatDoor.MixTab
open Go.ChangeShapes Go.WideShapes Go.ChangeAt Go.RowKit
theorem len6 {α : Type} {l : List α} (h : l.length = 6) : ∃ z0 z1 z2 z3 z4 z5, l = [z0, z1, z2, z3, z4, z5] := by
  match l, h with
  | [z0, z1, z2, z3, z4, z5], _ => exact ⟨z0, z1, z2, z3, z4, z5, rfl⟩
theorem len3 {α : Type} {l : List α} (h : l.length = 3) : ∃ z0 z1 z2, l = [z0, z1, z2] := by
  match l, h with
  | [z0, z1, z2], _ => exact ⟨z0, z1, z2, rfl⟩
theorem len2 {α : Type} {l : List α} (h : l.length = 2) : ∃ z0 z1, l = [z0, z1] := by
  match l, h with
  | [z0, z1], _ => exact ⟨z0, z1, rfl⟩
section
variable {H : Type} {enc : TypeId × Value → H} {P : Program} {w : World} {base m : Nat} {spare : Nat → Bool} {held : Bool}
theorem step_cells {t : TypeId} {f0 f1 : Field} {c0 c1 : Value} {y : DataW H × List MemPlace} {a b : Int} (ht : P.underlying t = some (.struct #[f0, f1])) (h0 : P.underlying f0.type = some (.int .i64)) (h1 : P.underlying f1.type = some (.int .u64))
    (o0 : f0.offset = 0) (o1 : f1.offset = 1) (z0 : P.cellsOf f0.type = 1) (z1 : P.cellsOf f1.type = 1) (h : DataW.trod enc P w base spare held m t [c0, c1] = some y) (hy : y.1 = .agg [.lit (.int .i64 a), .lit (.int .u64 b)]) :
    c0 = .int .i64 a ∧ c1 = .int .u64 b := by
  obtain ⟨xs, n, _, hx, _, hl, hel⟩ := DataW.trod_struct ht h
  obtain ⟨x0, x1, rfl⟩ := len2 (show xs.length = 2 from hl)
  have g0 := hel 0 f0 rfl
  have g1 := hel 1 f1 rfl
  rw [o0, z0] at g0
  rw [o1, z1] at g1
  obtain ⟨u, e1, e2, _⟩ := DataW.trod_int h0 (show DataW.trod enc P w base spare held n f0.type [c0] = some x0 from g0)
  obtain ⟨v, e3, e4, _⟩ := DataW.trod_int h1 (show DataW.trod enc P w base spare held n f1.type [c1] = some x1 from g1)
  rw [hx, e2, e4] at hy
  simp at hy
  injection e1 with e1
  injection e3 with e3
  rw [e1, e3, hy.1, hy.2]
  exact ⟨rfl, rfl⟩
theorem table_cells {t s : TypeId} {f0 f1 : Field} {cs : List Value} {p : List MemPlace} {a1 m1 a2 m2 a3 m3 : Int} (ht : P.underlying t = some (.array 3 s)) (hs : P.underlying s = some (.struct #[f0, f1])) (h0 : P.underlying f0.type = some (.int .i64)) (h1 : P.underlying f1.type = some (.int .u64))
    (o0 : f0.offset = 0) (o1 : f1.offset = 1) (z0 : P.cellsOf f0.type = 1) (z1 : P.cellsOf f1.type = 1) (zt : P.cellsOf t = 6) (zs : P.cellsOf s = 2)
    (h : DataW.trod enc P w base spare held m t cs = some (.agg [.agg [.lit (.int .i64 a1), .lit (.int .u64 m1)], .agg [.lit (.int .i64 a2), .lit (.int .u64 m2)], .agg [.lit (.int .i64 a3), .lit (.int .u64 m3)]], p)) :
    cs = [.int .i64 a1, .int .u64 m1, .int .i64 a2, .int .u64 m2, .int .i64 a3, .int .u64 m3] := by
  obtain ⟨xs, n, _, hx, hcl, hl, hel⟩ := DataW.trod_array ht h
  obtain ⟨x0, x1, x2, rfl⟩ := len3 hl
  rw [zt] at hcl
  obtain ⟨c0, c1, c2, c3, c4, c5, rfl⟩ := len6 hcl
  have g0 := hel 0 (by omega)
  have g1 := hel 1 (by omega)
  have g2 := hel 2 (by omega)
  rw [zs] at g0 g1 g2
  simp only [Prod.mk.injEq, DataW.agg.injEq, List.map_cons, List.map_nil, List.cons.injEq, and_true] at hx
  obtain ⟨⟨q0, q1, q2⟩, _⟩ := hx
  obtain ⟨r0, r1⟩ := step_cells hs h0 h1 o0 o1 z0 z1 (show DataW.trod enc P w base spare held n s [c0, c1] = some x0 from g0) q0.symm
  obtain ⟨r2, r3⟩ := step_cells hs h0 h1 o0 o1 z0 z1 (show DataW.trod enc P w base spare held n s [c2, c3] = some x1 from g1) q1.symm
  obtain ⟨r4, r5⟩ := step_cells hs h0 h1 o0 o1 z0 z1 (show DataW.trod enc P w base spare held n s [c4, c5] = some x2 from g2) q2.symm
  rw [r0, r1, r2, r3, r4, r5]
theorem heap_of_var {name : String} {g : Nat} {cs : Array Value} (hg : P.globalNamed name = some g) (h : w.var? P name = some cs) : ∃ t fr, w.heap[g]? = some (.cells cs t fr) := by
  simp only [World.var?, hg, Option.bind_some] at h
  split at h
  · rename_i cs' t fr hh
    injection h with h
    subst h
    exact ⟨t, fr, hh⟩
  · cases h
end
end Go.Proofs.YtggflkjdgcdcmaaGreatDoor.MixTab
