/- ProgRight. -/
import Derived.Test.YtppmdifhoejhjaaProS
namespace Go.Proofs.Ytppmdifhoejhjaa.Eng
open Go Go.RowKit Go.Proofs
set_option linter.unusedVariables false
set_option linter.unusedSimpArgs false
set_option maxRecDepth 1000000
def NamesLaid (W : World) : Prop := ∃ t fr, W.heap[0]? = some (.cells nmC.toArray t fr)
theorem NamesLaid.rd {W : World} (h : NamesLaid W) : RdC W nmQ nmC := by
  obtain ⟨t, fr, h⟩ := h
  refine .inr ⟨_, rfl, fun j u hj => ?_⟩
  have e0 : (⟨0, 0, none⟩ : Addr).add j = ⟨0, j, none⟩ := add0 0 j
  rw [e0]
  simpa [World.cell?, h] using hj
theorem recS {S : World → Prop} {ad : Addr} {l : List Op5} (hr : ∀ w, S w → RdC w (some ad) (l.flatMap encO)) {i : Nat} (hi : i < l.length) (j : Nat) (u : Value) (hj : (encO l[i])[j]? = some u) : ∀ w, S w → cellAt w ((ad.add (i * 5)).add j) u := fun w hS => by
  obtain ⟨a, ha, hcell⟩ := RdC.rec encO_len (hr w hS) hi (by omega)
  cases ha
  exact hcell i hi j u hj
def wrB (x : Op5) : Bool := x.1 == 2 || (x.1 == 3 || (x.1 == 5 || x.1 == 6))
theorem bare_bare (x : Op5) : rightB ((bareL (opL x)).getD 0 0, (bareL (opL x)).getD 1 0, (bareL (opL x)).getD 2 0, (bareL (opL x)).getD 3 0, (bareL (opL x)).getD 4 0) = true := by
  obtain ⟨k0, k1, k2, k3, k4⟩ := x
  by_cases hk : knownB k0 = true
  · have hk' : 0 ≤ k0 ∧ k0 ≤ 7 := of_decide_eq_true hk
    obtain h | h | h | h | h | h | h | h : k0 = 0 ∨ k0 = 1 ∨ k0 = 2 ∨ k0 = 3 ∨ k0 = 4 ∨ k0 = 5 ∨ k0 = 6 ∨ k0 = 7 := by omega
    all_goals subst h
    all_goals simp [pls, rightB, knownB, bareL, outsL, opL]
  · have e : bareL (opL (k0, k1, k2, k3, k4)) = [0, 0, 0, 0, 0] := by
      unfold bareL opL
      rw [if_neg (by simpa using hk)]
    rw [e]; rfl
theorem prRight_bare {e w : World} {F : List HP} {x : Op5} {k : Value → World → Prop} {n0 n1 n2 n3 n4 : Int} (hz : Value.agg (opV (bareL (opL x))).toArray = .agg #[.int .i64 n0, .int .i64 n1, .int .i64 n2, .int .i64 n3, .int .i64 n4]) (h : Own e w F) (hk : ∀ w', Own e w' F → k (.bool true) w') :
    Rets Try.prog 44 #[.agg #[.int .i64 n0, .int .i64 n1, .int .i64 n2, .int .i64 n3, .int .i64 n4]] w k := by
  refine Rets.mono (prRight (x := (n0, n1, n2, n3, n4)) h) ?_
  rintro _ w ⟨rfl, h⟩
  have hb := bare_bare x
  obtain ⟨z0, z1, z2, z3, z4, hzz⟩ := five (bareL_len (opL x))
  rw [hzz] at hz hb
  simp [opV, cs] at hz
  obtain ⟨rfl, rfl, rfl, rfl, rfl⟩ := hz
  have hb : rightB (z0, z1, z2, z3, z4) = true := hb
  rw [hb]
  exact hk w h
section
variable {W : World} {q : Option Addr} {c : Nat} {l : List Op5} {k : Int}
end
end Go.Proofs.Ytppmdifhoejhjaa.Eng
