/- Any odd number's product with its inverse is 1 and the inverse's inverse is the number; an even number's inverse is 0; no condition. -/
import Derived.Test.YtjmlahdnbedkcaaPMixInvertsx1
import Derived.Test.YtjmlahdnbedkcaaWd
namespace Go.Proofs.Ytjmlahdnbedkcaa.Pure
open Go.RowKit Go.Proofs.Ytjmlahdnbedkcaa.PMixInverts Go.Proofs.YtjmlahdnbedkcaaW.PrintWords Go.Proofs.YtjmlahdnbedkcaaW.PrintLast Go.Proofs.Ytjmlahdnbedkcaa.Wd
namespace MixInvertsP

def step (a x : BitVec 64) : BitVec 64 := x * (2 - a * x)
def inv (a : BitVec 64) : BitVec 64 := step a (step a (step a (step a (step a a))))
theorem two_U : (2 : Int) = U 2 := rfl
theorem step_U (a x : BitVec 64) : IntKind.u64.wrap (U x * (IntKind.u64.wrap (2 - (IntKind.u64.wrap (U a * U x))))) = U (step a x) := by
  rw [U_mul, two_U, U_sub, U_mul]; rfl
theorem inv_l (k : Nat) (a : BitVec 64) : mix_Inverse.l0 (k + 6) (U a) (U a) 0 = some (U (inv a)) := by
  simp only [mix_Inverse.l0, step_U]
  rw [wrap64_id (x := 0 + 1) (by omega) (by omega)]
  rw [wrap64_id (x := 0 + 1 + 1) (by omega) (by omega)]
  rw [wrap64_id (x := 0 + 1 + 1 + 1) (by omega) (by omega)]
  rw [wrap64_id (x := 0 + 1 + 1 + 1 + 1) (by omega) (by omega)]
  rw [wrap64_id (x := 0 + 1 + 1 + 1 + 1 + 1) (by omega) (by omega)]
  simp [inv]
theorem step_sq (a x : BitVec 64) : 1 - a * step a x = (1 - a * x) * (1 - a * x) := by
  unfold step
  grind
theorem inv_err (a : BitVec 64) (c : BitVec 64) (h : 1 - a * a = 8#64 * c) : 1 - a * inv a = 0 := by
  unfold inv
  rw [step_sq, step_sq, step_sq, step_sq, step_sq, h]
  rw [show 8#64 * c * (8#64 * c) = 64#64 * (c * c) by grind]
  generalize c * c = c1
  rw [show 64#64 * c1 * (64#64 * c1) = 4096#64 * (c1 * c1) by grind]
  generalize c1 * c1 = c2
  rw [show 4096#64 * c2 * (4096#64 * c2) = 16777216#64 * (c2 * c2) by grind]
  generalize c2 * c2 = c3
  rw [show 16777216#64 * c3 * (16777216#64 * c3) = 281474976710656#64 * (c3 * c3) by grind]
  generalize c3 * c3 = c4
  rw [show 281474976710656#64 * c4 * (281474976710656#64 * c4) = (281474976710656#64 * 281474976710656#64) * (c4 * c4) by grind]
  rw [show 281474976710656#64 * 281474976710656#64 = 0#64 from rfl]
  exact BitVec.zero_mul
theorem odd_sq (a : BitVec 64) (h : a.toNat % 2 = 1) : ∃ c, 1 - a * a = 8#64 * c := by
  obtain ⟨b, rfl⟩ : ∃ b : BitVec 64, a = 2#64 * b + 1#64 := ⟨BitVec.ofNat 64 (a.toNat / 2), by
    apply BitVec.eq_of_toNat_eq
    have := a.isLt
    simp only [BitVec.toNat_add, BitVec.toNat_mul, BitVec.toNat_ofNat]
    omega⟩
  clear h
  have hb : ∃ d : BitVec 64, b = 2#64 * d ∨ b = 2#64 * d + 1#64 := ⟨BitVec.ofNat 64 (b.toNat / 2), by
    have := b.isLt
    rcases Nat.mod_two_eq_zero_or_one b.toNat with h | h
    · left
      apply BitVec.eq_of_toNat_eq
      simp only [BitVec.toNat_mul, BitVec.toNat_ofNat]
      omega
    · right
      apply BitVec.eq_of_toNat_eq
      simp only [BitVec.toNat_add, BitVec.toNat_mul, BitVec.toNat_ofNat]
      omega⟩
  obtain ⟨d, rfl | rfl⟩ := hb
  · exact ⟨-(d * (2#64 * d + 1#64)), by grind⟩
  · exact ⟨-((2#64 * d + 1#64) * (d + 1#64)), by grind⟩
theorem inv_right (a : BitVec 64) (h : a.toNat % 2 = 1) : a * inv a = 1 := by
  obtain ⟨c, hc⟩ := odd_sq a h
  have := inv_err a c hc
  grind
theorem inv_odd (a : BitVec 64) (h : a.toNat % 2 = 1) : (inv a).toNat % 2 = 1 := by
  have e := congrArg BitVec.toNat (inv_right a h)
  rw [BitVec.toNat_mul] at e
  rcases Nat.mod_two_eq_zero_or_one (inv a).toNat with h0 | h0
  · exfalso
    obtain ⟨d, hd⟩ : ∃ d, (inv a).toNat = 2 * d := ⟨(inv a).toNat / 2, by omega⟩
    rw [hd, ← Nat.mul_assoc, Nat.mul_comm a.toNat 2, Nat.mul_assoc] at e
    generalize a.toNat * d = z at e
    have : (1 : BitVec 64).toNat = 1 := rfl
    omega
  · exact h0
theorem inv_inv (a : BitVec 64) (h : a.toNat % 2 = 1) : inv (inv a) = a := by
  have h1 := inv_right a h
  have h2 := inv_right (inv a) (inv_odd a h)
  have : inv (inv a) = (a * inv a) * inv (inv a) := by rw [h1]; exact (BitVec.one_mul _).symm
  rw [this, BitVec.mul_assoc, h2]; exact BitVec.mul_one _
theorem inv_f (k : Nat) (a : BitVec 64) (h : a.toNat % 2 = 1) : mix_Inverse.f (k + 6) (U a) = some (U (inv a)) := by
  unfold mix_Inverse.f
  rw [if_neg (by rw [Int.tmod_eq_emod_of_nonneg (U_lo a)]; unfold U; omega)]
  exact inv_l k a
theorem awake_f : cortadolaw03_awake.f 20 = some true := by decide +kernel
end MixInvertsP
open MixInvertsP in
theorem MixInverts : cortadolaw03_MixInverts.Pure := by
  intro a ha
  obtain ⟨x, rfl⟩ := U_wf ha
  refine ⟨20, ?_⟩
  unfold cortadolaw03_MixInverts.f
  by_cases h : (Int.tmod (U x) 2) = 0
  · rw [if_pos h]
    unfold mix_Inverse.f
    rw [if_pos h]
    simp only [Option.bind_some, if_true]
    rw [awake_f]; rfl
  · rw [if_neg h]
    have ho : x.toNat % 2 = 1 := by
      rw [Int.tmod_eq_emod_of_nonneg (U_lo x)] at h; unfold U at h; omega
    rw [inv_f 14 x ho]
    simp only [Option.bind_some]
    rw [U_mul, inv_right x ho, if_pos (by rfl), inv_f 14 _ (inv_odd x ho), inv_inv x ho]
    simp only [Option.bind_some]
    rw [if_pos trivial, awake_f]; rfl

end Go.Proofs.Ytjmlahdnbedkcaa.Pure
