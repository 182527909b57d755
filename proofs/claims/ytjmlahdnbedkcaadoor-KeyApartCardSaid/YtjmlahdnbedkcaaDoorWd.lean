/- Words of 64 bits, as whole numbers and as bit vectors: small facts for the pure statements of this seat. -/
import Derived.Test.YtjmlahdnbedkcaaDoorWMore
namespace Go.Proofs.YtjmlahdnbedkcaaDoor.Wd
open Go.RowKit Go.Proofs.YtjmlahdnbedkcaaDoorW.PrintWords

/-- 'Option.bind_some', told so that the kernel need not compute. -/
theorem bs {α β : Type} (a : α) (f : α → Option β) : (some a).bind f = f a := (Option.bind_some a f).trans (Eq.refl (f a))
theorem u64_wf {x : Int} (h : (Lit.int .u64 x).wf = true) : 0 ≤ x ∧ x < 18446744073709551616 := by
  simp [Lit.wf, IntKind.min, IntKind.max, IntKind.signed, IntKind.bits] at h; omega
theorem i64_wf {x : Int} (h : (Lit.int .i64 x).wf = true) : -9223372036854775808 ≤ x ∧ x < 9223372036854775808 := by
  simp [Lit.wf, IntKind.min, IntKind.max, IntKind.signed, IntKind.bits] at h; omega
theorem u8_wf {x : Int} (h : (Lit.int .u8 x).wf = true) : 0 ≤ x ∧ x < 256 := by
  simp [Lit.wf, IntKind.min, IntKind.max, IntKind.signed, IntKind.bits] at h; omega
theorem wrap_u64 (x : Int) : IntKind.u64.wrap x = x % 18446744073709551616 := by
  simp [IntKind.wrap, IntKind.signed, IntKind.bits]
theorem wrap_u64_id {x : Int} (h0 : 0 ≤ x) (h1 : x < 18446744073709551616) : IntKind.u64.wrap x = x := by
  rw [wrap_u64]; omega
theorem wrap64_id {x : Int} (h0 : -9223372036854775808 ≤ x) (h1 : x < 9223372036854775808) : wrap64 x = x := by
  unfold wrap64; omega
theorem wrap_i64 (x : Int) : IntKind.i64.wrap x = wrap64 x := by
  have e : IntKind.i64.wrap x = if x % 18446744073709551616 ≥ 9223372036854775808 then x % 18446744073709551616 - 18446744073709551616 else x % 18446744073709551616 := by
    simp [IntKind.wrap, IntKind.signed, IntKind.bits]
  rw [e]
  unfold wrap64
  split <;> omega
theorem wrap_u8 (x : Int) : IntKind.u8.wrap x = x % 256 := by
  simp [IntKind.wrap, IntKind.signed, IntKind.bits]

/-- A word, told as a whole number. -/
def U (v : BitVec 64) : Int := (v.toNat : Int)
theorem U_lo (v : BitVec 64) : 0 ≤ U v := by unfold U; omega
theorem U_hi (v : BitVec 64) : U v < 18446744073709551616 := by unfold U; have := v.isLt; omega
theorem U_inj {a b : BitVec 64} (h : U a = U b) : a = b := BitVec.eq_of_toNat_eq (by unfold U at h; omega)
theorem U_eq {a b : BitVec 64} : U a = U b ↔ a = b := ⟨U_inj, fun h => by rw [h]⟩
theorem U_ex {x : Int} (h0 : 0 ≤ x) (h1 : x < 18446744073709551616) : ∃ v, x = U v :=
  ⟨BitVec.ofNat 64 x.toNat, by unfold U; rw [BitVec.toNat_ofNat]; omega⟩
theorem U_wf {x : Int} (h : (Lit.int .u64 x).wf = true) : ∃ v, x = U v := U_ex (u64_wf h).1 (u64_wf h).2
theorem U_lit (n : Nat) (h : n < 18446744073709551616) : (n : Int) = U (BitVec.ofNat 64 n) := by
  unfold U; rw [BitVec.toNat_ofNat]; omega
theorem U_wrap (a : BitVec 64) : IntKind.u64.wrap (U a) = U a := wrap_u64_id (U_lo a) (U_hi a)
theorem U_add (a b : BitVec 64) : IntKind.u64.wrap (U a + U b) = U (a + b) := by
  rw [wrap_u64]; unfold U; rw [BitVec.toNat_add]; omega
theorem U_sub (a b : BitVec 64) : IntKind.u64.wrap (U a - U b) = U (a - b) := by
  rw [wrap_u64]; unfold U; rw [BitVec.toNat_sub]; have := b.isLt; have := a.isLt; omega
theorem U_mul (a b : BitVec 64) : IntKind.u64.wrap (U a * U b) = U (a * b) := by
  rw [wrap_u64]; unfold U; rw [BitVec.toNat_mul, ← Int.natCast_mul]; omega
theorem U_ofInt (a : BitVec 64) : BitVec.ofInt 64 (U a) = a := by
  unfold U; rw [BitVec.ofInt_natCast]; simp
theorem U_xor (a b : BitVec 64) : Go.bits .xor .u64 (U a) (U b) = U (a ^^^ b) := by
  unfold Go.bits; simp only [IntKind.bits]; rw [U_ofInt, U_ofInt]; exact U_wrap _
theorem U_and (a b : BitVec 64) : Go.bits .and .u64 (U a) (U b) = U (a &&& b) := by
  unfold Go.bits; simp only [IntKind.bits]; rw [U_ofInt, U_ofInt]; exact U_wrap _
theorem U_or (a b : BitVec 64) : Go.bits .or .u64 (U a) (U b) = U (a ||| b) := by
  unfold Go.bits; simp only [IntKind.bits]; rw [U_ofInt, U_ofInt]; exact U_wrap _
theorem U_div (a : BitVec 64) (n : Nat) : U a / 2 ^ n = U (a >>> n) := by
  unfold U; rw [BitVec.toNat_ushiftRight, Nat.shiftRight_eq_div_pow, Int.natCast_ediv, Int.natCast_pow]; rfl
theorem U_shr (a : BitVec 64) {y : Int} (h : y ≤ 64) : shr .u64 (U a) y = U (a >>> y.toNat) := by
  unfold shr; simp only [IntKind.bits]; rw [Nat.min_eq_left (by omega)]; exact U_div a _
theorem U_shl (a : BitVec 64) {y : Int} (h : y ≤ 64) : shl .u64 (U a) y = U (a <<< y.toNat) := by
  unfold shl; simp only [IntKind.bits]; rw [Nat.min_eq_left (by omega), wrap_u64]
  unfold U; rw [BitVec.toNat_shiftLeft, Nat.shiftLeft_eq, Int.natCast_emod, Int.natCast_mul, Int.natCast_pow]; rfl
theorem U_tdiv2 (a : BitVec 64) : Int.tdiv (U a) 2 = U (a >>> 1) := by
  rw [Int.tdiv_eq_ediv_of_nonneg (U_lo a)]; exact U_div a 1
theorem pos_U {k : Nat} (h : k < 18446744073709551616) : U (BitVec.ofNat 64 k) = (k : Int) := (U_lit k h).symm

end Go.Proofs.YtjmlahdnbedkcaaDoor.Wd
