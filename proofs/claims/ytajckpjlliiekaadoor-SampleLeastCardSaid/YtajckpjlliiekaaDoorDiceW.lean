/- Dice: numbers (plain). -/
import Derived.Test.YtajckpjlliiekaaDoorEngW
namespace Go.Proofs.YtajckpjlliiekaaDoor.Eng
open Go Go.RowKit Go.Proofs
set_option linter.unusedVariables false
set_option linter.unusedSimpArgs false
def M64 (x : Int) : Prop := 0 ≤ x ∧ x < 18446744073709551616
theorem M64.w (n : Int) : M64 (IntKind.wrap .u64 n) := by unfold M64; rw [wU64]; omega
/-- A fold. -/
def fI (x k : Int) : Int := Go.bits BinOp.xor IntKind.u64 x (shrI IntKind.u64 x k)
theorem bits_M64 (x y : Int) : M64 (Go.bits BinOp.xor IntKind.u64 x y) := by
  have : Go.bits BinOp.xor IntKind.u64 x y = IntKind.wrap .u64 (((BitVec.ofInt 64 x ^^^ BitVec.ofInt 64 y).toNat : Nat) : Int) := rfl
  rw [this]; exact M64.w _
theorem fI_M64 (x k : Int) : M64 (fI x k) := bits_M64 _ _
theorem shr_nat (X k : Nat) (hk : k ≤ 64) : shrI IntKind.u64 (X : Int) (k : Int) = ((X / 2 ^ k : Nat) : Int) := by
  unfold shrI
  have e1 : min (k : Int).toNat IntKind.u64.bits = k := by
    rw [Int.toNat_natCast]; exact Nat.min_eq_left hk
  rw [e1, Int.fdiv_eq_ediv_of_nonneg _ (by have := Nat.pow_pos (a := 2) (n := k) (by omega); exact Int.le_of_lt (by exact_mod_cast this))]
  rw [Int.natCast_ediv, Int.natCast_pow]; rfl
/-- What is mixed. -/
def mixI (x : Int) : Int := fI (IntKind.wrap .u64 (fI (IntKind.wrap .u64 (fI x 30 * 13787848793156543929)) 27 * 10723151780598845931)) 31
theorem mixI_M64 (x : Int) : M64 (mixI x) := fI_M64 _ _
theorem M64.one {x : Int} (h : M64 x) : IntKind.wrap .u64 (x * 1) = x := by
  obtain ⟨h0, h1⟩ := h
  rw [Int.mul_one, wU64' h0 h1]
/-- The draws. -/
def drawI (L : List Int) (s : Int) (k : Nat) : Int := if k < L.length then IntKind.wrap .u64 (L.getD k 0) else mixI ((s + 11400714819323198485 * ((k : Int) - L.length + 1)) % 18446744073709551616)
theorem drawI_M64 (L : List Int) (s : Int) (k : Nat) : M64 (drawI L s k) := by
  unfold drawI
  split
  · exact M64.w _
  · exact mixI_M64 _
def belI (v n : Int) : Int := if n < 1 then 0 else Int.tmod v n
theorem belI_bd {v n : Int} (hv : 0 ≤ v) : 0 ≤ belI v n ∧ (1 ≤ n → belI v n < n) := by
  unfold belI
  split
  · omega
  · rw [Int.tmod_eq_emod_of_nonneg hv]
    have h1 := Int.emod_nonneg v (b := n) (by omega)
    have h2 := Int.emod_lt_of_pos v (b := n) (by omega)
    omega
theorem belI_wrap {v n : Int} (hv : 0 ≤ v) (hn : 1 ≤ n) (hn2 : n ≤ 9223372036854775807) : IntKind.wrap .i64 (Int.tmod v (IntKind.wrap .u64 n)) = belI v n := by
  rw [wU64' (n := n) (by omega) (by omega)]
  have h1 := Int.emod_nonneg v (b := n) (by omega)
  have h2 := Int.emod_lt_of_pos v (b := n) (by omega)
  rw [Int.tmod_eq_emod_of_nonneg hv, wI64 (by omega) (by omega)]
  unfold belI
  rw [if_neg (by omega), Int.tmod_eq_emod_of_nonneg hv]
end Go.Proofs.YtajckpjlliiekaaDoor.Eng
