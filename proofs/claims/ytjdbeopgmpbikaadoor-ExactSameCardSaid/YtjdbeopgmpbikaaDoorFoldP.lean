/- Folds: numbers, and what the functions do. -/
import Derived.Test.YtjdbeopgmpbikaaDoorEngW
import Derived.Test.YtjdbeopgmpbikaaDoorFoldG
namespace Go.Proofs.YtjdbeopgmpbikaaDoor.Eng
open Go Go.RowKit Go.Proofs
set_option linter.unusedVariables false
set_option linter.unusedSimpArgs false
set_option maxRecDepth 1000000
def M64 (x : Int) : Prop := 0 ≤ x ∧ x < 18446744073709551616
theorem M64.w (n : Int) : M64 (IntKind.wrap .u64 n) := by unfold M64; rw [wU64]; omega
/-- A fold. -/
def fI (x k : Int) : Int := Go.bits BinOp.xor IntKind.u64 x (shrI IntKind.u64 x k)
theorem bits_M64 (x y : Int) : M64 (Go.bits BinOp.xor IntKind.u64 x y) := by
  have : Go.bits BinOp.xor IntKind.u64 x y = IntKind.wrap .u64 (((BitVec.ofInt 64 x ^^^ BitVec.ofInt 64 y).toNat : Nat) : Int) := rfl
  rw [this]; exact M64.w _
theorem fI_M64 (x k : Int) : M64 (fI x k) := bits_M64 _ _
theorem shr_nat (X k : Nat) (hk : k ≤ 64) : shrI IntKind.u64 (X : Int) (k : Int) = ((X / 2 ^ k : Nat) : Int) := by
  unfold shrI
  have e1 : min (k : Int).toNat IntKind.u64.bits = k := by
    rw [Int.toNat_natCast]; exact Nat.min_eq_left hk
  rw [e1, Int.fdiv_eq_ediv_of_nonneg _ (by have := Nat.pow_pos (a := 2) (n := k) (by omega); exact Int.le_of_lt (by exact_mod_cast this))]
  rw [Int.natCast_ediv, Int.natCast_pow]; rfl
/-- What is mixed. -/
def mixI (x : Int) : Int := fI (IntKind.wrap .u64 (fI (IntKind.wrap .u64 (fI x 30 * 13787848793156543929)) 27 * 10723151780598845931)) 31
theorem mixI_M64 (x : Int) : M64 (mixI x) := fI_M64 _ _
theorem M64.one {x : Int} (h : M64 x) : IntKind.wrap .u64 (x * 1) = x := by
  obtain ⟨h0, h1⟩ := h
  rw [Int.mul_one, wU64' h0 h1]
def twiI (x : Int) : Int := fI (IntKind.wrap .u64 (fI (IntKind.wrap .u64 (fI x 33 * 18397679294719823053)) 33 * 14181476777654086739)) 33
theorem twiI_M64 (x : Int) : M64 (twiI x) := fI_M64 _ _
section
variable {e w : World} {F : List HP} {x k : Int}
theorem mxFold (hk : 1 ≤ k ∧ k < 64) (h : Own e w F) : Rets Tryd.prog 73 #[.int .u64 x, .int .i64 k] w fun v w' => v = .int .u64 (fI x k) ∧ Own e w' F := by
  refine mix_Fold_go _ _ ⟨fun _ => ⟨fun hc => absurd (dec_t hc) (by omega), fun _ => ?_⟩, fun hc => absurd (dec_t hc) (by omega)⟩
  rw [wU64' (n := k) (by omega) (by omega)]
  exact ⟨by omega, rfl, h⟩
theorem rfFold {K : Nat} (hx : M64 x) (hk : 1 ≤ K ∧ K < 64) (h : Own e w F) : Rets Tryd.prog 78 #[.int .u64 x, .int .i64 (K : Int)] w fun v w' => v = .int .u64 (fI x K) ∧ Own e w' F := by
  obtain ⟨X, rfl⟩ := Int.eq_ofNat_of_zero_le hx.1
  have hX := hx.2
  refine cortadoref03_Fold_go _ _ ⟨fun _ => ⟨fun hc => absurd (dec_t hc) (by omega), fun _ => ?_⟩, fun hc => absurd (dec_t hc) (by omega)⟩
  refine ⟨fun m vs w => ∃ i : Nat, vs = [.int .u64 ((X / 2 ^ i : Nat) : Int), .int .i64 (i : Int)] ∧ m + i = K ∧ Own e w F, ⟨K, 0, by simp, rfl, h⟩, ?_⟩
  rintro m w n1 n2
  intros
  rename_i hI
  obtain ⟨i, hvs, hm, h⟩ := hI
  obtain ⟨rfl, rfl⟩ : n1 = ((X / 2 ^ i : Nat) : Int) ∧ n2 = (i : Int) := by simpa using hvs
  refine ⟨fun hc => ?_, fun hc => ?_⟩
  · have hc := dec_t hc
    refine ⟨by omega, m - 1, by omega, i + 1, ?_, by omega, h⟩
    have hle : X / 2 ^ i ≤ X := Nat.div_le_self _ _
    have e1 : Int.tdiv ((X / 2 ^ i : Nat) : Int) 2 = ((X / 2 ^ i / 2 : Nat) : Int) := rfl
    have e2 : X / 2 ^ i / 2 = X / 2 ^ (i + 1) := Nat.div_div_eq_div_mul _ _ _
    rw [e1, e2]
    have hle2 : X / 2 ^ (i + 1) ≤ X := Nat.div_le_self _ _
    generalize X / 2 ^ (i + 1) = Y at hle2 ⊢
    rw [wU64' (by omega) (by omega), wI64 (by omega) (by omega)]; rfl
  · have hc := dec_f hc
    obtain rfl : i = K := by omega
    refine ⟨?_, h⟩
    unfold fI
    rw [shr_nat X i (by omega)]
end
end Go.Proofs.YtjdbeopgmpbikaaDoor.Eng
