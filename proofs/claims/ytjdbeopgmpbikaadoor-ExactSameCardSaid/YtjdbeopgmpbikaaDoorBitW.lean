/- Words, bit by bit (plain). -/
import Derived.Test.YtjdbeopgmpbikaaDoorEngW
namespace Go.Proofs.YtjdbeopgmpbikaaDoor.Eng
open Go Go.RowKit Go.Proofs
set_option linter.unusedVariables false
set_option linter.unusedSimpArgs false
/-- The bits of a number, the lowest one first. -/
def bitsN : Nat → Nat → List Nat
  | 0, _ => []
  | m + 1, n => n % 2 :: bitsN m (n / 2)
def natOf : List Nat → Nat
  | [] => 0
  | b :: t => b + 2 * natOf t
theorem bitsN_length (m : Nat) : ∀ n, (bitsN m n).length = m := by
  induction m with
  | zero => intro n; rfl
  | succ m ih => intro n; simp [bitsN, ih]
theorem natOf_bits (m : Nat) : ∀ n, n < 2 ^ m → natOf (bitsN m n) = n := by
  induction m with
  | zero => intro n h; simp only [Nat.pow_zero] at h; simp only [bitsN, natOf]; omega
  | succ m ih =>
    intro n h
    simp only [bitsN, natOf]
    rw [ih (n / 2) (by rw [Nat.pow_succ] at h; omega)]
    omega
def Bin (l : List Nat) : Prop := ∀ b ∈ l, b < 2
theorem bin_bits (m : Nat) : ∀ n, Bin (bitsN m n) := by
  induction m with
  | zero => intro n b hb; simp [bitsN] at hb
  | succ m ih =>
    intro n b hb
    simp only [bitsN, List.mem_cons] at hb
    rcases hb with rfl | hb
    · omega
    · exact ih _ b hb
theorem natOf_lt (l : List Nat) (h : Bin l) : natOf l < 2 ^ l.length := by
  induction l with
  | nil => simp [natOf]
  | cons b t ih =>
    have h1 := ih (fun x hx => h x (List.mem_cons_of_mem _ hx))
    have h2 := h b (by simp)
    simp only [natOf, List.length_cons, Nat.pow_succ]
    omega
theorem natOf_append (l r : List Nat) : natOf (l ++ r) = natOf l + 2 ^ l.length * natOf r := by
  induction l with
  | nil => simp [natOf]
  | cons b t ih =>
    simp only [List.cons_append, natOf, ih, List.length_cons, Nat.pow_succ]
    rw [Nat.mul_add, ← Nat.mul_assoc, Nat.mul_comm 2 (2 ^ t.length)]
    omega
theorem pow64 : (2 : Nat) ^ 64 = 18446744073709551616 := rfl
def rot (n : Nat) (l : List Nat) : List Nat := l.drop (64 - n) ++ l.take (64 - n)
theorem bin_rot {n : Nat} {l : List Nat} (h : Bin l) : Bin (rot n l) := by
  intro b hb
  rcases List.mem_append.1 hb with hb | hb
  · exact h b (List.mem_of_mem_drop hb)
  · exact h b (List.mem_of_mem_take hb)
theorem rot_length {n : Nat} {l : List Nat} : (rot n l).length = l.length := by
  unfold rot; rw [List.length_append, List.length_drop, List.length_take]; omega
def turn (x n : Nat) : Nat := natOf (rot n (bitsN 64 x))
theorem turn_lt (x n : Nat) : turn x n < 18446744073709551616 := by
  have := natOf_lt _ (bin_rot (n := n) (bin_bits 64 x))
  rw [rot_length, bitsN_length, pow64] at this
  exact this
theorem turn_eq (x n : Nat) (hn : n < 64) (hx : x < 18446744073709551616) : (x * 2 ^ n % 18446744073709551616) ||| (x / 2 ^ (64 - n)) = turn x n := by
  unfold turn rot
  obtain ⟨A, hA⟩ : ∃ A, (bitsN 64 x).take (64 - n) = A := ⟨_, rfl⟩
  obtain ⟨D, hD⟩ : ∃ D, (bitsN 64 x).drop (64 - n) = D := ⟨_, rfl⟩
  rw [hA, hD, natOf_append]
  have hb := bin_bits 64 x
  have bA : Bin A := fun b h => hb b (List.mem_of_mem_take (hA ▸ h))
  have bD : Bin D := fun b h => hb b (List.mem_of_mem_drop (hD ▸ h))
  have lA : A.length = 64 - n := by rw [← hA, List.length_take, bitsN_length]; omega
  have lD : D.length = n := by rw [← hD, List.length_drop, bitsN_length]; omega
  have hxe : x = natOf A + 2 ^ (64 - n) * natOf D := by
    conv => lhs; rw [← natOf_bits 64 x (by rw [pow64]; exact hx), ← List.take_append_drop (64 - n) (bitsN 64 x), hA, hD, natOf_append, lA]
  have ltA := natOf_lt A bA
  have ltD := natOf_lt D bD
  rw [lA] at ltA
  rw [lD] at ltD
  have hp : 0 < 2 ^ (64 - n) := Nat.pow_pos (by omega)
  have hpp : 2 ^ n * 2 ^ (64 - n) = 18446744073709551616 := by rw [← Nat.pow_add, show n + (64 - n) = 64 by omega]
  have e1 : x / 2 ^ (64 - n) = natOf D := by
    rw [hxe, Nat.add_mul_div_left _ _ hp, Nat.div_eq_of_lt ltA, Nat.zero_add]
  have e2 : x * 2 ^ n % 18446744073709551616 = natOf A * 2 ^ n := by
    rw [hxe, Nat.add_mul, Nat.mul_right_comm, Nat.mul_comm (2 ^ (64 - n)) (2 ^ n), hpp, Nat.add_mul_mod_self_left, Nat.mod_eq_of_lt]
    rw [← hpp, Nat.mul_comm]
    exact Nat.mul_lt_mul_of_pos_left ltA (Nat.pow_pos (by omega))
  rw [e1, e2, lD, Nat.add_comm, Nat.mul_comm (2 ^ n), ← Nat.shiftLeft_eq]
  exact (Nat.shiftLeft_add_eq_or_of_lt ltD _).symm
theorem bits_get (m : Nat) : ∀ (n i : Nat) (h : i < (bitsN m n).length), (bitsN m n)[i] = n / 2 ^ i % 2 := by
  induction m with
  | zero => intro n i h; simp [bitsN] at h
  | succ m ih =>
    intro n i h
    cases i with
    | zero => simp [bitsN]
    | succ i =>
      simp only [bitsN, List.getElem_cons_succ]
      rw [ih, Nat.div_div_eq_div_mul, Nat.pow_succ, Nat.mul_comm 2]
def pc (x : Nat) : Nat := (bitsN 64 x).sum
theorem sum_and (m : Nat) : ∀ x, x ≠ 0 → x < 2 ^ m → (bitsN m (x &&& (x - 1))).sum + 1 = (bitsN m x).sum := by
  induction m with
  | zero => intro x h0 h; simp only [Nat.pow_zero] at h; omega
  | succ m ih =>
    intro x h0 h
    simp only [bitsN, List.sum_cons]
    rw [Nat.pow_succ] at h
    have hd : (x &&& (x - 1)) / 2 = (x / 2) &&& ((x - 1) / 2) := Nat.and_div_two
    have hm : (x &&& (x - 1)) % 2 = 0 := by
      rcases Nat.mod_two_eq_zero_or_one (x &&& (x - 1)) with h | h
      · exact h
      · have := Nat.and_mod_two_eq_one.1 h; omega
    rw [hd, hm]
    by_cases h2 : x % 2 = 1
    · rw [show (x - 1) / 2 = x / 2 by omega, Nat.and_self]; omega
    · rw [show (x - 1) / 2 = x / 2 - 1 by omega]
      have := ih (x / 2) (by omega) (by omega)
      omega
theorem sum_le (m : Nat) : ∀ x, (bitsN m x).sum ≤ m := by
  induction m with
  | zero => intro x; simp [bitsN]
  | succ m ih => intro x; simp only [bitsN, List.sum_cons]; have := ih (x / 2); omega
def numN : List Int → Nat
  | [] => 0
  | x :: l => x.toNat + 256 * numN l
def By (l : List Int) : Prop := ∀ x ∈ l, 0 ≤ x ∧ x < 256
theorem By.take {l : List Int} (h : By l) (n : Nat) : By (l.take n) := fun x hx => h x (List.mem_of_mem_take hx)
theorem By.drop {l : List Int} (h : By l) (n : Nat) : By (l.drop n) := fun x hx => h x (List.mem_of_mem_drop hx)
theorem By.append {l r : List Int} (h : By l) (k : By r) : By (l ++ r) := fun x hx => (List.mem_append.1 hx).elim (h x) (k x)
theorem numN_lt (l : List Int) (h : By l) : numN l < 256 ^ l.length := by
  induction l with
  | nil => simp [numN]
  | cons x l ih =>
    have h1 := ih (fun y hy => h y (List.mem_cons_of_mem _ hy))
    have h2 := h x (by simp)
    simp only [numN, List.length_cons, Nat.pow_succ]
    omega
theorem numN_snoc (l : List Int) (x : Int) : numN (l ++ [x]) = numN l + 256 ^ l.length * x.toNat := by
  induction l with
  | nil => simp [numN]
  | cons y l ih =>
    simp only [List.cons_append, numN, ih, List.length_cons, Nat.pow_succ]
    rw [Nat.mul_add, ← Nat.mul_assoc, Nat.mul_comm 256 (256 ^ l.length), Nat.add_assoc]
theorem p256 (i : Nat) : 256 ^ i = 2 ^ (8 * i) := by rw [Nat.pow_mul]
theorem numN_64 (l : List Int) (h : By l) (hl : l.length ≤ 8) : numN l < 18446744073709551616 := by
  have h1 := numN_lt l h
  have h2 : 256 ^ l.length ≤ 256 ^ 8 := Nat.pow_le_pow_right (by omega) hl
  have h3 : (256 : Nat) ^ 8 = 18446744073709551616 := rfl
  omega
theorem N_or {a b : Nat} (ha : a < 18446744073709551616) (hb : b < 18446744073709551616) : Go.bits BinOp.or IntKind.u64 (a : Int) (b : Int) = ((a ||| b : Nat) : Int) := by
  have e : Go.bits BinOp.or IntKind.u64 (a : Int) (b : Int) = IntKind.wrap .u64 (((BitVec.ofInt 64 a ||| BitVec.ofInt 64 b).toNat : Nat) : Int) := rfl
  have hlt : a ||| b < 2 ^ 64 := Nat.or_lt_two_pow (by rw [pow64]; exact ha) (by rw [pow64]; exact hb)
  rw [pow64] at hlt
  rw [e, BitVec.ofInt_natCast, BitVec.ofInt_natCast, BitVec.toNat_or, BitVec.toNat_ofNat, BitVec.toNat_ofNat, Nat.mod_eq_of_lt (by rw [pow64]; exact ha), Nat.mod_eq_of_lt (by rw [pow64]; exact hb), wU64' (by omega) (by omega)]
theorem N_and {a b : Nat} (ha : a < 18446744073709551616) (hb : b < 18446744073709551616) : Go.bits BinOp.and IntKind.u64 (a : Int) (b : Int) = ((a &&& b : Nat) : Int) := by
  have e : Go.bits BinOp.and IntKind.u64 (a : Int) (b : Int) = IntKind.wrap .u64 (((BitVec.ofInt 64 a &&& BitVec.ofInt 64 b).toNat : Nat) : Int) := rfl
  have hlt : a &&& b ≤ a := Nat.and_le_left
  rw [e, BitVec.ofInt_natCast, BitVec.ofInt_natCast, BitVec.toNat_and, BitVec.toNat_ofNat, BitVec.toNat_ofNat, Nat.mod_eq_of_lt (by rw [pow64]; exact ha), Nat.mod_eq_of_lt (by rw [pow64]; exact hb), wU64' (by omega) (by omega)]
theorem shrN (X k : Nat) (hk : k ≤ 64) : shrI IntKind.u64 (X : Int) (k : Int) = ((X / 2 ^ k : Nat) : Int) := by
  unfold shrI
  have e1 : min (k : Int).toNat IntKind.u64.bits = k := by
    rw [Int.toNat_natCast]; exact Nat.min_eq_left hk
  rw [e1, Int.fdiv_eq_ediv_of_nonneg _ (by have := Nat.pow_pos (a := 2) (n := k) (by omega); exact Int.le_of_lt (by exact_mod_cast this))]
  rw [Int.natCast_ediv, Int.natCast_pow]; rfl
theorem shlN (X k : Nat) (hk : k ≤ 64) : shlI IntKind.u64 (X : Int) (k : Int) = ((X * 2 ^ k % 18446744073709551616 : Nat) : Int) := by
  unfold shlI
  have e1 : min (k : Int).toNat IntKind.u64.bits = k := by
    rw [Int.toNat_natCast]; exact Nat.min_eq_left hk
  rw [e1, wU64, Int.natCast_emod, Int.natCast_mul, Int.natCast_pow]; rfl
end Go.Proofs.YtjdbeopgmpbikaaDoor.Eng
