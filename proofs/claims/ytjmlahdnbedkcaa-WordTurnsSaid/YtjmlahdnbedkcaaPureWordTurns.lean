/- A word turned by any number of places is the document's, and comes back when it is turned back, with as many bits that are 1; no condition. -/
import Derived.Test.YtjmlahdnbedkcaaPWordTurnsx1
import Derived.Test.YtjmlahdnbedkcaaWd
namespace Go.Proofs.Ytjmlahdnbedkcaa.Pure
open Go.RowKit Go.Proofs.Ytjmlahdnbedkcaa.PWordTurns Go.Proofs.YtjmlahdnbedkcaaW.PrintWords Go.Proofs.YtjmlahdnbedkcaaW.PrintLast Go.Proofs.YtjmlahdnbedkcaaW.PrintMore Go.Proofs.Ytjmlahdnbedkcaa.Wd
namespace BitsL
/-- The bits of a number, the lowest one first. -/
def bitsN : Nat → Nat → List Nat
  | 0, _ => []
  | m + 1, n => n % 2 :: bitsN m (n / 2)
def natOf : List Nat → Nat
  | [] => 0
  | b :: t => b + 2 * natOf t
theorem bitsN_length (m : Nat) : ∀ n, (bitsN m n).length = m := by
  induction m with
  | zero => intro n; rfl
  | succ m ih => intro n; simp [bitsN, ih]
theorem natOf_bits (m : Nat) : ∀ n, n < 2 ^ m → natOf (bitsN m n) = n := by
  induction m with
  | zero => intro n h; simp only [Nat.pow_zero] at h; simp only [bitsN, natOf]; omega
  | succ m ih =>
    intro n h
    simp only [bitsN, natOf]
    rw [ih (n / 2) (by rw [Nat.pow_succ] at h; omega)]
    omega
def Bin (l : List Nat) : Prop := ∀ b ∈ l, b < 2
theorem bin_bits (m : Nat) : ∀ n, Bin (bitsN m n) := by
  induction m with
  | zero => intro n b hb; simp [bitsN] at hb
  | succ m ih =>
    intro n b hb
    simp only [bitsN, List.mem_cons] at hb
    rcases hb with rfl | hb
    · omega
    · exact ih _ b hb
theorem natOf_lt (l : List Nat) (h : Bin l) : natOf l < 2 ^ l.length := by
  induction l with
  | nil => simp [natOf]
  | cons b t ih =>
    have h1 := ih (fun x hx => h x (List.mem_cons_of_mem _ hx))
    have h2 := h b (by simp)
    simp only [natOf, List.length_cons, Nat.pow_succ]
    omega
theorem natOf_append (l r : List Nat) : natOf (l ++ r) = natOf l + 2 ^ l.length * natOf r := by
  induction l with
  | nil => simp [natOf]
  | cons b t ih =>
    simp only [List.cons_append, natOf, ih, List.length_cons, Nat.pow_succ]
    rw [Nat.mul_add, ← Nat.mul_assoc, Nat.mul_comm 2 (2 ^ t.length)]
    omega
def ints (l : List Nat) : List Int := l.map fun (b : Nat) => (b : Int)
theorem ints_length (l : List Nat) : (ints l).length = l.length := by simp [ints]
theorem rd_ints (l : List Nat) (i : Int) (h : i.toNat < l.length) : rd (ints l) i = (l[i.toNat] : Int) := by
  simp [rd, ints, List.getD_eq_getElem?_getD, h]
theorem pow64 : (2 : Nat) ^ 64 = 18446744073709551616 := rfl

theorem bits_l (d : Nat) : ∀ (k n : Nat) (pre : List Int) (i : Int), 0 ≤ i → i ≤ 64 → 64 - i = d → d < k → pre.length ≤ i → n < 18446744073709551616 →
    cortadoref01_Bits.l0 k n pre i = some (pre ++ ints (bitsN d n)) := by
  induction d with
  | zero =>
    intro k n pre i h0 h1 hd hk _ _
    obtain ⟨k, rfl⟩ : ∃ m, k = m + 1 := ⟨k - 1, by omega⟩
    simp only [cortadoref01_Bits.l0]
    rw [if_neg (by omega)]; simp [bitsN, ints]
  | succ d ih =>
    intro k n pre i h0 h1 hd hk hp hn
    obtain ⟨k, rfl⟩ : ∃ m, k = m + 1 := ⟨k - 1, by omega⟩
    simp only [cortadoref01_Bits.l0]
    have e1 : Int.tdiv (n : Int) 2 = ((n / 2 : Nat) : Int) := by rw [Int.tdiv_eq_ediv_of_nonneg (by omega)]; omega
    have e2 : Int.tmod (n : Int) 2 = ((n % 2 : Nat) : Int) := by rw [Int.tmod_eq_emod_of_nonneg (by omega)]; omega
    have hw : wrap64 (i + 1) = i + 1 := by unfold wrap64; omega
    rw [if_pos (by omega), if_pos (by omega), e1, e2, hw, wrap_u64_id (by omega) (by omega)]
    rw [ih k (n / 2) (pre ++ [((n % 2 : Nat) : Int)]) (i + 1) (by omega) (by omega) (by omega) (by omega) (by simp; omega) (by omega)]
    simp [bitsN, ints]
theorem bits_f (k n : Nat) (hk : 64 < k) (hn : n < 18446744073709551616) : cortadoref01_Bits.f k n = some (ints (bitsN 64 n)) := by
  unfold cortadoref01_Bits.f
  rw [bits_l 64 k n [] 0 (by omega) (by omega) (by omega) hk (by simp) hn]; rfl
/-- The highest place. -/
theorem log_l (d : Nat) : ∀ (k n : Nat) (c : Int), n < 2 ^ d → 0 ≤ c + 1 → c + d < 1000 → d < k →
    word_Log.l0 k n c = some (if n = 0 then c else c + 1 + Nat.log2 n) := by
  induction d with
  | zero =>
    intro k n c hn hc _ hk
    obtain ⟨k, rfl⟩ : ∃ m, k = m + 1 := ⟨k - 1, by omega⟩
    simp only [word_Log.l0]
    have : n = 0 := by simpa using hn
    rw [if_pos (by omega), if_pos this]
  | succ d ih =>
    intro k n c hn hc hcd hk
    obtain ⟨k, rfl⟩ : ∃ m, k = m + 1 := ⟨k - 1, by omega⟩
    simp only [word_Log.l0]
    by_cases h : n = 0
    · rw [if_pos (by omega), if_pos h]
    · rw [if_neg (by omega), if_neg h]
      have hw : wrap64 (c + 1) = c + 1 := by unfold wrap64; omega
      have he : (n : Int) / 2 = ((n / 2 : Nat) : Int) := by omega
      rw [hw, he, ih k (n / 2) (c + 1) (by rw [Nat.pow_succ] at hn; omega) (by omega) (by omega) (by omega)]
      conv => rhs; rw [Nat.log2_def]
      by_cases h2 : n / 2 = 0
      · rw [if_pos h2, if_neg (by omega)]; simp
      · rw [if_neg h2, if_pos (by omega)]; congr 1; omega
def lg (n : Nat) : Int := if n = 0 then -1 else Nat.log2 n
theorem log_f (k n : Nat) (hk : 64 < k) (hn : n < 18446744073709551616) : word_Log.f k n = some (lg n) := by
  unfold word_Log.f lg
  rw [log_l 64 k n (-1) (by rw [pow64]; exact hn) (by omega) (by omega) hk]
  split
  · rfl
  · congr 1; omega
theorem N_and {a b : Nat} (ha : a < 18446744073709551616) (hb : b < 18446744073709551616) : Go.bits .and .u64 (a : Int) (b : Int) = ((a &&& b : Nat) : Int) := by
  rw [U_lit a ha, U_lit b hb, U_and]
  unfold U
  rw [BitVec.toNat_and, BitVec.toNat_ofNat, BitVec.toNat_ofNat, Nat.mod_eq_of_lt (by rw [pow64]; exact ha), Nat.mod_eq_of_lt (by rw [pow64]; exact hb)]
theorem N_or {a b : Nat} (ha : a < 18446744073709551616) (hb : b < 18446744073709551616) : Go.bits .or .u64 (a : Int) (b : Int) = ((a ||| b : Nat) : Int) := by
  rw [U_lit a ha, U_lit b hb, U_or]
  unfold U
  rw [BitVec.toNat_or, BitVec.toNat_ofNat, BitVec.toNat_ofNat, Nat.mod_eq_of_lt (by rw [pow64]; exact ha), Nat.mod_eq_of_lt (by rw [pow64]; exact hb)]
theorem u64_nat {x : Int} (h : (Lit.int .u64 x).wf = true) : ∃ n : Nat, x = n ∧ n < 18446744073709551616 := by
  have := u64_wf h
  exact ⟨x.toNat, by omega, by omega⟩
theorem shl1 {e : Nat} (h : e < 64) : shl .u64 1 (e : Int) = ((2 ^ e : Nat) : Int) := by
  unfold shl
  simp only [IntKind.bits]
  have h1 : 2 ^ e ≤ 2 ^ 63 := Nat.pow_le_pow_right (by omega) (by omega)
  rw [Int.toNat_natCast, Nat.min_eq_left (by omega), Int.one_mul, wrap_u64]
  have e1 : (2 : Int) ^ e = ((2 ^ e : Nat) : Int) := by rw [Int.natCast_pow]; rfl
  rw [e1]
  have : (2 : Nat) ^ 63 = 9223372036854775808 := rfl
  rw [this] at h1
  generalize 2 ^ e = p at h1
  omega
end BitsL
namespace BitsL
theorem of_l (l : List Nat) (hb : Bin l) (hl : l.length ≤ 64) (d : Nat) : ∀ (k : Nat) (i : Int), i < l.length → i + 1 = d → d < k →
    cortadoref01_Of.l0 k (ints l) (natOf (l.drop d) : Nat) i = some ((natOf l : Nat) : Int) := by
  induction d with
  | zero =>
    intro k i h1 hd hk
    obtain ⟨k, rfl⟩ : ∃ m, k = m + 1 := ⟨k - 1, by omega⟩
    simp only [cortadoref01_Of.l0]
    rw [if_neg (by omega)]; simp
  | succ d ih =>
    intro k i h1 hd hk
    obtain ⟨k, rfl⟩ : ∃ m, k = m + 1 := ⟨k - 1, by omega⟩
    have hlt : d < l.length := by omega
    simp only [cortadoref01_Of.l0]
    rw [if_pos (by omega), if_pos (by omega), if_pos (by rw [ints_length]; omega), rd_ints _ _ (by omega)]
    have hw : wrap64 (i - 1) = i - 1 := by unfold wrap64; omega
    have hbd : Bin (l.drop d) := fun b hx => hb b (List.mem_of_mem_drop hx)
    have hlt2 := natOf_lt _ hbd
    have hle : 2 ^ (l.drop d).length ≤ 2 ^ 64 := Nat.pow_le_pow_right (by omega) (by rw [List.length_drop]; omega)
    rw [List.drop_eq_getElem_cons hlt] at hlt2 hle
    simp only [natOf] at hlt2
    rw [pow64] at hle
    have hi : i.toNat = d := by omega
    simp only [hi]
    have hlt3 := Nat.lt_of_lt_of_le hlt2 hle
    clear hlt2 hle
    generalize hN : natOf (l.drop (d + 1)) = N at hlt3
    generalize hB : l[d] = B at hlt3
    have e1 : IntKind.u64.wrap (2 * (N : Int)) = 2 * (N : Int) := wrap_u64_id (by omega) (by omega)
    have e2 : IntKind.u64.wrap (2 * (N : Int) + (B : Int)) = ((B + 2 * N : Nat) : Int) := by rw [wrap_u64_id (by omega) (by omega)]; omega
    rw [hw, e1, e2]
    have := ih k (i - 1) (by omega) (by omega) (by omega)
    rw [List.drop_eq_getElem_cons hlt] at this
    simp only [natOf] at this
    rw [hN, hB] at this
    exact this
theorem of_f (k : Nat) (l : List Nat) (hb : Bin l) (hl : l.length ≤ 64) (hk : 64 < k) : cortadoref01_Of.f k (ints l) = some ((natOf l : Nat) : Int) := by
  unfold cortadoref01_Of.f
  have hw : wrap64 (((ints l).length : Int) - 1) = (l.length : Int) - 1 := by rw [ints_length]; unfold wrap64; omega
  rw [hw]
  have := of_l l hb hl l.length k (l.length - 1) (by omega) (by omega) (by omega)
  rw [List.drop_length] at this
  exact this
end BitsL
namespace WordTurnsP
open BitsL
theorem bits_natOf (l : List Nat) (h : Bin l) : bitsN l.length (natOf l) = l := by
  induction l with
  | nil => rfl
  | cons b t ih =>
    have h2 := h b (by simp)
    simp only [List.length_cons, bitsN, natOf]
    rw [show (b + 2 * natOf t) % 2 = b by omega, show (b + 2 * natOf t) / 2 = natOf t by omega, ih (fun x hx => h x (List.mem_cons_of_mem _ hx))]
/-- The bits, turned. -/
def rot (n : Nat) (l : List Nat) : List Nat := l.drop (64 - n) ++ l.take (64 - n)
theorem bin_rot {n : Nat} {l : List Nat} (h : Bin l) : Bin (rot n l) := by
  intro b hb
  rcases List.mem_append.1 hb with hb | hb
  · exact h b (List.mem_of_mem_drop hb)
  · exact h b (List.mem_of_mem_take hb)
theorem rot_length {n : Nat} {l : List Nat} : (rot n l).length = l.length := by
  unfold rot; rw [List.length_append, List.length_drop, List.length_take]; omega
def turn (x n : Nat) : Nat := natOf (rot n (bitsN 64 x))
theorem turn_lt (x n : Nat) : turn x n < 18446744073709551616 := by
  have := natOf_lt _ (bin_rot (n := n) (bin_bits 64 x))
  rw [rot_length, bitsN_length, pow64] at this
  exact this
theorem turn_eq (x n : Nat) (hn : n < 64) (hx : x < 18446744073709551616) : (x * 2 ^ n % 18446744073709551616) ||| (x / 2 ^ (64 - n)) = turn x n := by
  unfold turn rot
  obtain ⟨A, hA⟩ : ∃ A, (bitsN 64 x).take (64 - n) = A := ⟨_, rfl⟩
  obtain ⟨D, hD⟩ : ∃ D, (bitsN 64 x).drop (64 - n) = D := ⟨_, rfl⟩
  rw [hA, hD, natOf_append]
  have hb := bin_bits 64 x
  have bA : Bin A := fun b h => hb b (List.mem_of_mem_take (hA ▸ h))
  have bD : Bin D := fun b h => hb b (List.mem_of_mem_drop (hD ▸ h))
  have lA : A.length = 64 - n := by rw [← hA, List.length_take, bitsN_length]; omega
  have lD : D.length = n := by rw [← hD, List.length_drop, bitsN_length]; omega
  have hxe : x = natOf A + 2 ^ (64 - n) * natOf D := by
    conv => lhs; rw [← natOf_bits 64 x (by rw [pow64]; exact hx), ← List.take_append_drop (64 - n) (bitsN 64 x), hA, hD, natOf_append, lA]
  have ltA := natOf_lt A bA
  have ltD := natOf_lt D bD
  rw [lA] at ltA
  rw [lD] at ltD
  have hp : 0 < 2 ^ (64 - n) := Nat.pow_pos (by omega)
  have hpp : 2 ^ n * 2 ^ (64 - n) = 18446744073709551616 := by rw [← Nat.pow_add, show n + (64 - n) = 64 by omega]
  have e1 : x / 2 ^ (64 - n) = natOf D := by
    rw [hxe, Nat.add_mul_div_left _ _ hp, Nat.div_eq_of_lt ltA, Nat.zero_add]
  have e2 : x * 2 ^ n % 18446744073709551616 = natOf A * 2 ^ n := by
    rw [hxe, Nat.add_mul, Nat.mul_right_comm, Nat.mul_comm (2 ^ (64 - n)) (2 ^ n), hpp, Nat.add_mul_mod_self_left, Nat.mod_eq_of_lt]
    rw [← hpp, Nat.mul_comm]
    exact Nat.mul_lt_mul_of_pos_left ltA (Nat.pow_pos (by omega))
  rw [e1, e2, lD, Nat.add_comm, Nat.mul_comm (2 ^ n), ← Nat.shiftLeft_eq]
  exact (Nat.shiftLeft_add_eq_or_of_lt ltD _).symm
theorem turn_f (x : Nat) (k : Int) (n : Nat) (hx : x < 18446744073709551616) (hn : k % 64 = n) : word_Turn.f x k = some (turn x n : Int) := by
  unfold word_Turn.f
  have hn64 : n < 64 := by omega
  have e1 : Int.tmod (IntKind.u64.wrap k) 64 = n := by
    rw [wrap_u64, Int.tmod_eq_emod_of_nonneg (by omega)]; omega
  have e2 : IntKind.u64.wrap (64 - (n : Int)) = ((64 - n : Nat) : Int) := by rw [wrap_u64]; omega
  rw [e1, e2, if_pos (by omega), if_pos (by omega)]
  have e3 : shl .u64 (x : Int) (n : Int) = ((x * 2 ^ n % 18446744073709551616 : Nat) : Int) := by
    unfold shl
    simp only [IntKind.bits]
    rw [Int.toNat_natCast, Nat.min_eq_left (by omega), wrap_u64, Int.natCast_emod, Int.natCast_mul, Int.natCast_pow]; rfl
  have e4 : shr .u64 (x : Int) ((64 - n : Nat) : Int) = ((x / 2 ^ (64 - n) : Nat) : Int) := by
    unfold shr
    simp only [IntKind.bits]
    rw [Int.toNat_natCast, Nat.min_eq_left (by omega), Int.natCast_ediv, Int.natCast_pow]; rfl
  have hle : x / 2 ^ (64 - n) ≤ x := Nat.div_le_self _ _
  rw [e3, e4, N_or (Nat.mod_lt _ (by omega)) (by omega), turn_eq x n hn64 hx]
theorem turn_back (x n m : Nat) (hn : n < 64) (hm : m = (64 - n) % 64) (hx : x < 18446744073709551616) : turn (turn x n) m = x := by
  unfold turn
  have e := bits_natOf (rot n (bitsN 64 x)) (bin_rot (bin_bits 64 x))
  rw [rot_length, bitsN_length] at e
  rw [e]
  have lb := bitsN_length 64 x
  have e2 : rot m (rot n (bitsN 64 x)) = bitsN 64 x := by
    by_cases h0 : n = 0
    · subst h0
      obtain rfl : m = 0 := by omega
      unfold rot
      rw [List.drop_eq_nil_of_le (by simp [lb]), List.take_of_length_le (by simp [lb]), List.drop_eq_nil_of_le (by simp [lb]), List.take_of_length_le (by simp [lb])]
      rfl
    · obtain rfl : m = 64 - n := by omega
      unfold rot
      have hl : ((bitsN 64 x).drop (64 - n)).length = n := by rw [List.length_drop, lb]; omega
      rw [show 64 - (64 - n) = n by omega, List.drop_append_of_le_length (by omega), List.take_append_of_le_length (by omega), List.drop_eq_nil_of_le (show ((bitsN 64 x).drop (64 - n)).length ≤ n by omega), List.take_of_length_le (show ((bitsN 64 x).drop (64 - n)).length ≤ n by omega), List.nil_append, List.take_append_drop]
  rw [e2, natOf_bits 64 x (by rw [pow64]; exact hx)]
def pc (x : Nat) : Nat := (bitsN 64 x).sum
theorem sum_and (m : Nat) : ∀ x, x ≠ 0 → x < 2 ^ m → (bitsN m (x &&& (x - 1))).sum + 1 = (bitsN m x).sum := by
  induction m with
  | zero => intro x h0 h; simp only [Nat.pow_zero] at h; omega
  | succ m ih =>
    intro x h0 h
    simp only [bitsN, List.sum_cons]
    rw [Nat.pow_succ] at h
    have hd : (x &&& (x - 1)) / 2 = (x / 2) &&& ((x - 1) / 2) := Nat.and_div_two
    have hm : (x &&& (x - 1)) % 2 = 0 := by
      rcases Nat.mod_two_eq_zero_or_one (x &&& (x - 1)) with h | h
      · exact h
      · have := Nat.and_mod_two_eq_one.1 h; omega
    rw [hd, hm]
    by_cases h2 : x % 2 = 1
    · rw [show (x - 1) / 2 = x / 2 by omega, Nat.and_self]; omega
    · rw [show (x - 1) / 2 = x / 2 - 1 by omega]
      have := ih (x / 2) (by omega) (by omega)
      omega
theorem sum_le (m : Nat) : ∀ x, (bitsN m x).sum ≤ m := by
  induction m with
  | zero => intro x; simp [bitsN]
  | succ m ih => intro x; simp only [bitsN, List.sum_cons]; have := ih (x / 2); omega
theorem ones_l (d : Nat) : ∀ (k x : Nat) (c : Int), pc x = d → 0 ≤ c → c + d < 1000 → d < k → x < 18446744073709551616 →
    word_Ones.l0 k x c = some (c + d) := by
  induction d with
  | zero =>
    intro k x c hp _ _ hk hx
    obtain ⟨k, rfl⟩ : ∃ m, k = m + 1 := ⟨k - 1, by omega⟩
    simp only [word_Ones.l0]
    by_cases h : x = 0
    · rw [if_pos (by omega)]; simp
    · have := sum_and 64 x h (by rw [pow64]; exact hx)
      unfold pc at hp
      omega
  | succ d ih =>
    intro k x c hp hc hcd hk hx
    obtain ⟨k, rfl⟩ : ∃ m, k = m + 1 := ⟨k - 1, by omega⟩
    simp only [word_Ones.l0]
    by_cases h : x = 0
    · subst h
      have hz : pc 0 = 0 := by decide
      omega
    · have hs := sum_and 64 x h (by rw [pow64]; exact hx)
      have hw : wrap64 (c + 1) = c + 1 := by unfold wrap64; omega
      have e : IntKind.u64.wrap ((x : Int) - 1) = ((x - 1 : Nat) : Int) := by rw [wrap_u64]; omega
      have hle : x &&& (x - 1) ≤ x := Nat.and_le_left
      rw [if_neg (by omega), hw, e, N_and hx (by omega), ih k (x &&& (x - 1)) (c + 1) (by unfold pc at hp ⊢; omega) (by omega) (by omega) (by omega) (by omega)]
      exact congrArg some (by omega)
theorem ones_f (k x : Nat) (hk : 64 < k) (hx : x < 18446744073709551616) : word_Ones.f k x = some (pc x : Int) := by
  unfold word_Ones.f
  have hl := sum_le 64 x
  have := ones_l (pc x) k x 0 rfl (by omega) (by unfold pc; omega) (by unfold pc; omega) hx
  simpa using this
theorem pc_turn (x n : Nat) : pc (turn x n) = pc x := by
  unfold pc turn
  have e := bits_natOf (rot n (bitsN 64 x)) (bin_rot (bin_bits 64 x))
  rw [rot_length, bitsN_length] at e
  rw [e]
  unfold rot
  rw [List.sum_append, Nat.add_comm, ← List.sum_append, List.take_append_drop]
theorem rturn_l (l : List Nat) (hb : Bin l) (hl : l.length = 64) (n : Nat) (hn : n < 64) (d : Nat) : ∀ (k i : Nat), i + d = 64 → d + 70 < k →
    cortadoref01_Turn.l0 k (ints l) (n : Int) (ints ((rot n l).take i)) (i : Int) = some ((natOf (rot n l) : Nat) : Int) := by
  induction d with
  | zero =>
    intro k i hi hk
    obtain ⟨k, rfl⟩ : ∃ m, k = m + 1 := ⟨k - 1, by omega⟩
    simp only [cortadoref01_Turn.l0]
    rw [if_neg (by omega), List.take_of_length_le (by rw [rot_length]; omega), of_f k _ (bin_rot hb) (by rw [rot_length]; omega) (by omega)]; rfl
  | succ d ih =>
    intro k i hi hk
    obtain ⟨k, rfl⟩ : ∃ m, k = m + 1 := ⟨k - 1, by omega⟩
    simp only [cortadoref01_Turn.l0]
    have hw : wrap64 ((i : Int) + 1) = ((i + 1 : Nat) : Int) := by unfold wrap64; omega
    have hj : Int.tmod (wrap64 ((wrap64 ((i : Int) + 64)) - (n : Int))) 64 = (((i + 64 - n) % 64 : Nat) : Int) := by
      rw [show wrap64 ((i : Int) + 64) = (i : Int) + 64 by unfold wrap64; omega, show wrap64 ((i : Int) + 64 - n) = ((i + 64 - n : Nat) : Int) by unfold wrap64; omega, Int.tmod_eq_emod_of_nonneg (by omega)]
      omega
    have hjl : (i + 64 - n) % 64 < l.length := by omega
    have hll : (ints ((rot n l).take i)).length = i := by rw [ints_length, List.length_take, rot_length]; omega
    rw [if_pos (by omega), hj, if_pos (by omega), if_pos (by rw [ints_length]; omega), if_pos (by omega), hw, rd_ints _ _ (by rw [Int.toNat_natCast]; exact hjl)]
    have hi2 : i < (rot n l).length := by rw [rot_length]; omega
    have hval : l[((((i + 64 - n) % 64 : Nat) : Int)).toNat]'(by rw [Int.toNat_natCast]; exact hjl) = (rot n l)[i] := by
      apply Option.some.inj
      rw [← List.getElem?_eq_getElem, ← List.getElem?_eq_getElem, Int.toNat_natCast]
      unfold rot
      have hdl : (l.drop (64 - n)).length = n := by rw [List.length_drop]; omega
      by_cases h1 : i < n
      · rw [List.getElem?_append_left (by omega), List.getElem?_drop, show (i + 64 - n) % 64 = 64 - n + i by omega]
      · rw [List.getElem?_append_right (by omega), List.getElem?_take_of_lt (by omega), show (i + 64 - n) % 64 = i - (l.drop (64 - n)).length by omega]
    have hstep : ints ((rot n l).take i) ++ [(((rot n l)[i] : Nat) : Int)] = ints ((rot n l).take (i + 1)) := by
      rw [List.take_succ_eq_append_getElem hi2]
      simp only [ints, List.map_append, List.map_cons, List.map_nil]
    rw [hval]
    rw [hstep]
    exact ih k (i + 1) (by omega) (by omega)
theorem rturn_f (k x : Nat) (m : Int) (n : Nat) (hk : 200 < k) (hx : x < 18446744073709551616) (_ : -9223372036854775808 ≤ m ∧ m < 9223372036854775808) (hn : m % 64 = n) : cortadoref01_Turn.f k x m = some (turn x n : Int) := by
  unfold cortadoref01_Turn.f
  rw [bits_f k x (by omega) hx]
  simp only [Option.bind_some]
  obtain ⟨k, rfl⟩ : ∃ m, k = m + 1 := ⟨k - 1, by omega⟩
  have := rturn_l (bitsN 64 x) (bin_bits 64 x) (bitsN_length 64 x) n (by omega) 64 k 0 (by omega) (by omega)
  have ht : Int.tmod m 64 = m % 64 - ((if 0 ≤ m ∨ (64 : Int) ∣ m then 0 else 64 : Nat) : Int) := by rw [Int.tmod_eq_emod]; rfl
  have hr : Int.tmod m 64 = n ∨ (Int.tmod m 64 < 0 ∧ Int.tmod m 64 + 64 = n) := by
    rw [ht]; split <;> omega
  by_cases h : Int.tmod m 64 < 0
  · rw [if_pos h]
    simp only [cortadoref01_Turn.j0]
    rw [show wrap64 (Int.tmod m 64 + 64) = n by unfold wrap64; omega]
    exact this
  · rw [if_neg h]
    simp only [cortadoref01_Turn.j0]
    rw [show Int.tmod m 64 = n by omega]
    exact this
theorem awake_f : cortadolaw01_awake.f 300 = some true := by decide +kernel
end WordTurnsP
open WordTurnsP BitsL in
theorem WordTurns : cortadolaw01_WordTurns.Pure := by
  intro x m hx hm
  obtain ⟨x, rfl, hx'⟩ := u64_nat hx
  have hm' := i64_wf hm
  obtain ⟨n, hn⟩ : ∃ n : Nat, m % 64 = n := ⟨(m % 64).toNat, by omega⟩
  refine ⟨300, ?_⟩
  unfold cortadolaw01_WordTurns.f
  rw [turn_f x m n hx' hn, rturn_f 300 x m n (by omega) hx' hm' hn]
  simp only [Option.bind_some, if_true]
  have hneg : wrap64 (-m) % 64 = (((64 - n) % 64 : Nat) : Int) := by unfold wrap64; omega
  rw [turn_f (turn x n) _ _ (turn_lt x n) hneg, turn_back x n _ (by omega) rfl hx']
  simp only [Option.bind_some, if_true]
  rw [ones_f 300 _ (by omega) (turn_lt x n), ones_f 300 x (by omega) hx', pc_turn, awake_f]
  simp

end Go.Proofs.Ytjmlahdnbedkcaa.Pure
