/- The upper half of any product is the document's, whichever factor comes first, and how many bits of any word are 1; no condition. -/
import Derived.Test.YtjmlahdnbedkcaaHWordProductsx1
import Derived.Test.YtjmlahdnbedkcaaWd
namespace Go.Proofs.Ytjmlahdnbedkcaa.Pure
open Go.RowKit Go.Proofs.Ytjmlahdnbedkcaa.HWordProducts Go.Proofs.YtjmlahdnbedkcaaW.PrintWords Go.Proofs.YtjmlahdnbedkcaaW.PrintLast Go.Proofs.YtjmlahdnbedkcaaW.PrintMore Go.Proofs.Ytjmlahdnbedkcaa.Wd
namespace BitsL
/-- The bits of a number, the lowest one first. -/
def bitsN : Nat → Nat → List Nat
  | 0, _ => []
  | m + 1, n => n % 2 :: bitsN m (n / 2)
def natOf : List Nat → Nat
  | [] => 0
  | b :: t => b + 2 * natOf t
theorem bitsN_length (m : Nat) : ∀ n, (bitsN m n).length = m := by
  induction m with
  | zero => intro n; rfl
  | succ m ih => intro n; simp [bitsN, ih]
theorem natOf_bits (m : Nat) : ∀ n, n < 2 ^ m → natOf (bitsN m n) = n := by
  induction m with
  | zero => intro n h; simp only [Nat.pow_zero] at h; simp only [bitsN, natOf]; omega
  | succ m ih =>
    intro n h
    simp only [bitsN, natOf]
    rw [ih (n / 2) (by rw [Nat.pow_succ] at h; omega)]
    omega
def Bin (l : List Nat) : Prop := ∀ b ∈ l, b < 2
theorem bin_bits (m : Nat) : ∀ n, Bin (bitsN m n) := by
  induction m with
  | zero => intro n b hb; simp [bitsN] at hb
  | succ m ih =>
    intro n b hb
    simp only [bitsN, List.mem_cons] at hb
    rcases hb with rfl | hb
    · omega
    · exact ih _ b hb
theorem natOf_lt (l : List Nat) (h : Bin l) : natOf l < 2 ^ l.length := by
  induction l with
  | nil => simp [natOf]
  | cons b t ih =>
    have h1 := ih (fun x hx => h x (List.mem_cons_of_mem _ hx))
    have h2 := h b (by simp)
    simp only [natOf, List.length_cons, Nat.pow_succ]
    omega
theorem natOf_append (l r : List Nat) : natOf (l ++ r) = natOf l + 2 ^ l.length * natOf r := by
  induction l with
  | nil => simp [natOf]
  | cons b t ih =>
    simp only [List.cons_append, natOf, ih, List.length_cons, Nat.pow_succ]
    rw [Nat.mul_add, ← Nat.mul_assoc, Nat.mul_comm 2 (2 ^ t.length)]
    omega
def ints (l : List Nat) : List Int := l.map fun (b : Nat) => (b : Int)
theorem ints_length (l : List Nat) : (ints l).length = l.length := by simp [ints]
theorem rd_ints (l : List Nat) (i : Int) (h : i.toNat < l.length) : rd (ints l) i = (l[i.toNat] : Int) := by
  simp [rd, ints, List.getD_eq_getElem?_getD, h]
theorem pow64 : (2 : Nat) ^ 64 = 18446744073709551616 := rfl

theorem bits_l (d : Nat) : ∀ (k n : Nat) (pre : List Int) (i : Int), 0 ≤ i → i ≤ 64 → 64 - i = d → d < k → pre.length ≤ i → n < 18446744073709551616 →
    cortadoref01_Bits.l0 k n pre i = some (pre ++ ints (bitsN d n)) := by
  induction d with
  | zero =>
    intro k n pre i h0 h1 hd hk _ _
    obtain ⟨k, rfl⟩ : ∃ m, k = m + 1 := ⟨k - 1, by omega⟩
    simp only [cortadoref01_Bits.l0]
    rw [if_neg (by omega)]; simp [bitsN, ints]
  | succ d ih =>
    intro k n pre i h0 h1 hd hk hp hn
    obtain ⟨k, rfl⟩ : ∃ m, k = m + 1 := ⟨k - 1, by omega⟩
    simp only [cortadoref01_Bits.l0]
    have e1 : Int.tdiv (n : Int) 2 = ((n / 2 : Nat) : Int) := by rw [Int.tdiv_eq_ediv_of_nonneg (by omega)]; omega
    have e2 : Int.tmod (n : Int) 2 = ((n % 2 : Nat) : Int) := by rw [Int.tmod_eq_emod_of_nonneg (by omega)]; omega
    have hw : wrap64 (i + 1) = i + 1 := by unfold wrap64; omega
    rw [if_pos (by omega), if_pos (by omega), e1, e2, hw, wrap_u64_id (by omega) (by omega)]
    rw [ih k (n / 2) (pre ++ [((n % 2 : Nat) : Int)]) (i + 1) (by omega) (by omega) (by omega) (by omega) (by simp; omega) (by omega)]
    simp [bitsN, ints]
theorem bits_f (k n : Nat) (hk : 64 < k) (hn : n < 18446744073709551616) : cortadoref01_Bits.f k n = some (ints (bitsN 64 n)) := by
  unfold cortadoref01_Bits.f
  rw [bits_l 64 k n [] 0 (by omega) (by omega) (by omega) hk (by simp) hn]; rfl
/-- The highest place. -/
theorem log_l (d : Nat) : ∀ (k n : Nat) (c : Int), n < 2 ^ d → 0 ≤ c + 1 → c + d < 1000 → d < k →
    word_Log.l0 k n c = some (if n = 0 then c else c + 1 + Nat.log2 n) := by
  induction d with
  | zero =>
    intro k n c hn hc _ hk
    obtain ⟨k, rfl⟩ : ∃ m, k = m + 1 := ⟨k - 1, by omega⟩
    simp only [word_Log.l0]
    have : n = 0 := by simpa using hn
    rw [if_pos (by omega), if_pos this]
  | succ d ih =>
    intro k n c hn hc hcd hk
    obtain ⟨k, rfl⟩ : ∃ m, k = m + 1 := ⟨k - 1, by omega⟩
    simp only [word_Log.l0]
    by_cases h : n = 0
    · rw [if_pos (by omega), if_pos h]
    · rw [if_neg (by omega), if_neg h]
      have hw : wrap64 (c + 1) = c + 1 := by unfold wrap64; omega
      have he : (n : Int) / 2 = ((n / 2 : Nat) : Int) := by omega
      rw [hw, he, ih k (n / 2) (c + 1) (by rw [Nat.pow_succ] at hn; omega) (by omega) (by omega) (by omega)]
      conv => rhs; rw [Nat.log2_def]
      by_cases h2 : n / 2 = 0
      · rw [if_pos h2, if_neg (by omega)]; simp
      · rw [if_neg h2, if_pos (by omega)]; congr 1; omega
def lg (n : Nat) : Int := if n = 0 then -1 else Nat.log2 n
theorem log_f (k n : Nat) (hk : 64 < k) (hn : n < 18446744073709551616) : word_Log.f k n = some (lg n) := by
  unfold word_Log.f lg
  rw [log_l 64 k n (-1) (by rw [pow64]; exact hn) (by omega) (by omega) hk]
  split
  · rfl
  · congr 1; omega
theorem N_and {a b : Nat} (ha : a < 18446744073709551616) (hb : b < 18446744073709551616) : Go.bits .and .u64 (a : Int) (b : Int) = ((a &&& b : Nat) : Int) := by
  rw [U_lit a ha, U_lit b hb, U_and]
  unfold U
  rw [BitVec.toNat_and, BitVec.toNat_ofNat, BitVec.toNat_ofNat, Nat.mod_eq_of_lt (by rw [pow64]; exact ha), Nat.mod_eq_of_lt (by rw [pow64]; exact hb)]
theorem N_or {a b : Nat} (ha : a < 18446744073709551616) (hb : b < 18446744073709551616) : Go.bits .or .u64 (a : Int) (b : Int) = ((a ||| b : Nat) : Int) := by
  rw [U_lit a ha, U_lit b hb, U_or]
  unfold U
  rw [BitVec.toNat_or, BitVec.toNat_ofNat, BitVec.toNat_ofNat, Nat.mod_eq_of_lt (by rw [pow64]; exact ha), Nat.mod_eq_of_lt (by rw [pow64]; exact hb)]
theorem u64_nat {x : Int} (h : (Lit.int .u64 x).wf = true) : ∃ n : Nat, x = n ∧ n < 18446744073709551616 := by
  have := u64_wf h
  exact ⟨x.toNat, by omega, by omega⟩
theorem shl1 {e : Nat} (h : e < 64) : shl .u64 1 (e : Int) = ((2 ^ e : Nat) : Int) := by
  unfold shl
  simp only [IntKind.bits]
  have h1 : 2 ^ e ≤ 2 ^ 63 := Nat.pow_le_pow_right (by omega) (by omega)
  rw [Int.toNat_natCast, Nat.min_eq_left (by omega), Int.one_mul, wrap_u64]
  have e1 : (2 : Int) ^ e = ((2 ^ e : Nat) : Int) := by rw [Int.natCast_pow]; rfl
  rw [e1]
  have : (2 : Nat) ^ 63 = 9223372036854775808 := rfl
  rw [this] at h1
  generalize 2 ^ e = p at h1
  omega
end BitsL
namespace WordProductsP
open BitsL
theorem bits_get (m : Nat) : ∀ (n i : Nat) (h : i < (bitsN m n).length), (bitsN m n)[i] = n / 2 ^ i % 2 := by
  induction m with
  | zero => intro n i h; simp [bitsN] at h
  | succ m ih =>
    intro n i h
    cases i with
    | zero => simp [bitsN]
    | succ i =>
      simp only [bitsN, List.getElem_cons_succ]
      rw [ih, Nat.div_div_eq_div_mul, Nat.pow_succ, Nat.mul_comm 2]
def pc (x : Nat) : Nat := (bitsN 64 x).sum
theorem sum_and (m : Nat) : ∀ x, x ≠ 0 → x < 2 ^ m → (bitsN m (x &&& (x - 1))).sum + 1 = (bitsN m x).sum := by
  induction m with
  | zero => intro x h0 h; simp only [Nat.pow_zero] at h; omega
  | succ m ih =>
    intro x h0 h
    simp only [bitsN, List.sum_cons]
    rw [Nat.pow_succ] at h
    have hd : (x &&& (x - 1)) / 2 = (x / 2) &&& ((x - 1) / 2) := Nat.and_div_two
    have hm : (x &&& (x - 1)) % 2 = 0 := by
      rcases Nat.mod_two_eq_zero_or_one (x &&& (x - 1)) with h | h
      · exact h
      · have := Nat.and_mod_two_eq_one.1 h; omega
    rw [hd, hm]
    by_cases h2 : x % 2 = 1
    · rw [show (x - 1) / 2 = x / 2 by omega, Nat.and_self]; omega
    · rw [show (x - 1) / 2 = x / 2 - 1 by omega]
      have := ih (x / 2) (by omega) (by omega)
      omega
theorem sum_le (m : Nat) : ∀ x, (bitsN m x).sum ≤ m := by
  induction m with
  | zero => intro x; simp [bitsN]
  | succ m ih => intro x; simp only [bitsN, List.sum_cons]; have := ih (x / 2); omega
theorem ones_l (d : Nat) : ∀ (k x : Nat) (c : Int), pc x = d → 0 ≤ c → c + d < 1000 → d < k → x < 18446744073709551616 →
    word_Ones.l0 k x c = some (c + d) := by
  induction d with
  | zero =>
    intro k x c hp _ _ hk hx
    obtain ⟨k, rfl⟩ : ∃ m, k = m + 1 := ⟨k - 1, by omega⟩
    simp only [word_Ones.l0]
    by_cases h : x = 0
    · rw [if_pos (by omega)]; simp
    · have := sum_and 64 x h (by rw [pow64]; exact hx)
      unfold pc at hp
      omega
  | succ d ih =>
    intro k x c hp hc hcd hk hx
    obtain ⟨k, rfl⟩ : ∃ m, k = m + 1 := ⟨k - 1, by omega⟩
    simp only [word_Ones.l0]
    by_cases h : x = 0
    · subst h
      have hz : pc 0 = 0 := by decide
      omega
    · have hs := sum_and 64 x h (by rw [pow64]; exact hx)
      have hw : wrap64 (c + 1) = c + 1 := by unfold wrap64; omega
      have e : IntKind.u64.wrap ((x : Int) - 1) = ((x - 1 : Nat) : Int) := by rw [wrap_u64]; omega
      have hle : x &&& (x - 1) ≤ x := Nat.and_le_left
      rw [if_neg (by omega), hw, e, N_and hx (by omega), ih k (x &&& (x - 1)) (c + 1) (by unfold pc at hp ⊢; omega) (by omega) (by omega) (by omega) (by omega)]
      exact congrArg some (by omega)
theorem ones_f (k x : Nat) (hk : 64 < k) (hx : x < 18446744073709551616) : word_Ones.f k x = some (pc x : Int) := by
  unfold word_Ones.f
  have hl := sum_le 64 x
  have := ones_l (pc x) k x 0 rfl (by omega) (by unfold pc; omega) (by unfold pc; omega) hx
  simpa using this
theorem rones_l (d : Nat) : ∀ (k n : Nat) (pre : List Nat) (c : Int) (i : Int), 0 ≤ i → i = pre.length → i + d < 1000 → 0 ≤ c → c + d < 1000 → d < k →
    cortadoref01_Ones.l0 k c (ints (pre ++ bitsN d n)) i = some (c + (bitsN d n).sum) := by
  induction d with
  | zero =>
    intro k n pre c i h0 h1 _ _ _ hk
    obtain ⟨k, rfl⟩ : ∃ m, k = m + 1 := ⟨k - 1, by omega⟩
    simp only [cortadoref01_Ones.l0]
    rw [if_neg (by rw [ints_length]; simp [bitsN]; omega)]; simp [bitsN]
  | succ d ih =>
    intro k n pre c i h0 h1 hid hc hcd hk
    obtain ⟨k, rfl⟩ : ∃ m, k = m + 1 := ⟨k - 1, by omega⟩
    simp only [cortadoref01_Ones.l0]
    have hlen : i.toNat < (pre ++ bitsN (d + 1) n).length := by rw [List.length_append, bitsN_length]; omega
    rw [if_pos (by rw [ints_length]; omega), if_pos h0, rd_ints _ _ hlen]
    have hg : (pre ++ bitsN (d + 1) n)[i.toNat] = n % 2 := by
      rw [List.getElem_append_right (by omega)]
      simp [bitsN, show i.toNat - pre.length = 0 by omega]
    have hw : wrap64 (i + 1) = i + 1 := by unfold wrap64; omega
    have hw2 : wrap64 (c + 1) = c + 1 := by unfold wrap64; omega
    rw [hg, hw, hw2]
    have hs : pre ++ bitsN (d + 1) n = (pre ++ [n % 2]) ++ bitsN d (n / 2) := by simp [bitsN]
    rw [hs]
    simp only [bitsN, List.sum_cons]
    by_cases hb : n % 2 = 1
    · rw [if_pos (by omega), ih k (n / 2) _ (c + 1) (i + 1) (by omega) (by simp; omega) (by omega) (by omega) (by omega) (by omega)]
      exact congrArg some (by omega)
    · rw [if_neg (by omega), ih k (n / 2) _ c (i + 1) (by omega) (by simp; omega) (by omega) (by omega) (by omega) (by omega)]
      exact congrArg some (by omega)
theorem rones_f (k n : Nat) (hk : 64 < k) (hn : n < 18446744073709551616) : cortadoref01_Ones.f k n = some (pc n : Int) := by
  unfold cortadoref01_Ones.f pc
  rw [bits_f k n hk hn]
  simp only [Option.bind_some]
  have := rones_l 64 k n [] 0 0 (by omega) (by simp) (by omega) (by omega) (by omega) hk
  simpa using this
theorem high_step (a P v bit hi lo : Nat) (ha : a < 18446744073709551616) (hP : P = a * v) (hv : 2 * v + bit < 18446744073709551616) (hb : bit < 2) (h1 : hi = P / 18446744073709551616) (h2 : lo = P % 18446744073709551616) :
    a * (2 * v + bit) = 2 * P + (if bit = 1 then a else 0) ∧ IntKind.u64.wrap ((IntKind.u64.wrap (2 * (hi : Int))) + (IntKind.u64.wrap (Int.tdiv (lo : Int) 9223372036854775808))) = ((2 * P / 18446744073709551616 : Nat) : Int)
    ∧ IntKind.u64.wrap (2 * (lo : Int)) = ((2 * P % 18446744073709551616 : Nat) : Int) ∧ 2 * P + (if bit = 1 then a else 0) < 340282366920938463463374607431768211456 := by
  have e : a * (2 * v + bit) = 2 * P + (if bit = 1 then a else 0) := by
    rw [Nat.mul_add, hP, Nat.mul_left_comm]
    congr 1
    split
    · rename_i h; rw [h, Nat.mul_one]
    · rw [show bit = 0 by omega, Nat.mul_zero]
  have hlt : a * (2 * v + bit) < 340282366920938463463374607431768211456 := by
    refine Nat.lt_of_le_of_lt (Nat.mul_le_mul (show a ≤ 18446744073709551615 by omega) (show 2 * v + bit ≤ 18446744073709551615 by omega)) (by decide)
  rw [e] at hlt
  refine ⟨e, ?_, ?_, hlt⟩
  · have h2P : 2 * P < 340282366920938463463374607431768211456 := by omega
    rw [wrap_u64, wrap_u64, wrap_u64, Int.tdiv_eq_ediv_of_nonneg (by omega)]
    omega
  · rw [wrap_u64]; omega
theorem rhigh_l (a b : Nat) (ha : a < 18446744073709551616) (hb : b < 18446744073709551616) (d : Nat) : ∀ (k : Nat) (hi lo : Nat), d ≤ 64 → hi = a * (b / 2 ^ d) / 18446744073709551616 → lo = a * (b / 2 ^ d) % 18446744073709551616 → d < k →
    cortadoref01_High.l0 k a (ints (bitsN 64 b)) hi lo ((d : Int) - 1) = some ((a * b / 18446744073709551616 : Nat) : Int) := by
  induction d with
  | zero =>
    intro k hi lo _ h1 h2 hk
    obtain ⟨k, rfl⟩ : ∃ m, k = m + 1 := ⟨k - 1, by omega⟩
    simp only [cortadoref01_High.l0]
    rw [if_neg (by omega), h1, Nat.pow_zero, Nat.div_one]
  | succ d ih =>
    intro k hi lo hd h1 h2 hk
    obtain ⟨k, rfl⟩ : ∃ m, k = m + 1 := ⟨k - 1, by omega⟩
    simp only [cortadoref01_High.l0]
    rw [show ((d + 1 : Nat) : Int) - 1 = (d : Int) by omega]
    have hw : wrap64 ((d : Int) - 1) = (d : Int) - 1 := by unfold wrap64; omega
    have hlen : (d : Int).toNat < (bitsN 64 b).length := by rw [bitsN_length]; omega
    rw [if_pos (by omega), if_pos (by omega), if_pos (by rw [ints_length, bitsN_length]; omega), rd_ints _ _ hlen, bits_get, hw]
    rw [Int.toNat_natCast]
    obtain ⟨v, hv⟩ : ∃ v, b / 2 ^ (d + 1) = v := ⟨_, rfl⟩
    have hv2 : b / 2 ^ d = 2 * v + b / 2 ^ d % 2 := by
      rw [← hv, Nat.pow_succ, ← Nat.div_div_eq_div_mul]; omega
    have hle : b / 2 ^ d ≤ b := Nat.div_le_self _ _
    have hb2 : b / 2 ^ d % 2 < 2 := Nat.mod_lt _ (by omega)
    generalize b / 2 ^ d % 2 = bit at hv2 hb2
    rw [hv] at h1 h2
    rw [hv2] at ih hle
    obtain ⟨e1, e2, e3, e4⟩ := high_step a (a * v) v bit hi lo ha rfl (by omega) hb2 h1 h2
    rw [e2, e3]
    generalize a * v = P at *
    rw [e1] at ih
    by_cases hbb : bit = 1
    · rw [if_pos (by omega)]
      rw [if_pos hbb] at ih e4
      by_cases hc : IntKind.u64.wrap (((2 * P % 18446744073709551616 : Nat) : Int) + (a : Int)) < ((2 * P % 18446744073709551616 : Nat) : Int)
      · rw [if_pos hc]
        rw [wrap_u64] at hc ⊢
        rw [wrap_u64]
        have := ih k ((2 * P + a) / 18446744073709551616) ((2 * P + a) % 18446744073709551616) (by omega) rfl rfl (by omega)
        rw [← this]
        congr 1 <;> omega
      · rw [if_neg hc]
        rw [wrap_u64] at hc ⊢
        have := ih k ((2 * P + a) / 18446744073709551616) ((2 * P + a) % 18446744073709551616) (by omega) rfl rfl (by omega)
        rw [← this]
        congr 1 <;> omega
    · rw [if_neg (by omega)]
      rw [if_neg hbb] at ih e4
      exact ih k _ _ (by omega) (by simp) (by simp) (by omega)
theorem rhigh_f (k a b : Nat) (hk : 64 < k) (ha : a < 18446744073709551616) (hb : b < 18446744073709551616) : cortadoref01_High.f k a b = some ((a * b / 18446744073709551616 : Nat) : Int) := by
  unfold cortadoref01_High.f
  rw [bits_f k b hk hb]
  simp only [Option.bind_some]
  have hz : b / 2 ^ 64 = 0 := Nat.div_eq_of_lt (by rw [pow64]; exact hb)
  exact rhigh_l a b ha hb 64 k 0 0 (by omega) (by rw [hz]; simp) (by rw [hz]; simp) (by omega)
theorem awake_f : cortadolaw01_awake.f 300 = some true := by decide +kernel
theorem high_nat (a b : Nat) : (let a0 := a % 4294967296; let a1 := a / 4294967296; let b0 := b % 4294967296; let b1 := b / 4294967296;
    a1 * b1 + (a1 * b0 + a0 * b0 / 4294967296) / 4294967296 + (a0 * b1 + (a1 * b0 + a0 * b0 / 4294967296) % 4294967296) / 4294967296) = a * b / 18446744073709551616 := by
  obtain ⟨a0, h0⟩ : ∃ x, a % 4294967296 = x := ⟨_, rfl⟩
  obtain ⟨a1, h1⟩ : ∃ x, a / 4294967296 = x := ⟨_, rfl⟩
  obtain ⟨b0, h2⟩ : ∃ x, b % 4294967296 = x := ⟨_, rfl⟩
  obtain ⟨b1, h3⟩ : ∃ x, b / 4294967296 = x := ⟨_, rfl⟩
  simp only [h0, h1, h2, h3]
  have ea : a = a1 * 4294967296 + a0 := by omega
  have eb : b = b1 * 4294967296 + b0 := by omega
  have e : a * b = a1 * b1 * 18446744073709551616 + a1 * b0 * 4294967296 + a0 * b1 * 4294967296 + a0 * b0 := by
    rw [ea, eb]; grind
  rw [e]
  generalize a1 * b1 = p; generalize a1 * b0 = q; generalize a0 * b1 = r; generalize a0 * b0 = s
  omega
theorem and_low {a : Nat} (ha : a < 18446744073709551616) : Go.bits .and .u64 (a : Int) 4294967295 = ((a % 4294967296 : Nat) : Int) := by
  have := N_and ha (show 4294967295 < 18446744073709551616 by omega)
  rw [show a &&& 4294967295 = a % 4294967296 from Nat.and_two_pow_sub_one_eq_mod a 32] at this
  exact this
theorem mul_le {a b : Nat} (ha : a < 4294967296) (hb : b < 4294967296) : a * b ≤ 18446744065119617025 :=
  Nat.mul_le_mul (show a ≤ 4294967295 by omega) (show b ≤ 4294967295 by omega)
theorem high_f (a b : Nat) (ha : a < 18446744073709551616) (hb : b < 18446744073709551616) : word_High.f a b = some ((a * b / 18446744073709551616 : Nat) : Int) := by
  unfold word_High.f
  have hn := high_nat a b
  simp only at hn
  obtain ⟨x0, hx0⟩ : ∃ x, a % 4294967296 = x := ⟨_, rfl⟩
  obtain ⟨x1, hx1⟩ : ∃ x, a / 4294967296 = x := ⟨_, rfl⟩
  obtain ⟨y0, hy0⟩ : ∃ x, b % 4294967296 = x := ⟨_, rfl⟩
  obtain ⟨y1, hy1⟩ : ∃ x, b / 4294967296 = x := ⟨_, rfl⟩
  have d1 : (a : Int) / 4294967296 = (x1 : Int) := by omega
  have d2 : (b : Int) / 4294967296 = (y1 : Int) := by omega
  rw [and_low ha, and_low hb, d1, d2, hx0, hy0]
  rw [hx0, hx1, hy0, hy1] at hn
  rw [← hn]
  have m1 := mul_le (show x0 < 4294967296 by omega) (show y0 < 4294967296 by omega)
  have m2 := mul_le (show x1 < 4294967296 by omega) (show y0 < 4294967296 by omega)
  have m3 := mul_le (show x0 < 4294967296 by omega) (show y1 < 4294967296 by omega)
  have m4 := mul_le (show x1 < 4294967296 by omega) (show y1 < 4294967296 by omega)
  rw [← Int.natCast_mul, ← Int.natCast_mul, ← Int.natCast_mul, ← Int.natCast_mul]
  generalize x0 * y0 = s at *
  generalize x1 * y0 = q at *
  generalize x0 * y1 = r at *
  generalize x1 * y1 = p at *
  have w1 : IntKind.u64.wrap (s : Int) = s := wrap_u64_id (by omega) (by omega)
  have w2 : IntKind.u64.wrap (q : Int) = q := wrap_u64_id (by omega) (by omega)
  have w3 : IntKind.u64.wrap (r : Int) = r := wrap_u64_id (by omega) (by omega)
  have w4 : IntKind.u64.wrap (p : Int) = p := wrap_u64_id (by omega) (by omega)
  rw [w1, w1, w1, w2, w2, w3, w4]
  have t2 : IntKind.u64.wrap ((q : Int) + (s : Int) / 4294967296) = ((q + s / 4294967296 : Nat) : Int) := by
    rw [wrap_u64_id (by omega) (by omega)]; omega
  rw [t2, and_low (by omega)]
  have t3 : IntKind.u64.wrap ((r : Int) + (((q + s / 4294967296) % 4294967296 : Nat) : Int)) = ((r + (q + s / 4294967296) % 4294967296 : Nat) : Int) := by
    rw [wrap_u64_id (by omega) (by omega)]; omega
  rw [t3, wrap_u64_id (x := ((r + (q + s / 4294967296) % 4294967296 : Nat) : Int)) (by omega) (by omega)]
  have t4 : IntKind.u64.wrap ((p : Int) + ((q + s / 4294967296 : Nat) : Int) / 4294967296) = ((p + (q + s / 4294967296) / 4294967296 : Nat) : Int) := by
    rw [wrap_u64_id (by omega) (by omega)]; omega
  rw [t4, wrap_u64_id (by omega) (by omega)]
  exact congrArg some (by omega)
end WordProductsP
open WordProductsP BitsL in
theorem WordProducts : cortadolaw01_WordProducts.Pure := by
  intro a b ha hb
  obtain ⟨a, rfl, ha'⟩ := u64_nat ha
  obtain ⟨b, rfl, hb'⟩ := u64_nat hb
  refine ⟨300, ?_⟩
  unfold cortadolaw01_WordProducts.f
  rw [high_f a b ha' hb', high_f b a hb' ha', rhigh_f 300 a b (by omega) ha' hb', ones_f 300 a (by omega) ha', rones_f 300 a (by omega) ha', awake_f, Nat.mul_comm b a]
  simp

end Go.Proofs.Ytjmlahdnbedkcaa.Pure
