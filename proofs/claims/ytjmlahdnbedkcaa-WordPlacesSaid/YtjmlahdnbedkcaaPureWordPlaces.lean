/- The highest place of any word, the power above any number, and the lowest bits of any word are the document's; no condition. -/
import Derived.Test.YtjmlahdnbedkcaaPWordPlacesx2
import Derived.Test.YtjmlahdnbedkcaaWd
namespace Go.Proofs.Ytjmlahdnbedkcaa.Pure
open Go.RowKit Go.Proofs.Ytjmlahdnbedkcaa.PWordPlaces Go.Proofs.YtjmlahdnbedkcaaW.PrintWords Go.Proofs.YtjmlahdnbedkcaaW.PrintLast Go.Proofs.YtjmlahdnbedkcaaW.PrintMore Go.Proofs.Ytjmlahdnbedkcaa.Wd
namespace BitsL
/-- The bits of a number, the lowest one first. -/
def bitsN : Nat → Nat → List Nat
  | 0, _ => []
  | m + 1, n => n % 2 :: bitsN m (n / 2)
def natOf : List Nat → Nat
  | [] => 0
  | b :: t => b + 2 * natOf t
theorem bitsN_length (m : Nat) : ∀ n, (bitsN m n).length = m := by
  induction m with
  | zero => intro n; rfl
  | succ m ih => intro n; simp [bitsN, ih]
theorem natOf_bits (m : Nat) : ∀ n, n < 2 ^ m → natOf (bitsN m n) = n := by
  induction m with
  | zero => intro n h; simp only [Nat.pow_zero] at h; simp only [bitsN, natOf]; omega
  | succ m ih =>
    intro n h
    simp only [bitsN, natOf]
    rw [ih (n / 2) (by rw [Nat.pow_succ] at h; omega)]
    omega
def Bin (l : List Nat) : Prop := ∀ b ∈ l, b < 2
theorem bin_bits (m : Nat) : ∀ n, Bin (bitsN m n) := by
  induction m with
  | zero => intro n b hb; simp [bitsN] at hb
  | succ m ih =>
    intro n b hb
    simp only [bitsN, List.mem_cons] at hb
    rcases hb with rfl | hb
    · omega
    · exact ih _ b hb
theorem natOf_lt (l : List Nat) (h : Bin l) : natOf l < 2 ^ l.length := by
  induction l with
  | nil => simp [natOf]
  | cons b t ih =>
    have h1 := ih (fun x hx => h x (List.mem_cons_of_mem _ hx))
    have h2 := h b (by simp)
    simp only [natOf, List.length_cons, Nat.pow_succ]
    omega
theorem natOf_append (l r : List Nat) : natOf (l ++ r) = natOf l + 2 ^ l.length * natOf r := by
  induction l with
  | nil => simp [natOf]
  | cons b t ih =>
    simp only [List.cons_append, natOf, ih, List.length_cons, Nat.pow_succ]
    rw [Nat.mul_add, ← Nat.mul_assoc, Nat.mul_comm 2 (2 ^ t.length)]
    omega
def ints (l : List Nat) : List Int := l.map fun (b : Nat) => (b : Int)
theorem ints_length (l : List Nat) : (ints l).length = l.length := by simp [ints]
theorem rd_ints (l : List Nat) (i : Int) (h : i.toNat < l.length) : rd (ints l) i = (l[i.toNat] : Int) := by
  simp [rd, ints, List.getD_eq_getElem?_getD, h]
theorem pow64 : (2 : Nat) ^ 64 = 18446744073709551616 := rfl

theorem bits_l (d : Nat) : ∀ (k n : Nat) (pre : List Int) (i : Int), 0 ≤ i → i ≤ 64 → 64 - i = d → d < k → pre.length ≤ i → n < 18446744073709551616 →
    cortadoref01_Bits.l0 k n pre i = some (pre ++ ints (bitsN d n)) := by
  induction d with
  | zero =>
    intro k n pre i h0 h1 hd hk _ _
    obtain ⟨k, rfl⟩ : ∃ m, k = m + 1 := ⟨k - 1, by omega⟩
    simp only [cortadoref01_Bits.l0]
    rw [if_neg (by omega)]; simp [bitsN, ints]
  | succ d ih =>
    intro k n pre i h0 h1 hd hk hp hn
    obtain ⟨k, rfl⟩ : ∃ m, k = m + 1 := ⟨k - 1, by omega⟩
    simp only [cortadoref01_Bits.l0]
    have e1 : Int.tdiv (n : Int) 2 = ((n / 2 : Nat) : Int) := by rw [Int.tdiv_eq_ediv_of_nonneg (by omega)]; omega
    have e2 : Int.tmod (n : Int) 2 = ((n % 2 : Nat) : Int) := by rw [Int.tmod_eq_emod_of_nonneg (by omega)]; omega
    have hw : wrap64 (i + 1) = i + 1 := by unfold wrap64; omega
    rw [if_pos (by omega), if_pos (by omega), e1, e2, hw, wrap_u64_id (by omega) (by omega)]
    rw [ih k (n / 2) (pre ++ [((n % 2 : Nat) : Int)]) (i + 1) (by omega) (by omega) (by omega) (by omega) (by simp; omega) (by omega)]
    simp [bitsN, ints]
theorem bits_f (k n : Nat) (hk : 64 < k) (hn : n < 18446744073709551616) : cortadoref01_Bits.f k n = some (ints (bitsN 64 n)) := by
  unfold cortadoref01_Bits.f
  rw [bits_l 64 k n [] 0 (by omega) (by omega) (by omega) hk (by simp) hn]; rfl
/-- The highest place. -/
theorem log_l (d : Nat) : ∀ (k n : Nat) (c : Int), n < 2 ^ d → 0 ≤ c + 1 → c + d < 1000 → d < k →
    word_Log.l0 k n c = some (if n = 0 then c else c + 1 + Nat.log2 n) := by
  induction d with
  | zero =>
    intro k n c hn hc _ hk
    obtain ⟨k, rfl⟩ : ∃ m, k = m + 1 := ⟨k - 1, by omega⟩
    simp only [word_Log.l0]
    have : n = 0 := by simpa using hn
    rw [if_pos (by omega), if_pos this]
  | succ d ih =>
    intro k n c hn hc hcd hk
    obtain ⟨k, rfl⟩ : ∃ m, k = m + 1 := ⟨k - 1, by omega⟩
    simp only [word_Log.l0]
    by_cases h : n = 0
    · rw [if_pos (by omega), if_pos h]
    · rw [if_neg (by omega), if_neg h]
      have hw : wrap64 (c + 1) = c + 1 := by unfold wrap64; omega
      have he : (n : Int) / 2 = ((n / 2 : Nat) : Int) := by omega
      rw [hw, he, ih k (n / 2) (c + 1) (by rw [Nat.pow_succ] at hn; omega) (by omega) (by omega) (by omega)]
      conv => rhs; rw [Nat.log2_def]
      by_cases h2 : n / 2 = 0
      · rw [if_pos h2, if_neg (by omega)]; simp
      · rw [if_neg h2, if_pos (by omega)]; congr 1; omega
def lg (n : Nat) : Int := if n = 0 then -1 else Nat.log2 n
theorem log_f (k n : Nat) (hk : 64 < k) (hn : n < 18446744073709551616) : word_Log.f k n = some (lg n) := by
  unfold word_Log.f lg
  rw [log_l 64 k n (-1) (by rw [pow64]; exact hn) (by omega) (by omega) hk]
  split
  · rfl
  · congr 1; omega
theorem N_and {a b : Nat} (ha : a < 18446744073709551616) (hb : b < 18446744073709551616) : Go.bits .and .u64 (a : Int) (b : Int) = ((a &&& b : Nat) : Int) := by
  rw [U_lit a ha, U_lit b hb, U_and]
  unfold U
  rw [BitVec.toNat_and, BitVec.toNat_ofNat, BitVec.toNat_ofNat, Nat.mod_eq_of_lt (by rw [pow64]; exact ha), Nat.mod_eq_of_lt (by rw [pow64]; exact hb)]
theorem N_or {a b : Nat} (ha : a < 18446744073709551616) (hb : b < 18446744073709551616) : Go.bits .or .u64 (a : Int) (b : Int) = ((a ||| b : Nat) : Int) := by
  rw [U_lit a ha, U_lit b hb, U_or]
  unfold U
  rw [BitVec.toNat_or, BitVec.toNat_ofNat, BitVec.toNat_ofNat, Nat.mod_eq_of_lt (by rw [pow64]; exact ha), Nat.mod_eq_of_lt (by rw [pow64]; exact hb)]
theorem u64_nat {x : Int} (h : (Lit.int .u64 x).wf = true) : ∃ n : Nat, x = n ∧ n < 18446744073709551616 := by
  have := u64_wf h
  exact ⟨x.toNat, by omega, by omega⟩
theorem shl1 {e : Nat} (h : e < 64) : shl .u64 1 (e : Int) = ((2 ^ e : Nat) : Int) := by
  unfold shl
  simp only [IntKind.bits]
  have h1 : 2 ^ e ≤ 2 ^ 63 := Nat.pow_le_pow_right (by omega) (by omega)
  rw [Int.toNat_natCast, Nat.min_eq_left (by omega), Int.one_mul, wrap_u64]
  have e1 : (2 : Int) ^ e = ((2 ^ e : Nat) : Int) := by rw [Int.natCast_pow]; rfl
  rw [e1]
  have : (2 : Nat) ^ 63 = 9223372036854775808 := rfl
  rw [this] at h1
  generalize 2 ^ e = p at h1
  omega
end BitsL
namespace BitsL
theorem of_l (l : List Nat) (hb : Bin l) (hl : l.length ≤ 64) (d : Nat) : ∀ (k : Nat) (i : Int), i < l.length → i + 1 = d → d < k →
    cortadoref01_Of.l0 k (ints l) (natOf (l.drop d) : Nat) i = some ((natOf l : Nat) : Int) := by
  induction d with
  | zero =>
    intro k i h1 hd hk
    obtain ⟨k, rfl⟩ : ∃ m, k = m + 1 := ⟨k - 1, by omega⟩
    simp only [cortadoref01_Of.l0]
    rw [if_neg (by omega)]; simp
  | succ d ih =>
    intro k i h1 hd hk
    obtain ⟨k, rfl⟩ : ∃ m, k = m + 1 := ⟨k - 1, by omega⟩
    have hlt : d < l.length := by omega
    simp only [cortadoref01_Of.l0]
    rw [if_pos (by omega), if_pos (by omega), if_pos (by rw [ints_length]; omega), rd_ints _ _ (by omega)]
    have hw : wrap64 (i - 1) = i - 1 := by unfold wrap64; omega
    have hbd : Bin (l.drop d) := fun b hx => hb b (List.mem_of_mem_drop hx)
    have hlt2 := natOf_lt _ hbd
    have hle : 2 ^ (l.drop d).length ≤ 2 ^ 64 := Nat.pow_le_pow_right (by omega) (by rw [List.length_drop]; omega)
    rw [List.drop_eq_getElem_cons hlt] at hlt2 hle
    simp only [natOf] at hlt2
    rw [pow64] at hle
    have hi : i.toNat = d := by omega
    simp only [hi]
    have hlt3 := Nat.lt_of_lt_of_le hlt2 hle
    clear hlt2 hle
    generalize hN : natOf (l.drop (d + 1)) = N at hlt3
    generalize hB : l[d] = B at hlt3
    have e1 : IntKind.u64.wrap (2 * (N : Int)) = 2 * (N : Int) := wrap_u64_id (by omega) (by omega)
    have e2 : IntKind.u64.wrap (2 * (N : Int) + (B : Int)) = ((B + 2 * N : Nat) : Int) := by rw [wrap_u64_id (by omega) (by omega)]; omega
    rw [hw, e1, e2]
    have := ih k (i - 1) (by omega) (by omega) (by omega)
    rw [List.drop_eq_getElem_cons hlt] at this
    simp only [natOf] at this
    rw [hN, hB] at this
    exact this
theorem of_f (k : Nat) (l : List Nat) (hb : Bin l) (hl : l.length ≤ 64) (hk : 64 < k) : cortadoref01_Of.f k (ints l) = some ((natOf l : Nat) : Int) := by
  unfold cortadoref01_Of.f
  have hw : wrap64 (((ints l).length : Int) - 1) = (l.length : Int) - 1 := by rw [ints_length]; unfold wrap64; omega
  rw [hw]
  have := of_l l hb hl l.length k (l.length - 1) (by omega) (by omega) (by omega)
  rw [List.drop_length] at this
  exact this
end BitsL
namespace WordPlacesP
open BitsL
theorem rlog_l (d : Nat) : ∀ (k n : Nat) (pre : List Nat) (c : Int) (i : Int), 0 ≤ i → i = pre.length → i + d < 1000 → d < k → n < 2 ^ d →
    cortadoref01_Log.l0 k c (ints (pre ++ bitsN d n)) i = some (if n = 0 then c else i + Nat.log2 n) := by
  induction d with
  | zero =>
    intro k n pre c i h0 h1 _ hk hn
    obtain ⟨k, rfl⟩ : ∃ m, k = m + 1 := ⟨k - 1, by omega⟩
    simp only [cortadoref01_Log.l0]
    have : n = 0 := by simpa using hn
    rw [if_neg (by rw [ints_length]; simp [bitsN]; omega), if_pos this]
  | succ d ih =>
    intro k n pre c i h0 h1 hid hk hn
    obtain ⟨k, rfl⟩ : ∃ m, k = m + 1 := ⟨k - 1, by omega⟩
    simp only [cortadoref01_Log.l0]
    have hlen : i.toNat < (pre ++ bitsN (d + 1) n).length := by rw [List.length_append, bitsN_length]; omega
    rw [if_pos (by rw [ints_length]; omega), if_pos h0, rd_ints _ _ hlen]
    have hg : (pre ++ bitsN (d + 1) n)[i.toNat] = n % 2 := by
      rw [List.getElem_append_right (by omega)]
      simp [bitsN, show i.toNat - pre.length = 0 by omega]
    have hw : wrap64 (i + 1) = i + 1 := by unfold wrap64; omega
    rw [hg, hw]
    have hs : pre ++ bitsN (d + 1) n = (pre ++ [n % 2]) ++ bitsN d (n / 2) := by simp [bitsN]
    rw [hs]
    have hn2 : n / 2 < 2 ^ d := by rw [Nat.pow_succ] at hn; omega
    have hl2 : n ≠ 0 → Nat.log2 n = if 2 ≤ n then Nat.log2 (n / 2) + 1 else 0 := fun _ => Nat.log2_def n
    by_cases hb : n % 2 = 1
    · rw [if_pos (by omega), ih k (n / 2) _ i (i + 1) (by omega) (by simp; omega) (by omega) (by omega) hn2, if_neg (show ¬ n = 0 by omega), hl2 (by omega)]
      by_cases h2 : n / 2 = 0
      · rw [if_pos h2, if_neg (by omega)]; simp
      · rw [if_neg h2, if_pos (by omega)]; congr 1; omega
    · rw [if_neg (by omega), ih k (n / 2) _ c (i + 1) (by omega) (by simp; omega) (by omega) (by omega) hn2]
      by_cases h2 : n / 2 = 0
      · rw [if_pos h2, if_pos (by omega)]
      · rw [if_neg h2, if_neg (by omega), hl2 (by omega), if_pos (by omega)]; congr 1; omega
theorem rlog_f (k n : Nat) (hk : 64 < k) (hn : n < 18446744073709551616) : cortadoref01_Log.f k n = some (lg n) := by
  unfold cortadoref01_Log.f lg
  rw [bits_f k n hk hn]
  simp only [Option.bind_some]
  have := rlog_l 64 k n [] (-1) 0 (by omega) (by simp) (by omega) hk (by rw [pow64]; exact hn)
  rw [List.nil_append] at this
  rw [this]
  simp
/-- Which power stands above a number. -/
def up (n : Int) : Nat := (lg ((mx 1 (mn n 4611686018427387904)) - 1).toNat + 1).toNat
theorem up_is (n : Int) : lg ((mx 1 (mn n 4611686018427387904)) - 1).toNat + 1 = (up n : Int) ∧ up n ≤ 62 ∧ (∀ i : Nat, i < up n → ((2 ^ i : Nat) : Int) < n) ∧ (up n = 62 ∨ n ≤ ((2 ^ up n : Nat) : Int)) := by
  unfold up
  obtain ⟨m, hm⟩ : ∃ m : Nat, ((mx 1 (mn n 4611686018427387904)) - 1).toNat = m := ⟨_, rfl⟩
  rw [hm]
  have hb : (n ≤ 1 ∧ m = 0) ∨ (1 < n ∧ n ≤ 4611686018427387904 ∧ (m : Int) = n - 1) ∨ (4611686018427387904 < n ∧ m = 4611686018427387903) := by
    rw [← hm]; unfold mx mn; repeat' split
    all_goals omega
  by_cases h0 : m = 0
  · have : lg m = -1 := by unfold lg; rw [if_pos h0]
    rw [this]
    refine ⟨rfl, by omega, fun i hi => absurd hi (by simp), Or.inr ?_⟩
    simp
    omega
  · have e : lg m = (Nat.log2 m : Int) := by unfold lg; rw [if_neg h0]
    rw [e]
    have l1 : 2 ^ Nat.log2 m ≤ m := Nat.log2_self_le h0
    have l2 : m < 2 ^ (Nat.log2 m + 1) := Nat.lt_log2_self
    have hu : ((Nat.log2 m : Int) + 1).toNat = Nat.log2 m + 1 := by omega
    rw [hu]
    have hle : Nat.log2 m < 62 := by
      refine Nat.lt_of_not_le fun hge => ?_
      have : 2 ^ 62 ≤ 2 ^ Nat.log2 m := Nat.pow_le_pow_right (by omega) hge
      have h62 : (2 : Nat) ^ 62 = 4611686018427387904 := rfl
      omega
    refine ⟨by omega, by omega, fun i hi => ?_, ?_⟩
    · have : 2 ^ i ≤ 2 ^ Nat.log2 m := Nat.pow_le_pow_right (by omega) (by omega)
      omega
    · by_cases hx : n ≤ 4611686018427387904
      · right; omega
      · left
        have hme : m = 4611686018427387903 := by omega
        refine Nat.le_antisymm (by omega) (Nat.le_of_not_lt fun hlt => ?_)
        have : 2 ^ (Nat.log2 m + 1) ≤ 2 ^ 61 := Nat.pow_le_pow_right (by omega) (by omega)
        have h61 : (2 : Nat) ^ 61 = 2305843009213693952 := rfl
        omega
theorem power_f (k : Nat) (n : Int) (hk : 64 < k) : word_Power.f k n = some ((2 ^ up n : Nat) : Int) := by
  unfold word_Power.f
  obtain ⟨h1, h2, _, _⟩ := up_is n
  have hr : 0 ≤ (mx 1 (mn n 4611686018427387904)) - 1 ∧ (mx 1 (mn n 4611686018427387904)) - 1 < 18446744073709551616 := by
    unfold mx mn; repeat' split
    all_goals omega
  obtain ⟨m, hm⟩ : ∃ m : Nat, (mx 1 (mn n 4611686018427387904)) - 1 = m := ⟨_, (Int.toNat_of_nonneg hr.1).symm⟩
  rw [hm] at h1 hr ⊢
  rw [log_f k m hk (by omega)]
  rw [Int.toNat_natCast] at h1
  simp only [Option.bind_some]
  rw [h1]
  have hw : wrap64 (up n : Int) = up n := by unfold wrap64; omega
  rw [hw, if_pos (by omega)]
  unfold shl
  simp only [IntKind.bits]
  rw [Int.toNat_natCast, Nat.min_eq_left (by omega), Int.one_mul]
  have e1 : (2 : Int) ^ up n = ((2 ^ up n : Nat) : Int) := by rw [Int.natCast_pow]; rfl
  rw [e1]
  have h3 : 2 ^ up n ≤ 2 ^ 62 := Nat.pow_le_pow_right (by omega) h2
  have h62 : (2 : Nat) ^ 62 = 4611686018427387904 := rfl
  rw [h62] at h3
  generalize 2 ^ up n = p at h3
  rw [wrap_i64, wrap64_id (by omega) (by omega)]
theorem rpower_l (n : Int) (e : Nat) (he : e ≤ 62) (h1 : ∀ i : Nat, i < e → ((2 ^ i : Nat) : Int) < n) (h2 : e = 62 ∨ n ≤ ((2 ^ e : Nat) : Int)) (d : Nat) : ∀ (k i : Nat), i + d = e → d < k →
    cortadoref01_Power.l0 k n ((2 ^ i : Nat) : Int) (i : Int) = some ((2 ^ e : Nat) : Int) := by
  induction d with
  | zero =>
    intro k i hi hk
    obtain ⟨k, rfl⟩ : ∃ m, k = m + 1 := ⟨k - 1, by omega⟩
    obtain rfl : i = e := by omega
    simp only [cortadoref01_Power.l0]
    by_cases h : i = 62
    · rw [if_neg (by omega)]
    · rw [if_pos (by omega), if_neg (by omega)]
  | succ d ih =>
    intro k i hi hk
    obtain ⟨k, rfl⟩ : ∃ m, k = m + 1 := ⟨k - 1, by omega⟩
    simp only [cortadoref01_Power.l0]
    have h3 : 2 ^ i ≤ 2 ^ 61 := Nat.pow_le_pow_right (by omega) (by omega)
    have h61 : (2 : Nat) ^ 61 = 2305843009213693952 := rfl
    have hw : wrap64 ((i : Int) + 1) = ((i + 1 : Nat) : Int) := by unfold wrap64; omega
    have hx : wrap64 (2 * ((2 ^ i : Nat) : Int)) = ((2 ^ (i + 1) : Nat) : Int) := by rw [Nat.pow_succ]; unfold wrap64; omega
    rw [if_pos (by omega), if_pos (h1 i (by omega)), hw, hx]
    exact ih k (i + 1) (by omega) (by omega)
theorem rpower_f (k : Nat) (n : Int) (hk : 64 < k) : cortadoref01_Power.f k n = some ((2 ^ up n : Nat) : Int) := by
  unfold cortadoref01_Power.f
  obtain ⟨_, h2, h3, h4⟩ := up_is n
  exact rpower_l n (up n) h2 h3 h4 (up n) k 0 (by omega) (by omega)
def low (n : Nat) (k : Int) : Nat := n % 2 ^ (if k ≥ 64 then 64 else k.toNat)
theorem low_f (n : Nat) (k : Int) (hn : n < 18446744073709551616) : word_Low.f n k = some (low n k : Int) := by
  unfold word_Low.f low
  by_cases h : k ≥ 64
  · rw [if_pos h, if_pos h, pow64, Nat.mod_eq_of_lt hn]
  · rw [if_neg h]
    have e1 : IntKind.u64.wrap (mx k 0) = (k.toNat : Int) := by
      rw [wrap_u64]; unfold mx; split <;> omega
    rw [e1, if_pos (by omega), if_neg h, shl1 (by omega)]
    have h1 : 0 < 2 ^ k.toNat := Nat.pow_pos (by omega)
    have h2 : 2 ^ k.toNat ≤ 2 ^ 63 := Nat.pow_le_pow_right (by omega) (by omega)
    have h63 : (2 : Nat) ^ 63 = 9223372036854775808 := rfl
    have e2 : ((2 ^ k.toNat : Nat) : Int) - 1 = ((2 ^ k.toNat - 1 : Nat) : Int) := by omega
    rw [e2, wrap_u64_id (by omega) (by omega), N_and hn (by omega), Nat.and_two_pow_sub_one_eq_mod]
/-- A row whose places from k on are 0. -/
def zf : Nat → List Nat → List Nat
  | _, [] => []
  | 0, _ :: t => 0 :: zf 0 t
  | k + 1, b :: t => b :: zf k t
theorem zf_length (l : List Nat) : ∀ k, (zf k l).length = l.length := by
  induction l with
  | nil => intro k; simp [zf]
  | cons b t ih => intro k; cases k <;> simp [zf, ih]
theorem zf_get (l : List Nat) : ∀ (k j : Nat), (zf k l)[j]? = if j < l.length then some (if j < k then l.getD j 0 else 0) else none := by
  induction l with
  | nil => intro k j; simp [zf]
  | cons b t ih =>
    intro k j
    cases k <;> cases j <;> simp [zf, ih]
theorem natOf_zf (l : List Nat) (hb : Bin l) : ∀ k, natOf (zf k l) = natOf l % 2 ^ k := by
  induction l with
  | nil => intro k; simp [zf, natOf]
  | cons b t ih =>
    intro k
    have ih' := ih (fun x hx => hb x (List.mem_cons_of_mem _ hx))
    have h2 := hb b (by simp)
    cases k with
    | zero => simp [zf, natOf, ih' 0, Nat.mod_one]
    | succ k =>
      simp only [zf, natOf, ih' k, Nat.pow_succ]
      rw [Nat.mul_comm (2 ^ k) 2, Nat.mod_mul, show (b + 2 * natOf t) % 2 = b by omega, show (b + 2 * natOf t) / 2 = natOf t by omega]
theorem bin_zf (l : List Nat) (hb : Bin l) : ∀ k, Bin (zf k l) := by
  induction l with
  | nil => intro k b hx; simp [zf] at hx
  | cons b t ih =>
    intro k
    have ih' := ih (fun x hx => hb x (List.mem_cons_of_mem _ hx))
    have h2 := hb b (by simp)
    cases k with
    | zero => intro x hx; simp only [zf, List.mem_cons] at hx; rcases hx with rfl | hx; omega; exact ih' 0 x hx
    | succ k => intro x hx; simp only [zf, List.mem_cons] at hx; rcases hx with rfl | hx; omega; exact ih' k x hx
/-- The row when places below i have been looked at. -/
def mid (l : List Nat) (m : Int) (i : Nat) : List Int := ints ((zf m.toNat l).take i ++ l.drop i)
theorem mid_length (l : List Nat) (m : Int) (i : Nat) (h : i ≤ l.length) : (mid l m i).length = l.length := by
  unfold mid; rw [ints_length]; simp [zf_length]; omega
theorem mid_step (l : List Nat) (m : Int) (i : Nat) (h : i < l.length) : (if (i : Int) ≥ m then (mid l m i).set i 0 else mid l m i) = mid l m (i + 1) := by
  apply List.ext_getElem?
  intro j
  have e : ∀ i' : Nat, i' ≤ l.length → (mid l m i')[j]? = if j < l.length then some ((if j < i' ∧ ¬ j < m.toNat then 0 else l.getD j 0 : Nat) : Int) else none := by
    intro i' hi'
    unfold mid ints
    rw [List.getElem?_map, List.getElem?_append]
    simp only [List.length_take, zf_length]
    rw [Nat.min_eq_left hi']
    by_cases h1 : j < i'
    · have hj : j < l.length := by omega
      rw [if_pos h1, List.getElem?_take, if_pos h1, zf_get, if_pos hj, if_pos hj]
      by_cases h2 : j < m.toNat
      · rw [if_pos h2, if_neg (by omega)]; rfl
      · rw [if_neg h2, if_pos ⟨h1, h2⟩]; rfl
    · rw [if_neg h1, List.getElem?_drop, show i' + (j - i') = j by omega]
      by_cases h2 : j < l.length
      · rw [if_pos h2, if_neg (by omega), List.getD_eq_getElem?_getD]; simp [h2]
      · rw [if_neg h2]; simp; omega
  rw [e (i + 1) (by omega)]
  by_cases hm : (i : Int) ≥ m
  · rw [if_pos hm, List.getElem?_set, mid_length _ _ _ (by omega), e i (by omega)]
    by_cases h1 : i = j
    · subst h1
      rw [if_pos rfl, if_pos h, if_pos h, if_pos (by omega)]; rfl
    · rw [if_neg h1]
      by_cases h2 : j < l.length
      · rw [if_pos h2, if_pos h2]
        congr 2
        by_cases h3 : j < i ∧ ¬ j < m.toNat
        · rw [if_pos h3, if_pos (by omega)]
        · rw [if_neg h3, if_neg (by omega)]
      · rw [if_neg h2, if_neg h2]
  · rw [if_neg hm, e i (by omega)]
    by_cases h2 : j < l.length
    · rw [if_pos h2, if_pos h2]
      congr 2
      by_cases h3 : j < i ∧ ¬ j < m.toNat
      · rw [if_pos h3, if_pos (by omega)]
      · rw [if_neg h3, if_neg (by omega)]
    · rw [if_neg h2, if_neg h2]
theorem rlow_l (l : List Nat) (hb : Bin l) (hl : l.length = 64) (m : Int) (d : Nat) : ∀ (k i : Nat), i + d = 64 → d + 70 < k →
    cortadoref01_Low.l0 k m (mid l m i) (i : Int) = some ((natOf l % 2 ^ m.toNat : Nat) : Int) := by
  induction d with
  | zero =>
    intro k i hi hk
    obtain ⟨k, rfl⟩ : ∃ m, k = m + 1 := ⟨k - 1, by omega⟩
    simp only [cortadoref01_Low.l0]
    rw [mid_length _ _ _ (by omega), if_neg (by omega)]
    have e : mid l m i = ints (zf m.toNat l) := by
      unfold mid
      rw [List.take_of_length_le (by rw [zf_length]; omega), List.drop_eq_nil_of_le (by omega), List.append_nil]
    rw [e, of_f k _ (bin_zf l hb _) (by rw [zf_length]; omega) (by omega), natOf_zf l hb]; rfl
  | succ d ih =>
    intro k i hi hk
    obtain ⟨k, rfl⟩ : ∃ m, k = m + 1 := ⟨k - 1, by omega⟩
    simp only [cortadoref01_Low.l0]
    have hw : wrap64 ((i : Int) + 1) = ((i + 1 : Nat) : Int) := by unfold wrap64; omega
    rw [mid_length _ _ _ (by omega), if_pos (by omega), hw, Int.toNat_natCast]
    have hs := mid_step l m i (by omega)
    have hr := ih k (i + 1) (by omega) (by omega)
    by_cases hm : (i : Int) ≥ m
    · rw [if_pos hm] at hs
      rw [if_pos hm, if_pos (by omega), hs]; exact hr
    · rw [if_neg hm] at hs
      rw [if_neg hm, hs]; exact hr
theorem rlow_f (k n : Nat) (m : Int) (hk : 200 < k) (hn : n < 18446744073709551616) : cortadoref01_Low.f k n m = some (low n m : Int) := by
  unfold cortadoref01_Low.f low
  rw [bits_f k n (by omega) hn]
  simp only [Option.bind_some]
  have := rlow_l (bitsN 64 n) (bin_bits 64 n) (bitsN_length 64 n) m 64 k 0 (by omega) (by omega)
  have e : mid (bitsN 64 n) m 0 = ints (bitsN 64 n) := by unfold mid; simp
  rw [e] at this
  rw [show (0 : Int) = ((0 : Nat) : Int) from rfl, this, natOf_bits 64 n (by rw [pow64]; exact hn)]
  congr 2
  by_cases h : m ≥ 64
  · rw [if_pos h, pow64, Nat.mod_eq_of_lt hn, Nat.mod_eq_of_lt]
    have : 2 ^ 64 ≤ 2 ^ m.toNat := Nat.pow_le_pow_right (by omega) (by omega)
    rw [pow64] at this
    omega
  · rw [if_neg h]
theorem awake_f : cortadolaw01_awake.f 300 = some true := by decide +kernel
end WordPlacesP
open WordPlacesP BitsL in
theorem WordPlaces : cortadolaw01_WordPlaces.Pure := by
  intro x n m hx _ _
  obtain ⟨x, rfl, hx'⟩ := u64_nat hx
  refine ⟨300, ?_⟩
  unfold cortadolaw01_WordPlaces.f
  have hle : low x m ≤ x := Nat.mod_le _ _
  have hll : low (low x m) m = low x m := by unfold low; exact Nat.mod_mod _ _
  rw [low_f x m hx', log_f 300 x (by omega) hx', rlog_f 300 x (by omega) hx', power_f 300 n (by omega), rpower_f 300 n (by omega), rlow_f 300 x m (by omega) hx', awake_f]
  simp only [Option.bind_some]
  rw [low_f _ m (by omega), hll]
  simp [hle]

end Go.Proofs.Ytjmlahdnbedkcaa.Pure
