/- Each step of the digest is undone; from unlike numbers, and by unlike bytes, one goes on to unlike ones; no condition. -/
import Derived.Test.YtjmlahdnbedkcaaHFnvBackx1
import Derived.Test.YtjmlahdnbedkcaaHFnvBackx2
import Derived.Test.YtjmlahdnbedkcaaWd
namespace Go.Proofs.Ytjmlahdnbedkcaa.Pure
open Go.RowKit Go.Proofs.Ytjmlahdnbedkcaa.HFnvBack Go.Proofs.YtjmlahdnbedkcaaW.PrintWords Go.Proofs.YtjmlahdnbedkcaaW.PrintLast Go.Proofs.YtjmlahdnbedkcaaW.PrintMore Go.Proofs.Ytjmlahdnbedkcaa.Wd
namespace FnvL
def W (b : Int) : BitVec 64 := BitVec.ofNat 64 b.toNat
theorem U_W {b : Int} (h0 : 0 ≤ b) (h1 : b < 256) : b = U (W b) := by
  unfold U W; rw [BitVec.toNat_ofNat]; omega
theorem W_inj {b c : Int} (h0 : 0 ≤ b) (h1 : b < 256) (g0 : 0 ≤ c) (g1 : c < 256) (h : W b = W c) : b = c := by
  rw [U_W h0 h1, U_W g0 g1, h]
def nx (h : BitVec 64) (b : Int) : BitVec 64 := (h ^^^ W b) * 1099511628211#64
theorem mul_inj {a b : BitVec 64} (h : a * 1099511628211#64 = b * 1099511628211#64) : a = b := by
  have e : ∀ x : BitVec 64, x * 1099511628211#64 * 14886173955864302971#64 = x := fun x => by
    rw [BitVec.mul_assoc, show 1099511628211#64 * 14886173955864302971#64 = 1#64 from rfl, BitVec.mul_one]
  rw [← e a, h, e b]
theorem nx_inj {g h : BitVec 64} {b : Int} (e : nx g b = nx h b) : g = h := (BitVec.xor_left_inj _).1 (mul_inj e)
theorem nx_inj2 {h : BitVec 64} {b c : Int} (e : nx h b = nx h c) : W b = W c := (BitVec.xor_right_inj _).1 (mul_inj e)
def dig (h : BitVec 64) (l : List Int) : BitVec 64 := l.foldl nx h
theorem dig_inj (l : List Int) : ∀ {g h : BitVec 64}, dig g l = dig h l → g = h := by
  induction l with
  | nil => intro g h e; exact e
  | cons x t ih => intro g h e; exact nx_inj (ih e)
theorem next_f (h : BitVec 64) (b : Int) (h0 : 0 ≤ b) (h1 : b < 256) : fnv_Next.f (U h) b = some (U (nx h b)) := by
  unfold fnv_Next.f nx
  rw [wrap_u64_id h0 (by omega)]
  conv => lhs; rw [U_W h0 h1]
  rw [U_xor, show (1099511628211 : Int) = U 1099511628211#64 from rfl, U_mul]
theorem bytes_in (s : ByteArray) : ∀ x ∈ bytesOf s, 0 ≤ x ∧ x < 256 := by
  intro x hx
  unfold bytesOf at hx
  obtain ⟨b, _, rfl⟩ := List.mem_map.1 hx
  have := b.toNat_lt
  omega
theorem text_l (s : ByteArray) (hl : s.size < 4611686018427387904) (d : Nat) : ∀ (k : Nat) (h : BitVec 64) (i : Int), 0 ≤ i → i ≤ s.size → (s.size : Int) - i = d → d < k →
    fnv_Text.l0 k s (U h) (s.size : Int) i = some (U (dig h ((bytesOf s).drop i.toNat))) := by
  induction d with
  | zero =>
    intro k h i h0 h1 hd hk
    obtain ⟨k, rfl⟩ : ∃ m, k = m + 1 := ⟨k - 1, by omega⟩
    simp only [fnv_Text.l0]
    rw [if_neg (by omega), List.drop_eq_nil_of_le (by rw [bytesOf_length]; omega)]; rfl
  | succ d ih =>
    intro k h i h0 h1 hd hk
    obtain ⟨k, rfl⟩ : ∃ m, k = m + 1 := ⟨k - 1, by omega⟩
    have hlt : i.toNat < (bytesOf s).length := by rw [bytesOf_length]; omega
    simp only [fnv_Text.l0]
    have hr : rd (bytesOf s) i = (bytesOf s)[i.toNat] := by simp [rd, List.getD_eq_getElem?_getD, hlt]
    have hb := bytes_in s _ (List.getElem_mem hlt)
    rw [if_pos (by omega), if_pos h0, if_pos (by omega), ← rd_bytesOf, hr, next_f _ _ hb.1 hb.2, List.drop_eq_getElem_cons hlt]
    simp only [Option.bind_some]
    have hw : wrap64 (i + 1) = i + 1 := by unfold wrap64; omega
    rw [hw, show i.toNat + 1 = (i + 1).toNat by omega]
    exact ih k _ (i + 1) (by omega) (by omega) (by omega) (by omega)
theorem text_f (k : Nat) (s : ByteArray) (hl : s.size < 4611686018427387904) (hk : s.size < k) : fnv_Text.f k s = some (U (dig 14695981039346656037#64 (bytesOf s))) := by
  unfold fnv_Text.f
  rw [show (14695981039346656037 : Int) = U 14695981039346656037#64 from rfl, text_l s hl s.size k 14695981039346656037#64 0 (by omega) (by omega) (by omega) hk]
  rfl
theorem bytes_nums (xs : List Int) (h : ∀ x ∈ xs, 0 ≤ x ∧ x < 256) : bytesOf (strOfNums xs) = xs := by
  unfold bytesOf
  rw [strOfNums_data, List.map_map]
  conv => rhs; rw [← List.map_id xs]
  apply List.map_congr_left
  intro x hx
  have := h x hx
  simp only [Function.comp_apply, UInt8.toNat_ofNat', id_eq]
  omega
theorem dig_set (l : List Int) (i : Nat) (hi : i < l.length) (x : Int) (hl : ∀ y ∈ l, 0 ≤ y ∧ y < 256) (hx : 0 ≤ x ∧ x < 256) (h : BitVec 64) :
    dig h l = dig h (l.set i x) ↔ l[i] = x := by
  constructor
  · intro e
    rw [List.set_eq_take_append_cons_drop, if_pos hi] at e
    conv at e => lhs; rw [← List.take_append_drop i l, List.drop_eq_getElem_cons hi]
    unfold dig at e
    rw [List.foldl_append, List.foldl_append, List.foldl_cons, List.foldl_cons] at e
    have := nx_inj2 (dig_inj _ e)
    have hy := hl _ (List.getElem_mem hi)
    exact W_inj hy.1 hy.2 hx.1 hx.2 this
  · intro e
    rw [← e, List.set_getElem_self]
end FnvL
namespace FnvL
theorem split_xor (h : BitVec 64) (b : Int) (h0 : 0 ≤ b) (h1 : b < 256) :
    IntKind.u64.wrap ((IntKind.u64.wrap (U h - (Int.tmod (U h) 256))) + (Go.bits .xor .u64 (Int.tmod (U h) 256) (IntKind.u64.wrap b))) = U (h ^^^ W b) := by
  rw [Int.tmod_eq_emod_of_nonneg (U_lo h), wrap_u64_id h0 (by omega)]
  obtain ⟨n, hn⟩ : ∃ n, h.toNat = n := ⟨_, rfl⟩
  obtain ⟨c, rfl⟩ : ∃ c : Nat, b = c := ⟨b.toNat, by omega⟩
  have hlt := h.isLt
  rw [hn] at hlt
  have e1 : U h % 256 = ((n % 256 : Nat) : Int) := by unfold U; omega
  have e2 : IntKind.u64.wrap (U h - ((n % 256 : Nat) : Int)) = ((2 ^ 8 * (n / 256) : Nat) : Int) := by
    rw [wrap_u64]; unfold U; rw [hn, show (2 : Nat) ^ 8 = 256 from rfl]; omega
  have e3 : Go.bits .xor .u64 ((n % 256 : Nat) : Int) (c : Int) = ((n % 256 ^^^ c : Nat) : Int) := by
    rw [U_lit (n % 256) (by omega), U_lit c (by omega), U_xor]
    unfold U
    rw [BitVec.toNat_xor, BitVec.toNat_ofNat, BitVec.toNat_ofNat, Nat.mod_eq_of_lt (show n % 256 < 2 ^ 64 by omega), Nat.mod_eq_of_lt (show c < 2 ^ 64 by omega)]
  have hx : (n % 256 ^^^ c) < 2 ^ 8 := Nat.xor_lt_two_pow (by omega) (by omega)
  have e4 : 2 ^ 8 * (n / 256) + (n % 256 ^^^ c) = n ^^^ c := by
    apply Nat.eq_of_testBit_eq
    intro j
    rw [Nat.testBit_two_pow_mul_add _ hx, Nat.testBit_xor, Nat.testBit_xor]
    have hm : n % 256 = n % 2 ^ 8 := rfl
    have hd : n / 256 = n / 2 ^ 8 := rfl
    rw [hm, hd, Nat.testBit_mod_two_pow, Nat.testBit_div_two_pow]
    by_cases hj : j < 8
    · rw [if_pos hj]; simp [hj]
    · have hc : c.testBit j = false := Nat.testBit_lt_two_pow (Nat.lt_of_lt_of_le (show c < 2 ^ 8 by omega) (Nat.pow_le_pow_right (by omega) (by omega)))
      rw [if_neg hj, hc, show j - 8 + 8 = j by omega]; simp
  rw [e1, e2, e3, ← Int.natCast_add, e4]
  have e5 : U (h ^^^ W (c : Int)) = ((n ^^^ c : Nat) : Int) := by
    unfold U W
    rw [BitVec.toNat_xor, hn, Int.toNat_natCast, BitVec.toNat_ofNat, Nat.mod_eq_of_lt (show c < 2 ^ 64 by omega)]
  rw [e5]
  have hl : n ^^^ c < 2 ^ 64 := Nat.xor_lt_two_pow hlt (by omega)
  exact wrap_u64_id (by omega) (by omega)
theorem rgo_l (l : List Int) (hl : l.length < 4611686018427387904) (hb : ∀ x ∈ l, 0 ≤ x ∧ x < 256) (d : Nat) : ∀ (k : Nat) (h : BitVec 64) (i : Int), 0 ≤ i → i ≤ l.length → (l.length : Int) - i = d → d < k →
    cortadoref05_Go.l0 k (U h) l i = some (U (dig h (l.drop i.toNat))) := by
  induction d with
  | zero =>
    intro k h i h0 h1 hd hk
    obtain ⟨k, rfl⟩ : ∃ m, k = m + 1 := ⟨k - 1, by omega⟩
    simp only [cortadoref05_Go.l0]
    rw [if_neg (by omega), List.drop_eq_nil_of_le (by omega)]; rfl
  | succ d ih =>
    intro k h i h0 h1 hd hk
    obtain ⟨k, rfl⟩ : ∃ m, k = m + 1 := ⟨k - 1, by omega⟩
    have hlt : i.toNat < l.length := by omega
    simp only [cortadoref05_Go.l0]
    have hr : rd l i = l[i.toNat] := by simp [rd, List.getD_eq_getElem?_getD, hlt]
    have hb' := hb _ (List.getElem_mem hlt)
    have hw : wrap64 (i + 1) = i + 1 := by unfold wrap64; omega
    rw [if_pos (by omega), if_pos h0, hr, split_xor h _ hb'.1 hb'.2, show (1099511628211 : Int) = U 1099511628211#64 from rfl, U_mul, hw, List.drop_eq_getElem_cons hlt, show i.toNat + 1 = (i + 1).toNat by omega]
    exact ih k _ (i + 1) (by omega) (by omega) (by omega) (by omega)
theorem rgo_f (k : Nat) (h : BitVec 64) (l : List Int) (hl : l.length < 4611686018427387904) (hb : ∀ x ∈ l, 0 ≤ x ∧ x < 256) (hk : l.length < k) : cortadoref05_Go.f k (U h) l = some (U (dig h l)) := by
  unfold cortadoref05_Go.f
  have := rgo_l l hl hb l.length k h 0 (by omega) (by omega) (by omega) hk
  simpa using this
end FnvL
namespace FnvBackP
open FnvL
def undo (h : BitVec 64) (b : Int) : BitVec 64 := (h * 14886173955864302971#64) ^^^ W b
theorem inv_f : mix_Inverse.f 20 1099511628211 = some 14886173955864302971 := by decide +kernel
theorem back_f (k : Nat) (hk : k = 20) (h : BitVec 64) (b : Int) (h0 : 0 ≤ b) (h1 : b < 256) : fnv_Back.f k (U h) b = some (U (undo h b)) := by
  subst hk
  unfold fnv_Back.f undo
  rw [inv_f, wrap_u64_id h0 (by omega)]
  simp only [Option.bind_some]
  conv => lhs; rw [U_W h0 h1]
  rw [show (14886173955864302971 : Int) = U 14886173955864302971#64 from rfl, U_mul, U_xor]
theorem undo_nx (h : BitVec 64) (b : Int) : undo (nx h b) b = h := by
  unfold undo nx
  rw [BitVec.mul_assoc, show 1099511628211#64 * 14886173955864302971#64 = 1#64 from rfl, BitVec.mul_one, BitVec.xor_assoc, BitVec.xor_self, BitVec.xor_zero]
theorem nx_undo (h : BitVec 64) (b : Int) : nx (undo h b) b = h := by
  unfold undo nx
  rw [BitVec.xor_assoc, BitVec.xor_self, BitVec.xor_zero, BitVec.mul_assoc, show 14886173955864302971#64 * 1099511628211#64 = 1#64 from rfl, BitVec.mul_one]
theorem dig_one (h : BitVec 64) (x : Int) : dig h [x] = nx h x := by unfold dig; rw [List.foldl_cons, List.foldl_nil]
theorem one_len (x : Int) : [x].length = 1 := rfl
theorem awake_f (k : Nat) (hk : k = 20) : cortadolaw05_awake.f k = some true := by
  subst hk
  decide +kernel
end FnvBackP
open FnvBackP FnvL in
theorem FnvBack (a b x y : Int) (ha : (Lit.int .u64 a).wf = true) (hb : (Lit.int .u64 b).wf = true) (hx : (Lit.int .u8 x).wf = true) (hy : (Lit.int .u8 y).wf = true) : ∃ k, cortadolaw05_FnvBack.f k a b x y = some true := by
  obtain ⟨h, rfl⟩ := U_wf ha
  obtain ⟨g, rfl⟩ := U_wf hb
  obtain ⟨x0, x1⟩ := u8_wf hx
  obtain ⟨y0, y1⟩ := u8_wf hy
  obtain ⟨k, hk⟩ : ∃ k : Nat, k = 20 := ⟨20, rfl⟩
  refine ⟨k, ?_⟩
  unfold cortadolaw05_FnvBack.f
  rw [next_f h x x0 x1, next_f g x x0 x1, next_f h y y0 y1, rgo_f k h [x] (by rw [one_len]; omega) (by intro z hz; rw [List.mem_singleton] at hz; omega) (by rw [one_len]; omega), dig_one]
  have e1 : (U (nx h x) == U (nx g x)) = (U h == U g) := by
    by_cases q : h = g
    · rw [q]; simp
    · rw [beq_eq_false_iff_ne.2 (fun e => q (U_inj e)), beq_eq_false_iff_ne.2 (fun e => q (nx_inj (U_inj e)))]
  have e2 : (U (nx h x) == U (nx h y)) = (x == y) := by
    by_cases q : x = y
    · rw [q]; simp
    · rw [beq_eq_false_iff_ne.2 q, beq_eq_false_iff_ne.2 (fun e => q (W_inj x0 x1 y0 y1 (nx_inj2 (U_inj e))))]
  have hu := undo_nx h x
  have hq := nx_undo h x
  generalize hn : nx h x = n at e1 e2 hu ⊢
  generalize nx g x = m at e1 ⊢
  generalize nx h y = z at e2 ⊢
  simp only [bs]
  rw [if_pos trivial, back_f k hk n x x0 x1, hu]
  simp only [bs]
  rw [if_pos trivial, back_f k hk h x x0 x1]
  simp only [bs]
  rw [next_f _ x x0 x1, hq]
  simp only [bs]
  rw [if_pos trivial, e1, e2, awake_f k hk]
  simp

end Go.Proofs.Ytjmlahdnbedkcaa.Pure
