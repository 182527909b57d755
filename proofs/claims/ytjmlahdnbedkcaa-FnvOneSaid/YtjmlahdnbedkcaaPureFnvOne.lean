/- Texts of at most 2000 bytes of which one byte alone is another one have unlike digests; no further condition. -/
import Derived.Test.YtjmlahdnbedkcaaHFnvOnex1
import Derived.Test.YtjmlahdnbedkcaaWd
namespace Go.Proofs.Ytjmlahdnbedkcaa.Pure
open Go.RowKit Go.Proofs.Ytjmlahdnbedkcaa.HFnvOne Go.Proofs.YtjmlahdnbedkcaaW.PrintWords Go.Proofs.YtjmlahdnbedkcaaW.PrintLast Go.Proofs.YtjmlahdnbedkcaaW.PrintMore Go.Proofs.Ytjmlahdnbedkcaa.Wd
namespace FnvL
def W (b : Int) : BitVec 64 := BitVec.ofNat 64 b.toNat
theorem U_W {b : Int} (h0 : 0 ≤ b) (h1 : b < 256) : b = U (W b) := by
  unfold U W; rw [BitVec.toNat_ofNat]; omega
theorem W_inj {b c : Int} (h0 : 0 ≤ b) (h1 : b < 256) (g0 : 0 ≤ c) (g1 : c < 256) (h : W b = W c) : b = c := by
  rw [U_W h0 h1, U_W g0 g1, h]
def nx (h : BitVec 64) (b : Int) : BitVec 64 := (h ^^^ W b) * 1099511628211#64
theorem mul_inj {a b : BitVec 64} (h : a * 1099511628211#64 = b * 1099511628211#64) : a = b := by
  have e : ∀ x : BitVec 64, x * 1099511628211#64 * 14886173955864302971#64 = x := fun x => by
    rw [BitVec.mul_assoc, show 1099511628211#64 * 14886173955864302971#64 = 1#64 from rfl, BitVec.mul_one]
  rw [← e a, h, e b]
theorem nx_inj {g h : BitVec 64} {b : Int} (e : nx g b = nx h b) : g = h := (BitVec.xor_left_inj _).1 (mul_inj e)
theorem nx_inj2 {h : BitVec 64} {b c : Int} (e : nx h b = nx h c) : W b = W c := (BitVec.xor_right_inj _).1 (mul_inj e)
def dig (h : BitVec 64) (l : List Int) : BitVec 64 := l.foldl nx h
theorem dig_inj (l : List Int) : ∀ {g h : BitVec 64}, dig g l = dig h l → g = h := by
  induction l with
  | nil => intro g h e; exact e
  | cons x t ih => intro g h e; exact nx_inj (ih e)
theorem next_f (h : BitVec 64) (b : Int) (h0 : 0 ≤ b) (h1 : b < 256) : fnv_Next.f (U h) b = some (U (nx h b)) := by
  unfold fnv_Next.f nx
  rw [wrap_u64_id h0 (by omega)]
  conv => lhs; rw [U_W h0 h1]
  rw [U_xor, show (1099511628211 : Int) = U 1099511628211#64 from rfl, U_mul]
theorem bytes_in (s : ByteArray) : ∀ x ∈ bytesOf s, 0 ≤ x ∧ x < 256 := by
  intro x hx
  unfold bytesOf at hx
  obtain ⟨b, _, rfl⟩ := List.mem_map.1 hx
  have := b.toNat_lt
  omega
theorem text_l (s : ByteArray) (hl : s.size < 4611686018427387904) (d : Nat) : ∀ (k : Nat) (h : BitVec 64) (i : Int), 0 ≤ i → i ≤ s.size → (s.size : Int) - i = d → d < k →
    fnv_Text.l0 k s (U h) (s.size : Int) i = some (U (dig h ((bytesOf s).drop i.toNat))) := by
  induction d with
  | zero =>
    intro k h i h0 h1 hd hk
    obtain ⟨k, rfl⟩ : ∃ m, k = m + 1 := ⟨k - 1, by omega⟩
    simp only [fnv_Text.l0]
    rw [if_neg (by omega), List.drop_eq_nil_of_le (by rw [bytesOf_length]; omega)]; rfl
  | succ d ih =>
    intro k h i h0 h1 hd hk
    obtain ⟨k, rfl⟩ : ∃ m, k = m + 1 := ⟨k - 1, by omega⟩
    have hlt : i.toNat < (bytesOf s).length := by rw [bytesOf_length]; omega
    simp only [fnv_Text.l0]
    have hr : rd (bytesOf s) i = (bytesOf s)[i.toNat] := by simp [rd, List.getD_eq_getElem?_getD, hlt]
    have hb := bytes_in s _ (List.getElem_mem hlt)
    rw [if_pos (by omega), if_pos h0, if_pos (by omega), ← rd_bytesOf, hr, next_f _ _ hb.1 hb.2, List.drop_eq_getElem_cons hlt]
    simp only [Option.bind_some]
    have hw : wrap64 (i + 1) = i + 1 := by unfold wrap64; omega
    rw [hw, show i.toNat + 1 = (i + 1).toNat by omega]
    exact ih k _ (i + 1) (by omega) (by omega) (by omega) (by omega)
theorem text_f (k : Nat) (s : ByteArray) (hl : s.size < 4611686018427387904) (hk : s.size < k) : fnv_Text.f k s = some (U (dig 14695981039346656037#64 (bytesOf s))) := by
  unfold fnv_Text.f
  rw [show (14695981039346656037 : Int) = U 14695981039346656037#64 from rfl, text_l s hl s.size k 14695981039346656037#64 0 (by omega) (by omega) (by omega) hk]
  rfl
theorem bytes_nums (xs : List Int) (h : ∀ x ∈ xs, 0 ≤ x ∧ x < 256) : bytesOf (strOfNums xs) = xs := by
  unfold bytesOf
  rw [strOfNums_data, List.map_map]
  conv => rhs; rw [← List.map_id xs]
  apply List.map_congr_left
  intro x hx
  have := h x hx
  simp only [Function.comp_apply, UInt8.toNat_ofNat', id_eq]
  omega
theorem dig_set (l : List Int) (i : Nat) (hi : i < l.length) (x : Int) (hl : ∀ y ∈ l, 0 ≤ y ∧ y < 256) (hx : 0 ≤ x ∧ x < 256) (h : BitVec 64) :
    dig h l = dig h (l.set i x) ↔ l[i] = x := by
  constructor
  · intro e
    rw [List.set_eq_take_append_cons_drop, if_pos hi] at e
    conv at e => lhs; rw [← List.take_append_drop i l, List.drop_eq_getElem_cons hi]
    unfold dig at e
    rw [List.foldl_append, List.foldl_append, List.foldl_cons, List.foldl_cons] at e
    have := nx_inj2 (dig_inj _ e)
    have hy := hl _ (List.getElem_mem hi)
    exact W_inj hy.1 hy.2 hx.1 hx.2 this
  · intro e
    rw [← e, List.set_getElem_self]
end FnvL
open FnvL in
theorem FnvOne : cortadolaw05_FnvOne.Pure := by
  intro l a x _ _ hl ha hx
  have hl' : ∀ y ∈ l, 0 ≤ y ∧ y < 256 := fun y hy => u8_wf (hl y hy)
  have hx' := u8_wf hx
  have ha' := u64_wf ha
  have hw : ∀ k, cortadolaw05_awake.f (k + 2) = some true := by
    intro k
    unfold cortadolaw05_awake.f
    rw [text_f _ _ (by decide) (by show 1 < k + 2; omega)]
    decide +kernel
  refine ⟨2500, ?_⟩
  unfold cortadolaw05_FnvOne.f
  by_cases h : (l.length : Int) > 2000
  · rw [if_pos h]
    simp only [cortadolaw05_FnvOne.j0]
    rw [if_pos trivial, hw 2497]; rfl
  · rw [if_neg h]
    simp only [cortadolaw05_FnvOne.j0]
    by_cases h0 : l.length = 0
    · rw [if_pos (by simp [h0]), hw 2497]; rfl
    · have e : IntKind.u64.wrap (l.length : Int) = l.length := wrap_u64_id (by omega) (by omega)
      rw [if_neg (by simpa using h0), e, if_neg (by omega)]
      simp only [Option.bind_some, List.nil_append]
      have hm := Int.emod_lt_of_pos a (show (0 : Int) < l.length by omega)
      have hn := Int.emod_nonneg a (show (l.length : Int) ≠ 0 by omega)
      rw [if_pos (by simp; omega), Int.tmod_eq_emod_of_nonneg ha'.1, wrap64_id (by omega) (by omega), if_pos hn, if_pos hm]
      have hi : (a % (l.length : Int)).toNat < l.length := by omega
      have hset : ∀ y ∈ l.set (a % (l.length : Int)).toNat x, 0 ≤ y ∧ y < 256 := fun y hy => by
        rcases List.mem_or_eq_of_mem_set hy with hy | rfl
        · exact hl' y hy
        · exact hx'
      rw [text_f _ _ (by rw [strOfNums_size]; omega) (by rw [strOfNums_size]; omega), text_f _ _ (by rw [strOfNums_size, List.length_set]; omega) (by rw [strOfNums_size, List.length_set]; omega)]
      simp only [Option.bind_some]
      rw [bytes_nums _ hl', bytes_nums _ hset, if_pos hm, hw 2497]
      have hd := dig_set l _ hi x hl' hx' 14695981039346656037#64
      have hr : rd l (a % (l.length : Int)) = l[(a % (l.length : Int)).toNat] := by simp [rd, List.getD_eq_getElem?_getD, hi]
      rw [hr]
      by_cases q : l[(a % (l.length : Int)).toNat] = x
      · have := hd.2 q
        rw [← this, q]
        simp
      · have g : ¬ dig 14695981039346656037#64 l = dig 14695981039346656037#64 (l.set (a % (l.length : Int)).toNat x) := fun e => q (hd.1 e)
        have g' : ¬ U (dig 14695981039346656037#64 l) = U (dig 14695981039346656037#64 (l.set (a % (l.length : Int)).toNat x)) := fun e => g (U_inj e)
        rw [beq_eq_false_iff_ne.2 g', beq_eq_false_iff_ne.2 q]
        rfl

end Go.Proofs.Ytjmlahdnbedkcaa.Pure
