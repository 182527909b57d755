/- Keys: bytes of texts, digests, low bits. -/
import Derived.Test.YtipcbhaeoeghnaaDoorXxR
import Derived.Test.YtipcbhaeoeghnaaDoorMixP
import Derived.Test.YtipcbhaeoeghnaaDoorKeyG
import Derived.Lib.ConvBytes
namespace Go.Proofs.YtipcbhaeoeghnaaDoor.Eng
open Go Go.RowKit Go.Proofs
set_option linter.unusedVariables false
set_option linter.unusedSimpArgs false
set_option maxRecDepth 1000000
/-! ### A text's bytes -/
def byI (s : ByteArray) : List Int := s.data.toList.map fun b => (b.toNat : Int)
theorem byI_len (s : ByteArray) : (byI s).length = s.size := by unfold byI; rw [List.length_map, Array.length_toList]; rfl
theorem byI_By (s : ByteArray) : By (byI s) := by
  intro x hx
  obtain ⟨b, _, rfl⟩ := List.mem_map.1 hx
  have := b.toNat_lt
  exact ⟨by omega, by omega⟩
theorem byI_nums {bs : List Int} (h : By bs) : byI (strOfNums bs) = bs := by
  unfold byI
  rw [strOfNums_data, List.map_map]
  conv => rhs; rw [← List.map_id bs]
  apply List.map_congr_left
  intro x hx
  have := h x hx
  simp; omega
section
variable {e w : World} {F : List HP}
theorem Own.ofStr {P : Program} {src dst E : TypeId} {s : ByteArray} {k : Value → World → Prop} (h : Own e w F) (hs : P.underlying src = some .string) (hd : P.underlying dst = some (.slice E)) (he : P.underlying E = some (.int .u8)) (hn : s.size ≤ maxLen)
    (hk : ∀ g c w' (H : HP), Own e w' (H :: F) → s.size ≤ c → (∀ w'' G, Own e w'' (H :: G) → RdC w'' (some ⟨g, 0, none⟩) (cs .u8 (byI s))) → k (.slice (some ⟨g, 0, none⟩) s.size c) w') : RunR P (convert src dst (.string s)) w k := by
  refine ⟨_, _, Lib.run_convert_string_bytes w src dst E s hs hd he, ?_⟩
  have h1 := h.drew.new (.cells (Lib.bytesCells w E s) E)
  have hge := grownCap_ge w s.size 0 E
  have ec : Lib.bytesCells w E s = (cs .u8 (byI s) ++ List.replicate (grownCap w s.size 0 E - s.size) (Value.int .u8 0)).toArray := by
    apply Array.toList_inj.1
    simp [Lib.bytesCells, cs, byI]
  have h2 : Own e (w.drew.alloc (.cells (Lib.bytesCells w E s) E)) (blk w.heap.size E (cs .u8 (byI s) ++ List.replicate (grownCap w s.size 0 E - s.size) (Value.int .u8 0)) :: F) := by
    unfold blk
    rw [← ec]; exact h1
  have h3 := h2.freeze
  obtain ⟨CL, hCL⟩ : ∃ CL, CL = cs .u8 (byI s) ++ List.replicate (grownCap w s.size 0 E - s.size) (Value.int .u8 0) := ⟨_, rfl⟩
  rw [← hCL] at h3 ec
  have el : (Lib.bytesCells w E s).size = CL.length := by rw [ec]; simp
  refine hk w.heap.size _ _ (pt w.heap.size (.cells CL.toArray E (CL.length, CL.length + 1))) ?_ hge (fun w'' G hG => ?_)
  · unfold Lib.bytesWorld
    rw [el]
    exact h3
  · have h4 := Own.ptRd hG
    rw [hCL] at h4
    exact h4.pre
end
/-- A row whose places from k on are 0. -/
def zf : Nat → List Nat → List Nat
  | _, [] => []
  | 0, _ :: t => 0 :: zf 0 t
  | k + 1, b :: t => b :: zf k t
theorem zf_length (l : List Nat) : ∀ k, (zf k l).length = l.length := by
  induction l with
  | nil => intro k; simp [zf]
  | cons b t ih => intro k; cases k <;> simp [zf, ih]
theorem zf_get (l : List Nat) : ∀ (k j : Nat), (zf k l)[j]? = if j < l.length then some (if j < k then l.getD j 0 else 0) else none := by
  induction l with
  | nil => intro k j; simp [zf]
  | cons b t ih =>
    intro k j
    cases k <;> cases j <;> simp [zf, ih]
theorem natOf_zf (l : List Nat) (hb : Bin l) : ∀ k, natOf (zf k l) = natOf l % 2 ^ k := by
  induction l with
  | nil => intro k; simp [zf, natOf]
  | cons b t ih =>
    intro k
    have ih' := ih (fun x hx => hb x (List.mem_cons_of_mem _ hx))
    have h2 := hb b (by simp)
    cases k with
    | zero => simp [zf, natOf, ih' 0, Nat.mod_one]
    | succ k =>
      simp only [zf, natOf, ih' k, Nat.pow_succ]
      rw [Nat.mul_comm (2 ^ k) 2, Nat.mod_mul, show (b + 2 * natOf t) % 2 = b by omega, show (b + 2 * natOf t) / 2 = natOf t by omega]
theorem bin_zf (l : List Nat) (hb : Bin l) : ∀ k, Bin (zf k l) := by
  induction l with
  | nil => intro k b hx; simp [zf] at hx
  | cons b t ih =>
    intro k
    have ih' := ih (fun x hx => hb x (List.mem_cons_of_mem _ hx))
    have h2 := hb b (by simp)
    cases k with
    | zero => intro x hx; simp only [zf, List.mem_cons] at hx; rcases hx with rfl | hx; omega; exact ih' 0 x hx
    | succ k => intro x hx; simp only [zf, List.mem_cons] at hx; rcases hx with rfl | hx; omega; exact ih' k x hx
/-! ### The plain digest -/
theorem N_xor {a b : Nat} (ha : a < 18446744073709551616) (hb : b < 18446744073709551616) : Go.bits BinOp.xor IntKind.u64 (a : Int) (b : Int) = ((a ^^^ b : Nat) : Int) := by
  have e : Go.bits BinOp.xor IntKind.u64 (a : Int) (b : Int) = IntKind.wrap .u64 (((BitVec.ofInt 64 a ^^^ BitVec.ofInt 64 b).toNat : Nat) : Int) := rfl
  have hlt : a ^^^ b < 2 ^ 64 := Nat.xor_lt_two_pow (by rw [pow64]; exact ha) (by rw [pow64]; exact hb)
  rw [pow64] at hlt
  rw [e, BitVec.ofInt_natCast, BitVec.ofInt_natCast, BitVec.toNat_xor, BitVec.toNat_ofNat, BitVec.toNat_ofNat, Nat.mod_eq_of_lt (by rw [pow64]; exact ha), Nat.mod_eq_of_lt (by rw [pow64]; exact hb), wU64' (by omega) (by omega)]
theorem xor_split (H x : Nat) (hx : x < 256) : H ^^^ x = (H - H % 256) + ((H % 256) ^^^ x) := by
  have h1 : (H ^^^ x) / 2 ^ 8 = H / 2 ^ 8 := by
    rw [Nat.xor_div_two_pow, Nat.div_eq_of_lt (a := x) (by omega), Nat.xor_zero]
  have h2 : (H ^^^ x) % 2 ^ 8 = (H % 2 ^ 8) ^^^ x := by
    rw [Nat.xor_mod_two_pow, Nat.mod_eq_of_lt (a := x) (by omega)]
  have e : (2 : Nat) ^ 8 = 256 := rfl
  rw [e] at h1 h2
  omega
def fnI (h : Int) : List Int → Int
  | [] => h
  | x :: r => fnI (w64 (xorI h x * 1099511628211)) r
theorem fnI_snoc (h : Int) (l : List Int) (x : Int) : fnI h (l ++ [x]) = w64 (xorI (fnI h l) x * 1099511628211) := by
  induction l generalizing h with
  | nil => rfl
  | cons y l ih => exact ih _
theorem fnI_M64 : ∀ (l : List Int) {h : Int}, M64 h → M64 (fnI h l)
  | [], h, hh => hh
  | x :: r, h, hh => fnI_M64 r (w64_M64 _)
section
variable {e w : World} {F : List HP} {hh : Int} {q : Option Addr} {c : Nat} {bs : List Int}
theorem fnGo (hb : By bs) (hn : bs.length ≤ 1000000) (hr : ∀ w, Own e w F → RdC w q (cs .u8 bs)) (h : Own e w F) : Rets Tryd.prog 45 #[.int .u64 hh, .slice q bs.length c] w fun v w' => v = .int .u64 (fnI hh bs) ∧ Own e w' F := by
  refine fnv_Go_go _ _ _ _ ⟨fun m vs w => ∃ i : Nat, vs = [.int .u64 (fnI hh (bs.take i)), .int .i64 (i : Int)] ∧ m + i = bs.length ∧ Own e w F, ⟨bs.length, 0, rfl, rfl, h⟩, ?_⟩
  clear h
  rintro m w n1 v1 n2
  intros
  rename_i hI
  obtain ⟨i, hvs, hm, h⟩ := hI
  obtain ⟨rfl, rfl⟩ : n1 = fnI hh (bs.take i) ∧ n2 = (i : Int) := by simpa using hvs
  refine ⟨fun hc => ?_, fun hc => ?_⟩
  · have hc := dec_t hc
    have hi : i < bs.length := by omega
    have hx := hb bs[i] (List.getElem_mem hi)
    refine ⟨by omega, by omega, (hr w h).int (i := i) hi fun a ha => ⟨_, by rw [Int.toNat_natCast]; exact ha, ?_⟩⟩
    refine fnv_Next_go _ _ ?_
    unfold fnv_Next_m
    rw [wU64' (n := bs[i]) (by omega) (by omega)]
    refine ⟨_, rfl, m - 1, by omega, i + 1, ?_, by omega, h⟩
    rw [List.take_succ_eq_append_getElem hi, fnI_snoc, wI64 (by omega) (by omega)]; rfl
  · have hc := dec_f hc
    obtain rfl : i = bs.length := by omega
    rw [List.take_length]
    exact ⟨rfl, h⟩
theorem rfGo (hM : M64 hh) (hb : By bs) (hn : bs.length ≤ 1000000) (hr : ∀ w, Own e w F → RdC w q (cs .u8 bs)) (h : Own e w F) : Rets Tryd.prog 82 #[.int .u64 hh, .slice q bs.length c] w fun v w' => v = .int .u64 (fnI hh bs) ∧ Own e w' F := by
  refine cortadoref05_Go_go _ _ _ _ ⟨fun m vs w => ∃ i : Nat, vs = [.int .u64 (fnI hh (bs.take i)), .int .i64 (i : Int)] ∧ m + i = bs.length ∧ Own e w F, ⟨bs.length, 0, rfl, rfl, h⟩, ?_⟩
  clear h
  rintro m w n1 n2
  intros
  rename_i hI
  obtain ⟨i, hvs, hm, h⟩ := hI
  obtain ⟨rfl, rfl⟩ : n1 = fnI hh (bs.take i) ∧ n2 = (i : Int) := by simpa using hvs
  refine ⟨fun hc => ?_, fun hc => ?_⟩
  · have hc := dec_t hc
    have hi : i < bs.length := by omega
    have hx := hb bs[i] (List.getElem_mem hi)
    have hH := fnI_M64 (bs.take i) hM
    obtain ⟨H, hHe⟩ := Int.eq_ofNat_of_zero_le hH.1
    obtain ⟨b, hbe⟩ := Int.eq_ofNat_of_zero_le hx.1
    have hH2 := hH.2
    have e1 : Int.tmod (H : Int) 256 = ((H % 256 : Nat) : Int) := by rw [Int.tmod_eq_emod_of_nonneg (by omega)]; omega
    have hlo := Nat.xor_lt_two_pow (x := H % 256) (y := b) (n := 8) (by omega) (by omega)
    have e8 : (2 : Nat) ^ 8 = 256 := rfl
    have hsp := xor_split H b (by omega)
    have hxl := Nat.xor_lt_two_pow (x := H) (y := b) (n := 64) (by rw [pow64]; omega) (by rw [pow64]; omega)
    rw [pow64] at hxl
    have e3 : IntKind.wrap .u64 (IntKind.wrap .u64 ((H : Int) - ((H % 256 : Nat) : Int)) + ((H % 256 ^^^ b : Nat) : Int)) = ((H ^^^ b : Nat) : Int) := by
      rw [wU64' (n := (H : Int) - _) (by omega) (by omega), wU64' (by omega) (by omega)]; omega
    have e4 : fnI hh (bs.take (i + 1)) = w64 (((H ^^^ b : Nat) : Int) * 1099511628211) := by
      rw [List.take_succ_eq_append_getElem hi, fnI_snoc, hHe, hbe]
      unfold xorI
      rw [N_xor (by omega) (by omega)]
    rw [hHe, e1]
    refine ⟨by omega, by omega, by omega, by omega, (hr w h).int (i := i) hi fun a ha => ⟨_, by rw [Int.toNat_natCast]; exact ha, ?_⟩⟩
    rw [hbe, wU64' (n := (b : Int)) (by omega) (by omega), N_xor (by omega) (by omega), e3]
    refine ⟨m - 1, by omega, i + 1, ?_, by omega, h⟩
    rw [e4, wI64 (by omega) (by omega)]; rfl
  · have hc := dec_f hc
    obtain rfl : i = bs.length := by omega
    rw [List.take_length]
    exact ⟨rfl, h⟩
def lowN (n : Nat) (k : Int) : Nat := n % 2 ^ (if k ≥ 64 then 64 else k.toNat)
theorem wdLow {X : Nat} {k : Int} (hk : -9223372036854775808 ≤ k ∧ k ≤ 9223372036854775807) (hX : X < 18446744073709551616) (h : Own e w F) : Rets Tryd.prog 50 #[.int .u64 (X : Int), .int .i64 k] w fun v w' => v = .int .u64 (lowN X k : Int) ∧ Own e w' F := by
  refine word_Low_go _ _ ⟨fun hc => ?_, fun hc => ?_⟩
  · have hc := dec_t hc
    refine ⟨?_, h⟩
    unfold lowN; rw [if_pos (by omega), pow64, Nat.mod_eq_of_lt hX]
  · have hc := dec_f hc
    have e1 : IntKind.wrap .u64 (maxI k 0) = (k.toNat : Int) := by
      unfold maxI; split
      · rw [wU64' (by omega) (by omega)]; omega
      · rw [wU64' (by omega) (by omega)]; omega
    have h1 : 0 < 2 ^ k.toNat := Nat.pow_pos (by omega)
    have h2 : 2 ^ k.toNat ≤ 2 ^ 63 := Nat.pow_le_pow_right (by omega) (by omega)
    have h63 : (2 : Nat) ^ 63 = 9223372036854775808 := rfl
    have e2 : shlI IntKind.u64 1 (k.toNat : Int) = ((2 ^ k.toNat : Nat) : Int) := by
      have := shlN 1 k.toNat (by omega)
      rw [Nat.one_mul, Nat.mod_eq_of_lt (by omega)] at this
      exact this
    have e3 : IntKind.wrap .u64 (((2 ^ k.toNat : Nat) : Int) - 1) = ((2 ^ k.toNat - 1 : Nat) : Int) := by rw [wU64' (by omega) (by omega)]; omega
    rw [e1, e2, e3, N_and hX (by omega), Nat.and_two_pow_sub_one_eq_mod]
    refine ⟨by omega, ?_, h⟩
    unfold lowN; rw [if_neg (by omega)]
def lowL (l : List Nat) (k : Int) (i : Nat) : List Nat := (List.range 64).map fun j => if j < i ∧ k ≤ (j : Int) then 0 else l.getD j 0
theorem lowL_len (l : List Nat) (k : Int) (i : Nat) : (lowL l k i).length = 64 := by simp [lowL]
theorem lowL_zero {l : List Nat} (hl : l.length = 64) (k : Int) : lowL l k 0 = l := by
  apply List.ext_getElem
  · simp [lowL, hl]
  · intro j h1 h2
    simp [lowL, List.getD_eq_getElem?_getD, h2]
theorem lowL_set {l : List Nat} {k : Int} {i : Nat} (hi : i < 64) (hk : k ≤ (i : Int)) : (lowL l k i).set i 0 = lowL l k (i + 1) := by
  apply List.ext_getElem
  · simp [lowL]
  · intro j h1 h2
    rw [List.getElem_set]
    simp only [lowL, List.getElem_map, List.getElem_range]
    by_cases hj : i = j
    · subst hj; rw [if_pos rfl, if_pos ⟨by omega, hk⟩]
    · rw [if_neg hj]
      by_cases hj2 : j < i ∧ k ≤ (j : Int)
      · rw [if_pos hj2, if_pos ⟨by omega, hj2.2⟩]
      · rw [if_neg hj2, if_neg (by rintro ⟨h1, h2⟩; exact hj2 ⟨by omega, h2⟩)]
theorem lowL_keep {l : List Nat} {k : Int} {i : Nat} (hk : ¬ k ≤ (i : Int)) : lowL l k i = lowL l k (i + 1) := by
  unfold lowL
  apply List.map_congr_left
  intro j _
  by_cases hj2 : j < i ∧ k ≤ (j : Int)
  · rw [if_pos hj2, if_pos ⟨by omega, hj2.2⟩]
  · rw [if_neg hj2, if_neg]
    rintro ⟨h1, h2⟩
    exact hj2 ⟨by omega, h2⟩
theorem lowL_all {l : List Nat} (hl : l.length = 64) (k : Int) : lowL l k 64 = zf k.toNat l := by
  apply List.ext_getElem?
  intro j
  rw [zf_get, hl]
  by_cases hj : j < 64
  · rw [if_pos hj]
    simp only [lowL, List.getElem?_map, List.getElem?_range hj, Option.map_some]
    by_cases hk : j < k.toNat
    · rw [if_pos hk, if_neg (by rintro ⟨_, h⟩; omega)]
    · rw [if_neg hk, if_pos ⟨hj, by omega⟩]
  · rw [if_neg hj, List.getElem?_eq_none (by rw [lowL_len]; omega)]
theorem rfLow {X : Nat} {k : Int} (hX : X < 18446744073709551616) (h : Own e w F) : Rets Tryd.prog 51 #[.int .u64 (X : Int), .int .i64 k] w fun v w' => v = .int .u64 (lowN X k : Int) ∧ Own e w' F := by
  refine cortadoref01_Low_go _ _ ?_
  refine Rets.mono (rfBits (X := X) hX h) ?_
  clear h
  rintro _ w ⟨q1, c1, rfl, h⟩
  have hbl : (bitsN 64 X).length = 64 := bitsN_length 64 X
  refine ⟨_, _, _, rfl, fun z vs w => ∃ i : Nat, vs = [.int .i64 (i : Int)] ∧ z + i = 64 ∧ Own e w (u64B q1 64 c1 (nI (lowL (bitsN 64 X) k i)) :: F), ⟨64, 0, rfl, rfl, by rw [lowL_zero hbl]; exact h⟩, ?_⟩
  clear h
  rintro z w n1
  intros
  rename_i hI
  obtain ⟨i, hvs, hz, h⟩ := hI
  obtain rfl : n1 = (i : Int) := by simpa using hvs
  refine ⟨fun hc => ?_, fun hc => ?_⟩
  · have hc := dec_t hc
    have hi : i < 64 := by omega
    refine ⟨fun _ w => Own e w (u64B q1 64 c1 (nI (lowL (bitsN 64 X) k (i + 1))) :: F), ⟨fun hk => ⟨by omega, by omega, ?_⟩, fun hk => ?_⟩, ?_⟩
    · have hk := dec_t hk
      rw [Int.toNat_natCast, Nat.mul_one]
      refine h.slStore (i := i) (us := [.int .u64 0]) (by simp [cs, nI, lowL_len]; omega) (by simp) (by simp [Value.oneCell']) fun w h => ?_
      rw [cs_set] at h
      have e1 : (nI (lowL (bitsN 64 X) k i)).set i 0 = nI (lowL (bitsN 64 X) k (i + 1)) := by
        rw [← lowL_set hi (by omega)]
        simp only [nI, List.map_set]; rfl
      rw [e1] at h
      exact h
    · have hk := dec_f hk
      show Own e w (u64B q1 64 c1 (nI (lowL (bitsN 64 X) k (i + 1))) :: F)
      rw [← lowL_keep (by omega)]
      exact h
    · clear h
      rintro w
      intros
      rename_i h
      exact ⟨z - 1, by omega, i + 1, by rw [wI64 (by omega) (by omega)]; rfl, by omega, h⟩
  · have hc := dec_f hc
    obtain rfl : i = 64 := by omega
    rw [lowL_all hbl] at h
    have hzl : (zf k.toNat (bitsN 64 X)).length = 64 := by rw [zf_length, hbl]
    have := rfOf (l := zf k.toNat (bitsN 64 X)) (c := c1) (bin_zf _ (bin_bits 64 X) _) (by omega) (fun w h => h.slRd) h
    rw [hzl] at this
    refine Rets.mono this ?_
    clear h this
    rintro _ w ⟨rfl, h⟩
    refine ⟨_, rfl, ?_, h.drop⟩
    rw [natOf_zf _ (bin_bits 64 X), natOf_bits 64 X (by rw [pow64]; exact hX)]
    unfold lowN
    by_cases hk : k ≥ 64
    · rw [if_pos hk, pow64, Nat.mod_eq_of_lt hX, Nat.mod_eq_of_lt]
      have : 2 ^ 64 ≤ 2 ^ k.toNat := Nat.pow_le_pow_right (by omega) (by omega)
      rw [pow64] at this
      omega
    · rw [if_neg hk]
end
end Go.Proofs.YtipcbhaeoeghnaaDoor.Eng
