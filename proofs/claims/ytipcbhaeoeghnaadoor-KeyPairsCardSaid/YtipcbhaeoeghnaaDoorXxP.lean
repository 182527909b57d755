/- Digests of bytes: what the parts do. -/
import Derived.Test.YtipcbhaeoeghnaaDoorXxW
import Derived.Test.YtipcbhaeoeghnaaDoorXxG
import Derived.Test.YtipcbhaeoeghnaaDoorBytP
namespace Go.Proofs.YtipcbhaeoeghnaaDoor.Eng
open Go Go.RowKit Go.Proofs
set_option linter.unusedVariables false
set_option linter.unusedSimpArgs false
set_option maxRecDepth 1000000
/-! ### Memory: in the middle of a block; marks -/
section
variable {e w : World} {F : List HP} {g : Nat} {T : TypeId} {vs : List Value}
theorem Own.rdAt (h : Own e w (blk g T vs :: F)) (i : Nat) : RdC w (some ((⟨g, 0, none⟩ : Addr).add i)) (vs.drop i) := by
  refine .inr ⟨_, rfl, fun j u hj => ?_⟩
  rw [addr_add_add]
  rw [List.getElem?_drop] at hj
  exact h.cellAdd (i + j) hj
theorem Own.copyAt {P : Program} {dT ty elem : TypeId} {k : Value → World → Prop} {o n c m c2 : Nat} {q2 : Option Addr} {news : List Value} (h : Own e w (blk g T vs :: F)) (hu : P.underlying dT = some (.slice elem)) (hs : (P.info? elem).map (·.size) = some 1)
    (hsrc : ∃ a, q2 = some a ∧ ∀ j v, news[j]? = some v → w.cell? (a.add j) = some v) (hl : news.length = Nat.min m n) (hfit : o + news.length ≤ vs.length) (h1 : ∀ v ∈ news, v.oneCell' = true)
    (hk : ∀ w', Own e w' (blk g T (vs.take o ++ news ++ vs.drop (o + news.length)) :: F) → k (.int .i64 (news.length : Nat)) w') : RunR P (builtinV .copy #[dT, dT] ty #[.slice (some ((⟨g, 0, none⟩ : Addr).add o)) n c, .slice q2 m c2]) w k := by
  obtain ⟨a, rfl, hsrc⟩ := hsrc
  rw [add0]
  show RunR P (Builtin.copy_ #[dT, dT] ty #[.slice (some ⟨g, o, none⟩) n c, .slice (some a) m c2]) w k
  have hrun := run_copy_row (P := P) w dT dT ty elem g o n c a m c2 vs.toArray T news hu hs h.get hl hsrc (by simpa using hfit) h1
  refine ⟨_, _, hrun, hk _ ?_⟩
  refine h.step ⟨rfl, rfl, rfl⟩ fun h1 hA hsub => ⟨one g _, one_self _ _, one_sub ?_, fun b hb => ?_, fun b hb hlt => ?_⟩
  · rw [setRow_heap w g _ _ T _ (hsub g _ hA)]
  · rw [one_ne hb]; left; rw [show h1 g = some _ from hA]; simp
  · refine setRow_other w g b _ ?_
    intro e; subst e; rw [show h1 b = some _ from hA] at hb; cases hb
theorem Own.freeze (h : Own e w (blk g T vs :: F)) : Own e (w.freeze ⟨g, vs.length, none⟩ 1) (pt g (.cells vs.toArray T (vs.length, vs.length + 1)) :: F) := by
  refine h.step ⟨rfl, rfl, rfl⟩ fun h1 hA hsub => ⟨one g _, one_self _ _, one_sub ?_, fun b hb => ?_, fun b hb hlt => ?_⟩
  · have := hsub g _ hA
    unfold World.freeze
    rw [if_neg (by decide)]
    simp [Array.getElem?_modify, this]
  · rw [one_ne hb]; left; rw [show h1 g = some _ from hA]; simp
  · have hne : g ≠ b := by
      intro e; subst e; rw [show h1 g = some _ from hA] at hb; cases hb
    unfold World.freeze
    rw [if_neg (by decide)]
    simp [Array.getElem?_modify, hne]
theorem Own.mark {P : Program} {t E : TypeId} {n c : Nat} {k : Value → World → Prop} (h : Own e w (blk g T vs :: F)) (ht : P.underlying t = some (.slice E)) (he : P.underlying E = some (.int .u8))
    (hk : ∀ w', Own e w' (pt g (.cells vs.toArray T (vs.length, vs.length + 1)) :: F) → k (.slice (some ⟨g, 0, none⟩) n c) w') : RunR P (convert t t (.slice (some ⟨g, 0, none⟩) n c)) w k := by
  have hg := h.get
  have hsh : w.shape? g = some (T, vs.length) := by unfold World.shape?; rw [hg]; simp
  refine ⟨_, w.freeze ⟨g, vs.length, none⟩ 1, ?_, hk _ h.freeze⟩
  simp [convert, run_underlying ht, run_underlying he, markStringish, hsh]
theorem Own.ptRd {fr : Nat × Nat} (h : Own e w (pt g (.cells vs.toArray T fr) :: F)) : RdC w (some ⟨g, 0, none⟩) vs := by
  have hg := h.get
  refine .inr ⟨_, rfl, fun j u hj => ?_⟩
  have e0 : (⟨g, 0, none⟩ : Addr).add j = ⟨g, j, none⟩ := add0 g j
  rw [e0]
  simpa [World.cell?, hg] using hj
end
/-! ### Words -/
section
variable {e w : World} {F : List HP} {x s : Int} {q : Option Addr} {n c : Nat} {bs : List Int}
theorem wdTurn {K : Nat} (hx : M64 x) (hK : K < 64) (h : Own e w F) : Rets Tryd.prog 97 #[.int .u64 x, .int .i64 (K : Int)] w fun v w' => v = .int .u64 (trI x K) ∧ Own e w' F := by
  obtain ⟨X, rfl⟩ := Int.eq_ofNat_of_zero_le hx.1
  have hX := hx.2
  refine word_Turn_go _ _ ?_
  unfold word_Turn_m
  rw [wU64' (n := (K : Int)) (by omega) (by omega)]
  have e1 : Int.tmod (K : Int) 64 = (K : Int) := by rw [Int.tmod_eq_emod_of_nonneg (by omega)]; omega
  rw [e1, wU64' (n := 64 - (K : Int)) (by omega) (by omega)]
  refine ⟨by omega, by omega, by omega, ?_, h⟩
  have e2 : (64 : Int) - (K : Int) = ((64 - K : Nat) : Int) := by omega
  have hd : X / 2 ^ (64 - K) ≤ X := Nat.div_le_self _ _
  rw [e2, shlN X K (by omega), shrN X (64 - K) (by omega), N_or (by omega) (by omega), turn_eq X K hK (by omega)]
  rfl
def nI (l : List Nat) : List Int := l.map fun (b : Nat) => (b : Int)
abbrev bL (X : Nat) : List Int := nI (bitsN 64 X)
abbrev u64B (q : Option Addr) (n c : Nat) (xs : List Int) : HP := slO 33 1 q n c (cs .u64 xs)
theorem putU {k : Value → World → Prop} {g c2 : Nat} {xs : List Int} {y : Int} (h : Own e w (blk g 33 [.int .u64 y] :: u64B q n c xs :: F)) (hn : n + 1 ≤ 1000000)
    (hk : ∀ q' c' w', Own e w' (u64B q' (n + 1) c' (xs ++ [y]) :: F) → k (.slice q' (n + 1) c') w') :
    RunR Tryd.prog (builtinV .append #[50, 50] 50 #[.slice q n c, .slice (some ⟨g, 0, none⟩) 1 c2]) w k := by
  refine Own.append (z := [.int .u64 0]) (b := 8) (news := [.int .u64 y]) h.swap (by kernel_rfl) (by kernel_rfl) (by kernel_rfl) (by kernel_rfl) (by kernel_rfl) (by omega) h.blkRd rfl (by simp [Value.oneCell']) (by unfold maxLen; omega) (by omega) fun q' c' w' h _ => ?_
  have e1 : cs .u64 xs ++ [.int .u64 y] = cs .u64 (xs ++ [y]) := by simp [cs]
  rw [e1] at h
  exact hk q' c' w' h.swap.drop
theorem rfBits {X : Nat} (hX : X < 18446744073709551616) (h : Own e w F) : Rets Tryd.prog 83 #[.int .u64 (X : Int)] w fun v w' => ∃ q' c', v = .slice q' 64 c' ∧ Own e w' (u64B q' 64 c' (bL X) :: F) := by
  have hbl : (bL X).length = 64 := by simp [nI, bitsN_length]
  refine cortadoref01_Bits_go _ ⟨fun m vs w => ∃ (i : Nat) (q' : Option Addr) (c' : Nat), vs = [.int .u64 ((X / 2 ^ i : Nat) : Int), .slice q' i c', .int .i64 (i : Int)] ∧ m + i = 64 ∧ Own e w (u64B q' i c' ((bL X).take i) :: F), ⟨64, 0, none, 0, by simp, rfl, h.slNil⟩, ?_⟩
  rintro m w n1 q1 k3 k4 n2
  intros
  rename_i hI
  obtain ⟨i, q', c', hvs, hm, h⟩ := hI
  obtain ⟨rfl, ⟨rfl, rfl, rfl⟩, rfl⟩ : n1 = ((X / 2 ^ i : Nat) : Int) ∧ (q1 = q' ∧ k3 = i ∧ k4 = c') ∧ n2 = (i : Int) := by simpa using hvs
  refine ⟨fun hc => ?_, fun hc => ?_⟩
  · have hc := dec_t hc
    refine ⟨by omega, h.newR fun g w h => ?_⟩
    have e1 : (bL X).take (k3 + 1) = (bL X).take k3 ++ [Int.tmod ((X / 2 ^ k3 : Nat) : Int) 2] := by
      rw [List.take_succ_eq_append_getElem (by omega)]
      congr 2
      simp only [nI, List.getElem_map]
      rw [bits_get]; rfl
    have hle : X / 2 ^ (k3 + 1) ≤ X := Nat.div_le_self _ _
    refine putU h (by omega) fun q2 c2 w h => ⟨_, _, _, rfl, by omega, m - 1, by omega, k3 + 1, _, _, ?_, by omega, by rw [e1]; exact h⟩
    have e2 : Int.tdiv ((X / 2 ^ k3 : Nat) : Int) 2 = ((X / 2 ^ (k3 + 1) : Nat) : Int) := by
      have : Int.tdiv ((X / 2 ^ k3 : Nat) : Int) 2 = ((X / 2 ^ k3 / 2 : Nat) : Int) := rfl
      rw [this, Nat.div_div_eq_div_mul]; rfl
    rw [e2]
    generalize X / 2 ^ (k3 + 1) = Y at hle ⊢
    rw [wU64' (by omega) (by omega), wI64 (by omega) (by omega)]; rfl
  · have hc := dec_f hc
    obtain rfl : k3 = 64 := by omega
    rw [List.take_of_length_le (by omega)] at h
    exact ⟨_, _, rfl, h⟩
theorem rfOf {l : List Nat} (hb : Bin l) (hl : l.length ≤ 64) (hr : ∀ w, Own e w F → RdC w q (cs .u64 (nI l))) (h : Own e w F) : Rets Tryd.prog 84 #[.slice q l.length c] w fun v w' => v = .int .u64 (natOf l : Int) ∧ Own e w' F := by
  refine cortadoref01_Of_go _ _ _ ⟨fun m vs w => ∃ i : Nat, vs = [.int .u64 ((natOf (l.drop i) : Nat) : Int), .int .i64 ((i : Int) - 1)] ∧ m = i ∧ i ≤ l.length ∧ Own e w F, ⟨l.length, l.length, ?_, rfl, Nat.le_refl _, h⟩, ?_⟩
  · rw [wI64 (by omega) (by omega), List.drop_length]; rfl
  rintro m w n1 n2
  intros
  rename_i hI
  obtain ⟨i, hvs, rfl, hil, h⟩ := hI
  obtain ⟨rfl, rfl⟩ : n1 = ((natOf (l.drop m) : Nat) : Int) ∧ n2 = (m : Int) - 1 := by simpa using hvs
  refine ⟨fun hc => ?_, fun hc => ?_⟩
  · have hc := dec_t hc
    obtain ⟨d, rfl⟩ : ∃ d, m = d + 1 := ⟨m - 1, by omega⟩
    have hlt : d < l.length := by omega
    have ed : ((d + 1 : Nat) : Int) - 1 = (d : Int) := by omega
    rw [ed, Int.toNat_natCast]
    refine ⟨by omega, by omega, (hr w h).int (i := d) (by simpa [nI] using hlt) fun a ha => ⟨_, ha, d, by omega, d, ?_, rfl, by omega, h⟩⟩
    have hbd : Bin (l.drop d) := fun b hx => hb b (List.mem_of_mem_drop hx)
    have hlt2 := natOf_lt _ hbd
    have hle : 2 ^ (l.drop d).length ≤ 2 ^ 64 := Nat.pow_le_pow_right (by omega) (by rw [List.length_drop]; omega)
    rw [pow64] at hle
    have hlt3 := Nat.lt_of_lt_of_le hlt2 hle
    have es : natOf (l.drop d) = l[d] + 2 * natOf (l.drop (d + 1)) := by rw [List.drop_eq_getElem_cons hlt]; rfl
    have eg : (nI l)[d]'(by simpa [nI] using hlt) = ((l[d] : Nat) : Int) := by simp [nI]
    rw [eg, wU64' (n := 2 * _) (by omega) (by omega), wU64' (by omega) (by omega), wI64 (by omega) (by omega)]
    congr 3
    omega
  · have hc := dec_f hc
    obtain rfl : m = 0 := by omega
    exact ⟨rfl, h⟩
theorem rfTurn {K : Nat} (hx : M64 x) (hK : K < 64) (h : Own e w F) : Rets Tryd.prog 78 #[.int .u64 x, .int .i64 (K : Int)] w fun v w' => v = .int .u64 (trI x K) ∧ Own e w' F := by
  obtain ⟨X, rfl⟩ := Int.eq_ofNat_of_zero_le hx.1
  have hX := hx.2
  refine cortadoref01_Turn_go _ _ ?_
  refine Rets.mono (rfBits (X := X) (by omega) h) ?_
  rintro _ w ⟨q1, c1, rfl, h⟩
  have e1 : Int.tmod (K : Int) 64 = (K : Int) := by rw [Int.tmod_eq_emod_of_nonneg (by omega)]; omega
  refine ⟨_, _, _, rfl, by omega, fun vs w => vs = [.int .i64 (K : Int)] ∧ Own e w (u64B q1 64 c1 (bL X) :: F), ⟨fun hc => ?_, fun hc => ⟨by rw [e1], h⟩⟩, ?_⟩
  · have hc := dec_t hc; omega
  clear h
  rintro w n1
  intros
  rename_i hI
  obtain ⟨hvs, h⟩ := hI
  obtain rfl : n1 = (K : Int) := by simpa using hvs
  have hb := bin_bits 64 X
  have hbl : (bitsN 64 X).length = 64 := bitsN_length 64 X
  have hrl : (rot K (bitsN 64 X)).length = 64 := by rw [rot_length, hbl]
  refine ⟨fun m vs w => ∃ (i : Nat) (q' : Option Addr) (c' : Nat), vs = [.slice q' i c', .int .i64 (i : Int)] ∧ m + i = 64 ∧ Own e w (u64B q' i c' (nI ((rot K (bitsN 64 X)).take i)) :: u64B q1 64 c1 (bL X) :: F), ⟨64, 0, none, 0, rfl, rfl, h.slNil⟩, ?_⟩
  rintro m w q2 k5 k6 n2
  intros
  rename_i hI
  obtain ⟨i, q', c', hvs, hm, h⟩ := hI
  obtain ⟨⟨rfl, rfl, rfl⟩, rfl⟩ : (q2 = q' ∧ k5 = i ∧ k6 = c') ∧ n2 = (i : Int) := by simpa using hvs
  refine ⟨fun hc => ?_, fun hc => ?_⟩
  · have hc := dec_t hc
    have ej : Int.tmod (IntKind.wrap .i64 (IntKind.wrap .i64 ((k5 : Int) + 64) - (K : Int))) 64 = (((k5 + 64 - K) % 64 : Nat) : Int) := by
      rw [wI64 (n := (k5 : Int) + 64) (by omega) (by omega), wI64 (by omega) (by omega), Int.tmod_eq_emod_of_nonneg (by omega)]; omega
    rw [ej, Int.toNat_natCast]
    have hjl : (k5 + 64 - K) % 64 < (bL X).length := by simp only [nI, List.length_map, hbl]; omega
    refine ⟨by omega, by omega, by omega, h.drop.slRd.int (i := (k5 + 64 - K) % 64) hjl fun a ha => ⟨_, ha, h.newR fun g w h => ?_⟩⟩
    have hi2 : k5 < (rot K (bitsN 64 X)).length := by omega
    have hval : (bL X)[(k5 + 64 - K) % 64] = (((rot K (bitsN 64 X))[k5] : Nat) : Int) := by
      simp only [nI, List.getElem_map]
      congr 1
      apply Option.some.inj
      rw [← List.getElem?_eq_getElem, ← List.getElem?_eq_getElem]
      unfold rot
      have hdl : ((bitsN 64 X).drop (64 - K)).length = K := by rw [List.length_drop]; omega
      by_cases h1 : k5 < K
      · rw [List.getElem?_append_left (by omega), List.getElem?_drop, show (k5 + 64 - K) % 64 = 64 - K + k5 by omega]
      · rw [List.getElem?_append_right (by omega), List.getElem?_take_of_lt (by omega), show (k5 + 64 - K) % 64 = k5 - ((bitsN 64 X).drop (64 - K)).length by omega]
    rw [hval] at h
    refine putU h (by omega) fun q3 c3 w h => ⟨_, _, _, rfl, m - 1, by omega, k5 + 1, q3, c3, ?_, by omega, ?_⟩
    · rw [wI64 (by omega) (by omega)]; rfl
    · rw [List.take_succ_eq_append_getElem hi2, show nI ((rot K (bitsN 64 X)).take k5 ++ [(rot K (bitsN 64 X))[k5]]) = nI ((rot K (bitsN 64 X)).take k5) ++ [(((rot K (bitsN 64 X))[k5] : Nat) : Int)] from by simp only [nI, List.map_append, List.map_cons, List.map_nil]]; exact h
  · have hc := dec_f hc
    obtain rfl : k5 = 64 := by omega
    rw [List.take_of_length_le (by omega)] at h
    have := rfOf (l := rot K (bitsN 64 X)) (c := k6) (bin_rot hb) (by omega) (fun w h => h.slRd) h
    rw [hrl] at this
    refine Rets.mono this ?_
    rintro _ w ⟨rfl, h⟩
    exact ⟨_, rfl, rfl, h.drop.drop⟩
/-! ### Bytes, as a number -/
theorem xxNumber (hb : By bs) (hl : bs.length ≤ 8) (hr : ∀ w, Own e w F → RdC w q (cs .u8 bs)) (h : Own e w F) : Rets Tryd.prog 96 #[.slice q bs.length c] w fun v w' => v = .int .u64 (numN bs : Int) ∧ Own e w' F := by
  refine xx_number_go _ _ _ ⟨fun m vs w => ∃ i : Nat, vs = [.int .u64 ((numN (bs.take i) : Nat) : Int), .int .i64 (i : Int)] ∧ m + i = bs.length ∧ Own e w F, ⟨bs.length, 0, rfl, rfl, h⟩, ?_⟩
  rintro m w n1 v1 n2
  intros
  rename_i hI
  obtain ⟨i, hvs, hm, h⟩ := hI
  obtain ⟨rfl, rfl⟩ : n1 = ((numN (bs.take i) : Nat) : Int) ∧ n2 = (i : Int) := by simpa using hvs
  refine ⟨fun hc => ?_, fun hc => ?_⟩
  · have hc := dec_t hc
    have hil : i < bs.length := by omega
    have hx := hb bs[i] (List.getElem_mem hil)
    have e1 : IntKind.wrap .u64 (8 * IntKind.wrap .u64 (i : Int)) = ((8 * i : Nat) : Int) := by
      rw [wU64' (n := (i : Int)) (by omega) (by omega), wU64' (by omega) (by omega)]; omega
    obtain ⟨b, hbe⟩ := Int.eq_ofNat_of_zero_le hx.1
    have hb256 : b < 256 := by omega
    have hlt := numN_lt (bs.take i) (hb.take i)
    rw [List.length_take, Nat.min_eq_left (by omega), p256] at hlt
    have hp : 2 ^ (8 * i) * 256 ≤ 18446744073709551616 := by
      have : 2 ^ (8 * i) * 2 ^ 8 ≤ 2 ^ 64 := by rw [← Nat.pow_add]; exact Nat.pow_le_pow_right (by omega) (by omega)
      exact this
    have hpp : 0 < 2 ^ (8 * i) := Nat.pow_pos (by omega)
    have hmul : 2 ^ (8 * i) * b < 18446744073709551616 := by
      have : 2 ^ (8 * i) * b ≤ 2 ^ (8 * i) * 255 := Nat.mul_le_mul_left _ (by omega)
      omega
    have eo : numN (bs.take i) ||| 2 ^ (8 * i) * b = numN (bs.take (i + 1)) := by
      rw [Nat.or_comm, ← Nat.two_pow_add_eq_or_of_lt hlt, List.take_succ_eq_append_getElem hil, numN_snoc, List.length_take, Nat.min_eq_left (by omega), p256, hbe, Int.toNat_natCast]; omega
    refine ⟨by omega, by omega, (hr w h).int (i := i) hil fun a ha => ⟨_, by rw [Int.toNat_natCast]; exact ha, ?_⟩⟩
    rw [hbe, wU64' (n := (b : Int)) (by omega) (by omega), e1, shlN b (8 * i) (by omega), Nat.mul_comm b, Nat.mod_eq_of_lt hmul, N_or (by omega) hmul, eo]
    refine ⟨by omega, m - 1, by omega, i + 1, ?_, by omega, h⟩
    rw [wI64 (by omega) (by omega)]; rfl
  · have hc := dec_f hc
    obtain rfl : i = bs.length := by omega
    rw [List.take_length]
    exact ⟨rfl, h⟩
theorem rfNumber (hb : By bs) (hl : bs.length ≤ 8) (hr : ∀ w, Own e w F → RdC w q (cs .u8 bs)) (h : Own e w F) : Rets Tryd.prog 80 #[.slice q bs.length c] w fun v w' => v = .int .u64 (numN bs : Int) ∧ Own e w' F := by
  refine cortadoref04_Number_go _ _ _ ⟨fun m vs w => ∃ i : Nat, vs = [.int .u64 ((numN (bs.drop i) : Nat) : Int), .int .i64 ((i : Int) - 1)] ∧ m = i ∧ i ≤ bs.length ∧ Own e w F, ⟨bs.length, bs.length, ?_, rfl, Nat.le_refl _, h⟩, ?_⟩
  · rw [wI64 (by omega) (by omega), List.drop_length]; rfl
  rintro m w n1 n2
  intros
  rename_i hI
  obtain ⟨i, hvs, rfl, hil, h⟩ := hI
  obtain ⟨rfl, rfl⟩ : n1 = ((numN (bs.drop m) : Nat) : Int) ∧ n2 = (m : Int) - 1 := by simpa using hvs
  refine ⟨fun hc => ?_, fun hc => ?_⟩
  · have hc := dec_t hc
    obtain ⟨d, rfl⟩ : ∃ d, m = d + 1 := ⟨m - 1, by omega⟩
    have hlt : d < bs.length := by omega
    have ed : ((d + 1 : Nat) : Int) - 1 = (d : Int) := by omega
    have hx := hb bs[d] (List.getElem_mem hlt)
    rw [ed, Int.toNat_natCast]
    refine ⟨by omega, by omega, (hr w h).int (i := d) hlt fun a ha => ⟨_, ha, d, by omega, d, ?_, rfl, by omega, h⟩⟩
    have hs : numN (bs.drop d) = bs[d].toNat + 256 * numN (bs.drop (d + 1)) := by rw [List.drop_eq_getElem_cons hlt]; rfl
    have h64 := numN_64 (bs.drop d) (hb.drop d) (by rw [List.length_drop]; omega)
    rw [wU64' (n := 256 * _) (by omega) (by omega), wU64' (n := bs[d]) (by omega) (by omega), wU64' (by omega) (by omega), wI64 (by omega) (by omega)]
    congr 3
    omega
  · have hc := dec_f hc
    obtain rfl : m = 0 := by omega
    exact ⟨rfl, h⟩
def xPL : List Int := [xP1, xP2, xP3, xP4, xP5]
theorem rfP {i : Nat} (hi : 1 ≤ i ∧ i ≤ 5) (h : Own e w F) : Rets Tryd.prog 76 #[.int .i64 (i : Int)] w fun v w' => v = .int .u64 (xPL.getD (i - 1) 0) ∧ Own e w' F := by
  refine cortadoref04_P_go _ (h.newR fun g w h => ?_)
  have h : Own e w (blk g 33 (cs .u64 xPL) :: F) := h
  have e1 : IntKind.wrap .i64 ((i : Int) - 1) = ((i - 1 : Nat) : Int) := by rw [wI64 (by omega) (by omega)]; omega
  rw [e1]
  have hlt : i - 1 < xPL.length := by show i - 1 < 5; omega
  refine ⟨by omega, by omega, _, by rw [Int.toNat_natCast, Nat.mul_one]; exact h.cellAdd (i - 1) (cs_at hlt), ?_, h.drop⟩
  rw [List.getD_eq_getElem?_getD, List.getElem?_eq_getElem hlt]; rfl
theorem xxRound (h : Own e w F) : Rets Tryd.prog 95 #[.int .u64 s, .int .u64 x] w fun v w' => v = .int .u64 (rdI s x) ∧ Own e w' F := by
  refine xx_round_go _ _ ?_
  refine Rets.mono (wdTurn (K := 31) (M64.w _) (by omega) h) ?_
  rintro _ w ⟨rfl, h⟩
  exact ⟨_, rfl, rfl, h⟩
theorem rfRound (h : Own e w F) : Rets Tryd.prog 79 #[.int .u64 s, .int .u64 x] w fun v w' => v = .int .u64 (rdI s x) ∧ Own e w' F := by
  refine cortadoref04_round_go _ _ ?_
  refine Rets.mono (rfP (i := 2) (by omega) h) ?_
  rintro _ w ⟨rfl, h⟩
  refine ⟨_, rfl, ?_⟩
  refine Rets.mono (rfTurn (K := 31) (M64.w _) (by omega) h) ?_
  rintro _ w ⟨rfl, h⟩
  refine ⟨_, rfl, ?_⟩
  refine Rets.mono (rfP (i := 1) (by omega) h) ?_
  rintro _ w ⟨rfl, h⟩
  exact ⟨_, rfl, rfl, h⟩
end
end Go.Proofs.YtipcbhaeoeghnaaDoor.Eng
