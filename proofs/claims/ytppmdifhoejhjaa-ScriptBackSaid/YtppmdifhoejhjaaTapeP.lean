/- Tapes: what each function of the program and of the document's answer does. -/
import Derived.Test.YtppmdifhoejhjaaEngT
import Derived.Test.YtppmdifhoejhjaaTapeG
namespace Go.Proofs.Ytppmdifhoejhjaa.Eng
open Go Go.RowKit Go.Proofs
set_option linter.unusedVariables false
set_option linter.unusedSimpArgs false

/-- What a tape's cells are. -/
abbrev tapeB (T : TypeId) (g : Nat) (q : Option Addr) (n c at_ : Nat) : HP := blk g T [.slice q n c, .int .i64 (at_ : Int)]
def tbV (bs : List Int) (at_ : Nat) : Int := bs.getD at_ 0
def tbA (bs : List Int) (at_ : Nat) : Nat := if at_ < bs.length then at_ + 1 else at_
section
variable {e w : World} {F : List HP} {g : Nat} {q : Option Addr} {n c at_ : Nat} {bs : List Int}
theorem Left_spec (h : Own e w (tapeB 76 g q n c at_ :: F)) (hat : at_ ≤ n) (hn : n ≤ 1000000) :
    Rets Try.prog 53 #[.pointer (some ⟨g, 0, none⟩)] w fun v w' => v = .int .i64 ((n - at_ : Nat) : Int) ∧ Own e w' (tapeB 76 g q n c at_ :: F) := by
  refine tape_Tape_Left_go _ ?_
  refine ⟨fun hc => (by cases hc), fun _ => h.drw fun w1 h => ⟨_, _, _, h.cellAdd 0 rfl, _, h.cellAdd 1 rfl, ?_, h⟩⟩
  rw [wI64 (by omega) (by omega), Int.ofNat_sub hat]
theorem Byte_spec (h : Own e w (tapeB 76 g q bs.length c at_ :: F)) (hrd : ∀ w a, Own e w (tapeB 76 g q bs.length c a :: F) → RdC w q (cs .u8 bs)) (hat : at_ ≤ bs.length) (hn : bs.length ≤ 1000000) (hb : ∀ x ∈ bs, 0 ≤ x ∧ x < 256) :
    Rets Try.prog 41 #[.pointer (some ⟨g, 0, none⟩)] w fun v w' => v = .int .i64 (tbV bs at_) ∧ Own e w' (tapeB 76 g q bs.length c (tbA bs at_) :: F) := by
  refine tape_Tape_Byte_go _ ?_
  unfold tape_Tape_Byte_m
  refine Rets.mono (Left_spec h hat hn) ?_
  rintro v w1 ⟨rfl, h⟩
  refine ⟨_, rfl, fun hc => ?_, fun hc => ?_⟩
  · have hc := beq_t hc
    have hge : ¬ at_ < bs.length := by omega
    refine ⟨?_, ?_⟩
    · unfold tbV; rw [List.getD_eq_getElem?_getD, List.getElem?_eq_none (by omega)]; rfl
    · unfold tbA; rw [if_neg hge]; exact h
  · have hc := beq_f hc
    have hlt : at_ < bs.length := by omega
    refine ⟨_, h.cellAdd 1 rfl, ?_⟩
    refine h.store (by simp) (by simp [Value.oneCell']) fun w2 h => ?_
    rw [wI64 (by omega) (by omega)] at h
    have h : Own e w2 (tapeB 76 g q bs.length c (at_ + 1) :: F) := h
    refine h.drw fun w3 h => ⟨_, _, _, h.cellAdd 0 rfl, _, h.cellAdd 1 rfl, ?_⟩
    have e1 : IntKind.wrap IntKind.i64 (((at_ + 1 : Nat) : Int) - 1) = (at_ : Int) := by rw [wI64 (by omega) (by omega)]; omega
    rw [e1]
    refine ⟨by omega, by omega, (hrd _ _ h).int (i := at_) hlt fun a ha => ⟨_, ha, ?_, ?_⟩⟩
    · have := hb _ (List.getElem_mem hlt)
      rw [wI64 (by omega) (by omega)]
      unfold tbV; rw [List.getD_eq_getElem?_getD, List.getElem?_eq_getElem hlt]; rfl
    · unfold tbA; rw [if_pos hlt]; exact h
end
/-! ### A number -/
theorem tbV_bd {bs : List Int} (hb : ∀ x ∈ bs, 0 ≤ x ∧ x < 256) (a : Nat) : 0 ≤ tbV bs a ∧ tbV bs a < 256 := by
  unfold tbV
  rw [List.getD_eq_getElem?_getD]
  rcases Nat.lt_or_ge a bs.length with h | h
  · rw [List.getElem?_eq_getElem h]; exact hb _ (List.getElem_mem h)
  · rw [List.getElem?_eq_none h]; simp
theorem tbA_le {bs : List Int} {a : Nat} (h : a ≤ bs.length) : tbA bs a ≤ bs.length := by unfold tbA; split <;> omega
/-- So many bytes more behind a number. -/
def rd8 (bs : List Int) : Nat → Nat → Int → Int × Nat
  | 0, a, x => (IntKind.wrap IntKind.i64 x, a)
  | k + 1, a, x => rd8 bs k (tbA bs a) ((256 * x + tbV bs a) % 18446744073709551616)
def tInt (bs : List Int) (a : Nat) : Int × Nat :=
  if tbV bs a < 200 then (tbV bs a, tbA bs a)
  else if tbV bs a < 255 then ((tbV bs a - 200) * 256 + 200 + tbV bs (tbA bs a), tbA bs (tbA bs a))
  else rd8 bs 8 (tbA bs a) 0
theorem or_low {x b : Int} (hx : 0 ≤ x ∧ x < 18446744073709551616) (hb : 0 ≤ b ∧ b < 256) : Go.bits BinOp.or IntKind.u64 (shlI IntKind.u64 x 8) b = (256 * x + b) % 18446744073709551616 := by
  obtain ⟨n, rfl⟩ := Int.eq_ofNat_of_zero_le hx.1
  obtain ⟨m, rfl⟩ := Int.eq_ofNat_of_zero_le hb.1
  have e1 : shlI IntKind.u64 (n : Int) 8 = ((n * 256 % 18446744073709551616 : Nat) : Int) := by
    unfold shlI
    rw [wU64]
    simp [IntKind.bits]
  rw [e1]
  have e2 : (BitVec.ofInt 64 ((n * 256 % 18446744073709551616 : Nat) : Int) ||| BitVec.ofInt 64 (m : Int)).toNat = (n * 256 % 18446744073709551616) ||| m := by
    rw [BitVec.toNat_or, BitVec.ofInt_natCast, BitVec.ofInt_natCast, BitVec.toNat_ofNat, BitVec.toNat_ofNat]
    have k1 : n * 256 % 18446744073709551616 % 2 ^ 64 = n * 256 % 18446744073709551616 := Nat.mod_mod _ _
    have k2 : m % 2 ^ 64 = m := Nat.mod_eq_of_lt (by omega)
    rw [k1, k2]
  have e3 : n * 256 % 18446744073709551616 ||| m = n * 256 % 18446744073709551616 + m := by
    obtain ⟨k, hk⟩ : ∃ k, n * 256 % 18446744073709551616 = 2 ^ 8 * k := ⟨n % 72057594037927936, by omega⟩
    rw [hk, ← Nat.two_pow_add_eq_or_of_lt (by omega)]
  have e4 : Go.bits BinOp.or IntKind.u64 ((n * 256 % 18446744073709551616 : Nat) : Int) (m : Int) = IntKind.wrap IntKind.u64 (((BitVec.ofInt 64 ((n * 256 % 18446744073709551616 : Nat) : Int) ||| BitVec.ofInt 64 (m : Int)).toNat : Nat) : Int) := rfl
  rw [e4, e2, e3, wU64]
  omega
section
variable {e w : World} {F : List HP} {g : Nat} {q : Option Addr} {n c at_ : Nat} {bs : List Int}
theorem Int_spec (h : Own e w (tapeB 76 g q bs.length c at_ :: F)) (hrd : ∀ w a, Own e w (tapeB 76 g q bs.length c a :: F) → RdC w q (cs .u8 bs)) (hat : at_ ≤ bs.length) (hn : bs.length ≤ 1000000) (hb : ∀ x ∈ bs, 0 ≤ x ∧ x < 256) :
    Rets Try.prog 39 #[.pointer (some ⟨g, 0, none⟩)] w fun v w' => v = .int .i64 (tInt bs at_).1 ∧ Own e w' (tapeB 76 g q bs.length c (tInt bs at_).2 :: F) := by
  refine tape_Tape_Int_go _ ?_
  unfold tape_Tape_Int_m
  refine Rets.mono (Byte_spec h hrd hat hn hb) ?_
  rintro v w1 ⟨rfl, h⟩
  have hv := tbV_bd hb at_
  have ha1 := tbA_le hat
  have hv1 := tbV_bd hb (tbA bs at_)
  refine ⟨_, rfl, fun hc => ?_, fun hc => ⟨fun hc2 => ?_, fun hc2 => ?_⟩⟩
  · have hc := dec_t hc
    unfold tInt; rw [if_pos hc]; exact ⟨rfl, h⟩
  · have hc := dec_f hc; have hc2 := dec_t hc2
    refine Rets.mono (Byte_spec h hrd ha1 hn hb) ?_
    rintro v w2 ⟨rfl, h⟩
    refine ⟨_, rfl, ?_⟩
    unfold tInt; rw [if_neg hc, if_pos hc2]
    refine ⟨?_, h⟩
    rw [wI64 (n := tbV bs at_ - 200) (by omega) (by omega), wI64 (n := (tbV bs at_ - 200) * 256) (by omega) (by omega), wI64 (n := (tbV bs at_ - 200) * 256 + 200) (by omega) (by omega), wI64 (by omega) (by omega)]
  · have hc := dec_f hc; have hc2 := dec_f hc2
    have et : tInt bs at_ = rd8 bs 8 (tbA bs at_) 0 := by unfold tInt; rw [if_neg hc, if_neg hc2]
    rw [et]
    refine ⟨fun m vs w' => ∃ (i a : Nat) (x : Int), vs = [.int .u64 x, .int .i64 (i : Int)] ∧ m + i = 8 ∧ (0 ≤ x ∧ x < 18446744073709551616) ∧ rd8 bs m a x = rd8 bs 8 (tbA bs at_) 0 ∧ a ≤ bs.length ∧ Own e w' (tapeB 76 g q bs.length c a :: F), ⟨8, 0, _, 0, rfl, rfl, by omega, rfl, ha1, h⟩, ?_⟩
    rintro m w3 x' i' v3 v4 v5 v6 v7 v8 v9 v10 ⟨i, a, x, hvs, hm, hx, hr, ha, h⟩
    obtain ⟨rfl, rfl⟩ : x' = x ∧ i' = (i : Int) := by simpa using hvs
    refine ⟨fun hc => ⟨by omega, ?_⟩, fun hc => ?_⟩
    · have hc := dec_t hc
      refine Rets.mono (Byte_spec h hrd ha hn hb) ?_
      rintro v w4 ⟨rfl, h⟩
      have hva := tbV_bd hb a
      obtain ⟨m, rfl⟩ : ∃ k, m = k + 1 := ⟨m - 1, by omega⟩
      refine ⟨_, rfl, m, by omega, i + 1, _, _, ?_, by omega, ?_, hr, tbA_le ha, h⟩
      · rw [wU64' hva.1 (by omega), or_low hx hva, wI64 (by omega) (by omega)]; simp
      · omega
    · have hc := dec_f hc
      obtain rfl : m = 0 := by omega
      rw [← hr]
      exact ⟨rfl, h⟩
theorem tInt_le {bs : List Int} {a : Nat} (h : a ≤ bs.length) : (tInt bs a).2 ≤ bs.length := by
  have h8 : ∀ k a x, a ≤ bs.length → (rd8 bs k a x).2 ≤ bs.length := by
    intro k
    induction k with
    | zero => intro a x h; exact h
    | succ k ih => intro a x h; exact ih _ _ (tbA_le h)
  unfold tInt
  split
  · exact tbA_le h
  · split
    · exact tbA_le (tbA_le h)
    · exact h8 _ _ _ (tbA_le h)
theorem Below_spec {k : Int} (h : Own e w (tapeB 76 g q bs.length c at_ :: F)) (hrd : ∀ w a, Own e w (tapeB 76 g q bs.length c a :: F) → RdC w q (cs .u8 bs)) (hat : at_ ≤ bs.length) (hn : bs.length ≤ 1000000) (hb : ∀ x ∈ bs, 0 ≤ x ∧ x < 256) :
    Rets Try.prog 38 #[.pointer (some ⟨g, 0, none⟩), .int .i64 k] w fun v w' => v = .int .i64 (if k < 1 then 0 else (tbV bs at_).tmod k) ∧ Own e w' (tapeB 76 g q bs.length c (if k < 1 then at_ else tbA bs at_) :: F) := by
  refine tape_Tape_Below_go _ _ ?_
  refine ⟨fun hc => ?_, fun hc => ?_⟩
  · have hc := dec_t hc
    rw [if_pos hc, if_pos hc]; exact ⟨rfl, h⟩
  · have hc := dec_f hc
    rw [if_neg hc, if_neg hc]
    refine Rets.mono (Byte_spec h hrd hat hn hb) ?_
    rintro v w1 ⟨rfl, h⟩
    exact ⟨_, rfl, by omega, rfl, h⟩
end
end Go.Proofs.Ytppmdifhoejhjaa.Eng
