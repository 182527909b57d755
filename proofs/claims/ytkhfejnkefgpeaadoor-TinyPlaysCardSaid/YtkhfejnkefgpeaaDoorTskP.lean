/- Sketches: powers, places; what each function does. -/
import Derived.Test.YtkhfejnkefgpeaaDoorMixP
import Derived.Test.YtkhfejnkefgpeaaDoorBitW
import Derived.Test.YtkhfejnkefgpeaaDoorNibR
import Derived.Test.YtkhfejnkefgpeaaDoorSkeG
import Derived.Test.YtkhfejnkefgpeaaDoorDoorP
import Derived.Test.YtkhfejnkefgpeaaDoorIntP
import Derived.Test.YtkhfejnkefgpeaaDoorEngW
namespace Go.Proofs.YtkhfejnkefgpeaaDoor.Eng
open Go Go.RowKit Go.Proofs
set_option linter.unusedVariables false
set_option linter.unusedSimpArgs false
set_option maxRecDepth 1000000
/-- One table is laid. -/
def MixOne (W : World) : Prop := (∃ t fr, W.heap[0]? = some (.cells #[.int .i64 30, .int .u64 13787848793156543929, .int .i64 27, .int .u64 10723151780598845931, .int .i64 31, .int .u64 1] t fr)) ∧ (False → True)
theorem MixOne.rd {W : World} (h : MixOne W) : RdC W mixQ mixC := by
  obtain ⟨⟨t, fr, h⟩, _⟩ := h
  exact rd_laid (l := mixC) h
/-! ### Powers -/
def pwS (n : Int) (m : Nat) : Prop := n ≤ ((2 ^ m : Nat) : Int) ∧ ((2 ^ m : Nat) : Int) < 2 * n
theorem pwS.le {n : Int} {a b : Nat} (h1 : pwS n a) (h2 : pwS n b) : b ≤ a := by
  refine Nat.le_of_not_lt fun hlt => ?_
  have : 2 ^ (a + 1) ≤ 2 ^ b := Nat.pow_le_pow_right (by omega) hlt
  rw [Nat.pow_succ] at this
  obtain ⟨h1, _⟩ := h1
  obtain ⟨_, h2⟩ := h2
  omega
theorem pwS.uniq {n : Int} {a b : Nat} (h1 : pwS n a) (h2 : pwS n b) : a = b := Nat.le_antisymm (h2.le h1) (h1.le h2)
theorem pwS.small {n : Int} {m : Nat} (h : pwS n m) (hn : n ≤ 4096) : m ≤ 12 := by
  refine Nat.le_of_not_lt fun hlt => ?_
  have : 2 ^ 13 ≤ 2 ^ m := Nat.pow_le_pow_right (by omega) hlt
  obtain ⟨_, h⟩ := h
  have e : (2 : Nat) ^ 13 = 8192 := rfl
  omega
theorem p12 {m : Nat} (h : m ≤ 12) : 0 < 2 ^ m ∧ 2 ^ m ≤ 4096 := by
  refine ⟨Nat.pow_pos (by omega), ?_⟩
  have : 2 ^ m ≤ 2 ^ 12 := Nat.pow_le_pow_right (by omega) h
  exact this
section
variable {e w : World} {F : List HP} {x n s hh : Int}
theorem wdLogS {X : Nat} (hX : X < 18446744073709551616) (h : Own e w F) : Rets Tryd.prog 49 #[.int .u64 (X : Int)] w fun v w' => (∃ i : Nat, v = .int .i64 ((i : Int) - 1) ∧ i ≤ 64 ∧ X / 2 ^ i = 0 ∧ (i = 0 ∨ X / 2 ^ (i - 1) ≠ 0)) ∧ Own e w' F := by
  refine word_Log_go _ ⟨fun m vs w => ∃ i : Nat, vs = [.int .u64 ((X / 2 ^ i : Nat) : Int), .int .i64 ((i : Int) - 1)] ∧ m = X / 2 ^ i ∧ i ≤ 64 ∧ (i = 0 ∨ X / 2 ^ (i - 1) ≠ 0) ∧ Own e w F, ⟨X, 0, by simp, by simp, by omega, .inl rfl, h⟩, ?_⟩
  clear h
  rintro m w n1 n2
  intros
  rename_i hI
  obtain ⟨i, hvs, rfl, hi, h0, h⟩ := hI
  obtain ⟨rfl, rfl⟩ : n1 = ((X / 2 ^ i : Nat) : Int) ∧ n2 = (i : Int) - 1 := by simpa using hvs
  refine ⟨fun hc => ?_, fun hc => ?_⟩
  · have hc : ¬ X / 2 ^ i = 0 := fun e => by rw [e] at hc; exact absurd hc (by decide)
    have hi64 : i < 64 := by
      refine Nat.lt_of_not_le fun hge => hc (Nat.div_eq_of_lt ?_)
      have : 2 ^ 64 ≤ 2 ^ i := Nat.pow_le_pow_right (by omega) hge
      rw [pow64] at this
      omega
    rw [show shrI IntKind.u64 ((X / 2 ^ i : Nat) : Int) 1 = ((X / 2 ^ i / 2 ^ 1 : Nat) : Int) from shrN _ 1 (by omega), Nat.div_div_eq_div_mul, ← Nat.pow_succ]
    refine ⟨by omega, X / 2 ^ (i + 1), ?_, i + 1, ?_, rfl, by omega, .inr (by rw [Nat.add_sub_cancel]; exact hc), h⟩
    · rw [Nat.pow_succ, ← Nat.div_div_eq_div_mul]
      exact Nat.div_lt_self (Nat.pos_of_ne_zero hc) (by omega)
    · rw [wI64 (by omega) (by omega)]
      congr 3
      omega
  · have hc : X / 2 ^ i = 0 := Int.ofNat.inj (show ((X / 2 ^ i : Nat) : Int) = ((0 : Nat) : Int) from bne_eq_false_iff_eq.1 hc)
    exact ⟨⟨i, rfl, hi, hc, h0⟩, h⟩
theorem wdPowerS (hn : 1 ≤ n ∧ n ≤ 4096) (h : Own e w F) : Rets Tryd.prog 33 #[.int .i64 n] w fun v w' => (∃ m : Nat, v = .int .i64 ((2 ^ m : Nat) : Int) ∧ pwS n m) ∧ Own e w' F := by
  obtain ⟨X, hX⟩ : ∃ X : Nat, n = (X : Int) + 1 := ⟨(n - 1).toNat, by omega⟩
  subst hX
  refine word_Power_go _ ?_
  unfold word_Power_m
  have e1 : maxI 1 (minI ((X : Int) + 1) 4611686018427387904) = (X : Int) + 1 := by unfold minI maxI; split <;> split <;> omega
  rw [e1, wI64 (n := (X : Int) + 1 - 1) (by omega) (by omega), wU64' (n := (X : Int) + 1 - 1) (by omega) (by omega), show (X : Int) + 1 - 1 = (X : Int) by omega]
  refine Rets.mono (wdLogS (X := X) (by omega) h) ?_
  rintro _ w ⟨⟨i, rfl, hi, h0, h1⟩, h⟩
  refine ⟨_, rfl, ?_⟩
  rw [wI64 (n := (i : Int) - 1 + 1) (by omega) (by omega), show (i : Int) - 1 + 1 = (i : Int) by omega]
  have hok : pwS ((X : Int) + 1) i := by
    have l1 : X < 2 ^ i := Nat.lt_of_div_eq_zero (Nat.pow_pos (by omega)) h0
    by_cases hi0 : i = 0
    · subst hi0
      simp at l1; subst l1
      exact ⟨by decide, by decide⟩
    · have h1 : X / 2 ^ (i - 1) ≠ 0 := by rcases h1 with h1 | h1; exact absurd h1 hi0; exact h1
      have l2 : 2 ^ (i - 1) ≤ X := by
        refine Nat.le_of_not_lt fun hlt => h1 (Nat.div_eq_of_lt hlt)
      have e2 : 2 ^ i = 2 ^ (i - 1) * 2 := by rw [← Nat.pow_succ]; congr 1; omega
      exact ⟨by omega, by omega⟩
  have hs := hok.small (by omega)
  obtain ⟨q1, q2⟩ := p12 hs
  refine ⟨by omega, ⟨i, ?_, hok⟩, h⟩
  have e3 : shlI IntKind.i64 1 (i : Int) = ((2 ^ i : Nat) : Int) := by
    unfold shlI
    have e4 : min (i : Int).toNat IntKind.i64.bits = i := by
      rw [Int.toNat_natCast]; exact Nat.min_eq_left (by show i ≤ 64; omega)
    rw [e4, Int.one_mul, show (2 : Int) ^ i = ((2 ^ i : Nat) : Int) from by rw [Int.natCast_pow]; rfl]
    exact wI64 (by omega) (by omega)
  rw [e3]
theorem rfPowerS (hn : 1 ≤ n ∧ n ≤ 4096) (h : Own e w F) : Rets Tryd.prog 36 #[.int .i64 n] w fun v w' => (∃ m : Nat, v = .int .i64 ((2 ^ m : Nat) : Int) ∧ pwS n m) ∧ Own e w' F := by
  refine cortadoref01_Power_go _ ⟨fun m vs w => ∃ i : Nat, vs = [.int .i64 ((2 ^ i : Nat) : Int), .int .i64 (i : Int)] ∧ m + i = 62 ∧ (i = 0 ∨ ((2 ^ (i - 1) : Nat) : Int) < n) ∧ Own e w F, ⟨62, 0, rfl, rfl, .inl rfl, h⟩, ?_⟩
  clear h
  rintro m w n1 n2
  intros
  rename_i hI
  obtain ⟨i, hvs, hm, h0, h⟩ := hI
  obtain ⟨rfl, rfl⟩ : n1 = ((2 ^ i : Nat) : Int) ∧ n2 = (i : Int) := by simpa using hvs
  have hi20 : i ≤ 21 := by
    rcases h0 with h0 | h0
    · omega
    · refine Nat.le_of_not_lt fun hlt => ?_
      have : 2 ^ 21 ≤ 2 ^ (i - 1) := Nat.pow_le_pow_right (by omega) (by omega)
      have e : (2 : Nat) ^ 21 = 2097152 := rfl
      omega
  refine ⟨fun hc => ⟨fun hx => ?_, fun hx => ?_⟩, fun hc => ?_⟩
  · have hx := dec_t hx
    have e2 : 2 ^ (i + 1) = 2 ^ i * 2 := Nat.pow_succ _ _
    refine ⟨m - 1, by omega, i + 1, ?_, by omega, .inr (by simpa using hx), h⟩
    rw [wI64 (n := 2 * _) (by omega) (by omega), wI64 (n := (i : Int) + 1) (by omega) (by omega), e2]
    congr 2
    · congr 1; omega
  · have hx := dec_f hx
    refine ⟨⟨i, rfl, by omega, ?_⟩, h⟩
    rcases h0 with h0 | h0
    · subst h0; simp at hx; omega
    · have e2 : 2 ^ i = 2 ^ (i - 1) * 2 := by
        by_cases hi0 : i = 0
        · subst hi0; simp at hx; omega
        · rw [← Nat.pow_succ]; congr 1; omega
      omega
  · have hc := dec_f hc; omega
end
/-! ### Places -/
def skX (a b : Int) : Int := Go.bits BinOp.xor IntKind.u64 a b
def sdI (s : Int) (i : Nat) : Int := mixI (IntKind.wrap .u64 (IntKind.wrap .u64 (s + IntKind.wrap .u64 (i : Int)) + 1))
def plc (s : Int) (M : Nat) (h : Int) (i : Nat) : Nat := (mixI (skX h (sdI s i))).toNat % M
theorem plc_lt {s h : Int} {M i : Nat} (hM : 0 < M) : plc s M h i < M := Nat.mod_lt _ hM
abbrev skB (g a0 a1 a2 a3 : Nat) (s : Int) (M : Nat) : HP := blk g 66 [.pointer (some ⟨a0, 0, none⟩), .pointer (some ⟨a1, 0, none⟩), .pointer (some ⟨a2, 0, none⟩), .pointer (some ⟨a3, 0, none⟩), .int .u64 (sdI s 0), .int .u64 (sdI s 1), .int .u64 (sdI s 2), .int .u64 (sdI s 3), .int .i64 (M : Int)]
section
variable {e w : World} {F : List HP} {s hh : Int} {g a0 a1 a2 a3 m : Nat}
theorem skPlace {i : Nat} (hi : i < 4) (hm12 : m ≤ 12) (hm1 : ∀ w, Own e w F → RdC w mixQ mixC) (h : Own e w (skB g a0 a1 a2 a3 s (2 ^ m) :: F)) :
    Rets Tryd.prog 41 #[.pointer (some ⟨g, 0, none⟩), .int .u64 hh, .int .i64 (i : Int)] w fun v w' => v = .int .i64 (plc s (2 ^ m) hh i : Int) ∧ Own e w' (skB g a0 a1 a2 a3 s (2 ^ m) :: F) := by
  obtain ⟨p1, p2⟩ := p12 hm12
  have hpl := plc_lt (s := s) (h := hh) (i := i) p1
  have ea : plc s (2 ^ m) hh i = (mixI (skX hh (sdI s i))).toNat % 2 ^ m := rfl
  have rd : ∀ w, Own e w (skB g a0 a1 a2 a3 s (2 ^ m) :: F) → World.cell? w (((⟨g, 0, none⟩ : Addr).add 4).add (Int.toNat (i : Int) * 1)) = some (.int .u64 (sdI s i)) := fun w h => by
    obtain rfl | rfl | rfl | rfl : i = 0 ∨ i = 1 ∨ i = 2 ∨ i = 3 := by omega
    · exact Own.ld (g := g) (k := 4) h (by repeat (first | with_reducible exact Pick.here | apply Pick.there)) rfl
    · exact Own.ld (g := g) (k := 5) h (by repeat (first | with_reducible exact Pick.here | apply Pick.there)) rfl
    · exact Own.ld (g := g) (k := 6) h (by repeat (first | with_reducible exact Pick.here | apply Pick.there)) rfl
    · exact Own.ld (g := g) (k := 7) h (by repeat (first | with_reducible exact Pick.here | apply Pick.there)) rfl
  refine sketch_Sketch_Place_go _ _ _ ⟨fun _ => ⟨fun _ => ⟨fun hc => ?_, fun _ => ?_⟩, fun hc => ?_⟩, fun hc => (by cases hc)⟩
  · have := dec_t hc; omega
  · refine h.drw fun w h => ⟨fun w => Own e w (skB g a0 a1 a2 a3 s (2 ^ m) :: F), h, by omega, by omega, _, rd, _, fun w h => Own.ld (g := g) (k := 8) h (by repeat (first | with_reducible exact Pick.here | apply Pick.there)) rfl, ?_⟩
    refine Rets.mono (mxMix (x := skX hh (sdI s i)) h (fun w h => hm1 w h.drop)) ?_
    clear h rd
    rintro _ w ⟨rfl, h⟩
    refine ⟨_, rfl, h, ?_, h⟩
    obtain ⟨X, hX⟩ := Int.eq_ofNat_of_zero_le (mixI_M64 (skX hh (sdI s i))).1
    have hXl := (mixI_M64 (skX hh (sdI s i))).2
    rw [hX] at hXl ea ⊢
    rw [Int.toNat_natCast] at ea
    obtain ⟨M, hM⟩ : ∃ M, M = 2 ^ m := ⟨_, rfl⟩
    have e1 : IntKind.wrap .u64 (IntKind.wrap .i64 (((2 ^ m : Nat) : Int) - 1)) = ((2 ^ m - 1 : Nat) : Int) := by
      rw [← hM] at p1 p2 ⊢
      rw [wI64 (by omega) (by omega), wU64' (by omega) (by omega)]; omega
    rw [e1, N_and (by omega) (by omega), Nat.and_two_pow_sub_one_eq_mod, ← ea, wI64 (by omega) (by omega)]
  · have := dec_t hc; omega
end
end Go.Proofs.YtkhfejnkefgpeaaDoor.Eng
