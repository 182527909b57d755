/- Joined: TskP TskQ TinW TinP TsP. -/
import Derived.Test.YtjdbeopgmpbikaaDoorMixP
import Derived.Test.YtjdbeopgmpbikaaDoorBitW
import Derived.Test.YtjdbeopgmpbikaaDoorNibR
import Derived.Test.YtjdbeopgmpbikaaDoorSkeG
import Derived.Test.YtjdbeopgmpbikaaDoorDoorP
import Derived.Test.YtjdbeopgmpbikaaDoorIntP
import Derived.Test.YtjdbeopgmpbikaaDoorEngW
import Derived.Test.YtjdbeopgmpbikaaDoorTinG
namespace Go.Proofs.YtjdbeopgmpbikaaDoor.Eng
open Go Go.RowKit Go.Proofs
set_option linter.unusedVariables false
set_option linter.unusedSimpArgs false
set_option maxRecDepth 1000000
/-- One table is laid. -/
def MixOne (W : World) : Prop := (∃ t fr, W.heap[0]? = some (.cells #[.int .i64 30, .int .u64 13787848793156543929, .int .i64 27, .int .u64 10723151780598845931, .int .i64 31, .int .u64 1] t fr)) ∧ (False → True)
theorem MixOne.rd {W : World} (h : MixOne W) : RdC W mixQ mixC := by
  obtain ⟨⟨t, fr, h⟩, _⟩ := h
  exact rd_laid (l := mixC) h
/-! ### Powers -/
def pwS (n : Int) (m : Nat) : Prop := n ≤ ((2 ^ m : Nat) : Int) ∧ ((2 ^ m : Nat) : Int) < 2 * n
theorem pwS.le {n : Int} {a b : Nat} (h1 : pwS n a) (h2 : pwS n b) : b ≤ a := by
  refine Nat.le_of_not_lt fun hlt => ?_
  have : 2 ^ (a + 1) ≤ 2 ^ b := Nat.pow_le_pow_right (by omega) hlt
  rw [Nat.pow_succ] at this
  obtain ⟨h1, _⟩ := h1
  obtain ⟨_, h2⟩ := h2
  omega
theorem pwS.uniq {n : Int} {a b : Nat} (h1 : pwS n a) (h2 : pwS n b) : a = b := Nat.le_antisymm (h2.le h1) (h1.le h2)
theorem pwS.small {n : Int} {m : Nat} (h : pwS n m) (hn : n ≤ 4096) : m ≤ 12 := by
  refine Nat.le_of_not_lt fun hlt => ?_
  have : 2 ^ 13 ≤ 2 ^ m := Nat.pow_le_pow_right (by omega) hlt
  obtain ⟨_, h⟩ := h
  have e : (2 : Nat) ^ 13 = 8192 := rfl
  omega
theorem p12 {m : Nat} (h : m ≤ 12) : 0 < 2 ^ m ∧ 2 ^ m ≤ 4096 := by
  refine ⟨Nat.pow_pos (by omega), ?_⟩
  have : 2 ^ m ≤ 2 ^ 12 := Nat.pow_le_pow_right (by omega) h
  exact this
section
variable {e w : World} {F : List HP} {x n s hh : Int}
theorem wdLogS {X : Nat} (hX : X < 18446744073709551616) (h : Own e w F) : Rets Tryd.prog 59 #[.int .u64 (X : Int)] w fun v w' => (∃ i : Nat, v = .int .i64 ((i : Int) - 1) ∧ i ≤ 64 ∧ X / 2 ^ i = 0 ∧ (i = 0 ∨ X / 2 ^ (i - 1) ≠ 0)) ∧ Own e w' F := by
  refine word_Log_go _ ⟨fun m vs w => ∃ i : Nat, vs = [.int .u64 ((X / 2 ^ i : Nat) : Int), .int .i64 ((i : Int) - 1)] ∧ m = X / 2 ^ i ∧ i ≤ 64 ∧ (i = 0 ∨ X / 2 ^ (i - 1) ≠ 0) ∧ Own e w F, ⟨X, 0, by simp, by simp, by omega, .inl rfl, h⟩, ?_⟩
  clear h
  rintro m w n1 n2
  intros
  rename_i hI
  obtain ⟨i, hvs, rfl, hi, h0, h⟩ := hI
  obtain ⟨rfl, rfl⟩ : n1 = ((X / 2 ^ i : Nat) : Int) ∧ n2 = (i : Int) - 1 := by simpa using hvs
  refine ⟨fun hc => ?_, fun hc => ?_⟩
  · have hc : ¬ X / 2 ^ i = 0 := fun e => by rw [e] at hc; exact absurd hc (by decide)
    have hi64 : i < 64 := by
      refine Nat.lt_of_not_le fun hge => hc (Nat.div_eq_of_lt ?_)
      have : 2 ^ 64 ≤ 2 ^ i := Nat.pow_le_pow_right (by omega) hge
      rw [pow64] at this
      omega
    rw [show shrI IntKind.u64 ((X / 2 ^ i : Nat) : Int) 1 = ((X / 2 ^ i / 2 ^ 1 : Nat) : Int) from shrN _ 1 (by omega), Nat.div_div_eq_div_mul, ← Nat.pow_succ]
    refine ⟨by omega, X / 2 ^ (i + 1), ?_, i + 1, ?_, rfl, by omega, .inr (by rw [Nat.add_sub_cancel]; exact hc), h⟩
    · rw [Nat.pow_succ, ← Nat.div_div_eq_div_mul]
      exact Nat.div_lt_self (Nat.pos_of_ne_zero hc) (by omega)
    · rw [wI64 (by omega) (by omega)]
      congr 3
      omega
  · have hc : X / 2 ^ i = 0 := Int.ofNat.inj (show ((X / 2 ^ i : Nat) : Int) = ((0 : Nat) : Int) from bne_eq_false_iff_eq.1 hc)
    exact ⟨⟨i, rfl, hi, hc, h0⟩, h⟩
theorem wdPowerS (hn : 1 ≤ n ∧ n ≤ 4096) (h : Own e w F) : Rets Tryd.prog 38 #[.int .i64 n] w fun v w' => (∃ m : Nat, v = .int .i64 ((2 ^ m : Nat) : Int) ∧ pwS n m) ∧ Own e w' F := by
  obtain ⟨X, hX⟩ : ∃ X : Nat, n = (X : Int) + 1 := ⟨(n - 1).toNat, by omega⟩
  subst hX
  refine word_Power_go _ ?_
  unfold word_Power_m
  have e1 : maxI 1 (minI ((X : Int) + 1) 4611686018427387904) = (X : Int) + 1 := by unfold minI maxI; split <;> split <;> omega
  rw [e1, wI64 (n := (X : Int) + 1 - 1) (by omega) (by omega), wU64' (n := (X : Int) + 1 - 1) (by omega) (by omega), show (X : Int) + 1 - 1 = (X : Int) by omega]
  refine Rets.mono (wdLogS (X := X) (by omega) h) ?_
  rintro _ w ⟨⟨i, rfl, hi, h0, h1⟩, h⟩
  refine ⟨_, rfl, ?_⟩
  rw [wI64 (n := (i : Int) - 1 + 1) (by omega) (by omega), show (i : Int) - 1 + 1 = (i : Int) by omega]
  have hok : pwS ((X : Int) + 1) i := by
    have l1 : X < 2 ^ i := Nat.lt_of_div_eq_zero (Nat.pow_pos (by omega)) h0
    by_cases hi0 : i = 0
    · subst hi0
      simp at l1; subst l1
      exact ⟨by decide, by decide⟩
    · have h1 : X / 2 ^ (i - 1) ≠ 0 := by rcases h1 with h1 | h1; exact absurd h1 hi0; exact h1
      have l2 : 2 ^ (i - 1) ≤ X := by
        refine Nat.le_of_not_lt fun hlt => h1 (Nat.div_eq_of_lt hlt)
      have e2 : 2 ^ i = 2 ^ (i - 1) * 2 := by rw [← Nat.pow_succ]; congr 1; omega
      exact ⟨by omega, by omega⟩
  have hs := hok.small (by omega)
  obtain ⟨q1, q2⟩ := p12 hs
  refine ⟨by omega, ⟨i, ?_, hok⟩, h⟩
  have e3 : shlI IntKind.i64 1 (i : Int) = ((2 ^ i : Nat) : Int) := by
    unfold shlI
    have e4 : min (i : Int).toNat IntKind.i64.bits = i := by
      rw [Int.toNat_natCast]; exact Nat.min_eq_left (by show i ≤ 64; omega)
    rw [e4, Int.one_mul, show (2 : Int) ^ i = ((2 ^ i : Nat) : Int) from by rw [Int.natCast_pow]; rfl]
    exact wI64 (by omega) (by omega)
  rw [e3]
theorem rfPowerS (hn : 1 ≤ n ∧ n ≤ 4096) (h : Own e w F) : Rets Tryd.prog 57 #[.int .i64 n] w fun v w' => (∃ m : Nat, v = .int .i64 ((2 ^ m : Nat) : Int) ∧ pwS n m) ∧ Own e w' F := by
  refine cortadoref01_Power_go _ ⟨fun m vs w => ∃ i : Nat, vs = [.int .i64 ((2 ^ i : Nat) : Int), .int .i64 (i : Int)] ∧ m + i = 62 ∧ (i = 0 ∨ ((2 ^ (i - 1) : Nat) : Int) < n) ∧ Own e w F, ⟨62, 0, rfl, rfl, .inl rfl, h⟩, ?_⟩
  clear h
  rintro m w n1 n2
  intros
  rename_i hI
  obtain ⟨i, hvs, hm, h0, h⟩ := hI
  obtain ⟨rfl, rfl⟩ : n1 = ((2 ^ i : Nat) : Int) ∧ n2 = (i : Int) := by simpa using hvs
  have hi20 : i ≤ 21 := by
    rcases h0 with h0 | h0
    · omega
    · refine Nat.le_of_not_lt fun hlt => ?_
      have : 2 ^ 21 ≤ 2 ^ (i - 1) := Nat.pow_le_pow_right (by omega) (by omega)
      have e : (2 : Nat) ^ 21 = 2097152 := rfl
      omega
  refine ⟨fun hc => ⟨fun hx => ?_, fun hx => ?_⟩, fun hc => ?_⟩
  · have hx := dec_t hx
    have e2 : 2 ^ (i + 1) = 2 ^ i * 2 := Nat.pow_succ _ _
    refine ⟨m - 1, by omega, i + 1, ?_, by omega, .inr (by simpa using hx), h⟩
    rw [wI64 (n := 2 * _) (by omega) (by omega), wI64 (n := (i : Int) + 1) (by omega) (by omega), e2]
    congr 2
    · congr 1; omega
  · have hx := dec_f hx
    refine ⟨⟨i, rfl, by omega, ?_⟩, h⟩
    rcases h0 with h0 | h0
    · subst h0; simp at hx; omega
    · have e2 : 2 ^ i = 2 ^ (i - 1) * 2 := by
        by_cases hi0 : i = 0
        · subst hi0; simp at hx; omega
        · rw [← Nat.pow_succ]; congr 1; omega
      omega
  · have hc := dec_f hc; omega
end
/-! ### Places -/
def skX (a b : Int) : Int := Go.bits BinOp.xor IntKind.u64 a b
def sdI (s : Int) (i : Nat) : Int := mixI (IntKind.wrap .u64 (IntKind.wrap .u64 (s + IntKind.wrap .u64 (i : Int)) + 1))
def plc (s : Int) (M : Nat) (h : Int) (i : Nat) : Nat := (mixI (skX h (sdI s i))).toNat % M
theorem plc_lt {s h : Int} {M i : Nat} (hM : 0 < M) : plc s M h i < M := Nat.mod_lt _ hM
abbrev skB (g a0 a1 a2 a3 : Nat) (s : Int) (M : Nat) : HP := blk g 74 [.pointer (some ⟨a0, 0, none⟩), .pointer (some ⟨a1, 0, none⟩), .pointer (some ⟨a2, 0, none⟩), .pointer (some ⟨a3, 0, none⟩), .int .u64 (sdI s 0), .int .u64 (sdI s 1), .int .u64 (sdI s 2), .int .u64 (sdI s 3), .int .i64 (M : Int)]
section
variable {e w : World} {F : List HP} {s hh : Int} {g a0 a1 a2 a3 m : Nat}
theorem skPlace {i : Nat} (hi : i < 4) (hm12 : m ≤ 12) (hm1 : ∀ w, Own e w F → RdC w mixQ mixC) (h : Own e w (skB g a0 a1 a2 a3 s (2 ^ m) :: F)) :
    Rets Tryd.prog 45 #[.pointer (some ⟨g, 0, none⟩), .int .u64 hh, .int .i64 (i : Int)] w fun v w' => v = .int .i64 (plc s (2 ^ m) hh i : Int) ∧ Own e w' (skB g a0 a1 a2 a3 s (2 ^ m) :: F) := by
  obtain ⟨p1, p2⟩ := p12 hm12
  have hpl := plc_lt (s := s) (h := hh) (i := i) p1
  have ea : plc s (2 ^ m) hh i = (mixI (skX hh (sdI s i))).toNat % 2 ^ m := rfl
  have rd : ∀ w, Own e w (skB g a0 a1 a2 a3 s (2 ^ m) :: F) → World.cell? w (((⟨g, 0, none⟩ : Addr).add 4).add (Int.toNat (i : Int) * 1)) = some (.int .u64 (sdI s i)) := fun w h => by
    obtain rfl | rfl | rfl | rfl : i = 0 ∨ i = 1 ∨ i = 2 ∨ i = 3 := by omega
    · exact Own.ld (g := g) (k := 4) h (by repeat (first | with_reducible exact Pick.here | apply Pick.there)) rfl
    · exact Own.ld (g := g) (k := 5) h (by repeat (first | with_reducible exact Pick.here | apply Pick.there)) rfl
    · exact Own.ld (g := g) (k := 6) h (by repeat (first | with_reducible exact Pick.here | apply Pick.there)) rfl
    · exact Own.ld (g := g) (k := 7) h (by repeat (first | with_reducible exact Pick.here | apply Pick.there)) rfl
  refine sketch_Sketch_Place_go _ _ _ ⟨fun _ => ⟨fun _ => ⟨fun hc => ?_, fun _ => ?_⟩, fun hc => ?_⟩, fun hc => (by cases hc)⟩
  · have := dec_t hc; omega
  · refine h.drw fun w h => ⟨fun w => Own e w (skB g a0 a1 a2 a3 s (2 ^ m) :: F), h, by omega, by omega, _, rd, _, fun w h => Own.ld (g := g) (k := 8) h (by repeat (first | with_reducible exact Pick.here | apply Pick.there)) rfl, ?_⟩
    refine Rets.mono (mxMix (x := skX hh (sdI s i)) h (fun w h => hm1 w h.drop)) ?_
    clear h rd
    rintro _ w ⟨rfl, h⟩
    refine ⟨_, rfl, h, ?_, h⟩
    obtain ⟨X, hX⟩ := Int.eq_ofNat_of_zero_le (mixI_M64 (skX hh (sdI s i))).1
    have hXl := (mixI_M64 (skX hh (sdI s i))).2
    rw [hX] at hXl ea ⊢
    rw [Int.toNat_natCast] at ea
    obtain ⟨M, hM⟩ : ∃ M, M = 2 ^ m := ⟨_, rfl⟩
    have e1 : IntKind.wrap .u64 (IntKind.wrap .i64 (((2 ^ m : Nat) : Int) - 1)) = ((2 ^ m - 1 : Nat) : Int) := by
      rw [← hM] at p1 p2 ⊢
      rw [wI64 (by omega) (by omega), wU64' (by omega) (by omega)]; omega
    rw [e1, N_and (by omega) (by omega), Nat.and_two_pow_sub_one_eq_mod, ← ea, wI64 (by omega) (by omega)]
  · have := dec_t hc; omega
end
theorem getP4 {a : Nat → Nat} {i : Nat} (h : i < 4) : List.get?Internal (Array.toList #[Value.pointer (some ⟨a 0, 0, none⟩), Value.pointer (some ⟨a 1, 0, none⟩), Value.pointer (some ⟨a 2, 0, none⟩), Value.pointer (some ⟨a 3, 0, none⟩)]) (Int.toNat (i : Int)) = some (Value.pointer (some ⟨a i, 0, none⟩)) := by
  obtain rfl | rfl | rfl | rfl : i = 0 ∨ i = 1 ∨ i = 2 ∨ i = 3 := by omega
  all_goals rfl
theorem Own.take4 {e w : World} {F : List HP} {B : HP} {r : Nat → HP} {i : Nat} (hi : i < 4) (h : Own e w (B :: r 0 :: r 1 :: r 2 :: r 3 :: F)) :
    ∃ G : List HP, Own e w (r i :: G) ∧ ∀ (A : HP) w', Own e w' (A :: G) → Own e w' (B :: (if 0 = i then A else r 0) :: (if 1 = i then A else r 1) :: (if 2 = i then A else r 2) :: (if 3 = i then A else r 3) :: F) := by
  obtain rfl | rfl | rfl | rfl : i = 0 ∨ i = 1 ∨ i = 2 ∨ i = 3 := by omega
  · refine ⟨B :: r 1 :: r 2 :: r 3 :: F, (Own.sub (h) (by repeat (first | with_reducible exact Sub.nil _ | with_reducible exact Sub.rfl _ | (apply Sub.cons; focus ((repeat (first | with_reducible exact Pick.here | apply Pick.there)); done)) | apply Sub.drop))), fun A w' h => ?_⟩
    have h : Own e w' (B :: A :: r 1 :: r 2 :: r 3 :: F) := (Own.sub (h) (by repeat (first | with_reducible exact Sub.nil _ | with_reducible exact Sub.rfl _ | (apply Sub.cons; focus ((repeat (first | with_reducible exact Pick.here | apply Pick.there)); done)) | apply Sub.drop)))
    simpa using h
  · refine ⟨B :: r 0 :: r 2 :: r 3 :: F, (Own.sub (h) (by repeat (first | with_reducible exact Sub.nil _ | with_reducible exact Sub.rfl _ | (apply Sub.cons; focus ((repeat (first | with_reducible exact Pick.here | apply Pick.there)); done)) | apply Sub.drop))), fun A w' h => ?_⟩
    have h : Own e w' (B :: r 0 :: A :: r 2 :: r 3 :: F) := (Own.sub (h) (by repeat (first | with_reducible exact Sub.nil _ | with_reducible exact Sub.rfl _ | (apply Sub.cons; focus ((repeat (first | with_reducible exact Pick.here | apply Pick.there)); done)) | apply Sub.drop)))
    simpa using h
  · refine ⟨B :: r 0 :: r 1 :: r 3 :: F, (Own.sub (h) (by repeat (first | with_reducible exact Sub.nil _ | with_reducible exact Sub.rfl _ | (apply Sub.cons; focus ((repeat (first | with_reducible exact Pick.here | apply Pick.there)); done)) | apply Sub.drop))), fun A w' h => ?_⟩
    have h : Own e w' (B :: r 0 :: r 1 :: A :: r 3 :: F) := (Own.sub (h) (by repeat (first | with_reducible exact Sub.nil _ | with_reducible exact Sub.rfl _ | (apply Sub.cons; focus ((repeat (first | with_reducible exact Pick.here | apply Pick.there)); done)) | apply Sub.drop)))
    simpa using h
  · refine ⟨B :: r 0 :: r 1 :: r 2 :: F, (Own.sub (h) (by repeat (first | with_reducible exact Sub.nil _ | with_reducible exact Sub.rfl _ | (apply Sub.cons; focus ((repeat (first | with_reducible exact Pick.here | apply Pick.there)); done)) | apply Sub.drop))), fun A w' h => ?_⟩
    have h : Own e w' (B :: r 0 :: r 1 :: r 2 :: A :: F) := (Own.sub (h) (by repeat (first | with_reducible exact Sub.nil _ | with_reducible exact Sub.rfl _ | (apply Sub.cons; focus ((repeat (first | with_reducible exact Pick.here | apply Pick.there)); done)) | apply Sub.drop)))
    simpa using h
/-- Rows that are done with, and others. -/
def upR (R R' : Nat → List Nat) (i j : Nat) : List Nat := if j < i then R' j else R j
theorem upR_at (R R' : Nat → List Nat) (i : Nat) : upR R R' i i = R i := by unfold upR; rw [if_neg (by omega)]
theorem upR_step (a : Nat → Nat) (R R' : Nat → List Nat) (i j : Nat) : (if j = i then rowO (a i) (R' i) else rowO (a j) (upR R R' i j)) = rowO (a j) (upR R R' (i + 1) j) := by
  by_cases h : j = i
  · subst h; rw [if_pos rfl]; unfold upR; rw [if_pos (by omega)]
  · rw [if_neg h]; unfold upR
    by_cases h2 : j < i
    · rw [if_pos h2, if_pos (by omega)]
    · rw [if_neg h2, if_neg (by omega)]
def rowsOk (M : Nat) (R : Nat → List Nat) : Prop := ∀ j, nbOk (R j) ∧ (R j).length = M
def skO (g m : Nat) (s : Int) (R : Nat → List Nat) : HP := exH fun (a : Nat → Nat) => puH (m ≤ 12 ∧ rowsOk (2 ^ m) R) (allH [skB g (a 0) (a 1) (a 2) (a 3) s (2 ^ m), rowO (a 0) (R 0), rowO (a 1) (R 1), rowO (a 2) (R 2), rowO (a 3) (R 3)])
section
variable {e w : World} {F : List HP} {s hh : Int} {g m : Nat} {R : Nat → List Nat}
theorem skO.op (h : Own e w (skO g m s R :: F)) : ∃ a : Nat → Nat, (m ≤ 12 ∧ rowsOk (2 ^ m) R) ∧ Own e w (skB g (a 0) (a 1) (a 2) (a 3) s (2 ^ m) :: rowO (a 0) (R 0) :: rowO (a 1) (R 1) :: rowO (a 2) (R 2) :: rowO (a 3) (R 3) :: F) := by
  obtain ⟨a, h⟩ := h.ex
  obtain ⟨h1, h⟩ := h.pu
  exact ⟨a, h1, h.open_⟩
theorem skO.cl {a : Nat → Nat} (h1 : m ≤ 12 ∧ rowsOk (2 ^ m) R) (h : Own e w (skB g (a 0) (a 1) (a 2) (a 3) s (2 ^ m) :: rowO (a 0) (R 0) :: rowO (a 1) (R 1) :: rowO (a 2) (R 2) :: rowO (a 3) (R 3) :: F)) : Own e w (skO g m s R :: F) := by
  have h : Own e w ([skB g (a 0) (a 1) (a 2) (a 3) s (2 ^ m), rowO (a 0) (R 0), rowO (a 1) (R 1), rowO (a 2) (R 2), rowO (a 3) (R 3)] ++ F) := h
  exact Own.mkEx a (Own.mkPu h1 h.close_)
/-- One row is turned. -/
theorem skRow {a : Nat → Nat} {R' : Nat → List Nat} {i : Nat} (hi : i < 4) (h : Own e w (skB g (a 0) (a 1) (a 2) (a 3) s (2 ^ m) :: rowO (a 0) (upR R R' i 0) :: rowO (a 1) (upR R R' i 1) :: rowO (a 2) (upR R R' i 2) :: rowO (a 3) (upR R R' i 3) :: F)) :
    ∃ G, Own e w (rowO (a i) (R i) :: G) ∧ ∀ w', Own e w' (rowO (a i) (R' i) :: G) → Own e w' (skB g (a 0) (a 1) (a 2) (a 3) s (2 ^ m) :: rowO (a 0) (upR R R' (i + 1) 0) :: rowO (a 1) (upR R R' (i + 1) 1) :: rowO (a 2) (upR R R' (i + 1) 2) :: rowO (a 3) (upR R R' (i + 1) 3) :: F) := by
  obtain ⟨G, h1, h2⟩ := Own.take4 (r := fun j => rowO (a j) (upR R R' i j)) hi h
  have h1 : Own e w (rowO (a i) (upR R R' i i) :: G) := h1
  rw [upR_at] at h1
  refine ⟨G, h1, fun w' h' => ?_⟩
  have := h2 _ w' h'
  simp only [upR_step] at this
  exact this
theorem skHalve (h : Own e w (skO g m s R :: F)) : Rets Tryd.prog 46 #[.pointer (some ⟨g, 0, none⟩)] w fun v w' => v = .tuple #[] ∧ Own e w' (skO g m s (fun j => ngHalve (R j)) :: F) := by
  obtain ⟨a, ⟨hm, hR⟩, h⟩ := skO.op h
  obtain ⟨p1, p2⟩ := p12 hm
  refine sketch_Sketch_Halve_go _ ⟨fun hc => (by cases hc), fun _ => ⟨_, _, _, _, ⟨Own.ld (g := g) (k := 0) h (by repeat (first | with_reducible exact Pick.here | apply Pick.there)) rfl, Own.ld (g := g) (k := 1) h (by repeat (first | with_reducible exact Pick.here | apply Pick.there)) rfl, Own.ld (g := g) (k := 2) h (by repeat (first | with_reducible exact Pick.here | apply Pick.there)) rfl, Own.ld (g := g) (k := 3) h (by repeat (first | with_reducible exact Pick.here | apply Pick.there)) rfl⟩, ?_⟩⟩
  obtain ⟨R', hR'⟩ : ∃ R' : Nat → List Nat, R' = fun j => ngHalve (R j) := ⟨_, rfl⟩
  have hok' : rowsOk (2 ^ m) R' := fun j => by
    rw [hR']
    refine ⟨fun x hx => ?_, by simp [ngHalve, (hR j).2]⟩
    obtain ⟨y, hy, rfl⟩ := List.mem_map.1 hx
    have := (hR j).1 y hy
    omega
  rw [← hR']
  refine ⟨fun k vs w => ∃ i : Nat, vs = [.int .i64 (i : Int)] ∧ k + i = 4 ∧ Own e w (skB g (a 0) (a 1) (a 2) (a 3) s (2 ^ m) :: rowO (a 0) (upR R R' i 0) :: rowO (a 1) (upR R R' i 1) :: rowO (a 2) (upR R R' i 2) :: rowO (a 3) (upR R R' i 3) :: F), ⟨4, 0, rfl, rfl, h⟩, ?_⟩
  clear h
  rintro k w v1 n1
  intros
  rename_i hI
  obtain ⟨i, hvs, hk, h⟩ := hI
  obtain rfl : n1 = (i : Int) := by simpa using hvs
  refine ⟨fun hc => ?_, fun hc => ?_⟩
  · have hc := dec_t hc
    have hi : i < 4 := by omega
    obtain ⟨G, h, back⟩ := skRow hi h
    refine ⟨by omega, by omega, _, getP4 hi, ?_⟩
    refine Rets.mono (nHalve_spec h (hR i).1 (by rw [(hR i).2]; omega)) ?_
    clear h
    rintro _ w ⟨rfl, h⟩
    exact ⟨rfl, k - 1, by omega, i + 1, by rw [wI64 (by omega) (by omega)]; rfl, by omega, back w (by rw [hR']; exact h)⟩
  · have hc := dec_f hc
    obtain rfl : i = 4 := by omega
    exact ⟨rfl, skO.cl ⟨hm, hok'⟩ h⟩
theorem skAdd (hm1 : ∀ w, Own e w F → RdC w mixQ mixC) (h : Own e w (skO g m s R :: F)) : Rets Tryd.prog 24 #[.pointer (some ⟨g, 0, none⟩), .int .u64 hh] w fun v w' => v = .tuple #[] ∧ Own e w' (skO g m s (fun j => ngAdd (R j) (plc s (2 ^ m) hh j : Int)) :: F) := by
  obtain ⟨a, ⟨hm, hR⟩, h⟩ := skO.op h
  obtain ⟨p1, p2⟩ := p12 hm
  refine sketch_Sketch_Add_go _ _ ⟨fun hc => (by cases hc), fun _ => ⟨_, _, _, _, ⟨Own.ld (g := g) (k := 0) h (by repeat (first | with_reducible exact Pick.here | apply Pick.there)) rfl, Own.ld (g := g) (k := 1) h (by repeat (first | with_reducible exact Pick.here | apply Pick.there)) rfl, Own.ld (g := g) (k := 2) h (by repeat (first | with_reducible exact Pick.here | apply Pick.there)) rfl, Own.ld (g := g) (k := 3) h (by repeat (first | with_reducible exact Pick.here | apply Pick.there)) rfl⟩, ?_⟩⟩
  obtain ⟨R', hR'⟩ : ∃ R' : Nat → List Nat, R' = fun j => ngAdd (R j) (plc s (2 ^ m) hh j : Int) := ⟨_, rfl⟩
  have hok' : rowsOk (2 ^ m) R' := fun j => by
    rw [hR']
    exact ⟨ngAdd_ok (hR j).1 _, by simp [ngAdd_len, (hR j).2]⟩
  rw [← hR']
  refine ⟨fun k vs w => ∃ i : Nat, vs = [.int .i64 (i : Int)] ∧ k + i = 4 ∧ Own e w (skB g (a 0) (a 1) (a 2) (a 3) s (2 ^ m) :: rowO (a 0) (upR R R' i 0) :: rowO (a 1) (upR R R' i 1) :: rowO (a 2) (upR R R' i 2) :: rowO (a 3) (upR R R' i 3) :: F), ⟨4, 0, rfl, rfl, h⟩, ?_⟩
  clear h
  rintro k w v1 v2 n1
  intros
  rename_i hI
  obtain ⟨i, hvs, hk, h⟩ := hI
  obtain rfl : n1 = (i : Int) := by simpa using hvs
  refine ⟨fun hc => ?_, fun hc => ?_⟩
  · have hc := dec_t hc
    have hi : i < 4 := by omega
    refine ⟨by omega, by omega, _, getP4 hi, ?_⟩
    refine Rets.mono (skPlace hi hm (fun w h => hm1 w h.drop.drop.drop.drop) h) ?_
    clear h
    rintro _ w ⟨rfl, h⟩
    obtain ⟨G, h, back⟩ := skRow hi h
    refine ⟨_, rfl, ?_⟩
    refine Rets.mono (nAdd_spec h (hR i).1 (by rw [(hR i).2]; omega)) ?_
    clear h
    rintro _ w ⟨rfl, h⟩
    exact ⟨_, rfl, k - 1, by omega, i + 1, by rw [wI64 (by omega) (by omega)]; rfl, by omega, back w (by rw [hR']; exact h)⟩
  · have hc := dec_f hc
    obtain rfl : i = 4 := by omega
    exact ⟨rfl, skO.cl ⟨hm, hok'⟩ h⟩
/-- The least of so many rows. -/
def cuN (s : Int) (M : Nat) (hh : Int) (R : Nat → List Nat) : Nat → Nat
  | 0 => 15
  | i + 1 => min (cuN s M hh R i) (ngGet (R i) (plc s M hh i : Int))
theorem cuN_le (s : Int) (M : Nat) (hh : Int) (R : Nat → List Nat) : ∀ i, cuN s M hh R i ≤ 15
  | 0 => Nat.le_refl _
  | i + 1 => Nat.le_trans (Nat.min_le_left _ _) (cuN_le s M hh R i)
theorem minN (a b : Nat) : minI (a : Int) (b : Int) = ((min a b : Nat) : Int) := by unfold minI; split <;> omega
theorem upR_same (R : Nat → List Nat) (i j : Nat) : upR R R i j = R j := by unfold upR; split <;> rfl
theorem skCount (hm1 : ∀ w, Own e w F → RdC w mixQ mixC) (h : Own e w (skO g m s R :: F)) : Rets Tryd.prog 29 #[.pointer (some ⟨g, 0, none⟩), .int .u64 hh] w fun v w' => v = .int .i64 (cuN s (2 ^ m) hh R 4 : Int) ∧ Own e w' (skO g m s R :: F) := by
  obtain ⟨a, ⟨hm, hR⟩, h⟩ := skO.op h
  obtain ⟨p1, p2⟩ := p12 hm
  refine sketch_Sketch_Count_go _ _ ⟨fun hc => (by cases hc), fun _ => ⟨_, _, _, _, ⟨Own.ld (g := g) (k := 0) h (by repeat (first | with_reducible exact Pick.here | apply Pick.there)) rfl, Own.ld (g := g) (k := 1) h (by repeat (first | with_reducible exact Pick.here | apply Pick.there)) rfl, Own.ld (g := g) (k := 2) h (by repeat (first | with_reducible exact Pick.here | apply Pick.there)) rfl, Own.ld (g := g) (k := 3) h (by repeat (first | with_reducible exact Pick.here | apply Pick.there)) rfl⟩, ?_⟩⟩
  refine ⟨fun k vs w => ∃ i : Nat, vs = [.int .i64 (cuN s (2 ^ m) hh R i : Int), .int .i64 (i : Int)] ∧ k + i = 4 ∧ Own e w (skB g (a 0) (a 1) (a 2) (a 3) s (2 ^ m) :: rowO (a 0) (R 0) :: rowO (a 1) (R 1) :: rowO (a 2) (R 2) :: rowO (a 3) (R 3) :: F), ⟨4, 0, rfl, rfl, h⟩, ?_⟩
  clear h
  rintro k w n1 v1 v2 n2
  intros
  rename_i hI
  obtain ⟨i, hvs, hk, h⟩ := hI
  obtain ⟨rfl, rfl⟩ : n1 = (cuN s (2 ^ m) hh R i : Int) ∧ n2 = (i : Int) := by simpa using hvs
  refine ⟨fun hc => ?_, fun hc => ?_⟩
  · have hc := dec_t hc
    have hi : i < 4 := by omega
    refine ⟨by omega, by omega, _, getP4 hi, ?_⟩
    refine Rets.mono (skPlace hi hm (fun w h => hm1 w h.drop.drop.drop.drop) h) ?_
    clear h
    rintro _ w ⟨rfl, h⟩
    have h : Own e w (skB g (a 0) (a 1) (a 2) (a 3) s (2 ^ m) :: rowO (a 0) (upR R R i 0) :: rowO (a 1) (upR R R i 1) :: rowO (a 2) (upR R R i 2) :: rowO (a 3) (upR R R i 3) :: F) := by
      simp only [upR_same]; exact h
    obtain ⟨G, h, back⟩ := skRow hi h
    refine ⟨_, rfl, ?_⟩
    refine Rets.mono (nGet_spec h (hR i).1 (by rw [(hR i).2]; omega)) ?_
    clear h
    rintro _ w ⟨rfl, h⟩
    have h := back w h
    simp only [upR_same] at h
    refine ⟨_, rfl, k - 1, by omega, i + 1, ?_, by omega, h⟩
    rw [wI64 (by omega) (by omega), minN]
    rfl
  · have hc := dec_f hc
    obtain rfl : i = 4 := by omega
    exact ⟨rfl, skO.cl ⟨hm, hR⟩ h⟩
/-! ### A new one -/
def ptN (a : Nat → Nat) (i j : Nat) : Value := if j < i then .pointer (some ⟨a j, 0, none⟩) else .pointer none
def sdN (s : Int) (i j : Nat) : Value := if j < i then .int .u64 (sdI s j) else .int .u64 0
def skC (a : Nat → Nat) (s : Int) (M i : Nat) : List Value := [ptN a i 0, ptN a i 1, ptN a i 2, ptN a i 3, sdN s i 0, sdN s i 1, sdN s i 2, sdN s i 3, .int .i64 (M : Int)]
def rws (a : Nat → Nat) (M : Nat) : Nat → List HP
  | 0 => []
  | i + 1 => rowO (a i) (List.replicate M 0) :: rws a M i
def putA (a : Nat → Nat) (i g : Nat) : Nat → Nat := fun j => if j = i then g else a j
theorem rws_put (a : Nat → Nat) (M g : Nat) (i : Nat) : ∀ k, k ≤ i → rws (putA a i g) M k = rws a M k
  | 0, _ => rfl
  | k + 1, hk => by
    unfold rws
    rw [rws_put a M g i k (by omega)]
    unfold putA
    rw [if_neg (by omega)]
theorem skC_put {a : Nat → Nat} {M g' i : Nat} (hi : i < 4) : setFrom (setFrom (skC a s M i) i [.pointer (some ⟨g', 0, none⟩)]) (4 + i) [.int .u64 (sdI s i)] = skC (putA a i g') s M (i + 1) := by
  obtain rfl | rfl | rfl | rfl : i = 0 ∨ i = 1 ∨ i = 2 ∨ i = 3 := by omega
  all_goals rfl
theorem skC_len (a : Nat → Nat) (M i : Nat) : (skC a s M i).length = 9 := rfl
theorem skNew {n : Int} (hm1 : ∀ w, Own e w F → RdC w mixQ mixC) (h : Own e w F) : Rets Tryd.prog 19 #[.int .i64 n, .int .u64 s] w fun v w' => ∃ g m, v = .pointer (some ⟨g, 0, none⟩) ∧ pwS (maxI 1 (minI n 4096)) m ∧ Own e w' (skO g m s (fun _ => List.replicate (2 ^ m) 0) :: F) := by
  have hn : 1 ≤ maxI 1 (minI n 4096) ∧ maxI 1 (minI n 4096) ≤ 4096 := by unfold maxI minI; split <;> split <;> omega
  refine sketch_New_go _ _ ?_
  refine Rets.mono (wdPowerS hn h) ?_
  clear h
  rintro _ w ⟨⟨m, rfl, hok⟩, h⟩
  have hm := hok.small hn.2
  obtain ⟨p1, p2⟩ := p12 hm
  obtain ⟨M, hM⟩ : ∃ M, M = 2 ^ m := ⟨_, rfl⟩
  refine ⟨_, rfl, h.newR fun g w h => ?_⟩
  rw [← hM] at h p1 p2
  refine ⟨fun k vs w => ∃ (i : Nat) (a : Nat → Nat), vs = [.int .i64 (i : Int)] ∧ k + i = 4 ∧ Own e w (blk g 74 (skC a s M i) :: (rws a M i ++ F)), ⟨4, 0, fun _ => 0, rfl, rfl, h⟩, ?_⟩
  clear h
  rintro k w v2 n2
  intros
  rename_i hI
  obtain ⟨i, a, hvs, hk, h⟩ := hI
  obtain rfl : n2 = (i : Int) := by simpa using hvs
  have dropR : ∀ k w, Own e w (rws a M k ++ F) → Own e w F := fun k => by
    induction k with
    | zero => exact fun w h => h
    | succ k ih => exact fun w h => ih w (Own.drop h)
  refine ⟨fun hc => ?_, fun hc => ?_⟩
  · have hc := dec_t hc
    have hi : i < 4 := by omega
    refine h.drw fun w h => ⟨(M : Int), h.cellAdd 8 rfl, ?_⟩
    refine Rets.mono (nNew_spec (N := M) h (by omega)) ?_
    clear h
    rintro _ w ⟨g', rfl, h⟩
    refine ⟨_, rfl, by omega, by omega, ?_⟩
    rw [Int.toNat_natCast, Nat.mul_one, addr_add_add, Nat.zero_add]
    refine h.swap.store (by rw [skC_len]; simp; omega) (by simp [Value.oneCell']) fun w h => h.drw fun w h => ?_
    refine Rets.mono (mxMix (x := IntKind.wrap .u64 (IntKind.wrap .u64 (s + IntKind.wrap .u64 (i : Int)) + 1)) h (fun w h => hm1 w (dropR i w h.drop.drop))) ?_
    clear h
    rintro _ w ⟨rfl, h⟩
    refine ⟨_, rfl, by omega, by omega, ?_⟩
    rw [addr_add_add]
    refine h.store (by rw [setFrom_length, skC_len]; simp; omega) (by simp [Value.oneCell']) fun w h => ⟨k - 1, by omega, i + 1, putA a i g', by rw [wI64 (by omega) (by omega)]; rfl, by omega, ?_⟩
    have e1 := skC_put (s := s) (a := a) (M := M) (g' := g') hi
    rw [← e1]
    unfold rws
    rw [rws_put a M g' i i (Nat.le_refl _)]
    have e2 : putA a i g' i = g' := by unfold putA; rw [if_pos rfl]
    rw [e2]
    exact h
  · have hc := dec_f hc
    obtain rfl : i = 4 := by omega
    subst hM
    refine ⟨g, m, rfl, hok, skO.cl (a := a) ⟨hm, fun j => ⟨nbOk_zero _, by simp⟩⟩ ?_⟩
    have h : Own e w (skB g (a 0) (a 1) (a 2) (a 3) s (2 ^ m) :: rowO (a 3) (List.replicate (2 ^ m) 0) :: rowO (a 2) (List.replicate (2 ^ m) 0) :: rowO (a 1) (List.replicate (2 ^ m) 0) :: rowO (a 0) (List.replicate (2 ^ m) 0) :: F) := h
    exact (Own.sub (h) (by repeat (first | with_reducible exact Sub.nil _ | with_reducible exact Sub.rfl _ | (apply Sub.cons; focus ((repeat (first | with_reducible exact Pick.here | apply Pick.there)); done)) | apply Sub.drop)))
end
theorem ngGet_half (ns : List Nat) (i : Int) : ngGet (ngHalve ns) i = ngGet ns i / 2 := by
  unfold ngGet ngHalve
  rw [List.length_map]
  split
  · rename_i h
    rw [List.getD_eq_getElem?_getD, List.getD_eq_getElem?_getD, List.getElem?_map]
    cases ns[i.toNat]? <;> simp
  · rfl
/-- The least of so many rows, whatever the places. -/
def cuG (P : Nat → Nat) (R : Nat → List Nat) : Nat → Nat
  | 0 => 15
  | i + 1 => min (cuG P R i) (ngGet (R i) (P i : Int))
theorem cuG_le (P : Nat → Nat) (R : Nat → List Nat) : ∀ i, cuG P R i ≤ 15
  | 0 => Nat.le_refl _
  | i + 1 => Nat.le_trans (Nat.min_le_left _ _) (cuG_le P R i)
theorem cuG_add (P : Nat → Nat) (R : Nat → List Nat) {M : Nat} (hP : ∀ i, P i < M) (hR : rowsOk M R) : ∀ i, cuG P (fun j => ngAdd (R j) (P j : Int)) i = min 15 (cuG P R i + 1)
  | 0 => rfl
  | i + 1 => by
    have ih := cuG_add P R hP hR i
    have hp := hP i
    have hg := ngGet_eq (hR i).1 (P i : Int)
    rw [if_pos ⟨by omega, by rw [(hR i).2]; omega⟩] at hg
    show min (cuG P (fun j => ngAdd (R j) (P j : Int)) i) (ngGet (ngAdd (R i) (P i : Int)) (P i : Int)) = min 15 (min (cuG P R i) (ngGet (R i) (P i : Int)) + 1)
    rw [ih, hg]; omega
theorem cuG_mono (P Q : Nat → Nat) (R : Nat → List Nat) {M : Nat} (hQ : ∀ i, Q i < M) (hR : rowsOk M R) : ∀ i, cuG Q R i ≤ cuG Q (fun j => ngAdd (R j) (P j : Int)) i
  | 0 => Nat.le_refl _
  | i + 1 => by
    have ih := cuG_mono P Q R hQ hR i
    have hp := hQ i
    show min (cuG Q R i) (ngGet (R i) (Q i : Int)) ≤ min (cuG Q (fun j => ngAdd (R j) (P j : Int)) i) (ngGet (ngAdd (R i) (P i : Int)) (Q i : Int))
    have hle : ngGet (R i) (Q i : Int) ≤ ngGet (ngAdd (R i) (P i : Int)) (Q i : Int) := by
      by_cases h : P i = Q i
      · rw [h]
        have hg := ngGet_eq (hR i).1 (Q i : Int)
        rw [if_pos ⟨by omega, by rw [(hR i).2]; omega⟩] at hg
        have hl := ngGet_lt (hR i).1 (Q i : Int)
        omega
      · rw [ngGet_ne (by omega)]; omega
    omega
theorem cuG_half (P : Nat → Nat) (R : Nat → List Nat) {M : Nat} (hR : rowsOk M R) : ∀ i, cuG P (fun j => ngHalve (R j)) (i + 1) = cuG P R (i + 1) / 2
  | 0 => by
    have hl := ngGet_lt (hR 0).1 (P 0 : Int)
    show min 15 (ngGet (ngHalve (R 0)) (P 0 : Int)) = min 15 (ngGet (R 0) (P 0 : Int)) / 2
    rw [ngGet_half]; omega
  | i + 1 => by
    have ih := cuG_half P R hR i
    show min (cuG P (fun j => ngHalve (R j)) (i + 1)) (ngGet (ngHalve (R (i + 1))) (P (i + 1) : Int)) = min (cuG P R (i + 1)) (ngGet (R (i + 1)) (P (i + 1) : Int)) / 2
    rw [ih, ngGet_half]; omega
theorem cuG_zero (P : Nat → Nat) (n : Nat) : cuG P (fun _ => List.replicate n 0) 4 = 0 := by
  simp [cuG, ngGet_zero]
theorem cuN_eq (s : Int) (M : Nat) (x : Int) (R : Nat → List Nat) : ∀ i, cuN s M x R i = cuG (plc s M x) R i
  | 0 => rfl
  | i + 1 => by
    unfold cuN cuG
    rw [cuN_eq s M x R i]
section
variable {s x o : Int} {M : Nat} {ws : List Nat}
theorem has_put (hM : 0 < M) (hl : ws.length = (M + 63) / 64) : hasB s x M (putB s x M ws) = true := by
  unfold putB
  split
  · assumption
  · exact hasB_iff.2 fun i hi => (ptW_bit hM hl _ 4).2 (.inr ⟨i, hi, rfl⟩)
theorem has_mono (hM : 0 < M) (hl : ws.length = (M + 63) / 64) (h : hasB s o M ws = true) : hasB s o M (putB s x M ws) = true := by
  unfold putB
  split
  · exact h
  · exact hasB_iff.2 fun i hi => (ptW_bit hM hl _ 4).2 (.inl (hasB_iff.1 h i hi))
theorem has_zero (s x : Int) (M n : Nat) : hasB s x M (List.replicate n 0) = false := by
  have hb := bitsOf.nil s M n
  rw [Bool.eq_false_iff]; intro hh
  have := (hb _).1 (hasB_iff.1 hh 0 (by decide))
  obtain ⟨k, hk, _⟩ := this
  cases hk
end
/-- How often a key is thought to come. -/
def esG (c : Nat) (b : Bool) : Nat := c + if b = true then 1 else 0
theorem esG_le {c : Nat} {b : Bool} (h : c ≤ 15) : esG c b ≤ 16 := by unfold esG; split <;> omega
theorem esG_upT {c : Nat} (h : c ≤ 15) : esG (min 15 (c + 1)) true = min 16 (esG c true + 1) := by unfold esG; simp; omega
theorem esG_upF {c : Nat} (h : c ≤ 15) : esG c true = min 16 (esG c false + 1) := by unfold esG; simp; omega
theorem esG_mono {c d : Nat} {a b : Bool} (h : c ≤ d) (hb : a = true → b = true) : esG c a ≤ esG d b := by
  unfold esG
  cases a with
  | true => rw [hb rfl]; simp; exact h
  | false => simp; omega
theorem esG_ageT {c d : Nat} (h : d = min 15 (c + 1)) : esG (d / 2) false ≤ (esG c true + 1) / 2 := by unfold esG; simp; omega
theorem esG_ageF {c d : Nat} (h : d = c) : esG (d / 2) false ≤ (esG c false + 1) / 2 := by unfold esG; simp; omega
def esN (s : Int) (M MD : Nat) (R : Nat → List Nat) (ws : List Nat) (x : Int) : Nat := esG (cuG (plc s M x) R 4) (hasB (mixI s) x MD ws)
/-- What adding does to the rows. -/
def adR (s : Int) (M MD : Nat) (R : Nat → List Nat) (ws : List Nat) (x : Int) : Nat → List Nat := if hasB (mixI s) x MD ws = true then fun j => ngAdd (R j) (plc s M x j : Int) else R
section
variable {s x o : Int} {M MD : Nat} {R : Nat → List Nat} {ws : List Nat}
theorem adR_ok (hR : rowsOk M R) : rowsOk M (adR s M MD R ws x) := fun j => by
  unfold adR
  split
  · exact ⟨ngAdd_ok (hR j).1 _, by rw [ngAdd_len]; exact (hR j).2⟩
  · exact hR j
theorem es_le (R : Nat → List Nat) : esN s M MD R ws x ≤ 16 := esG_le (cuG_le _ _ _)
theorem es_up (hM : 0 < M) (hMD : 0 < MD) (hl : ws.length = (MD + 63) / 64) (hR : rowsOk M R) : esN s M MD (adR s M MD R ws x) (putB (mixI s) x MD ws) x = min 16 (esN s M MD R ws x + 1) := by
  unfold esN adR
  rw [has_put hMD hl]
  by_cases h : hasB (mixI s) x MD ws = true
  · rw [if_pos h, h, cuG_add (plc s M x) R (fun i => plc_lt hM) hR]
    exact esG_upT (cuG_le _ _ _)
  · rw [if_neg h, Bool.eq_false_iff.2 h]
    exact esG_upF (cuG_le _ _ _)
theorem es_stay (hM : 0 < M) (hMD : 0 < MD) (hl : ws.length = (MD + 63) / 64) (hR : rowsOk M R) : esN s M MD R ws o ≤ esN s M MD (adR s M MD R ws x) (putB (mixI s) x MD ws) o := by
  unfold esN adR
  refine esG_mono ?_ fun h => has_mono hMD hl h
  split
  · exact cuG_mono (plc s M x) (plc s M o) R (fun i => plc_lt hM) hR 4
  · exact Nat.le_refl _
theorem es_age (hM : 0 < M) (hR : rowsOk M R) (n : Nat) : esN s M MD (fun j => ngHalve (adR s M MD R ws x j)) (List.replicate n 0) x ≤ (esN s M MD R ws x + 1) / 2 := by
  unfold esN
  rw [has_zero, cuG_half (plc s M x) (adR s M MD R ws x) (adR_ok hR) 3]
  unfold adR
  by_cases h : hasB (mixI s) x MD ws = true
  · rw [if_pos h, h]
    exact esG_ageT (cuG_add (plc s M x) R (fun i => plc_lt hM) hR 4)
  · rw [if_neg h, Bool.eq_false_iff.2 h]
    exact esG_ageF rfl
theorem es_zero (s : Int) (M MD n k : Nat) (x : Int) : esN s M MD (fun _ => List.replicate n 0) (List.replicate k 0) x = 0 := by
  unfold esN
  rw [has_zero, cuG_zero]; rfl
end
abbrev tinB (g gs gd : Nat) (ct lim ag : Int) : HP := blk g 52 [.pointer (some ⟨gs, 0, none⟩), .pointer (some ⟨gd, 0, none⟩), .int .i64 ct, .int .i64 lim, .int .i64 ag]
/-- A tiny: its sketch, its door, three numbers. -/
def tinO (g m md : Nat) (s : Int) (R : Nat → List Nat) (ws : List Nat) (ct lim ag : Int) : HP := exH fun (p : Nat × Nat) => puH (ws.length = (2 ^ md + 63) / 64 ∧ md ≤ 20 ∧ m ≤ 12 ∧ rowsOk (2 ^ m) R) (allH [tinB g p.1 p.2 ct lim ag, skO p.1 m s R, dorO p.2 md (mixI s) ws])
section
variable {e w : World} {F : List HP} {n s hh ct lim ag : Int} {g m md : Nat} {R : Nat → List Nat} {ws : List Nat}
theorem tinO.op (h : Own e w (tinO g m md s R ws ct lim ag :: F)) : ∃ gs gd, (ws.length = (2 ^ md + 63) / 64 ∧ md ≤ 20 ∧ m ≤ 12 ∧ rowsOk (2 ^ m) R) ∧ Own e w (tinB g gs gd ct lim ag :: skO gs m s R :: dorO gd md (mixI s) ws :: F) := by
  obtain ⟨⟨gs, gd⟩, h⟩ := h.ex
  obtain ⟨h1, h⟩ := h.pu
  exact ⟨gs, gd, h1, h.open_⟩
theorem tinO.cl {gs gd : Nat} (h : Own e w (tinB g gs gd ct lim ag :: skO gs m s R :: dorO gd md (mixI s) ws :: F)) : Own e w (tinO g m md s R ws ct lim ag :: F) := by
  have h1 : Own e w (skO gs m s R :: tinB g gs gd ct lim ag :: dorO gd md (mixI s) ws :: F) := h.swap
  obtain ⟨_, ⟨hm, hR⟩, _⟩ := skO.op h1
  have h2 : Own e w (dorO gd md (mixI s) ws :: tinB g gs gd ct lim ag :: skO gs m s R :: F) := (Own.sub (h) (by repeat (first | with_reducible exact Sub.nil _ | with_reducible exact Sub.rfl _ | (apply Sub.cons; focus ((repeat (first | with_reducible exact Pick.here | apply Pick.there)); done)) | apply Sub.drop)))
  obtain ⟨_, ⟨hl, _, hmd, _⟩, _⟩ := dorO.op h2
  have h : Own e w ([tinB g gs gd ct lim ag, skO gs m s R, dorO gd md (mixI s) ws] ++ F) := h
  exact Own.mkEx (P := fun (p : Nat × Nat) => puH (ws.length = (2 ^ md + 63) / 64 ∧ md ≤ 20 ∧ m ≤ 12 ∧ rowsOk (2 ^ m) R) (allH [tinB g p.1 p.2 ct lim ag, skO p.1 m s R, dorO p.2 md (mixI s) ws])) (gs, gd) (Own.mkPu ⟨hl, hmd, hm, hR⟩ h.close_)
theorem tNew (hm1 : ∀ w, Own e w F → RdC w mixQ mixC) (h : Own e w F) : Rets Tryd.prog 6 #[.int .i64 n, .int .u64 s] w fun v w' => ∃ g m md, v = .pointer (some ⟨g, 0, none⟩) ∧ Own e w' (tinO g m md s (fun _ => List.replicate (2 ^ m) 0) (List.replicate ((2 ^ md + 63) / 64) 0) 0 (maxI 1 (minI n 4096)) 0 :: F) := by
  refine tiny_New_go _ _ ?_
  refine Rets.mono (skNew hm1 h) ?_
  clear h
  rintro _ w ⟨gs, m, rfl, _, h⟩
  refine ⟨_, rfl, ?_⟩
  refine Rets.mono (drNew (fun w h => hm1 w h.drop) h) ?_
  clear h
  rintro _ w ⟨gd, md, rfl, _, h⟩
  refine ⟨_, rfl, h.newR fun g w h => ⟨g, m, md, rfl, ?_⟩⟩
  have h : Own e w (tinB g gs gd 0 (maxI 1 (minI n 4096)) 0 :: skO gs m s (fun _ => List.replicate (2 ^ m) 0) :: dorO gd md (mixI s) (List.replicate ((2 ^ md + 63) / 64) 0) :: F) := (Own.sub (h) (by repeat (first | with_reducible exact Sub.nil _ | with_reducible exact Sub.rfl _ | (apply Sub.cons; focus ((repeat (first | with_reducible exact Pick.here | apply Pick.there)); done)) | apply Sub.drop)))
  exact tinO.cl h
theorem drClear {gd : Nat} (h : Own e w (dorO gd md s ws :: F)) : Rets Tryd.prog 47 #[.pointer (some ⟨gd, 0, none⟩)] w fun v w' => v = .tuple #[] ∧ Own e w' (dorO gd md s (List.replicate ws.length 0) :: F) := by
  obtain ⟨q, h1, h⟩ := dorO.op h
  obtain ⟨hl, hsm, hm20, hM⟩ := h1
  refine door_Door_Clear_go _ ⟨fun _ => ⟨_, _, _, (Own.ld h (by repeat (first | with_reducible exact Pick.here | apply Pick.there)) (by rfl)), ?_⟩, fun hc => (by cases hc)⟩
  refine Own.clear (z := .int .u64 0) h.swap (by kernel_rfl) (by kernel_rfl) rfl fun w h => ⟨rfl, rfl, ?_⟩
  refine dorO.cl (q := q) ⟨by rw [List.length_replicate]; exact hl, fun x hx => by rw [List.eq_of_mem_replicate hx]; omega, hm20, hM⟩ ?_
  rw [List.length_replicate]
  have e2 : wsC (List.replicate ws.length 0) = List.replicate ws.length (.int .u64 0) := by simp [cs]
  rw [wsB, e2]
  exact h.swap
theorem tAge (h : Own e w (tinO g m md s R ws ct lim ag :: F)) : Rets Tryd.prog 25 #[.pointer (some ⟨g, 0, none⟩)] w fun v w' => v = .tuple #[] ∧ Own e w' (tinO g m md s (fun j => ngHalve (R j)) (List.replicate ws.length 0) 0 lim (IntKind.wrap .i64 (ag + 1)) :: F) := by
  obtain ⟨gs, gd, _, h⟩ := tinO.op h
  refine tiny_Tiny_age_go _ ⟨_, Own.ld (g := g) (k := 0) h (by repeat (first | with_reducible exact Pick.here | apply Pick.there)) rfl, ?_⟩
  have h : Own e w (skO gs m s R :: tinB g gs gd ct lim ag :: dorO gd md (mixI s) ws :: F) := h.swap
  refine Rets.mono (skHalve h) ?_
  clear h
  rintro _ w ⟨rfl, h⟩
  have h : Own e w (tinB g gs gd ct lim ag :: dorO gd md (mixI s) ws :: skO gs m s (fun j => ngHalve (R j)) :: F) := (Own.sub (h) (by repeat (first | with_reducible exact Sub.nil _ | with_reducible exact Sub.rfl _ | (apply Sub.cons; focus ((repeat (first | with_reducible exact Pick.here | apply Pick.there)); done)) | apply Sub.drop)))
  refine ⟨rfl, _, Own.ld (g := g) (k := 1) h (by repeat (first | with_reducible exact Pick.here | apply Pick.there)) rfl, ?_⟩
  refine Rets.mono (drClear h.swap) ?_
  clear h
  rintro _ w ⟨rfl, h⟩
  have h : Own e w (tinB g gs gd ct lim ag :: skO gs m s (fun j => ngHalve (R j)) :: dorO gd md (mixI s) (List.replicate ws.length 0) :: F) := (Own.sub (h) (by repeat (first | with_reducible exact Sub.nil _ | with_reducible exact Sub.rfl _ | (apply Sub.cons; focus ((repeat (first | with_reducible exact Pick.here | apply Pick.there)); done)) | apply Sub.drop)))
  refine ⟨rfl, Own.stP (g := g) (k := 2) h (by repeat (first | with_reducible exact Pick.here | apply Pick.there)) (by simp) (by simp [Value.oneCell']) fun w h => ?_⟩
  simp only [setFrom, List.set_cons_zero, List.set_cons_succ, List.set_nil] at h
  refine ⟨_, Own.ld (g := g) (k := 4) h (by repeat (first | with_reducible exact Pick.here | apply Pick.there)) rfl, Own.stP (g := g) (k := 4) h (by repeat (first | with_reducible exact Pick.here | apply Pick.there)) (by simp) (by simp [Value.oneCell']) fun w h => ⟨rfl, ?_⟩⟩
  simp only [setFrom, List.set_cons_zero, List.set_cons_succ, List.set_nil] at h
  exact tinO.cl h
theorem tCount (h : Own e w (tinO g m md s R ws ct lim ag :: F)) : Rets Tryd.prog 12 #[.pointer (some ⟨g, 0, none⟩)] w fun v w' => v = .int .i64 ct ∧ Own e w' (tinO g m md s R ws ct lim ag :: F) := by
  obtain ⟨gs, gd, _, h⟩ := tinO.op h
  exact tiny_Tiny_Count_go _ ⟨fun hc => (by cases hc), fun _ => ⟨_, Own.ld (g := g) (k := 2) h (by repeat (first | with_reducible exact Pick.here | apply Pick.there)) rfl, rfl, tinO.cl h⟩⟩
theorem tSketch (h : Own e w (tinO g m md s R ws ct lim ag :: F)) : Rets Tryd.prog 23 #[.pointer (some ⟨g, 0, none⟩)] w fun v w' => (∃ gs : Nat, v = .pointer (some ⟨gs, 0, none⟩)) ∧ Own e w' (tinO g m md s R ws ct lim ag :: F) := by
  obtain ⟨gs, gd, _, h⟩ := tinO.op h
  exact tiny_Tiny_Sketch_go _ ⟨fun hc => (by cases hc), fun _ => ⟨_, Own.ld (g := g) (k := 0) h (by repeat (first | with_reducible exact Pick.here | apply Pick.there)) rfl, ⟨_, rfl⟩, tinO.cl h⟩⟩
theorem tDoor (h : Own e w (tinO g m md s R ws ct lim ag :: F)) : Rets Tryd.prog 54 #[.pointer (some ⟨g, 0, none⟩)] w fun v w' => (∃ gd : Nat, v = .pointer (some ⟨gd, 0, none⟩)) ∧ Own e w' (tinO g m md s R ws ct lim ag :: F) := by
  obtain ⟨gs, gd, _, h⟩ := tinO.op h
  exact tiny_Tiny_Door_go _ ⟨fun hc => (by cases hc), fun _ => ⟨_, Own.ld (g := g) (k := 1) h (by repeat (first | with_reducible exact Pick.here | apply Pick.there)) rfl, ⟨_, rfl⟩, tinO.cl h⟩⟩
theorem tEst (hm1 : ∀ w, Own e w F → RdC w mixQ mixC) (hm2 : ∀ w, Own e w F → RdC w twiQ twiC) (h : Own e w (tinO g m md s R ws ct lim ag :: F)) : Rets Tryd.prog 10 #[.pointer (some ⟨g, 0, none⟩), .int .u64 hh] w fun v w' => v = .int .i64 (esN s (2 ^ m) (2 ^ md) R ws hh : Int) ∧ Own e w' (tinO g m md s R ws ct lim ag :: F) := by
  obtain ⟨gs, gd, _, h⟩ := tinO.op h
  refine tiny_Tiny_Estimate_go _ _ ⟨fun hc => (by cases hc), fun _ => ⟨_, Own.ld (g := g) (k := 0) h (by repeat (first | with_reducible exact Pick.here | apply Pick.there)) rfl, ?_⟩⟩
  have h : Own e w (skO gs m s R :: tinB g gs gd ct lim ag :: dorO gd md (mixI s) ws :: F) := h.swap
  refine Rets.mono (skCount (hh := hh) (fun w h => hm1 w h.drop.drop) h) ?_
  clear h
  rintro _ w ⟨rfl, h⟩
  have h : Own e w (tinB g gs gd ct lim ag :: dorO gd md (mixI s) ws :: skO gs m s R :: F) := (Own.sub (h) (by repeat (first | with_reducible exact Sub.nil _ | with_reducible exact Sub.rfl _ | (apply Sub.cons; focus ((repeat (first | with_reducible exact Pick.here | apply Pick.there)); done)) | apply Sub.drop)))
  refine ⟨_, rfl, _, Own.ld (g := g) (k := 1) h (by repeat (first | with_reducible exact Pick.here | apply Pick.there)) rfl, ?_⟩
  refine Rets.mono (drHas (hh := hh) (fun w h => hm1 w h.drop.drop) (fun w h => hm2 w h.drop.drop) h.swap) ?_
  clear h
  rintro _ w ⟨rfl, h⟩
  have h : Own e w (tinB g gs gd ct lim ag :: skO gs m s R :: dorO gd md (mixI s) ws :: F) := (Own.sub (h) (by repeat (first | with_reducible exact Sub.nil _ | with_reducible exact Sub.rfl _ | (apply Sub.cons; focus ((repeat (first | with_reducible exact Pick.here | apply Pick.there)); done)) | apply Sub.drop)))
  have h := tinO.cl h
  have hle := cuG_le (plc s (2 ^ m) hh) R 4
  have ee : esN s (2 ^ m) (2 ^ md) R ws hh = esG (cuG (plc s (2 ^ m) hh) R 4) (hasB (mixI s) hh (2 ^ md) ws) := rfl
  rw [ee, cuN_eq]
  obtain ⟨c, hc⟩ : ∃ c, c = cuG (plc s (2 ^ m) hh) R 4 := ⟨_, rfl⟩
  rw [← hc] at hle ⊢
  refine ⟨_, rfl, fun hb => ⟨?_, h⟩, fun hb => ⟨?_, h⟩⟩
  · rw [hb, wI64 (by omega) (by omega)]; rfl
  · rw [hb]; rfl
theorem tSketchP {gs gd : Nat} (h : Own e w (tinB g gs gd ct lim ag :: F)) : Rets Tryd.prog 23 #[.pointer (some ⟨g, 0, none⟩)] w fun v w' => v = .pointer (some ⟨gs, 0, none⟩) ∧ Own e w' (tinB g gs gd ct lim ag :: F) := by
  exact tiny_Tiny_Sketch_go _ ⟨fun hc => (by cases hc), fun _ => ⟨_, Own.ld (g := g) (k := 0) h (by repeat (first | with_reducible exact Pick.here | apply Pick.there)) rfl, rfl, h⟩⟩
theorem tAdd (hm1 : ∀ w, Own e w F → RdC w mixQ mixC) (hm2 : ∀ w, Own e w F → RdC w twiQ twiC) (hct : 0 ≤ ct ∧ ct < lim ∧ lim ≤ 4096) (h : Own e w (tinO g m md s R ws ct lim ag :: F)) : Rets Tryd.prog 8 #[.pointer (some ⟨g, 0, none⟩), .int .u64 hh] w fun v w' => v = .tuple #[] ∧
    ((lim ≤ ct + 1 ∧ Own e w' (tinO g m md s (fun j => ngHalve (adR s (2 ^ m) (2 ^ md) R ws hh j)) (List.replicate ws.length 0) 0 lim (IntKind.wrap .i64 (ag + 1)) :: F)) ∨
     (ct + 1 < lim ∧ Own e w' (tinO g m md s (adR s (2 ^ m) (2 ^ md) R ws hh) (putB (mixI s) hh (2 ^ md) ws) (ct + 1) lim ag :: F))) := by
  obtain ⟨gs, gd, ⟨hl, hmd, _, _⟩, h⟩ := tinO.op h
  have hpl : (putB (mixI s) hh (2 ^ md) ws).length = ws.length := putB_len _ _ _ _
  refine tiny_Tiny_Add_go _ _ ⟨fun hc => (by cases hc), fun _ => ⟨_, Own.ld (g := g) (k := 1) h (by repeat (first | with_reducible exact Pick.here | apply Pick.there)) rfl, ?_⟩⟩
  have h : Own e w (dorO gd md (mixI s) ws :: tinB g gs gd ct lim ag :: skO gs m s R :: F) := (Own.sub (h) (by repeat (first | with_reducible exact Sub.nil _ | with_reducible exact Sub.rfl _ | (apply Sub.cons; focus ((repeat (first | with_reducible exact Pick.here | apply Pick.there)); done)) | apply Sub.drop)))
  refine Rets.mono (drPut (hh := hh) (fun w h => hm1 w h.drop.drop) (fun w h => hm2 w h.drop.drop) h) ?_
  clear h
  rintro _ w ⟨rfl, h⟩
  have h : Own e w (tinB g gs gd ct lim ag :: skO gs m s R :: dorO gd md (mixI s) (putB (mixI s) hh (2 ^ md) ws) :: F) := (Own.sub (h) (by repeat (first | with_reducible exact Sub.nil _ | with_reducible exact Sub.rfl _ | (apply Sub.cons; focus ((repeat (first | with_reducible exact Pick.here | apply Pick.there)); done)) | apply Sub.drop)))
  obtain ⟨R', hR'⟩ : ∃ R', R' = adR s (2 ^ m) (2 ^ md) R ws hh := ⟨_, rfl⟩
  obtain ⟨ws', hws⟩ : ∃ ws', ws' = putB (mixI s) hh (2 ^ md) ws := ⟨_, rfl⟩
  obtain ⟨b, hb⟩ : ∃ b, b = hasB (mixI s) hh (2 ^ md) ws := ⟨_, rfl⟩
  rw [← hws] at h hpl
  rw [← hR', ← hws, ← hb, ← hpl]
  have e1 : IntKind.wrap .i64 (ct + 1) = ct + 1 := wI64 (by omega) (by omega)
  refine ⟨_, rfl, fun hn => ?_, fun hn => ?_⟩
  · have hbt : b = true := by simpa using hn
    have eR : R' = fun j => ngAdd (R j) (plc s (2 ^ m) hh j : Int) := by rw [hR']; unfold adR; rw [← hb, if_pos hbt]
    refine Rets.mono (tSketchP h) ?_
    rintro _ w ⟨rfl, h⟩
    refine ⟨_, rfl, ?_⟩
    refine Rets.mono (skAdd (hh := hh) (fun w h => hm1 w h.drop.drop) h.swap) ?_
    clear h
    rintro _ w ⟨rfl, h⟩
    rw [← eR] at h
    have h := h.swap
    refine ⟨rfl, _, Own.ld (g := g) (k := 2) h (by repeat (first | with_reducible exact Pick.here | apply Pick.there)) rfl, Own.stP (g := g) (k := 2) h (by repeat (first | with_reducible exact Pick.here | apply Pick.there)) (by simp) (by simp [Value.oneCell']) fun w h => ?_⟩
    simp only [setFrom, List.set_cons_zero, List.set_cons_succ, List.set_nil] at h
    rw [e1] at h
    refine h.drw fun w h => ⟨_, Own.ld (g := g) (k := 2) h (by repeat (first | with_reducible exact Pick.here | apply Pick.there)) rfl, _, Own.ld (g := g) (k := 3) h (by repeat (first | with_reducible exact Pick.here | apply Pick.there)) rfl, fun hc => ?_, fun hc => ⟨rfl, .inr ⟨?_, tinO.cl h⟩⟩⟩
    · have hc := dec_t hc
      refine Rets.mono (tAge (tinO.cl h)) ?_
      rintro _ w ⟨rfl, h⟩
      exact ⟨rfl, rfl, .inl ⟨by omega, h⟩⟩
    · have hc := dec_f hc; omega
  · have hbf : b = false := by simpa using hn
    have eR : R' = R := by rw [hR']; unfold adR; rw [← hb, hbf]; rfl
    rw [eR]
    refine ⟨_, Own.ld (g := g) (k := 2) h (by repeat (first | with_reducible exact Pick.here | apply Pick.there)) rfl, Own.stP (g := g) (k := 2) h (by repeat (first | with_reducible exact Pick.here | apply Pick.there)) (by simp) (by simp [Value.oneCell']) fun w h => ?_⟩
    simp only [setFrom, List.set_cons_zero, List.set_cons_succ, List.set_nil] at h
    rw [e1] at h
    refine h.drw fun w h => ⟨_, Own.ld (g := g) (k := 2) h (by repeat (first | with_reducible exact Pick.here | apply Pick.there)) rfl, _, Own.ld (g := g) (k := 3) h (by repeat (first | with_reducible exact Pick.here | apply Pick.there)) rfl, fun hc => ?_, fun hc => ⟨rfl, .inr ⟨?_, tinO.cl h⟩⟩⟩
    · have hc := dec_t hc
      refine Rets.mono (tAge (tinO.cl h)) ?_
      rintro _ w ⟨rfl, h⟩
      exact ⟨rfl, rfl, .inl ⟨by omega, h⟩⟩
    · have hc := dec_f hc; omega
theorem tnAdd (h : Own e w F) : Rets Tryd.prog 8 #[.pointer none, .int .u64 hh] w fun v w' => v = .tuple #[] ∧ Own e w' F := tiny_nil_Add_go _ ⟨fun _ => ⟨rfl, h⟩, fun hc => (by cases hc)⟩
theorem tnEst (h : Own e w F) : Rets Tryd.prog 10 #[.pointer none, .int .u64 hh] w fun v w' => v = .int .i64 0 ∧ Own e w' F := tiny_nil_Estimate_go _ ⟨fun _ => ⟨rfl, h⟩, fun hc => (by cases hc)⟩
theorem tnCount (h : Own e w F) : Rets Tryd.prog 12 #[.pointer none] w fun v w' => v = .int .i64 0 ∧ Own e w' F := tiny_nil_Count_go ⟨fun _ => ⟨rfl, h⟩, fun hc => (by cases hc)⟩
theorem tnSketch (h : Own e w F) : Rets Tryd.prog 23 #[.pointer none] w fun v w' => v = .pointer none ∧ Own e w' F := tiny_nil_Sketch_go ⟨fun _ => ⟨rfl, h⟩, fun hc => (by cases hc)⟩
theorem tnDoor (h : Own e w F) : Rets Tryd.prog 54 #[.pointer none] w fun v w' => v = .pointer none ∧ Own e w' F := tiny_nil_Door_go ⟨fun _ => ⟨rfl, h⟩, fun hc => (by cases hc)⟩
end

/-- What a tiny knows. -/
structure Ts where
  R : Nat → List Nat
  ws : List Nat
  ct : Int
  ag : Int
def nxT (s : Int) (m md : Nat) (lim : Int) (t : Ts) (x : Int) : Ts :=
  if lim ≤ t.ct + 1 then ⟨fun j => ngHalve (adR s (2 ^ m) (2 ^ md) t.R t.ws x j), List.replicate t.ws.length 0, 0, IntKind.wrap .i64 (t.ag + 1)⟩
  else ⟨adR s (2 ^ m) (2 ^ md) t.R t.ws x, putB (mixI s) x (2 ^ md) t.ws, t.ct + 1, t.ag⟩
def okT (m md : Nat) (lim : Int) (t : Ts) : Prop := rowsOk (2 ^ m) t.R ∧ t.ws.length = (2 ^ md + 63) / 64 ∧ 0 ≤ t.ct ∧ t.ct < lim
def t0 (m md : Nat) : Ts := ⟨fun _ => List.replicate (2 ^ m) 0, List.replicate ((2 ^ md + 63) / 64) 0, 0, 0⟩
theorem rows_half {M : Nat} {R : Nat → List Nat} (h : rowsOk M R) : rowsOk M (fun j => ngHalve (R j)) := fun j => by
  refine ⟨fun x hx => ?_, by simp [ngHalve, (h j).2]⟩
  obtain ⟨y, hy, rfl⟩ := List.mem_map.1 hx
  have := (h j).1 y hy
  omega
theorem okT0 {m md : Nat} {lim : Int} (h : 1 ≤ lim) : okT m md lim (t0 m md) := ⟨fun j => ⟨nbOk_zero _, by simp [t0]⟩, by simp [t0], Int.le_refl _, by show (0 : Int) < lim; omega⟩
theorem okT_nx {s : Int} {m md : Nat} {lim : Int} {t : Ts} (hl : 1 ≤ lim) (h : okT m md lim t) (x : Int) : okT m md lim (nxT s m md lim t x) := by
  obtain ⟨h1, h2, h3, h4⟩ := h
  unfold nxT
  split
  · exact ⟨rows_half (adR_ok h1), by show (List.replicate t.ws.length 0).length = _; rw [List.length_replicate]; exact h2, Int.le_refl _, by show (0 : Int) < lim; omega⟩
  · rename_i hn
    exact ⟨adR_ok h1, by show (putB (mixI s) x (2 ^ md) t.ws).length = _; rw [putB_len]; exact h2, by show 0 ≤ t.ct + 1; omega, by show t.ct + 1 < lim; omega⟩
def nxL (s : Int) (m md : Nat) (lim : Int) (t : Ts) (l : List Int) : Ts := l.foldl (nxT s m md lim) t
theorem nxL_snoc (s : Int) (m md : Nat) (lim : Int) (t : Ts) (l : List Int) (x : Int) : nxL s m md lim t (l ++ [x]) = nxT s m md lim (nxL s m md lim t l) x := by unfold nxL; rw [List.foldl_append]; rfl
theorem nxL_take {s : Int} {m md : Nat} {lim : Int} {t : Ts} {l : List Int} {i : Nat} (h : i < l.length) : nxL s m md lim t (l.take (i + 1)) = nxT s m md lim (nxL s m md lim t (l.take i)) l[i] := by
  rw [List.take_succ_eq_append_getElem h, nxL_snoc]
theorem okT_nxL {s : Int} {m md : Nat} {lim : Int} {t : Ts} (hl : 1 ≤ lim) (h : okT m md lim t) (l : List Int) : okT m md lim (nxL s m md lim t l) := by
  induction l generalizing t with
  | nil => exact h
  | cons x l ih => exact ih (okT_nx hl h x)
abbrev tinT (g m md : Nat) (s lim : Int) (t : Ts) : HP := tinO g m md s t.R t.ws t.ct lim t.ag
section
variable {e w : World} {F : List HP} {n s hh lim : Int} {g m md : Nat} {t : Ts}
theorem tAddT (hm1 : ∀ w, Own e w F → RdC w mixQ mixC) (hm2 : ∀ w, Own e w F → RdC w twiQ twiC) (hlim : lim ≤ 4096) (ok : okT m md lim t) (h : Own e w (tinT g m md s lim t :: F)) : Rets Tryd.prog 8 #[.pointer (some ⟨g, 0, none⟩), .int .u64 hh] w fun v w' => v = .tuple #[] ∧ Own e w' (tinT g m md s lim (nxT s m md lim t hh) :: F) := by
  obtain ⟨_, _, h3, h4⟩ := ok
  refine Rets.mono (tAdd (hh := hh) hm1 hm2 ⟨h3, h4, hlim⟩ h) ?_
  clear h
  rintro _ w ⟨rfl, ⟨hc, h⟩ | ⟨hc, h⟩⟩
  · unfold nxT; rw [if_pos hc]; exact ⟨rfl, h⟩
  · unfold nxT; rw [if_neg (by omega)]; exact ⟨rfl, h⟩
theorem tNewT (hm1 : ∀ w, Own e w F → RdC w mixQ mixC) (h : Own e w F) : Rets Tryd.prog 6 #[.int .i64 n, .int .u64 s] w fun v w' => ∃ g m md, v = .pointer (some ⟨g, 0, none⟩) ∧ pwOk (maxI 1 (minI (maxI 1 (minI n 4096)) 4096)) m ∧ pwOk (keyN (maxI 1 (minI n 4096))) md ∧ Own e w' (tinT g m md s (maxI 1 (minI n 4096)) (t0 m md) :: F) := by
  refine tiny_New_go _ _ ?_
  refine Rets.mono (skNew hm1 h) ?_
  clear h
  rintro _ w ⟨gs, m, rfl, hok, h⟩
  refine ⟨_, rfl, ?_⟩
  refine Rets.mono (drNew (fun w h => hm1 w h.drop) h) ?_
  clear h
  rintro _ w ⟨gd, md, rfl, hok2, h⟩
  refine ⟨_, rfl, h.newR fun g w h => ⟨g, m, md, rfl, hok, hok2, ?_⟩⟩
  have h : Own e w (tinB g gs gd 0 (maxI 1 (minI n 4096)) 0 :: skO gs m s (fun _ => List.replicate (2 ^ m) 0) :: dorO gd md (mixI s) (List.replicate ((2 ^ md + 63) / 64) 0) :: F) := (Own.sub (h) (by repeat (first | with_reducible exact Sub.nil _ | with_reducible exact Sub.rfl _ | (apply Sub.cons; focus ((repeat (first | with_reducible exact Pick.here | apply Pick.there)); done)) | apply Sub.drop)))
  exact tinO.cl h
end
end Go.Proofs.YtjdbeopgmpbikaaDoor.Eng
