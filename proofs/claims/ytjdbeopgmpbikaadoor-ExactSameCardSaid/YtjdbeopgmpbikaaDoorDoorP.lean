/- Doors: what each function does. -/
import Derived.Test.YtjdbeopgmpbikaaDoorDoorW
import Derived.Test.YtjdbeopgmpbikaaDoorMixP
import Derived.Test.YtjdbeopgmpbikaaDoorDoorG
import Derived.Test.YtjdbeopgmpbikaaDoorIntP
namespace Go.Proofs.YtjdbeopgmpbikaaDoor.Eng
open Go Go.RowKit Go.Proofs
set_option linter.unusedVariables false
set_option linter.unusedSimpArgs false
set_option maxRecDepth 1000000
section
variable {e w : World} {F : List HP} {x n s hh : Int}
theorem wdLog {X : Nat} (hX : X < 18446744073709551616) (h : Own e w F) : Rets Tryd.prog 59 #[.int .u64 (X : Int)] w fun v w' => (∃ i : Nat, v = .int .i64 ((i : Int) - 1) ∧ i ≤ 64 ∧ X / 2 ^ i = 0 ∧ (i = 0 ∨ X / 2 ^ (i - 1) ≠ 0)) ∧ Own e w' F := by
  refine word_Log_go _ ⟨fun m vs w => ∃ i : Nat, vs = [.int .u64 ((X / 2 ^ i : Nat) : Int), .int .i64 ((i : Int) - 1)] ∧ m = X / 2 ^ i ∧ i ≤ 64 ∧ (i = 0 ∨ X / 2 ^ (i - 1) ≠ 0) ∧ Own e w F, ⟨X, 0, by simp, by simp, by omega, .inl rfl, h⟩, ?_⟩
  clear h
  rintro m w n1 n2
  intros
  rename_i hI
  obtain ⟨i, hvs, rfl, hi, h0, h⟩ := hI
  obtain ⟨rfl, rfl⟩ : n1 = ((X / 2 ^ i : Nat) : Int) ∧ n2 = (i : Int) - 1 := by simpa using hvs
  refine ⟨fun hc => ?_, fun hc => ?_⟩
  · have hc : ¬ X / 2 ^ i = 0 := fun e => by rw [e] at hc; exact absurd hc (by decide)
    have hi64 : i < 64 := by
      refine Nat.lt_of_not_le fun hge => hc (Nat.div_eq_of_lt ?_)
      have : 2 ^ 64 ≤ 2 ^ i := Nat.pow_le_pow_right (by omega) hge
      rw [pow64] at this
      omega
    rw [show shrI IntKind.u64 ((X / 2 ^ i : Nat) : Int) 1 = ((X / 2 ^ i / 2 ^ 1 : Nat) : Int) from shrN _ 1 (by omega), Nat.div_div_eq_div_mul, ← Nat.pow_succ]
    refine ⟨by omega, X / 2 ^ (i + 1), ?_, i + 1, ?_, rfl, by omega, .inr (by rw [Nat.add_sub_cancel]; exact hc), h⟩
    · rw [Nat.pow_succ, ← Nat.div_div_eq_div_mul]
      exact Nat.div_lt_self (Nat.pos_of_ne_zero hc) (by omega)
    · rw [wI64 (by omega) (by omega)]
      congr 3
      omega
  · have hc : X / 2 ^ i = 0 := Int.ofNat.inj (show ((X / 2 ^ i : Nat) : Int) = ((0 : Nat) : Int) from bne_eq_false_iff_eq.1 hc)
    exact ⟨⟨i, rfl, hi, hc, h0⟩, h⟩
theorem wdPower (hn : 2 ≤ n ∧ n ≤ 1000000) (h : Own e w F) : Rets Tryd.prog 38 #[.int .i64 n] w fun v w' => (∃ m : Nat, v = .int .i64 ((2 ^ m : Nat) : Int) ∧ pwOk n m) ∧ Own e w' F := by
  obtain ⟨X, hX⟩ : ∃ X : Nat, n = (X : Int) + 1 := ⟨(n - 1).toNat, by omega⟩
  subst hX
  refine word_Power_go _ ?_
  unfold word_Power_m
  have e1 : maxI 1 (minI ((X : Int) + 1) 4611686018427387904) = (X : Int) + 1 := by unfold minI maxI; split <;> split <;> omega
  rw [e1, wI64 (n := (X : Int) + 1 - 1) (by omega) (by omega), wU64' (n := (X : Int) + 1 - 1) (by omega) (by omega), show (X : Int) + 1 - 1 = (X : Int) by omega]
  refine Rets.mono (wdLog (X := X) (by omega) h) ?_
  rintro _ w ⟨⟨i, rfl, hi, h0, h1⟩, h⟩
  refine ⟨_, rfl, ?_⟩
  rw [wI64 (n := (i : Int) - 1 + 1) (by omega) (by omega), show (i : Int) - 1 + 1 = (i : Int) by omega]
  have hi0 : i ≠ 0 := by
    intro e; subst e
    simp at h0; omega
  have h1 : X / 2 ^ (i - 1) ≠ 0 := by rcases h1 with h1 | h1; exact absurd h1 hi0; exact h1
  have hp : 0 < 2 ^ (i - 1) := Nat.pow_pos (by omega)
  have l1 : X < 2 ^ i := Nat.lt_of_div_eq_zero (Nat.pow_pos (by omega)) h0
  have l2 : 2 ^ (i - 1) ≤ X := by
    refine Nat.le_of_not_lt fun hlt => h1 (Nat.div_eq_of_lt hlt)
  have e2 : 2 ^ i = 2 ^ (i - 1) * 2 := by rw [← Nat.pow_succ]; congr 1; omega
  have hok : pwOk ((X : Int) + 1) i := ⟨by omega, by omega⟩
  have hs := hok.small hn.2
  refine ⟨by omega, ⟨i, ?_, hok⟩, h⟩
  have e3 : shlI IntKind.i64 1 (i : Int) = ((2 ^ i : Nat) : Int) := by
    unfold shlI
    have e4 : min (i : Int).toNat IntKind.i64.bits = i := by
      rw [Int.toNat_natCast]; exact Nat.min_eq_left (by show i ≤ 64; omega)
    rw [e4, Int.one_mul, show (2 : Int) ^ i = ((2 ^ i : Nat) : Int) from by rw [Int.natCast_pow]; rfl]
    exact wI64 (by omega) (by omega)
  rw [e3]
theorem rfPower (hn : 2 ≤ n ∧ n ≤ 1000000) (h : Own e w F) : Rets Tryd.prog 57 #[.int .i64 n] w fun v w' => (∃ m : Nat, v = .int .i64 ((2 ^ m : Nat) : Int) ∧ pwOk n m) ∧ Own e w' F := by
  refine cortadoref01_Power_go _ ⟨fun m vs w => ∃ i : Nat, vs = [.int .i64 ((2 ^ i : Nat) : Int), .int .i64 (i : Int)] ∧ m + i = 62 ∧ (i = 0 ∨ ((2 ^ (i - 1) : Nat) : Int) < n) ∧ Own e w F, ⟨62, 0, rfl, rfl, .inl rfl, h⟩, ?_⟩
  clear h
  rintro m w n1 n2
  intros
  rename_i hI
  obtain ⟨i, hvs, hm, h0, h⟩ := hI
  obtain ⟨rfl, rfl⟩ : n1 = ((2 ^ i : Nat) : Int) ∧ n2 = (i : Int) := by simpa using hvs
  have hi20 : i ≤ 21 := by
    rcases h0 with h0 | h0
    · omega
    · refine Nat.le_of_not_lt fun hlt => ?_
      have : 2 ^ 21 ≤ 2 ^ (i - 1) := Nat.pow_le_pow_right (by omega) (by omega)
      have e : (2 : Nat) ^ 21 = 2097152 := rfl
      omega
  refine ⟨fun hc => ⟨fun hx => ?_, fun hx => ?_⟩, fun hc => ?_⟩
  · have hx := dec_t hx
    have e2 : 2 ^ (i + 1) = 2 ^ i * 2 := Nat.pow_succ _ _
    refine ⟨m - 1, by omega, i + 1, ?_, by omega, .inr (by simpa using hx), h⟩
    rw [wI64 (n := 2 * _) (by omega) (by omega), wI64 (n := (i : Int) + 1) (by omega) (by omega), e2]
    congr 2
    · congr 1; omega
  · have hx := dec_f hx
    refine ⟨⟨i, rfl, by omega, ?_⟩, h⟩
    rcases h0 with h0 | h0
    · subst h0; simp at hx; omega
    · have e2 : 2 ^ i = 2 ^ (i - 1) * 2 := by
        by_cases hi0 : i = 0
        · subst hi0; simp at hx; omega
        · rw [← Nat.pow_succ]; congr 1; omega
      omega
  · have hc := dec_f hc; omega
end
abbrev wsC (ws : List Nat) : List Value := cs .u64 (ws.map fun (b : Nat) => (b : Int))
abbrev wsB (q : Option Addr) (n : Nat) (ws : List Nat) : HP := slO 22 1 q n n (wsC ws)
/-- A door: its words. -/
def dorO (g m : Nat) (s : Int) (ws : List Nat) : HP := exH fun q => puH (ws.length = (2 ^ m + 63) / 64 ∧ Small ws ∧ m ≤ 20 ∧ M64 s) (allH [blk g 78 [.slice q ws.length ws.length, .int .i64 ((2 ^ m : Nat) : Int), .int .u64 s], wsB q ws.length ws])
section
variable {e w : World} {F : List HP} {n s hh : Int} {g m : Nat} {ws : List Nat}
theorem dorO.op (h : Own e w (dorO g m s ws :: F)) : ∃ q, (ws.length = (2 ^ m + 63) / 64 ∧ Small ws ∧ m ≤ 20 ∧ M64 s) ∧ Own e w (blk g 78 [.slice q ws.length ws.length, .int .i64 ((2 ^ m : Nat) : Int), .int .u64 s] :: wsB q ws.length ws :: F) := by
  obtain ⟨q, h⟩ := h.ex
  obtain ⟨h1, h⟩ := h.pu
  exact ⟨q, h1, h.open_⟩
theorem dorO.cl {q : Option Addr} (h1 : ws.length = (2 ^ m + 63) / 64 ∧ Small ws ∧ m ≤ 20 ∧ M64 s) (h : Own e w (blk g 78 [.slice q ws.length ws.length, .int .i64 ((2 ^ m : Nat) : Int), .int .u64 s] :: wsB q ws.length ws :: F)) : Own e w (dorO g m s ws :: F) := by
  have h : Own e w ([blk g 78 [.slice q ws.length ws.length, .int .i64 ((2 ^ m : Nat) : Int), .int .u64 s], wsB q ws.length ws] ++ F) := h
  exact Own.mkEx q (Own.mkPu h1 h.close_)
theorem p20 {m : Nat} (h : m ≤ 20) : 0 < 2 ^ m ∧ 2 ^ m ≤ 1048576 := by
  refine ⟨Nat.pow_pos (by omega), ?_⟩
  have : 2 ^ m ≤ 2 ^ 20 := Nat.pow_le_pow_right (by omega) h
  exact this
def keyN (k : Int) : Int := 8 * maxI 1 (minI k 4096)
theorem keyN_bd (k : Int) : 8 ≤ keyN k ∧ keyN k ≤ 32768 := by unfold keyN maxI minI; split <;> split <;> omega
theorem drNew {k : Int} (hm1 : ∀ w, Own e w F → RdC w mixQ mixC) (h : Own e w F) : Rets Tryd.prog 20 #[.int .i64 k, .int .u64 s] w fun v w' => ∃ g m, v = .pointer (some ⟨g, 0, none⟩) ∧ pwOk (keyN k) m ∧ Own e w' (dorO g m (mixI s) (List.replicate ((2 ^ m + 63) / 64) 0) :: F) := by
  refine door_New_go _ _ ?_
  unfold door_New_m
  have hk := keyN_bd k
  have e1 : IntKind.wrap .i64 (8 * maxI 1 (minI k 4096)) = keyN k := by
    have : 8 * maxI 1 (minI k 4096) = keyN k := rfl
    rw [this, wI64 (by omega) (by omega)]
  rw [e1]
  refine Rets.mono (wdPower ⟨by omega, by omega⟩ h) ?_
  rintro _ w ⟨⟨m, rfl, hok⟩, h⟩
  have hm20 := hok.small (by omega)
  obtain ⟨p1, p2⟩ := p20 hm20
  obtain ⟨N, hN⟩ : ∃ N : Nat, N = (2 ^ m + 63) / 64 := ⟨_, rfl⟩
  have eN : IntKind.wrap .i64 (Int.tdiv (IntKind.wrap .i64 (IntKind.wrap .i64 (((2 ^ m : Nat) : Int) + 64) - 1)) 64) = (N : Int) := by
    rw [wI64 (n := ((2 ^ m : Nat) : Int) + 64) (by omega) (by omega), wI64 (n := ((2 ^ m : Nat) : Int) + 64 - 1) (by omega) (by omega), Int.tdiv_eq_ediv_of_nonneg (by omega), wI64 (by omega) (by omega)]
    omega
  have fin : ∀ (g1 g2 : Nat) (w : World), Own e w (blk g2 78 [.slice (some ⟨g1, 0, none⟩) N N, .int .i64 ((2 ^ m : Nat) : Int), .int .u64 (mixI s)] :: blk g1 22 (zrep [.int .u64 0] N) :: F) → Own e w (dorO g2 m (mixI s) (List.replicate ((2 ^ m + 63) / 64) 0) :: F) := fun g1 g2 w h => by
    rw [← hN]
    refine dorO.cl (q := some ⟨g1, 0, none⟩) ⟨by simp [hN], fun x hx => by rw [List.eq_of_mem_replicate hx]; omega, hm20, mixI_M64 _⟩ ?_
    rw [List.length_replicate]
    rw [zrep_one] at h
    refine Own.swap (Own.slMk (rest := []) (by simp [cs]) (Nat.le_refl _) (by unfold maxLen; omega) (by simp [cs]) ?_)
    rw [List.append_nil]
    have e2 : wsC (List.replicate N 0) = List.replicate N (.int .u64 0) := by simp [cs]
    rw [e2]
    exact h.swap
  refine ⟨_, rfl, ?_⟩
  rw [eN, Int.toNat_natCast]
  refine h.drw fun w h => ⟨by omega, ?_, ?_⟩
  · refine h.makeR ⟨by omega, by omega, by omega, by omega⟩ fun g1 w h => ?_
    rw [Int.toNat_natCast] at h
    refine Rets.mono (mxMix h (fun w h => hm1 w h.drop)) ?_
    rintro _ w ⟨rfl, h⟩
    exact ⟨_, rfl, h.newR fun g2 w h => ⟨g2, m, rfl, hok, fin g1 g2 w h⟩⟩
  · refine Rets.mono (mxMix h hm1) ?_
    rintro _ w ⟨rfl, h⟩
    refine ⟨_, rfl, h.makeR ⟨by omega, by omega, by omega, by omega⟩ fun g1 w h => h.newR fun g2 w h => ⟨g2, m, rfl, hok, ?_⟩⟩
    rw [Int.toNat_natCast] at h
    exact fin g1 g2 w h
/-- The places, so many of them. -/
def plL (s h : Int) (M i : Nat) : List Int := (List.range 4).map fun j => if j < i then (plN s h M j : Int) else 0
theorem plL_set {s h : Int} {M i : Nat} (hi : i < 4) : setFrom (cs .i64 (plL s h M i)) i [.int .i64 (plN s h M i : Int)] = cs .i64 (plL s h M (i + 1)) := by
  rw [cs_set]
  congr 1
  apply List.ext_getElem
  · simp [plL]
  · intro j h1 h2
    rw [List.getElem_set]
    simp only [plL, List.getElem_map, List.getElem_range]
    by_cases hj : i = j
    · subst hj; rw [if_pos rfl, if_pos (by omega)]
    · rw [if_neg hj]
      by_cases hj2 : j < i
      · rw [if_pos hj2, if_pos (by omega)]
      · rw [if_neg hj2, if_neg (by omega)]
def atI (s h : Int) (i : Nat) : Nat := (dA s h + i * dB s h) % 18446744073709551616
theorem dA_lt (s h : Int) : (dA s h : Int) = mixI (xrI h s) ∧ dA s h < 18446744073709551616 := by
  have := mixI_M64 (xrI h s)
  obtain ⟨h0, h1⟩ := this
  unfold dA; omega
theorem orOne {x : Int} (hx : M64 x) : Go.bits BinOp.or IntKind.u64 x 1 = ((odN x.toNat : Nat) : Int) ∧ odN x.toNat < 18446744073709551616 := by
  obtain ⟨h0, h1⟩ := hx
  obtain ⟨T, rfl⟩ := Int.eq_ofNat_of_zero_le h0
  have hlt : T ||| 1 < 2 ^ 64 := Nat.or_lt_two_pow (by rw [pow64]; omega) (by rw [pow64]; omega)
  rw [pow64] at hlt
  have h2 := N_or (a := T) (b := 1) (by omega) (by omega)
  rw [Int.natCast_one] at h2
  rw [Int.toNat_natCast]
  exact ⟨h2, hlt⟩
theorem dB_lt (s h : Int) : Go.bits BinOp.or IntKind.u64 (twiI (xrI h s)) 1 = (dB s h : Int) ∧ dB s h < 18446744073709551616 := orOne (twiI_M64 _)
theorem atI_succ (s h : Int) (i : Nat) : IntKind.wrap .u64 ((atI s h i : Int) + (dB s h : Int)) = (atI s h (i + 1) : Int) := by
  unfold atI
  rw [wU64, Nat.add_mul, Nat.one_mul]
  omega
theorem drPlaces (hm1 : ∀ w, Own e w F → RdC w mixQ mixC) (hm2 : ∀ w, Own e w F → RdC w twiQ twiC) (h : Own e w (dorO g m s ws :: F)) :
    Rets Tryd.prog 43 #[.pointer (some ⟨g, 0, none⟩), .int .u64 hh] w fun v w' => v = .agg #[.int .i64 (plN s hh (2 ^ m) 0 : Int), .int .i64 (plN s hh (2 ^ m) 1 : Int), .int .i64 (plN s hh (2 ^ m) 2 : Int), .int .i64 (plN s hh (2 ^ m) 3 : Int)] ∧ Own e w' (dorO g m s ws :: F) := by
  refine door_Door_Places_go _ _ (h.newR fun g1 w h => ⟨fun hc => (by cases hc), fun _ => ?_⟩)
  have h : Own e w (dorO g m s ws :: blk g1 81 (cs .i64 (plL s hh (2 ^ m) 0)) :: F) := h.swap
  obtain ⟨q, h1, h⟩ := dorO.op h
  obtain ⟨p1, p2⟩ := p20 h1.2.2.1
  refine ⟨s, Own.ld (g := g) h (by repeat (first | with_reducible exact Pick.here | apply Pick.there)) rfl, ?_⟩
  refine Rets.mono (mxMix (x := xrI hh s) h (fun w h => hm1 w h.drop.drop.drop)) ?_
  rintro _ w ⟨rfl, h⟩
  refine ⟨_, rfl, ?_⟩
  refine Rets.mono (mxTwist (x := xrI hh s) h (fun w h => hm2 w h.drop.drop.drop)) ?_
  rintro _ w ⟨rfl, h⟩
  obtain ⟨d1, d2⟩ := dA_lt s hh
  obtain ⟨d3, d4⟩ := dB_lt s hh
  have e0 : mixI (xrI hh s) = (atI s hh 0 : Int) := by
    rw [← d1]; unfold atI
    rw [Nat.zero_mul, Nat.add_zero, Nat.mod_eq_of_lt d2]
  rw [e0]
  refine ⟨_, rfl, ?_⟩
  rw [show Go.bits BinOp.or IntKind.u64 (twiI (xrI hh s)) 1 = (dB s hh : Int) from d3]
  refine ⟨fun k vs w => ∃ i : Nat, vs = [.int .u64 (atI s hh i : Int), .int .i64 (i : Int)] ∧ k + i = 4 ∧ Own e w (blk g 78 [.slice q ws.length ws.length, .int .i64 ((2 ^ m : Nat) : Int), .int .u64 s] :: wsB q ws.length ws :: blk g1 81 (cs .i64 (plL s hh (2 ^ m) i)) :: F), ⟨4, 0, rfl, rfl, h⟩, ?_⟩
  clear h
  rintro k w n12 v3 n13
  intros
  rename_i hI
  obtain ⟨i, hvs, hm, h⟩ := hI
  obtain ⟨rfl, rfl⟩ : n12 = (atI s hh i : Int) ∧ n13 = (i : Int) := by simpa using hvs
  refine ⟨fun hc => ?_, fun hc => ?_⟩
  · have hc := dec_t hc
    have hi : i < 4 := by omega
    have hlt : atI s hh i < 18446744073709551616 := Nat.mod_lt _ (by omega)
    have e1 : IntKind.wrap .u64 (IntKind.wrap .i64 (((2 ^ m : Nat) : Int) - 1)) = ((2 ^ m - 1 : Nat) : Int) := by
      rw [wI64 (by omega) (by omega), wU64' (by omega) (by omega)]; omega
    have e2 : IntKind.wrap .i64 (Go.bits BinOp.and IntKind.u64 (atI s hh i : Int) ((2 ^ m - 1 : Nat) : Int)) = (plN s hh (2 ^ m) i : Int) := by
      have := plN_lt (s := s) (h := hh) (i := i) p1
      rw [N_and hlt (by omega), Nat.and_two_pow_sub_one_eq_mod]
      show IntKind.wrap .i64 ((plN s hh (2 ^ m) i : Nat) : Int) = _
      rw [wI64 (by omega) (by omega)]
    refine ⟨_, Own.ld (g := g) h (by repeat (first | with_reducible exact Pick.here | apply Pick.there)) rfl, by omega, by omega, ?_⟩
    rw [e1, e2, Int.toNat_natCast, Nat.mul_one]
    refine Own.stP (g := g1) h (by repeat (first | with_reducible exact Pick.here | apply Pick.there)) (by simp [plL, cs]; omega) (by simp [Value.oneCell']) fun w h => ⟨k - 1, by omega, i + 1, ?_, by omega, ?_⟩
    · rw [atI_succ, wI64 (by omega) (by omega)]; rfl
    · rw [plL_set hi] at h
      exact (Own.sub (h) (by repeat (first | exact Sub.nil _ | exact Sub.rfl _ | (apply Sub.cons; focus ((repeat (first | with_reducible exact Pick.here | apply Pick.there)); done)) | apply Sub.drop)))
  · have hc := dec_f hc
    obtain rfl : i = 4 := by omega
    have h : Own e w (blk g 78 [.slice q ws.length ws.length, .int .i64 ((2 ^ m : Nat) : Int), .int .u64 s] :: wsB q ws.length ws :: blk g1 81 [.int .i64 (plN s hh (2 ^ m) 0 : Int), .int .i64 (plN s hh (2 ^ m) 1 : Int), .int .i64 (plN s hh (2 ^ m) 2 : Int), .int .i64 (plN s hh (2 ^ m) 3 : Int)] :: F) := h
    refine ⟨_, _, _, _, ⟨Own.ld (g := g1) h (by repeat (first | with_reducible exact Pick.here | apply Pick.there)) rfl, Own.ld (g := g1) h (by repeat (first | with_reducible exact Pick.here | apply Pick.there)) rfl, Own.ld (g := g1) h (by repeat (first | with_reducible exact Pick.here | apply Pick.there)) rfl, Own.ld (g := g1) h (by repeat (first | with_reducible exact Pick.here | apply Pick.there)) rfl⟩, Own.stP' (g := g1) h (by repeat (first | with_reducible exact Pick.here | apply Pick.there)) (by simp) (by simp [Value.oneCell']) fun w h => ?_⟩
    simp only [setFrom, List.set_cons_zero, List.set_cons_succ, List.set_nil] at h
    refine ⟨_, _, _, _, ⟨Own.ld (g := g1) h (by repeat (first | with_reducible exact Pick.here | apply Pick.there)) rfl, Own.ld (g := g1) h (by repeat (first | with_reducible exact Pick.here | apply Pick.there)) rfl, Own.ld (g := g1) h (by repeat (first | with_reducible exact Pick.here | apply Pick.there)) rfl, Own.ld (g := g1) h (by repeat (first | with_reducible exact Pick.here | apply Pick.there)) rfl⟩, rfl, dorO.cl h1 (Own.sub (h) (by repeat (first | exact Sub.nil _ | exact Sub.rfl _ | (apply Sub.cons; focus ((repeat (first | with_reducible exact Pick.here | apply Pick.there)); done)) | apply Sub.drop)))⟩
theorem drIs {p : Nat} (hp : p < 2 ^ m) (h : Own e w (dorO g m s ws :: F)) : Rets Tryd.prog 52 #[.pointer (some ⟨g, 0, none⟩), .int .i64 (p : Int)] w fun v w' => v = .bool (bitW ws p) ∧ Own e w' (dorO g m s ws :: F) := by
  obtain ⟨q, h1, h⟩ := dorO.op h
  obtain ⟨p1, p2⟩ := p20 h1.2.2.1
  obtain ⟨hl, hsm, _⟩ := h1
  have hlt : p / 64 < ws.length := by rw [hl]; omega
  have e1 : IntKind.wrap .i64 (Int.tdiv (p : Int) 64) = ((p / 64 : Nat) : Int) := by rw [Int.tdiv_eq_ediv_of_nonneg (by omega), wI64 (by omega) (by omega)]; omega
  have e2 : IntKind.wrap .u64 (Int.tmod (p : Int) 64) = ((p % 64 : Nat) : Int) := by rw [Int.tmod_eq_emod_of_nonneg (by omega), wU64' (by omega) (by omega)]; omega
  refine door_Door_is_go _ _ ?_
  unfold door_Door_is_m
  rw [e1, e2]
  refine ⟨_, _, _, Own.ld (g := g) h (by repeat (first | with_reducible exact Pick.here | apply Pick.there)) rfl, by omega, by omega, by omega, ?_⟩
  have hl2 : p / 64 < (ws.map fun (b : Nat) => (b : Int)).length := by simpa using hlt
  refine (Own.rdP (T := 22) (q := q) h (by repeat (first | with_reducible exact Pick.here | apply Pick.there))).int (i := p / 64) hl2 fun a ha => ⟨((ws[p / 64] : Nat) : Int), ?_, by omega, by omega, ?_, dorO.cl ⟨hl, hsm, by assumption⟩ h⟩
  · rw [Int.toNat_natCast]; simpa using ha
  have hX : ws[p / 64] < 18446744073709551616 := hsm _ (List.getElem_mem hlt)
  have hd : ws[p / 64] / 2 ^ (p % 64) ≤ ws[p / 64] := Nat.div_le_self _ _
  have e3 := N_and (a := ws[p / 64] / 2 ^ (p % 64)) (b := 1) (by omega) (by omega)
  rw [Int.natCast_one, Nat.and_one_is_mod] at e3
  rw [shrN _ _ (by omega), e3]
  congr 1
  unfold bitW
  rw [List.getD_eq_getElem?_getD, List.getElem?_eq_getElem hlt, Option.getD_some, Nat.testBit_eq_decide_div_mod_eq, Bool.eq_iff_iff, beq_iff_eq, decide_eq_true_eq]
  omega
theorem get4 {a b c d : Int} {i : Nat} (hi : i < 4) (f : Nat → Int) (h0 : f 0 = a) (h1 : f 1 = b) (h2 : f 2 = c) (h3 : f 3 = d) : List.get?Internal (Array.toList #[Value.int .i64 a, Value.int .i64 b, Value.int .i64 c, Value.int .i64 d]) (Int.toNat (i : Int)) = some (Value.int .i64 (f i)) := by
  obtain h | h | h | h : i = 0 ∨ i = 1 ∨ i = 2 ∨ i = 3 := by omega
  all_goals (subst h; first | (rw [h0]; rfl) | (rw [h1]; rfl) | (rw [h2]; rfl) | (rw [h3]; rfl))
theorem drHas (hm1 : ∀ w, Own e w F → RdC w mixQ mixC) (hm2 : ∀ w, Own e w F → RdC w twiQ twiC) (h : Own e w (dorO g m s ws :: F)) : Rets Tryd.prog 30 #[.pointer (some ⟨g, 0, none⟩), .int .u64 hh] w fun v w' => v = .bool (hasB s hh (2 ^ m) ws) ∧ Own e w' (dorO g m s ws :: F) := by
  refine door_Door_Has_go _ _ ⟨fun hc => (by cases hc), fun _ => ?_⟩
  obtain ⟨q, hq, _⟩ := dorO.op h
  obtain ⟨p1, p2⟩ := p20 hq.2.2.1
  refine Rets.mono (drPlaces hm1 hm2 h) ?_
  clear h
  rintro _ w ⟨rfl, h⟩
  refine ⟨_, _, _, _, rfl, fun k vs w => ∃ i : Nat, vs = [.int .i64 (i : Int)] ∧ k + i = 4 ∧ (∀ j, j < i → bitW ws (plN s hh (2 ^ m) j) = true) ∧ Own e w (dorO g m s ws :: F), ⟨4, 0, rfl, rfl, fun j hj => by omega, h⟩, ?_⟩
  clear h
  rintro k w v2 v3 n5
  intros
  rename_i hI
  obtain ⟨i, hvs, hm, hb, h⟩ := hI
  obtain rfl : n5 = (i : Int) := by simpa using hvs
  refine ⟨fun hc => ?_, fun hc => ?_⟩
  · have hc := dec_t hc
    have hi : i < 4 := by omega
    refine ⟨by omega, by omega, _, get4 hi (fun i => (plN s hh (2 ^ m) i : Int)) rfl rfl rfl rfl, ?_⟩
    refine Rets.mono (drIs (plN_lt p1) h) ?_
    rintro _ w ⟨rfl, h⟩
    refine ⟨_, rfl, fun hx => ?_, fun hx => ?_⟩
    · have hx : bitW ws (plN s hh (2 ^ m) i) = false := by simpa using hx
      refine ⟨?_, h⟩
      have : hasB s hh (2 ^ m) ws = false := by
        rw [Bool.eq_false_iff]; intro hh2
        rw [hasB_iff.1 hh2 i hi] at hx; cases hx
      rw [this]
    · have hx : bitW ws (plN s hh (2 ^ m) i) = true := by simpa using hx
      refine ⟨k - 1, by omega, i + 1, by rw [wI64 (by omega) (by omega)]; rfl, by omega, fun j hj => ?_, h⟩
      by_cases hji : j = i
      · subst hji; exact hx
      · exact hb j (by omega)
  · have hc := dec_f hc
    obtain rfl : i = 4 := by omega
    exact ⟨by rw [hasB_iff.2 hb], h⟩
theorem drPut (hm1 : ∀ w, Own e w F → RdC w mixQ mixC) (hm2 : ∀ w, Own e w F → RdC w twiQ twiC) (h : Own e w (dorO g m s ws :: F)) : Rets Tryd.prog 22 #[.pointer (some ⟨g, 0, none⟩), .int .u64 hh] w fun v w' => v = .bool (!hasB s hh (2 ^ m) ws) ∧ Own e w' (dorO g m s (putB s hh (2 ^ m) ws) :: F) := by
  refine door_Door_Put_go _ _ ⟨fun _ => ?_, fun hc => (by cases hc)⟩
  refine Rets.mono (drHas hm1 hm2 h) ?_
  clear h
  rintro _ w ⟨rfl, h⟩
  refine ⟨_, rfl, fun hx => ?_, fun hx => ?_⟩
  · unfold putB; rw [if_pos hx, hx]; exact ⟨rfl, h⟩
  have hput : putB s hh (2 ^ m) ws = ptW s hh (2 ^ m) ws 4 := by unfold putB; rw [if_neg (by rw [hx]; simp)]
  rw [hx, hput]
  refine Rets.mono (drPlaces hm1 hm2 h) ?_
  clear h
  rintro _ w ⟨rfl, h⟩
  refine ⟨_, _, _, _, rfl, fun k vs w => ∃ i : Nat, vs = [.int .i64 (i : Int)] ∧ k + i = 4 ∧ Own e w (dorO g m s (ptW s hh (2 ^ m) ws i) :: F), ⟨4, 0, rfl, rfl, h⟩, ?_⟩
  clear h
  rintro k w v3 n5
  intros
  rename_i hI
  obtain ⟨i, hvs, hm, h⟩ := hI
  obtain rfl : n5 = (i : Int) := by simpa using hvs
  refine ⟨fun hc => ?_, fun hc => ?_⟩
  · have hc := dec_t hc
    have hi : i < 4 := by omega
    obtain ⟨W, hW⟩ : ∃ W, W = ptW s hh (2 ^ m) ws i := ⟨_, rfl⟩
    have hnext : ptW s hh (2 ^ m) ws (i + 1) = setW W (plN s hh (2 ^ m) i) := by rw [hW]; rfl
    rw [← hW] at h
    obtain ⟨q, h1, h⟩ := dorO.op h
    obtain ⟨p1, p2⟩ := p20 h1.2.2.1
    obtain ⟨hl, hsm, hm20, hM⟩ := h1
    have hpl := plN_lt (s := s) (h := hh) (i := i) p1
    refine ⟨by omega, by omega, _, get4 hi (fun i => (plN s hh (2 ^ m) i : Int)) rfl rfl rfl rfl, ?_⟩
    obtain ⟨p, hp⟩ : ∃ p, p = plN s hh (2 ^ m) i := ⟨_, rfl⟩
    show ∃ (q1 : Option Addr), _
    simp only [← hp] at hpl hnext ⊢
    have hlt : p / 64 < W.length := by rw [hl]; omega
    have e1 : IntKind.wrap .i64 (Int.tdiv (p : Int) 64) = ((p / 64 : Nat) : Int) := by rw [Int.tdiv_eq_ediv_of_nonneg (by omega), wI64 (by omega) (by omega)]; omega
    have e2 : IntKind.wrap .u64 (Int.tmod (p : Int) 64) = ((p % 64 : Nat) : Int) := by rw [Int.tmod_eq_emod_of_nonneg (by omega), wU64' (by omega) (by omega)]; omega
    rw [e1, e2, Int.toNat_natCast]
    refine ⟨_, _, _, Own.ld (g := g) h (by repeat (first | with_reducible exact Pick.here | apply Pick.there)) rfl, by omega, by omega, by omega, ?_⟩
    have hl2 : p / 64 < (W.map fun (b : Nat) => (b : Int)).length := by simpa using hlt
    refine (Own.rdP (T := 22) (q := q) h (by repeat (first | with_reducible exact Pick.here | apply Pick.there))).int (i := p / 64) hl2 fun a ha => ⟨((W[p / 64] : Nat) : Int), by simpa using ha, by omega, by omega, by omega, by omega, ?_⟩
    have hX : W[p / 64] < 18446744073709551616 := hsm _ (List.getElem_mem hlt)
    have h2 := pow_small (k := p % 64) (Nat.mod_lt _ (by omega))
    have e3 : shlI IntKind.u64 1 ((p % 64 : Nat) : Int) = ((2 ^ (p % 64) : Nat) : Int) := by
      have := shlN 1 (p % 64) (by omega)
      rw [Nat.one_mul, Nat.mod_eq_of_lt h2] at this
      exact this
    rw [e3, N_or hX h2]
    have h : Own e w (wsB q W.length W :: _) := (Own.pk h (by repeat (first | with_reducible exact Pick.here | apply Pick.there)))
    have hstore := h.slStore (i := p / 64) (us := [.int .u64 ((W[p / 64] ||| 2 ^ (p % 64) : Nat) : Int)]) (K := fun w' => ∃ k5, k5 < k ∧ ∃ i : Nat, [Value.int .i64 (IntKind.wrap .i64 (((4 - k : Nat) : Int) + 1))] = [.int .i64 (i : Int)] ∧ k5 + i = 4 ∧ Own e w' (dorO g m s (ptW s hh (2 ^ m) ws i) :: F)) (by simp [cs]; omega) (by simp) (by simp [Value.oneCell']) (fun w' h => ?_)
    · have e4 : 4 - k = i := by omega
      rw [e4] at hstore
      simp only [Nat.mul_one]
      exact hstore
    · have e4 : 4 - k = i := by omega
      rw [e4]
      refine ⟨k - 1, by omega, i + 1, by rw [wI64 (by omega) (by omega)]; rfl, by omega, ?_⟩
      rw [hnext]
      have e5 : setFrom (wsC W) (p / 64) [.int .u64 ((W[p / 64] ||| 2 ^ (p % 64) : Nat) : Int)] = wsC (setW W p) := by
        show setFrom (cs .u64 _) _ _ = _
        rw [cs_set]
        unfold setW
        rw [List.getD_eq_getElem?_getD, List.getElem?_eq_getElem hlt, Option.getD_some]
        show _ = cs .u64 ((W.set (p / 64) (W[p / 64] ||| 2 ^ (p % 64))).map fun (b : Nat) => (b : Int))
        rw [List.map_set]
      rw [e5] at h
      refine dorO.cl (q := q) ⟨by rw [setW_len]; exact hl, hsm.set _, hm20, hM⟩ ?_
      rw [setW_len]
      exact h.swap
  · have hc := dec_f hc
    obtain rfl : i = 4 := by omega
    exact ⟨rfl, h⟩
end
end Go.Proofs.YtjdbeopgmpbikaaDoor.Eng
