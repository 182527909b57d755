/- Doors: places and bits (plain). -/
import Derived.Test.YtjdbeopgmpbikaaDoorBitW
import Derived.Test.YtjdbeopgmpbikaaDoorFoldP
namespace Go.Proofs.YtjdbeopgmpbikaaDoor.Eng
open Go Go.RowKit Go.Proofs
set_option linter.unusedVariables false
set_option linter.unusedSimpArgs false
/-! ### Powers -/
def pwOk (n : Int) (m : Nat) : Prop := n ≤ ((2 ^ m : Nat) : Int) ∧ ((2 ^ m : Nat) : Int) < 2 * n
theorem pwOk.le {n : Int} {a b : Nat} (h1 : pwOk n a) (h2 : pwOk n b) : b ≤ a := by
  refine Nat.le_of_not_lt fun hlt => ?_
  have : 2 ^ (a + 1) ≤ 2 ^ b := Nat.pow_le_pow_right (by omega) hlt
  rw [Nat.pow_succ] at this
  obtain ⟨h1, _⟩ := h1
  obtain ⟨_, h2⟩ := h2
  omega
theorem pwOk.uniq {n : Int} {a b : Nat} (h1 : pwOk n a) (h2 : pwOk n b) : a = b := Nat.le_antisymm (h2.le h1) (h1.le h2)
theorem pwOk.small {n : Int} {m : Nat} (h : pwOk n m) (hn : n ≤ 1000000) : m ≤ 20 := by
  refine Nat.le_of_not_lt fun hlt => ?_
  have : 2 ^ 21 ≤ 2 ^ m := Nat.pow_le_pow_right (by omega) hlt
  obtain ⟨_, h⟩ := h
  have e : (2 : Nat) ^ 21 = 2097152 := rfl
  omega
/-! ### Places -/
def odN (X : Nat) : Nat := X ||| 1
theorem odN_eq (X : Nat) : odN X = if X % 2 = 0 then X + 1 else X := by
  have e1 : X = 2 ^ 1 * (X / 2) + X % 2 := by omega
  unfold odN
  by_cases h : X % 2 = 0
  · rw [if_pos h]
    have e2 : X = 2 ^ 1 * (X / 2) := by omega
    have e3 := Nat.two_pow_add_eq_or_of_lt (i := 1) (b := 1) (by omega) (X / 2)
    rw [← e2] at e3
    exact e3.symm
  · rw [if_neg h]
    have e3 := Nat.two_pow_add_eq_or_of_lt (i := 1) (b := 1) (by omega) (X / 2)
    have e4 : 2 ^ 1 * (X / 2) + 1 = X := by omega
    rw [e4] at e3
    conv => lhs; rw [e3]
    rw [Nat.or_assoc, Nat.or_self, ← e3]
def xrI (a b : Int) : Int := Go.bits BinOp.xor IntKind.u64 a b
def dA (s h : Int) : Nat := (mixI (xrI h s)).toNat
def dB (s h : Int) : Nat := odN (twiI (xrI h s)).toNat
/-- A key's places (by the mixed seed). -/
def plN (s h : Int) (M i : Nat) : Nat := (dA s h + i * dB s h) % 18446744073709551616 % M
theorem plN_lt {s h : Int} {M i : Nat} (hM : 0 < M) : plN s h M i < M := Nat.mod_lt _ hM
/-! ### Bits -/
def bitW (ws : List Nat) (p : Nat) : Bool := (ws.getD (p / 64) 0).testBit (p % 64)
def setW (ws : List Nat) (p : Nat) : List Nat := ws.set (p / 64) (ws.getD (p / 64) 0 ||| 2 ^ (p % 64))
theorem setW_len (ws : List Nat) (p : Nat) : (setW ws p).length = ws.length := by simp [setW]
theorem bitW_set {ws : List Nat} {p : Nat} (hp : p / 64 < ws.length) (r : Nat) : bitW (setW ws p) r = (bitW ws r || decide (r = p)) := by
  unfold bitW setW
  rw [List.getD_eq_getElem?_getD, List.getElem?_set]
  by_cases h : p / 64 = r / 64
  · rw [if_pos h, if_pos hp, Option.getD_some, Nat.testBit_or, Nat.testBit_two_pow, h]
    congr 1
    rw [decide_eq_decide]
    omega
  · rw [if_neg h, ← List.getD_eq_getElem?_getD, decide_eq_false (by intro e; subst e; exact h rfl), Bool.or_false]
def Small (ws : List Nat) : Prop := ∀ x ∈ ws, x < 18446744073709551616
theorem Small.get {ws : List Nat} (h : Small ws) (j : Nat) : ws.getD j 0 < 18446744073709551616 := by
  rw [List.getD_eq_getElem?_getD]
  cases hj : ws[j]? with
  | none => simp
  | some x => exact h x (List.mem_of_getElem? hj)
theorem pow_small {k : Nat} (h : k < 64) : 2 ^ k < 18446744073709551616 := by
  have : 2 ^ k ≤ 2 ^ 63 := Nat.pow_le_pow_right (by omega) (by omega)
  have e : (2 : Nat) ^ 63 = 9223372036854775808 := rfl
  omega
theorem Small.set {ws : List Nat} (h : Small ws) (p : Nat) : Small (setW ws p) := by
  intro x hx
  rcases List.mem_or_eq_of_mem_set hx with hx | rfl
  · exact h x hx
  · have h1 := h.get (p / 64)
    have h2 := pow_small (k := p % 64) (Nat.mod_lt _ (by omega))
    have := Nat.or_lt_two_pow (n := 64) (by rw [pow64]; exact h1) (by rw [pow64]; exact h2)
    rwa [pow64] at this
/-- A key is put: so many of its places. -/
def ptW (s h : Int) (M : Nat) (ws : List Nat) : Nat → List Nat
  | 0 => ws
  | i + 1 => setW (ptW s h M ws i) (plN s h M i)
theorem ptW_len (s h : Int) (M : Nat) (ws : List Nat) : ∀ i, (ptW s h M ws i).length = ws.length
  | 0 => rfl
  | i + 1 => by unfold ptW; rw [setW_len, ptW_len s h M ws i]
theorem ptW_small {s h : Int} {M : Nat} {ws : List Nat} (hs : Small ws) : ∀ i, Small (ptW s h M ws i)
  | 0 => hs
  | i + 1 => (ptW_small hs i).set _
theorem ptW_bit {s h : Int} {M : Nat} {ws : List Nat} (hM : 0 < M) (hl : ws.length = (M + 63) / 64) (r : Nat) : ∀ i, bitW (ptW s h M ws i) r = true ↔ (bitW ws r = true ∨ ∃ j, j < i ∧ r = plN s h M j)
  | 0 => by simp [ptW]
  | i + 1 => by
    have hlt := plN_lt (s := s) (h := h) (i := i) hM
    unfold ptW
    rw [bitW_set (by rw [ptW_len, hl]; omega), Bool.or_eq_true, ptW_bit hM hl r i, decide_eq_true_eq]
    constructor
    · rintro ((h | ⟨j, hj, e⟩) | e)
      · exact .inl h
      · exact .inr ⟨j, by omega, e⟩
      · exact .inr ⟨i, by omega, e⟩
    · rintro (h | ⟨j, hj, e⟩)
      · exact .inl (.inl h)
      · by_cases hji : j = i
        · subst hji; exact .inr e
        · exact .inl (.inr ⟨j, by omega, e⟩)
def hasB (s h : Int) (M : Nat) (ws : List Nat) : Bool := (List.range 4).all fun i => bitW ws (plN s h M i)
theorem hasB_iff {s h : Int} {M : Nat} {ws : List Nat} : hasB s h M ws = true ↔ ∀ i, i < 4 → bitW ws (plN s h M i) = true := by
  unfold hasB; simp
def putB (s h : Int) (M : Nat) (ws : List Nat) : List Nat := if hasB s h M ws = true then ws else ptW s h M ws 4
theorem putB_len (s h : Int) (M : Nat) (ws : List Nat) : (putB s h M ws).length = ws.length := by unfold putB; split; rfl; exact ptW_len _ _ _ _ _
theorem putB_small {s h : Int} {M : Nat} {ws : List Nat} (hs : Small ws) : Small (putB s h M ws) := by unfold putB; split; exact hs; exact ptW_small hs _
/-- The bits are those of these keys' places. -/
def bitsOf (s : Int) (M : Nat) (ws : List Nat) (K : List Int) : Prop := ∀ r, bitW ws r = true ↔ ∃ k ∈ K, ∃ j, j < 4 ∧ r = plN s k M j
theorem bitsOf.nil (s : Int) (M n : Nat) : bitsOf s M (List.replicate n 0) [] := by
  intro r
  constructor
  · intro h
    exfalso
    unfold bitW at h
    rw [List.getD_eq_getElem?_getD, List.getElem?_replicate] at h
    split at h <;> simp at h
  · rintro ⟨k, hk, _⟩; cases hk
theorem bitsOf.put {s : Int} {M : Nat} {ws : List Nat} {K : List Int} (hM : 0 < M) (hl : ws.length = (M + 63) / 64) (h : bitsOf s M ws K) (x : Int) : bitsOf s M (putB s x M ws) (K ++ [x]) := by
  intro r
  unfold putB
  split
  · rename_i hh
    rw [h r]
    constructor
    · rintro ⟨k, hk, j⟩; exact ⟨k, List.mem_append_left _ hk, j⟩
    · rintro ⟨k, hk, j, hj, e⟩
      rcases List.mem_append.1 hk with hk | hk
      · exact ⟨k, hk, j, hj, e⟩
      · rw [List.mem_singleton.1 hk] at e
        have := hasB_iff.1 hh j hj
        rw [← e, h r] at this
        exact this
  · rw [ptW_bit hM hl, h r]
    constructor
    · rintro (⟨k, hk, j⟩ | ⟨j, hj, e⟩)
      · exact ⟨k, List.mem_append_left _ hk, j⟩
      · exact ⟨x, by simp, j, hj, e⟩
    · rintro ⟨k, hk, j, hj, e⟩
      rcases List.mem_append.1 hk with hk | hk
      · exact .inl ⟨k, hk, j, hj, e⟩
      · rw [List.mem_singleton.1 hk] at e; exact .inr ⟨j, hj, e⟩
theorem bitsOf.has {s : Int} {M : Nat} {ws : List Nat} {K : List Int} (h : bitsOf s M ws K) {x : Int} (hx : x ∈ K) : hasB s x M ws = true :=
  hasB_iff.2 fun i hi => (h _).2 ⟨x, hx, i, hi, rfl⟩
theorem bitsOf.lonely {s : Int} {M : Nat} {ws : List Nat} {K : List Int} (h : bitsOf s M ws K) {x : Int} {i : Nat} (hi : i < 4) (hx : ∀ k ∈ K, ∀ j, j < 4 → plN s k M j ≠ plN s x M i) : hasB s x M ws = false := by
  rw [Bool.eq_false_iff]
  intro hh
  obtain ⟨k, hk, j, hj, e⟩ := (h _).1 (hasB_iff.1 hh i hi)
  exact hx k hk j hj e.symm
end Go.Proofs.YtjdbeopgmpbikaaDoor.Eng
