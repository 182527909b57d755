/- Estimates: what adding, halving, putting do to them (plain). -/
import Derived.Test.YtkhfejnkefgpeaaDoorTskQ
namespace Go.Proofs.YtkhfejnkefgpeaaDoor.Eng
open Go Go.RowKit Go.Proofs
set_option linter.unusedVariables false
set_option linter.unusedSimpArgs false
set_option maxRecDepth 1000000
theorem ngGet_half (ns : List Nat) (i : Int) : ngGet (ngHalve ns) i = ngGet ns i / 2 := by
  unfold ngGet ngHalve
  rw [List.length_map]
  split
  · rename_i h
    rw [List.getD_eq_getElem?_getD, List.getD_eq_getElem?_getD, List.getElem?_map]
    cases ns[i.toNat]? <;> simp
  · rfl
/-- The least of so many rows, whatever the places. -/
def cuG (P : Nat → Nat) (R : Nat → List Nat) : Nat → Nat
  | 0 => 15
  | i + 1 => min (cuG P R i) (ngGet (R i) (P i : Int))
theorem cuG_le (P : Nat → Nat) (R : Nat → List Nat) : ∀ i, cuG P R i ≤ 15
  | 0 => Nat.le_refl _
  | i + 1 => Nat.le_trans (Nat.min_le_left _ _) (cuG_le P R i)
theorem cuG_add (P : Nat → Nat) (R : Nat → List Nat) {M : Nat} (hP : ∀ i, P i < M) (hR : rowsOk M R) : ∀ i, cuG P (fun j => ngAdd (R j) (P j : Int)) i = min 15 (cuG P R i + 1)
  | 0 => rfl
  | i + 1 => by
    have ih := cuG_add P R hP hR i
    have hp := hP i
    have hg := ngGet_eq (hR i).1 (P i : Int)
    rw [if_pos ⟨by omega, by rw [(hR i).2]; omega⟩] at hg
    show min (cuG P (fun j => ngAdd (R j) (P j : Int)) i) (ngGet (ngAdd (R i) (P i : Int)) (P i : Int)) = min 15 (min (cuG P R i) (ngGet (R i) (P i : Int)) + 1)
    rw [ih, hg]; omega
theorem cuG_mono (P Q : Nat → Nat) (R : Nat → List Nat) {M : Nat} (hQ : ∀ i, Q i < M) (hR : rowsOk M R) : ∀ i, cuG Q R i ≤ cuG Q (fun j => ngAdd (R j) (P j : Int)) i
  | 0 => Nat.le_refl _
  | i + 1 => by
    have ih := cuG_mono P Q R hQ hR i
    have hp := hQ i
    show min (cuG Q R i) (ngGet (R i) (Q i : Int)) ≤ min (cuG Q (fun j => ngAdd (R j) (P j : Int)) i) (ngGet (ngAdd (R i) (P i : Int)) (Q i : Int))
    have hle : ngGet (R i) (Q i : Int) ≤ ngGet (ngAdd (R i) (P i : Int)) (Q i : Int) := by
      by_cases h : P i = Q i
      · rw [h]
        have hg := ngGet_eq (hR i).1 (Q i : Int)
        rw [if_pos ⟨by omega, by rw [(hR i).2]; omega⟩] at hg
        have hl := ngGet_lt (hR i).1 (Q i : Int)
        omega
      · rw [ngGet_ne (by omega)]; omega
    omega
theorem cuG_half (P : Nat → Nat) (R : Nat → List Nat) {M : Nat} (hR : rowsOk M R) : ∀ i, cuG P (fun j => ngHalve (R j)) (i + 1) = cuG P R (i + 1) / 2
  | 0 => by
    have hl := ngGet_lt (hR 0).1 (P 0 : Int)
    show min 15 (ngGet (ngHalve (R 0)) (P 0 : Int)) = min 15 (ngGet (R 0) (P 0 : Int)) / 2
    rw [ngGet_half]; omega
  | i + 1 => by
    have ih := cuG_half P R hR i
    show min (cuG P (fun j => ngHalve (R j)) (i + 1)) (ngGet (ngHalve (R (i + 1))) (P (i + 1) : Int)) = min (cuG P R (i + 1)) (ngGet (R (i + 1)) (P (i + 1) : Int)) / 2
    rw [ih, ngGet_half]; omega
theorem cuG_zero (P : Nat → Nat) (n : Nat) : cuG P (fun _ => List.replicate n 0) 4 = 0 := by
  simp [cuG, ngGet_zero]
theorem cuN_eq (s : Int) (M : Nat) (x : Int) (R : Nat → List Nat) : ∀ i, cuN s M x R i = cuG (plc s M x) R i
  | 0 => rfl
  | i + 1 => by
    unfold cuN cuG
    rw [cuN_eq s M x R i]
section
variable {s x o : Int} {M : Nat} {ws : List Nat}
theorem has_put (hM : 0 < M) (hl : ws.length = (M + 63) / 64) : hasB s x M (putB s x M ws) = true := by
  unfold putB
  split
  · assumption
  · exact hasB_iff.2 fun i hi => (ptW_bit hM hl _ 4).2 (.inr ⟨i, hi, rfl⟩)
theorem has_mono (hM : 0 < M) (hl : ws.length = (M + 63) / 64) (h : hasB s o M ws = true) : hasB s o M (putB s x M ws) = true := by
  unfold putB
  split
  · exact h
  · exact hasB_iff.2 fun i hi => (ptW_bit hM hl _ 4).2 (.inl (hasB_iff.1 h i hi))
theorem has_zero (s x : Int) (M n : Nat) : hasB s x M (List.replicate n 0) = false := by
  have hb := bitsOf.nil s M n
  rw [Bool.eq_false_iff]; intro hh
  have := (hb _).1 (hasB_iff.1 hh 0 (by decide))
  obtain ⟨k, hk, _⟩ := this
  cases hk
end
/-- How often a key is thought to come. -/
def esG (c : Nat) (b : Bool) : Nat := c + if b = true then 1 else 0
theorem esG_le {c : Nat} {b : Bool} (h : c ≤ 15) : esG c b ≤ 16 := by unfold esG; split <;> omega
theorem esG_upT {c : Nat} (h : c ≤ 15) : esG (min 15 (c + 1)) true = min 16 (esG c true + 1) := by unfold esG; simp; omega
theorem esG_upF {c : Nat} (h : c ≤ 15) : esG c true = min 16 (esG c false + 1) := by unfold esG; simp; omega
theorem esG_mono {c d : Nat} {a b : Bool} (h : c ≤ d) (hb : a = true → b = true) : esG c a ≤ esG d b := by
  unfold esG
  cases a with
  | true => rw [hb rfl]; simp; exact h
  | false => simp; omega
theorem esG_ageT {c d : Nat} (h : d = min 15 (c + 1)) : esG (d / 2) false ≤ (esG c true + 1) / 2 := by unfold esG; simp; omega
theorem esG_ageF {c d : Nat} (h : d = c) : esG (d / 2) false ≤ (esG c false + 1) / 2 := by unfold esG; simp; omega
def esN (s : Int) (M MD : Nat) (R : Nat → List Nat) (ws : List Nat) (x : Int) : Nat := esG (cuG (plc s M x) R 4) (hasB (mixI s) x MD ws)
/-- What adding does to the rows. -/
def adR (s : Int) (M MD : Nat) (R : Nat → List Nat) (ws : List Nat) (x : Int) : Nat → List Nat := if hasB (mixI s) x MD ws = true then fun j => ngAdd (R j) (plc s M x j : Int) else R
section
variable {s x o : Int} {M MD : Nat} {R : Nat → List Nat} {ws : List Nat}
theorem adR_ok (hR : rowsOk M R) : rowsOk M (adR s M MD R ws x) := fun j => by
  unfold adR
  split
  · exact ⟨ngAdd_ok (hR j).1 _, by rw [ngAdd_len]; exact (hR j).2⟩
  · exact hR j
theorem es_le (R : Nat → List Nat) : esN s M MD R ws x ≤ 16 := esG_le (cuG_le _ _ _)
theorem es_up (hM : 0 < M) (hMD : 0 < MD) (hl : ws.length = (MD + 63) / 64) (hR : rowsOk M R) : esN s M MD (adR s M MD R ws x) (putB (mixI s) x MD ws) x = min 16 (esN s M MD R ws x + 1) := by
  unfold esN adR
  rw [has_put hMD hl]
  by_cases h : hasB (mixI s) x MD ws = true
  · rw [if_pos h, h, cuG_add (plc s M x) R (fun i => plc_lt hM) hR]
    exact esG_upT (cuG_le _ _ _)
  · rw [if_neg h, Bool.eq_false_iff.2 h]
    exact esG_upF (cuG_le _ _ _)
theorem es_stay (hM : 0 < M) (hMD : 0 < MD) (hl : ws.length = (MD + 63) / 64) (hR : rowsOk M R) : esN s M MD R ws o ≤ esN s M MD (adR s M MD R ws x) (putB (mixI s) x MD ws) o := by
  unfold esN adR
  refine esG_mono ?_ fun h => has_mono hMD hl h
  split
  · exact cuG_mono (plc s M x) (plc s M o) R (fun i => plc_lt hM) hR 4
  · exact Nat.le_refl _
theorem es_age (hM : 0 < M) (hR : rowsOk M R) (n : Nat) : esN s M MD (fun j => ngHalve (adR s M MD R ws x j)) (List.replicate n 0) x ≤ (esN s M MD R ws x + 1) / 2 := by
  unfold esN
  rw [has_zero, cuG_half (plc s M x) (adR s M MD R ws x) (adR_ok hR) 3]
  unfold adR
  by_cases h : hasB (mixI s) x MD ws = true
  · rw [if_pos h, h]
    exact esG_ageT (cuG_add (plc s M x) R (fun i => plc_lt hM) hR 4)
  · rw [if_neg h, Bool.eq_false_iff.2 h]
    exact esG_ageF rfl
theorem es_zero (s : Int) (M MD n k : Nat) (x : Int) : esN s M MD (fun _ => List.replicate n 0) (List.replicate k 0) x = 0 := by
  unfold esN
  rw [has_zero, cuG_zero]; rfl
end
end Go.Proofs.YtkhfejnkefgpeaaDoor.Eng
