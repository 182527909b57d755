/- TapeBack: what is put is read, in order. -/
import Derived.Test.YtkcaeknkfgpnhaaDoorTapeQ
namespace Go.Proofs.YtkcaeknkfgpnhaaDoor.Eng
open Go Go.RowKit Go.Proofs
set_option linter.unusedVariables false
set_option linter.unusedSimpArgs false
set_option maxRecDepth 1000000

/-! ### The plain law -/
theorem tbV_app {pre post : List Int} {x : Int} : tbV (pre ++ x :: post) pre.length = x := by
  unfold tbV; rw [List.getD_eq_getElem?_getD, List.getElem?_append_right (Nat.le_refl _)]; simp
theorem tbA_app {pre post : List Int} {x : Int} : tbA (pre ++ x :: post) pre.length = pre.length + 1 := by
  unfold tbA; rw [if_pos (by simp)]
theorem by8_bd (n : Int) (i : Nat) : 0 ≤ by8 n i ∧ by8 n i < 256 := by unfold by8; omega
theorem by8_step (n : Int) (j : Nat) (hj : j < 8) : (256 * (n % 18446744073709551616 / 2 ^ (64 - 8 * j)) + by8 n j) % 18446744073709551616 = n % 18446744073709551616 / 2 ^ (64 - 8 * (j + 1)) := by
  unfold by8
  have h0 : 0 ≤ n % 18446744073709551616 := by omega
  have h1 : n % 18446744073709551616 < 18446744073709551616 := by omega
  generalize n % 18446744073709551616 = X at h0 h1
  match j, hj with
  | 0, _ => simp; omega
  | 1, _ => simp; omega
  | 2, _ => simp; omega
  | 3, _ => simp; omega
  | 4, _ => simp; omega
  | 5, _ => simp; omega
  | 6, _ => simp; omega
  | 7, _ => simp; omega
theorem rd8_put (n : Int) (pre : List Int) : ∀ (k j : Nat) (post : List Int), k + j = 8 → rd8 (pre ++ ((List.range 8).map (by8 n)) ++ post) k (pre.length + j) (n % 18446744073709551616 / 2 ^ (64 - 8 * j)) = (IntKind.wrap IntKind.i64 (n % 18446744073709551616), pre.length + 8)
  | 0, j, post, h => by
    obtain rfl : j = 8 := by omega
    simp [rd8]
  | k + 1, j, post, h => by
    have hj : j < 8 := by omega
    have ec : (pre ++ ((List.range 8).map (by8 n)) ++ post) = (pre ++ (List.range j).map (by8 n)) ++ by8 n j :: ((List.range' (j + 1) (8 - (j + 1))).map (by8 n) ++ post) := by
      match j, hj with
      | 0, _ => simp [List.range_succ, List.range']
      | 1, _ => simp [List.range_succ, List.range']
      | 2, _ => simp [List.range_succ, List.range']
      | 3, _ => simp [List.range_succ, List.range']
      | 4, _ => simp [List.range_succ, List.range']
      | 5, _ => simp [List.range_succ, List.range']
      | 6, _ => simp [List.range_succ, List.range']
      | 7, _ => simp [List.range_succ, List.range']
    have el : pre.length + j = (pre ++ (List.range j).map (by8 n)).length := by simp
    unfold rd8
    rw [show tbV (pre ++ ((List.range 8).map (by8 n)) ++ post) (pre.length + j) = by8 n j by rw [ec, el, tbV_app], show tbA (pre ++ ((List.range 8).map (by8 n)) ++ post) (pre.length + j) = pre.length + (j + 1) by rw [ec, el, tbA_app]; simp; omega, by8_step n j hj]
    exact rd8_put n pre k (j + 1) post (by omega)
theorem wrap_back {n : Int} (h : -9223372036854775808 ≤ n ∧ n ≤ 9223372036854775807) : IntKind.wrap IntKind.i64 (n % 18446744073709551616) = n := by
  unfold IntKind.wrap
  simp [IntKind.signed, IntKind.bits]
  split <;> omega
theorem tInt_put {n : Int} (h : -9223372036854775808 ≤ n ∧ n ≤ 9223372036854775807) (pre post : List Int) : tInt (pre ++ putN n ++ post) pre.length = (n, (pre ++ putN n).length) := by
  unfold putN
  by_cases h1 : 0 ≤ n ∧ n < 200
  · rw [if_pos h1]
    have e : pre ++ [n] ++ post = pre ++ n :: post := by simp
    rw [e]; unfold tInt; rw [tbV_app, if_pos h1.2, tbA_app]; simp
  · rw [if_neg h1]
    by_cases h2 : 200 ≤ n ∧ n < 14280
    · rw [if_pos h2]
      have e : pre ++ [200 + (n - 200) / 256, (n - 200) % 256] ++ post = pre ++ (200 + (n - 200) / 256) :: ((n - 200) % 256 :: post) := by simp
      have e2 : pre ++ (200 + (n - 200) / 256) :: ((n - 200) % 256 :: post) = (pre ++ [200 + (n - 200) / 256]) ++ (n - 200) % 256 :: post := by simp
      have el : pre.length + 1 = (pre ++ [200 + (n - 200) / 256]).length := by simp
      rw [e]; unfold tInt; rw [tbV_app, if_neg (by omega), if_pos (by omega), tbA_app, e2, el, tbV_app, tbA_app]
      simp; omega
    · rw [if_neg h2]
      have e : pre ++ (255 :: (List.range 8).map (by8 n)) ++ post = pre ++ 255 :: ((List.range 8).map (by8 n) ++ post) := by simp
      have e2 : pre ++ 255 :: ((List.range 8).map (by8 n) ++ post) = (pre ++ [255]) ++ ((List.range 8).map (by8 n)) ++ post := by simp
      have el : pre.length + 1 = (pre ++ [255]).length + 0 := by simp
      rw [e]; unfold tInt; rw [tbV_app, if_neg (by omega), if_neg (by omega), tbA_app, e2, el]
      have e0 : (0 : Int) = n % 18446744073709551616 / 2 ^ (64 - 8 * 0) := by simp; omega
      have := rd8_put n (pre ++ [255]) 8 0 post rfl
      rw [← e0] at this
      rw [this, wrap_back h]
      simp
theorem putN_bd (n : Int) : ∀ x ∈ putN n, 0 ≤ x ∧ x < 256 := by
  unfold putN
  intro x hx
  split at hx
  · simp at hx; omega
  · split at hx
    · simp at hx; omega
    · rcases List.mem_cons.1 hx with rfl | hx
      · omega
      · obtain ⟨i, _, rfl⟩ := List.mem_map.1 hx; exact by8_bd n i
theorem putL_bd : ∀ (l : List Int), ∀ x ∈ putL l, 0 ≤ x ∧ x < 256
  | [], x, hx => by cases hx
  | n :: r, x, hx => by
    rcases List.mem_append.1 hx with hx | hx
    · exact putN_bd n x hx
    · exact putL_bd r x hx
/-! ### The document's answer -/
def l8 (X : Int) (j : Nat) : List Int := (List.range j).map fun i => X / 2 ^ (8 * (j - 1 - i)) % 256
theorem l8_succ (X : Int) (j : Nat) : (X / 2 ^ (8 * j) % 256) :: l8 X j = l8 X (j + 1) := by
  unfold l8
  rw [List.range_succ_eq_map, List.map_cons, List.map_map]
  congr 1
  refine List.map_congr_left fun i _ => ?_
  simp only [Function.comp]
  congr 3
  omega
theorem l8_all (n : Int) : l8 (n % 18446744073709551616) 8 = (List.range 8).map (by8 n) := by
  unfold l8
  refine List.map_congr_left fun i hi => ?_
  have : i < 8 := by simpa using hi
  unfold by8
  congr 3
  omega
section
variable {e w : World} {F : List HP} {q q2 : Option Addr} {n c m c2 : Nat} {xs ys bs ns : List Int}
end
section
variable {W : World} {q q2 : Option Addr} {c c2 : Nat} {bs ns : List Int}
theorem tInt_end (l : List Int) : tInt l l.length = (0, l.length) := by
  have e1 : tbV l l.length = 0 := by unfold tbV; simp
  have e2 : tbA l l.length = l.length := by unfold tbA; simp
  unfold tInt; rw [e1, e2]; rfl
end
end Go.Proofs.YtkcaeknkfgpnhaaDoor.Eng
