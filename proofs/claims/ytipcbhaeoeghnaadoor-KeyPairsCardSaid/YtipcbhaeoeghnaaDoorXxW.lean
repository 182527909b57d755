/- Digests of bytes (plain). -/
import Derived.Test.YtipcbhaeoeghnaaDoorBitW
import Derived.Test.YtipcbhaeoeghnaaDoorFoldP
namespace Go.Proofs.YtipcbhaeoeghnaaDoor.Eng
open Go Go.RowKit Go.Proofs
set_option linter.unusedVariables false
set_option linter.unusedSimpArgs false
def xP1 : Int := 11400714785074694791
def xP2 : Int := 14029467366897019727
def xP3 : Int := 1609587929392839161
def xP4 : Int := 9650029242287828579
def xP5 : Int := 2870177450012600261
def trI (x : Int) (k : Nat) : Int := (turn x.toNat k : Int)
theorem trI_M64 (x : Int) (k : Nat) : M64 (trI x k) := by
  have := turn_lt x.toNat k
  unfold trI M64; omega
def w64 (x : Int) : Int := IntKind.wrap .u64 x
theorem w64_M64 (x : Int) : M64 (w64 x) := M64.w x
def xorI (a b : Int) : Int := Go.bits BinOp.xor IntKind.u64 a b
theorem xorI_M64 (a b : Int) : M64 (xorI a b) := bits_M64 a b
/-- A round. -/
def rdI (s x : Int) : Int := w64 (trI (w64 (s + w64 (x * xP2))) 31 * xP1)
theorem rdI_M64 (s x : Int) : M64 (rdI s x) := w64_M64 _
/-- Eight bytes from a place on, as a number. -/
def nmI (bs : List Int) (at_ : Nat) : Int := (numN ((bs.drop at_).take 8) : Int)
def sm0 (s : Int) : List Int := [w64 (w64 (s + xP1) + xP2), w64 (s + xP2), s, w64 (s - xP1)]
/-- A block: so many of its rounds. -/
def tkP (ss bl : List Int) (i : Nat) : List Int := (List.range 4).map fun j => if j < i then rdI (ss.getD j 0) (nmI bl (8 * j)) else ss.getD j 0
theorem tkP_len (ss bl : List Int) (i : Nat) : (tkP ss bl i).length = 4 := by simp [tkP]
theorem tkP_zero {ss : List Int} (bl : List Int) (h : ss.length = 4) : tkP ss bl 0 = ss := by
  apply List.ext_getElem
  · simp [tkP, h]
  · intro j h1 h2
    simp [tkP, List.getD_eq_getElem?_getD, h2]
theorem tkP_get {ss bl : List Int} {i : Nat} (h : i < 4) : (tkP ss bl i)[i]'(by rw [tkP_len]; exact h) = ss.getD i 0 := by
  simp [tkP]
theorem tkP_set {ss bl : List Int} {i : Nat} (h : i < 4) : (tkP ss bl i).set i (rdI (ss.getD i 0) (nmI bl (8 * i))) = tkP ss bl (i + 1) := by
  apply List.ext_getElem
  · simp [tkP]
  · intro j h1 h2
    rw [List.getElem_set]
    simp only [tkP, List.getElem_map, List.getElem_range]
    by_cases hj : i = j
    · subst hj; rw [if_pos rfl, if_pos (by omega)]
    · rw [if_neg hj]
      by_cases hj2 : j < i
      · rw [if_pos hj2, if_pos (by omega)]
      · rw [if_neg hj2, if_neg (by omega)]
/-- The sums behind so many blocks. -/
def smL (s : Int) (bs : List Int) : Nat → List Int
  | 0 => sm0 s
  | k + 1 => tkP (smL s bs k) (bs.drop (32 * k)) 4
theorem smL_len (s : Int) (bs : List Int) : ∀ k, (smL s bs k).length = 4
  | 0 => rfl
  | k + 1 => tkP_len _ _ _
theorem nmI_app {a b : List Int} {at_ : Nat} (h : at_ + 8 ≤ a.length) : nmI (a ++ b) at_ = nmI a at_ := by
  unfold nmI
  rw [List.drop_append_of_le_length (by omega), List.take_append_of_le_length (by simp; omega)]
theorem tkP_app {ss a b : List Int} {i : Nat} (hi : i ≤ 4) (h : 32 ≤ a.length) : tkP ss (a ++ b) i = tkP ss a i := by
  unfold tkP
  apply List.map_congr_left
  intro j hj
  have hj : j < 4 := by simpa using hj
  rw [nmI_app (by omega)]
theorem smL_app (s : Int) (a b : List Int) : ∀ k, 32 * k ≤ a.length → smL s (a ++ b) k = smL s a k
  | 0, _ => rfl
  | k + 1, h => by
    unfold smL
    rw [smL_app s a b k (by omega), List.drop_append_of_le_length (by omega), tkP_app (Nat.le_refl _) (by simp; omega)]
/-- What the sums come to. -/
def bg0 (ss : List Int) : Int := w64 (w64 (w64 (trI (ss.getD 0 0) 1 + trI (ss.getD 1 0) 7) + trI (ss.getD 2 0) 12) + trI (ss.getD 3 0) 18)
def bgI (ss : List Int) : Nat → Int
  | 0 => bg0 ss
  | i + 1 => w64 (w64 (xorI (bgI ss i) (rdI 0 (ss.getD i 0)) * xP1) + xP4)
/-- What is left is mixed in: by eights, by four, one by one. -/
def l8I (h : Int) (bs : List Int) : Nat → Int
  | 0 => h
  | j + 1 => w64 (w64 (trI (xorI (l8I h bs j) (rdI 0 (nmI bs (8 * j)))) 27 * xP1) + xP4)
def l4I (h x : Int) : Int := w64 (w64 (trI (xorI h (w64 (x * xP1))) 23 * xP2) + xP3)
def l1I (h : Int) : List Int → Int
  | [] => h
  | x :: r => l1I (w64 (trI (xorI h (w64 (x * xP5))) 11 * xP1)) r
theorem l1I_snoc (h : Int) (l : List Int) (x : Int) : l1I h (l ++ [x]) = w64 (trI (xorI (l1I h l) (w64 (x * xP5))) 11 * xP1) := by
  induction l generalizing h with
  | nil => rfl
  | cons y l ih => exact ih _
def lfI (h : Int) (bs : List Int) : Int :=
  let j := bs.length / 8
  let r := bs.drop (8 * j)
  if 4 ≤ r.length then l1I (l4I (l8I h bs j) (numN (r.take 4) : Int)) (r.drop 4) else l1I (l8I h bs j) r
def enI (h : Int) : Int := fI (w64 (fI (w64 (fI h 33 * xP2)) 29 * xP3)) 32
def xbI (s : Int) (bs : List Int) : Int := if bs.length < 32 then w64 (s + xP5) else bgI (smL s bs (bs.length / 32)) 4
def xxI (s : Int) (bs : List Int) : Int := enI (lfI (w64 (xbI s bs + w64 (bs.length : Nat))) (bs.drop (32 * (bs.length / 32))))
end Go.Proofs.YtipcbhaeoeghnaaDoor.Eng
