/- Any number folded by any number of places is the document's fold, and an unfold undoes it and is undone by it; no condition. -/
import Derived.Test.YtjmlahdnbedkcaaPMixFoldsx1
import Derived.Test.YtjmlahdnbedkcaaWd
namespace Go.Proofs.Ytjmlahdnbedkcaa.Pure
open Go.RowKit Go.Proofs.Ytjmlahdnbedkcaa.PMixFolds Go.Proofs.YtjmlahdnbedkcaaW.PrintWords Go.Proofs.YtjmlahdnbedkcaaW.PrintLast Go.Proofs.Ytjmlahdnbedkcaa.Wd
namespace MixFoldsP

def fold (x : BitVec 64) (k : Nat) : BitVec 64 := x ^^^ (x >>> k)
theorem fold_comm (x : BitVec 64) (i j : Nat) : fold (fold x i) j = fold (fold x j) i := by
  unfold fold
  simp only [BitVec.ushiftRight_xor_distrib, ← BitVec.shiftRight_add]
  rw [Nat.add_comm j i]
  generalize x >>> i = a; generalize x >>> j = b; generalize x >>> (i+j) = c
  rw [BitVec.xor_assoc, BitVec.xor_assoc, ← BitVec.xor_assoc a, ← BitVec.xor_assoc b, BitVec.xor_comm a b]
theorem fold_twice (x : BitVec 64) (j : Nat) : fold (fold x j) j = fold x (j*2) := by
  unfold fold
  simp only [BitVec.ushiftRight_xor_distrib, ← BitVec.shiftRight_add]
  rw [show j + j = j * 2 by omega]
  generalize x >>> j = a; generalize x >>> (j*2) = c
  rw [BitVec.xor_assoc, ← BitVec.xor_assoc a, BitVec.xor_self, BitVec.zero_xor]
theorem fold_big (x : BitVec 64) (j : Nat) (h : 64 ≤ j) : fold x j = x := by
  unfold fold
  rw [BitVec.ushiftRight_eq_zero h, BitVec.xor_zero]

def foldI (x : BitVec 64) (k : Int) : BitVec 64 := if k < 1 then x else if 64 ≤ k then x else fold x k.toNat
theorem fold_f (x : BitVec 64) (k : Int) : mix_Fold.f (U x) k = some (U (foldI x k)) := by
  unfold mix_Fold.f foldI
  by_cases h1 : k < 1
  · rw [if_pos h1, if_pos h1]
  · rw [if_neg h1, if_neg h1]
    by_cases h2 : k ≥ 64
    · rw [if_pos h2, if_pos h2]
    · have e : IntKind.u64.wrap k = k := wrap_u64_id (by omega) (by omega)
      rw [if_neg h2, e, if_pos (by omega), if_neg (by omega), U_shr _ (by omega), U_xor]; rfl
theorem foldI_in (x : BitVec 64) (k : Int) (h : 1 ≤ k) : foldI x k = fold x k.toNat := by
  unfold foldI
  rw [if_neg (by omega)]
  by_cases h2 : 64 ≤ k
  · rw [if_pos h2, fold_big x _ (by omega)]
  · rw [if_neg h2]
theorem toNat_dbl {j : Int} (h : 1 ≤ j) (h2 : j < 128) : (wrap64 (j * 2)).toNat = j.toNat * 2 := by unfold wrap64; omega

theorem unfold_l (d : Nat) : ∀ (k : Nat) (x : BitVec 64) (j : Int), 1 ≤ j → j < 128 → 64 - j ≤ d → d < k →
    mix_Unfold.l0 k (U (fold x j.toNat)) j = some (U x) := by
  induction d with
  | zero =>
    intro k x j h1 h2 hd hk
    obtain ⟨k, rfl⟩ : ∃ m, k = m + 1 := ⟨k - 1, by omega⟩
    simp only [mix_Unfold.l0]
    rw [if_neg (by omega), fold_big x _ (by omega)]
  | succ d ih =>
    intro k x j h1 h2 hd hk
    obtain ⟨k, rfl⟩ : ∃ m, k = m + 1 := ⟨k - 1, by omega⟩
    simp only [mix_Unfold.l0]
    by_cases h : j < 64
    · rw [if_pos h, fold_f, foldI_in _ _ h1, fold_twice]
      simp only [Option.bind_some]
      rw [← toNat_dbl h1 h2]
      have hw : wrap64 (j * 2) = j * 2 := by unfold wrap64; omega
      exact ih k x _ (by omega) (by omega) (by omega) (by omega)
    · rw [if_neg h, fold_big x _ (by omega)]
theorem fold_inj {a b : BitVec 64} {j : Nat} (h1 : 1 ≤ j) (h : fold a j = fold b j) : a = b := by
  by_cases h2 : 64 ≤ j
  · rwa [fold_big a j h2, fold_big b j h2] at h
  · have ha := unfold_l 64 65 a (j : Int) (by omega) (by omega) (by omega) (by omega)
    have hb := unfold_l 64 65 b (j : Int) (by omega) (by omega) (by omega) (by omega)
    rw [Int.toNat_natCast] at ha hb
    rw [h] at ha
    rw [ha] at hb
    exact U_inj (Option.some.inj hb)
theorem unfold_r (d : Nat) : ∀ (k : Nat) (x : BitVec 64) (j : Int), 1 ≤ j → j < 128 → 64 - j ≤ d → d < k →
    ∃ y, mix_Unfold.l0 k (U x) j = some (U y) ∧ fold y j.toNat = x := by
  induction d with
  | zero =>
    intro k x j h1 h2 hd hk
    obtain ⟨k, rfl⟩ : ∃ m, k = m + 1 := ⟨k - 1, by omega⟩
    refine ⟨x, ?_, fold_big x _ (by omega)⟩
    simp only [mix_Unfold.l0]
    rw [if_neg (by omega)]
  | succ d ih =>
    intro k x j h1 h2 hd hk
    obtain ⟨k, rfl⟩ : ∃ m, k = m + 1 := ⟨k - 1, by omega⟩
    by_cases h : j < 64
    · have hw : wrap64 (j * 2) = j * 2 := by unfold wrap64; omega
      obtain ⟨y, hy, hf⟩ := ih k (fold x j.toNat) (wrap64 (j * 2)) (by omega) (by omega) (by omega) (by omega)
      refine ⟨y, ?_, ?_⟩
      · simp only [mix_Unfold.l0]
        rw [if_pos h, fold_f, foldI_in _ _ h1]
        simp only [Option.bind_some]
        exact hy
      · rw [toNat_dbl h1 h2, ← fold_twice] at hf
        exact fold_inj (by omega) hf
    · refine ⟨x, ?_, fold_big x _ (by omega)⟩
      simp only [mix_Unfold.l0]
      rw [if_neg h]

theorem ref_l (d : Nat) : ∀ (k : Nat) (x : BitVec 64) (m i : Int), 0 ≤ i → i ≤ m → m < 64 → m - i = d → d < k →
    cortadoref03_Fold.l0 k (U x) m (U (x >>> i.toNat)) i = some (U (fold x m.toNat)) := by
  induction d with
  | zero =>
    intro k x m i h0 h1 h2 hd hk
    obtain ⟨k, rfl⟩ : ∃ m, k = m + 1 := ⟨k - 1, by omega⟩
    obtain rfl : i = m := by omega
    simp only [cortadoref03_Fold.l0]
    rw [if_neg (by omega), U_xor]; rfl
  | succ d ih =>
    intro k x m i h0 h1 h2 hd hk
    obtain ⟨k, rfl⟩ : ∃ m, k = m + 1 := ⟨k - 1, by omega⟩
    simp only [cortadoref03_Fold.l0]
    have hw : wrap64 (i + 1) = i + 1 := by unfold wrap64; omega
    rw [if_pos (by omega), U_tdiv2, U_wrap, hw, ← BitVec.shiftRight_add, show i.toNat + 1 = (i + 1).toNat by omega]
    exact ih k x m (i + 1) (by omega) (by omega) (by omega) (by omega) (by omega)
theorem ref_f (k : Nat) (x : BitVec 64) (m : Int) (hk : 100 ≤ k) : cortadoref03_Fold.f k (U x) m = some (U (foldI x m)) := by
  obtain ⟨k, rfl⟩ : ∃ m, k = m + 1 := ⟨k - 1, by omega⟩
  unfold cortadoref03_Fold.f foldI
  by_cases h1 : m < 1
  · rw [if_pos h1, if_pos h1]; simp only [cortadoref03_Fold.j0, if_true]
  · rw [if_neg h1, if_neg h1]
    simp only [cortadoref03_Fold.j0]
    by_cases h2 : m > 63
    · rw [if_pos (by simpa using h2), if_pos (by omega)]
    · rw [if_neg (by simpa using h2), if_neg (by omega)]
      have := ref_l m.toNat k x m 0 (by omega) (by omega) (by omega) (by omega) (by omega)
      simpa using this

theorem fold_unf (x : BitVec 64) (m : Int) : ∃ y, mix_Unfold.f 200 (U x) m = some (U y) ∧ foldI y m = x ∧ mix_Unfold.f 200 (U (foldI x m)) m = some (U x) := by
  unfold mix_Unfold.f
  by_cases h1 : m < 1
  · refine ⟨x, by rw [if_pos h1], by unfold foldI; rw [if_pos h1], by rw [if_pos h1]; unfold foldI; rw [if_pos h1]⟩
  · rw [if_neg h1, if_neg h1]
    by_cases h2 : m < 64
    · obtain ⟨y, hy, hf⟩ := unfold_r 64 200 x m (by omega) (by omega) (by omega) (by omega)
      refine ⟨y, hy, ?_, ?_⟩
      · rw [foldI_in _ _ (by omega)]; exact hf
      · rw [foldI_in _ _ (by omega)]
        exact unfold_l 64 200 x m (by omega) (by omega) (by omega) (by omega)
    · have e : ∀ z : BitVec 64, mix_Unfold.l0 200 (U z) m = some (U z) := fun z => by
        have : ∀ k, mix_Unfold.l0 (k + 1) (U z) m = some (U z) := fun k => by simp only [mix_Unfold.l0]; rw [if_neg h2]
        exact this 199
      have g : ∀ z : BitVec 64, foldI z m = z := fun z => by rw [foldI_in _ _ (by omega), fold_big _ _ (by omega)]
      exact ⟨x, e x, g x, by rw [g]; exact e x⟩
theorem awake_f : cortadolaw03_awake.f 200 = some true := by decide +kernel
end MixFoldsP
open MixFoldsP in
theorem MixFolds : cortadolaw03_MixFolds.Pure := by
  intro a m ha hm
  obtain ⟨x, rfl⟩ := U_wf ha
  refine ⟨200, ?_⟩
  obtain ⟨y, hy, hf, hb⟩ := fold_unf x m
  unfold cortadolaw03_MixFolds.f
  rw [fold_f, ref_f _ _ _ (by omega)]
  simp only [Option.bind_some, if_true]
  rw [hy]
  simp only [Option.bind_some]
  rw [ref_f _ _ _ (by omega), hf]
  simp only [Option.bind_some]
  rw [if_pos trivial, hb]
  simp only [Option.bind_some, if_true]
  rw [awake_f]; rfl

end Go.Proofs.Ytjmlahdnbedkcaa.Pure
