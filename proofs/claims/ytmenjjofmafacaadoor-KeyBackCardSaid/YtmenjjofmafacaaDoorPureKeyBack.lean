/- A number comes back from its pair, and of any other pair there is none; no condition. -/
import Derived.Test.YtmenjjofmafacaaDoorHKeyBackx4
import Derived.Test.YtmenjjofmafacaaDoorWd
namespace Go.Proofs.YtmenjjofmafacaaDoor.Pure
open Go.RowKit Go.Proofs.YtmenjjofmafacaaDoor.HKeyBack Go.Proofs.YtmenjjofmafacaaDoorW.PrintWords Go.Proofs.YtmenjjofmafacaaDoorW.PrintLast Go.Proofs.YtmenjjofmafacaaDoorW.PrintMore Go.Proofs.YtmenjjofmafacaaDoor.Wd
namespace MixL
def fold (x : BitVec 64) (k : Nat) : BitVec 64 := x ^^^ (x >>> k)
theorem fold_comm (x : BitVec 64) (i j : Nat) : fold (fold x i) j = fold (fold x j) i := by
  unfold fold
  simp only [BitVec.ushiftRight_xor_distrib, ← BitVec.shiftRight_add]
  rw [Nat.add_comm j i]
  generalize x >>> i = a; generalize x >>> j = b; generalize x >>> (i+j) = c
  rw [BitVec.xor_assoc, BitVec.xor_assoc, ← BitVec.xor_assoc a, ← BitVec.xor_assoc b, BitVec.xor_comm a b]
theorem fold_twice (x : BitVec 64) (j : Nat) : fold (fold x j) j = fold x (j*2) := by
  unfold fold
  simp only [BitVec.ushiftRight_xor_distrib, ← BitVec.shiftRight_add]
  rw [show j + j = j * 2 by omega]
  generalize x >>> j = a; generalize x >>> (j*2) = c
  rw [BitVec.xor_assoc, ← BitVec.xor_assoc a, BitVec.xor_self, BitVec.zero_xor]
theorem fold_big (x : BitVec 64) (j : Nat) (h : 64 ≤ j) : fold x j = x := by
  unfold fold
  rw [BitVec.ushiftRight_eq_zero h, BitVec.xor_zero]

theorem fold_inj' {a b : BitVec 64} (d : Nat) : ∀ j : Nat, 1 ≤ j → 64 - j ≤ d → fold a j = fold b j → a = b := by
  induction d with
  | zero =>
    intro j h1 hd h
    rwa [fold_big a j (by omega), fold_big b j (by omega)] at h
  | succ d ih =>
    intro j h1 hd h
    by_cases h2 : 64 ≤ j
    · rwa [fold_big a j h2, fold_big b j h2] at h
    · refine ih (j * 2) (by omega) (by omega) ?_
      rw [← fold_twice, ← fold_twice, h]
def step (a x : BitVec 64) : BitVec 64 := x * (2 - a * x)
def inv (a : BitVec 64) : BitVec 64 := step a (step a (step a (step a (step a a))))
theorem step_sq (a x : BitVec 64) : 1 - a * step a x = (1 - a * x) * (1 - a * x) := by
  unfold step
  grind
theorem inv_err (a : BitVec 64) (c : BitVec 64) (h : 1 - a * a = 8#64 * c) : 1 - a * inv a = 0 := by
  unfold inv
  rw [step_sq, step_sq, step_sq, step_sq, step_sq, h]
  rw [show 8#64 * c * (8#64 * c) = 64#64 * (c * c) by grind]
  generalize c * c = c1
  rw [show 64#64 * c1 * (64#64 * c1) = 4096#64 * (c1 * c1) by grind]
  generalize c1 * c1 = c2
  rw [show 4096#64 * c2 * (4096#64 * c2) = 16777216#64 * (c2 * c2) by grind]
  generalize c2 * c2 = c3
  rw [show 16777216#64 * c3 * (16777216#64 * c3) = 281474976710656#64 * (c3 * c3) by grind]
  generalize c3 * c3 = c4
  rw [show 281474976710656#64 * c4 * (281474976710656#64 * c4) = (281474976710656#64 * 281474976710656#64) * (c4 * c4) by grind]
  rw [show 281474976710656#64 * 281474976710656#64 = 0#64 from rfl]
  exact BitVec.zero_mul
theorem odd_sq (a : BitVec 64) (h : a.toNat % 2 = 1) : ∃ c, 1 - a * a = 8#64 * c := by
  obtain ⟨b, rfl⟩ : ∃ b : BitVec 64, a = 2#64 * b + 1#64 := ⟨BitVec.ofNat 64 (a.toNat / 2), by
    apply BitVec.eq_of_toNat_eq
    have := a.isLt
    simp only [BitVec.toNat_add, BitVec.toNat_mul, BitVec.toNat_ofNat]
    omega⟩
  clear h
  have hb : ∃ d : BitVec 64, b = 2#64 * d ∨ b = 2#64 * d + 1#64 := ⟨BitVec.ofNat 64 (b.toNat / 2), by
    have := b.isLt
    rcases Nat.mod_two_eq_zero_or_one b.toNat with h | h
    · left
      apply BitVec.eq_of_toNat_eq
      simp only [BitVec.toNat_mul, BitVec.toNat_ofNat]
      omega
    · right
      apply BitVec.eq_of_toNat_eq
      simp only [BitVec.toNat_add, BitVec.toNat_mul, BitVec.toNat_ofNat]
      omega⟩
  obtain ⟨d, rfl | rfl⟩ := hb
  · exact ⟨-(d * (2#64 * d + 1#64)), by grind⟩
  · exact ⟨-((2#64 * d + 1#64) * (d + 1#64)), by grind⟩
theorem inv_right (a : BitVec 64) (h : a.toNat % 2 = 1) : a * inv a = 1 := by
  obtain ⟨c, hc⟩ := odd_sq a h
  have := inv_err a c hc
  grind
theorem inv_odd (a : BitVec 64) (h : a.toNat % 2 = 1) : (inv a).toNat % 2 = 1 := by
  have e := congrArg BitVec.toNat (inv_right a h)
  rw [BitVec.toNat_mul] at e
  rcases Nat.mod_two_eq_zero_or_one (inv a).toNat with h0 | h0
  · exfalso
    obtain ⟨d, hd⟩ : ∃ d, (inv a).toNat = 2 * d := ⟨(inv a).toNat / 2, by omega⟩
    rw [hd, ← Nat.mul_assoc, Nat.mul_comm a.toNat 2, Nat.mul_assoc] at e
    generalize a.toNat * d = z at e
    have : (1 : BitVec 64).toNat = 1 := rfl
    omega
  · exact h0
theorem inv_inv (a : BitVec 64) (h : a.toNat % 2 = 1) : inv (inv a) = a := by
  have h1 := inv_right a h
  have h2 := inv_right (inv a) (inv_odd a h)
  have : inv (inv a) = (a * inv a) * inv (inv a) := by rw [h1]; exact (BitVec.one_mul _).symm
  rw [this, BitVec.mul_assoc, h2]; exact BitVec.mul_one _
theorem odd_back {m : BitVec 64} (h : m.toNat % 2 = 1) (y : BitVec 64) : y * m * inv m = y := by
  rw [BitVec.mul_assoc, inv_right m h]; exact BitVec.mul_one y
theorem odd_forth {m : BitVec 64} (h : m.toNat % 2 = 1) (y : BitVec 64) : y * inv m * m = y := by
  rw [BitVec.mul_assoc, BitVec.mul_comm (inv m) m, inv_right m h]; exact BitVec.mul_one y
def alongB (x : BitVec 64) (a1 : Nat) (m1 : BitVec 64) (a2 : Nat) (m2 : BitVec 64) (a3 : Nat) (m3 : BitVec 64) : BitVec 64 := fold (fold (fold x a1 * m1) a2 * m2) a3 * m3
def mixB (x : BitVec 64) : BitVec 64 := alongB x 30 13787848793156543929#64 27 10723151780598845931#64 31 1#64
def twistB (x : BitVec 64) : BitVec 64 := alongB x 33 18397679294719823053#64 33 14181476777654086739#64 33 1#64
theorem alongB_inj {x y : BitVec 64} {a1 a2 a3 : Nat} {m1 m2 m3 : BitVec 64} (h1 : 1 ≤ a1) (h2 : 1 ≤ a2) (h3 : 1 ≤ a3) (o1 : m1.toNat % 2 = 1) (o2 : m2.toNat % 2 = 1) (o3 : m3.toNat % 2 = 1) (h : alongB x a1 m1 a2 m2 a3 m3 = alongB y a1 m1 a2 m2 a3 m3) : x = y := by
  unfold alongB at h
  have c : ∀ {m u v : BitVec 64}, m.toNat % 2 = 1 → u * m = v * m → u = v := fun {m u v} o e => by
    have e2 := congrArg (· * inv m) e
    simp only [odd_back o] at e2
    exact e2
  exact fold_inj' 64 a1 h1 (by omega) (c o1 (fold_inj' 64 a2 h2 (by omega) (c o2 (fold_inj' 64 a3 h3 (by omega) (c o3 h)))))
theorem mixB_inj {x y : BitVec 64} (h : mixB x = mixB y) : x = y := alongB_inj (by omega) (by omega) (by omega) rfl rfl rfl h
theorem twistB_inj {x y : BitVec 64} (h : twistB x = twistB y) : x = y := alongB_inj (by omega) (by omega) (by omega) rfl rfl rfl h
end MixL
namespace MixL
def foldI (x : BitVec 64) (k : Int) : BitVec 64 := if k < 1 then x else if 64 ≤ k then x else fold x k.toNat
theorem fold_f (x : BitVec 64) (k : Int) : mix_Fold.f (U x) k = some (U (foldI x k)) := by
  unfold mix_Fold.f foldI
  by_cases h1 : k < 1
  · rw [if_pos h1, if_pos h1]
  · rw [if_neg h1, if_neg h1]
    by_cases h2 : k ≥ 64
    · rw [if_pos h2, if_pos h2]
    · have e : IntKind.u64.wrap k = k := wrap_u64_id (by omega) (by omega)
      rw [if_neg h2, e, if_pos (by omega), if_neg (by omega), U_shr _ (by omega), U_xor]; rfl
theorem foldI_in (x : BitVec 64) (k : Int) (h : 1 ≤ k) : foldI x k = fold x k.toNat := by
  unfold foldI
  rw [if_neg (by omega)]
  by_cases h2 : 64 ≤ k
  · rw [if_pos h2, fold_big x _ (by omega)]
  · rw [if_neg h2]
theorem fold_in (x : BitVec 64) (a : Nat) (h : 1 ≤ a) : mix_Fold.f (U x) (a : Int) = some (U (fold x a)) := by
  rw [fold_f, foldI_in _ _ (by omega), Int.toNat_natCast]
theorem along_f (x : BitVec 64) (a1 : Nat) (m1 : BitVec 64) (a2 : Nat) (m2 : BitVec 64) (a3 : Nat) (m3 : BitVec 64) (h1 : 1 ≤ a1) (h2 : 1 ≤ a2) (h3 : 1 ≤ a3) :
    mix_along.f (U x) a1 (U m1) a2 (U m2) a3 (U m3) = some (U (alongB x a1 m1 a2 m2 a3 m3)) := by
  unfold mix_along.f alongB
  rw [fold_in _ _ h1]
  simp only [bs]
  rw [U_mul, fold_in _ _ h2]
  simp only [bs]
  rw [U_mul, fold_in _ _ h3]
  simp only [bs]
  rw [U_mul]
theorem mix_f (x : BitVec 64) : mix_Mix.f (U x) = some (U (mixB x)) := along_f x 30 13787848793156543929#64 27 10723151780598845931#64 31 1#64 (by omega) (by omega) (by omega)
theorem twist_f (x : BitVec 64) : mix_Twist.f (U x) = some (U (twistB x)) := along_f x 33 18397679294719823053#64 33 14181476777654086739#64 33 1#64 (by omega) (by omega) (by omega)
end MixL
namespace MixL
theorem ref_l (d : Nat) : ∀ (k : Nat) (x : BitVec 64) (m i : Int), 0 ≤ i → i ≤ m → m < 64 → m - i = d → d < k →
    cortadoref03_Fold.l0 k (U x) m (U (x >>> i.toNat)) i = some (U (fold x m.toNat)) := by
  induction d with
  | zero =>
    intro k x m i h0 h1 h2 hd hk
    obtain ⟨k, rfl⟩ : ∃ m, k = m + 1 := ⟨k - 1, by omega⟩
    obtain rfl : i = m := by omega
    simp only [cortadoref03_Fold.l0]
    rw [if_neg (by omega), U_xor]; rfl
  | succ d ih =>
    intro k x m i h0 h1 h2 hd hk
    obtain ⟨k, rfl⟩ : ∃ m, k = m + 1 := ⟨k - 1, by omega⟩
    simp only [cortadoref03_Fold.l0]
    have hw : wrap64 (i + 1) = i + 1 := by unfold wrap64; omega
    rw [if_pos (by omega), U_tdiv2, U_wrap, hw, ← BitVec.shiftRight_add, show i.toNat + 1 = (i + 1).toNat by omega]
    exact ih k x m (i + 1) (by omega) (by omega) (by omega) (by omega) (by omega)
theorem ref_f (k : Nat) (x : BitVec 64) (m : Int) (hk : 100 ≤ k) : cortadoref03_Fold.f k (U x) m = some (U (foldI x m)) := by
  obtain ⟨k, rfl⟩ : ∃ m, k = m + 1 := ⟨k - 1, by omega⟩
  unfold cortadoref03_Fold.f foldI
  by_cases h1 : m < 1
  · rw [if_pos h1, if_pos h1]; simp only [cortadoref03_Fold.j0, if_true]
  · rw [if_neg h1, if_neg h1]
    simp only [cortadoref03_Fold.j0]
    by_cases h2 : m > 63
    · rw [if_pos (by simpa using h2), if_pos (by omega)]
    · rw [if_neg (by simpa using h2), if_neg (by omega)]
      have := ref_l m.toNat k x m 0 (by omega) (by omega) (by omega) (by omega) (by omega)
      simpa using this

theorem rfold_in (k : Nat) (hk : 100 ≤ k) (x : BitVec 64) (a : Nat) (h : 1 ≤ a) : cortadoref03_Fold.f k (U x) (a : Int) = some (U (fold x a)) := by
  rw [ref_f k x _ hk, foldI_in _ _ (by omega), Int.toNat_natCast]
theorem rmix_f (k : Nat) (hk : 100 ≤ k) (x : BitVec 64) : cortadoref03_Mix.f k (U x) = some (U (mixB x)) := by
  unfold cortadoref03_Mix.f mixB alongB
  rw [show (30 : Int) = ((30 : Nat) : Int) from rfl, show (27 : Int) = ((27 : Nat) : Int) from rfl, show (31 : Int) = ((31 : Nat) : Int) from rfl, show (13787848793156543929 : Int) = U 13787848793156543929#64 from rfl, show (10723151780598845931 : Int) = U 10723151780598845931#64 from rfl]
  rw [rfold_in k hk _ _ (by omega)]
  simp only [bs]
  rw [U_mul, rfold_in k hk _ _ (by omega)]
  simp only [bs]
  rw [U_mul, rfold_in k hk _ _ (by omega)]
  simp only [bs, BitVec.mul_one]
theorem rtwist_f (k : Nat) (hk : 100 ≤ k) (x : BitVec 64) : cortadoref03_Twist.f k (U x) = some (U (twistB x)) := by
  unfold cortadoref03_Twist.f twistB alongB
  rw [show (33 : Int) = ((33 : Nat) : Int) from rfl, show (18397679294719823053 : Int) = U 18397679294719823053#64 from rfl, show (14181476777654086739 : Int) = U 14181476777654086739#64 from rfl]
  rw [rfold_in k hk _ _ (by omega)]
  simp only [bs]
  rw [U_mul, rfold_in k hk _ _ (by omega)]
  simp only [bs]
  rw [U_mul, rfold_in k hk _ _ (by omega)]
  simp only [bs, BitVec.mul_one]
end MixL
namespace MixL
theorem toNat_dbl {j : Int} (h : 1 ≤ j) (h2 : j < 128) : (wrap64 (j * 2)).toNat = j.toNat * 2 := by unfold wrap64; omega

theorem unfold_l (d : Nat) : ∀ (k : Nat) (x : BitVec 64) (j : Int), 1 ≤ j → j < 128 → 64 - j ≤ d → d < k →
    mix_Unfold.l0 k (U (fold x j.toNat)) j = some (U x) := by
  induction d with
  | zero =>
    intro k x j h1 h2 hd hk
    obtain ⟨k, rfl⟩ : ∃ m, k = m + 1 := ⟨k - 1, by omega⟩
    simp only [mix_Unfold.l0]
    rw [if_neg (by omega), fold_big x _ (by omega)]
  | succ d ih =>
    intro k x j h1 h2 hd hk
    obtain ⟨k, rfl⟩ : ∃ m, k = m + 1 := ⟨k - 1, by omega⟩
    simp only [mix_Unfold.l0]
    by_cases h : j < 64
    · rw [if_pos h, fold_f, foldI_in _ _ h1, fold_twice]
      simp only [Option.bind_some]
      rw [← toNat_dbl h1 h2]
      have hw : wrap64 (j * 2) = j * 2 := by unfold wrap64; omega
      exact ih k x _ (by omega) (by omega) (by omega) (by omega)
    · rw [if_neg h, fold_big x _ (by omega)]
theorem fold_inj {a b : BitVec 64} {j : Nat} (h1 : 1 ≤ j) (h : fold a j = fold b j) : a = b := by
  by_cases h2 : 64 ≤ j
  · rwa [fold_big a j h2, fold_big b j h2] at h
  · have ha := unfold_l 64 65 a (j : Int) (by omega) (by omega) (by omega) (by omega)
    have hb := unfold_l 64 65 b (j : Int) (by omega) (by omega) (by omega) (by omega)
    rw [Int.toNat_natCast] at ha hb
    rw [h] at ha
    rw [ha] at hb
    exact U_inj (Option.some.inj hb)
theorem unfold_r (d : Nat) : ∀ (k : Nat) (x : BitVec 64) (j : Int), 1 ≤ j → j < 128 → 64 - j ≤ d → d < k →
    ∃ y, mix_Unfold.l0 k (U x) j = some (U y) ∧ fold y j.toNat = x := by
  induction d with
  | zero =>
    intro k x j h1 h2 hd hk
    obtain ⟨k, rfl⟩ : ∃ m, k = m + 1 := ⟨k - 1, by omega⟩
    refine ⟨x, ?_, fold_big x _ (by omega)⟩
    simp only [mix_Unfold.l0]
    rw [if_neg (by omega)]
  | succ d ih =>
    intro k x j h1 h2 hd hk
    obtain ⟨k, rfl⟩ : ∃ m, k = m + 1 := ⟨k - 1, by omega⟩
    by_cases h : j < 64
    · have hw : wrap64 (j * 2) = j * 2 := by unfold wrap64; omega
      obtain ⟨y, hy, hf⟩ := ih k (fold x j.toNat) (wrap64 (j * 2)) (by omega) (by omega) (by omega) (by omega)
      refine ⟨y, ?_, ?_⟩
      · simp only [mix_Unfold.l0]
        rw [if_pos h, fold_f, foldI_in _ _ h1]
        simp only [Option.bind_some]
        exact hy
      · rw [toNat_dbl h1 h2, ← fold_twice] at hf
        exact fold_inj (by omega) hf
    · refine ⟨x, ?_, fold_big x _ (by omega)⟩
      simp only [mix_Unfold.l0]
      rw [if_neg h]

theorem two_U : (2 : Int) = U 2 := rfl
theorem step_U (a x : BitVec 64) : IntKind.u64.wrap (U x * (IntKind.u64.wrap (2 - (IntKind.u64.wrap (U a * U x))))) = U (step a x) := by
  rw [U_mul, two_U, U_sub, U_mul]; rfl
theorem inv_l (k : Nat) (a : BitVec 64) : mix_Inverse.l0 (k + 6) (U a) (U a) 0 = some (U (inv a)) := by
  simp only [mix_Inverse.l0, step_U]
  rw [wrap64_id (x := 0 + 1) (by omega) (by omega)]
  rw [wrap64_id (x := 0 + 1 + 1) (by omega) (by omega)]
  rw [wrap64_id (x := 0 + 1 + 1 + 1) (by omega) (by omega)]
  rw [wrap64_id (x := 0 + 1 + 1 + 1 + 1) (by omega) (by omega)]
  rw [wrap64_id (x := 0 + 1 + 1 + 1 + 1 + 1) (by omega) (by omega)]
  simp [inv]
theorem inv_f (k : Nat) (a : BitVec 64) (h : a.toNat % 2 = 1) : mix_Inverse.f (k + 6) (U a) = some (U (inv a)) := by
  unfold mix_Inverse.f
  rw [if_neg (by rw [Int.tmod_eq_emod_of_nonneg (U_lo a)]; unfold U; omega)]
  exact inv_l k a
theorem unf_l (k : Nat) (hk : 64 < k) (x : BitVec 64) (a : Nat) (h1 : 1 ≤ a) (h2 : a < 64) : mix_Unfold.f k (U (fold x a)) (a : Int) = some (U x) := by
  unfold mix_Unfold.f
  rw [if_neg (by omega)]
  have := unfold_l 64 k x (a : Int) (by omega) (by omega) (by omega) hk
  rw [Int.toNat_natCast] at this
  exact this
theorem unf_r (k : Nat) (hk : 64 < k) (x : BitVec 64) (a : Nat) (h1 : 1 ≤ a) (h2 : a < 64) : ∃ y, mix_Unfold.f k (U x) (a : Int) = some (U y) ∧ fold y a = x := by
  unfold mix_Unfold.f
  rw [if_neg (by omega)]
  have := unfold_r 64 k x (a : Int) (by omega) (by omega) (by omega) hk
  rw [Int.toNat_natCast] at this
  exact this
theorem invk (k : Nat) (hk : 64 < k) (m : BitVec 64) (h : m.toNat % 2 = 1) : mix_Inverse.f k (U m) = some (U (inv m)) := by
  obtain ⟨j, rfl⟩ : ∃ j, k = j + 6 := ⟨k - 6, by omega⟩
  exact inv_f j m h
theorem back_l (k : Nat) (hk : 64 < k) (x : BitVec 64) (a1 : Nat) (m1 : BitVec 64) (a2 : Nat) (m2 : BitVec 64) (a3 : Nat) (m3 : BitVec 64) (h1 : 1 ≤ a1 ∧ a1 < 64) (h2 : 1 ≤ a2 ∧ a2 < 64) (h3 : 1 ≤ a3 ∧ a3 < 64) (o1 : m1.toNat % 2 = 1) (o2 : m2.toNat % 2 = 1) (o3 : m3.toNat % 2 = 1) :
    mix_back.f k (U (alongB x a1 m1 a2 m2 a3 m3)) a1 (U m1) a2 (U m2) a3 (U m3) = some (U x) := by
  unfold mix_back.f alongB
  rw [invk k hk m3 o3, invk k hk m2 o2, invk k hk m1 o1]
  simp only [bs]
  rw [U_mul, odd_back o3, unf_l k hk _ _ h3.1 h3.2]
  simp only [bs]
  rw [U_mul, odd_back o2, unf_l k hk _ _ h2.1 h2.2]
  simp only [bs]
  rw [U_mul, odd_back o1, unf_l k hk _ _ h1.1 h1.2]
  simp only [bs]
theorem back_r (k : Nat) (hk : 64 < k) (x : BitVec 64) (a1 : Nat) (m1 : BitVec 64) (a2 : Nat) (m2 : BitVec 64) (a3 : Nat) (m3 : BitVec 64) (h1 : 1 ≤ a1 ∧ a1 < 64) (h2 : 1 ≤ a2 ∧ a2 < 64) (h3 : 1 ≤ a3 ∧ a3 < 64) (o1 : m1.toNat % 2 = 1) (o2 : m2.toNat % 2 = 1) (o3 : m3.toNat % 2 = 1) :
    ∃ y, mix_back.f k (U x) a1 (U m1) a2 (U m2) a3 (U m3) = some (U y) ∧ alongB y a1 m1 a2 m2 a3 m3 = x := by
  obtain ⟨y3, e3, f3⟩ := unf_r k hk (x * inv m3) a3 h3.1 h3.2
  obtain ⟨y2, e2, f2⟩ := unf_r k hk (y3 * inv m2) a2 h2.1 h2.2
  obtain ⟨y1, e1, f1⟩ := unf_r k hk (y2 * inv m1) a1 h1.1 h1.2
  refine ⟨y1, ?_, ?_⟩
  · unfold mix_back.f
    rw [invk k hk m3 o3, invk k hk m2 o2, invk k hk m1 o1]
    simp only [bs]
    rw [U_mul, e3]
    simp only [bs]
    rw [U_mul, e2]
    simp only [bs]
    rw [U_mul, e1]
    simp only [bs]
  · unfold alongB
    rw [f1, odd_forth o1, f2, odd_forth o2, f3, odd_forth o3]
theorem unmix_l (k : Nat) (hk : 64 < k) (x : BitVec 64) : mix_Unmix.f k (U (mixB x)) = some (U x) := back_l k hk x 30 13787848793156543929#64 27 10723151780598845931#64 31 1#64 (by omega) (by omega) (by omega) rfl rfl rfl
theorem unmix_r (k : Nat) (hk : 64 < k) (x : BitVec 64) : ∃ y, mix_Unmix.f k (U x) = some (U y) ∧ mixB y = x := back_r k hk x 30 13787848793156543929#64 27 10723151780598845931#64 31 1#64 (by omega) (by omega) (by omega) rfl rfl rfl
end MixL
namespace KeyBackP
open MixL
theorem number_f (x : BitVec 64) : key_Number.f (U x) = some (U (mixB x), U (twistB x)) := by
  unfold key_Number.f
  rw [mix_f, twist_f]
  simp only [bs]
theorem rnumber_f (k : Nat) (hk : 100 ≤ k) (x : BitVec 64) : cortadoref06_Number.f k (U x) = some (U (mixB x), U (twistB x)) := by
  unfold cortadoref06_Number.f
  rw [rmix_f k hk, rtwist_f k hk]
  simp only [bs]
theorem of_f (k : Nat) (hk : 64 < k) (h c : BitVec 64) : ∃ n, mixB n = h ∧ key_Of.f k (U h) (U c) = some (if twistB n = c then (U n, true) else (0, false)) := by
  obtain ⟨n, hn, hm⟩ := unmix_r k hk h
  refine ⟨n, hm, ?_⟩
  unfold key_Of.f
  rw [hn]
  simp only [bs]
  rw [number_f, hm]
  simp only [bs]
  by_cases q : twistB n = c
  · rw [if_pos q, q, if_neg (by simp)]
  · rw [if_neg q, if_pos (by simp; exact fun e => q (U_inj e))]
theorem awake_f (k : Nat) (hk : 100 ≤ k) : cortadolaw06_awake.f k = some true := by
  unfold cortadolaw06_awake.f key_Shard.f
  simp only [bs]
  rw [if_pos (by rw [show Int.tmod 515 256 = 3 from rfl, wrap64_id (by omega) (by omega)]), show (1 : Int) = U 1#64 from rfl, number_f, rnumber_f k hk]
  simp only [bs]
  simp
end KeyBackP
open KeyBackP MixL in
theorem KeyBack (a c b : Int) (ha : (Lit.int .u64 a).wf = true) (hc : (Lit.int .u64 c).wf = true) (hb : (Lit.int .u64 b).wf = true) : ∃ k, cortadolaw06_KeyBack.f k a c b = some true := by
  obtain ⟨h, rfl⟩ := U_wf ha
  obtain ⟨d, rfl⟩ := U_wf hc
  obtain ⟨n, rfl⟩ := U_wf hb
  obtain ⟨k, hk⟩ : ∃ k : Nat, k = 200 := ⟨200, rfl⟩
  refine ⟨k + 1, ?_⟩
  obtain ⟨m, hm, ho⟩ := of_f (k + 1) (by omega) h d
  obtain ⟨m2, hm2, ho2⟩ := of_f (k + 1) (by omega) (mixB n) (twistB n)
  obtain rfl := mixB_inj hm2
  rw [if_pos rfl] at ho2
  have hw := awake_f k (by omega)
  -- what stands behind the first test
  have hj : ∀ (r1 : Int) (r2 : Bool), ((r1, r2) = if twistB m = d then (U m, true) else (0, false)) → cortadolaw06_KeyBack.j0 (k + 1) (U m2) r1 r2 false (U h) (U d) = some true := by
    intro r1 r2 hr
    simp only [cortadolaw06_KeyBack.j0]
    rw [if_neg (by simp), rnumber_f k (by omega)]
    simp only [bs]
    by_cases q : mixB m2 = h ∧ twistB m2 = d
    · obtain ⟨q1, q2⟩ := q
      obtain rfl : m = m2 := mixB_inj (hm.trans q1.symm)
      rw [if_pos q2] at hr
      obtain ⟨rfl, rfl⟩ := Prod.mk.inj hr
      rw [q1, q2, if_neg (by simp), if_pos rfl, if_pos rfl, hw]
      simp only [bs]
    · rw [if_pos, hw]
      · simp only [bs]
      · simp only [Bool.or_eq_true, Bool.not_eq_true', beq_eq_false_iff_ne]
        rcases Classical.not_and_iff_not_or_not.1 q with q | q
        · exact Or.inl fun e => q (U_inj e)
        · exact Or.inr fun e => q (U_inj e)
  unfold cortadolaw06_KeyBack.f
  rw [ho, number_f]
  simp only [bs]
  rw [ho2]
  simp only [bs]
  rw [if_pos trivial, if_pos trivial]
  by_cases q : twistB m = d
  · rw [if_pos q] at hj ⊢
    rw [if_pos rfl, rnumber_f (k + 1) (by omega), hm, q]
    simp only [bs]
    rw [if_neg (by simp)]
    exact hj _ _ rfl
  · rw [if_neg q] at hj ⊢
    rw [if_neg (by simp), show ((0 : Int) != 0) = false from rfl]
    exact hj _ _ rfl

end Go.Proofs.YtmenjjofmafacaaDoor.Pure
