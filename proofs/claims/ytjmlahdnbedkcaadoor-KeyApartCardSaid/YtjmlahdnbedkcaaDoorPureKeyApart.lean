/- Unlike numbers have unlike pairs, however much of the hashes is cut off; and pairs stand in an order; no condition. -/
import Derived.Test.YtjmlahdnbedkcaaDoorHKeyApartx3
import Derived.Test.YtjmlahdnbedkcaaDoorWd
namespace Go.Proofs.YtjmlahdnbedkcaaDoor.Pure
open Go.RowKit Go.Proofs.YtjmlahdnbedkcaaDoor.HKeyApart Go.Proofs.YtjmlahdnbedkcaaDoorW.PrintWords Go.Proofs.YtjmlahdnbedkcaaDoorW.PrintLast Go.Proofs.YtjmlahdnbedkcaaDoorW.PrintMore Go.Proofs.YtjmlahdnbedkcaaDoor.Wd
namespace MixL
def fold (x : BitVec 64) (k : Nat) : BitVec 64 := x ^^^ (x >>> k)
theorem fold_comm (x : BitVec 64) (i j : Nat) : fold (fold x i) j = fold (fold x j) i := by
  unfold fold
  simp only [BitVec.ushiftRight_xor_distrib, ← BitVec.shiftRight_add]
  rw [Nat.add_comm j i]
  generalize x >>> i = a; generalize x >>> j = b; generalize x >>> (i+j) = c
  rw [BitVec.xor_assoc, BitVec.xor_assoc, ← BitVec.xor_assoc a, ← BitVec.xor_assoc b, BitVec.xor_comm a b]
theorem fold_twice (x : BitVec 64) (j : Nat) : fold (fold x j) j = fold x (j*2) := by
  unfold fold
  simp only [BitVec.ushiftRight_xor_distrib, ← BitVec.shiftRight_add]
  rw [show j + j = j * 2 by omega]
  generalize x >>> j = a; generalize x >>> (j*2) = c
  rw [BitVec.xor_assoc, ← BitVec.xor_assoc a, BitVec.xor_self, BitVec.zero_xor]
theorem fold_big (x : BitVec 64) (j : Nat) (h : 64 ≤ j) : fold x j = x := by
  unfold fold
  rw [BitVec.ushiftRight_eq_zero h, BitVec.xor_zero]

theorem fold_inj' {a b : BitVec 64} (d : Nat) : ∀ j : Nat, 1 ≤ j → 64 - j ≤ d → fold a j = fold b j → a = b := by
  induction d with
  | zero =>
    intro j h1 hd h
    rwa [fold_big a j (by omega), fold_big b j (by omega)] at h
  | succ d ih =>
    intro j h1 hd h
    by_cases h2 : 64 ≤ j
    · rwa [fold_big a j h2, fold_big b j h2] at h
    · refine ih (j * 2) (by omega) (by omega) ?_
      rw [← fold_twice, ← fold_twice, h]
def step (a x : BitVec 64) : BitVec 64 := x * (2 - a * x)
def inv (a : BitVec 64) : BitVec 64 := step a (step a (step a (step a (step a a))))
theorem step_sq (a x : BitVec 64) : 1 - a * step a x = (1 - a * x) * (1 - a * x) := by
  unfold step
  grind
theorem inv_err (a : BitVec 64) (c : BitVec 64) (h : 1 - a * a = 8#64 * c) : 1 - a * inv a = 0 := by
  unfold inv
  rw [step_sq, step_sq, step_sq, step_sq, step_sq, h]
  rw [show 8#64 * c * (8#64 * c) = 64#64 * (c * c) by grind]
  generalize c * c = c1
  rw [show 64#64 * c1 * (64#64 * c1) = 4096#64 * (c1 * c1) by grind]
  generalize c1 * c1 = c2
  rw [show 4096#64 * c2 * (4096#64 * c2) = 16777216#64 * (c2 * c2) by grind]
  generalize c2 * c2 = c3
  rw [show 16777216#64 * c3 * (16777216#64 * c3) = 281474976710656#64 * (c3 * c3) by grind]
  generalize c3 * c3 = c4
  rw [show 281474976710656#64 * c4 * (281474976710656#64 * c4) = (281474976710656#64 * 281474976710656#64) * (c4 * c4) by grind]
  rw [show 281474976710656#64 * 281474976710656#64 = 0#64 from rfl]
  exact BitVec.zero_mul
theorem odd_sq (a : BitVec 64) (h : a.toNat % 2 = 1) : ∃ c, 1 - a * a = 8#64 * c := by
  obtain ⟨b, rfl⟩ : ∃ b : BitVec 64, a = 2#64 * b + 1#64 := ⟨BitVec.ofNat 64 (a.toNat / 2), by
    apply BitVec.eq_of_toNat_eq
    have := a.isLt
    simp only [BitVec.toNat_add, BitVec.toNat_mul, BitVec.toNat_ofNat]
    omega⟩
  clear h
  have hb : ∃ d : BitVec 64, b = 2#64 * d ∨ b = 2#64 * d + 1#64 := ⟨BitVec.ofNat 64 (b.toNat / 2), by
    have := b.isLt
    rcases Nat.mod_two_eq_zero_or_one b.toNat with h | h
    · left
      apply BitVec.eq_of_toNat_eq
      simp only [BitVec.toNat_mul, BitVec.toNat_ofNat]
      omega
    · right
      apply BitVec.eq_of_toNat_eq
      simp only [BitVec.toNat_add, BitVec.toNat_mul, BitVec.toNat_ofNat]
      omega⟩
  obtain ⟨d, rfl | rfl⟩ := hb
  · exact ⟨-(d * (2#64 * d + 1#64)), by grind⟩
  · exact ⟨-((2#64 * d + 1#64) * (d + 1#64)), by grind⟩
theorem inv_right (a : BitVec 64) (h : a.toNat % 2 = 1) : a * inv a = 1 := by
  obtain ⟨c, hc⟩ := odd_sq a h
  have := inv_err a c hc
  grind
theorem inv_odd (a : BitVec 64) (h : a.toNat % 2 = 1) : (inv a).toNat % 2 = 1 := by
  have e := congrArg BitVec.toNat (inv_right a h)
  rw [BitVec.toNat_mul] at e
  rcases Nat.mod_two_eq_zero_or_one (inv a).toNat with h0 | h0
  · exfalso
    obtain ⟨d, hd⟩ : ∃ d, (inv a).toNat = 2 * d := ⟨(inv a).toNat / 2, by omega⟩
    rw [hd, ← Nat.mul_assoc, Nat.mul_comm a.toNat 2, Nat.mul_assoc] at e
    generalize a.toNat * d = z at e
    have : (1 : BitVec 64).toNat = 1 := rfl
    omega
  · exact h0
theorem inv_inv (a : BitVec 64) (h : a.toNat % 2 = 1) : inv (inv a) = a := by
  have h1 := inv_right a h
  have h2 := inv_right (inv a) (inv_odd a h)
  have : inv (inv a) = (a * inv a) * inv (inv a) := by rw [h1]; exact (BitVec.one_mul _).symm
  rw [this, BitVec.mul_assoc, h2]; exact BitVec.mul_one _
theorem odd_back {m : BitVec 64} (h : m.toNat % 2 = 1) (y : BitVec 64) : y * m * inv m = y := by
  rw [BitVec.mul_assoc, inv_right m h]; exact BitVec.mul_one y
theorem odd_forth {m : BitVec 64} (h : m.toNat % 2 = 1) (y : BitVec 64) : y * inv m * m = y := by
  rw [BitVec.mul_assoc, BitVec.mul_comm (inv m) m, inv_right m h]; exact BitVec.mul_one y
def alongB (x : BitVec 64) (a1 : Nat) (m1 : BitVec 64) (a2 : Nat) (m2 : BitVec 64) (a3 : Nat) (m3 : BitVec 64) : BitVec 64 := fold (fold (fold x a1 * m1) a2 * m2) a3 * m3
def mixB (x : BitVec 64) : BitVec 64 := alongB x 30 13787848793156543929#64 27 10723151780598845931#64 31 1#64
def twistB (x : BitVec 64) : BitVec 64 := alongB x 33 18397679294719823053#64 33 14181476777654086739#64 33 1#64
theorem alongB_inj {x y : BitVec 64} {a1 a2 a3 : Nat} {m1 m2 m3 : BitVec 64} (h1 : 1 ≤ a1) (h2 : 1 ≤ a2) (h3 : 1 ≤ a3) (o1 : m1.toNat % 2 = 1) (o2 : m2.toNat % 2 = 1) (o3 : m3.toNat % 2 = 1) (h : alongB x a1 m1 a2 m2 a3 m3 = alongB y a1 m1 a2 m2 a3 m3) : x = y := by
  unfold alongB at h
  have c : ∀ {m u v : BitVec 64}, m.toNat % 2 = 1 → u * m = v * m → u = v := fun {m u v} o e => by
    have e2 := congrArg (· * inv m) e
    simp only [odd_back o] at e2
    exact e2
  exact fold_inj' 64 a1 h1 (by omega) (c o1 (fold_inj' 64 a2 h2 (by omega) (c o2 (fold_inj' 64 a3 h3 (by omega) (c o3 h)))))
theorem mixB_inj {x y : BitVec 64} (h : mixB x = mixB y) : x = y := alongB_inj (by omega) (by omega) (by omega) rfl rfl rfl h
theorem twistB_inj {x y : BitVec 64} (h : twistB x = twistB y) : x = y := alongB_inj (by omega) (by omega) (by omega) rfl rfl rfl h
end MixL
namespace MixL
def foldI (x : BitVec 64) (k : Int) : BitVec 64 := if k < 1 then x else if 64 ≤ k then x else fold x k.toNat
theorem fold_f (x : BitVec 64) (k : Int) : mix_Fold.f (U x) k = some (U (foldI x k)) := by
  unfold mix_Fold.f foldI
  by_cases h1 : k < 1
  · rw [if_pos h1, if_pos h1]
  · rw [if_neg h1, if_neg h1]
    by_cases h2 : k ≥ 64
    · rw [if_pos h2, if_pos h2]
    · have e : IntKind.u64.wrap k = k := wrap_u64_id (by omega) (by omega)
      rw [if_neg h2, e, if_pos (by omega), if_neg (by omega), U_shr _ (by omega), U_xor]; rfl
theorem foldI_in (x : BitVec 64) (k : Int) (h : 1 ≤ k) : foldI x k = fold x k.toNat := by
  unfold foldI
  rw [if_neg (by omega)]
  by_cases h2 : 64 ≤ k
  · rw [if_pos h2, fold_big x _ (by omega)]
  · rw [if_neg h2]
theorem fold_in (x : BitVec 64) (a : Nat) (h : 1 ≤ a) : mix_Fold.f (U x) (a : Int) = some (U (fold x a)) := by
  rw [fold_f, foldI_in _ _ (by omega), Int.toNat_natCast]
theorem along_f (x : BitVec 64) (a1 : Nat) (m1 : BitVec 64) (a2 : Nat) (m2 : BitVec 64) (a3 : Nat) (m3 : BitVec 64) (h1 : 1 ≤ a1) (h2 : 1 ≤ a2) (h3 : 1 ≤ a3) :
    mix_along.f (U x) a1 (U m1) a2 (U m2) a3 (U m3) = some (U (alongB x a1 m1 a2 m2 a3 m3)) := by
  unfold mix_along.f alongB
  rw [fold_in _ _ h1]
  simp only [bs]
  rw [U_mul, fold_in _ _ h2]
  simp only [bs]
  rw [U_mul, fold_in _ _ h3]
  simp only [bs]
  rw [U_mul]
theorem mix_f (x : BitVec 64) : mix_Mix.f (U x) = some (U (mixB x)) := along_f x 30 13787848793156543929#64 27 10723151780598845931#64 31 1#64 (by omega) (by omega) (by omega)
theorem twist_f (x : BitVec 64) : mix_Twist.f (U x) = some (U (twistB x)) := along_f x 33 18397679294719823053#64 33 14181476777654086739#64 33 1#64 (by omega) (by omega) (by omega)
end MixL
namespace MixL
theorem ref_l (d : Nat) : ∀ (k : Nat) (x : BitVec 64) (m i : Int), 0 ≤ i → i ≤ m → m < 64 → m - i = d → d < k →
    cortadoref03_Fold.l0 k (U x) m (U (x >>> i.toNat)) i = some (U (fold x m.toNat)) := by
  induction d with
  | zero =>
    intro k x m i h0 h1 h2 hd hk
    obtain ⟨k, rfl⟩ : ∃ m, k = m + 1 := ⟨k - 1, by omega⟩
    obtain rfl : i = m := by omega
    simp only [cortadoref03_Fold.l0]
    rw [if_neg (by omega), U_xor]; rfl
  | succ d ih =>
    intro k x m i h0 h1 h2 hd hk
    obtain ⟨k, rfl⟩ : ∃ m, k = m + 1 := ⟨k - 1, by omega⟩
    simp only [cortadoref03_Fold.l0]
    have hw : wrap64 (i + 1) = i + 1 := by unfold wrap64; omega
    rw [if_pos (by omega), U_tdiv2, U_wrap, hw, ← BitVec.shiftRight_add, show i.toNat + 1 = (i + 1).toNat by omega]
    exact ih k x m (i + 1) (by omega) (by omega) (by omega) (by omega) (by omega)
theorem ref_f (k : Nat) (x : BitVec 64) (m : Int) (hk : 100 ≤ k) : cortadoref03_Fold.f k (U x) m = some (U (foldI x m)) := by
  obtain ⟨k, rfl⟩ : ∃ m, k = m + 1 := ⟨k - 1, by omega⟩
  unfold cortadoref03_Fold.f foldI
  by_cases h1 : m < 1
  · rw [if_pos h1, if_pos h1]; simp only [cortadoref03_Fold.j0, if_true]
  · rw [if_neg h1, if_neg h1]
    simp only [cortadoref03_Fold.j0]
    by_cases h2 : m > 63
    · rw [if_pos (by simpa using h2), if_pos (by omega)]
    · rw [if_neg (by simpa using h2), if_neg (by omega)]
      have := ref_l m.toNat k x m 0 (by omega) (by omega) (by omega) (by omega) (by omega)
      simpa using this

theorem rfold_in (k : Nat) (hk : 100 ≤ k) (x : BitVec 64) (a : Nat) (h : 1 ≤ a) : cortadoref03_Fold.f k (U x) (a : Int) = some (U (fold x a)) := by
  rw [ref_f k x _ hk, foldI_in _ _ (by omega), Int.toNat_natCast]
theorem rmix_f (k : Nat) (hk : 100 ≤ k) (x : BitVec 64) : cortadoref03_Mix.f k (U x) = some (U (mixB x)) := by
  unfold cortadoref03_Mix.f mixB alongB
  rw [show (30 : Int) = ((30 : Nat) : Int) from rfl, show (27 : Int) = ((27 : Nat) : Int) from rfl, show (31 : Int) = ((31 : Nat) : Int) from rfl, show (13787848793156543929 : Int) = U 13787848793156543929#64 from rfl, show (10723151780598845931 : Int) = U 10723151780598845931#64 from rfl]
  rw [rfold_in k hk _ _ (by omega)]
  simp only [bs]
  rw [U_mul, rfold_in k hk _ _ (by omega)]
  simp only [bs]
  rw [U_mul, rfold_in k hk _ _ (by omega)]
  simp only [bs, BitVec.mul_one]
theorem rtwist_f (k : Nat) (hk : 100 ≤ k) (x : BitVec 64) : cortadoref03_Twist.f k (U x) = some (U (twistB x)) := by
  unfold cortadoref03_Twist.f twistB alongB
  rw [show (33 : Int) = ((33 : Nat) : Int) from rfl, show (18397679294719823053 : Int) = U 18397679294719823053#64 from rfl, show (14181476777654086739 : Int) = U 14181476777654086739#64 from rfl]
  rw [rfold_in k hk _ _ (by omega)]
  simp only [bs]
  rw [U_mul, rfold_in k hk _ _ (by omega)]
  simp only [bs]
  rw [U_mul, rfold_in k hk _ _ (by omega)]
  simp only [bs, BitVec.mul_one]
end MixL
namespace KeyApartP
open MixL
theorem number_f (x : BitVec 64) : key_Number.f (U x) = some (U (mixB x), U (twistB x)) := by
  unfold key_Number.f
  rw [mix_f, twist_f]
  simp only [bs]
theorem rnumber_f (k : Nat) (hk : 100 ≤ k) (x : BitVec 64) : cortadoref06_Number.f k (U x) = some (U (mixB x), U (twistB x)) := by
  unfold cortadoref06_Number.f
  rw [rmix_f k hk, rtwist_f k hk]
  simp only [bs]
theorem awake_f (k : Nat) (hk : 100 ≤ k) : cortadolaw06_awake.f k = some true := by
  unfold cortadolaw06_awake.f key_Shard.f
  simp only [bs]
  rw [if_pos (by rw [show Int.tmod 515 256 = 3 from rfl, wrap64_id (by omega) (by omega)]), show (1 : Int) = U 1#64 from rfl, number_f, rnumber_f k hk]
  simp only [bs]
  simp
theorem low_f (x m : Int) : ∃ r, word_Low.f x m = some r := by
  unfold word_Low.f
  by_cases h : m ≥ 64
  · exact ⟨x, by rw [if_pos h]⟩
  · rw [if_neg h]
    have : 0 ≤ IntKind.u64.wrap (mx m 0) := by rw [wrap_u64]; omega
    exact ⟨_, by rw [if_pos this]⟩
def less (a b c d : Int) : Bool := decide (a < c ∨ (a = c ∧ b < d))
theorem less_f (a b c d : Int) : key_Less.f a b c d = some (less a b c d) := by
  unfold key_Less.f less
  by_cases h : a < c
  · rw [if_pos h]; simp [h]
  · rw [if_neg h]
    by_cases h2 : a = c
    · rw [if_pos h2]; simp [h2]
    · rw [if_neg h2]; simp; omega
end KeyApartP
open KeyApartP MixL in
theorem KeyApart : cortadolaw06_KeyApart.Pure := by
  intro a b m ha hb _
  obtain ⟨x, rfl⟩ := U_wf ha
  obtain ⟨y, rfl⟩ := U_wf hb
  obtain ⟨k, hk⟩ : ∃ k : Nat, k = 200 := ⟨200, rfl⟩
  refine ⟨k, ?_⟩
  obtain ⟨p, hp⟩ := low_f (U (mixB x)) m
  obtain ⟨q, hq⟩ := low_f (U (mixB y)) m
  have hw := awake_f k (by omega)
  unfold cortadolaw06_KeyApart.f key_Cut.f
  rw [number_f, number_f]
  simp only [bs]
  rw [hp, hq]
  simp only [bs]
  rw [less_f, less_f]
  simp only [bs]
  rw [hw]
  simp only [bs]
  by_cases e : x = y
  · subst e
    rw [hp] at hq
    obtain rfl := Option.some.inj hq
    have l0 : less p (U (twistB x)) p (U (twistB x)) = false := decide_eq_false (by omega)
    rw [l0]
    simp
  · have et : ¬ U (twistB x) = U (twistB y) := fun h => e (twistB_inj (U_inj h))
    have eu : ¬ U x = U y := fun h => e (U_inj h)
    generalize U (twistB x) = s at *
    generalize U (twistB y) = t at *
    have e1 : ((p == q && s == t) == (U x == U y)) = true := by
      rw [beq_eq_false_iff_ne.2 et, beq_eq_false_iff_ne.2 eu]; simp
    have e2 : (U x != U y) = true := by simpa using eu
    rw [if_pos e1, e2]
    by_cases h1 : p < q ∨ (p = q ∧ s < t)
    · have l1 : less p s q t = true := decide_eq_true h1
      have l2 : less q t p s = false := decide_eq_false (by omega)
      rw [l1, l2, if_pos rfl, if_pos (by rfl), if_neg (by simp), if_pos (by omega)]
      split <;> rfl
    · have l1 : less p s q t = false := decide_eq_false h1
      have l2 : less q t p s = true := decide_eq_true (by omega)
      rw [l1, l2, if_neg (by simp), if_pos (by rfl), if_pos (by omega)]

end Go.Proofs.YtjmlahdnbedkcaaDoor.Pure
