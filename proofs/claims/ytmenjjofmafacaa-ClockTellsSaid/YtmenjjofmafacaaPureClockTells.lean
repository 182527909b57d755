/- Any clock that goes on (at most 40 goings), when anything ends, whether it is over, its bucket, and whether that is due, are the document's; a nil clock tells nothing; no further condition. -/
import Derived.Test.YtmenjjofmafacaaHClockTellsx2
import Derived.Test.YtmenjjofmafacaaWd
namespace Go.Proofs.Ytmenjjofmafacaa.Pure
open Go.RowKit Go.Proofs.Ytmenjjofmafacaa.HClockTells Go.Proofs.YtmenjjofmafacaaW.PrintWords Go.Proofs.YtmenjjofmafacaaW.PrintLast Go.Proofs.YtmenjjofmafacaaW.PrintMore Go.Proofs.Ytmenjjofmafacaa.Wd
namespace ClockTellsP
def Cl (c : Int) : Prop := 0 ≤ c ∧ c ≤ 1099511627776
def pass (c n : Int) : Int := if n ≤ 0 then c else if n > 1099511627776 - c then 1099511627776 else c + n
theorem cl_pass {c : Int} (h : Cl c) (n : Int) : Cl (pass c n) := by unfold pass Cl at *; repeat' split
                                                                     all_goals omega
theorem rpass_f {c : Int} (h : Cl c) (n : Int) : cortadoref19_Pass.f c n = some (pass c n) := by
  unfold cortadoref19_Pass.f pass
  unfold Cl at h
  rw [wrap64_id (x := 1099511627776 - c) (by omega) (by omega)]
  by_cases h1 : n ≤ 0
  · rw [if_pos h1, if_pos h1]
  · rw [if_neg h1, if_neg h1]
    by_cases h2 : n > 1099511627776 - c
    · rw [if_pos h2, if_pos h2]
    · rw [if_neg h2, if_neg h2, wrap64_id (by omega) (by omega)]
theorem behind_f {c : Int} (h : Cl c) (n : Int) : clock_behind.f c n = some (pass c n) := by
  unfold clock_behind.f pass
  unfold Cl at h
  rw [wrap64_id (x := 1099511627776 - c) (by omega) (by omega)]
  by_cases h1 : n ≥ 1099511627776 - c
  · rw [if_pos h1]
    exact congrArg some (by repeat' split
                            all_goals omega)
  · rw [if_neg h1]
    have e : mx n 0 = if n ≤ 0 then 0 else n := by unfold mx; repeat' split
                                                   all_goals omega
    rw [e, wrap64_id (by split <;> omega) (by split <;> omega)]
    exact congrArg some (by repeat' split
                            all_goals omega)
theorem cut_cl (a : Int) : Cl (mx 0 (mn a 1099511627776)) := by
  unfold Cl mx mn
  repeat' split
  all_goals omega
theorem cut_f (a : Int) : clock_cut.f a = some (mx 0 (mn a 1099511627776)) := rfl
theorem end_f (a n : Int) : clock_End.f a n = cortadoref19_End.f a n := by
  unfold clock_End.f cortadoref19_End.f cortadoref19_cut.f
  rw [cut_f]
  simp only [bs]
  rw [behind_f (cut_cl a), rpass_f (cut_cl a)]
  simp only [bs]
  by_cases h1 : n = 0
  · rw [if_pos h1, if_neg (by omega), if_pos h1]
  · rw [if_neg h1]
    by_cases h2 : n < 0
    · rw [if_pos h2, if_pos h2]
    · rw [if_neg h2, if_neg h2, if_neg h1]
theorem end_some (a n : Int) : ∃ r, cortadoref19_End.f a n = some r := by
  unfold cortadoref19_End.f cortadoref19_cut.f
  simp only [bs]
  rw [rpass_f (cut_cl a)]
  simp only [bs]
  split
  · exact ⟨_, rfl⟩
  · split <;> exact ⟨_, rfl⟩
theorem over_f (e n : Int) : clock_Over.f e n = some (decide (e > 0 ∧ e ≤ n)) := by
  unfold clock_Over.f
  by_cases h : e > 0
  · rw [if_pos h]; simp [h]
  · rw [if_neg h]; simp; omega
theorem rover_f (e n : Int) : cortadoref19_Over.f e n = some (decide (e > 0 ∧ e ≤ n)) := by
  unfold cortadoref19_Over.f
  by_cases h : e > 0
  · rw [if_pos h]; simp [h]
  · rw [if_neg h]; simp; omega
theorem bucket_f (e : Int) : clock_Bucket.f e = cortadoref19_Bucket.f e := rfl
theorem bucket_some (e : Int) : ∃ r, cortadoref19_Bucket.f e = some r := by
  unfold cortadoref19_Bucket.f; split <;> exact ⟨_, rfl⟩
def due (b n : Int) : Bool := decide (b > 274877906944 ∨ (0 ≤ b ∧ (if b = 274877906944 then n ≥ 1099511627776 else n ≥ b * 4 + 3)))
theorem due_f (b n : Int) : clock_Due.f b n = some (due b n) := by
  unfold clock_Due.f due
  by_cases h0 : b < 0
  · rw [if_pos h0]; simp; omega
  rw [if_neg h0]
  by_cases h1 : b > 274877906944
  · rw [if_pos h1]; simp [h1]
  rw [if_neg h1]
  by_cases h : b = 274877906944
  · rw [if_pos h]; simp [h]
  · rw [if_neg h]
    have e1 : wrap64 (b * 4) = b * 4 := wrap64_id (by omega) (by omega)
    have e2 : wrap64 (b * 4 + 4) = b * 4 + 4 := wrap64_id (by omega) (by omega)
    rw [e1, e2, wrap64_id (by omega) (by omega)]
    simp only [if_neg h]
    exact congrArg some (by rw [decide_eq_decide]; omega)
def Late (b n j : Int) : Bool := decide ((j ≤ 0 ∧ 4 * b > 0 ∧ 4 * b ≤ 1099511627776 ∧ n < 4 * b) ∨ (j ≤ 1 ∧ 4 * b + 1 > 0 ∧ 4 * b + 1 ≤ 1099511627776 ∧ n < 4 * b + 1) ∨ (j ≤ 2 ∧ 4 * b + 2 > 0 ∧ 4 * b + 2 ≤ 1099511627776 ∧ n < 4 * b + 2) ∨ (j ≤ 3 ∧ 4 * b + 3 > 0 ∧ 4 * b + 3 ≤ 1099511627776 ∧ n < 4 * b + 3))
theorem rdue_l (b n : Int) (h0 : 0 ≤ b) (h1 : b ≤ 274877906944) (d : Nat) : ∀ (k : Nat) (j : Int), 0 ≤ j → j ≤ 4 → 4 - j = d → d < k →
    cortadoref19_Due.l0 k b n j = some (!Late b n j) := by
  induction d with
  | zero =>
    intro k j g0 g1 hd hk
    obtain ⟨k, rfl⟩ : ∃ m, k = m + 1 := ⟨k - 1, by omega⟩
    simp only [cortadoref19_Due.l0]
    rw [if_neg (by omega)]
    have : Late b n j = false := decide_eq_false (by omega)
    rw [this]; rfl
  | succ d ih =>
    intro k j g0 g1 hd hk
    obtain ⟨k, rfl⟩ : ∃ m, k = m + 1 := ⟨k - 1, by omega⟩
    simp only [cortadoref19_Due.l0]
    have e1 : wrap64 (4 * b) = 4 * b := wrap64_id (by omega) (by omega)
    have e2 : wrap64 (4 * b + j) = 4 * b + j := wrap64_id (by omega) (by omega)
    have e3 : wrap64 (j + 1) = j + 1 := wrap64_id (by omega) (by omega)
    rw [if_pos (by omega), e1, e2, e3, rover_f, ih k (j + 1) (by omega) (by omega) (by omega) (by omega)]
    simp only [bs]
    have hj : j = 0 ∨ j = 1 ∨ j = 2 ∨ j = 3 := by omega
    by_cases p1 : 4 * b + j > 0
    · rw [if_pos p1]
      by_cases p2 : 4 * b + j ≤ 1099511627776
      · rw [if_pos p2]
        by_cases p3 : 4 * b + j ≤ n
        · rw [if_pos (decide_eq_true ⟨p1, p3⟩)]
          have : Late b n (j + 1) = Late b n j := by unfold Late; rw [decide_eq_decide]; omega
          rw [this]
        · rw [if_neg (by simp [p3])]
          have : Late b n j = true := decide_eq_true (by omega)
          rw [this]; rfl
      · rw [if_neg p2]
        have : Late b n (j + 1) = Late b n j := by unfold Late; rw [decide_eq_decide]; omega
        rw [this]
    · rw [if_neg p1]
      have : Late b n (j + 1) = Late b n j := by unfold Late; rw [decide_eq_decide]; omega
      rw [this]
theorem rdue_f (k : Nat) (b n : Int) (hk : 5 < k) : cortadoref19_Due.f k b n = some (due b n) := by
  unfold cortadoref19_Due.f due
  by_cases h0 : b < 0
  · rw [if_pos h0]; simp; omega
  rw [if_neg h0]
  by_cases h1 : b > 274877906944
  · rw [if_pos h1]; simp [h1]
  rw [if_neg h1, rdue_l b n (by omega) (by omega) 4 k 0 (by omega) (by omega) (by omega) (by omega)]
  refine congrArg some ?_
  by_cases h2 : b = 274877906944
  · subst h2
    unfold Late
    simp only [if_true]
    rw [← decide_not, decide_eq_decide]
    omega
  · unfold Late
    simp only [if_neg h2]
    rw [← decide_not, decide_eq_decide]
    omega
theorem awake_f : cortadolaw19_awake.f = some true := by decide +kernel
theorem loop_l (l : List Int) (at_ ttl x y : Int) (hl : l.length ≤ 40) (d : Nat) : ∀ (k : Nat) (c i : Int), Cl c → 0 ≤ i → i ≤ l.length → (l.length : Int) - i = d → d + 10 < k →
    cortadolaw19_ClockTells.l0 k at_ l ttl c i x y c = some true := by
  induction d with
  | zero =>
    intro k c i hc h0 h1 hd hk
    obtain ⟨k, rfl⟩ : ∃ m, k = m + 1 := ⟨k - 1, by omega⟩
    simp only [cortadolaw19_ClockTells.l0]
    obtain ⟨r, hr⟩ := end_some at_ ttl
    obtain ⟨b, hb⟩ := bucket_some x
    rw [if_neg (by omega), rpass_f hc, end_f, hr, bucket_f, hb, over_f, rover_f, due_f, rdue_f k _ _ (by omega), awake_f]
    unfold clock_Clock_Tick.f clock_Clock_Pass.f clock_Clock_Now_nil.f clock_Clock_Tick_nil.f clock_Clock_Pass_nil.f
    rw [behind_f hc]
    simp [wrap64_id (x := 0) (by omega) (by omega)]
  | succ d ih =>
    intro k c i hc h0 h1 hd hk
    obtain ⟨k, rfl⟩ : ∃ m, k = m + 1 := ⟨k - 1, by omega⟩
    simp only [cortadolaw19_ClockTells.l0]
    rw [if_pos (by omega), if_pos h0, rpass_f hc]
    unfold clock_Clock_Pass.f clock_Clock_Now.f
    rw [behind_f hc, wrap64_id (x := i + 1) (by omega) (by omega)]
    simp only [bs]
    rw [if_pos trivial, if_pos trivial]
    exact ih k _ (i + 1) (cl_pass hc _) (by omega) (by omega) (by omega) (by omega)
end ClockTellsP
open ClockTellsP in
theorem ClockTells (at_ : Int) (l : List Int) (ttl x y : Int) (_ : (Lit.int .i64 at_).wf = true) (_ : l.length ≤ maxLen) (_ : ∀ x ∈ l, (Lit.int .i64 x).wf = true) (_ : (Lit.int .i64 ttl).wf = true) (_ : (Lit.int .i64 x).wf = true) (_ : (Lit.int .i64 y).wf = true) :
    ∃ k, cortadolaw19_ClockTells.f k at_ l ttl x y = some true := by
  obtain ⟨k, hk⟩ : ∃ k : Nat, k = 100 := ⟨100, rfl⟩
  refine ⟨k, ?_⟩
  unfold cortadolaw19_ClockTells.f
  by_cases h : (l.length : Int) > 40
  · rw [if_pos h, awake_f]; rfl
  · rw [if_neg h]
    unfold clock_New.f cortadoref19_New.f cortadoref19_cut.f
    rw [cut_f]
    simp only [bs]
    exact loop_l l at_ ttl x y (by omega) l.length k _ 0 (cut_cl _) (by omega) (by omega) (by omega) (by omega)

end Go.Proofs.Ytmenjjofmafacaa.Pure
