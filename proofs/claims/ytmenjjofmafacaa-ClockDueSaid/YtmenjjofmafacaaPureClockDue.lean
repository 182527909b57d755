/- What is over stays over as long as the clock doesn't go back; of a bucket that is due all is over; what ended Span ticks ago is of a bucket that is due; no further condition. -/
import Derived.Test.YtmenjjofmafacaaHClockDuex1
import Derived.Test.YtmenjjofmafacaaWd
namespace Go.Proofs.Ytmenjjofmafacaa.Pure
open Go.RowKit Go.Proofs.Ytmenjjofmafacaa.HClockDue Go.Proofs.YtmenjjofmafacaaW.PrintWords Go.Proofs.YtmenjjofmafacaaW.PrintLast Go.Proofs.YtmenjjofmafacaaW.PrintMore Go.Proofs.Ytmenjjofmafacaa.Wd
namespace ClockDueP
theorem over_f (e n : Int) (h : 1 ≤ e) : clock_Over.f e n = some (decide (e ≤ n)) := by
  unfold clock_Over.f; rw [if_pos (by omega)]
theorem due_f (b n : Int) (h0 : 0 ≤ b) (h1 : b ≤ 274877906944) : clock_Due.f b n = some (decide (if b = 274877906944 then n ≥ 1099511627776 else n ≥ b * 4 + 3)) := by
  unfold clock_Due.f
  rw [if_neg (by omega), if_neg (by omega)]
  by_cases h : b = 274877906944
  · rw [if_pos h]; simp only [if_pos h]
  · rw [if_neg h]; simp only [if_neg h]
    have e1 : wrap64 (b * 4) = b * 4 := wrap64_id (by omega) (by omega)
    have e2 : wrap64 (b * 4 + 4) = b * 4 + 4 := wrap64_id (by omega) (by omega)
    rw [e1, e2, wrap64_id (by omega) (by omega)]
    congr 2
    rw [show b * 4 + 4 - 1 = b * 4 + 3 by omega]
theorem bucket_f (e : Int) (h0 : 1 ≤ e) (h1 : e ≤ 1099511627776) : clock_Bucket.f e = some (e / 4) := by
  unfold clock_Bucket.f
  rw [if_neg (by omega), Int.tdiv_eq_ediv_of_nonneg (by omega), wrap64_id (by omega) (by omega)]
theorem awake_f : cortadolaw19_awake.f = some true := by decide +kernel
theorem j2_f (k : Nat) (e n : Int) (h0 : 1 ≤ e) (h1 : e ≤ 1099511627776) (n0 : 0 ≤ n) (n1 : n ≤ 1099511627776) : cortadolaw19_ClockDue.j2 (k + 1) e n (e / 4) false = some true := by
  simp only [cortadolaw19_ClockDue.j2]
  rw [if_neg (by simp), wrap64_id (by omega) (by omega), awake_f, due_f _ _ (by omega) (by omega)]
  simp only [bs]
  by_cases h : n - e < 3
  · rw [if_pos h]
    by_cases h2 : e = 1099511627776
    · rw [if_pos h2]
      by_cases h3 : n = 1099511627776
      · rw [if_pos h3, if_pos (by rw [decide_eq_true_eq]; split <;> omega)]
      · rw [if_neg h3]
    · rw [if_neg h2]
  · rw [if_neg h, if_pos (by rw [decide_eq_true_eq]; split <;> omega), if_neg (by omega)]
theorem j1_f (k : Nat) (e n l : Int) (h0 : 1 ≤ e) (h1 : e ≤ 1099511627776) (n0 : 0 ≤ n) (n1 : n ≤ 1099511627776) (hl : n ≤ l) : cortadolaw19_ClockDue.j1 (k + 2) e n l false = some true := by
  simp only [cortadolaw19_ClockDue.j1]
  rw [if_neg (by simp), bucket_f e h0 h1]
  simp only [bs]
  rw [due_f _ _ (by omega) (by omega), due_f _ _ (by omega) (by omega), over_f e n h0]
  simp only [bs]
  by_cases hd : (if e / 4 = 274877906944 then n ≥ 1099511627776 else n ≥ e / 4 * 4 + 3)
  · have hn : e ≤ n := by split at hd <;> omega
    have hd2 : (if e / 4 = 274877906944 then l ≥ 1099511627776 else l ≥ e / 4 * 4 + 3) := by split at hd <;> rename_i q <;> simp only [q, if_true, if_false] <;> omega
    rw [if_pos (decide_eq_true hd), if_pos (decide_eq_true hn), decide_eq_true hd2]
    exact j2_f k e n h0 h1 n0 n1
  · rw [if_neg (by rw [decide_eq_true_eq]; exact hd)]
    exact j2_f k e n h0 h1 n0 n1
end ClockDueP
open ClockDueP in
theorem ClockDue : cortadolaw19_ClockDue.Pure := by
  intro e n l _ _ _
  refine ⟨4, ?_⟩
  have h0 : ∀ k, cortadolaw19_ClockDue.j0 (k + 1) e n l true = some true := fun k => by
    simp only [cortadolaw19_ClockDue.j0]
    rw [if_pos trivial, awake_f]; rfl
  unfold cortadolaw19_ClockDue.f
  by_cases h1 : e < 1
  · rw [if_pos h1]; exact h0 3
  rw [if_neg h1]
  by_cases h2 : e > 1099511627776
  · rw [if_pos h2]; exact h0 3
  rw [if_neg h2]
  by_cases h3 : n < 0
  · rw [if_pos h3]; exact h0 3
  rw [if_neg h3]
  by_cases h4 : n > 1099511627776
  · rw [if_pos h4]; exact h0 3
  rw [if_neg h4]
  by_cases h5 : l < n
  · rw [decide_eq_true h5]; exact h0 3
  rw [decide_eq_false h5]
  simp only [cortadolaw19_ClockDue.j0]
  rw [if_neg (by simp), over_f e n (by omega), over_f e l (by omega)]
  simp only [bs]
  by_cases h6 : e ≤ n
  · rw [if_pos (decide_eq_true h6), decide_eq_true (show e ≤ l by omega)]
    exact j1_f 1 e n l (by omega) (by omega) (by omega) (by omega) (by omega)
  · rw [if_neg (by simpa using h6)]
    exact j1_f 1 e n l (by omega) (by omega) (by omega) (by omega) (by omega)

end Go.Proofs.Ytmenjjofmafacaa.Pure
