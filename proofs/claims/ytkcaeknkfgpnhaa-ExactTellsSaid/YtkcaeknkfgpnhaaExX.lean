/- ExactTells: the document's estimate. -/
import Derived.Test.YtkcaeknkfgpnhaaExW
namespace Go.Proofs.Ytkcaeknkfgpnhaa.Eng
open Go Go.RowKit Go.Proofs
set_option linter.unusedVariables false
set_option linter.unusedSimpArgs false
set_option maxRecDepth 1000000
def knE (s : Nat × Bool × Int) : Int := s.2.2 + if s.2.1 = true then 1 else 0
theorem kn_len (lim x : Int) (l : List Int) : (kn lim x l).1 = l.length := by
  suffices h : ∀ s, (l.foldl (kst lim x) s).1 = s.1 + l.length by unfold kn; rw [h]; simp
  induction l with
  | nil => intro s; rfl
  | cons y l ih => intro s; rw [List.foldl_cons, ih, kst_one, List.length_cons]; omega
theorem kn_bd (lim x : Int) (l : List Int) : 0 ≤ (kn lim x l).2.2 ∧ (kn lim x l).2.2 ≤ 15 := by
  suffices h : ∀ s : Nat × Bool × Int, 0 ≤ s.2.2 ∧ s.2.2 ≤ 15 → 0 ≤ (l.foldl (kst lim x) s).2.2 ∧ (l.foldl (kst lim x) s).2.2 ≤ 15 by exact h _ ⟨by decide, by decide⟩
  induction l with
  | nil => intro s h; exact h
  | cons y l ih => intro s h; exact ih _ (kst_bd h)
section
variable {e w : World} {F : List HP} {q : Option Addr} {L : List Int} {c : Nat} {n x : Int}
theorem rxEst (hr : ∀ w, Own e w F → RdC w q (cs .u64 L)) (hL : L.length ≤ 1000) (h : Own e w F) : Rets Try.prog 61 #[.int .i64 n, .slice q L.length c, .int .u64 x] w fun v w' => v = .int .i64 (knE (kn (maxI 1 (minI n 4096)) x L)) ∧ Own e w' F := by
  have hlb : 1 ≤ maxI 1 (minI n 4096) := by unfold maxI minI; split <;> split <;> omega
  refine cortadoref14_Estimate_go _ _ _ _ _ ?_
  unfold cortadoref14_Estimate_m
  generalize maxI 1 (minI n 4096) = lim at hlb ⊢
  have hfin := kn_bd lim x L
  refine ⟨fun vs w => vs = [.bool (kn lim x L).2.1, .int .i64 (kn lim x L).2.2] ∧ Own e w F, ?_, ?_⟩
  · refine ⟨fun k vs w => ∃ i : Nat, vs = [.bool (kn lim x (L.take i)).2.1, .int .i64 (kn lim x (L.take i)).2.2, .int .i64 (i : Int)] ∧ k + i = L.length ∧ Own e w F, ⟨L.length, 0, rfl, rfl, h⟩, ?_⟩
    clear h
    rintro k w b1 n1 n2
    intros
    rename_i hI
    obtain ⟨i, hvs, hk, h⟩ := hI
    have hbd := kn_bd lim x (L.take i)
    have hlen := kn_len lim x (L.take i)
    obtain ⟨rfl, rfl, rfl⟩ : b1 = (kn lim x (L.take i)).2.1 ∧ n1 = (kn lim x (L.take i)).2.2 ∧ n2 = (i : Int) := by simpa using hvs
    refine ⟨fun hc => ?_, fun hc => ?_⟩
    · have hc := dec_t hc
      have hi : i < L.length := by omega
      have hti : (L.take i).length = i := by simp; omega
      rw [hti] at hlen
      have hnx : kn lim x (L.take (i + 1)) = kst lim x (kn lim x (L.take i)) L[i] := by rw [List.take_succ_eq_append_getElem hi, kn_snoc]
      generalize kn lim x (L.take i) = s at hbd hlen hnx ⊢
      obtain ⟨j, b, m⟩ := s
      have hlen : j = i := hlen
      subst hlen
      have hbd : 0 ≤ m ∧ m ≤ 15 := hbd
      generalize hy : L[j] = y at hnx
      refine ⟨fun vs w => vs = [.bool (b && decide (y = x))] ∧ Own e w F, ⟨by omega, by omega, (hr w h).int hi fun a ha => ⟨y, by rw [Int.toNat_natCast, ← hy]; exact ha, fun hq => ⟨?_, h⟩, fun hq => ⟨?_, h⟩⟩⟩, ?_⟩
      · rw [decide_eq_true (beq_t hq), Bool.and_true]
      · rw [decide_eq_false (beq_f hq), Bool.and_false]
      clear h
      rintro w
      intros
      rename_i b2 hI
      obtain ⟨hvs, h⟩ := hI
      obtain rfl : b2 = (b && decide (y = x)) := by simpa using hvs
      refine ⟨fun vs w => vs = [.int .i64 (if y = x ∧ b = true then minI 15 (m + 1) else m)] ∧ Own e w F, ⟨fun hq => ⟨?_, h⟩, fun hq => ⟨?_, h⟩⟩, ?_⟩
      · have hq : b = true ∧ y = x := by simpa using hq
        rw [if_pos ⟨hq.2, hq.1⟩, wI64 (by omega) (by omega)]
      · have hq : ¬ (y = x ∧ b = true) := fun hh => by rw [hh.2, decide_eq_true hh.1] at hq; cases hq
        rw [if_neg hq]
      clear h
      rintro w n4
      intros
      rename_i hI
      obtain ⟨hvs, h⟩ := hI
      obtain ⟨N, hN⟩ : ∃ N, N = (if y = x ∧ b = true then minI 15 (m + 1) else m) := ⟨_, rfl⟩
      have hNb : 0 ≤ N ∧ N ≤ 15 := by rw [hN]; unfold minI; split <;> (try split) <;> omega
      rw [← hN] at hvs
      obtain rfl : n4 = N := by simpa using hvs
      refine ⟨by omega, by omega, (hr w h).int hi fun a ha => ⟨y, by rw [Int.toNat_natCast, ← hy]; exact ha, fun vs w => vs = [.bool (b || decide (y = x))] ∧ Own e w F, ⟨fun hq => ⟨?_, h⟩, fun hq => ⟨?_, h⟩⟩, ?_⟩⟩
      · rw [decide_eq_true (beq_t hq), Bool.or_true]
      · rw [decide_eq_false (beq_f hq), Bool.or_false]
      clear h
      rintro w b3
      intros
      rename_i hI
      obtain ⟨hvs, h⟩ := hI
      obtain rfl : b3 = (b || decide (y = x)) := by simpa using hvs
      have ei : IntKind.wrap .i64 ((j : Int) + 1) = (j : Int) + 1 := wI64 (by omega) (by omega)
      rw [ei]
      refine ⟨by omega, fun vs w => vs = [.bool (kst lim x (j, b, m) y).2.1, .int .i64 (kst lim x (j, b, m) y).2.2] ∧ Own e w F, ⟨fun hq => ⟨by omega, ?_, h⟩, fun hq => ⟨?_, h⟩⟩, ?_⟩
      · unfold kst; dsimp only
        rw [if_pos (beq_t hq), ← hN, Int.tdiv_eq_ediv_of_nonneg (by omega), wI64 (by omega) (by omega)]
      · unfold kst; dsimp only
        rw [if_neg (beq_f hq), ← hN]
      clear h
      rintro w b4 n6
      intros
      rename_i hI
      obtain ⟨hvs, h⟩ := hI
      obtain ⟨rfl, rfl⟩ : b4 = (kst lim x (j, b, m) y).2.1 ∧ n6 = (kst lim x (j, b, m) y).2.2 := by simpa using hvs
      exact ⟨k - 1, by omega, j + 1, by rw [hnx]; rfl, by omega, h⟩
    · have hc := dec_f hc
      obtain rfl : i = L.length := by omega
      rw [List.take_length]
      exact ⟨rfl, h⟩
  · clear h
    rintro w b5 n7
    intros
    rename_i hI
    obtain ⟨hvs, h⟩ := hI
    obtain ⟨rfl, rfl⟩ : b5 = (kn lim x L).2.1 ∧ n7 = (kn lim x L).2.2 := by simpa using hvs
    unfold knE
    refine ⟨fun hb => ⟨?_, h⟩, fun hb => ⟨?_, h⟩⟩
    · rw [if_pos hb, wI64 (by omega) (by omega)]
    · rw [if_neg (by rw [hb]; simp), Int.add_zero]
end
end Go.Proofs.Ytkcaeknkfgpnhaa.Eng
