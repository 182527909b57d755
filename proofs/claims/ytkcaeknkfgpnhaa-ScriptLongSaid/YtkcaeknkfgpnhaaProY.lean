/- ProgReads. -/
import Derived.Test.YtkcaeknkfgpnhaaProW
namespace Go.Proofs.Ytkcaeknkfgpnhaa.Eng
open Go Go.RowKit Go.Proofs
set_option linter.unusedVariables false
set_option linter.unusedSimpArgs false
set_option maxRecDepth 1000000
theorem rc13 {bs : List Int} {a : Nat} {k : Int} (hk : tbV bs a = k) (h : k = 1 ∨ k = 3) : rdCall bs a = ([k, (tInt bs (tbA bs a)).1, 0, 0, 0], (tInt bs (tbA bs a)).2) := by
  unfold rdCall; rw [hk]
  rcases h with rfl | rfl <;> rfl
theorem rc2 {bs : List Int} {a a1 a2 a3 a4 : Nat} {v1 v2 v3 v4 : Int} (hk : tbV bs a = 2) (h1 : tInt bs (tbA bs a) = (v1, a1)) (h2 : tInt bs a1 = (v2, a2)) (h3 : tInt bs a2 = (v3, a3)) (h4 : tInt bs a3 = (v4, a4)) : rdCall bs a = ([2, v1, v2, v3, v4], a4) := by
  unfold rdCall; rw [hk]
  show ([1, 2, 3, 4].foldl (cStep bs) ([2, 0, 0, 0, 0], tbA bs a)) = _
  simp only [List.foldl_cons, List.foldl_nil, cStep, h1, h2, h3, h4]
  rfl
theorem rc456 {bs : List Int} {a : Nat} {k : Int} (hk : tbV bs a = k) (h : k = 4 ∨ k = 5 ∨ k = 6) : rdCall bs a = ([k, 0, 0, 0, 0], tbA bs a) := by
  unfold rdCall; rw [hk]
  rcases h with rfl | rfl | rfl <;> rfl
theorem rc7 {bs : List Int} {a : Nat} (hk : tbV bs a = 7) : rdCall bs a = ([7, 0, 0, (tInt bs (tbA bs a)).1, 0], (tInt bs (tbA bs a)).2) := by
  unfold rdCall; rw [hk]; rfl
theorem rc0 {bs : List Int} {a : Nat} (hk : ¬ (1 ≤ tbV bs a ∧ tbV bs a ≤ 7)) : rdCall bs a = ([0, 0, 0, 0, 0], tbA bs a) := by
  unfold rdCall
  by_cases h0 : tbV bs a = 0
  · rw [h0]; rfl
  · rw [if_neg (by unfold knownB; simp; omega)]
section
variable {e w : World} {F : List HP} {g at_ c : Nat} {q : Option Addr} {bs : List Int}
theorem rfCall (h : Own e w (tapeB 99 g q bs.length c at_ :: F)) (hrd : ∀ w a, Own e w (tapeB 99 g q bs.length c a :: F) → RdC w q (cs .u8 bs)) (hat : at_ ≤ bs.length) (hn : bs.length ≤ 1000000) (hb : ∀ x ∈ bs, 0 ≤ x ∧ x < 256) :
    Rets Try.prog 132 #[.pointer (some ⟨g, 0, none⟩)] w fun v w' => v = .agg (opV (rdCall bs at_).1).toArray ∧ Own e w' (tapeB 99 g q bs.length c (rdCall bs at_).2 :: F) := by
  have hrd' : ∀ (g1 : Nat) (vs : List Value) w a, Own e w (tapeB 99 g q bs.length c a :: blk g1 137 vs :: F) → RdC w q (cs .u8 bs) := fun g1 vs w a h => hrd w a (Own.sub (h) (by repeat (first | exact Sub.nil _ | exact Sub.rfl _ | (apply Sub.cons; focus ((repeat (first | with_reducible exact Pick.here | apply Pick.there)); done)) | apply Sub.drop)))
  refine cortadoref17_call_go _ (h.newR fun g1 w h => ?_)
  refine Rets.mono (rByte_spec h.swap (hrd' g1 _) hat hn hb) ?_
  clear h
  rintro _ w ⟨rfl, h⟩
  have hle := tbA_le hat
  obtain ⟨k, hk⟩ : ∃ k, tbV bs at_ = k := ⟨_, rfl⟩
  rw [hk]
  have fin : ∀ (l : List Int) (p : Nat) (a b c' d x : Int) w, rdCall bs at_ = ([a, b, c', d, x], p) → Own e w (blk g1 137 [.int .i64 a, .int .i64 b, .int .i64 c', .int .i64 d, .int .i64 x] :: tapeB 99 g q bs.length c p :: F) →
      ∃ n3 n4 n5 n6 n7, (cellAt w ((⟨g1, 0, none⟩ : Addr).add 0) (.int .i64 n3) ∧ cellAt w ((⟨g1, 0, none⟩ : Addr).add 1) (.int .i64 n4) ∧ cellAt w ((⟨g1, 0, none⟩ : Addr).add 2) (.int .i64 n5) ∧ cellAt w ((⟨g1, 0, none⟩ : Addr).add 3) (.int .i64 n6) ∧ cellAt w ((⟨g1, 0, none⟩ : Addr).add 4) (.int .i64 n7)) ∧ Value.agg #[.int .i64 n3, .int .i64 n4, .int .i64 n5, .int .i64 n6, .int .i64 n7] = .agg (opV (rdCall bs at_).1).toArray ∧ Own e w (tapeB 99 g q bs.length c (rdCall bs at_).2 :: F) := fun l p a b c' d x w he h => by
    rw [he]
    exact ⟨_, _, _, _, _, ⟨h.cellAdd 0 rfl, h.cellAdd 1 rfl, h.cellAdd 2 rfl, h.cellAdd 3 rfl, h.cellAdd 4 rfl⟩, rfl, h.drop⟩
  have int : ∀ (vs : List Value) a w, a ≤ bs.length → Own e w (tapeB 99 g q bs.length c a :: blk g1 137 vs :: F) → Rets Try.prog 77 #[.pointer (some ⟨g, 0, none⟩)] w fun v w' => v = .int .i64 (tInt bs a).1 ∧ Own e w' (tapeB 99 g q bs.length c (tInt bs a).2 :: blk g1 137 vs :: F) := fun vs a w ha h => rInt_spec h (hrd' g1 vs) ha hn hb
  refine ⟨_, rfl, fun h1 => ?_, fun h1 => ⟨fun h3 => ?_, fun h3 => ⟨fun h2 => ?_, fun h2 => ⟨fun h4 => ?_, fun h4 => ⟨fun h5 => ?_, fun h5 => ⟨fun h6 => ?_, fun h6 => ⟨fun h7 => ?_, fun h7 => ?_⟩⟩⟩⟩⟩⟩⟩
  · obtain rfl := beq_t h1
    refine Rets.mono (int _ _ w hle h) ?_
    clear h
    rintro _ w ⟨rfl, h⟩
    refine ⟨_, rfl, Own.stP' (g := g1) h (by repeat (first | with_reducible exact Pick.here | apply Pick.there)) (by simp) (by simp [Value.oneCell']) fun w h => ?_⟩
    simp only [setFrom, List.set_cons_zero, List.set_cons_succ, List.set_nil] at h
    exact fin [] _ _ _ _ _ _ w (rc13 hk (.inl rfl)) h
  · obtain rfl := beq_t h3
    refine Rets.mono (int _ _ w hle h) ?_
    clear h
    rintro _ w ⟨rfl, h⟩
    refine ⟨_, rfl, Own.stP' (g := g1) h (by repeat (first | with_reducible exact Pick.here | apply Pick.there)) (by simp) (by simp [Value.oneCell']) fun w h => ?_⟩
    simp only [setFrom, List.set_cons_zero, List.set_cons_succ, List.set_nil] at h
    exact fin [] _ _ _ _ _ _ w (rc13 hk (.inr rfl)) h
  · obtain rfl := beq_t h2
    have l1 := tInt_le hle
    have l2 := tInt_le l1
    have l3 := tInt_le l2
    refine Rets.mono (int _ _ w hle h) ?_
    clear h
    rintro _ w ⟨rfl, h⟩
    refine ⟨_, rfl, ?_⟩
    refine Rets.mono (int _ _ w l1 h) ?_
    clear h
    rintro _ w ⟨rfl, h⟩
    refine ⟨_, rfl, ?_⟩
    refine Rets.mono (int _ _ w l2 h) ?_
    clear h
    rintro _ w ⟨rfl, h⟩
    refine ⟨_, rfl, ?_⟩
    refine Rets.mono (int _ _ w l3 h) ?_
    clear h
    rintro _ w ⟨rfl, h⟩
    refine ⟨_, rfl, Own.stP' (g := g1) h (by repeat (first | with_reducible exact Pick.here | apply Pick.there)) (by simp) (by simp [Value.oneCell']) fun w h => ?_⟩
    simp only [setFrom, List.set_cons_zero, List.set_cons_succ, List.set_nil] at h
    exact fin [] _ _ _ _ _ _ w (rc2 hk rfl rfl rfl rfl) h
  · obtain rfl := beq_t h4
    refine Own.stP' (g := g1) h (by repeat (first | with_reducible exact Pick.here | apply Pick.there)) (by simp) (by simp [Value.oneCell']) fun w h => ?_
    simp only [setFrom, List.set_cons_zero, List.set_cons_succ, List.set_nil] at h
    exact fin [] _ _ _ _ _ _ w (rc456 hk (by omega)) h
  · obtain rfl := beq_t h5
    refine Own.stP' (g := g1) h (by repeat (first | with_reducible exact Pick.here | apply Pick.there)) (by simp) (by simp [Value.oneCell']) fun w h => ?_
    simp only [setFrom, List.set_cons_zero, List.set_cons_succ, List.set_nil] at h
    exact fin [] _ _ _ _ _ _ w (rc456 hk (by omega)) h
  · obtain rfl := beq_t h6
    refine Own.stP' (g := g1) h (by repeat (first | with_reducible exact Pick.here | apply Pick.there)) (by simp) (by simp [Value.oneCell']) fun w h => ?_
    simp only [setFrom, List.set_cons_zero, List.set_cons_succ, List.set_nil] at h
    exact fin [] _ _ _ _ _ _ w (rc456 hk (by omega)) h
  · obtain rfl := beq_t h7
    refine Rets.mono (int _ _ w hle h) ?_
    clear h
    rintro _ w ⟨rfl, h⟩
    refine ⟨_, rfl, Own.stP' (g := g1) h (by repeat (first | with_reducible exact Pick.here | apply Pick.there)) (by simp) (by simp [Value.oneCell']) fun w h => ?_⟩
    simp only [setFrom, List.set_cons_zero, List.set_cons_succ, List.set_nil] at h
    exact fin [] _ _ _ _ _ _ w (rc7 hk) h
  · have h1 := beq_f h1
    have h2 := beq_f h2
    have h3 := beq_f h3
    have h4 := beq_f h4
    have h5 := beq_f h5
    have h6 := beq_f h6
    have h7 := beq_f h7
    refine Own.stP' (g := g1) h (by repeat (first | with_reducible exact Pick.here | apply Pick.there)) (by simp) (by simp [Value.oneCell']) fun w h => ?_
    simp only [setFrom, List.set_cons_zero, List.set_cons_succ, List.set_nil] at h
    exact fin [] _ _ _ _ _ _ w (rc0 (by omega)) h
theorem rfRead (h : Own e w (tapeB 99 g q bs.length c at_ :: F)) (hrd : ∀ w a, Own e w (tapeB 99 g q bs.length c a :: F) → RdC w q (cs .u8 bs)) (hat : at_ ≤ bs.length) (hn : bs.length ≤ 1000000) (hb : ∀ x ∈ bs, 0 ≤ x ∧ x < 256) :
    Rets Try.prog 79 #[.pointer (some ⟨g, 0, none⟩)] w fun v w' => ∃ q' c', v = .slice q' (rdProg bs at_).1.length c' ∧ Own e w' (opsB q' (rdProg bs at_).1.length c' (rdProg bs at_).1 :: tapeB 99 g q bs.length c (rdProg bs at_).2 :: F) := by
  refine cortadoref17_Read_go _ ?_
  refine Rets.mono (rBelow_spec h hrd hat hn hb) ?_
  clear h
  rintro _ w ⟨rfl, h⟩
  rw [if_neg (by omega)] at h ⊢
  have hv := tbV_bd hb at_
  obtain ⟨n, hnn⟩ : ∃ n, n = (tbV bs at_ % 25).toNat := ⟨_, rfl⟩
  have en : (tbV bs at_).tmod 25 = (n : Int) := by rw [Int.tmod_eq_emod_of_nonneg (by omega)]; omega
  rw [en]
  have hrp : rdProg bs at_ = rdN bs n (tbA bs at_) := by unfold rdProg; rw [hnn]
  have hle := tbA_le hat
  refine ⟨_, rfl, fun m vs w => ∃ (i : Nat) (q' : Option Addr) (c' : Nat), vs = [.slice q' i c', .int .i64 (i : Int)] ∧ m + i = n ∧ Own e w (opsB q' i c' (rdN bs i (tbA bs at_)).1 :: tapeB 99 g q bs.length c (rdN bs i (tbA bs at_)).2 :: F), ⟨n, 0, none, 0, rfl, rfl, h.slNil⟩, ?_⟩
  clear h
  rintro m w q1 k3 k4 n2
  intros
  rename_i hI
  obtain ⟨i, q', c', hvs, hm, h⟩ := hI
  obtain ⟨⟨rfl, rfl, rfl⟩, rfl⟩ : (q1 = q' ∧ k3 = i ∧ k4 = c') ∧ n2 = (i : Int) := by simpa using hvs
  refine ⟨fun hc => ?_, fun hc => ?_⟩
  · have hc := dec_t hc
    refine Rets.mono (rfCall h.swap (fun w a h => hrd w a (Own.sub (h) (by repeat (first | exact Sub.nil _ | exact Sub.rfl _ | (apply Sub.cons; focus ((repeat (first | with_reducible exact Pick.here | apply Pick.there)); done)) | apply Sub.drop)))) (rdN_le hle k3) hn hb) ?_
    clear h
    rintro _ w ⟨rfl, h⟩
    obtain ⟨z0, z1, z2, z3, z4, hz⟩ := five (rdCall_len bs (rdN bs k3 (tbA bs at_)).2)
    refine ⟨z0, z1, z2, z3, z4, by rw [hz]; rfl, h.newR fun g5 w h => ?_⟩
    have h : Own e w (blk g5 137 (encO (to5 (rdCall bs (rdN bs k3 (tbA bs at_)).2).1)) :: opsB q1 k3 k4 (rdN bs k3 (tbA bs at_)).1 :: tapeB 99 g q bs.length c (rdCall bs (rdN bs k3 (tbA bs at_)).2).2 :: F) := by
      rw [hz]
      exact h.sub (Sub.cons .here (Sub.cons (.there .here) (Sub.cons .here (Sub.rfl _))))
    refine putOp h (by omega) fun q2 c2 w h => ⟨_, _, _, rfl, m - 1, by omega, k3 + 1, _, _, ?_, by omega, h⟩
    rw [wI64 (by omega) (by omega)]; rfl
  · have hc := dec_f hc
    obtain rfl : k3 = n := by omega
    have el : (rdProg bs at_).1.length = k3 := by rw [hrp, rdN_len]
    rw [el, hrp]
    exact ⟨_, _, rfl, h⟩
end
end Go.Proofs.Ytkcaeknkfgpnhaa.Eng
