/- Calls: which are right. -/
import Derived.Test.YtppmdifhoejhjaaProP
namespace Go.Proofs.Ytppmdifhoejhjaa.Eng
open Go Go.RowKit Go.Proofs
set_option linter.unusedVariables false
set_option linter.unusedSimpArgs false
set_option maxRecDepth 1000000
abbrev Op5 := Int × Int × Int × Int × Int
def opL (x : Op5) : List Int := [x.1, x.2.1, x.2.2.1, x.2.2.2.1, x.2.2.2.2]
def encO (x : Op5) : List Value := [.int .i64 x.1, .int .i64 x.2.1, .int .i64 x.2.2.1, .int .i64 x.2.2.2.1, .int .i64 x.2.2.2.2]
theorem encO_len (x : Op5) : (encO x).length = 5 := rfl
def rightB (x : Op5) : Bool := knownB x.1 && decide (bareL (opL x) = opL x)
def fineB (l : List Op5) : Bool := decide (l.length ≤ 24) && l.all rightB
theorem eq5 (a b c d e a' b' c' d' e' : Int) : (a == a' && (b == b' && (c == c' && (d == d' && e == e')))) = decide ([a, b, c, d, e] = [a', b', c', d', e']) := by
  rw [Bool.eq_iff_iff]; simp
theorem bare0 {k0 k1 k2 k3 k4 : Int} (h : ¬ (1 ≤ k0 ∧ k0 ≤ 7)) : bareL [k0, k1, k2, k3, k4] = [0, 0, 0, 0, 0] := by
  unfold bareL
  show (if knownB k0 = true then outsL k0 [k0, k1, k2, k3, k4] (pls k0).length else _) = _
  by_cases h0 : k0 = 0
  · subst h0; rfl
  · rw [if_neg (by unfold knownB; simp; omega)]
section
variable {e w : World} {F : List HP} {x : Op5}
theorem prRight (h : Own e w F) : Rets Try.prog 44 #[.agg (encO x).toArray] w fun v w' => v = .bool (rightB x) ∧ Own e w' F := by
  obtain ⟨k0, k1, k2, k3, k4⟩ := x
  refine prog_Right_go _ _ _ _ _ (h.newR fun g1 w h => h.drw fun w h => ⟨fun w => Own _ w _, h, _, fun w h => Own.ld h (by repeat (first | with_reducible exact Pick.here | apply Pick.there)) (by rfl), ?_⟩)
  refine Rets.mono (prKnown h) ?_
  rintro _ w ⟨rfl, h⟩
  refine ⟨_, rfl, h, fun hx => ?_, fun hx => ?_⟩
  · refine ⟨_, _, _, _, _, ⟨fun w h => Own.ld h (by repeat (first | with_reducible exact Pick.here | apply Pick.there)) (by rfl), fun w h => Own.ld h (by repeat (first | with_reducible exact Pick.here | apply Pick.there)) (by rfl), fun w h => Own.ld h (by repeat (first | with_reducible exact Pick.here | apply Pick.there)) (by rfl), fun w h => Own.ld h (by repeat (first | with_reducible exact Pick.here | apply Pick.there)) (by rfl), fun w h => Own.ld h (by repeat (first | with_reducible exact Pick.here | apply Pick.there)) (by rfl)⟩, _, _, _, _, _, ⟨fun w h => Own.ld h (by repeat (first | with_reducible exact Pick.here | apply Pick.there)) (by rfl), fun w h => Own.ld h (by repeat (first | with_reducible exact Pick.here | apply Pick.there)) (by rfl), fun w h => Own.ld h (by repeat (first | with_reducible exact Pick.here | apply Pick.there)) (by rfl), fun w h => Own.ld h (by repeat (first | with_reducible exact Pick.here | apply Pick.there)) (by rfl), fun w h => Own.ld h (by repeat (first | with_reducible exact Pick.here | apply Pick.there)) (by rfl)⟩, ?_⟩
    refine Rets.mono (prBare h) ?_
    rintro _ w ⟨rfl, h⟩
    obtain ⟨z0, z1, z2, z3, z4, hz⟩ := five (bareL_len [k0, k1, k2, k3, k4])
    refine ⟨z0, z1, z2, z3, z4, by rw [hz]; rfl, h, ?_, h.drop⟩
    rw [eq5]
    unfold rightB opL
    show _ = Value.bool (knownB k0 && decide (bareL [k0, k1, k2, k3, k4] = [k0, k1, k2, k3, k4]))
    rw [hx, hz, Bool.true_and]
  · refine ⟨?_, h.drop⟩
    unfold rightB
    show _ = Value.bool (knownB k0 && _)
    rw [hx, Bool.false_and]
theorem prFine1 (h : Own e w F) : Rets Try.prog 43 #[.agg (encO x).toArray] w fun v w' => v = .bool (!rightB x) ∧ Own e w' F := by
  obtain ⟨k0, k1, k2, k3, k4⟩ := x
  refine prog_Fine_1_go _ _ _ _ _ (h.newR fun g1 w h => ⟨_, _, _, _, _, ⟨(Own.ld h (by repeat (first | with_reducible exact Pick.here | apply Pick.there)) (by rfl)), (Own.ld h (by repeat (first | with_reducible exact Pick.here | apply Pick.there)) (by rfl)), (Own.ld h (by repeat (first | with_reducible exact Pick.here | apply Pick.there)) (by rfl)), (Own.ld h (by repeat (first | with_reducible exact Pick.here | apply Pick.there)) (by rfl)), (Own.ld h (by repeat (first | with_reducible exact Pick.here | apply Pick.there)) (by rfl))⟩, ?_⟩)
  refine Rets.mono (prRight (x := (k0, k1, k2, k3, k4)) h) ?_
  rintro _ w ⟨rfl, h⟩
  exact ⟨_, rfl, rfl, h.drop⟩
variable {q : Option Addr} {c : Nat} {l : List Op5}
theorem prIndex (h : Own e w F) (hr : ∀ w, Own e w F → RdC w q (l.flatMap encO)) (hl : l.length ≤ 1000) : Rets Try.prog 56 #[.slice q l.length c, .func (.func 43) #[] #[]] w fun v w' => ∃ n : Int, v = .int .i64 n ∧ decide (n ≥ 0) = !l.all rightB ∧ Own e w' F := by
  refine ops_Index_go _ _ _ ?_
  refine ⟨fun m vs w => ∃ i : Nat, vs = [.int .i64 (i : Int)] ∧ m + i = l.length ∧ (l.take i).all rightB = true ∧ Own e w F, ⟨l.length, 0, rfl, rfl, rfl, h⟩, ?_⟩
  rintro m w v1 v2 n1
  intros
  rename_i hI
  obtain ⟨i, hvs, hm, ha, h⟩ := hI
  obtain rfl : n1 = (i : Int) := by simpa using hvs
  refine ⟨fun hx => ?_, fun hx => ?_⟩
  · have hx := dec_t hx
    have hi : i < l.length := by omega
    obtain ⟨ad, rfl, hcell⟩ := RdC.rec encO_len (hr w h) hi (by omega)
    refine ⟨by omega, by omega, _, _, _, _, _, ⟨hcell i hi 0 _ rfl, hcell i hi 1 _ rfl, hcell i hi 2 _ rfl, hcell i hi 3 _ rfl, hcell i hi 4 _ rfl⟩, ?_⟩
    refine Rets.mono (prFine1 (x := l[i]) h) ?_
    rintro _ w ⟨rfl, h⟩
    refine ⟨_, rfl, fun hb => ?_, fun hb => ?_⟩
    · have hb : rightB l[i] = false := by simpa using hb
      refine ⟨_, rfl, ?_, h⟩
      have : l.all rightB = false := by
        rw [List.all_eq_false]
        exact ⟨l[i], List.getElem_mem hi, by rw [hb]; simp⟩
      rw [this, decide_eq_true (by omega)]; rfl
    · have hb : rightB l[i] = true := by simpa using hb
      refine ⟨m - 1, by omega, i + 1, by rw [wI64 (by omega) (by omega)]; rfl, by omega, ?_, h⟩
      rw [List.take_succ_eq_append_getElem hi, List.all_append, ha]
      simp [hb]
  · have hx := dec_f hx
    obtain rfl : i = l.length := by omega
    rw [List.take_length] at ha
    exact ⟨_, rfl, by rw [ha]; rfl, h⟩
theorem prFine (h : Own e w F) (hr : ∀ w, Own e w F → RdC w q (l.flatMap encO)) : Rets Try.prog 21 #[.slice q l.length c] w fun v w' => v = .bool (fineB l) ∧ Own e w' F := by
  refine prog_Fine_go _ _ _ ⟨fun hx => ?_, fun hx => ?_⟩
  · have hx := dec_t hx
    refine ops_Contains_go _ _ _ ?_
    refine Rets.mono (prIndex h hr (by omega)) ?_
    rintro _ w ⟨n, rfl, hn, h⟩
    refine ⟨_, rfl, _, rfl, ?_, h⟩
    rw [hn]
    unfold fineB
    rw [decide_eq_true (by omega), Bool.true_and, Bool.not_not]
  · have hx := dec_f hx
    refine ⟨?_, h⟩
    unfold fineB
    rw [decide_eq_false (by omega), Bool.false_and]
theorem rfBare (h : Own e w F) : Rets Try.prog 57 #[.agg (encO x).toArray] w fun v w' => v = .agg (opV (bareL (opL x))).toArray ∧ Own e w' F := by
  obtain ⟨k0, k1, k2, k3, k4⟩ := x
  refine cortadoref17_Bare_go _ _ _ _ _ (h.newR fun g1 w h => h.newR fun g2 w h => ⟨_, (Own.ld h (by repeat (first | with_reducible exact Pick.here | apply Pick.there)) (by rfl)), fun h1 => ?_, fun h1 => ⟨fun h3 => ?_, fun h3 => ⟨fun h2 => ?_, fun h2 => ⟨fun h4 => ?_, fun h4 => ⟨fun h5 => ?_, fun h5 => ⟨fun h6 => ?_, fun h6 => ⟨fun h7 => ?_, fun h7 => ?_⟩⟩⟩⟩⟩⟩⟩)
  · obtain rfl := beq_t h1
    refine ⟨_, (Own.ld h (by repeat (first | with_reducible exact Pick.here | apply Pick.there)) (by rfl)), _, (Own.ld h (by repeat (first | with_reducible exact Pick.here | apply Pick.there)) (by rfl)), Own.stP' h (by repeat (first | with_reducible exact Pick.here | apply Pick.there)) (by simp) (by simp [Value.oneCell']) fun w h => ?_⟩
    simp only [setFrom, List.set_cons_zero, List.set_cons_succ, List.set_nil] at h
    exact ⟨_, _, _, _, _, ⟨(Own.ld h (by repeat (first | with_reducible exact Pick.here | apply Pick.there)) (by rfl)), (Own.ld h (by repeat (first | with_reducible exact Pick.here | apply Pick.there)) (by rfl)), (Own.ld h (by repeat (first | with_reducible exact Pick.here | apply Pick.there)) (by rfl)), (Own.ld h (by repeat (first | with_reducible exact Pick.here | apply Pick.there)) (by rfl)), (Own.ld h (by repeat (first | with_reducible exact Pick.here | apply Pick.there)) (by rfl))⟩, rfl, (Own.sub (h) (by repeat (first | exact Sub.nil _ | exact Sub.rfl _ | (apply Sub.cons; focus ((repeat (first | with_reducible exact Pick.here | apply Pick.there)); done)) | apply Sub.drop)))⟩
  · obtain rfl := beq_t h3
    refine ⟨_, (Own.ld h (by repeat (first | with_reducible exact Pick.here | apply Pick.there)) (by rfl)), _, (Own.ld h (by repeat (first | with_reducible exact Pick.here | apply Pick.there)) (by rfl)), Own.stP' h (by repeat (first | with_reducible exact Pick.here | apply Pick.there)) (by simp) (by simp [Value.oneCell']) fun w h => ?_⟩
    simp only [setFrom, List.set_cons_zero, List.set_cons_succ, List.set_nil] at h
    exact ⟨_, _, _, _, _, ⟨(Own.ld h (by repeat (first | with_reducible exact Pick.here | apply Pick.there)) (by rfl)), (Own.ld h (by repeat (first | with_reducible exact Pick.here | apply Pick.there)) (by rfl)), (Own.ld h (by repeat (first | with_reducible exact Pick.here | apply Pick.there)) (by rfl)), (Own.ld h (by repeat (first | with_reducible exact Pick.here | apply Pick.there)) (by rfl)), (Own.ld h (by repeat (first | with_reducible exact Pick.here | apply Pick.there)) (by rfl))⟩, rfl, (Own.sub (h) (by repeat (first | exact Sub.nil _ | exact Sub.rfl _ | (apply Sub.cons; focus ((repeat (first | with_reducible exact Pick.here | apply Pick.there)); done)) | apply Sub.drop)))⟩
  · obtain rfl := beq_t h2
    refine ⟨_, _, _, _, _, ⟨(Own.ld h (by repeat (first | with_reducible exact Pick.here | apply Pick.there)) (by rfl)), (Own.ld h (by repeat (first | with_reducible exact Pick.here | apply Pick.there)) (by rfl)), (Own.ld h (by repeat (first | with_reducible exact Pick.here | apply Pick.there)) (by rfl)), (Own.ld h (by repeat (first | with_reducible exact Pick.here | apply Pick.there)) (by rfl)), (Own.ld h (by repeat (first | with_reducible exact Pick.here | apply Pick.there)) (by rfl))⟩, Own.stP' h (by repeat (first | with_reducible exact Pick.here | apply Pick.there)) (by simp) (by simp [Value.oneCell']) fun w h => ?_⟩
    simp only [setFrom, List.set_cons_zero, List.set_cons_succ, List.set_nil] at h
    exact ⟨_, _, _, _, _, ⟨(Own.ld h (by repeat (first | with_reducible exact Pick.here | apply Pick.there)) (by rfl)), (Own.ld h (by repeat (first | with_reducible exact Pick.here | apply Pick.there)) (by rfl)), (Own.ld h (by repeat (first | with_reducible exact Pick.here | apply Pick.there)) (by rfl)), (Own.ld h (by repeat (first | with_reducible exact Pick.here | apply Pick.there)) (by rfl)), (Own.ld h (by repeat (first | with_reducible exact Pick.here | apply Pick.there)) (by rfl))⟩, rfl, (Own.sub (h) (by repeat (first | exact Sub.nil _ | exact Sub.rfl _ | (apply Sub.cons; focus ((repeat (first | with_reducible exact Pick.here | apply Pick.there)); done)) | apply Sub.drop)))⟩
  · obtain rfl := beq_t h4
    refine ⟨_, (Own.ld h (by repeat (first | with_reducible exact Pick.here | apply Pick.there)) (by rfl)), Own.stP' h (by repeat (first | with_reducible exact Pick.here | apply Pick.there)) (by simp) (by simp [Value.oneCell']) fun w h => ?_⟩
    simp only [setFrom, List.set_cons_zero, List.set_cons_succ, List.set_nil] at h
    exact ⟨_, _, _, _, _, ⟨(Own.ld h (by repeat (first | with_reducible exact Pick.here | apply Pick.there)) (by rfl)), (Own.ld h (by repeat (first | with_reducible exact Pick.here | apply Pick.there)) (by rfl)), (Own.ld h (by repeat (first | with_reducible exact Pick.here | apply Pick.there)) (by rfl)), (Own.ld h (by repeat (first | with_reducible exact Pick.here | apply Pick.there)) (by rfl)), (Own.ld h (by repeat (first | with_reducible exact Pick.here | apply Pick.there)) (by rfl))⟩, rfl, (Own.sub (h) (by repeat (first | exact Sub.nil _ | exact Sub.rfl _ | (apply Sub.cons; focus ((repeat (first | with_reducible exact Pick.here | apply Pick.there)); done)) | apply Sub.drop)))⟩
  · obtain rfl := beq_t h5
    refine ⟨_, (Own.ld h (by repeat (first | with_reducible exact Pick.here | apply Pick.there)) (by rfl)), Own.stP' h (by repeat (first | with_reducible exact Pick.here | apply Pick.there)) (by simp) (by simp [Value.oneCell']) fun w h => ?_⟩
    simp only [setFrom, List.set_cons_zero, List.set_cons_succ, List.set_nil] at h
    exact ⟨_, _, _, _, _, ⟨(Own.ld h (by repeat (first | with_reducible exact Pick.here | apply Pick.there)) (by rfl)), (Own.ld h (by repeat (first | with_reducible exact Pick.here | apply Pick.there)) (by rfl)), (Own.ld h (by repeat (first | with_reducible exact Pick.here | apply Pick.there)) (by rfl)), (Own.ld h (by repeat (first | with_reducible exact Pick.here | apply Pick.there)) (by rfl)), (Own.ld h (by repeat (first | with_reducible exact Pick.here | apply Pick.there)) (by rfl))⟩, rfl, (Own.sub (h) (by repeat (first | exact Sub.nil _ | exact Sub.rfl _ | (apply Sub.cons; focus ((repeat (first | with_reducible exact Pick.here | apply Pick.there)); done)) | apply Sub.drop)))⟩
  · obtain rfl := beq_t h6
    refine ⟨_, (Own.ld h (by repeat (first | with_reducible exact Pick.here | apply Pick.there)) (by rfl)), Own.stP' h (by repeat (first | with_reducible exact Pick.here | apply Pick.there)) (by simp) (by simp [Value.oneCell']) fun w h => ?_⟩
    simp only [setFrom, List.set_cons_zero, List.set_cons_succ, List.set_nil] at h
    exact ⟨_, _, _, _, _, ⟨(Own.ld h (by repeat (first | with_reducible exact Pick.here | apply Pick.there)) (by rfl)), (Own.ld h (by repeat (first | with_reducible exact Pick.here | apply Pick.there)) (by rfl)), (Own.ld h (by repeat (first | with_reducible exact Pick.here | apply Pick.there)) (by rfl)), (Own.ld h (by repeat (first | with_reducible exact Pick.here | apply Pick.there)) (by rfl)), (Own.ld h (by repeat (first | with_reducible exact Pick.here | apply Pick.there)) (by rfl))⟩, rfl, (Own.sub (h) (by repeat (first | exact Sub.nil _ | exact Sub.rfl _ | (apply Sub.cons; focus ((repeat (first | with_reducible exact Pick.here | apply Pick.there)); done)) | apply Sub.drop)))⟩
  · obtain rfl := beq_t h7
    refine ⟨_, (Own.ld h (by repeat (first | with_reducible exact Pick.here | apply Pick.there)) (by rfl)), Own.stP' h (by repeat (first | with_reducible exact Pick.here | apply Pick.there)) (by simp) (by simp [Value.oneCell']) fun w h => ?_⟩
    simp only [setFrom, List.set_cons_zero, List.set_cons_succ, List.set_nil] at h
    exact ⟨_, _, _, _, _, ⟨(Own.ld h (by repeat (first | with_reducible exact Pick.here | apply Pick.there)) (by rfl)), (Own.ld h (by repeat (first | with_reducible exact Pick.here | apply Pick.there)) (by rfl)), (Own.ld h (by repeat (first | with_reducible exact Pick.here | apply Pick.there)) (by rfl)), (Own.ld h (by repeat (first | with_reducible exact Pick.here | apply Pick.there)) (by rfl)), (Own.ld h (by repeat (first | with_reducible exact Pick.here | apply Pick.there)) (by rfl))⟩, rfl, (Own.sub (h) (by repeat (first | exact Sub.nil _ | exact Sub.rfl _ | (apply Sub.cons; focus ((repeat (first | with_reducible exact Pick.here | apply Pick.there)); done)) | apply Sub.drop)))⟩
  · have h1 := beq_f h1
    have h2 := beq_f h2
    have h3 := beq_f h3
    have h4 := beq_f h4
    have h5 := beq_f h5
    have h6 := beq_f h6
    have h7 := beq_f h7
    refine Own.stP' h (by repeat (first | with_reducible exact Pick.here | apply Pick.there)) (by simp) (by simp [Value.oneCell']) fun w h => ?_
    simp only [setFrom, List.set_cons_zero, List.set_cons_succ, List.set_nil] at h
    refine ⟨_, _, _, _, _, ⟨(Own.ld h (by repeat (first | with_reducible exact Pick.here | apply Pick.there)) (by rfl)), (Own.ld h (by repeat (first | with_reducible exact Pick.here | apply Pick.there)) (by rfl)), (Own.ld h (by repeat (first | with_reducible exact Pick.here | apply Pick.there)) (by rfl)), (Own.ld h (by repeat (first | with_reducible exact Pick.here | apply Pick.there)) (by rfl)), (Own.ld h (by repeat (first | with_reducible exact Pick.here | apply Pick.there)) (by rfl))⟩, ?_, (Own.sub (h) (by repeat (first | exact Sub.nil _ | exact Sub.rfl _ | (apply Sub.cons; focus ((repeat (first | with_reducible exact Pick.here | apply Pick.there)); done)) | apply Sub.drop)))⟩
    show _ = Value.agg (opV (bareL [k0, k1, k2, k3, k4])).toArray
    rw [bare0 (by omega)]; rfl
theorem rfRight (h : Own e w F) : Rets Try.prog 48 #[.agg (encO x).toArray] w fun v w' => v = .bool (rightB x) ∧ Own e w' F := by
  have hx5 : x = (x.1, x.2.1, x.2.2.1, x.2.2.2.1, x.2.2.2.2) := rfl
  obtain ⟨k0, k1, k2, k3, k4⟩ := x
  refine cortadoref17_Right_go _ _ _ _ _ (h.newR fun g1 w h => h.drw fun w h => ⟨fun w => Own _ w _, h, _, fun w h => Own.ld h (by repeat (first | with_reducible exact Pick.here | apply Pick.there)) (by rfl), fun hx => ⟨_, fun w h => Own.ld h (by repeat (first | with_reducible exact Pick.here | apply Pick.there)) (by rfl), fun hy => ?_, fun hy => ?_⟩, fun hx => ?_⟩)
  · have hx := dec_t hx
    have hy := dec_t hy
    refine ⟨_, _, _, _, _, ⟨fun w h => Own.ld h (by repeat (first | with_reducible exact Pick.here | apply Pick.there)) (by rfl), fun w h => Own.ld h (by repeat (first | with_reducible exact Pick.here | apply Pick.there)) (by rfl), fun w h => Own.ld h (by repeat (first | with_reducible exact Pick.here | apply Pick.there)) (by rfl), fun w h => Own.ld h (by repeat (first | with_reducible exact Pick.here | apply Pick.there)) (by rfl), fun w h => Own.ld h (by repeat (first | with_reducible exact Pick.here | apply Pick.there)) (by rfl)⟩, _, _, _, _, _, ⟨fun w h => Own.ld h (by repeat (first | with_reducible exact Pick.here | apply Pick.there)) (by rfl), fun w h => Own.ld h (by repeat (first | with_reducible exact Pick.here | apply Pick.there)) (by rfl), fun w h => Own.ld h (by repeat (first | with_reducible exact Pick.here | apply Pick.there)) (by rfl), fun w h => Own.ld h (by repeat (first | with_reducible exact Pick.here | apply Pick.there)) (by rfl), fun w h => Own.ld h (by repeat (first | with_reducible exact Pick.here | apply Pick.there)) (by rfl)⟩, ?_⟩
    refine Rets.mono (rfBare (x := (k0, k1, k2, k3, k4)) h) ?_
    rintro _ w ⟨rfl, h⟩
    obtain ⟨z0, z1, z2, z3, z4, hz⟩ := five (bareL_len [k0, k1, k2, k3, k4])
    refine ⟨z0, z1, z2, z3, z4, by show Value.agg (opV (bareL [k0, k1, k2, k3, k4])).toArray = _; rw [hz]; rfl, h, ?_, h.drop⟩
    rw [eq5]
    unfold rightB opL
    show _ = Value.bool (knownB k0 && decide (bareL [k0, k1, k2, k3, k4] = [k0, k1, k2, k3, k4]))
    have : knownB k0 = true := by unfold knownB; rw [decide_eq_true (by omega)]
    rw [this, hz, Bool.true_and]
  · have hx := dec_t hx
    have hy := dec_f hy
    refine ⟨?_, h.drop⟩
    unfold rightB
    have : knownB k0 = false := by unfold knownB; rw [decide_eq_false (by omega)]
    show _ = Value.bool (knownB k0 && _)
    rw [this, Bool.false_and]
  · have hx := dec_f hx
    refine ⟨?_, h.drop⟩
    unfold rightB
    have : knownB k0 = false := by unfold knownB; rw [decide_eq_false (by omega)]
    show _ = Value.bool (knownB k0 && _)
    rw [this, Bool.false_and]
theorem rfFine (h : Own e w F) (hr : ∀ w, Own e w F → RdC w q (l.flatMap encO)) (hl : l.length ≤ 1000) : Rets Try.prog 25 #[.slice q l.length c] w fun v w' => v = .bool (fineB l) ∧ Own e w' F := by
  refine cortadoref17_Fine_go _ _ _ ?_
  refine ⟨fun m vs w => ∃ i : Nat, vs = [.int .i64 (i : Int)] ∧ m + i = l.length ∧ (l.take i).all rightB = true ∧ Own e w F, ⟨l.length, 0, rfl, rfl, rfl, h⟩, ?_⟩
  rintro m w v1 n1
  intros
  rename_i hI
  obtain ⟨i, hvs, hm, ha, h⟩ := hI
  obtain rfl : n1 = (i : Int) := by simpa using hvs
  refine ⟨fun hx => ⟨fun hy => ?_, fun hy => ?_⟩, fun hx => ?_⟩
  · have hx := dec_t hx
    have hi : i < l.length := by omega
    obtain ⟨ad, rfl, hcell⟩ := RdC.rec encO_len (hr w h) hi (by omega)
    refine ⟨by omega, by omega, _, _, _, _, _, ⟨hcell i hi 0 _ rfl, hcell i hi 1 _ rfl, hcell i hi 2 _ rfl, hcell i hi 3 _ rfl, hcell i hi 4 _ rfl⟩, ?_⟩
    refine Rets.mono (rfRight (x := l[i]) h) ?_
    rintro _ w ⟨rfl, h⟩
    refine ⟨_, rfl, fun hb => ?_, fun hb => ?_⟩
    · have hb : rightB l[i] = false := by simpa using hb
      refine ⟨?_, h⟩
      have : l.all rightB = false := by
        rw [List.all_eq_false]
        exact ⟨l[i], List.getElem_mem hi, by rw [hb]; simp⟩
      unfold fineB
      rw [this, Bool.and_false]
    · have hb : rightB l[i] = true := by simpa using hb
      refine ⟨m - 1, by omega, i + 1, by rw [wI64 (by omega) (by omega)]; rfl, by omega, ?_, h⟩
      rw [List.take_succ_eq_append_getElem hi, List.all_append, ha]
      simp [hb]
  · have hx := dec_t hx
    have hy := dec_f hy
    refine ⟨?_, h⟩
    unfold fineB
    rw [decide_eq_false (by omega), decide_eq_false (by omega), Bool.false_and]
  · have hx := dec_f hx
    obtain rfl : i = l.length := by omega
    rw [List.take_length] at ha
    refine ⟨?_, h⟩
    unfold fineB
    rw [ha, Bool.and_true]
    congr 1
    exact decide_eq_decide.2 ⟨fun _ => by omega, fun _ => by omega⟩
end
end Go.Proofs.Ytppmdifhoejhjaa.Eng
