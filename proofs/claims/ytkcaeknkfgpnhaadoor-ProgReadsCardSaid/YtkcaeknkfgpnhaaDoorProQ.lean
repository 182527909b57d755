/- Calls: which are right. -/
import Derived.Test.YtkcaeknkfgpnhaaDoorProP
namespace Go.Proofs.YtkcaeknkfgpnhaaDoor.Eng
open Go Go.RowKit Go.Proofs
set_option linter.unusedVariables false
set_option linter.unusedSimpArgs false
set_option maxRecDepth 1000000
abbrev Op5 := Int × Int × Int × Int × Int
def opL (x : Op5) : List Int := [x.1, x.2.1, x.2.2.1, x.2.2.2.1, x.2.2.2.2]
def encO (x : Op5) : List Value := [.int .i64 x.1, .int .i64 x.2.1, .int .i64 x.2.2.1, .int .i64 x.2.2.2.1, .int .i64 x.2.2.2.2]
theorem encO_len (x : Op5) : (encO x).length = 5 := rfl
def rightB (x : Op5) : Bool := knownB x.1 && decide (bareL (opL x) = opL x)
def fineB (l : List Op5) : Bool := decide (l.length ≤ 24) && l.all rightB
theorem eq5 (a b c d e a' b' c' d' e' : Int) : (a == a' && (b == b' && (c == c' && (d == d' && e == e')))) = decide ([a, b, c, d, e] = [a', b', c', d', e']) := by
  rw [Bool.eq_iff_iff]; simp
theorem bare0 {k0 k1 k2 k3 k4 : Int} (h : ¬ (1 ≤ k0 ∧ k0 ≤ 7)) : bareL [k0, k1, k2, k3, k4] = [0, 0, 0, 0, 0] := by
  unfold bareL
  show (if knownB k0 = true then outsL k0 [k0, k1, k2, k3, k4] (pls k0).length else _) = _
  by_cases h0 : k0 = 0
  · subst h0; rfl
  · rw [if_neg (by unfold knownB; simp; omega)]
section
variable {e w : World} {F : List HP} {x : Op5}
theorem prRight (h : Own e w F) : Rets Tryd.prog 42 #[.agg (encO x).toArray] w fun v w' => v = .bool (rightB x) ∧ Own e w' F := by
  obtain ⟨k0, k1, k2, k3, k4⟩ := x
  refine prog_Right_go _ _ _ _ _ (h.newR fun g1 w h => h.drw fun w h => ⟨fun w => Own _ w _, h, _, fun w h => Own.ld h (by repeat (first | with_reducible exact Pick.here | apply Pick.there)) (by rfl), ?_⟩)
  refine Rets.mono (prKnown h) ?_
  rintro _ w ⟨rfl, h⟩
  refine ⟨_, rfl, h, fun hx => ?_, fun hx => ?_⟩
  · refine ⟨_, _, _, _, _, ⟨fun w h => Own.ld h (by repeat (first | with_reducible exact Pick.here | apply Pick.there)) (by rfl), fun w h => Own.ld h (by repeat (first | with_reducible exact Pick.here | apply Pick.there)) (by rfl), fun w h => Own.ld h (by repeat (first | with_reducible exact Pick.here | apply Pick.there)) (by rfl), fun w h => Own.ld h (by repeat (first | with_reducible exact Pick.here | apply Pick.there)) (by rfl), fun w h => Own.ld h (by repeat (first | with_reducible exact Pick.here | apply Pick.there)) (by rfl)⟩, _, _, _, _, _, ⟨fun w h => Own.ld h (by repeat (first | with_reducible exact Pick.here | apply Pick.there)) (by rfl), fun w h => Own.ld h (by repeat (first | with_reducible exact Pick.here | apply Pick.there)) (by rfl), fun w h => Own.ld h (by repeat (first | with_reducible exact Pick.here | apply Pick.there)) (by rfl), fun w h => Own.ld h (by repeat (first | with_reducible exact Pick.here | apply Pick.there)) (by rfl), fun w h => Own.ld h (by repeat (first | with_reducible exact Pick.here | apply Pick.there)) (by rfl)⟩, ?_⟩
    refine Rets.mono (prBare h) ?_
    rintro _ w ⟨rfl, h⟩
    obtain ⟨z0, z1, z2, z3, z4, hz⟩ := five (bareL_len [k0, k1, k2, k3, k4])
    refine ⟨z0, z1, z2, z3, z4, by rw [hz]; rfl, h, ?_, h.drop⟩
    rw [eq5]
    unfold rightB opL
    show _ = Value.bool (knownB k0 && decide (bareL [k0, k1, k2, k3, k4] = [k0, k1, k2, k3, k4]))
    rw [hx, hz, Bool.true_and]
  · refine ⟨?_, h.drop⟩
    unfold rightB
    show _ = Value.bool (knownB k0 && _)
    rw [hx, Bool.false_and]
theorem prFine1 (h : Own e w F) : Rets Tryd.prog 41 #[.agg (encO x).toArray] w fun v w' => v = .bool (!rightB x) ∧ Own e w' F := by
  obtain ⟨k0, k1, k2, k3, k4⟩ := x
  refine prog_Fine_1_go _ _ _ _ _ (h.newR fun g1 w h => ⟨_, _, _, _, _, ⟨(Own.ld h (by repeat (first | with_reducible exact Pick.here | apply Pick.there)) (by rfl)), (Own.ld h (by repeat (first | with_reducible exact Pick.here | apply Pick.there)) (by rfl)), (Own.ld h (by repeat (first | with_reducible exact Pick.here | apply Pick.there)) (by rfl)), (Own.ld h (by repeat (first | with_reducible exact Pick.here | apply Pick.there)) (by rfl)), (Own.ld h (by repeat (first | with_reducible exact Pick.here | apply Pick.there)) (by rfl))⟩, ?_⟩)
  refine Rets.mono (prRight (x := (k0, k1, k2, k3, k4)) h) ?_
  rintro _ w ⟨rfl, h⟩
  exact ⟨_, rfl, rfl, h.drop⟩
variable {q : Option Addr} {c : Nat} {l : List Op5}
theorem prIndex (h : Own e w F) (hr : ∀ w, Own e w F → RdC w q (l.flatMap encO)) (hl : l.length ≤ 1000) : Rets Tryd.prog 75 #[.slice q l.length c, .func (.func 41) #[] #[]] w fun v w' => ∃ n : Int, v = .int .i64 n ∧ decide (n ≥ 0) = !l.all rightB ∧ Own e w' F := by
  refine ops_Index_go _ _ _ ?_
  refine ⟨fun m vs w => ∃ i : Nat, vs = [.int .i64 (i : Int)] ∧ m + i = l.length ∧ (l.take i).all rightB = true ∧ Own e w F, ⟨l.length, 0, rfl, rfl, rfl, h⟩, ?_⟩
  rintro m w v1 v2 n1
  intros
  rename_i hI
  obtain ⟨i, hvs, hm, ha, h⟩ := hI
  obtain rfl : n1 = (i : Int) := by simpa using hvs
  refine ⟨fun hx => ?_, fun hx => ?_⟩
  · have hx := dec_t hx
    have hi : i < l.length := by omega
    obtain ⟨ad, rfl, hcell⟩ := RdC.rec encO_len (hr w h) hi (by omega)
    refine ⟨by omega, by omega, _, _, _, _, _, ⟨hcell i hi 0 _ rfl, hcell i hi 1 _ rfl, hcell i hi 2 _ rfl, hcell i hi 3 _ rfl, hcell i hi 4 _ rfl⟩, ?_⟩
    refine Rets.mono (prFine1 (x := l[i]) h) ?_
    rintro _ w ⟨rfl, h⟩
    refine ⟨_, rfl, fun hb => ?_, fun hb => ?_⟩
    · have hb : rightB l[i] = false := by simpa using hb
      refine ⟨_, rfl, ?_, h⟩
      have : l.all rightB = false := by
        rw [List.all_eq_false]
        exact ⟨l[i], List.getElem_mem hi, by rw [hb]; simp⟩
      rw [this, decide_eq_true (by omega)]; rfl
    · have hb : rightB l[i] = true := by simpa using hb
      refine ⟨m - 1, by omega, i + 1, by rw [wI64 (by omega) (by omega)]; rfl, by omega, ?_, h⟩
      rw [List.take_succ_eq_append_getElem hi, List.all_append, ha]
      simp [hb]
  · have hx := dec_f hx
    obtain rfl : i = l.length := by omega
    rw [List.take_length] at ha
    exact ⟨_, rfl, by rw [ha]; rfl, h⟩
theorem prFine (h : Own e w F) (hr : ∀ w, Own e w F → RdC w q (l.flatMap encO)) : Rets Tryd.prog 12 #[.slice q l.length c] w fun v w' => v = .bool (fineB l) ∧ Own e w' F := by
  refine prog_Fine_go _ _ _ ⟨fun hx => ?_, fun hx => ?_⟩
  · have hx := dec_t hx
    refine ops_Contains_go _ _ _ ?_
    refine Rets.mono (prIndex h hr (by omega)) ?_
    rintro _ w ⟨n, rfl, hn, h⟩
    refine ⟨_, rfl, _, rfl, ?_, h⟩
    rw [hn]
    unfold fineB
    rw [decide_eq_true (by omega), Bool.true_and, Bool.not_not]
  · have hx := dec_f hx
    refine ⟨?_, h⟩
    unfold fineB
    rw [decide_eq_false (by omega), Bool.false_and]
end
end Go.Proofs.YtkcaeknkfgpnhaaDoor.Eng
