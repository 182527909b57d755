-- Laid by hybrid.py, a program of this session's: the kit's printer over this seat, with functions proved by hand beside it.
import Derived.Test.YtjmlahdnbedkcaaHCostSumsx0
import Derived.Test.YtjmlahdnbedkcaaHCostSumsx1
namespace Go.Proofs.Ytjmlahdnbedkcaa.HCostSums
open Go.RowKit Go.Proofs.YtjmlahdnbedkcaaW.PrintWords Go.Proofs.YtjmlahdnbedkcaaW.PrintLast Go.Proofs.YtjmlahdnbedkcaaW.PrintMore
attribute [local go_sem] max2_int min2_int max_two min_two max_three min_three max_four min_four   -- for this text's walks alone
set_option linter.unusedVariables false
set_option linter.unusedSimpArgs false

/-! ### cortadolaw02_CostSums: function 7 -/
def cortadolaw02_CostSums.j0 : Nat → List Int → Int → Bool → Int → Bool → Int → Option (Bool)
  | 0, _, _, _, _, _, _ => none
  | k + 1, x0, x5, x6, x7, x8, x9 => if 0 ≤ x9 then (if x9 ≤ (x0.length : Int) then ((cost_Sum.f k (x0.drop (x9 : Int).toNat)).bind fun bt119 => ((cost_Sum.f k (x0.take (x9 : Int).toNat)).bind fun bt122 => ((cost_Add.f bt119.1 bt122.1).bind fun bt124 => (if x5 = x7 then (if (x6 == x8) = true then (if bt119.2 = true then (if bt122.2 = true then (if (x6 == bt124.2) = true then (if x6 = true then (if bt124.1 = x5 then ((cortadolaw02_awake.f).bind fun t126 => (some t126)) else (some false)) else ((cortadolaw02_awake.f).bind fun t127 => (some t127))) else (some false)) else (if (x6 == false) = true then (if x6 = true then (if bt124.1 = x5 then ((cortadolaw02_awake.f).bind fun t128 => (some t128)) else (some false)) else ((cortadolaw02_awake.f).bind fun t129 => (some t129))) else (some false))) else (if (x6 == false) = true then (if x6 = true then (if bt124.1 = x5 then ((cortadolaw02_awake.f).bind fun t130 => (some t130)) else (some false)) else ((cortadolaw02_awake.f).bind fun t131 => (some t131))) else (some false))) else (some false)) else (some false))))) else (none)) else (none)
def cortadolaw02_CostSums.f (k : Nat) (l0 : List Int) (a1 : Int) : Option (Bool) := (cost_Sum.f k l0).bind fun bt114 => ((cortadoref02_Sum.f k l0).bind fun bt116 => (if (l0.length : Int) > 0 then (if (IntKind.u64.wrap ((l0.length : Int))) = 0 then (none) else (cortadolaw02_CostSums.j0 k l0 bt114.1 bt114.2 bt116.1 bt116.2 (wrap64 (Int.tmod a1 (IntKind.u64.wrap ((l0.length : Int))))))) else (cortadolaw02_CostSums.j0 k l0 bt114.1 bt114.2 bt116.1 bt116.2 0)))
theorem cortadolaw02_CostSums.mono_l : ∀ k, (∀ y0 y1 y2 y3 y4 y5, LeO (cortadolaw02_CostSums.j0 k y0 y1 y2 y3 y4 y5) (cortadolaw02_CostSums.j0 (k + 1) y0 y1 y2 y3 y4 y5))
  | 0 => fun _ _ _ _ _ _ r h => by simp [cortadolaw02_CostSums.j0] at h
  | k + 1 => by
    have ih0 := cortadolaw02_CostSums.mono_l k
    · intro y0 y1 y2 y3 y4 y5
      unfold cortadolaw02_CostSums.j0
      repeat' first
      | (with_reducible exact ih0 _ _ _ _ _ _)
      | (with_reducible exact cortadoref02_Sum.mono _ _)
      | (with_reducible exact cost_Sum.mono _ _)
      | (with_reducible exact LeO.refl _)
      | (with_reducible exact LeO.none _)
      | (with_reducible refine LeO.ite ?_ ?_)
      | (with_reducible refine LeO.bind ?_ (fun _ => ?_))
      | exact ih0 _ _ _ _ _ _
      | exact cortadoref02_Sum.mono _ _
      | exact cost_Sum.mono _ _
      | exact LeO.none _
      | refine LeO.ite ?_ ?_
      | refine LeO.bind ?_ (fun _ => ?_)
theorem cortadolaw02_CostSums.mono : ∀ a0 a1 k, LeO (cortadolaw02_CostSums.f k a0 a1) (cortadolaw02_CostSums.f (k + 1) a0 a1) := by
  intro a0 a1 k
  have ih0 := cortadolaw02_CostSums.mono_l k
  unfold cortadolaw02_CostSums.f
  repeat' first
      | (with_reducible exact ih0 _ _ _ _ _ _)
      | (with_reducible exact cortadoref02_Sum.mono _ _)
      | (with_reducible exact cost_Sum.mono _ _)
      | (with_reducible exact LeO.refl _)
      | (with_reducible exact LeO.none _)
      | (with_reducible refine LeO.ite ?_ ?_)
      | (with_reducible refine LeO.bind ?_ (fun _ => ?_))
      | exact ih0 _ _ _ _ _ _
      | exact cortadoref02_Sum.mono _ _
      | exact cost_Sum.mono _ _
      | exact LeO.none _
      | refine LeO.ite ?_ ?_
      | refine LeO.bind ?_ (fun _ => ?_)
set_option maxHeartbeats 8000000 in
set_option maxRecDepth 100000 in
theorem cortadolaw02_CostSums.calls (k : Nat) (A0 : Option Addr) (c0 : Nat) (l0 : List Int) (a1 : Int) (r : Bool) (w : World) (hr0 : Kd.C (Kd.int .i64) w A0 l0.length l0) (hc0 : l0.length ≤ c0) (hr_ : r = true) (h : cortadolaw02_CostSums.f k l0 a1 = some r) :
    Calls Try.prog 7 #[.slice A0 l0.length c0, .int .u64 a1] w fun e w' => e = .returned (.bool r) ∧ Drawn0 w w' := by
  have HRT := Aside0.mk hr_
  clear hr_
  have HR0 := Aside0.mk hr0
  have HC0 := Aside0.mk hc0
  clear hr0 hc0
  have H : ((cost_Sum.f k l0).bind fun bt114 => ((cortadoref02_Sum.f k l0).bind fun bt116 => (if (l0.length : Int) > 0 then (if (IntKind.u64.wrap ((l0.length : Int))) = 0 then (none) else (cortadolaw02_CostSums.j0 k l0 bt114.1 bt114.2 bt116.1 bt116.2 (wrap64 (Int.tmod a1 (IntKind.u64.wrap ((l0.length : Int))))))) else (cortadolaw02_CostSums.j0 k l0 bt114.1 bt114.2 bt116.1 bt116.2 0)))) = some r := h
  clear h
  replace H := Option.bind_eq_some_iff.mp H
  obtain ⟨⟨t114, t115⟩, A30, H⟩ := H
  replace H : ((cortadoref02_Sum.f k l0).bind fun bt116 => (if (l0.length : Int) > 0 then (if (IntKind.u64.wrap ((l0.length : Int))) = 0 then (none) else (cortadolaw02_CostSums.j0 k l0 t114 t115 bt116.1 bt116.2 (wrap64 (Int.tmod a1 (IntKind.u64.wrap ((l0.length : Int))))))) else (cortadolaw02_CostSums.j0 k l0 t114 t115 bt116.1 bt116.2 0))) = some r := H
  have A3 := Aside0.mk A30
  clear A30
  replace H := Option.bind_eq_some_iff.mp H
  obtain ⟨⟨t116, t117⟩, A40, H⟩ := H
  replace H : (if (l0.length : Int) > 0 then (if (IntKind.u64.wrap ((l0.length : Int))) = 0 then (none) else (cortadolaw02_CostSums.j0 k l0 t114 t115 t116 t117 (wrap64 (Int.tmod a1 (IntKind.u64.wrap ((l0.length : Int))))))) else (cortadolaw02_CostSums.j0 k l0 t114 t115 t116 t117 0)) = some r := H
  have A4 := Aside0.mk A40
  clear A40
  have HC5 := Aside0.mk H
  clear H
  go_enter Try.func7, Try.ntmps7
  go_upto_if 28 with (first | ((with_reducible refine gate_callee (f := 28) rfl ?_); refine goesL_ (some 18) rfl rfl Try.func28 (by kernel_rfl) rfl #[.slice A0 l0.length c0] rfl (by (try simp only [List.map_toArray, List.map_cons, List.map_nil]); first | done | rfl | (simp only [List.length_drop, List.length_take]; rfl)) ?_; (with_reducible refine (cost_Sum.calls k _ _ l0 t114 t115 _ ?side1 ?side2 A3.out).mono ?_); (case side1 => repeat (first | exact HR0.out | (with_reducible refine Kd.C_alloc ?_ _) | (with_reducible refine Kd.C_drewN ?_ _) | (with_reducible refine Kd.C_drew ?_))); (case side2 => exact HC0.out); rintro e w' ⟨rfl, ⟨nd, rfl⟩⟩; refine ⟨_, rfl, ?_⟩) | ((with_reducible refine gate_callee (f := 29) rfl ?_); refine goesL_ (some 23) rfl rfl Try.func29 (by kernel_rfl) rfl #[.slice A0 l0.length c0] rfl (by (try simp only [List.map_toArray, List.map_cons, List.map_nil]); first | done | rfl | (simp only [List.length_drop, List.length_take]; rfl)) ?_; (with_reducible refine (cortadoref02_Sum.calls k _ _ l0 t116 t117 _ ?side1 ?side2 A4.out).mono ?_); (case side1 => repeat (first | exact HR0.out | (with_reducible refine Kd.C_alloc ?_ _) | (with_reducible refine Kd.C_drewN ?_ _) | (with_reducible refine Kd.C_drew ?_))); (case side2 => exact HC0.out); rintro e w' ⟨rfl, ⟨nd, rfl⟩⟩; refine ⟨_, rfl, ?_⟩))
  (try simp only [Act.put, List.setIfInBounds_toArray, List.set_cons_zero, List.set_cons_succ])
  go_cut [9] (fun v9 wc => ∃ (kq : Nat) (x9_4 : Int), v9 = .int .i64 x9_4 ∧ Aside0 (cortadolaw02_CostSums.j0 kq l0 t114 t115 t116 t117 x9_4 = some r) ∧ Aside0 (kq ≤ k) ∧ Drawn0 w wc)
  case first =>
    have H := HC5.out
    clear HC5
    by_cases c6 : (l0.length : Int) > 0
    · rw [if_pos c6] at H
      have c6b0 : decide (0 < (l0.length : Int)) = true := decide_eq_true c6
      have c6b1 : decide (0 < l0.length) = true := decide_eq_true (by omega)
      have c6q : 0 < l0.length := of_decide_eq_true c6b1
      clear c6
      (first | rw [c6b0] | (simp only [i64_w, i32_w]; rw [c6b0]) | skip)
      by_cases c7 : (IntKind.u64.wrap ((l0.length : Int))) = 0
      · rw [if_pos c7] at H
        exact absurd H (by simp)
      · rw [if_neg c7] at H
        have c7b0 : ((IntKind.u64.wrap ((l0.length : Int))) == 0) = false := beq_eq_false_iff_ne.mpr c7
        have c7p : 0 < l0.length := Nat.pos_of_ne_zero (fun h_ => c7 (by rw [h_]; rfl))
        have c7b1 : ((IntKind.u64.wrap ((l0.length : Int))) != 0) = true := bne_iff_ne.mpr c7
        have H' := Aside0.mk H
        clear H
        go_wp2
        go_meet
        case rel => exact ⟨_, (wrap64 (Int.tmod a1 (IntKind.u64.wrap ((l0.length : Int))))), (by first | rfl | (simp; done) | (simp [*]; done)), H', ⟨by first | omega | exact Nat.le_refl _⟩, by repeat (first | exact Drawn0.refl _ | apply Drawn0.step)⟩
    · rw [if_neg c6] at H
      have c6b0 : decide (0 < (l0.length : Int)) = false := decide_eq_false c6
      have c6b1 : decide (0 < l0.length) = false := decide_eq_false (by omega)
      have c6q : ¬ 0 < l0.length := of_decide_eq_false c6b1
      clear c6
      (first | rw [c6b0] | (simp only [i64_w, i32_w]; rw [c6b0]) | skip)
      have H' := Aside0.mk H
      clear H
      go_wp2
      go_meet
      case rel => exact ⟨_, (0), (by first | rfl | (simp; done) | (simp [*]; done)), H', ⟨by first | omega | exact Nat.le_refl _⟩, by repeat (first | exact Drawn0.refl _ | apply Drawn0.step)⟩
  case rest =>
    clear HC5
    try clear c2
    try clear p2
    try clear c6
    try clear c6b0
    try clear c6b1
    try clear p6
    try clear c7
    try clear c7b0
    try clear c7b1
    obtain ⟨kq, x9_4, rfl, HA, HJ4, ⟨mc4, rfl⟩⟩ := hcut
    cases kq with
    | zero => exact absurd HA.out (by simp [cortadolaw02_CostSums.j0])
    | succ kj4 =>
      have H := HA.out
      clear HA
      simp only [cortadolaw02_CostSums.j0] at H
      by_cases c8 : 0 ≤ x9_4
      · rw [if_pos c8] at H
        have c8b0 := eq_true c8
        have c8b1 : decide (0 ≤ x9_4) = true := decide_eq_true c8
        clear c8
        by_cases c9 : x9_4 ≤ (l0.length : Int)
        · rw [if_pos c9] at H
          have c9b0 := eq_true c9
          have c9b1 : decide (x9_4 ≤ (l0.length : Int)) = true := decide_eq_true c9
          clear c9
          replace H := Option.bind_eq_some_iff.mp H
          obtain ⟨⟨t119, t120⟩, A100, H⟩ := H
          replace H : ((cost_Sum.f kj4 (l0.take (x9_4 : Int).toNat)).bind fun bt122 => ((cost_Add.f t119 bt122.1).bind fun bt124 => (if t114 = t116 then (if (t115 == t117) = true then (if t120 = true then (if bt122.2 = true then (if (t115 == bt124.2) = true then (if t115 = true then (if bt124.1 = t114 then ((cortadolaw02_awake.f).bind fun t126 => (some t126)) else (some false)) else ((cortadolaw02_awake.f).bind fun t127 => (some t127))) else (some false)) else (if (t115 == false) = true then (if t115 = true then (if bt124.1 = t114 then ((cortadolaw02_awake.f).bind fun t128 => (some t128)) else (some false)) else ((cortadolaw02_awake.f).bind fun t129 => (some t129))) else (some false))) else (if (t115 == false) = true then (if t115 = true then (if bt124.1 = t114 then ((cortadolaw02_awake.f).bind fun t130 => (some t130)) else (some false)) else ((cortadolaw02_awake.f).bind fun t131 => (some t131))) else (some false))) else (some false)) else (some false)))) = some r := H
          have A10 := Aside0.mk A100
          clear A100
          have c11b0 := eq_true (of_decide_eq_true (by first | (with_reducible assumption) | assumption) : 0 ≤ x9_4)
          have c12b0 := eq_true (of_decide_eq_true (by first | (with_reducible assumption) | assumption) : x9_4 ≤ (l0.length : Int))
          replace H := Option.bind_eq_some_iff.mp H
          obtain ⟨⟨t122, t123⟩, A130, H⟩ := H
          replace H : ((cost_Add.f t119 t122).bind fun bt124 => (if t114 = t116 then (if (t115 == t117) = true then (if t120 = true then (if t123 = true then (if (t115 == bt124.2) = true then (if t115 = true then (if bt124.1 = t114 then ((cortadolaw02_awake.f).bind fun t126 => (some t126)) else (some false)) else ((cortadolaw02_awake.f).bind fun t127 => (some t127))) else (some false)) else (if (t115 == false) = true then (if t115 = true then (if bt124.1 = t114 then ((cortadolaw02_awake.f).bind fun t128 => (some t128)) else (some false)) else ((cortadolaw02_awake.f).bind fun t129 => (some t129))) else (some false))) else (if (t115 == false) = true then (if t115 = true then (if bt124.1 = t114 then ((cortadolaw02_awake.f).bind fun t130 => (some t130)) else (some false)) else ((cortadolaw02_awake.f).bind fun t131 => (some t131))) else (some false))) else (some false)) else (some false))) = some r := H
          have A13 := Aside0.mk A130
          clear A130
          replace H := Option.bind_eq_some_iff.mp H
          obtain ⟨⟨t124, t125⟩, A140, H⟩ := H
          replace H : (if t114 = t116 then (if (t115 == t117) = true then (if t120 = true then (if t123 = true then (if (t115 == t125) = true then (if t115 = true then (if t124 = t114 then ((cortadolaw02_awake.f).bind fun t126 => (some t126)) else (some false)) else ((cortadolaw02_awake.f).bind fun t127 => (some t127))) else (some false)) else (if (t115 == false) = true then (if t115 = true then (if t124 = t114 then ((cortadolaw02_awake.f).bind fun t128 => (some t128)) else (some false)) else ((cortadolaw02_awake.f).bind fun t129 => (some t129))) else (some false))) else (if (t115 == false) = true then (if t115 = true then (if t124 = t114 then ((cortadolaw02_awake.f).bind fun t130 => (some t130)) else (some false)) else ((cortadolaw02_awake.f).bind fun t131 => (some t131))) else (some false))) else (some false)) else (some false)) = some r := H
          have A14 := Aside0.mk A140
          clear A140
          by_cases c15 : t114 = t116
          · rw [if_pos c15] at H
            have c15b0 : (t114 == t116) = true := beq_iff_eq.mpr c15
            have c15b1 : (t114 != t116) = false := bne_eq_false_iff_eq.mpr c15
            clear c15
            by_cases c16 : (t115 == t117) = true
            · rw [if_pos c16] at H
              have c16b0 : (t115 == t117) = true := c16
              (try (have c16b1 : decide (t115 = t117) = true := by simpa using c16))
              (try (have c16b2 : (t115 == t117) = true := by simpa using c16))
              clear c16
              by_cases c17 : t120 = true
              · subst c17
                have H1 : (if t123 = true then (if (t115 == t125) = true then (if t115 = true then (if t124 = t114 then ((cortadolaw02_awake.f).bind fun t126 => (some t126)) else (some false)) else ((cortadolaw02_awake.f).bind fun t127 => (some t127))) else (some false)) else (if (t115 == false) = true then (if t115 = true then (if t124 = t114 then ((cortadolaw02_awake.f).bind fun t128 => (some t128)) else (some false)) else ((cortadolaw02_awake.f).bind fun t129 => (some t129))) else (some false))) = some r := by rw [if_pos rfl] at H; exact H
                clear H
                have H := H1
                clear H1
                by_cases c18 : t123 = true
                · subst c18
                  have H1 : (if (t115 == t125) = true then (if t115 = true then (if t124 = t114 then ((cortadolaw02_awake.f).bind fun t126 => (some t126)) else (some false)) else ((cortadolaw02_awake.f).bind fun t127 => (some t127))) else (some false)) = some r := by rw [if_pos rfl] at H; exact H
                  clear H
                  have H := H1
                  clear H1
                  by_cases c19 : (t115 == t125) = true
                  · rw [if_pos c19] at H
                    have c19b0 : (t115 == t125) = true := c19
                    (try (have c19b1 : decide (t115 = t125) = true := by simpa using c19))
                    (try (have c19b2 : (t115 == t125) = true := by simpa using c19))
                    clear c19
                    by_cases c20 : t115 = true
                    · subst c20
                      have H1 : (if t124 = t114 then ((cortadolaw02_awake.f).bind fun t126 => (some t126)) else (some false)) = some r := by rw [if_pos rfl] at H; exact H
                      clear H
                      have H := H1
                      clear H1
                      by_cases c21 : t124 = t114
                      · rw [if_pos c21] at H
                        have c21b0 : (t124 == t114) = true := beq_iff_eq.mpr c21
                        have c21b1 : (t124 != t114) = false := bne_eq_false_iff_eq.mpr c21
                        clear c21
                        replace H := Option.bind_eq_some_iff.mp H
                        obtain ⟨t126, A220, H⟩ := H
                        replace H : (some t126) = some r := H
                        have A22 := Aside0.mk A220
                        clear A220
                        obtain rfl := Option.some.inj H
                        obtain ⟨i023, hi023, _, hsz23, _⟩ := info_parts info3
                        obtain ⟨A23, hcut23, hA23, hC23⟩ := print_drop_of (P := Try.prog) (Value.int .i64) 0 37 3 .i64 Try.underlying37 hi023 hsz23 A0 c0 l0 x9_4 (of_decide_eq_true (by first | (with_reducible assumption) | assumption)) (of_decide_eq_true (by first | (with_reducible assumption) | assumption)) HC0.out
                        have HR118 := Aside0.mk (Kd.C_of_reads (h1 := fun _ => rfl) (hA23 _ (Kd.reads_of_C HR0.out)))
                        have HC118 := Aside0.mk hC23
                        clear hA23 hC23 hi023 hsz23
                        go_wp2_with (first | ((with_reducible refine gate_callee (f := 28) rfl ?_); refine goesL_ (some 39) rfl rfl Try.func28 (by kernel_rfl) rfl #[.slice A23 (l0.drop (x9_4 : Int).toNat).length (c0 - x9_4.toNat)] rfl (by (try simp only [List.map_toArray, List.map_cons, List.map_nil]); first | done | (rw [show (l0.drop (x9_4 : Int).toNat).length = (l0.length - x9_4.toNat) from List.length_drop] <;> rfl) | rfl | (simp only [List.length_drop, List.length_take]; rfl)) ?_; (with_reducible refine (cost_Sum.calls kj4 _ _ (l0.drop (x9_4 : Int).toNat) t119 true _ ?side1 ?side2 A10.out).mono ?_); (case side1 => repeat (first | exact HR118.out | (with_reducible refine Kd.C_alloc ?_ _) | (with_reducible refine Kd.C_drewN ?_ _) | (with_reducible refine Kd.C_drew ?_))); (case side2 => exact HC118.out); rintro e w' ⟨rfl, ⟨nd, rfl⟩⟩; refine ⟨_, rfl, ?_⟩; obtain ⟨i024, hi024, _, hsz24, _⟩ := info_parts info3; obtain ⟨hcut24, hA24, hC24⟩ := print_take_of (P := Try.prog) (Value.int .i64) 0 37 3 .i64 Try.underlying37 hi024 hsz24 A0 c0 l0 x9_4 (of_decide_eq_true (by first | (with_reducible assumption) | assumption)) (of_decide_eq_true (by first | (with_reducible assumption) | assumption)) HC0.out; have HR121 := Aside0.mk (Kd.C_of_reads (h1 := fun _ => rfl) (hA24 _ (Kd.reads_of_C HR0.out))); have HC121 := Aside0.mk hC24; clear hA24 hC24 hi024 hsz24) | ((with_reducible refine gate_callee (f := 28) rfl ?_); refine goesL_ (some 46) rfl rfl Try.func28 (by kernel_rfl) rfl #[.slice A0 (l0.take (x9_4 : Int).toNat).length c0] rfl (by (try simp only [List.map_toArray, List.map_cons, List.map_nil]); first | done | (rw [show (l0.take (x9_4 : Int).toNat).length = x9_4.toNat from (by rw [List.length_take]; have h_ : (x9_4 : Int) ≤ (l0.length : Int) := of_decide_eq_true (by first | (with_reducible assumption) | assumption); omega)] <;> rfl) | rfl | (simp only [List.length_drop, List.length_take]; rfl)) ?_; (with_reducible refine (cost_Sum.calls kj4 _ _ (l0.take (x9_4 : Int).toNat) t122 true _ ?side1 ?side2 A13.out).mono ?_); (case side1 => repeat (first | exact HR121.out | (with_reducible refine Kd.C_alloc ?_ _) | (with_reducible refine Kd.C_drewN ?_ _) | (with_reducible refine Kd.C_drew ?_))); (case side2 => exact HC121.out); rintro e w' ⟨rfl, ⟨nd, rfl⟩⟩; refine ⟨_, rfl, ?_⟩) | ((with_reducible refine gate_callee (f := 16) rfl ?_); refine goesL_ (some 52) rfl rfl Try.func16 (by kernel_rfl) rfl #[.int .i64 t119, .int .i64 t122] rfl (by (try simp only [List.map_toArray, List.map_cons, List.map_nil]); first | done | rfl | (simp only [List.length_drop, List.length_take]; rfl)) ?_; (with_reducible refine (cost_Add.calls t119 t122 t124 t125 _ A14.out).mono ?_); rintro e w' ⟨rfl, ⟨nd, rfl⟩⟩; refine ⟨_, rfl, ?_⟩) | (go_at_call 22; (with_reducible refine (cortadolaw02_awake.calls  t126 _ A22.out).mono ?_); rintro e w' ⟨rfl, ⟨nd, rfl⟩⟩))
                        go_ret
                        exact ⟨by first | rfl | (simp; done) | (simp [*]; done), by repeat (first | exact Drawn0.refl _ | apply Drawn0.step)⟩
                      · rw [if_neg c21] at H
                        have c21b0 : (t124 == t114) = false := beq_eq_false_iff_ne.mpr c21
                        have c21b1 : (t124 != t114) = true := bne_iff_ne.mpr c21
                        have hr_ := HRT.out
                        rw [hr_] at H
                        exact absurd H (by simp)
                    · replace c20 := Bool.eq_false_iff.mpr c20
                      subst c20
                      have H1 : ((cortadolaw02_awake.f).bind fun t127 => (some t127)) = some r := by rw [if_neg (show ¬ (false = true) by decide)] at H; exact H
                      clear H
                      have H := H1
                      clear H1
                      replace H := Option.bind_eq_some_iff.mp H
                      obtain ⟨t127, A250, H⟩ := H
                      replace H : (some t127) = some r := H
                      have A25 := Aside0.mk A250
                      clear A250
                      obtain rfl := Option.some.inj H
                      obtain ⟨i026, hi026, _, hsz26, _⟩ := info_parts info3
                      obtain ⟨A26, hcut26, hA26, hC26⟩ := print_drop_of (P := Try.prog) (Value.int .i64) 0 37 3 .i64 Try.underlying37 hi026 hsz26 A0 c0 l0 x9_4 (of_decide_eq_true (by first | (with_reducible assumption) | assumption)) (of_decide_eq_true (by first | (with_reducible assumption) | assumption)) HC0.out
                      have HR118 := Aside0.mk (Kd.C_of_reads (h1 := fun _ => rfl) (hA26 _ (Kd.reads_of_C HR0.out)))
                      have HC118 := Aside0.mk hC26
                      clear hA26 hC26 hi026 hsz26
                      go_wp2_with (first | ((with_reducible refine gate_callee (f := 28) rfl ?_); refine goesL_ (some 39) rfl rfl Try.func28 (by kernel_rfl) rfl #[.slice A26 (l0.drop (x9_4 : Int).toNat).length (c0 - x9_4.toNat)] rfl (by (try simp only [List.map_toArray, List.map_cons, List.map_nil]); first | done | (rw [show (l0.drop (x9_4 : Int).toNat).length = (l0.length - x9_4.toNat) from List.length_drop] <;> rfl) | rfl | (simp only [List.length_drop, List.length_take]; rfl)) ?_; (with_reducible refine (cost_Sum.calls kj4 _ _ (l0.drop (x9_4 : Int).toNat) t119 true _ ?side1 ?side2 A10.out).mono ?_); (case side1 => repeat (first | exact HR118.out | (with_reducible refine Kd.C_alloc ?_ _) | (with_reducible refine Kd.C_drewN ?_ _) | (with_reducible refine Kd.C_drew ?_))); (case side2 => exact HC118.out); rintro e w' ⟨rfl, ⟨nd, rfl⟩⟩; refine ⟨_, rfl, ?_⟩; obtain ⟨i027, hi027, _, hsz27, _⟩ := info_parts info3; obtain ⟨hcut27, hA27, hC27⟩ := print_take_of (P := Try.prog) (Value.int .i64) 0 37 3 .i64 Try.underlying37 hi027 hsz27 A0 c0 l0 x9_4 (of_decide_eq_true (by first | (with_reducible assumption) | assumption)) (of_decide_eq_true (by first | (with_reducible assumption) | assumption)) HC0.out; have HR121 := Aside0.mk (Kd.C_of_reads (h1 := fun _ => rfl) (hA27 _ (Kd.reads_of_C HR0.out))); have HC121 := Aside0.mk hC27; clear hA27 hC27 hi027 hsz27) | ((with_reducible refine gate_callee (f := 28) rfl ?_); refine goesL_ (some 46) rfl rfl Try.func28 (by kernel_rfl) rfl #[.slice A0 (l0.take (x9_4 : Int).toNat).length c0] rfl (by (try simp only [List.map_toArray, List.map_cons, List.map_nil]); first | done | (rw [show (l0.take (x9_4 : Int).toNat).length = x9_4.toNat from (by rw [List.length_take]; have h_ : (x9_4 : Int) ≤ (l0.length : Int) := of_decide_eq_true (by first | (with_reducible assumption) | assumption); omega)] <;> rfl) | rfl | (simp only [List.length_drop, List.length_take]; rfl)) ?_; (with_reducible refine (cost_Sum.calls kj4 _ _ (l0.take (x9_4 : Int).toNat) t122 true _ ?side1 ?side2 A13.out).mono ?_); (case side1 => repeat (first | exact HR121.out | (with_reducible refine Kd.C_alloc ?_ _) | (with_reducible refine Kd.C_drewN ?_ _) | (with_reducible refine Kd.C_drew ?_))); (case side2 => exact HC121.out); rintro e w' ⟨rfl, ⟨nd, rfl⟩⟩; refine ⟨_, rfl, ?_⟩) | ((with_reducible refine gate_callee (f := 16) rfl ?_); refine goesL_ (some 52) rfl rfl Try.func16 (by kernel_rfl) rfl #[.int .i64 t119, .int .i64 t122] rfl (by (try simp only [List.map_toArray, List.map_cons, List.map_nil]); first | done | rfl | (simp only [List.length_drop, List.length_take]; rfl)) ?_; (with_reducible refine (cost_Add.calls t119 t122 t124 t125 _ A14.out).mono ?_); rintro e w' ⟨rfl, ⟨nd, rfl⟩⟩; refine ⟨_, rfl, ?_⟩) | (go_at_call 22; (with_reducible refine (cortadolaw02_awake.calls  t127 _ A25.out).mono ?_); rintro e w' ⟨rfl, ⟨nd, rfl⟩⟩))
                      go_ret
                      exact ⟨by first | rfl | (simp; done) | (simp [*]; done), by repeat (first | exact Drawn0.refl _ | apply Drawn0.step)⟩
                  · rw [if_neg c19] at H
                    have c19b0 : (t115 == t125) = false := by simpa using c19
                    (try (have c19b1 : decide (t115 = t125) = false := by simpa using c19))
                    (try (have c19b2 : (t115 == t125) = false := by simpa using c19))
                    (try (have c19b3 : ¬ (t115 = t125) := by simpa using c19))
                    clear c19
                    have hr_ := HRT.out
                    rw [hr_] at H
                    exact absurd H (by simp)
                · replace c18 := Bool.eq_false_iff.mpr c18
                  subst c18
                  have H1 : (if (t115 == false) = true then (if t115 = true then (if t124 = t114 then ((cortadolaw02_awake.f).bind fun t128 => (some t128)) else (some false)) else ((cortadolaw02_awake.f).bind fun t129 => (some t129))) else (some false)) = some r := by rw [if_neg (show ¬ (false = true) by decide)] at H; exact H
                  clear H
                  have H := H1
                  clear H1
                  by_cases c28 : (t115 == false) = true
                  · rw [if_pos c28] at H
                    have c28b0 : (t115 == false) = true := c28
                    (try (have c28b1 : decide (t115 = false) = true := by simpa using c28))
                    (try (have c28b2 : (t115 == false) = true := by simpa using c28))
                    clear c28
                    by_cases c29 : t115 = true
                    · subst c29
                      have H1 : (if t124 = t114 then ((cortadolaw02_awake.f).bind fun t128 => (some t128)) else (some false)) = some r := by rw [if_pos rfl] at H; exact H
                      clear H
                      have H := H1
                      clear H1
                      by_cases c30 : t124 = t114
                      · rw [if_pos c30] at H
                        have c30b0 : (t124 == t114) = true := beq_iff_eq.mpr c30
                        have c30b1 : (t124 != t114) = false := bne_eq_false_iff_eq.mpr c30
                        clear c30
                        replace H := Option.bind_eq_some_iff.mp H
                        obtain ⟨t128, A310, H⟩ := H
                        replace H : (some t128) = some r := H
                        have A31 := Aside0.mk A310
                        clear A310
                        obtain rfl := Option.some.inj H
                        obtain ⟨i032, hi032, _, hsz32, _⟩ := info_parts info3
                        obtain ⟨A32, hcut32, hA32, hC32⟩ := print_drop_of (P := Try.prog) (Value.int .i64) 0 37 3 .i64 Try.underlying37 hi032 hsz32 A0 c0 l0 x9_4 (of_decide_eq_true (by first | (with_reducible assumption) | assumption)) (of_decide_eq_true (by first | (with_reducible assumption) | assumption)) HC0.out
                        have HR118 := Aside0.mk (Kd.C_of_reads (h1 := fun _ => rfl) (hA32 _ (Kd.reads_of_C HR0.out)))
                        have HC118 := Aside0.mk hC32
                        clear hA32 hC32 hi032 hsz32
                        go_wp2_with (first | ((with_reducible refine gate_callee (f := 28) rfl ?_); refine goesL_ (some 39) rfl rfl Try.func28 (by kernel_rfl) rfl #[.slice A32 (l0.drop (x9_4 : Int).toNat).length (c0 - x9_4.toNat)] rfl (by (try simp only [List.map_toArray, List.map_cons, List.map_nil]); first | done | (rw [show (l0.drop (x9_4 : Int).toNat).length = (l0.length - x9_4.toNat) from List.length_drop] <;> rfl) | rfl | (simp only [List.length_drop, List.length_take]; rfl)) ?_; (with_reducible refine (cost_Sum.calls kj4 _ _ (l0.drop (x9_4 : Int).toNat) t119 true _ ?side1 ?side2 A10.out).mono ?_); (case side1 => repeat (first | exact HR118.out | (with_reducible refine Kd.C_alloc ?_ _) | (with_reducible refine Kd.C_drewN ?_ _) | (with_reducible refine Kd.C_drew ?_))); (case side2 => exact HC118.out); rintro e w' ⟨rfl, ⟨nd, rfl⟩⟩; refine ⟨_, rfl, ?_⟩; obtain ⟨i033, hi033, _, hsz33, _⟩ := info_parts info3; obtain ⟨hcut33, hA33, hC33⟩ := print_take_of (P := Try.prog) (Value.int .i64) 0 37 3 .i64 Try.underlying37 hi033 hsz33 A0 c0 l0 x9_4 (of_decide_eq_true (by first | (with_reducible assumption) | assumption)) (of_decide_eq_true (by first | (with_reducible assumption) | assumption)) HC0.out; have HR121 := Aside0.mk (Kd.C_of_reads (h1 := fun _ => rfl) (hA33 _ (Kd.reads_of_C HR0.out))); have HC121 := Aside0.mk hC33; clear hA33 hC33 hi033 hsz33) | ((with_reducible refine gate_callee (f := 28) rfl ?_); refine goesL_ (some 46) rfl rfl Try.func28 (by kernel_rfl) rfl #[.slice A0 (l0.take (x9_4 : Int).toNat).length c0] rfl (by (try simp only [List.map_toArray, List.map_cons, List.map_nil]); first | done | (rw [show (l0.take (x9_4 : Int).toNat).length = x9_4.toNat from (by rw [List.length_take]; have h_ : (x9_4 : Int) ≤ (l0.length : Int) := of_decide_eq_true (by first | (with_reducible assumption) | assumption); omega)] <;> rfl) | rfl | (simp only [List.length_drop, List.length_take]; rfl)) ?_; (with_reducible refine (cost_Sum.calls kj4 _ _ (l0.take (x9_4 : Int).toNat) t122 false _ ?side1 ?side2 A13.out).mono ?_); (case side1 => repeat (first | exact HR121.out | (with_reducible refine Kd.C_alloc ?_ _) | (with_reducible refine Kd.C_drewN ?_ _) | (with_reducible refine Kd.C_drew ?_))); (case side2 => exact HC121.out); rintro e w' ⟨rfl, ⟨nd, rfl⟩⟩; refine ⟨_, rfl, ?_⟩) | ((with_reducible refine gate_callee (f := 16) rfl ?_); refine goesL_ (some 52) rfl rfl Try.func16 (by kernel_rfl) rfl #[.int .i64 t119, .int .i64 t122] rfl (by (try simp only [List.map_toArray, List.map_cons, List.map_nil]); first | done | rfl | (simp only [List.length_drop, List.length_take]; rfl)) ?_; (with_reducible refine (cost_Add.calls t119 t122 t124 t125 _ A14.out).mono ?_); rintro e w' ⟨rfl, ⟨nd, rfl⟩⟩; refine ⟨_, rfl, ?_⟩) | (go_at_call 22; (with_reducible refine (cortadolaw02_awake.calls  t128 _ A31.out).mono ?_); rintro e w' ⟨rfl, ⟨nd, rfl⟩⟩))
                        go_ret
                        exact ⟨by first | rfl | (simp; done) | (simp [*]; done), by repeat (first | exact Drawn0.refl _ | apply Drawn0.step)⟩
                      · rw [if_neg c30] at H
                        have c30b0 : (t124 == t114) = false := beq_eq_false_iff_ne.mpr c30
                        have c30b1 : (t124 != t114) = true := bne_iff_ne.mpr c30
                        have hr_ := HRT.out
                        rw [hr_] at H
                        exact absurd H (by simp)
                    · replace c29 := Bool.eq_false_iff.mpr c29
                      subst c29
                      have H1 : ((cortadolaw02_awake.f).bind fun t129 => (some t129)) = some r := by rw [if_neg (show ¬ (false = true) by decide)] at H; exact H
                      clear H
                      have H := H1
                      clear H1
                      replace H := Option.bind_eq_some_iff.mp H
                      obtain ⟨t129, A340, H⟩ := H
                      replace H : (some t129) = some r := H
                      have A34 := Aside0.mk A340
                      clear A340
                      obtain rfl := Option.some.inj H
                      obtain ⟨i035, hi035, _, hsz35, _⟩ := info_parts info3
                      obtain ⟨A35, hcut35, hA35, hC35⟩ := print_drop_of (P := Try.prog) (Value.int .i64) 0 37 3 .i64 Try.underlying37 hi035 hsz35 A0 c0 l0 x9_4 (of_decide_eq_true (by first | (with_reducible assumption) | assumption)) (of_decide_eq_true (by first | (with_reducible assumption) | assumption)) HC0.out
                      have HR118 := Aside0.mk (Kd.C_of_reads (h1 := fun _ => rfl) (hA35 _ (Kd.reads_of_C HR0.out)))
                      have HC118 := Aside0.mk hC35
                      clear hA35 hC35 hi035 hsz35
                      go_wp2_with (first | ((with_reducible refine gate_callee (f := 28) rfl ?_); refine goesL_ (some 39) rfl rfl Try.func28 (by kernel_rfl) rfl #[.slice A35 (l0.drop (x9_4 : Int).toNat).length (c0 - x9_4.toNat)] rfl (by (try simp only [List.map_toArray, List.map_cons, List.map_nil]); first | done | (rw [show (l0.drop (x9_4 : Int).toNat).length = (l0.length - x9_4.toNat) from List.length_drop] <;> rfl) | rfl | (simp only [List.length_drop, List.length_take]; rfl)) ?_; (with_reducible refine (cost_Sum.calls kj4 _ _ (l0.drop (x9_4 : Int).toNat) t119 true _ ?side1 ?side2 A10.out).mono ?_); (case side1 => repeat (first | exact HR118.out | (with_reducible refine Kd.C_alloc ?_ _) | (with_reducible refine Kd.C_drewN ?_ _) | (with_reducible refine Kd.C_drew ?_))); (case side2 => exact HC118.out); rintro e w' ⟨rfl, ⟨nd, rfl⟩⟩; refine ⟨_, rfl, ?_⟩; obtain ⟨i036, hi036, _, hsz36, _⟩ := info_parts info3; obtain ⟨hcut36, hA36, hC36⟩ := print_take_of (P := Try.prog) (Value.int .i64) 0 37 3 .i64 Try.underlying37 hi036 hsz36 A0 c0 l0 x9_4 (of_decide_eq_true (by first | (with_reducible assumption) | assumption)) (of_decide_eq_true (by first | (with_reducible assumption) | assumption)) HC0.out; have HR121 := Aside0.mk (Kd.C_of_reads (h1 := fun _ => rfl) (hA36 _ (Kd.reads_of_C HR0.out))); have HC121 := Aside0.mk hC36; clear hA36 hC36 hi036 hsz36) | ((with_reducible refine gate_callee (f := 28) rfl ?_); refine goesL_ (some 46) rfl rfl Try.func28 (by kernel_rfl) rfl #[.slice A0 (l0.take (x9_4 : Int).toNat).length c0] rfl (by (try simp only [List.map_toArray, List.map_cons, List.map_nil]); first | done | (rw [show (l0.take (x9_4 : Int).toNat).length = x9_4.toNat from (by rw [List.length_take]; have h_ : (x9_4 : Int) ≤ (l0.length : Int) := of_decide_eq_true (by first | (with_reducible assumption) | assumption); omega)] <;> rfl) | rfl | (simp only [List.length_drop, List.length_take]; rfl)) ?_; (with_reducible refine (cost_Sum.calls kj4 _ _ (l0.take (x9_4 : Int).toNat) t122 false _ ?side1 ?side2 A13.out).mono ?_); (case side1 => repeat (first | exact HR121.out | (with_reducible refine Kd.C_alloc ?_ _) | (with_reducible refine Kd.C_drewN ?_ _) | (with_reducible refine Kd.C_drew ?_))); (case side2 => exact HC121.out); rintro e w' ⟨rfl, ⟨nd, rfl⟩⟩; refine ⟨_, rfl, ?_⟩) | ((with_reducible refine gate_callee (f := 16) rfl ?_); refine goesL_ (some 52) rfl rfl Try.func16 (by kernel_rfl) rfl #[.int .i64 t119, .int .i64 t122] rfl (by (try simp only [List.map_toArray, List.map_cons, List.map_nil]); first | done | rfl | (simp only [List.length_drop, List.length_take]; rfl)) ?_; (with_reducible refine (cost_Add.calls t119 t122 t124 t125 _ A14.out).mono ?_); rintro e w' ⟨rfl, ⟨nd, rfl⟩⟩; refine ⟨_, rfl, ?_⟩) | (go_at_call 22; (with_reducible refine (cortadolaw02_awake.calls  t129 _ A34.out).mono ?_); rintro e w' ⟨rfl, ⟨nd, rfl⟩⟩))
                      go_ret
                      exact ⟨by first | rfl | (simp; done) | (simp [*]; done), by repeat (first | exact Drawn0.refl _ | apply Drawn0.step)⟩
                  · rw [if_neg c28] at H
                    have c28b0 : (t115 == false) = false := by simpa using c28
                    (try (have c28b1 : decide (t115 = false) = false := by simpa using c28))
                    (try (have c28b2 : (t115 == false) = false := by simpa using c28))
                    (try (have c28b3 : ¬ (t115 = false) := by simpa using c28))
                    clear c28
                    have hr_ := HRT.out
                    rw [hr_] at H
                    exact absurd H (by simp)
              · replace c17 := Bool.eq_false_iff.mpr c17
                subst c17
                have H1 : (if (t115 == false) = true then (if t115 = true then (if t124 = t114 then ((cortadolaw02_awake.f).bind fun t130 => (some t130)) else (some false)) else ((cortadolaw02_awake.f).bind fun t131 => (some t131))) else (some false)) = some r := by rw [if_neg (show ¬ (false = true) by decide)] at H; exact H
                clear H
                have H := H1
                clear H1
                by_cases c37 : (t115 == false) = true
                · rw [if_pos c37] at H
                  have c37b0 : (t115 == false) = true := c37
                  (try (have c37b1 : decide (t115 = false) = true := by simpa using c37))
                  (try (have c37b2 : (t115 == false) = true := by simpa using c37))
                  clear c37
                  by_cases c38 : t115 = true
                  · subst c38
                    have H1 : (if t124 = t114 then ((cortadolaw02_awake.f).bind fun t130 => (some t130)) else (some false)) = some r := by rw [if_pos rfl] at H; exact H
                    clear H
                    have H := H1
                    clear H1
                    by_cases c39 : t124 = t114
                    · rw [if_pos c39] at H
                      have c39b0 : (t124 == t114) = true := beq_iff_eq.mpr c39
                      have c39b1 : (t124 != t114) = false := bne_eq_false_iff_eq.mpr c39
                      clear c39
                      replace H := Option.bind_eq_some_iff.mp H
                      obtain ⟨t130, A400, H⟩ := H
                      replace H : (some t130) = some r := H
                      have A40 := Aside0.mk A400
                      clear A400
                      obtain rfl := Option.some.inj H
                      obtain ⟨i041, hi041, _, hsz41, _⟩ := info_parts info3
                      obtain ⟨A41, hcut41, hA41, hC41⟩ := print_drop_of (P := Try.prog) (Value.int .i64) 0 37 3 .i64 Try.underlying37 hi041 hsz41 A0 c0 l0 x9_4 (of_decide_eq_true (by first | (with_reducible assumption) | assumption)) (of_decide_eq_true (by first | (with_reducible assumption) | assumption)) HC0.out
                      have HR118 := Aside0.mk (Kd.C_of_reads (h1 := fun _ => rfl) (hA41 _ (Kd.reads_of_C HR0.out)))
                      have HC118 := Aside0.mk hC41
                      clear hA41 hC41 hi041 hsz41
                      go_wp2_with (first | ((with_reducible refine gate_callee (f := 28) rfl ?_); refine goesL_ (some 39) rfl rfl Try.func28 (by kernel_rfl) rfl #[.slice A41 (l0.drop (x9_4 : Int).toNat).length (c0 - x9_4.toNat)] rfl (by (try simp only [List.map_toArray, List.map_cons, List.map_nil]); first | done | (rw [show (l0.drop (x9_4 : Int).toNat).length = (l0.length - x9_4.toNat) from List.length_drop] <;> rfl) | rfl | (simp only [List.length_drop, List.length_take]; rfl)) ?_; (with_reducible refine (cost_Sum.calls kj4 _ _ (l0.drop (x9_4 : Int).toNat) t119 false _ ?side1 ?side2 A10.out).mono ?_); (case side1 => repeat (first | exact HR118.out | (with_reducible refine Kd.C_alloc ?_ _) | (with_reducible refine Kd.C_drewN ?_ _) | (with_reducible refine Kd.C_drew ?_))); (case side2 => exact HC118.out); rintro e w' ⟨rfl, ⟨nd, rfl⟩⟩; refine ⟨_, rfl, ?_⟩; obtain ⟨i042, hi042, _, hsz42, _⟩ := info_parts info3; obtain ⟨hcut42, hA42, hC42⟩ := print_take_of (P := Try.prog) (Value.int .i64) 0 37 3 .i64 Try.underlying37 hi042 hsz42 A0 c0 l0 x9_4 (of_decide_eq_true (by first | (with_reducible assumption) | assumption)) (of_decide_eq_true (by first | (with_reducible assumption) | assumption)) HC0.out; have HR121 := Aside0.mk (Kd.C_of_reads (h1 := fun _ => rfl) (hA42 _ (Kd.reads_of_C HR0.out))); have HC121 := Aside0.mk hC42; clear hA42 hC42 hi042 hsz42) | ((with_reducible refine gate_callee (f := 28) rfl ?_); refine goesL_ (some 46) rfl rfl Try.func28 (by kernel_rfl) rfl #[.slice A0 (l0.take (x9_4 : Int).toNat).length c0] rfl (by (try simp only [List.map_toArray, List.map_cons, List.map_nil]); first | done | (rw [show (l0.take (x9_4 : Int).toNat).length = x9_4.toNat from (by rw [List.length_take]; have h_ : (x9_4 : Int) ≤ (l0.length : Int) := of_decide_eq_true (by first | (with_reducible assumption) | assumption); omega)] <;> rfl) | rfl | (simp only [List.length_drop, List.length_take]; rfl)) ?_; (with_reducible refine (cost_Sum.calls kj4 _ _ (l0.take (x9_4 : Int).toNat) t122 t123 _ ?side1 ?side2 A13.out).mono ?_); (case side1 => repeat (first | exact HR121.out | (with_reducible refine Kd.C_alloc ?_ _) | (with_reducible refine Kd.C_drewN ?_ _) | (with_reducible refine Kd.C_drew ?_))); (case side2 => exact HC121.out); rintro e w' ⟨rfl, ⟨nd, rfl⟩⟩; refine ⟨_, rfl, ?_⟩) | ((with_reducible refine gate_callee (f := 16) rfl ?_); refine goesL_ (some 52) rfl rfl Try.func16 (by kernel_rfl) rfl #[.int .i64 t119, .int .i64 t122] rfl (by (try simp only [List.map_toArray, List.map_cons, List.map_nil]); first | done | rfl | (simp only [List.length_drop, List.length_take]; rfl)) ?_; (with_reducible refine (cost_Add.calls t119 t122 t124 t125 _ A14.out).mono ?_); rintro e w' ⟨rfl, ⟨nd, rfl⟩⟩; refine ⟨_, rfl, ?_⟩) | (go_at_call 22; (with_reducible refine (cortadolaw02_awake.calls  t130 _ A40.out).mono ?_); rintro e w' ⟨rfl, ⟨nd, rfl⟩⟩))
                      go_ret
                      exact ⟨by first | rfl | (simp; done) | (simp [*]; done), by repeat (first | exact Drawn0.refl _ | apply Drawn0.step)⟩
                    · rw [if_neg c39] at H
                      have c39b0 : (t124 == t114) = false := beq_eq_false_iff_ne.mpr c39
                      have c39b1 : (t124 != t114) = true := bne_iff_ne.mpr c39
                      have hr_ := HRT.out
                      rw [hr_] at H
                      exact absurd H (by simp)
                  · replace c38 := Bool.eq_false_iff.mpr c38
                    subst c38
                    have H1 : ((cortadolaw02_awake.f).bind fun t131 => (some t131)) = some r := by rw [if_neg (show ¬ (false = true) by decide)] at H; exact H
                    clear H
                    have H := H1
                    clear H1
                    replace H := Option.bind_eq_some_iff.mp H
                    obtain ⟨t131, A430, H⟩ := H
                    replace H : (some t131) = some r := H
                    have A43 := Aside0.mk A430
                    clear A430
                    obtain rfl := Option.some.inj H
                    obtain ⟨i044, hi044, _, hsz44, _⟩ := info_parts info3
                    obtain ⟨A44, hcut44, hA44, hC44⟩ := print_drop_of (P := Try.prog) (Value.int .i64) 0 37 3 .i64 Try.underlying37 hi044 hsz44 A0 c0 l0 x9_4 (of_decide_eq_true (by first | (with_reducible assumption) | assumption)) (of_decide_eq_true (by first | (with_reducible assumption) | assumption)) HC0.out
                    have HR118 := Aside0.mk (Kd.C_of_reads (h1 := fun _ => rfl) (hA44 _ (Kd.reads_of_C HR0.out)))
                    have HC118 := Aside0.mk hC44
                    clear hA44 hC44 hi044 hsz44
                    go_wp2_with (first | ((with_reducible refine gate_callee (f := 28) rfl ?_); refine goesL_ (some 39) rfl rfl Try.func28 (by kernel_rfl) rfl #[.slice A44 (l0.drop (x9_4 : Int).toNat).length (c0 - x9_4.toNat)] rfl (by (try simp only [List.map_toArray, List.map_cons, List.map_nil]); first | done | (rw [show (l0.drop (x9_4 : Int).toNat).length = (l0.length - x9_4.toNat) from List.length_drop] <;> rfl) | rfl | (simp only [List.length_drop, List.length_take]; rfl)) ?_; (with_reducible refine (cost_Sum.calls kj4 _ _ (l0.drop (x9_4 : Int).toNat) t119 false _ ?side1 ?side2 A10.out).mono ?_); (case side1 => repeat (first | exact HR118.out | (with_reducible refine Kd.C_alloc ?_ _) | (with_reducible refine Kd.C_drewN ?_ _) | (with_reducible refine Kd.C_drew ?_))); (case side2 => exact HC118.out); rintro e w' ⟨rfl, ⟨nd, rfl⟩⟩; refine ⟨_, rfl, ?_⟩; obtain ⟨i045, hi045, _, hsz45, _⟩ := info_parts info3; obtain ⟨hcut45, hA45, hC45⟩ := print_take_of (P := Try.prog) (Value.int .i64) 0 37 3 .i64 Try.underlying37 hi045 hsz45 A0 c0 l0 x9_4 (of_decide_eq_true (by first | (with_reducible assumption) | assumption)) (of_decide_eq_true (by first | (with_reducible assumption) | assumption)) HC0.out; have HR121 := Aside0.mk (Kd.C_of_reads (h1 := fun _ => rfl) (hA45 _ (Kd.reads_of_C HR0.out))); have HC121 := Aside0.mk hC45; clear hA45 hC45 hi045 hsz45) | ((with_reducible refine gate_callee (f := 28) rfl ?_); refine goesL_ (some 46) rfl rfl Try.func28 (by kernel_rfl) rfl #[.slice A0 (l0.take (x9_4 : Int).toNat).length c0] rfl (by (try simp only [List.map_toArray, List.map_cons, List.map_nil]); first | done | (rw [show (l0.take (x9_4 : Int).toNat).length = x9_4.toNat from (by rw [List.length_take]; have h_ : (x9_4 : Int) ≤ (l0.length : Int) := of_decide_eq_true (by first | (with_reducible assumption) | assumption); omega)] <;> rfl) | rfl | (simp only [List.length_drop, List.length_take]; rfl)) ?_; (with_reducible refine (cost_Sum.calls kj4 _ _ (l0.take (x9_4 : Int).toNat) t122 t123 _ ?side1 ?side2 A13.out).mono ?_); (case side1 => repeat (first | exact HR121.out | (with_reducible refine Kd.C_alloc ?_ _) | (with_reducible refine Kd.C_drewN ?_ _) | (with_reducible refine Kd.C_drew ?_))); (case side2 => exact HC121.out); rintro e w' ⟨rfl, ⟨nd, rfl⟩⟩; refine ⟨_, rfl, ?_⟩) | ((with_reducible refine gate_callee (f := 16) rfl ?_); refine goesL_ (some 52) rfl rfl Try.func16 (by kernel_rfl) rfl #[.int .i64 t119, .int .i64 t122] rfl (by (try simp only [List.map_toArray, List.map_cons, List.map_nil]); first | done | rfl | (simp only [List.length_drop, List.length_take]; rfl)) ?_; (with_reducible refine (cost_Add.calls t119 t122 t124 t125 _ A14.out).mono ?_); rintro e w' ⟨rfl, ⟨nd, rfl⟩⟩; refine ⟨_, rfl, ?_⟩) | (go_at_call 22; (with_reducible refine (cortadolaw02_awake.calls  t131 _ A43.out).mono ?_); rintro e w' ⟨rfl, ⟨nd, rfl⟩⟩))
                    go_ret
                    exact ⟨by first | rfl | (simp; done) | (simp [*]; done), by repeat (first | exact Drawn0.refl _ | apply Drawn0.step)⟩
                · rw [if_neg c37] at H
                  have c37b0 : (t115 == false) = false := by simpa using c37
                  (try (have c37b1 : decide (t115 = false) = false := by simpa using c37))
                  (try (have c37b2 : (t115 == false) = false := by simpa using c37))
                  (try (have c37b3 : ¬ (t115 = false) := by simpa using c37))
                  clear c37
                  have hr_ := HRT.out
                  rw [hr_] at H
                  exact absurd H (by simp)
            · rw [if_neg c16] at H
              have c16b0 : (t115 == t117) = false := by simpa using c16
              (try (have c16b1 : decide (t115 = t117) = false := by simpa using c16))
              (try (have c16b2 : (t115 == t117) = false := by simpa using c16))
              (try (have c16b3 : ¬ (t115 = t117) := by simpa using c16))
              clear c16
              have hr_ := HRT.out
              rw [hr_] at H
              exact absurd H (by simp)
          · rw [if_neg c15] at H
            have c15b0 : (t114 == t116) = false := beq_eq_false_iff_ne.mpr c15
            have c15b1 : (t114 != t116) = true := bne_iff_ne.mpr c15
            have hr_ := HRT.out
            rw [hr_] at H
            exact absurd H (by simp)
        · rw [if_neg c9] at H
          exact absurd H (by simp)
      · rw [if_neg c8] at H
        exact absurd H (by simp)

/-- THE ONE PURE STATEMENT of cortadolaw02_CostSums: yours. -/
def cortadolaw02_CostSums.Pure : Prop := ∀ (l0 : List Int) (a1 : Int), l0.length ≤ maxLen → l0.length * 8 ≤ 140737488351232 → (∀ x ∈ l0, (Lit.int .i64 x).wf = true) → (Lit.int .u64 a1).wf = true → ∃ k, cortadolaw02_CostSums.f k l0 a1 = some true
theorem cortadolaw02_CostSums.walk (P : cortadolaw02_CostSums.Pure) (a0 : Option Addr) (len0 cap0 : Nat) (z0 : List Int) (a1 : Int) (w : World) (w0 : (a0 = none ∧ len0 = 0 ∧ cap0 = 0 ∧ z0 = []) ∨ ∃ x, a0 = some x ∧ len0 ≤ cap0 ∧ cap0 ≤ maxLen ∧ z0.length = cap0 ∧ (∀ i, i < z0.length → w.cell? (x.add i) = some (.int .i64 (z0.getD i 0))) ∧ ∀ n ∈ z0, (Lit.int .i64 n).wf = true) (y0 : len0 * 8 ≤ 140737488351232) (w1 : (Lit.int .u64 a1).wf = true) :
    Calls Try.prog 7 #[.slice a0 len0 cap0, .int .u64 a1] w fun e w' => e = .returned (.bool true) ∧ Below w.heap.size w w' := by
  obtain ⟨l0, rfl, hr0, hm0, hw0, hc0⟩ := ReadsInt.ofRowC w0
  obtain ⟨k, h⟩ := P l0 a1 hm0 y0 hw0 w1
  refine (cortadolaw02_CostSums.calls k _ _ l0 a1 true w (Kd.C_of_reads (d := (0 : Int)) (h1 := fun _ => rfl) hr0) hc0 rfl h).mono ?_
  rintro e w' ⟨rfl, hd⟩
  exact ⟨rfl, hd.below⟩

end Go.Proofs.Ytjmlahdnbedkcaa.HCostSums
