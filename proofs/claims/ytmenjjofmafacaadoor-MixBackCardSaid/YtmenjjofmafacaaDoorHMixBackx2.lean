-- Laid by hybrid.py, a program of this session's: the kit's printer over this seat, with functions proved by hand beside it.
import Derived.Test.YtmenjjofmafacaaDoorHMixBackx0
import Derived.Test.YtmenjjofmafacaaDoorHMixBackx1
namespace Go.Proofs.YtmenjjofmafacaaDoor.HMixBack
open Go.RowKit Go.Proofs.YtmenjjofmafacaaDoorW.PrintWords Go.Proofs.YtmenjjofmafacaaDoorW.PrintLast Go.Proofs.YtmenjjofmafacaaDoorW.PrintMore
attribute [local go_sem] max2_int min2_int max_two min_two max_three min_three max_four min_four   -- for this text's walks alone
set_option linter.unusedVariables false
set_option linter.unusedSimpArgs false

/-! ### cortadolaw03_MixBack: function 3 -/
mutual
def cortadolaw03_MixBack.j0 : Nat → Int → Int → Bool → Option (Bool)
  | 0, _, _, _ => none
  | k + 1, x0, x1, x16 => if x16 = true then (some false) else ((mix_Mix.f x0).bind fun t114 => ((mix_Unmix.f k t114).bind fun t115 => (if t115 = x0 then ((mix_Unmix.f k x0).bind fun t116 => ((mix_Mix.f t116).bind fun t117 => (if t117 = x0 then ((mix_Twist.f x0).bind fun t118 => ((mix_Untwist.f k t118).bind fun t119 => (if t119 = x0 then ((mix_Untwist.f k x0).bind fun t120 => ((mix_Twist.f t120).bind fun t121 => (cortadolaw03_MixBack.j1 k x0 x1 (t121 != x0)))) else (cortadolaw03_MixBack.j1 k x0 x1 true)))) else (cortadolaw03_MixBack.j1 k x0 x1 true)))) else (cortadolaw03_MixBack.j1 k x0 x1 true))))
def cortadolaw03_MixBack.j1 : Nat → Int → Int → Bool → Option (Bool)
  | 0, _, _, _ => none
  | k + 1, x0, x1, x42 => if x42 = true then (some false) else ((mix_Mix.f x0).bind fun t122 => ((mix_Mix.f x1).bind fun t123 => (if ((t122 == t123) == (x0 == x1)) = true then ((mix_Twist.f x0).bind fun t124 => ((mix_Twist.f x1).bind fun t125 => (if ((t124 == t125) == (x0 == x1)) = true then ((cortadolaw03_awake.f k).bind fun t126 => (some t126)) else (some false)))) else (some false))))
end
def cortadolaw03_MixBack.f (k : Nat) (a0 : Int) (a1 : Int) : Option (Bool) := (mix_Mix.f a0).bind fun t110 => ((cortadoref03_Mix.f k a0).bind fun t111 => (if t110 = t111 then ((mix_Twist.f a0).bind fun t112 => ((cortadoref03_Twist.f k a0).bind fun t113 => (cortadolaw03_MixBack.j0 k a0 a1 (t112 != t113)))) else (cortadolaw03_MixBack.j0 k a0 a1 true)))
theorem cortadolaw03_MixBack.mono_l : ∀ k, (∀ y0 y1 y2, LeO (cortadolaw03_MixBack.j0 k y0 y1 y2) (cortadolaw03_MixBack.j0 (k + 1) y0 y1 y2)) ∧ (∀ y0 y1 y2, LeO (cortadolaw03_MixBack.j1 k y0 y1 y2) (cortadolaw03_MixBack.j1 (k + 1) y0 y1 y2))
  | 0 => ⟨fun _ _ _ r h => by simp [cortadolaw03_MixBack.j0] at h, fun _ _ _ r h => by simp [cortadolaw03_MixBack.j1] at h⟩
  | k + 1 => by
    obtain ⟨ih0, ih1⟩ := cortadolaw03_MixBack.mono_l k
    refine ⟨?_, ?_⟩
    · intro y0 y1 y2
      unfold cortadolaw03_MixBack.j0
      repeat' first
      | (with_reducible exact ih0 _ _ _)
      | (with_reducible exact ih1 _ _ _)
      | (with_reducible exact cortadolaw03_awake.mono _)
      | (with_reducible exact cortadoref03_Mix.mono _ _)
      | (with_reducible exact cortadoref03_Twist.mono _ _)
      | (with_reducible exact mix_Unmix.mono _ _)
      | (with_reducible exact mix_Untwist.mono _ _)
      | (with_reducible exact LeO.refl _)
      | (with_reducible exact LeO.none _)
      | (with_reducible refine LeO.ite ?_ ?_)
      | (with_reducible refine LeO.bind ?_ (fun _ => ?_))
      | exact ih0 _ _ _
      | exact ih1 _ _ _
      | exact cortadolaw03_awake.mono _
      | exact cortadoref03_Mix.mono _ _
      | exact cortadoref03_Twist.mono _ _
      | exact mix_Unmix.mono _ _
      | exact mix_Untwist.mono _ _
      | exact LeO.none _
      | refine LeO.ite ?_ ?_
      | refine LeO.bind ?_ (fun _ => ?_)
    · intro y0 y1 y2
      unfold cortadolaw03_MixBack.j1
      repeat' first
      | (with_reducible exact ih0 _ _ _)
      | (with_reducible exact ih1 _ _ _)
      | (with_reducible exact cortadolaw03_awake.mono _)
      | (with_reducible exact cortadoref03_Mix.mono _ _)
      | (with_reducible exact cortadoref03_Twist.mono _ _)
      | (with_reducible exact mix_Unmix.mono _ _)
      | (with_reducible exact mix_Untwist.mono _ _)
      | (with_reducible exact LeO.refl _)
      | (with_reducible exact LeO.none _)
      | (with_reducible refine LeO.ite ?_ ?_)
      | (with_reducible refine LeO.bind ?_ (fun _ => ?_))
      | exact ih0 _ _ _
      | exact ih1 _ _ _
      | exact cortadolaw03_awake.mono _
      | exact cortadoref03_Mix.mono _ _
      | exact cortadoref03_Twist.mono _ _
      | exact mix_Unmix.mono _ _
      | exact mix_Untwist.mono _ _
      | exact LeO.none _
      | refine LeO.ite ?_ ?_
      | refine LeO.bind ?_ (fun _ => ?_)
theorem cortadolaw03_MixBack.mono : ∀ a0 a1 k, LeO (cortadolaw03_MixBack.f k a0 a1) (cortadolaw03_MixBack.f (k + 1) a0 a1) := by
  intro a0 a1 k
  obtain ⟨ih0, ih1⟩ := cortadolaw03_MixBack.mono_l k
  unfold cortadolaw03_MixBack.f
  repeat' first
      | (with_reducible exact ih0 _ _ _)
      | (with_reducible exact ih1 _ _ _)
      | (with_reducible exact cortadolaw03_awake.mono _)
      | (with_reducible exact cortadoref03_Mix.mono _ _)
      | (with_reducible exact cortadoref03_Twist.mono _ _)
      | (with_reducible exact mix_Unmix.mono _ _)
      | (with_reducible exact mix_Untwist.mono _ _)
      | (with_reducible exact LeO.refl _)
      | (with_reducible exact LeO.none _)
      | (with_reducible refine LeO.ite ?_ ?_)
      | (with_reducible refine LeO.bind ?_ (fun _ => ?_))
      | exact ih0 _ _ _
      | exact ih1 _ _ _
      | exact cortadolaw03_awake.mono _
      | exact cortadoref03_Mix.mono _ _
      | exact cortadoref03_Twist.mono _ _
      | exact mix_Unmix.mono _ _
      | exact mix_Untwist.mono _ _
      | exact LeO.none _
      | refine LeO.ite ?_ ?_
      | refine LeO.bind ?_ (fun _ => ?_)
set_option maxHeartbeats 8000000 in
set_option maxRecDepth 100000 in
theorem cortadolaw03_MixBack.calls (k : Nat) (a0 : Int) (a1 : Int) (r : Bool) (w : World) (hG : MixLaid w) (hr_ : r = true) (h : cortadolaw03_MixBack.f k a0 a1 = some r) :
    Calls Tryd.prog 3 #[.int .u64 a0, .int .u64 a1] w fun e w' => e = .returned (.bool r) ∧ Below w.heap.size w w' := by
  have HG := Aside0.mk hG
  clear hG
  have HRT := Aside0.mk hr_
  clear hr_
  have HB := Aside0.mk (Below.refl w.heap.size w)
  have H : ((mix_Mix.f a0).bind fun t110 => ((cortadoref03_Mix.f k a0).bind fun t111 => (if t110 = t111 then ((mix_Twist.f a0).bind fun t112 => ((cortadoref03_Twist.f k a0).bind fun t113 => (cortadolaw03_MixBack.j0 k a0 a1 (t112 != t113)))) else (cortadolaw03_MixBack.j0 k a0 a1 true)))) = some r := h
  clear h
  have HC3 := Aside0.mk H
  clear H
  go_enter Tryd.func3, Tryd.ntmps3
  go_upto_region 1 with (fail)
  go_cut [16] (fun v16 wc => ∃ (kq : Nat) (x16_2 : Bool), v16 = .bool x16_2 ∧ Aside0 (cortadolaw03_MixBack.j0 kq a0 a1 x16_2 = some r) ∧ Aside0 (kq ≤ k) ∧ Aside0 (Below w.heap.size w wc))
  case first =>
    have H := HC3.out
    clear HC3
    replace H := Option.bind_eq_some_iff.mp H
    obtain ⟨t110, A40, H⟩ := H
    replace H : ((cortadoref03_Mix.f k a0).bind fun t111 => (if t110 = t111 then ((mix_Twist.f a0).bind fun t112 => ((cortadoref03_Twist.f k a0).bind fun t113 => (cortadolaw03_MixBack.j0 k a0 a1 (t112 != t113)))) else (cortadolaw03_MixBack.j0 k a0 a1 true))) = some r := H
    have A4 := Aside0.mk A40
    clear A40
    replace H := Option.bind_eq_some_iff.mp H
    obtain ⟨t111, A50, H⟩ := H
    replace H : (if t110 = t111 then ((mix_Twist.f a0).bind fun t112 => ((cortadoref03_Twist.f k a0).bind fun t113 => (cortadolaw03_MixBack.j0 k a0 a1 (t112 != t113)))) else (cortadolaw03_MixBack.j0 k a0 a1 true)) = some r := H
    have A5 := Aside0.mk A50
    clear A50
    by_cases c6 : t110 = t111
    · rw [if_pos c6] at H
      have c6b0 : (t110 == t111) = true := beq_iff_eq.mpr c6
      have c6b1 : (t110 != t111) = false := bne_eq_false_iff_eq.mpr c6
      clear c6
      (first | rw [c6b0] | (simp only [i64_w, i32_w]; rw [c6b0]) | skip)
      replace H := Option.bind_eq_some_iff.mp H
      obtain ⟨t112, A70, H⟩ := H
      replace H : ((cortadoref03_Twist.f k a0).bind fun t113 => (cortadolaw03_MixBack.j0 k a0 a1 (t112 != t113))) = some r := H
      have A7 := Aside0.mk A70
      clear A70
      replace H := Option.bind_eq_some_iff.mp H
      obtain ⟨t113, A80, H⟩ := H
      replace H : (cortadolaw03_MixBack.j0 k a0 a1 (t112 != t113)) = some r := H
      have A8 := Aside0.mk A80
      clear A80
      have H' := Aside0.mk H
      clear H
      go_wp2_with (first | ((with_reducible refine gate_callee (f := 7) rfl ?_); refine goesL_ (some 6) rfl rfl Tryd.func7 (by kernel_rfl) rfl #[.int .u64 a0] rfl (by (try simp only [List.map_toArray, List.map_cons, List.map_nil]); first | done | rfl | (simp only [List.length_drop, List.length_take]; rfl)) ?_; (with_reducible refine (mix_Mix.calls a0 t110 _ (by first | exact HG.out | exact MixLaid.below (by repeat (first | (with_reducible first | exact HB.out | apply below_alloc | apply pw_below_drewN | apply below_drew1) | exact HB.out)) HG.out) A4.out).mono ?_); rintro e w9 ⟨rfl, hb⟩; refine ⟨_, rfl, ?_⟩; have n0_ := Aside0.mk (below_step (by repeat (first | (with_reducible first | exact HB.out | apply below_alloc | apply pw_below_drewN | apply below_drew1) | exact HB.out)) hb); clear HB; have HB := n0_; clear n0_; (try clear hb); (try clear hb2); (try clear hk); (try clear hi)) | ((with_reducible refine gate_callee (f := 8) rfl ?_); refine goesL_ (some 8) rfl rfl Tryd.func8 (by kernel_rfl) rfl #[.int .u64 a0] rfl (by (try simp only [List.map_toArray, List.map_cons, List.map_nil]); first | done | rfl | (simp only [List.length_drop, List.length_take]; rfl)) ?_; (with_reducible refine (cortadoref03_Mix.calls k a0 t111 _ A5.out).mono ?_); rintro e w' ⟨rfl, ⟨nd, rfl⟩⟩; refine ⟨_, rfl, ?_⟩) | (go_at_call 9; (with_reducible refine (mix_Twist.calls a0 t112 _ (by first | exact HG.out | exact MixLaid.below (by repeat (first | (with_reducible first | exact HB.out | apply below_alloc | apply pw_below_drewN | apply below_drew1) | exact HB.out)) HG.out) A7.out).mono ?_); rintro e w10 ⟨rfl, hb⟩; have n0_ := Aside0.mk (below_step (by repeat (first | (with_reducible first | exact HB.out | apply below_alloc | apply pw_below_drewN | apply below_drew1) | exact HB.out)) hb); clear HB; have HB := n0_; clear n0_; (try clear hb); (try clear hb2); (try clear hk); (try clear hi)) | (go_at_call 10; (with_reducible refine (cortadoref03_Twist.calls k a0 t113 _ A8.out).mono ?_); rintro e w' ⟨rfl, ⟨nd, rfl⟩⟩))
      go_meet
      case rel => exact ⟨_, ((t112 != t113)), (by first | rfl | (simp; done) | (simp [*]; done)), H', ⟨by first | omega | exact Nat.le_refl _⟩, ⟨by repeat (first | (with_reducible first | exact HB.out | apply below_alloc | apply pw_below_drewN | apply below_drew1) | exact HB.out)⟩⟩
    · rw [if_neg c6] at H
      have c6b0 : (t110 == t111) = false := beq_eq_false_iff_ne.mpr c6
      have c6b1 : (t110 != t111) = true := bne_iff_ne.mpr c6
      (first | rw [c6b0] | (simp only [i64_w, i32_w]; rw [c6b0]) | skip)
      have H' := Aside0.mk H
      clear H
      go_wp2_with (first | ((with_reducible refine gate_callee (f := 7) rfl ?_); refine goesL_ (some 6) rfl rfl Tryd.func7 (by kernel_rfl) rfl #[.int .u64 a0] rfl (by (try simp only [List.map_toArray, List.map_cons, List.map_nil]); first | done | rfl | (simp only [List.length_drop, List.length_take]; rfl)) ?_; (with_reducible refine (mix_Mix.calls a0 t110 _ (by first | exact HG.out | exact MixLaid.below (by repeat (first | (with_reducible first | exact HB.out | apply below_alloc | apply pw_below_drewN | apply below_drew1) | exact HB.out)) HG.out) A4.out).mono ?_); rintro e w11 ⟨rfl, hb⟩; refine ⟨_, rfl, ?_⟩; have n0_ := Aside0.mk (below_step (by repeat (first | (with_reducible first | exact HB.out | apply below_alloc | apply pw_below_drewN | apply below_drew1) | exact HB.out)) hb); clear HB; have HB := n0_; clear n0_; (try clear hb); (try clear hb2); (try clear hk); (try clear hi)) | ((with_reducible refine gate_callee (f := 8) rfl ?_); refine goesL_ (some 8) rfl rfl Tryd.func8 (by kernel_rfl) rfl #[.int .u64 a0] rfl (by (try simp only [List.map_toArray, List.map_cons, List.map_nil]); first | done | rfl | (simp only [List.length_drop, List.length_take]; rfl)) ?_; (with_reducible refine (cortadoref03_Mix.calls k a0 t111 _ A5.out).mono ?_); rintro e w' ⟨rfl, ⟨nd, rfl⟩⟩; refine ⟨_, rfl, ?_⟩))
      go_meet
      case rel => exact ⟨_, (true), (by first | rfl | (simp; done) | (simp [*]; done)), H', ⟨by first | omega | exact Nat.le_refl _⟩, ⟨by repeat (first | (with_reducible first | exact HB.out | apply below_alloc | apply pw_below_drewN | apply below_drew1) | exact HB.out)⟩⟩
  case rest =>
    clear HC3
    try clear p2
    try clear c3
    try clear c6
    try clear c6b0
    try clear c6b1
    try clear c7
    try clear c8
    obtain ⟨kq, x16_2, rfl, HA, HJ2, HB⟩ := hcut
    cases kq with
    | zero => exact absurd HA.out (by simp [cortadolaw03_MixBack.j0])
    | succ kj2 =>
      have H := HA.out
      clear HA
      simp only [cortadolaw03_MixBack.j0] at H
      by_cases c12 : x16_2 = true
      · subst c12
        have H1 : (some false) = some r := by rw [if_pos rfl] at H; exact H
        clear H
        have H := H1
        clear H1
        have hr_ := HRT.out
        rw [hr_] at H
        exact absurd H (by simp)
      · replace c12 := Bool.eq_false_iff.mpr c12
        subst c12
        have H1 : ((mix_Mix.f a0).bind fun t114 => ((mix_Unmix.f kj2 t114).bind fun t115 => (if t115 = a0 then ((mix_Unmix.f kj2 a0).bind fun t116 => ((mix_Mix.f t116).bind fun t117 => (if t117 = a0 then ((mix_Twist.f a0).bind fun t118 => ((mix_Untwist.f kj2 t118).bind fun t119 => (if t119 = a0 then ((mix_Untwist.f kj2 a0).bind fun t120 => ((mix_Twist.f t120).bind fun t121 => (cortadolaw03_MixBack.j1 kj2 a0 a1 (t121 != a0)))) else (cortadolaw03_MixBack.j1 kj2 a0 a1 true)))) else (cortadolaw03_MixBack.j1 kj2 a0 a1 true)))) else (cortadolaw03_MixBack.j1 kj2 a0 a1 true)))) = some r := by rw [if_neg (show ¬ (false = true) by decide)] at H; exact H
        clear H
        have H := H1
        clear H1
        have HC13 := Aside0.mk H
        clear H
        go_upto_region 3 with (fail)
        go_cut [42] (fun v42 wc => ∃ (kq : Nat) (x42_12 : Bool), v42 = .bool x42_12 ∧ Aside0 (cortadolaw03_MixBack.j1 kq a0 a1 x42_12 = some r) ∧ Aside0 (kq ≤ kj2) ∧ Aside0 (Below w.heap.size w wc))
        case first =>
          have H := HC13.out
          clear HC13
          replace H := Option.bind_eq_some_iff.mp H
          obtain ⟨t114, A140, H⟩ := H
          replace H : ((mix_Unmix.f kj2 t114).bind fun t115 => (if t115 = a0 then ((mix_Unmix.f kj2 a0).bind fun t116 => ((mix_Mix.f t116).bind fun t117 => (if t117 = a0 then ((mix_Twist.f a0).bind fun t118 => ((mix_Untwist.f kj2 t118).bind fun t119 => (if t119 = a0 then ((mix_Untwist.f kj2 a0).bind fun t120 => ((mix_Twist.f t120).bind fun t121 => (cortadolaw03_MixBack.j1 kj2 a0 a1 (t121 != a0)))) else (cortadolaw03_MixBack.j1 kj2 a0 a1 true)))) else (cortadolaw03_MixBack.j1 kj2 a0 a1 true)))) else (cortadolaw03_MixBack.j1 kj2 a0 a1 true))) = some r := H
          have A14 := Aside0.mk A140
          clear A140
          replace H := Option.bind_eq_some_iff.mp H
          obtain ⟨t115, A150, H⟩ := H
          replace H : (if t115 = a0 then ((mix_Unmix.f kj2 a0).bind fun t116 => ((mix_Mix.f t116).bind fun t117 => (if t117 = a0 then ((mix_Twist.f a0).bind fun t118 => ((mix_Untwist.f kj2 t118).bind fun t119 => (if t119 = a0 then ((mix_Untwist.f kj2 a0).bind fun t120 => ((mix_Twist.f t120).bind fun t121 => (cortadolaw03_MixBack.j1 kj2 a0 a1 (t121 != a0)))) else (cortadolaw03_MixBack.j1 kj2 a0 a1 true)))) else (cortadolaw03_MixBack.j1 kj2 a0 a1 true)))) else (cortadolaw03_MixBack.j1 kj2 a0 a1 true)) = some r := H
          have A15 := Aside0.mk A150
          clear A150
          by_cases c16 : t115 = a0
          · rw [if_pos c16] at H
            have c16b0 : (t115 == a0) = true := beq_iff_eq.mpr c16
            have c16b1 : (t115 != a0) = false := bne_eq_false_iff_eq.mpr c16
            clear c16
            (first | rw [c16b0] | (simp only [i64_w, i32_w]; rw [c16b0]) | skip)
            replace H := Option.bind_eq_some_iff.mp H
            obtain ⟨t116, A170, H⟩ := H
            replace H : ((mix_Mix.f t116).bind fun t117 => (if t117 = a0 then ((mix_Twist.f a0).bind fun t118 => ((mix_Untwist.f kj2 t118).bind fun t119 => (if t119 = a0 then ((mix_Untwist.f kj2 a0).bind fun t120 => ((mix_Twist.f t120).bind fun t121 => (cortadolaw03_MixBack.j1 kj2 a0 a1 (t121 != a0)))) else (cortadolaw03_MixBack.j1 kj2 a0 a1 true)))) else (cortadolaw03_MixBack.j1 kj2 a0 a1 true))) = some r := H
            have A17 := Aside0.mk A170
            clear A170
            replace H := Option.bind_eq_some_iff.mp H
            obtain ⟨t117, A180, H⟩ := H
            replace H : (if t117 = a0 then ((mix_Twist.f a0).bind fun t118 => ((mix_Untwist.f kj2 t118).bind fun t119 => (if t119 = a0 then ((mix_Untwist.f kj2 a0).bind fun t120 => ((mix_Twist.f t120).bind fun t121 => (cortadolaw03_MixBack.j1 kj2 a0 a1 (t121 != a0)))) else (cortadolaw03_MixBack.j1 kj2 a0 a1 true)))) else (cortadolaw03_MixBack.j1 kj2 a0 a1 true)) = some r := H
            have A18 := Aside0.mk A180
            clear A180
            by_cases c19 : t117 = a0
            · rw [if_pos c19] at H
              have c19b0 : (t117 == a0) = true := beq_iff_eq.mpr c19
              have c19b1 : (t117 != a0) = false := bne_eq_false_iff_eq.mpr c19
              clear c19
              replace H := Option.bind_eq_some_iff.mp H
              obtain ⟨t118, A200, H⟩ := H
              replace H : ((mix_Untwist.f kj2 t118).bind fun t119 => (if t119 = a0 then ((mix_Untwist.f kj2 a0).bind fun t120 => ((mix_Twist.f t120).bind fun t121 => (cortadolaw03_MixBack.j1 kj2 a0 a1 (t121 != a0)))) else (cortadolaw03_MixBack.j1 kj2 a0 a1 true))) = some r := H
              have A20 := Aside0.mk A200
              clear A200
              replace H := Option.bind_eq_some_iff.mp H
              obtain ⟨t119, A210, H⟩ := H
              replace H : (if t119 = a0 then ((mix_Untwist.f kj2 a0).bind fun t120 => ((mix_Twist.f t120).bind fun t121 => (cortadolaw03_MixBack.j1 kj2 a0 a1 (t121 != a0)))) else (cortadolaw03_MixBack.j1 kj2 a0 a1 true)) = some r := H
              have A21 := Aside0.mk A210
              clear A210
              by_cases c22 : t119 = a0
              · rw [if_pos c22] at H
                have c22b0 : (t119 == a0) = true := beq_iff_eq.mpr c22
                have c22b1 : (t119 != a0) = false := bne_eq_false_iff_eq.mpr c22
                clear c22
                replace H := Option.bind_eq_some_iff.mp H
                obtain ⟨t120, A230, H⟩ := H
                replace H : ((mix_Twist.f t120).bind fun t121 => (cortadolaw03_MixBack.j1 kj2 a0 a1 (t121 != a0))) = some r := H
                have A23 := Aside0.mk A230
                clear A230
                replace H := Option.bind_eq_some_iff.mp H
                obtain ⟨t121, A240, H⟩ := H
                replace H : (cortadolaw03_MixBack.j1 kj2 a0 a1 (t121 != a0)) = some r := H
                have A24 := Aside0.mk A240
                clear A240
                have H' := Aside0.mk H
                clear H
                go_wp2_with (first | ((with_reducible refine gate_callee (f := 7) rfl ?_); refine goesL_ (some 18) rfl rfl Tryd.func7 (by kernel_rfl) rfl #[.int .u64 a0] rfl (by (try simp only [List.map_toArray, List.map_cons, List.map_nil]); first | done | rfl | (simp only [List.length_drop, List.length_take]; rfl)) ?_; (with_reducible refine (mix_Mix.calls a0 t114 _ (by first | exact HG.out | exact MixLaid.below (by repeat (first | (with_reducible first | exact HB.out | apply below_alloc | apply pw_below_drewN | apply below_drew1) | exact HB.out)) HG.out) A14.out).mono ?_); rintro e w25 ⟨rfl, hb⟩; refine ⟨_, rfl, ?_⟩; have n0_ := Aside0.mk (below_step (by repeat (first | (with_reducible first | exact HB.out | apply below_alloc | apply pw_below_drewN | apply below_drew1) | exact HB.out)) hb); clear HB; have HB := n0_; clear n0_; (try clear hb); (try clear hb2); (try clear hk); (try clear hi)) | ((with_reducible refine gate_callee (f := 11) rfl ?_); refine goesL_ (some 19) rfl rfl Tryd.func11 (by kernel_rfl) rfl #[.int .u64 t114] rfl (by (try simp only [List.map_toArray, List.map_cons, List.map_nil]); first | done | rfl | (simp only [List.length_drop, List.length_take]; rfl)) ?_; (with_reducible refine (mix_Unmix.calls kj2 t114 t115 _ (by first | exact HG.out | exact MixLaid.below (by repeat (first | (with_reducible first | exact HB.out | apply below_alloc | apply pw_below_drewN | apply below_drew1) | exact HB.out)) HG.out) A15.out).mono ?_); rintro e w26 ⟨rfl, hb⟩; refine ⟨_, rfl, ?_⟩; have n0_ := Aside0.mk (below_step (by repeat (first | (with_reducible first | exact HB.out | apply below_alloc | apply pw_below_drewN | apply below_drew1) | exact HB.out)) hb); clear HB; have HB := n0_; clear n0_; (try clear hb); (try clear hb2); (try clear hk); (try clear hi)) | (go_at_call 11; (with_reducible refine (mix_Unmix.calls kj2 a0 t116 _ (by first | exact HG.out | exact MixLaid.below (by repeat (first | (with_reducible first | exact HB.out | apply below_alloc | apply pw_below_drewN | apply below_drew1) | exact HB.out)) HG.out) A17.out).mono ?_); rintro e w27 ⟨rfl, hb⟩; have n0_ := Aside0.mk (below_step (by repeat (first | (with_reducible first | exact HB.out | apply below_alloc | apply pw_below_drewN | apply below_drew1) | exact HB.out)) hb); clear HB; have HB := n0_; clear n0_; (try clear hb); (try clear hb2); (try clear hk); (try clear hi)) | (go_at_call 7; (with_reducible refine (mix_Mix.calls t116 t117 _ (by first | exact HG.out | exact MixLaid.below (by repeat (first | (with_reducible first | exact HB.out | apply below_alloc | apply pw_below_drewN | apply below_drew1) | exact HB.out)) HG.out) A18.out).mono ?_); rintro e w28 ⟨rfl, hb⟩; have n0_ := Aside0.mk (below_step (by repeat (first | (with_reducible first | exact HB.out | apply below_alloc | apply pw_below_drewN | apply below_drew1) | exact HB.out)) hb); clear HB; have HB := n0_; clear n0_; (try clear hb); (try clear hb2); (try clear hk); (try clear hi)) | (go_at_call 9; (with_reducible refine (mix_Twist.calls a0 t118 _ (by first | exact HG.out | exact MixLaid.below (by repeat (first | (with_reducible first | exact HB.out | apply below_alloc | apply pw_below_drewN | apply below_drew1) | exact HB.out)) HG.out) A20.out).mono ?_); rintro e w29 ⟨rfl, hb⟩; have n0_ := Aside0.mk (below_step (by repeat (first | (with_reducible first | exact HB.out | apply below_alloc | apply pw_below_drewN | apply below_drew1) | exact HB.out)) hb); clear HB; have HB := n0_; clear n0_; (try clear hb); (try clear hb2); (try clear hk); (try clear hi)) | (go_at_call 12; (with_reducible refine (mix_Untwist.calls kj2 t118 t119 _ (by first | exact HG.out | exact MixLaid.below (by repeat (first | (with_reducible first | exact HB.out | apply below_alloc | apply pw_below_drewN | apply below_drew1) | exact HB.out)) HG.out) A21.out).mono ?_); rintro e w30 ⟨rfl, hb⟩; have n0_ := Aside0.mk (below_step (by repeat (first | (with_reducible first | exact HB.out | apply below_alloc | apply pw_below_drewN | apply below_drew1) | exact HB.out)) hb); clear HB; have HB := n0_; clear n0_; (try clear hb); (try clear hb2); (try clear hk); (try clear hi)) | (go_at_call 12; (with_reducible refine (mix_Untwist.calls kj2 a0 t120 _ (by first | exact HG.out | exact MixLaid.below (by repeat (first | (with_reducible first | exact HB.out | apply below_alloc | apply pw_below_drewN | apply below_drew1) | exact HB.out)) HG.out) A23.out).mono ?_); rintro e w31 ⟨rfl, hb⟩; have n0_ := Aside0.mk (below_step (by repeat (first | (with_reducible first | exact HB.out | apply below_alloc | apply pw_below_drewN | apply below_drew1) | exact HB.out)) hb); clear HB; have HB := n0_; clear n0_; (try clear hb); (try clear hb2); (try clear hk); (try clear hi)) | (go_at_call 9; (with_reducible refine (mix_Twist.calls t120 t121 _ (by first | exact HG.out | exact MixLaid.below (by repeat (first | (with_reducible first | exact HB.out | apply below_alloc | apply pw_below_drewN | apply below_drew1) | exact HB.out)) HG.out) A24.out).mono ?_); rintro e w32 ⟨rfl, hb⟩; have n0_ := Aside0.mk (below_step (by repeat (first | (with_reducible first | exact HB.out | apply below_alloc | apply pw_below_drewN | apply below_drew1) | exact HB.out)) hb); clear HB; have HB := n0_; clear n0_; (try clear hb); (try clear hb2); (try clear hk); (try clear hi)))
                go_meet
                case rel => exact ⟨_, ((t121 != a0)), (by first | rfl | (simp; done) | (simp [*]; done)), H', ⟨by have := HJ2.out; first | omega | exact Nat.le_refl _⟩, ⟨by repeat (first | (with_reducible first | exact HB.out | apply below_alloc | apply pw_below_drewN | apply below_drew1) | exact HB.out)⟩⟩
              · rw [if_neg c22] at H
                have c22b0 : (t119 == a0) = false := beq_eq_false_iff_ne.mpr c22
                have c22b1 : (t119 != a0) = true := bne_iff_ne.mpr c22
                have H' := Aside0.mk H
                clear H
                go_wp2_with (first | ((with_reducible refine gate_callee (f := 7) rfl ?_); refine goesL_ (some 18) rfl rfl Tryd.func7 (by kernel_rfl) rfl #[.int .u64 a0] rfl (by (try simp only [List.map_toArray, List.map_cons, List.map_nil]); first | done | rfl | (simp only [List.length_drop, List.length_take]; rfl)) ?_; (with_reducible refine (mix_Mix.calls a0 t114 _ (by first | exact HG.out | exact MixLaid.below (by repeat (first | (with_reducible first | exact HB.out | apply below_alloc | apply pw_below_drewN | apply below_drew1) | exact HB.out)) HG.out) A14.out).mono ?_); rintro e w33 ⟨rfl, hb⟩; refine ⟨_, rfl, ?_⟩; have n0_ := Aside0.mk (below_step (by repeat (first | (with_reducible first | exact HB.out | apply below_alloc | apply pw_below_drewN | apply below_drew1) | exact HB.out)) hb); clear HB; have HB := n0_; clear n0_; (try clear hb); (try clear hb2); (try clear hk); (try clear hi)) | ((with_reducible refine gate_callee (f := 11) rfl ?_); refine goesL_ (some 19) rfl rfl Tryd.func11 (by kernel_rfl) rfl #[.int .u64 t114] rfl (by (try simp only [List.map_toArray, List.map_cons, List.map_nil]); first | done | rfl | (simp only [List.length_drop, List.length_take]; rfl)) ?_; (with_reducible refine (mix_Unmix.calls kj2 t114 t115 _ (by first | exact HG.out | exact MixLaid.below (by repeat (first | (with_reducible first | exact HB.out | apply below_alloc | apply pw_below_drewN | apply below_drew1) | exact HB.out)) HG.out) A15.out).mono ?_); rintro e w34 ⟨rfl, hb⟩; refine ⟨_, rfl, ?_⟩; have n0_ := Aside0.mk (below_step (by repeat (first | (with_reducible first | exact HB.out | apply below_alloc | apply pw_below_drewN | apply below_drew1) | exact HB.out)) hb); clear HB; have HB := n0_; clear n0_; (try clear hb); (try clear hb2); (try clear hk); (try clear hi)) | (go_at_call 11; (with_reducible refine (mix_Unmix.calls kj2 a0 t116 _ (by first | exact HG.out | exact MixLaid.below (by repeat (first | (with_reducible first | exact HB.out | apply below_alloc | apply pw_below_drewN | apply below_drew1) | exact HB.out)) HG.out) A17.out).mono ?_); rintro e w35 ⟨rfl, hb⟩; have n0_ := Aside0.mk (below_step (by repeat (first | (with_reducible first | exact HB.out | apply below_alloc | apply pw_below_drewN | apply below_drew1) | exact HB.out)) hb); clear HB; have HB := n0_; clear n0_; (try clear hb); (try clear hb2); (try clear hk); (try clear hi)) | (go_at_call 7; (with_reducible refine (mix_Mix.calls t116 t117 _ (by first | exact HG.out | exact MixLaid.below (by repeat (first | (with_reducible first | exact HB.out | apply below_alloc | apply pw_below_drewN | apply below_drew1) | exact HB.out)) HG.out) A18.out).mono ?_); rintro e w36 ⟨rfl, hb⟩; have n0_ := Aside0.mk (below_step (by repeat (first | (with_reducible first | exact HB.out | apply below_alloc | apply pw_below_drewN | apply below_drew1) | exact HB.out)) hb); clear HB; have HB := n0_; clear n0_; (try clear hb); (try clear hb2); (try clear hk); (try clear hi)) | (go_at_call 9; (with_reducible refine (mix_Twist.calls a0 t118 _ (by first | exact HG.out | exact MixLaid.below (by repeat (first | (with_reducible first | exact HB.out | apply below_alloc | apply pw_below_drewN | apply below_drew1) | exact HB.out)) HG.out) A20.out).mono ?_); rintro e w37 ⟨rfl, hb⟩; have n0_ := Aside0.mk (below_step (by repeat (first | (with_reducible first | exact HB.out | apply below_alloc | apply pw_below_drewN | apply below_drew1) | exact HB.out)) hb); clear HB; have HB := n0_; clear n0_; (try clear hb); (try clear hb2); (try clear hk); (try clear hi)) | (go_at_call 12; (with_reducible refine (mix_Untwist.calls kj2 t118 t119 _ (by first | exact HG.out | exact MixLaid.below (by repeat (first | (with_reducible first | exact HB.out | apply below_alloc | apply pw_below_drewN | apply below_drew1) | exact HB.out)) HG.out) A21.out).mono ?_); rintro e w38 ⟨rfl, hb⟩; have n0_ := Aside0.mk (below_step (by repeat (first | (with_reducible first | exact HB.out | apply below_alloc | apply pw_below_drewN | apply below_drew1) | exact HB.out)) hb); clear HB; have HB := n0_; clear n0_; (try clear hb); (try clear hb2); (try clear hk); (try clear hi)))
                go_meet
                case rel => exact ⟨_, (true), (by first | rfl | (simp; done) | (simp [*]; done)), H', ⟨by have := HJ2.out; first | omega | exact Nat.le_refl _⟩, ⟨by repeat (first | (with_reducible first | exact HB.out | apply below_alloc | apply pw_below_drewN | apply below_drew1) | exact HB.out)⟩⟩
            · rw [if_neg c19] at H
              have c19b0 : (t117 == a0) = false := beq_eq_false_iff_ne.mpr c19
              have c19b1 : (t117 != a0) = true := bne_iff_ne.mpr c19
              have H' := Aside0.mk H
              clear H
              go_wp2_with (first | ((with_reducible refine gate_callee (f := 7) rfl ?_); refine goesL_ (some 18) rfl rfl Tryd.func7 (by kernel_rfl) rfl #[.int .u64 a0] rfl (by (try simp only [List.map_toArray, List.map_cons, List.map_nil]); first | done | rfl | (simp only [List.length_drop, List.length_take]; rfl)) ?_; (with_reducible refine (mix_Mix.calls a0 t114 _ (by first | exact HG.out | exact MixLaid.below (by repeat (first | (with_reducible first | exact HB.out | apply below_alloc | apply pw_below_drewN | apply below_drew1) | exact HB.out)) HG.out) A14.out).mono ?_); rintro e w39 ⟨rfl, hb⟩; refine ⟨_, rfl, ?_⟩; have n0_ := Aside0.mk (below_step (by repeat (first | (with_reducible first | exact HB.out | apply below_alloc | apply pw_below_drewN | apply below_drew1) | exact HB.out)) hb); clear HB; have HB := n0_; clear n0_; (try clear hb); (try clear hb2); (try clear hk); (try clear hi)) | ((with_reducible refine gate_callee (f := 11) rfl ?_); refine goesL_ (some 19) rfl rfl Tryd.func11 (by kernel_rfl) rfl #[.int .u64 t114] rfl (by (try simp only [List.map_toArray, List.map_cons, List.map_nil]); first | done | rfl | (simp only [List.length_drop, List.length_take]; rfl)) ?_; (with_reducible refine (mix_Unmix.calls kj2 t114 t115 _ (by first | exact HG.out | exact MixLaid.below (by repeat (first | (with_reducible first | exact HB.out | apply below_alloc | apply pw_below_drewN | apply below_drew1) | exact HB.out)) HG.out) A15.out).mono ?_); rintro e w40 ⟨rfl, hb⟩; refine ⟨_, rfl, ?_⟩; have n0_ := Aside0.mk (below_step (by repeat (first | (with_reducible first | exact HB.out | apply below_alloc | apply pw_below_drewN | apply below_drew1) | exact HB.out)) hb); clear HB; have HB := n0_; clear n0_; (try clear hb); (try clear hb2); (try clear hk); (try clear hi)) | (go_at_call 11; (with_reducible refine (mix_Unmix.calls kj2 a0 t116 _ (by first | exact HG.out | exact MixLaid.below (by repeat (first | (with_reducible first | exact HB.out | apply below_alloc | apply pw_below_drewN | apply below_drew1) | exact HB.out)) HG.out) A17.out).mono ?_); rintro e w41 ⟨rfl, hb⟩; have n0_ := Aside0.mk (below_step (by repeat (first | (with_reducible first | exact HB.out | apply below_alloc | apply pw_below_drewN | apply below_drew1) | exact HB.out)) hb); clear HB; have HB := n0_; clear n0_; (try clear hb); (try clear hb2); (try clear hk); (try clear hi)) | (go_at_call 7; (with_reducible refine (mix_Mix.calls t116 t117 _ (by first | exact HG.out | exact MixLaid.below (by repeat (first | (with_reducible first | exact HB.out | apply below_alloc | apply pw_below_drewN | apply below_drew1) | exact HB.out)) HG.out) A18.out).mono ?_); rintro e w42 ⟨rfl, hb⟩; have n0_ := Aside0.mk (below_step (by repeat (first | (with_reducible first | exact HB.out | apply below_alloc | apply pw_below_drewN | apply below_drew1) | exact HB.out)) hb); clear HB; have HB := n0_; clear n0_; (try clear hb); (try clear hb2); (try clear hk); (try clear hi)))
              go_meet
              case rel => exact ⟨_, (true), (by first | rfl | (simp; done) | (simp [*]; done)), H', ⟨by have := HJ2.out; first | omega | exact Nat.le_refl _⟩, ⟨by repeat (first | (with_reducible first | exact HB.out | apply below_alloc | apply pw_below_drewN | apply below_drew1) | exact HB.out)⟩⟩
          · rw [if_neg c16] at H
            have c16b0 : (t115 == a0) = false := beq_eq_false_iff_ne.mpr c16
            have c16b1 : (t115 != a0) = true := bne_iff_ne.mpr c16
            (first | rw [c16b0] | (simp only [i64_w, i32_w]; rw [c16b0]) | skip)
            have H' := Aside0.mk H
            clear H
            go_wp2_with (first | ((with_reducible refine gate_callee (f := 7) rfl ?_); refine goesL_ (some 18) rfl rfl Tryd.func7 (by kernel_rfl) rfl #[.int .u64 a0] rfl (by (try simp only [List.map_toArray, List.map_cons, List.map_nil]); first | done | rfl | (simp only [List.length_drop, List.length_take]; rfl)) ?_; (with_reducible refine (mix_Mix.calls a0 t114 _ (by first | exact HG.out | exact MixLaid.below (by repeat (first | (with_reducible first | exact HB.out | apply below_alloc | apply pw_below_drewN | apply below_drew1) | exact HB.out)) HG.out) A14.out).mono ?_); rintro e w43 ⟨rfl, hb⟩; refine ⟨_, rfl, ?_⟩; have n0_ := Aside0.mk (below_step (by repeat (first | (with_reducible first | exact HB.out | apply below_alloc | apply pw_below_drewN | apply below_drew1) | exact HB.out)) hb); clear HB; have HB := n0_; clear n0_; (try clear hb); (try clear hb2); (try clear hk); (try clear hi)) | ((with_reducible refine gate_callee (f := 11) rfl ?_); refine goesL_ (some 19) rfl rfl Tryd.func11 (by kernel_rfl) rfl #[.int .u64 t114] rfl (by (try simp only [List.map_toArray, List.map_cons, List.map_nil]); first | done | rfl | (simp only [List.length_drop, List.length_take]; rfl)) ?_; (with_reducible refine (mix_Unmix.calls kj2 t114 t115 _ (by first | exact HG.out | exact MixLaid.below (by repeat (first | (with_reducible first | exact HB.out | apply below_alloc | apply pw_below_drewN | apply below_drew1) | exact HB.out)) HG.out) A15.out).mono ?_); rintro e w44 ⟨rfl, hb⟩; refine ⟨_, rfl, ?_⟩; have n0_ := Aside0.mk (below_step (by repeat (first | (with_reducible first | exact HB.out | apply below_alloc | apply pw_below_drewN | apply below_drew1) | exact HB.out)) hb); clear HB; have HB := n0_; clear n0_; (try clear hb); (try clear hb2); (try clear hk); (try clear hi)))
            go_meet
            case rel => exact ⟨_, (true), (by first | rfl | (simp; done) | (simp [*]; done)), H', ⟨by have := HJ2.out; first | omega | exact Nat.le_refl _⟩, ⟨by repeat (first | (with_reducible first | exact HB.out | apply below_alloc | apply pw_below_drewN | apply below_drew1) | exact HB.out)⟩⟩
        case rest =>
          clear HC13
          try clear c1
          try clear c2
          try clear p2
          try clear c3
          try clear c6
          try clear c6b0
          try clear c6b1
          try clear c7
          try clear c8
          try clear c11
          try clear c12
          try clear c16
          try clear c16b0
          try clear c16b1
          try clear c19
          try clear c19b0
          try clear c19b1
          try clear c22
          try clear c22b0
          try clear c22b1
          try clear p2
          obtain ⟨kq, x42_12, rfl, HA, HJ12, HB⟩ := hcut
          cases kq with
          | zero => exact absurd HA.out (by simp [cortadolaw03_MixBack.j1])
          | succ kj12 =>
            have H := HA.out
            clear HA
            simp only [cortadolaw03_MixBack.j1] at H
            by_cases c45 : x42_12 = true
            · subst c45
              have H1 : (some false) = some r := by rw [if_pos rfl] at H; exact H
              clear H
              have H := H1
              clear H1
              have hr_ := HRT.out
              rw [hr_] at H
              exact absurd H (by simp)
            · replace c45 := Bool.eq_false_iff.mpr c45
              subst c45
              have H1 : ((mix_Mix.f a0).bind fun t122 => ((mix_Mix.f a1).bind fun t123 => (if ((t122 == t123) == (a0 == a1)) = true then ((mix_Twist.f a0).bind fun t124 => ((mix_Twist.f a1).bind fun t125 => (if ((t124 == t125) == (a0 == a1)) = true then ((cortadolaw03_awake.f kj12).bind fun t126 => (some t126)) else (some false)))) else (some false)))) = some r := by rw [if_neg (show ¬ (false = true) by decide)] at H; exact H
              clear H
              have H := H1
              clear H1
              replace H := Option.bind_eq_some_iff.mp H
              obtain ⟨t122, A460, H⟩ := H
              replace H : ((mix_Mix.f a1).bind fun t123 => (if ((t122 == t123) == (a0 == a1)) = true then ((mix_Twist.f a0).bind fun t124 => ((mix_Twist.f a1).bind fun t125 => (if ((t124 == t125) == (a0 == a1)) = true then ((cortadolaw03_awake.f kj12).bind fun t126 => (some t126)) else (some false)))) else (some false))) = some r := H
              have A46 := Aside0.mk A460
              clear A460
              replace H := Option.bind_eq_some_iff.mp H
              obtain ⟨t123, A470, H⟩ := H
              replace H : (if ((t122 == t123) == (a0 == a1)) = true then ((mix_Twist.f a0).bind fun t124 => ((mix_Twist.f a1).bind fun t125 => (if ((t124 == t125) == (a0 == a1)) = true then ((cortadolaw03_awake.f kj12).bind fun t126 => (some t126)) else (some false)))) else (some false)) = some r := H
              have A47 := Aside0.mk A470
              clear A470
              by_cases c48 : ((t122 == t123) == (a0 == a1)) = true
              · rw [if_pos c48] at H
                have c48b0 : ((t122 == t123) == (a0 == a1)) = true := c48
                (try (have c48b1 : decide ((t122 == t123) = (a0 == a1)) = true := by simpa using c48))
                (try (have c48b2 : ((t122 == t123) == (a0 == a1)) = true := by simpa using c48))
                clear c48
                replace H := Option.bind_eq_some_iff.mp H
                obtain ⟨t124, A490, H⟩ := H
                replace H : ((mix_Twist.f a1).bind fun t125 => (if ((t124 == t125) == (a0 == a1)) = true then ((cortadolaw03_awake.f kj12).bind fun t126 => (some t126)) else (some false))) = some r := H
                have A49 := Aside0.mk A490
                clear A490
                replace H := Option.bind_eq_some_iff.mp H
                obtain ⟨t125, A500, H⟩ := H
                replace H : (if ((t124 == t125) == (a0 == a1)) = true then ((cortadolaw03_awake.f kj12).bind fun t126 => (some t126)) else (some false)) = some r := H
                have A50 := Aside0.mk A500
                clear A500
                by_cases c51 : ((t124 == t125) == (a0 == a1)) = true
                · rw [if_pos c51] at H
                  have c51b0 : ((t124 == t125) == (a0 == a1)) = true := c51
                  (try (have c51b1 : decide ((t124 == t125) = (a0 == a1)) = true := by simpa using c51))
                  (try (have c51b2 : ((t124 == t125) == (a0 == a1)) = true := by simpa using c51))
                  clear c51
                  replace H := Option.bind_eq_some_iff.mp H
                  obtain ⟨t126, A520, H⟩ := H
                  replace H : (some t126) = some r := H
                  have A52 := Aside0.mk A520
                  clear A520
                  obtain rfl := Option.some.inj H
                  go_wp2_with (first | ((with_reducible refine gate_callee (f := 7) rfl ?_); refine goesL_ (some 44) rfl rfl Tryd.func7 (by kernel_rfl) rfl #[.int .u64 a0] rfl (by (try simp only [List.map_toArray, List.map_cons, List.map_nil]); first | done | rfl | (simp only [List.length_drop, List.length_take]; rfl)) ?_; (with_reducible refine (mix_Mix.calls a0 t122 _ (by first | exact HG.out | exact MixLaid.below (by repeat (first | (with_reducible first | exact HB.out | apply below_alloc | apply pw_below_drewN | apply below_drew1) | exact HB.out)) HG.out) A46.out).mono ?_); rintro e w53 ⟨rfl, hb⟩; refine ⟨_, rfl, ?_⟩; have n0_ := Aside0.mk (below_step (by repeat (first | (with_reducible first | exact HB.out | apply below_alloc | apply pw_below_drewN | apply below_drew1) | exact HB.out)) hb); clear HB; have HB := n0_; clear n0_; (try clear hb); (try clear hb2); (try clear hk); (try clear hi)) | ((with_reducible refine gate_callee (f := 7) rfl ?_); refine goesL_ (some 46) rfl rfl Tryd.func7 (by kernel_rfl) rfl #[.int .u64 a1] rfl (by (try simp only [List.map_toArray, List.map_cons, List.map_nil]); first | done | rfl | (simp only [List.length_drop, List.length_take]; rfl)) ?_; (with_reducible refine (mix_Mix.calls a1 t123 _ (by first | exact HG.out | exact MixLaid.below (by repeat (first | (with_reducible first | exact HB.out | apply below_alloc | apply pw_below_drewN | apply below_drew1) | exact HB.out)) HG.out) A47.out).mono ?_); rintro e w54 ⟨rfl, hb⟩; refine ⟨_, rfl, ?_⟩; have n0_ := Aside0.mk (below_step (by repeat (first | (with_reducible first | exact HB.out | apply below_alloc | apply pw_below_drewN | apply below_drew1) | exact HB.out)) hb); clear HB; have HB := n0_; clear n0_; (try clear hb); (try clear hb2); (try clear hk); (try clear hi)) | (go_at_call 9; (with_reducible refine (mix_Twist.calls a0 t124 _ (by first | exact HG.out | exact MixLaid.below (by repeat (first | (with_reducible first | exact HB.out | apply below_alloc | apply pw_below_drewN | apply below_drew1) | exact HB.out)) HG.out) A49.out).mono ?_); rintro e w55 ⟨rfl, hb⟩; have n0_ := Aside0.mk (below_step (by repeat (first | (with_reducible first | exact HB.out | apply below_alloc | apply pw_below_drewN | apply below_drew1) | exact HB.out)) hb); clear HB; have HB := n0_; clear n0_; (try clear hb); (try clear hb2); (try clear hk); (try clear hi)) | (go_at_call 9; (with_reducible refine (mix_Twist.calls a1 t125 _ (by first | exact HG.out | exact MixLaid.below (by repeat (first | (with_reducible first | exact HB.out | apply below_alloc | apply pw_below_drewN | apply below_drew1) | exact HB.out)) HG.out) A50.out).mono ?_); rintro e w56 ⟨rfl, hb⟩; have n0_ := Aside0.mk (below_step (by repeat (first | (with_reducible first | exact HB.out | apply below_alloc | apply pw_below_drewN | apply below_drew1) | exact HB.out)) hb); clear HB; have HB := n0_; clear n0_; (try clear hb); (try clear hb2); (try clear hk); (try clear hi)) | (go_at_call 13; (with_reducible refine (cortadolaw03_awake.calls kj12  t126 _ A52.out).mono ?_); rintro e w' ⟨rfl, ⟨nd, rfl⟩⟩))
                  go_ret
                  exact ⟨by first | rfl | (simp [errW_none, errW_some] <;> rfl) | (simp [*, errW_none, errW_some] <;> rfl), by repeat (first | (with_reducible first | exact HB.out | apply below_alloc | apply pw_below_drewN | apply below_drew1) | exact HB.out)⟩
                · rw [if_neg c51] at H
                  have c51b0 : ((t124 == t125) == (a0 == a1)) = false := by simpa using c51
                  (try (have c51b1 : decide ((t124 == t125) = (a0 == a1)) = false := by simpa using c51))
                  (try (have c51b2 : ((t124 == t125) == (a0 == a1)) = false := by simpa using c51))
                  (try (have c51b3 : ¬ ((t124 == t125) = (a0 == a1)) := by simpa using c51))
                  clear c51
                  have hr_ := HRT.out
                  rw [hr_] at H
                  exact absurd H (by simp)
              · rw [if_neg c48] at H
                have c48b0 : ((t122 == t123) == (a0 == a1)) = false := by simpa using c48
                (try (have c48b1 : decide ((t122 == t123) = (a0 == a1)) = false := by simpa using c48))
                (try (have c48b2 : ((t122 == t123) == (a0 == a1)) = false := by simpa using c48))
                (try (have c48b3 : ¬ ((t122 == t123) = (a0 == a1)) := by simpa using c48))
                clear c48
                have hr_ := HRT.out
                rw [hr_] at H
                exact absurd H (by simp)

/-- THE ONE PURE STATEMENT of cortadolaw03_MixBack: yours. -/
def cortadolaw03_MixBack.Pure : Prop := ∀ (a0 : Int) (a1 : Int), (Lit.int .u64 a0).wf = true → (Lit.int .u64 a1).wf = true → ∃ k, cortadolaw03_MixBack.f k a0 a1 = some true
end Go.Proofs.YtmenjjofmafacaaDoor.HMixBack
