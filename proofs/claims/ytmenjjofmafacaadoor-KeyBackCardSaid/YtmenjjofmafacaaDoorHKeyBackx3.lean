-- Laid by hybrid.py, a program of this session's: the kit's printer over this seat, with functions proved by hand beside it.
import Derived.Test.YtmenjjofmafacaaDoorHKeyBackx0
import Derived.Test.YtmenjjofmafacaaDoorHKeyBackx1
import Derived.Test.YtmenjjofmafacaaDoorHKeyBackx2
namespace Go.Proofs.YtmenjjofmafacaaDoor.HKeyBack
open Go.RowKit Go.Proofs.YtmenjjofmafacaaDoorW.PrintWords Go.Proofs.YtmenjjofmafacaaDoorW.PrintLast Go.Proofs.YtmenjjofmafacaaDoorW.PrintMore
attribute [local go_sem] max2_int min2_int max_two min_two max_three min_three max_four min_four   -- for this text's walks alone
set_option linter.unusedVariables false
set_option linter.unusedSimpArgs false

attribute [local go_sem high] eqA39
/-! ### cortadolaw06_awake: function 26 -/
def cortadolaw06_awake.f (k : Nat)  : Option (Bool) := (key_Shard.f 515).bind fun t118 => (if t118 = 3 then ((key_Number.f 1).bind fun bt119 => ((cortadoref06_Number.f k 1).bind fun bt121 => (some (bt119.1 == bt121.1 && (bt119.2 == bt121.2))))) else (some false))
theorem cortadolaw06_awake.mono : ∀ k, LeO (cortadolaw06_awake.f k ) (cortadolaw06_awake.f (k + 1) ) := by
  intro  k
  unfold cortadolaw06_awake.f
  repeat' first
      | (with_reducible exact cortadoref06_Number.mono _ _)
      | (with_reducible exact LeO.refl _)
      | (with_reducible exact LeO.none _)
      | (with_reducible refine LeO.ite ?_ ?_)
      | (with_reducible refine LeO.bind ?_ (fun _ => ?_))
      | exact cortadoref06_Number.mono _ _
      | exact LeO.none _
      | refine LeO.ite ?_ ?_
      | refine LeO.bind ?_ (fun _ => ?_)
set_option maxHeartbeats 8000000 in
set_option maxRecDepth 100000 in
theorem cortadolaw06_awake.calls (k : Nat)  (r : Bool) (w : World) (hG : MixLaid w) (h : cortadolaw06_awake.f k  = some r) :
    Calls Tryd.prog 26 #[] w fun e w' => e = .returned (.bool r) ∧ Below w.heap.size w w' := by
  have HG := Aside0.mk hG
  clear hG
  have HB := Aside0.mk (Below.refl w.heap.size w)
  have H : ((key_Shard.f 515).bind fun t118 => (if t118 = 3 then ((key_Number.f 1).bind fun bt119 => ((cortadoref06_Number.f k 1).bind fun bt121 => (some (bt119.1 == bt121.1 && (bt119.2 == bt121.2))))) else (some false))) = some r := h
  clear h
  replace H := Option.bind_eq_some_iff.mp H
  obtain ⟨t118, A10, H⟩ := H
  replace H : (if t118 = 3 then ((key_Number.f 1).bind fun bt119 => ((cortadoref06_Number.f k 1).bind fun bt121 => (some (bt119.1 == bt121.1 && (bt119.2 == bt121.2))))) else (some false)) = some r := H
  have A1 := Aside0.mk A10
  clear A10
  by_cases c2 : t118 = 3
  · rw [if_pos c2] at H
    have c2b0 : (t118 == 3) = true := beq_iff_eq.mpr c2
    have c2b1 : (t118 != 3) = false := bne_eq_false_iff_eq.mpr c2
    clear c2
    replace H := Option.bind_eq_some_iff.mp H
    obtain ⟨⟨t119, t120⟩, A30, H⟩ := H
    replace H : ((cortadoref06_Number.f k 1).bind fun bt121 => (some (t119 == bt121.1 && (t120 == bt121.2)))) = some r := H
    have A3 := Aside0.mk A30
    clear A30
    replace H := Option.bind_eq_some_iff.mp H
    obtain ⟨⟨t121, t122⟩, A40, H⟩ := H
    replace H : (some (t119 == t121 && (t120 == t122))) = some r := H
    have A4 := Aside0.mk A40
    clear A40
    obtain rfl := Option.some.inj H
    go_enter Tryd.func26, Tryd.ntmps26
    go_wp2_with (first | ((with_reducible refine gate_callee (f := 34) rfl ?_); refine goesL_ (some 1) rfl rfl Tryd.func34 (by kernel_rfl) rfl #[.int .u64 515] rfl (by (try simp only [List.map_toArray, List.map_cons, List.map_nil]); first | done | rfl | (simp only [List.length_drop, List.length_take]; rfl)) ?_; (with_reducible refine (key_Shard.calls 515 t118 _ A1.out).mono ?_); rintro e w' ⟨rfl, ⟨nd, rfl⟩⟩; refine ⟨_, rfl, ?_⟩) | (go_at_call 24; (with_reducible refine (key_Number.calls 1 t119 t120 _ (by first | exact HG.out | exact MixLaid.below (by repeat (first | (with_reducible first | exact HB.out | apply below_alloc | apply pw_below_drewN | apply below_drew1) | exact HB.out)) HG.out) A3.out).mono ?_); rintro e w5 ⟨rfl, hb⟩; have n0_ := Aside0.mk (below_step (by repeat (first | (with_reducible first | exact HB.out | apply below_alloc | apply pw_below_drewN | apply below_drew1) | exact HB.out)) hb); clear HB; have HB := n0_; clear n0_; (try clear hb); (try clear hb2); (try clear hk); (try clear hi)) | (go_at_call 25; (with_reducible refine (cortadoref06_Number.calls k 1 t121 t122 _ A4.out).mono ?_); rintro e w6 ⟨rfl, hb⟩; have n0_ := Aside0.mk (below_step (by repeat (first | (with_reducible first | exact HB.out | apply below_alloc | apply pw_below_drewN | apply below_drew1) | exact HB.out)) hb); clear HB; have HB := n0_; clear n0_; (try clear hb); (try clear hb2); (try clear hk); (try clear hi)))
    go_ret
    exact ⟨by first | rfl | (simp [errW_none, errW_some] <;> rfl) | (simp [*, errW_none, errW_some] <;> rfl), by repeat (first | (with_reducible first | exact HB.out | apply below_alloc | apply pw_below_drewN | apply below_drew1) | exact HB.out)⟩
  · rw [if_neg c2] at H
    have c2b0 : (t118 == 3) = false := beq_eq_false_iff_ne.mpr c2
    have c2b1 : (t118 != 3) = true := bne_iff_ne.mpr c2
    obtain rfl := Option.some.inj H
    go_enter Tryd.func26, Tryd.ntmps26
    go_wp2_with (first | ((with_reducible refine gate_callee (f := 34) rfl ?_); refine goesL_ (some 1) rfl rfl Tryd.func34 (by kernel_rfl) rfl #[.int .u64 515] rfl (by (try simp only [List.map_toArray, List.map_cons, List.map_nil]); first | done | rfl | (simp only [List.length_drop, List.length_take]; rfl)) ?_; (with_reducible refine (key_Shard.calls 515 t118 _ A1.out).mono ?_); rintro e w' ⟨rfl, ⟨nd, rfl⟩⟩; refine ⟨_, rfl, ?_⟩))
    go_ret
    exact ⟨by first | rfl | (simp [errW_none, errW_some] <;> rfl) | (simp [*, errW_none, errW_some] <;> rfl), by repeat (first | (with_reducible first | exact HB.out | apply below_alloc | apply pw_below_drewN | apply below_drew1) | exact HB.out)⟩

end Go.Proofs.YtmenjjofmafacaaDoor.HKeyBack
