/- ScriptRight: for any two scripts the law answers true. -/
import Derived.Test.YtppmdifhoejhjaaScnA
import Derived.Test.YtppmdifhoejhjaaSclG
import Derived.Test.YtppmdifhoejhjaaEngA
namespace Go.Proofs.Ytppmdifhoejhjaa.Eng
open Go Go.RowKit Go.Proofs
set_option linter.unusedVariables false
set_option linter.unusedSimpArgs false
set_option maxRecDepth 1000000
theorem scAwake {e w : World} {F : List HP} (h : Own e w F) : Rets Try.prog 6 #[] w fun v w' => v = .bool true ∧ Own e w' F := by
  refine cortadolaw18_awake_go ?_
  refine Rets.mono (scParse (bs := []) (c := 0) (q := none) (fun x hx => (by cases hx)) (by simp) (by simp) (fun w h => .inl rfl) h) ?_
  clear h
  rintro _ w ⟨q1, d1, q2, d2, q3, d3, ms, rfl, hms, h⟩
  exact ⟨_, _, _, _, _, _, _, _, _, _, _, _, _, _, rfl, congrArg Value.bool (by decide +kernel), h.drop.drop.drop.drop⟩
theorem ScriptRight_spec {W : World} {x0 x1 x2 x3 x4 : Int} {xq xq2 xq3 : Option Addr} {xd xd2 xd3 : Nat} {xms : List (Sl Op5)} {xPK xDS : List Int} {y0 y1 y2 y3 y4 : Int} {yq yq2 yq3 : Option Addr} {yd yd2 yd3 : Nat} {yms : List (Sl Op5)} {yPK yDS : List Int} (hx0 : (Lit.int .i64 x0).wf = true) (hx1 : (Lit.int .i64 x1).wf = true) (hx2 : (Lit.int .i64 x2).wf = true) (hx3 : (Lit.int .i64 x3).wf = true) (hx4 : (Lit.int .i64 x4).wf = true)
    (hxA : RdC W xq (xms.map Sl.v)) (hxAm : xms.length ≤ maxLen) (hxAc : xms.length ≤ xd) (hxAw : ∀ x ∈ xms, RdC W x.1 (x.2.2.flatMap encO) ∧ x.2.2.length ≤ maxLen ∧ x.2.2.length ≤ x.2.1 ∧ ∀ s ∈ x.2.2, (Lit.int .i64 s.1).wf = true ∧ (Lit.int .i64 s.2.1).wf = true ∧ (Lit.int .i64 s.2.2.1).wf = true ∧ (Lit.int .i64 s.2.2.2.1).wf = true ∧ (Lit.int .i64 s.2.2.2.2).wf = true)
    (hxB : RdC W xq2 (cs .i64 xPK)) (hxBm : xPK.length ≤ maxLen) (hxBc : xPK.length ≤ xd2) (hxBw : ∀ n ∈ xPK, (Lit.int .i64 n).wf = true)
    (hxC : RdC W xq3 (cs .i64 xDS)) (hxCm : xDS.length ≤ maxLen) (hxCc : xDS.length ≤ xd3) (hxCw : ∀ n ∈ xDS, (Lit.int .i64 n).wf = true)
    (hy0 : (Lit.int .i64 y0).wf = true) (hy1 : (Lit.int .i64 y1).wf = true) (hy2 : (Lit.int .i64 y2).wf = true) (hy3 : (Lit.int .i64 y3).wf = true) (hy4 : (Lit.int .i64 y4).wf = true)
    (hyA : RdC W yq (yms.map Sl.v)) (hyAm : yms.length ≤ maxLen) (hyAc : yms.length ≤ yd) (hyAw : ∀ x ∈ yms, RdC W x.1 (x.2.2.flatMap encO) ∧ x.2.2.length ≤ maxLen ∧ x.2.2.length ≤ x.2.1 ∧ ∀ s ∈ x.2.2, (Lit.int .i64 s.1).wf = true ∧ (Lit.int .i64 s.2.1).wf = true ∧ (Lit.int .i64 s.2.2.1).wf = true ∧ (Lit.int .i64 s.2.2.2.1).wf = true ∧ (Lit.int .i64 s.2.2.2.2).wf = true)
    (hyB : RdC W yq2 (cs .i64 yPK)) (hyBm : yPK.length ≤ maxLen) (hyBc : yPK.length ≤ yd2) (hyBw : ∀ n ∈ yPK, (Lit.int .i64 n).wf = true)
    (hyC : RdC W yq3 (cs .i64 yDS)) (hyCm : yDS.length ≤ maxLen) (hyCc : yDS.length ≤ yd3) (hyCw : ∀ n ∈ yDS, (Lit.int .i64 n).wf = true) :
    Rets Try.prog 3 #[.agg #[.int .i64 x0, .int .i64 x1, .int .i64 x2, .int .i64 x3, .int .i64 x4, .slice xq xms.length xd, .slice xq2 xPK.length xd2, .slice xq3 xDS.length xd3], .agg #[.int .i64 y0, .int .i64 y1, .int .i64 y2, .int .i64 y3, .int .i64 y4, .slice yq yms.length yd, .slice yq2 yPK.length yd2, .slice yq3 yDS.length yd3]] W fun v w' => v = .bool true ∧ Below W.heap.size W w' := by
  refine Rets.mono (k := fun v w' => v = .bool true ∧ ∃ F, Own W w' (snap W :: F)) ?_ (fun v w' h => ⟨h.1, h.2.elim fun F h => h.below⟩)
  have h := Own.begin W
  obtain ⟨x, hx⟩ : ∃ x : ScT, x = ⟨x0, x1, x2, x3, x4, xq, xd, xms, xq2, xd2, xPK, xq3, xd3, xDS⟩ := ⟨_, rfl⟩
  obtain ⟨y, hy⟩ : ∃ y : ScT, y = ⟨y0, y1, y2, y3, y4, yq, yd, yms, yq2, yd2, yPK, yq3, yd3, yDS⟩ := ⟨_, rfl⟩
  have rx : ScRd W [snap W] x := by subst hx; exact ⟨fun w h => Own.snapRd h hxA, fun w h m hm => Own.snapRd h (hxAw m hm).1, fun w h => Own.snapRd h hxB, fun w h => Own.snapRd h hxC⟩
  have ry : ScRd W [snap W] y := by subst hy; exact ⟨fun w h => Own.snapRd h hyA, fun w h m hm => Own.snapRd h (hyAw m hm).1, fun w h => Own.snapRd h hyB, fun w h => Own.snapRd h hyC⟩
  have key : Rets Try.prog 3 #[x.v, y.v] W fun v w' => v = .bool true ∧ ∃ F, Own W w' (snap W :: F) := by
    clear hx hy hx0 hx1 hx2 hx3 hx4 hy0 hy1 hy2 hy3 hy4 hxA hxAm hxAc hxAw hxB hxBm hxBc hxBw hxC hxCm hxCc hxCw hyA hyAm hyAc hyAw hyB hyBm hyBc hyBw hyC hyCm hyCc hyCw
    refine cortadolaw18_ScriptRight_go _ _ _ _ _ _ _ _ _ _ _ _ _ _ _ _ _ _ _ _ _ _ _ _ _ _ _ _ ?_
    unfold cortadolaw18_ScriptRight_m
    refine h.newR fun a1 w h => h.newR fun a2 w h => ?_
    simp only [addr_add_add, Nat.zero_add]
    have rx : ScRd W [blk a2 27 y.cs, blk a1 27 x.cs, snap W] x := rx.cons.cons
    have ry : ScRd W [blk a2 27 y.cs, blk a1 27 x.cs, snap W] y := ry.cons.cons
    have h : Own W w [blk a2 27 y.cs, blk a1 27 x.cs, snap W] := h
    have aw : ∀ {w : World}, Own W w [snap W] → Rets Try.prog 6 #[] w fun v w' => ∃ b, v = Value.bool b ∧ (Value.bool b) = .bool true ∧ ∃ F, Own W w' (snap W :: F) := fun {w} h => by
      refine Rets.mono (scAwake h) ?_
      rintro _ w ⟨rfl, h⟩
      exact ⟨_, rfl, rfl, _, h⟩
    refine ⟨_, _, _, _, _, _, _, _, _, _, _, _, _, _, ⟨Own.ld (g := a1) h (by repeat (first | with_reducible exact Pick.here | apply Pick.there)) rfl, Own.ld (g := a1) h (by repeat (first | with_reducible exact Pick.here | apply Pick.there)) rfl, Own.ld (g := a1) h (by repeat (first | with_reducible exact Pick.here | apply Pick.there)) rfl, Own.ld (g := a1) h (by repeat (first | with_reducible exact Pick.here | apply Pick.there)) rfl, Own.ld (g := a1) h (by repeat (first | with_reducible exact Pick.here | apply Pick.there)) rfl, Own.ld (g := a1) h (by repeat (first | with_reducible exact Pick.here | apply Pick.there)) rfl, Own.ld (g := a1) h (by repeat (first | with_reducible exact Pick.here | apply Pick.there)) rfl, Own.ld (g := a1) h (by repeat (first | with_reducible exact Pick.here | apply Pick.there)) rfl⟩, ?_⟩
    refine Rets.mono (scFew (x := x) rx h) ?_
    clear h
    rintro _ w ⟨⟨b1, rfl, hb1⟩, h⟩
    refine ⟨_, rfl, fun hc1 => ⟨_, _, _, _, _, _, _, _, _, _, _, _, _, _, ⟨Own.ld (g := a2) h (by repeat (first | with_reducible exact Pick.here | apply Pick.there)) rfl, Own.ld (g := a2) h (by repeat (first | with_reducible exact Pick.here | apply Pick.there)) rfl, Own.ld (g := a2) h (by repeat (first | with_reducible exact Pick.here | apply Pick.there)) rfl, Own.ld (g := a2) h (by repeat (first | with_reducible exact Pick.here | apply Pick.there)) rfl, Own.ld (g := a2) h (by repeat (first | with_reducible exact Pick.here | apply Pick.there)) rfl, Own.ld (g := a2) h (by repeat (first | with_reducible exact Pick.here | apply Pick.there)) rfl, Own.ld (g := a2) h (by repeat (first | with_reducible exact Pick.here | apply Pick.there)) rfl, Own.ld (g := a2) h (by repeat (first | with_reducible exact Pick.here | apply Pick.there)) rfl⟩, ?_⟩, fun hc1 => aw h.drop.drop⟩
    have fx := hb1.1 (by simpa using hc1)
    refine Rets.mono (scFew (x := y) ry h) ?_
    clear h
    rintro _ w ⟨⟨b2, rfl, hb2⟩, h⟩
    refine ⟨_, rfl, fun hc2 => aw h.drop.drop, fun hc2 => ?_⟩
    have fy := hb2.1 (by simpa using hc2)
    clear hb1 hb2 hc1 hc2
    obtain ⟨f1, f2, f3, f4⟩ := fx
    have fx : x.few := ⟨f1, f2, f3, f4⟩
    refine ⟨fun m vs w => ∃ i : Nat, vs = [.int .i64 (plSum (x.ms.take i) : Int), .int .i64 (i : Int)] ∧ m + i = x.ms.length ∧ Own W w [blk a2 27 y.cs, blk a1 27 x.cs, snap W], ⟨x.ms.length, 0, rfl, rfl, h⟩, ?_⟩
    clear h
    intro m w n11 n12
    intros
    rename_i hI
    obtain ⟨i, hvs, hm, h⟩ := hI
    obtain ⟨rfl, rfl⟩ : n11 = (plSum (x.ms.take i) : Int) ∧ n12 = (i : Int) := by simpa using hvs
    refine ⟨_, _, _, Own.ld (g := a1) h (by repeat (first | with_reducible exact Pick.here | apply Pick.there)) rfl, fun hc => ?_, fun hc => ?_⟩
    · have hc := dec_t hc
      have hi : i < x.ms.length := by omega
      have hfi := f1 _ (List.getElem_mem hi)
      have hle := plSum_le (l := x.ms.take i) (fun m hm => f1 m (List.mem_of_mem_take hm))
      rw [List.length_take] at hle
      have hle2 : plSum (x.ms.take i) ≤ 300 := by
        refine Nat.le_trans hle ?_
        refine Nat.le_trans (Nat.mul_le_mul_left 30 (Nat.min_le_right _ _)) ?_
        omega
      refine ⟨_, _, _, Own.ld (g := a1) h (by repeat (first | with_reducible exact Pick.here | apply Pick.there)) rfl, by omega, by omega, RdC.mp (f := Sl.v) (rx.rd w h) hi fun a ha => ⟨x.ms[i].1, x.ms[i].2.2.length, x.ms[i].2.1, by rw [Int.toNat_natCast]; exact ha, m - 1, by omega, i + 1, ?_, by omega, h⟩⟩
      rw [List.take_succ_eq_append_getElem hi, plSum_snoc, wI64 (by omega) (by omega), wI64 (by omega) (by omega)]; rfl
    have hc := dec_f hc
    obtain rfl : i = x.ms.length := by omega
    rw [List.take_length]
    refine ⟨_, _, _, _, _, ⟨Own.ld (g := a1) h (by repeat (first | with_reducible exact Pick.here | apply Pick.there)) rfl, Own.ld (g := a1) h (by repeat (first | with_reducible exact Pick.here | apply Pick.there)) rfl, Own.ld (g := a1) h (by repeat (first | with_reducible exact Pick.here | apply Pick.there)) rfl, Own.ld (g := a1) h (by repeat (first | with_reducible exact Pick.here | apply Pick.there)) rfl, Own.ld (g := a1) h (by repeat (first | with_reducible exact Pick.here | apply Pick.there)) rfl⟩, ?_⟩
    refine Rets.mono (scNear h) ?_
    clear h
    rintro _ w ⟨rfl, h⟩
    refine ⟨_, _, _, _, _, rfl, h.newR fun a4 w h => Own.stP' (g := a4) h (by repeat (first | with_reducible exact Pick.here | apply Pick.there)) (by simp) (by simp [Value.oneCell']) fun w h => ?_⟩
    simp only [setFrom, List.set_cons_zero, List.set_cons_succ, List.set_nil] at h
    obtain ⟨nr, hnr⟩ : ∃ nr : List Value, nr = [.int .i64 (crI 0 4611686018427387904 x.c0), .int .i64 (crI 1 64 x.c1), .int .i64 (crI 1 4096 x.c2), .int .i64 (crI 1 16 x.c3), .int .i64 (crI 0 64 x.c4)] := ⟨_, rfl⟩
    have h : Own W w (blk a4 23 nr :: blk a2 27 y.cs :: blk a1 27 x.cs :: snap W :: []) := by rw [hnr]; exact h
    subst hnr
    have rx := rx.cons (A := blk a4 23 [.int .i64 (crI 0 4611686018427387904 x.c0), .int .i64 (crI 1 64 x.c1), .int .i64 (crI 1 4096 x.c2), .int .i64 (crI 1 16 x.c3), .int .i64 (crI 0 64 x.c4)])
    have ry := ry.cons (A := blk a4 23 [.int .i64 (crI 0 4611686018427387904 x.c0), .int .i64 (crI 1 64 x.c1), .int .i64 (crI 1 4096 x.c2), .int .i64 (crI 1 16 x.c3), .int .i64 (crI 0 64 x.c4)])
    refine h.drw fun w h => ⟨fun w => Own W w _, h, _, _, _, _, _, _, _, _, _, _, _, _, _, _, ⟨fun w h => Own.ld (g := a1) h (by repeat (first | with_reducible exact Pick.here | apply Pick.there)) rfl, fun w h => Own.ld (g := a1) h (by repeat (first | with_reducible exact Pick.here | apply Pick.there)) rfl, fun w h => Own.ld (g := a1) h (by repeat (first | with_reducible exact Pick.here | apply Pick.there)) rfl, fun w h => Own.ld (g := a1) h (by repeat (first | with_reducible exact Pick.here | apply Pick.there)) rfl, fun w h => Own.ld (g := a1) h (by repeat (first | with_reducible exact Pick.here | apply Pick.there)) rfl, fun w h => Own.ld (g := a1) h (by repeat (first | with_reducible exact Pick.here | apply Pick.there)) rfl, fun w h => Own.ld (g := a1) h (by repeat (first | with_reducible exact Pick.here | apply Pick.there)) rfl, fun w h => Own.ld (g := a1) h (by repeat (first | with_reducible exact Pick.here | apply Pick.there)) rfl⟩, _, _, _, _, _, _, _, _, _, _, _, _, _, _, ⟨fun w h => Own.ld (g := a1) h (by repeat (first | with_reducible exact Pick.here | apply Pick.there)) rfl, fun w h => Own.ld (g := a1) h (by repeat (first | with_reducible exact Pick.here | apply Pick.there)) rfl, fun w h => Own.ld (g := a1) h (by repeat (first | with_reducible exact Pick.here | apply Pick.there)) rfl, fun w h => Own.ld (g := a1) h (by repeat (first | with_reducible exact Pick.here | apply Pick.there)) rfl, fun w h => Own.ld (g := a1) h (by repeat (first | with_reducible exact Pick.here | apply Pick.there)) rfl, fun w h => Own.ld (g := a1) h (by repeat (first | with_reducible exact Pick.here | apply Pick.there)) rfl, fun w h => Own.ld (g := a1) h (by repeat (first | with_reducible exact Pick.here | apply Pick.there)) rfl, fun w h => Own.ld (g := a1) h (by repeat (first | with_reducible exact Pick.here | apply Pick.there)) rfl⟩, ?_⟩
    refine Rets.mono (scRightG (x := x) fx rx h) ?_
    clear h
    rintro _ w ⟨⟨b4, rfl, hb4⟩, h⟩
    refine ⟨_, rfl, h, ?_⟩
    refine Rets.mono (rdRightG (x := x) fx rx h) ?_
    clear h
    rintro _ w ⟨⟨b5, rfl, hb5⟩, h⟩
    have e45 : (b4 == b5) = true := by cases b4 <;> cases b5 <;> simp_all
    refine ⟨_, rfl, h, fun _ => ⟨_, _, _, _, _, ⟨fun w h => Own.ld (g := a4) h (by repeat (first | with_reducible exact Pick.here | apply Pick.there)) rfl, fun w h => Own.ld (g := a4) h (by repeat (first | with_reducible exact Pick.here | apply Pick.there)) rfl, fun w h => Own.ld (g := a4) h (by repeat (first | with_reducible exact Pick.here | apply Pick.there)) rfl, fun w h => Own.ld (g := a4) h (by repeat (first | with_reducible exact Pick.here | apply Pick.there)) rfl, fun w h => Own.ld (g := a4) h (by repeat (first | with_reducible exact Pick.here | apply Pick.there)) rfl⟩, _, _, _, _, _, ⟨fun w h => Own.ld (g := a1) h (by repeat (first | with_reducible exact Pick.here | apply Pick.there)) rfl, fun w h => Own.ld (g := a1) h (by repeat (first | with_reducible exact Pick.here | apply Pick.there)) rfl, fun w h => Own.ld (g := a1) h (by repeat (first | with_reducible exact Pick.here | apply Pick.there)) rfl, fun w h => Own.ld (g := a1) h (by repeat (first | with_reducible exact Pick.here | apply Pick.there)) rfl, fun w h => Own.ld (g := a1) h (by repeat (first | with_reducible exact Pick.here | apply Pick.there)) rfl⟩, ?_⟩, fun hc => absurd hc (by rw [e45]; simp)⟩
    refine Rets.mono (rdNear h) ?_
    clear h
    rintro _ w ⟨rfl, h⟩
    refine ⟨_, _, _, _, _, rfl, h, fun _ => ⟨_, _, _, _, _, ⟨fun w h => Own.ld (g := a4) h (by repeat (first | with_reducible exact Pick.here | apply Pick.there)) rfl, fun w h => Own.ld (g := a4) h (by repeat (first | with_reducible exact Pick.here | apply Pick.there)) rfl, fun w h => Own.ld (g := a4) h (by repeat (first | with_reducible exact Pick.here | apply Pick.there)) rfl, fun w h => Own.ld (g := a4) h (by repeat (first | with_reducible exact Pick.here | apply Pick.there)) rfl, fun w h => Own.ld (g := a4) h (by repeat (first | with_reducible exact Pick.here | apply Pick.there)) rfl⟩, ?_⟩, fun hc => absurd hc (by simp)⟩
    refine Rets.mono (scConfigG h) ?_
    clear h
    rintro _ w ⟨⟨b6, rfl, hb6⟩, h⟩
    have e6 : b6 = true := hb6.2 (nearP.of _ _ _ _ _)
    refine ⟨_, rfl, h, fun _ => ⟨_, _, _, _, _, ⟨fun w h => Own.ld (g := a1) h (by repeat (first | with_reducible exact Pick.here | apply Pick.there)) rfl, fun w h => Own.ld (g := a1) h (by repeat (first | with_reducible exact Pick.here | apply Pick.there)) rfl, fun w h => Own.ld (g := a1) h (by repeat (first | with_reducible exact Pick.here | apply Pick.there)) rfl, fun w h => Own.ld (g := a1) h (by repeat (first | with_reducible exact Pick.here | apply Pick.there)) rfl, fun w h => Own.ld (g := a1) h (by repeat (first | with_reducible exact Pick.here | apply Pick.there)) rfl⟩, _, _, _, _, _, ⟨fun w h => Own.ld (g := a4) h (by repeat (first | with_reducible exact Pick.here | apply Pick.there)) rfl, fun w h => Own.ld (g := a4) h (by repeat (first | with_reducible exact Pick.here | apply Pick.there)) rfl, fun w h => Own.ld (g := a4) h (by repeat (first | with_reducible exact Pick.here | apply Pick.there)) rfl, fun w h => Own.ld (g := a4) h (by repeat (first | with_reducible exact Pick.here | apply Pick.there)) rfl, fun w h => Own.ld (g := a4) h (by repeat (first | with_reducible exact Pick.here | apply Pick.there)) rfl⟩, _, _, _, _, _, ⟨fun w h => Own.ld (g := a1) h (by repeat (first | with_reducible exact Pick.here | apply Pick.there)) rfl, fun w h => Own.ld (g := a1) h (by repeat (first | with_reducible exact Pick.here | apply Pick.there)) rfl, fun w h => Own.ld (g := a1) h (by repeat (first | with_reducible exact Pick.here | apply Pick.there)) rfl, fun w h => Own.ld (g := a1) h (by repeat (first | with_reducible exact Pick.here | apply Pick.there)) rfl, fun w h => Own.ld (g := a1) h (by repeat (first | with_reducible exact Pick.here | apply Pick.there)) rfl⟩, ?_⟩, fun hc => absurd hc (by rw [e6]; simp)⟩
    refine Rets.mono (scConfigG h) ?_
    clear h
    rintro _ w ⟨⟨b7, rfl, hb7⟩, h⟩
    rw [eq5']
    have e7 : (b7 == decide ([crI 0 4611686018427387904 x.c0, crI 1 64 x.c1, crI 1 4096 x.c2, crI 1 16 x.c3, crI 0 64 x.c4] = [x.c0, x.c1, x.c2, x.c3, x.c4])) = true := by
      rw [beq_iff_eq, Bool.eq_iff_iff, hb7, decide_eq_true_eq]
      exact near_iff.symm
    refine ⟨_, rfl, h, fun _ => ⟨_, _, _, _, _, _, _, _, _, _, _, _, _, _, ⟨fun w h => Own.ld (g := a1) h (by repeat (first | with_reducible exact Pick.here | apply Pick.there)) rfl, fun w h => Own.ld (g := a1) h (by repeat (first | with_reducible exact Pick.here | apply Pick.there)) rfl, fun w h => Own.ld (g := a1) h (by repeat (first | with_reducible exact Pick.here | apply Pick.there)) rfl, fun w h => Own.ld (g := a1) h (by repeat (first | with_reducible exact Pick.here | apply Pick.there)) rfl, fun w h => Own.ld (g := a1) h (by repeat (first | with_reducible exact Pick.here | apply Pick.there)) rfl, fun w h => Own.ld (g := a1) h (by repeat (first | with_reducible exact Pick.here | apply Pick.there)) rfl, fun w h => Own.ld (g := a1) h (by repeat (first | with_reducible exact Pick.here | apply Pick.there)) rfl, fun w h => Own.ld (g := a1) h (by repeat (first | with_reducible exact Pick.here | apply Pick.there)) rfl⟩, _, _, _, _, _, _, _, _, _, _, _, _, _, _, ⟨fun w h => Own.ld (g := a2) h (by repeat (first | with_reducible exact Pick.here | apply Pick.there)) rfl, fun w h => Own.ld (g := a2) h (by repeat (first | with_reducible exact Pick.here | apply Pick.there)) rfl, fun w h => Own.ld (g := a2) h (by repeat (first | with_reducible exact Pick.here | apply Pick.there)) rfl, fun w h => Own.ld (g := a2) h (by repeat (first | with_reducible exact Pick.here | apply Pick.there)) rfl, fun w h => Own.ld (g := a2) h (by repeat (first | with_reducible exact Pick.here | apply Pick.there)) rfl, fun w h => Own.ld (g := a2) h (by repeat (first | with_reducible exact Pick.here | apply Pick.there)) rfl, fun w h => Own.ld (g := a2) h (by repeat (first | with_reducible exact Pick.here | apply Pick.there)) rfl, fun w h => Own.ld (g := a2) h (by repeat (first | with_reducible exact Pick.here | apply Pick.there)) rfl⟩, _, _, _, _, _, _, _, _, _, _, _, _, _, _, ⟨fun w h => Own.ld (g := a1) h (by repeat (first | with_reducible exact Pick.here | apply Pick.there)) rfl, fun w h => Own.ld (g := a1) h (by repeat (first | with_reducible exact Pick.here | apply Pick.there)) rfl, fun w h => Own.ld (g := a1) h (by repeat (first | with_reducible exact Pick.here | apply Pick.there)) rfl, fun w h => Own.ld (g := a1) h (by repeat (first | with_reducible exact Pick.here | apply Pick.there)) rfl, fun w h => Own.ld (g := a1) h (by repeat (first | with_reducible exact Pick.here | apply Pick.there)) rfl, fun w h => Own.ld (g := a1) h (by repeat (first | with_reducible exact Pick.here | apply Pick.there)) rfl, fun w h => Own.ld (g := a1) h (by repeat (first | with_reducible exact Pick.here | apply Pick.there)) rfl, fun w h => Own.ld (g := a1) h (by repeat (first | with_reducible exact Pick.here | apply Pick.there)) rfl⟩, _, _, _, _, _, _, _, _, _, _, _, _, _, _, ⟨fun w h => Own.ld (g := a2) h (by repeat (first | with_reducible exact Pick.here | apply Pick.there)) rfl, fun w h => Own.ld (g := a2) h (by repeat (first | with_reducible exact Pick.here | apply Pick.there)) rfl, fun w h => Own.ld (g := a2) h (by repeat (first | with_reducible exact Pick.here | apply Pick.there)) rfl, fun w h => Own.ld (g := a2) h (by repeat (first | with_reducible exact Pick.here | apply Pick.there)) rfl, fun w h => Own.ld (g := a2) h (by repeat (first | with_reducible exact Pick.here | apply Pick.there)) rfl, fun w h => Own.ld (g := a2) h (by repeat (first | with_reducible exact Pick.here | apply Pick.there)) rfl, fun w h => Own.ld (g := a2) h (by repeat (first | with_reducible exact Pick.here | apply Pick.there)) rfl, fun w h => Own.ld (g := a2) h (by repeat (first | with_reducible exact Pick.here | apply Pick.there)) rfl⟩, ?_⟩, fun hc => absurd hc (by rw [e7]; simp)⟩
    refine Rets.mono (scSame (x := x) (y := y) fx rx ry h) ?_
    clear h
    rintro _ w ⟨⟨b8, rfl, hb8⟩, h⟩
    refine ⟨_, rfl, h, ?_⟩
    refine Rets.mono (rdSame (x := x) (y := y) fx rx ry h) ?_
    clear h
    rintro _ w ⟨⟨b9, rfl, hb9⟩, h⟩
    have e89 : (b8 == b9) = true := by
      rw [beq_iff_eq, Bool.eq_iff_iff, hb8, hb9]
    refine ⟨_, rfl, h, fun _ => ⟨_, _, _, _, _, _, _, _, _, _, _, _, _, _, ⟨fun w h => Own.ld (g := a1) h (by repeat (first | with_reducible exact Pick.here | apply Pick.there)) rfl, fun w h => Own.ld (g := a1) h (by repeat (first | with_reducible exact Pick.here | apply Pick.there)) rfl, fun w h => Own.ld (g := a1) h (by repeat (first | with_reducible exact Pick.here | apply Pick.there)) rfl, fun w h => Own.ld (g := a1) h (by repeat (first | with_reducible exact Pick.here | apply Pick.there)) rfl, fun w h => Own.ld (g := a1) h (by repeat (first | with_reducible exact Pick.here | apply Pick.there)) rfl, fun w h => Own.ld (g := a1) h (by repeat (first | with_reducible exact Pick.here | apply Pick.there)) rfl, fun w h => Own.ld (g := a1) h (by repeat (first | with_reducible exact Pick.here | apply Pick.there)) rfl, fun w h => Own.ld (g := a1) h (by repeat (first | with_reducible exact Pick.here | apply Pick.there)) rfl⟩, _, _, _, _, _, _, _, _, _, _, _, _, _, _, ⟨fun w h => Own.ld (g := a1) h (by repeat (first | with_reducible exact Pick.here | apply Pick.there)) rfl, fun w h => Own.ld (g := a1) h (by repeat (first | with_reducible exact Pick.here | apply Pick.there)) rfl, fun w h => Own.ld (g := a1) h (by repeat (first | with_reducible exact Pick.here | apply Pick.there)) rfl, fun w h => Own.ld (g := a1) h (by repeat (first | with_reducible exact Pick.here | apply Pick.there)) rfl, fun w h => Own.ld (g := a1) h (by repeat (first | with_reducible exact Pick.here | apply Pick.there)) rfl, fun w h => Own.ld (g := a1) h (by repeat (first | with_reducible exact Pick.here | apply Pick.there)) rfl, fun w h => Own.ld (g := a1) h (by repeat (first | with_reducible exact Pick.here | apply Pick.there)) rfl, fun w h => Own.ld (g := a1) h (by repeat (first | with_reducible exact Pick.here | apply Pick.there)) rfl⟩, ?_⟩, fun hc => absurd hc (by rw [e89]; simp)⟩
    refine Rets.mono (scSame (x := x) (y := x) fx rx rx h) ?_
    clear h
    rintro _ w ⟨⟨b10, rfl, hb10⟩, h⟩
    have e10 : b10 = true := hb10.2 ⟨rfl, rfl, rfl, rfl⟩
    refine ⟨_, rfl, h, fun _ => ⟨_, _, _, _, _, _, _, _, _, _, _, _, _, _, ⟨fun w h => Own.ld (g := a1) h (by repeat (first | with_reducible exact Pick.here | apply Pick.there)) rfl, fun w h => Own.ld (g := a1) h (by repeat (first | with_reducible exact Pick.here | apply Pick.there)) rfl, fun w h => Own.ld (g := a1) h (by repeat (first | with_reducible exact Pick.here | apply Pick.there)) rfl, fun w h => Own.ld (g := a1) h (by repeat (first | with_reducible exact Pick.here | apply Pick.there)) rfl, fun w h => Own.ld (g := a1) h (by repeat (first | with_reducible exact Pick.here | apply Pick.there)) rfl, fun w h => Own.ld (g := a1) h (by repeat (first | with_reducible exact Pick.here | apply Pick.there)) rfl, fun w h => Own.ld (g := a1) h (by repeat (first | with_reducible exact Pick.here | apply Pick.there)) rfl, fun w h => Own.ld (g := a1) h (by repeat (first | with_reducible exact Pick.here | apply Pick.there)) rfl⟩, ?_⟩, fun hc => absurd hc (by rw [e10]; simp)⟩
    refine Rets.mono (scCalls (x := x) fx rx h) ?_
    clear h
    rintro _ w ⟨rfl, h⟩
    exact ⟨_, rfl, fun _ => aw h.drop.drop.drop, fun hc => absurd hc (by simp)⟩
  subst hx hy
  exact key
end Go.Proofs.Ytppmdifhoejhjaa.Eng
