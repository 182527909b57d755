/- ProgBack. -/
import Derived.Test.YtipcbhaeoeghnaaDoorProW
namespace Go.Proofs.YtipcbhaeoeghnaaDoor.Eng
open Go Go.RowKit Go.Proofs
set_option linter.unusedVariables false
set_option linter.unusedSimpArgs false
set_option maxRecDepth 1000000
section
variable {W : World} {q q2 : Option Addr} {c c2 : Nat} {bs : List Int} {l : List Op5}
theorem op64_of {x : Op5} (h : (Lit.int .i64 x.1).wf = true ∧ (Lit.int .i64 x.2.1).wf = true ∧ (Lit.int .i64 x.2.2.1).wf = true ∧ (Lit.int .i64 x.2.2.2.1).wf = true ∧ (Lit.int .i64 x.2.2.2.2).wf = true) : op64 x := by
  obtain ⟨h0, h1, h2, h3, h4⟩ := h
  have h0 := wfI64 h0
  have h1 := wfI64 h1
  have h2 := wfI64 h2
  have h3 := wfI64 h3
  have h4 := wfI64 h4
  intro p
  rcases p with _ | _ | _ | _ | _ | p
  · exact h0
  · exact h1
  · exact h2
  · exact h3
  · exact h4
  · show _ ≤ (0 : Int) ∧ (0 : Int) ≤ _
    omega
theorem ProgBack_spec (HL : NamesLaid W) (hb : RdC W q (cs .u8 bs)) (hm : bs.length ≤ maxLen) (hc : bs.length ≤ c) (h8 : ∀ x ∈ bs, (Lit.int .u8 x).wf = true) (hb2 : RdC W q2 (l.flatMap encO)) (hm2 : l.length ≤ maxLen) (hc2 : l.length ≤ c2) (hw : ∀ s ∈ l, (Lit.int .i64 s.1).wf = true ∧ (Lit.int .i64 s.2.1).wf = true ∧ (Lit.int .i64 s.2.2.1).wf = true ∧ (Lit.int .i64 s.2.2.2.1).wf = true ∧ (Lit.int .i64 s.2.2.2.2).wf = true) :
    Rets Tryd.prog 6 #[.slice q bs.length c, .slice q2 l.length c2] W fun v w' => v = .bool true ∧ Below W.heap.size W w' := by
  refine Rets.mono (k := fun v w' => v = .bool true ∧ Own W w' [snap W]) ?_ (fun v w' h => ⟨h.1, h.2.below⟩)
  have h := Own.begin W
  have h8 := fun x hx => wf8 (h8 x hx)
  have hn : ∀ w, Own W w [snap W] → RdC w nmQ nmC := fun w h => h.snapRd HL.rd
  have hrb : ∀ w, Own W w [snap W] → RdC w q (cs .u8 bs) := fun w h => h.snapRd hb
  have hr : ∀ w, Own W w [snap W] → RdC w q2 (l.flatMap encO) := fun w h => h.snapRd hb2
  have aw : ∀ w, Own W w [snap W] → Rets Tryd.prog 7 #[] w fun v w' => ∃ b, v = Value.bool b ∧ (Value.bool b) = .bool true ∧ Own W w' [snap W] := fun w h => by
    refine Rets.mono (prAwake h hn) ?_
    rintro _ w ⟨rfl, h⟩
    exact ⟨_, rfl, rfl, h⟩
  refine cortadolaw17_ProgBack_go _ _ _ _ _ _ ⟨fun hx => ⟨fun hy => aw W h, fun hy => ?_⟩, fun hx => aw W h⟩
  have hx := dec_f hx
  have hy := dec_f hy
  refine Rets.mono (prPut h hrb hr (by omega)) ?_
  clear h
  rintro _ w (⟨hf, rfl, h⟩ | ⟨hf, qa, ca, rfl, h⟩)
  · refine ⟨_, _, _, _, rfl, ?_⟩
    refine Rets.mono (rfFine h hr (by omega)) ?_
    rintro _ w ⟨rfl, h⟩
    rw [hf]
    exact ⟨_, rfl, fun hc => absurd hc (by simp), fun _ => ⟨fun _ => ⟨fun _ => aw w h, fun hc => absurd hc (by simp)⟩, fun hc => absurd hc (by simp)⟩⟩
  have hl := fine_len hf
  have hpl : (putP l).length ≤ 1000 := by
    have := encBs_len l
    simp only [putP, List.length_cons]; omega
  have hpp : 0 < (putP l).length := by simp [putP]
  refine ⟨_, _, _, _, rfl, ?_⟩
  refine Rets.mono (rfFine (l := l) h (fun w h => hr w h.drop) (by omega)) ?_
  rintro _ w ⟨rfl, h⟩
  rw [hf]
  refine ⟨_, rfl, fun hc => absurd hc (by simp), fun _ => ⟨fun hc => absurd hc (by simp), fun _ => ?_⟩⟩
  obtain ⟨all, hall⟩ : ∃ all, all = bs ++ putP l := ⟨_, rfl⟩
  have hal : all.length = bs.length + (putP l).length := by rw [hall, List.length_append]
  rw [← hall] at h ⊢
  let S0 : World → Prop := fun w => Own W w [byB qa all.length ca all, snap W]
  refine h.drw fun w h => ⟨S0, h, _, strSame (ns := all) (e := 5) (by kernel_rfl) (by kernel_rfl) (by kernel_rfl) rfl (by omega) (fun w h => h.slRd), _, rfl, h.newR fun g w h => ⟨S0, fun _ h => h, h.drop, ?_⟩⟩
  have h : Own W w (byB (some ⟨g, 0, none⟩) 0 0 [] :: _) := Own.slMk (rest := []) (by rfl) (by omega) (by omega) (by rfl) h
  refine app8 h (hrb w h.drop.drop) rfl (by omega) fun qw cw w h => ?_
  rw [List.nil_append] at h
  simp only [Nat.zero_add] at h ⊢
  refine ⟨_, _, _, rfl, S0, fun _ h => h, h.drop, ?_⟩
  refine Rets.mono (rfPutP h (fun w h => hr w h.drop.drop) hf) ?_
  rintro _ w ⟨qr, cr, rfl, h⟩
  refine ⟨_, _, _, rfl, S0, fun _ h => h, h.drop.drop, ?_⟩
  refine app8 h.swap h.slRd rfl (by omega) fun qz cz w h => ?_
  have el : bs.length + (putP l).length = all.length := by omega
  rw [el, ← hall] at h
  rw [el]
  refine ⟨_, _, _, rfl, fun w => Own W w [byB qz all.length cz all, byB qa all.length ca all, snap W], fun _ h => h.drop, (Own.sub (h) (by repeat (first | exact Sub.nil _ | exact Sub.rfl _ | (apply Sub.cons; focus ((repeat (first | with_reducible exact Pick.here | apply Pick.there)); done)) | apply Sub.drop))), _, strSame (ns := all) (e := 5) (by kernel_rfl) (by kernel_rfl) (by kernel_rfl) rfl (by omega) (fun w h => h.slRd), _, rfl, fun hc => absurd hc (by simp), fun _ => ⟨by omega, by omega, ?_⟩⟩
  have h : Own W w [byB qa all.length ca all, snap W] := (Own.sub (h) (by repeat (first | exact Sub.nil _ | exact Sub.rfl _ | (apply Sub.cons; focus ((repeat (first | with_reducible exact Pick.here | apply Pick.there)); done)) | apply Sub.drop)))
  have hf' := h.slFacts
  have e1 : all.length - Int.toNat (bs.length : Int) = (putP l).length := by rw [Int.toNat_natCast]; omega
  have e2 : all.drop bs.length = putP l := by rw [hall]; simp
  rw [e1, Int.toNat_natCast]
  refine Rets.mono (New_spec (bs := putP l) h (fun w h => ?_) (by omega)) ?_
  · rw [← e2, cs_drop]
    have hfa := h.slFacts
    exact h.slRd.cut (by rw [cs_len]; omega) (by rw [cs_len]; omega)
  rintro _ w ⟨gt, qt, ct, rfl, h⟩
  have hrd : ∀ w a, Own W w (tapeB 94 gt qt (putP l).length ct a :: byB qt (putP l).length ct (putP l) :: byB qa all.length ca all :: [snap W]) → RdC w qt (cs .u8 (putP l)) := fun w a h => h.drop.slRd
  have hrp := rdProg_put hf (fun x hx => op64_of (hw x hx))
  refine ⟨_, rfl, ?_⟩
  refine Rets.mono (prRead h hrd (Nat.zero_le _) (by omega) (putP_bd hf)) ?_
  rintro _ w ⟨q', c', rfl, h⟩
  rw [hrp] at h ⊢
  refine ⟨_, _, _, rfl, ?_⟩
  refine Rets.mono (rfSame h (fun w h => h.slRd) (fun w h => hr w h.drop.drop.drop.drop) (show l.length ≤ 1000000 by omega)) ?_
  rintro _ w ⟨rfl, h⟩
  refine ⟨_, rfl, fun _ => ?_, fun hc => absurd hc (by simp)⟩
  refine Rets.mono (Left_spec h.drop (Nat.le_refl _) (by omega)) ?_
  rintro _ w ⟨rfl, h⟩
  refine ⟨_, rfl, fun _ => aw w h.drop.drop.drop, fun hc => absurd hc (by simp)⟩
end
end Go.Proofs.YtipcbhaeoeghnaaDoor.Eng
