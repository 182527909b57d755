/- ScriptBack: for any script the law answers true. -/
import Derived.Test.YtppmdifhoejhjaaScnD
import Derived.Test.YtppmdifhoejhjaaSclG
import Derived.Test.YtppmdifhoejhjaaEngA
namespace Go.Proofs.Ytppmdifhoejhjaa.Eng
open Go Go.RowKit Go.Proofs
set_option linter.unusedVariables false
set_option linter.unusedSimpArgs false
set_option maxRecDepth 1000000
theorem scAwake {e w : World} {F : List HP} (h : Own e w F) : Rets Try.prog 6 #[] w fun v w' => v = .bool true ∧ Own e w' F := by
  refine cortadolaw18_awake_go ?_
  refine Rets.mono (scParse (bs := []) (c := 0) (q := none) (fun x hx => (by cases hx)) (by simp) (by simp) (fun w h => .inl rfl) h) ?_
  clear h
  rintro _ w ⟨q1, d1, q2, d2, q3, d3, ms, rfl, hms, h⟩
  exact ⟨_, _, _, _, _, _, _, _, _, _, _, _, _, _, rfl, congrArg Value.bool (by decide +kernel), h.drop.drop.drop.drop⟩
theorem op64_of {x : Op5} (h : (Lit.int .i64 x.1).wf = true ∧ (Lit.int .i64 x.2.1).wf = true ∧ (Lit.int .i64 x.2.2.1).wf = true ∧ (Lit.int .i64 x.2.2.2.1).wf = true ∧ (Lit.int .i64 x.2.2.2.2).wf = true) : op64 x := by
  obtain ⟨h0, h1, h2, h3, h4⟩ := h
  have h0 := wfI64 h0
  have h1 := wfI64 h1
  have h2 := wfI64 h2
  have h3 := wfI64 h3
  have h4 := wfI64 h4
  intro p
  rcases p with _ | _ | _ | _ | _ | p
  · exact h0
  · exact h1
  · exact h2
  · exact h3
  · exact h4
  · show _ ≤ (0 : Int) ∧ (0 : Int) ≤ _
    omega
theorem bytesL_bd {c0 c1 c2 c3 c4 : Int} {pl : List (List Op5)} {PK DS : List Int} (hn : nearP c0 c1 c2 c3 c4) (hpl : pl.length ≤ 6) (hf : ∀ l ∈ pl, fineB l = true) (hD : DS.length ≤ 255) (hP : ∀ n ∈ PK, 0 ≤ n ∧ n < 256) : ∀ n ∈ bytesL c0 c1 c2 c3 c4 pl PK DS, 0 ≤ n ∧ n < 256 := fun n hm => by
  obtain ⟨b0, b1, b2, b3, b4⟩ := hn
  unfold bytesL at hm
  simp only [List.mem_append, List.mem_cons, List.not_mem_nil, or_false, List.mem_flatMap] at hm
  rcases hm with ((((((hm | hm | hm | hm) | hm) | hm) | ⟨l, hl, hm⟩) | hm) | hm) | hm
  · exact putL_bd _ _ hm
  · omega
  · omega
  · omega
  · exact putL_bd _ _ hm
  · omega
  · exact putP_bd (hf l hl) _ hm
  · omega
  · exact putL_bd _ _ hm
  · exact hP _ hm
theorem ScriptBack_spec {W : World} {x0 x1 x2 x3 x4 : Int} {xq xq2 xq3 : Option Addr} {xd xd2 xd3 : Nat} {xms : List (Sl Op5)} {xPK xDS : List Int} (hx0 : (Lit.int .i64 x0).wf = true) (hx1 : (Lit.int .i64 x1).wf = true) (hx2 : (Lit.int .i64 x2).wf = true) (hx3 : (Lit.int .i64 x3).wf = true) (hx4 : (Lit.int .i64 x4).wf = true)
    (hxA : RdC W xq (xms.map Sl.v)) (hxAm : xms.length ≤ maxLen) (hxAc : xms.length ≤ xd) (hxAw : ∀ x ∈ xms, RdC W x.1 (x.2.2.flatMap encO) ∧ x.2.2.length ≤ maxLen ∧ x.2.2.length ≤ x.2.1 ∧ ∀ s ∈ x.2.2, (Lit.int .i64 s.1).wf = true ∧ (Lit.int .i64 s.2.1).wf = true ∧ (Lit.int .i64 s.2.2.1).wf = true ∧ (Lit.int .i64 s.2.2.2.1).wf = true ∧ (Lit.int .i64 s.2.2.2.2).wf = true)
    (hxB : RdC W xq2 (cs .i64 xPK)) (hxBm : xPK.length ≤ maxLen) (hxBc : xPK.length ≤ xd2) (hxBw : ∀ n ∈ xPK, (Lit.int .i64 n).wf = true)
    (hxC : RdC W xq3 (cs .i64 xDS)) (hxCm : xDS.length ≤ maxLen) (hxCc : xDS.length ≤ xd3) (hxCw : ∀ n ∈ xDS, (Lit.int .i64 n).wf = true) :
    Rets Try.prog 4 #[.agg #[.int .i64 x0, .int .i64 x1, .int .i64 x2, .int .i64 x3, .int .i64 x4, .slice xq xms.length xd, .slice xq2 xPK.length xd2, .slice xq3 xDS.length xd3]] W fun v w' => v = .bool true ∧ Below W.heap.size W w' := by
  refine Rets.mono (k := fun v w' => v = .bool true ∧ ∃ F, Own W w' (snap W :: F)) ?_ (fun v w' h => ⟨h.1, h.2.elim fun F h => h.below⟩)
  have h := Own.begin W
  obtain ⟨x, hx⟩ : ∃ x : ScT, x = ⟨x0, x1, x2, x3, x4, xq, xd, xms, xq2, xd2, xPK, xq3, xd3, xDS⟩ := ⟨_, rfl⟩
  have rx : ScRd W [snap W] x := by subst hx; exact ⟨fun w h => Own.snapRd h hxA, fun w h m hm => Own.snapRd h (hxAw m hm).1, fun w h => Own.snapRd h hxB, fun w h => Own.snapRd h hxC⟩
  have h64 : ∀ m ∈ x.ms, ∀ o ∈ m.2.2, op64 o := by subst hx; exact fun m hm o ho => op64_of ((hxAw m hm).2.2.2 o ho)
  have hDb : ∀ n ∈ x.DS, -9223372036854775808 ≤ n ∧ n ≤ 9223372036854775807 := by
    subst hx
    intro n hn
    have := hxCw n hn
    simp [Lit.wf, IntKind.min, IntKind.max, IntKind.signed, IntKind.bits] at this
    omega
  have key : Rets Try.prog 4 #[x.v] W fun v w' => v = .bool true ∧ ∃ F, Own W w' (snap W :: F) := by
    clear hx hx0 hx1 hx2 hx3 hx4 hxA hxAm hxAc hxAw hxB hxBm hxBc hxBw hxC hxCm hxCc hxCw
    refine cortadolaw18_ScriptBack_go _ _ _ _ _ _ _ _ _ _ _ _ _ _ ?_
    unfold cortadolaw18_ScriptBack_m
    refine h.newR fun a1 w h => ?_
    simp only [addr_add_add, Nat.zero_add]
    have rx : ScRd W [blk a1 27 x.cs, snap W] x := rx.cons
    have h : Own W w [blk a1 27 x.cs, snap W] := h
    have aw : ∀ {w : World}, Own W w [snap W] → Rets Try.prog 6 #[] w fun v w' => ∃ b, v = Value.bool b ∧ (Value.bool b) = .bool true ∧ ∃ F, Own W w' (snap W :: F) := fun {w} h => by
      refine Rets.mono (scAwake h) ?_
      rintro _ w ⟨rfl, h⟩
      exact ⟨_, rfl, rfl, _, h⟩
    refine ⟨_, _, _, _, _, _, _, _, _, _, _, _, _, _, ⟨Own.ld (g := a1) h (by repeat (first | with_reducible exact Pick.here | apply Pick.there)) rfl, Own.ld (g := a1) h (by repeat (first | with_reducible exact Pick.here | apply Pick.there)) rfl, Own.ld (g := a1) h (by repeat (first | with_reducible exact Pick.here | apply Pick.there)) rfl, Own.ld (g := a1) h (by repeat (first | with_reducible exact Pick.here | apply Pick.there)) rfl, Own.ld (g := a1) h (by repeat (first | with_reducible exact Pick.here | apply Pick.there)) rfl, Own.ld (g := a1) h (by repeat (first | with_reducible exact Pick.here | apply Pick.there)) rfl, Own.ld (g := a1) h (by repeat (first | with_reducible exact Pick.here | apply Pick.there)) rfl, Own.ld (g := a1) h (by repeat (first | with_reducible exact Pick.here | apply Pick.there)) rfl⟩, ?_⟩
    refine Rets.mono (scFew (x := x) rx h) ?_
    clear h
    rintro _ w ⟨⟨b1, rfl, hb1⟩, h⟩
    refine ⟨_, rfl, fun hc1 => aw h.drop, fun hc1 => ⟨_, _, _, _, _, _, _, _, _, _, _, _, _, _, ⟨Own.ld (g := a1) h (by repeat (first | with_reducible exact Pick.here | apply Pick.there)) rfl, Own.ld (g := a1) h (by repeat (first | with_reducible exact Pick.here | apply Pick.there)) rfl, Own.ld (g := a1) h (by repeat (first | with_reducible exact Pick.here | apply Pick.there)) rfl, Own.ld (g := a1) h (by repeat (first | with_reducible exact Pick.here | apply Pick.there)) rfl, Own.ld (g := a1) h (by repeat (first | with_reducible exact Pick.here | apply Pick.there)) rfl, Own.ld (g := a1) h (by repeat (first | with_reducible exact Pick.here | apply Pick.there)) rfl, Own.ld (g := a1) h (by repeat (first | with_reducible exact Pick.here | apply Pick.there)) rfl, Own.ld (g := a1) h (by repeat (first | with_reducible exact Pick.here | apply Pick.there)) rfl⟩, ?_⟩⟩
    have fx := hb1.1 (by simpa using hc1)
    clear hb1 hc1
    refine Rets.mono (scBytes (x := x) fx rx h) ?_
    clear h
    rintro _ w (⟨hnr, rfl, h⟩ | ⟨hr, hlen, rfl, h⟩ | ⟨hr, hlen, qb, cb, rfl, h⟩)
    · refine ⟨_, _, _, _, rfl, _, _, _, _, _, _, _, _, _, _, _, _, _, _, ⟨Own.ld (g := a1) h (by repeat (first | with_reducible exact Pick.here | apply Pick.there)) rfl, Own.ld (g := a1) h (by repeat (first | with_reducible exact Pick.here | apply Pick.there)) rfl, Own.ld (g := a1) h (by repeat (first | with_reducible exact Pick.here | apply Pick.there)) rfl, Own.ld (g := a1) h (by repeat (first | with_reducible exact Pick.here | apply Pick.there)) rfl, Own.ld (g := a1) h (by repeat (first | with_reducible exact Pick.here | apply Pick.there)) rfl, Own.ld (g := a1) h (by repeat (first | with_reducible exact Pick.here | apply Pick.there)) rfl, Own.ld (g := a1) h (by repeat (first | with_reducible exact Pick.here | apply Pick.there)) rfl, Own.ld (g := a1) h (by repeat (first | with_reducible exact Pick.here | apply Pick.there)) rfl⟩, ?_⟩
      refine Rets.mono (rdRightG (x := x) fx rx h) ?_
      clear h
      rintro _ w ⟨⟨b3, rfl, hb3⟩, h⟩
      refine ⟨_, rfl, fun _ => ⟨fun _ => ⟨fun _ => aw h.drop, fun hc => absurd hc (by simp)⟩, fun hc => absurd hc (by simp)⟩, fun hc => absurd (hb3.1 (by simpa using hc)) hnr⟩
    · refine ⟨_, _, _, _, rfl, _, _, _, _, _, _, _, _, _, _, _, _, _, _, ⟨Own.ld (g := a1) h (by repeat (first | with_reducible exact Pick.here | apply Pick.there)) rfl, Own.ld (g := a1) h (by repeat (first | with_reducible exact Pick.here | apply Pick.there)) rfl, Own.ld (g := a1) h (by repeat (first | with_reducible exact Pick.here | apply Pick.there)) rfl, Own.ld (g := a1) h (by repeat (first | with_reducible exact Pick.here | apply Pick.there)) rfl, Own.ld (g := a1) h (by repeat (first | with_reducible exact Pick.here | apply Pick.there)) rfl, Own.ld (g := a1) h (by repeat (first | with_reducible exact Pick.here | apply Pick.there)) rfl, Own.ld (g := a1) h (by repeat (first | with_reducible exact Pick.here | apply Pick.there)) rfl, Own.ld (g := a1) h (by repeat (first | with_reducible exact Pick.here | apply Pick.there)) rfl⟩, ?_⟩
      refine Rets.mono (rdRightG (x := x) fx rx h) ?_
      clear h
      rintro _ w ⟨⟨b3, rfl, hb3⟩, h⟩
      have e3 : b3 = true := hb3.2 hr
      refine ⟨_, rfl, fun hc => absurd hc (by rw [e3]; simp), fun hc => ⟨_, _, _, _, _, _, _, _, _, _, _, _, _, _, ⟨Own.ld (g := a1) h (by repeat (first | with_reducible exact Pick.here | apply Pick.there)) rfl, Own.ld (g := a1) h (by repeat (first | with_reducible exact Pick.here | apply Pick.there)) rfl, Own.ld (g := a1) h (by repeat (first | with_reducible exact Pick.here | apply Pick.there)) rfl, Own.ld (g := a1) h (by repeat (first | with_reducible exact Pick.here | apply Pick.there)) rfl, Own.ld (g := a1) h (by repeat (first | with_reducible exact Pick.here | apply Pick.there)) rfl, Own.ld (g := a1) h (by repeat (first | with_reducible exact Pick.here | apply Pick.there)) rfl, Own.ld (g := a1) h (by repeat (first | with_reducible exact Pick.here | apply Pick.there)) rfl, Own.ld (g := a1) h (by repeat (first | with_reducible exact Pick.here | apply Pick.there)) rfl⟩, ?_⟩⟩
      refine Rets.mono (rdBytes (x := x) fx hr rx h) ?_
      clear h
      rintro _ w ⟨q2, c2, rfl, h⟩
      refine ⟨_, _, _, rfl, fun _ => ⟨fun _ => ⟨fun _ => aw h.drop.drop, fun hc => absurd hc (by simp)⟩, fun hc => absurd hc (by simp)⟩, fun hc => absurd (dec_f hc) (by omega)⟩
    · refine ⟨_, _, _, _, rfl, _, _, _, _, _, _, _, _, _, _, _, _, _, _, ⟨Own.ld (g := a1) h (by repeat (first | with_reducible exact Pick.here | apply Pick.there)) rfl, Own.ld (g := a1) h (by repeat (first | with_reducible exact Pick.here | apply Pick.there)) rfl, Own.ld (g := a1) h (by repeat (first | with_reducible exact Pick.here | apply Pick.there)) rfl, Own.ld (g := a1) h (by repeat (first | with_reducible exact Pick.here | apply Pick.there)) rfl, Own.ld (g := a1) h (by repeat (first | with_reducible exact Pick.here | apply Pick.there)) rfl, Own.ld (g := a1) h (by repeat (first | with_reducible exact Pick.here | apply Pick.there)) rfl, Own.ld (g := a1) h (by repeat (first | with_reducible exact Pick.here | apply Pick.there)) rfl, Own.ld (g := a1) h (by repeat (first | with_reducible exact Pick.here | apply Pick.there)) rfl⟩, ?_⟩
      have rx2 : ScRd W [byB qb x.bytes.length cb x.bytes, blk a1 27 x.cs, snap W] x := rx.cons
      refine Rets.mono (rdRightG (x := x) fx rx2 h) ?_
      clear h
      rintro _ w ⟨⟨b3, rfl, hb3⟩, h⟩
      have e3 : b3 = true := hb3.2 hr
      refine ⟨_, rfl, fun hc => absurd hc (by rw [e3]; simp), fun hc => ⟨_, _, _, _, _, _, _, _, _, _, _, _, _, _, ⟨Own.ld (g := a1) h (by repeat (first | with_reducible exact Pick.here | apply Pick.there)) rfl, Own.ld (g := a1) h (by repeat (first | with_reducible exact Pick.here | apply Pick.there)) rfl, Own.ld (g := a1) h (by repeat (first | with_reducible exact Pick.here | apply Pick.there)) rfl, Own.ld (g := a1) h (by repeat (first | with_reducible exact Pick.here | apply Pick.there)) rfl, Own.ld (g := a1) h (by repeat (first | with_reducible exact Pick.here | apply Pick.there)) rfl, Own.ld (g := a1) h (by repeat (first | with_reducible exact Pick.here | apply Pick.there)) rfl, Own.ld (g := a1) h (by repeat (first | with_reducible exact Pick.here | apply Pick.there)) rfl, Own.ld (g := a1) h (by repeat (first | with_reducible exact Pick.here | apply Pick.there)) rfl⟩, ?_⟩⟩
      refine Rets.mono (rdBytes (x := x) fx hr rx2 h) ?_
      clear h
      rintro _ w ⟨q2, c2, rfl, h⟩
      have h : Own W w (byB qb x.bytes.length cb x.bytes :: blk a1 27 x.cs :: byB q2 x.bytes.length c2 x.bytes :: snap W :: []) := (Own.sub (h) (by repeat (first | with_reducible exact Sub.nil _ | with_reducible exact Sub.rfl _ | (apply Sub.cons; focus ((repeat (first | with_reducible exact Pick.here | apply Pick.there)); done)) | apply Sub.drop)))
      refine ⟨_, _, _, rfl, fun hc => absurd (dec_t hc) (by omega), fun _ => ?_⟩
      let S : World → Prop := fun w => ∃ F', Own W w (byB qb x.bytes.length cb x.bytes :: blk a1 27 x.cs :: byB q2 x.bytes.length c2 x.bytes :: snap W :: F')
      obtain ⟨hn, g2, g3, g4, g5, g6⟩ := hr
      have hpf : ∀ l ∈ x.pl, fineB l = true := fun l hl => by
        obtain ⟨m, hm, rfl⟩ := List.mem_map.1 hl
        exact g5 m hm
      have hpl : x.pl.length = x.ms.length := by simp [ScT.pl]
      have h8 := bytesL_bd (PK := x.PK) (DS := x.DS) hn (by omega) hpf g4 g6
      have hfacts := h.slFacts
      refine h.drw fun w h => ⟨S, ⟨_, h⟩, fun _ => ⟨_, strSame (e := 5) (by kernel_rfl) (by kernel_rfl) (by kernel_rfl) rfl (by omega) (fun w h => h.elim fun F' h => Own.rdP (T := 5) (q := qb) h (by repeat (first | with_reducible exact Pick.here | apply Pick.there))), _, rfl, _, strSame (e := 5) (by kernel_rfl) (by kernel_rfl) (by kernel_rfl) rfl (by omega) (fun w h => h.elim fun F' h => Own.rdP (T := 5) (q := q2) h (by repeat (first | with_reducible exact Pick.here | apply Pick.there))), _, rfl, fun _ => ⟨_, _, _, _, _, _, _, _, _, _, _, _, _, _, ⟨fun w h => h.elim fun F' h => Own.ld (g := a1) h (by repeat (first | with_reducible exact Pick.here | apply Pick.there)) rfl, fun w h => h.elim fun F' h => Own.ld (g := a1) h (by repeat (first | with_reducible exact Pick.here | apply Pick.there)) rfl, fun w h => h.elim fun F' h => Own.ld (g := a1) h (by repeat (first | with_reducible exact Pick.here | apply Pick.there)) rfl, fun w h => h.elim fun F' h => Own.ld (g := a1) h (by repeat (first | with_reducible exact Pick.here | apply Pick.there)) rfl, fun w h => h.elim fun F' h => Own.ld (g := a1) h (by repeat (first | with_reducible exact Pick.here | apply Pick.there)) rfl, fun w h => h.elim fun F' h => Own.ld (g := a1) h (by repeat (first | with_reducible exact Pick.here | apply Pick.there)) rfl, fun w h => h.elim fun F' h => Own.ld (g := a1) h (by repeat (first | with_reducible exact Pick.here | apply Pick.there)) rfl, fun w h => h.elim fun F' h => Own.ld (g := a1) h (by repeat (first | with_reducible exact Pick.here | apply Pick.there)) rfl⟩, ?_⟩, fun hc => absurd hc (by simp)⟩, fun hc => absurd hc (by simp)⟩
      have eT : x.bytes.take 16384 = x.bytes := List.take_of_length_le hlen
      refine Rets.mono (scParse (bs := x.bytes) h8 (by omega) hfacts.2.1 (fun w h => Own.rdP (T := 5) (q := qb) h (by repeat (first | with_reducible exact Pick.here | apply Pick.there))) h) ?_
      clear h
      rintro _ w ⟨p1, d1, p2, d2, p3, d3, ms, rfl, hms, h⟩
      rw [eT] at h hms ⊢
      obtain ⟨v0, v1, v2, v3, v4, vP, vD, vK⟩ := sp_put (B := x.bytes) hn (by omega) hpf (fun l hl o ho => by
        obtain ⟨m, hm, rfl⟩ := List.mem_map.1 hl
        exact h64 m hm o ho) g4 hDb g3 rfl
      rw [vK, vD] at h
      rw [v0, v1, v2, v3, v4, vK, vD]
      rw [vP] at hms
      obtain ⟨y, hy⟩ : ∃ y : ScT, y = ⟨x.c0, x.c1, x.c2, x.c3, x.c4, p1, d1, ms, p2, d2, x.PK, p3, d3, x.DS⟩ := ⟨_, rfl⟩
      have hml : ms.length = x.ms.length := by have := congrArg List.length hms; simpa [ScT.pl] using this
      have fy : y.few := by
        subst hy
        refine ⟨fun m hm => ?_, by show ms.length ≤ 9; omega, fx.2.2.1, fx.2.2.2⟩
        have h1 : m.2.2 ∈ ms.map (fun m => m.2.2) := List.mem_map_of_mem hm
        rw [hms] at h1
        obtain ⟨m', hm', e1⟩ := List.mem_map.1 h1
        rw [← e1]; exact fx.1 m' hm'
      have hS : S w := ⟨_, (Own.sub (h) (by repeat (first | with_reducible exact Sub.nil _ | with_reducible exact Sub.rfl _ | (apply Sub.cons; focus ((repeat (first | with_reducible exact Pick.here | apply Pick.there)); done)) | apply Sub.drop)))⟩
      have rx3 : ScRd W (prgB p1 ms.length d1 ms :: prgIn ms :: inB p2 x.PK.length d2 x.PK :: inB p3 x.DS.length d3 x.DS :: byB qb x.bytes.length cb x.bytes :: blk a1 27 x.cs :: byB q2 x.bytes.length c2 x.bytes :: snap W :: []) x := ⟨fun w o => rx.rd w (Own.sub (o) (by repeat (first | with_reducible exact Sub.nil _ | with_reducible exact Sub.rfl _ | (apply Sub.cons; focus ((repeat (first | with_reducible exact Pick.here | apply Pick.there)); done)) | apply Sub.drop))), fun w o => rx.rdi w (Own.sub (o) (by repeat (first | with_reducible exact Sub.nil _ | with_reducible exact Sub.rfl _ | (apply Sub.cons; focus ((repeat (first | with_reducible exact Pick.here | apply Pick.there)); done)) | apply Sub.drop))), fun w o => rx.rd2 w (Own.sub (o) (by repeat (first | with_reducible exact Sub.nil _ | with_reducible exact Sub.rfl _ | (apply Sub.cons; focus ((repeat (first | with_reducible exact Pick.here | apply Pick.there)); done)) | apply Sub.drop))), fun w o => rx.rd3 w (Own.sub (o) (by repeat (first | with_reducible exact Sub.nil _ | with_reducible exact Sub.rfl _ | (apply Sub.cons; focus ((repeat (first | with_reducible exact Pick.here | apply Pick.there)); done)) | apply Sub.drop)))⟩
      have ry3 : ScRd W (prgB p1 ms.length d1 ms :: prgIn ms :: inB p2 x.PK.length d2 x.PK :: inB p3 x.DS.length d3 x.DS :: byB qb x.bytes.length cb x.bytes :: blk a1 27 x.cs :: byB q2 x.bytes.length c2 x.bytes :: snap W :: []) y := by
        subst hy
        refine ⟨fun w o => Own.slRd o, fun w o m hm => ?_, fun w o => Own.slRd o.drop.drop, fun w o => Own.slRd o.drop.drop.drop⟩
        exact prgIn.rd (o.drop) hm
      refine ⟨_, _, _, _, _, _, _, _, _, _, _, _, _, _, rfl, hS, ?_⟩
      have hcall := rdSame (x := y) (y := x) fy ry3 rx3 h
      subst hy
      refine Rets.mono hcall ?_
      clear h hcall
      rintro _ w ⟨⟨b6, rfl, hb6⟩, h⟩
      have e6 : b6 = true := hb6.2 ⟨rfl, hms, rfl, rfl⟩
      refine ⟨_, rfl, fun _ => aw (h.drop.drop.drop.drop.drop.drop.drop), fun hc => absurd hc (by rw [e6]; simp)⟩
  subst hx
  exact key
end Go.Proofs.Ytppmdifhoejhjaa.Eng
