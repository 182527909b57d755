/- TinyRises: the law. -/
import Derived.Test.YtkhfejnkefgpeaaDoorTinP
import Derived.Test.YtkhfejnkefgpeaaDoorEngA
namespace Go.Proofs.YtkhfejnkefgpeaaDoor.Eng
open Go Go.RowKit Go.Proofs
set_option linter.unusedVariables false
set_option linter.unusedSimpArgs false
set_option maxRecDepth 1000000
section
variable {e w : World} {F : List HP}
theorem tinAwake (hm1 : ∀ w, Own e w F → RdC w mixQ mixC) (hm2 : ∀ w, Own e w F → RdC w twiQ twiC) (h : Own e w F) : Rets Tryd.prog 5 #[] w fun v w' => v = .bool true ∧ Own e w' F := by
  refine cortadolaw13_awake_go ?_
  refine Rets.mono (tNew (n := 4) (s := 0) hm1 h) ?_
  clear h
  rintro _ w ⟨g, m, md, rfl, h⟩
  rw [show maxI 1 (minI 4 4096) = (4 : Int) by decide] at h
  refine ⟨_, rfl, h.newR fun g1 w h => ?_⟩
  let S : Nat → World → Prop := fun i w => i ≤ 3 ∧ ∃ R ws, esN 0 (2 ^ m) (2 ^ md) R ws 7 = i ∧ Own e w (tinO g m md 0 R ws (i : Int) 4 0 :: blk g1 22 [.int .u64 7, .int .u64 7, .int .u64 7] :: F)
  have h0 : S 0 w := ⟨by omega, _, _, es_zero _ _ _ _ _ _, h.swap⟩
  clear h
  have hp := tPush (g := g) (L := [7, 7, 7]) (q := some ⟨g1, 0, none⟩) (c := 3) S (by decide) (fun i w hS => ?_) (fun i w hi hS => ?_) h0
  · refine Rets.mono hp ?_
    rintro _ w ⟨rfl, _, R, ws, hE, h⟩
    refine ⟨rfl, ?_⟩
    refine Rets.mono (tEst (hh := 7) (fun w h => hm1 w h.drop) (fun w h => hm2 w h.drop) h) ?_
    clear h
    rintro _ w ⟨rfl, h⟩
    rw [hE]
    refine ⟨_, rfl, fun _ => ?_, fun hc => absurd hc (by decide)⟩
    refine Rets.mono (tCount h) ?_
    rintro _ w ⟨rfl, h⟩
    exact ⟨_, rfl, rfl, h.drop.drop⟩
  · obtain ⟨_, R, ws, _, h⟩ := hS
    exact h.swap.blkRd
  · obtain ⟨hi3, R, ws, hE, h⟩ := hS
    have hi : i < 3 := hi
    have e7 : ([7, 7, 7] : List Int)[i] = 7 := by
      obtain rfl | rfl | rfl : i = 0 ∨ i = 1 ∨ i = 2 := by omega
      all_goals rfl
    rw [e7]
    obtain ⟨_, _, ⟨hl, hmd, hm, hR⟩, _⟩ := tinO.op h
    refine Rets.mono (tAdd (hh := 7) (fun w h => hm1 w h.drop) (fun w h => hm2 w h.drop) ⟨by omega, by omega, by omega⟩ h) ?_
    clear h
    rintro _ w ⟨rfl, ⟨hbad, _⟩ | ⟨_, h⟩⟩
    · omega
    · have hu := es_up (s := 0) (x := 7) (p12 hm).1 (p20 hmd).1 hl hR
      rw [hE] at hu
      exact ⟨rfl, by omega, _, _, by rw [hu]; omega, h⟩
end
section
variable {W : World} {q : Option Addr} {c : Nat} {L : List Int} {n s : Int}
theorem TinyRises_spec (HL : MixLaid W) (hnw : (Lit.int .i64 n).wf = true) (hsw : (Lit.int .u64 s).wf = true) (hb : RdC W q (cs .u64 L)) (hm : L.length ≤ maxLen) (hc : L.length ≤ c) (hw : ∀ x ∈ L, (Lit.int .u64 x).wf = true) :
    Rets Tryd.prog 4 #[.int .i64 n, .int .u64 s, .slice q L.length c] W fun v w' => v = .bool true ∧ Below W.heap.size W w' := by
  refine Rets.mono (k := fun v w' => v = .bool true ∧ Own W w' [snap W]) ?_ (fun v w' h => ⟨h.1, h.2.below⟩)
  have h := Own.begin W
  have hm1 : ∀ w, Own W w [snap W] → RdC w mixQ mixC := fun w h => h.snapRd HL.rd
  have hm2 : ∀ w, Own W w [snap W] → RdC w twiQ twiC := fun w h => h.snapRd HL.rd2
  have hr : ∀ w, Own W w [snap W] → RdC w q (cs .u64 L) := fun w h => h.snapRd hb
  have aw : ∀ w, Own W w [snap W] → Rets Tryd.prog 5 #[] w fun v w' => ∃ b, v = Value.bool b ∧ (Value.bool b) = .bool true ∧ Own W w' [snap W] := fun w h => by
    refine Rets.mono (tinAwake hm1 hm2 h) ?_
    rintro _ w ⟨rfl, h⟩
    exact ⟨_, rfl, rfl, h⟩
  refine cortadolaw13_TinyRises_go _ _ _ _ _ ⟨fun _ => aw W h, fun hx => ⟨by omega, ?_⟩⟩
  have hx := dec_f hx
  refine Rets.mono (tNew (n := minI n 500) (s := s) hm1 h) ?_
  clear h
  rintro _ w ⟨g, m, md, rfl, h⟩
  obtain ⟨o, ho⟩ : ∃ o, o = Int.tmod s 5 := ⟨_, rfl⟩
  obtain ⟨lim, hlim⟩ : ∃ lim, lim = maxI 1 (minI (minI n 500) 4096) := ⟨_, rfl⟩
  have hlb : 1 ≤ lim ∧ lim ≤ 4096 := by rw [hlim]; unfold maxI; generalize minI n 500 = y; unfold minI; split <;> split <;> omega
  rw [← hlim] at h
  rw [← ho]
  clear hlim ho
  refine ⟨_, rfl, fun z vs w => ∃ (i : Nat) (R : Nat → List Nat) (ws : List Nat) (ct : Int) (ag : Nat), vs = [.int .i64 (i : Int)] ∧ z + i = L.length ∧ (0 ≤ ct ∧ ct < lim) ∧ ag ≤ i ∧ Own W w (tinO g m md s R ws ct lim (ag : Int) :: [snap W]), ⟨L.length, 0, _, _, 0, 0, rfl, rfl, by omega, by omega, h⟩, ?_⟩
  clear h
  rintro z w v1 n1
  intros
  rename_i hI
  obtain ⟨i, R, ws, ct, ag, hvs, hz, hct, hag, h⟩ := hI
  obtain rfl : n1 = (i : Int) := by simpa using hvs
  refine ⟨fun hc1 => ?_, fun hc1 => ?_⟩
  · have hc1 := dec_t hc1
    have hi : i < L.length := by omega
    obtain ⟨x, hxe⟩ : ∃ x, x = L[i] := ⟨_, rfl⟩
    have ei : IntKind.wrap .i64 ((i : Int) + 1) = ((i + 1 : Nat) : Int) := by rw [wI64 (by omega) (by omega)]; rfl
    rw [ei]
    obtain ⟨_, _, ⟨hl, hmd, hm12, hR⟩, _⟩ := tinO.op h
    obtain ⟨p1, _⟩ := p12 hm12
    obtain ⟨p2, _⟩ := p20 hmd
    have hE1 := es_le (s := s) (x := x) (M := 2 ^ m) (MD := 2 ^ md) (ws := ws) R
    have hup := es_up (s := s) (x := x) p1 p2 hl hR
    have hst := es_stay (s := s) (x := x) (o := o) p1 p2 hl hR
    have hage := es_age (s := s) (MD := 2 ^ md) (x := x) (ws := ws) p1 hR ws.length
    refine ⟨by omega, by omega, (hr w h.drop).int hi fun a1 ha1 => ⟨x, by rw [Int.toNat_natCast, hxe]; exact ha1, ?_⟩⟩
    refine Rets.mono (tEst (hh := x) (fun w h => hm1 w h) (fun w h => hm2 w h) h) ?_
    clear h
    rintro _ w ⟨rfl, h⟩
    refine ⟨_, rfl, ?_⟩
    refine Rets.mono (tEst (hh := o) (fun w h => hm1 w h) (fun w h => hm2 w h) h) ?_
    clear h
    rintro _ w ⟨rfl, h⟩
    refine ⟨_, rfl, ?_⟩
    refine Rets.mono (tAged h) ?_
    clear h
    rintro _ w ⟨rfl, h⟩
    refine ⟨_, rfl, by omega, by omega, (hr w h.drop).int hi fun a2 ha2 => ⟨x, by rw [Int.toNat_natCast, hxe]; exact ha2, ?_⟩⟩
    refine Rets.mono (tAdd (hh := x) (fun w h => hm1 w h) (fun w h => hm2 w h) ⟨by omega, by omega, by omega⟩ h) ?_
    clear h
    rintro _ w ⟨rfl, h⟩
    refine ⟨rfl, by omega, by omega, ?_⟩
    obtain ⟨E1, eE1⟩ : ∃ E1, E1 = esN s (2 ^ m) (2 ^ md) R ws x := ⟨_, rfl⟩
    obtain ⟨E2, eE2⟩ : ∃ E2, E2 = esN s (2 ^ m) (2 ^ md) R ws o := ⟨_, rfl⟩
    rw [← eE1] at hE1 hup hage ⊢
    rw [← eE2] at hst ⊢
    have h : ∃ R1 ws1 ct1, ∃ ag1 : Nat, (0 ≤ ct1 ∧ ct1 < lim) ∧ ((ag1 = ag ∧ esN s (2 ^ m) (2 ^ md) R1 ws1 x = min 16 (E1 + 1) ∧ E2 ≤ esN s (2 ^ m) (2 ^ md) R1 ws1 o) ∨ (ag1 = ag + 1 ∧ ct1 = 0 ∧ esN s (2 ^ m) (2 ^ md) R1 ws1 x ≤ (E1 + 1) / 2)) ∧ Own W w (tinO g m md s R1 ws1 ct1 lim (ag1 : Int) :: [snap W]) := by
      rcases h with ⟨hlt, h⟩ | ⟨hlt, h⟩
      · have ea : IntKind.wrap .i64 ((ag : Int) + 1) = ((ag + 1 : Nat) : Int) := by rw [wI64 (by omega) (by omega)]; rfl
        rw [ea] at h
        exact ⟨_, _, 0, ag + 1, by omega, .inr ⟨rfl, rfl, hage⟩, h⟩
      · exact ⟨_, _, ct + 1, ag, by omega, .inl ⟨rfl, hup, hst⟩, h⟩
    clear hup hst hage
    obtain ⟨R1, ws1, ct1, ag1, hct1, hfact, h⟩ := h
    have hN1 := es_le (s := s) (x := x) (M := 2 ^ m) (MD := 2 ^ md) (ws := ws1) R1
    refine (hr w h.drop).int hi fun a3 ha3 => ⟨x, by rw [Int.toNat_natCast, hxe]; exact ha3, ?_⟩
    refine Rets.mono (tEst (hh := x) (fun w h => hm1 w h) (fun w h => hm2 w h) h) ?_
    clear h
    rintro _ w ⟨rfl, h⟩
    refine ⟨_, rfl, ?_⟩
    refine Rets.mono (tEst (hh := o) (fun w h => hm1 w h) (fun w h => hm2 w h) h) ?_
    clear h
    rintro _ w ⟨rfl, h⟩
    obtain ⟨N1, eN1⟩ : ∃ N1, N1 = esN s (2 ^ m) (2 ^ md) R1 ws1 x := ⟨_, rfl⟩
    obtain ⟨N2, eN2⟩ : ∃ N2, N2 = esN s (2 ^ m) (2 ^ md) R1 ws1 o := ⟨_, rfl⟩
    rw [← eN1] at hN1 hfact ⊢
    rw [← eN2] at hfact ⊢
    clear eN1 eN2 eE1 eE2
    have e3 : IntKind.wrap .i64 ((E1 : Int) + 1) = ((E1 + 1 : Nat) : Int) := by rw [wI64 (by omega) (by omega)]; rfl
    have e4 : IntKind.wrap .i64 (Int.tdiv ((E1 + 1 : Nat) : Int) 2) = (((E1 + 1) / 2 : Nat) : Int) := by
      have : Int.tdiv ((E1 + 1 : Nat) : Int) 2 = (((E1 + 1) / 2 : Nat) : Int) := by rw [Int.tdiv_eq_ediv_of_nonneg (by omega)]; omega
      rw [this, wI64 (by omega) (by omega)]
    have e5 : minI 16 ((E1 + 1 : Nat) : Int) = ((min 16 (E1 + 1) : Nat) : Int) := by unfold minI; split <;> omega
    rw [e3, e4, e5]
    have next : ∀ w, Own W w (tinO g m md s R1 ws1 ct1 lim (ag1 : Int) :: [snap W]) → ∃ z', z' < z ∧ ∃ (i2 : Nat) (R : Nat → List Nat) (ws : List Nat) (ct : Int) (ag : Nat), [Value.int .i64 ((i + 1 : Nat) : Int)] = [.int .i64 (i2 : Int)] ∧ z' + i2 = L.length ∧ (0 ≤ ct ∧ ct < lim) ∧ ag ≤ i2 ∧ Own W w (tinO g m md s R ws ct lim (ag : Int) :: [snap W]) := fun w h => ⟨z - 1, by omega, i + 1, R1, ws1, ct1, ag1, rfl, by omega, hct1, by omega, h⟩
    refine ⟨_, rfl, fun _ => ⟨fun _ => ?_, fun hb => (by have := dec_t hb; omega)⟩, fun hb => (by have := dec_t hb; omega)⟩
    refine Rets.mono (tCount h) ?_
    clear h
    rintro _ w ⟨rfl, h⟩
    refine ⟨_, rfl, fun _ => ?_, fun hb => (by have := dec_t hb; omega)⟩
    refine Rets.mono (tCount h) ?_
    clear h
    rintro _ w ⟨rfl, h⟩
    refine ⟨_, rfl, ?_⟩
    refine Rets.mono (tLimit h) ?_
    clear h
    rintro _ w ⟨rfl, h⟩
    refine ⟨_, rfl, fun hb => (by have := dec_t hb; omega), fun _ => ?_⟩
    refine Rets.mono (tAged h) ?_
    clear h
    rintro _ w ⟨rfl, h⟩
    refine ⟨_, rfl, fun hb => ?_, fun hb => ?_⟩
    · have hb := beq_t hb
      refine ⟨fun _ => ⟨fun hb2 => (by have := bool_ne hb2; omega), fun _ => ?_⟩, fun hb2 => (by have := dec_t hb2; omega)⟩
      refine Rets.mono (tAged h) ?_
      clear h
      rintro _ w ⟨rfl, h⟩
      exact ⟨_, rfl, fun hb2 => (by have := bool_ne hb2; omega), fun _ => next w h⟩
    · have hb := beq_f hb
      refine Rets.mono (tAged h) ?_
      clear h
      rintro _ w ⟨rfl, h⟩
      refine ⟨_, rfl, fun _ => ?_, fun _ => next w h⟩
      refine Rets.mono (tCount h) ?_
      clear h
      rintro _ w ⟨rfl, h⟩
      exact ⟨_, rfl, fun _ => ⟨by omega, fun hb2 => (by have := dec_t hb2; omega), fun _ => next w h⟩, fun hb2 => (by have := bool_ne hb2; omega)⟩
  · have hL : L.length ≤ 1000 := by omega
    refine Rets.mono (tnAdd h) ?_
    clear h
    rintro _ w ⟨rfl, h⟩
    refine ⟨rfl, ?_⟩
    refine Rets.mono (tnPush (q := q) (c := c) hL (fun w h => hr w h.drop) h) ?_
    clear h
    rintro _ w ⟨rfl, h⟩
    refine ⟨rfl, ?_⟩
    refine Rets.mono (tnClear h) ?_
    clear h
    rintro _ w ⟨rfl, h⟩
    refine ⟨rfl, ?_⟩
    refine Rets.mono (tnEst h) ?_
    clear h
    rintro _ w ⟨rfl, h⟩
    refine ⟨_, rfl, ?_⟩
    refine Rets.mono (tnCount h) ?_
    clear h
    rintro _ w ⟨rfl, h⟩
    refine ⟨_, rfl, ?_⟩
    refine Rets.mono (tnAged h) ?_
    clear h
    rintro _ w ⟨rfl, h⟩
    refine ⟨_, rfl, ?_⟩
    refine Rets.mono (tnLimit h) ?_
    clear h
    rintro _ w ⟨rfl, h⟩
    refine ⟨_, rfl, fun _ => ?_, fun hb => absurd hb (by decide)⟩
    refine Rets.mono (tnSketch h) ?_
    clear h
    rintro _ w ⟨rfl, h⟩
    refine ⟨_, rfl, fun _ => ?_, fun hb => (by cases hb)⟩
    refine Rets.mono (tnDoor h) ?_
    clear h
    rintro _ w ⟨rfl, h⟩
    refine ⟨_, rfl, fun _ => ?_, fun hb => (by cases hb)⟩
    refine Rets.mono (tSketch h) ?_
    clear h
    rintro _ w ⟨⟨_, rfl⟩, h⟩
    refine ⟨_, rfl, fun _ => ?_, fun hb => (by cases hb)⟩
    refine Rets.mono (tDoor h) ?_
    clear h
    rintro _ w ⟨⟨_, rfl⟩, h⟩
    exact ⟨_, rfl, fun _ => aw w h.drop, fun hb => (by cases hb)⟩
end
end Go.Proofs.YtkhfejnkefgpeaaDoor.Eng
