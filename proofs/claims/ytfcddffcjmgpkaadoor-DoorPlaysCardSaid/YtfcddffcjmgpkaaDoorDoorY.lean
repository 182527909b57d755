/- DoorPlays: the law. -/
import Derived.Test.YtfcddffcjmgpkaaDoorDoorX
import Derived.Test.YtfcddffcjmgpkaaDoorDoorPG
namespace Go.Proofs.YtfcddffcjmgpkaaDoor.Eng
open Go Go.RowKit Go.Proofs
set_option linter.unusedVariables false
set_option linter.unusedSimpArgs false
set_option maxRecDepth 1000000
theorem bit_zero (n r : Nat) : bitW (List.replicate n 0) r = false := by
  have := bitsOf.nil 0 0 n r
  rw [Bool.eq_false_iff]; intro h
  obtain ⟨k, hk, _⟩ := this.1 h
  cases hk
theorem has_zero (s x : Int) (M n : Nat) : hasB s x M (List.replicate n 0) = false := by
  rw [Bool.eq_false_iff]; intro hh
  have := hasB_iff.1 hh 0 (by omega)
  rw [bit_zero] at this; cases this
theorem tot_zero (n : Nat) : tot (List.replicate n 0) = 0 := by rw [tot_cnt, cntB_no _ (bit_zero n)]
theorem eq4_self (a b c d : Nat) : eq4 a b c d a b c d = true := by simp [eq4]
theorem eq4_last {a0 a1 a2 a3 b0 b1 b2 b3 : Nat} (h0 : (a0 : Int) = b0) (h1 : (a1 : Int) = b1) (h2 : (a2 : Int) = b2) : ((a3 : Int) == (b3 : Int)) = eq4 a0 a1 a2 a3 b0 b1 b2 b3 := by
  unfold eq4
  rw [Bool.eq_iff_iff, beq_iff_eq, decide_eq_true_eq]; omega
theorem eq4_0 {a0 a1 a2 a3 b0 b1 b2 b3 : Nat} (h : (a0 : Int) ≠ b0) : false = eq4 a0 a1 a2 a3 b0 b1 b2 b3 := by
  unfold eq4; rw [eq_comm, decide_eq_false_iff_not]; omega
theorem eq4_1 {a0 a1 a2 a3 b0 b1 b2 b3 : Nat} (h : (a1 : Int) ≠ b1) : false = eq4 a0 a1 a2 a3 b0 b1 b2 b3 := by
  unfold eq4; rw [eq_comm, decide_eq_false_iff_not]; omega
theorem eq4_2 {a0 a1 a2 a3 b0 b1 b2 b3 : Nat} (h : (a2 : Int) ≠ b2) : false = eq4 a0 a1 a2 a3 b0 b1 b2 b3 := by
  unfold eq4; rw [eq_comm, decide_eq_false_iff_not]; omega
section
variable {W : World} {q : Option Addr} {c : Nat} {L : List Int} {k s : Int}
theorem DoorPlays_spec (HL : MixLaid W) (hkw : (Lit.int .i64 k).wf = true) (hsw : (Lit.int .u64 s).wf = true) (hb : RdC W q (cs .u64 L)) (hm : L.length ≤ maxLen) (hc : L.length ≤ c) (hw : ∀ x ∈ L, (Lit.int .u64 x).wf = true) :
    Rets Tryd.prog 3 #[.int .i64 k, .int .u64 s, .slice q L.length c] W fun v w' => v = .bool true ∧ Below W.heap.size W w' := by
  refine Rets.mono (k := fun v w' => v = .bool true ∧ Own W w' [snap W]) ?_ (fun v w' h => ⟨h.1, h.2.below⟩)
  have h := Own.begin W
  have hsM : M64 s := wfU64 hsw
  have hm1 : ∀ w, Own W w [snap W] → RdC w mixQ mixC := fun w h => h.snapRd HL.rd
  have hm2 : ∀ w, Own W w [snap W] → RdC w twiQ twiC := fun w h => h.snapRd HL.rd2
  have hr : ∀ w, Own W w [snap W] → RdC w q (cs .u64 L) := fun w h => h.snapRd hb
  have aw : ∀ w, Own W w [snap W] → Rets Tryd.prog 5 #[] w fun v w' => ∃ b, v = Value.bool b ∧ (Value.bool b) = .bool true ∧ Own W w' [snap W] := fun w h => by
    refine Rets.mono (drAwake hm1 hm2 h) ?_
    rintro _ w ⟨rfl, h⟩
    exact ⟨_, rfl, rfl, h⟩
  refine cortadolaw12_DoorPlays_go _ _ _ _ _ ⟨fun hx => ⟨fun hx2 => aw W h, fun hx2 => ?_⟩, fun hx => aw W h⟩
  have hx := dec_f hx
  have hx2 := dec_f hx2
  refine Rets.mono (drNew hm1 h) ?_
  clear h
  rintro _ w ⟨g, m, rfl, hok, h⟩
  refine ⟨_, rfl, ?_⟩
  refine Rets.mono (rdNewO (k := k) (s := s) h) ?_
  clear h
  rintro _ w ⟨q', m2, rfl, hok2, h⟩
  obtain rfl := hok.uniq hok2
  have hk := keyN_bd k
  have hm20 := hok.small (by omega)
  obtain ⟨p1, p2⟩ := p20 hm20
  obtain ⟨s', hs'⟩ : ∃ s', s' = mixI s := ⟨_, rfl⟩
  rw [← hs'] at h
  refine ⟨_, _, _, _, rfl, h.newR fun g1 w h => Own.stP' (g := g1) h (by repeat (first | with_reducible exact Pick.here | apply Pick.there)) (by simp) (by simp [Value.oneCell']) fun w h => ?_⟩
  simp only [setFrom, List.set_cons_zero, List.set_cons_succ, List.set_nil] at h
  obtain ⟨N, hN⟩ : ∃ N, N = (2 ^ m + 63) / 64 := ⟨_, rfl⟩
  rw [← hN] at h
  refine ⟨fun z vs w => ∃ (i : Nat) (ws : List Nat) (qx : Option Addr) (cx : Nat), vs = [.int .i64 (i : Int)] ∧ z + i = L.length ∧ ws.length = N ∧ Zer (2 ^ m) ws ∧ Own W w (dorO g m s' ws :: blk g1 29 [.slice qx (2 ^ m) cx, .int .u64 s] :: blB qx (2 ^ m) cx (rl (2 ^ m) ws) :: [snap W]), ⟨L.length, 0, _, _, _, rfl, rfl, by simp, Zer.nil _ N, (Own.sub (h) (by repeat (first | with_reducible exact Sub.nil _ | with_reducible exact Sub.rfl _ | (apply Sub.cons; focus ((repeat (first | with_reducible exact Pick.here | apply Pick.there)); done)) | apply Sub.drop)))⟩, ?_⟩
  clear h
  rintro z w v4 n2
  intros
  rename_i hI
  obtain ⟨i, ws, qx, cx, hvs, hz, hwl, hzer, h⟩ := hI
  obtain rfl : n2 = (i : Int) := by simpa using hvs
  refine ⟨fun hc1 => ?_, fun hc1 => ?_⟩
  · have hc1 := dec_t hc1
    have hi : i < L.length := by omega
    obtain ⟨x, hxe⟩ : ∃ x, x = L[i] := ⟨_, rfl⟩
    obtain ⟨ad, rfl, _⟩ := (hr w h.drop.drop.drop).addr (cs_at hi)
    obtain ⟨y, hy⟩ : ∃ y, y = IntKind.wrap .u64 (x + 1) := ⟨_, rfl⟩
    have rdx : ∀ w, Own W w [snap W] → World.cell? w (ad.add (Int.toNat (i : Int) * 1)) = some (.int .u64 x) := fun w h => by
      obtain ⟨ad', ead, hcell⟩ := (hr w h).addr (cs_at hi)
      cases ead
      rw [Int.toNat_natCast, Nat.mul_one, hxe]; exact hcell _ _ (cs_at hi)
    let S : World → Prop := fun w => Own W w (dorO g m s' ws :: blk g1 29 [.slice qx (2 ^ m) cx, .int .u64 s] :: blB qx (2 ^ m) cx (rl (2 ^ m) ws) :: [snap W])
    have plc : ∀ (E : HP) w, Own W w (dorO g m s' ws :: E :: blk g1 29 [.slice qx (2 ^ m) cx, .int .u64 s] :: blB qx (2 ^ m) cx (rl (2 ^ m) ws) :: [snap W]) → Rets Tryd.prog 8 #[.pointer (some ⟨g, 0, none⟩), .int .u64 x] w fun v w' => v = .agg #[.int .i64 (plN s' x (2 ^ m) 0 : Int), .int .i64 (plN s' x (2 ^ m) 1 : Int), .int .i64 (plN s' x (2 ^ m) 2 : Int), .int .i64 (plN s' x (2 ^ m) 3 : Int)] ∧ Own W w' (dorO g m s' ws :: E :: blk g1 29 [.slice qx (2 ^ m) cx, .int .u64 s] :: blB qx (2 ^ m) cx (rl (2 ^ m) ws) :: [snap W]) :=
      fun E w h => drPlaces (fun w h => hm1 w h.drop.drop.drop) (fun w h => hm2 w h.drop.drop.drop) h
    have plc0 : ∀ w, Own W w (dorO g m s' ws :: blk g1 29 [.slice qx (2 ^ m) cx, .int .u64 s] :: blB qx (2 ^ m) cx (rl (2 ^ m) ws) :: [snap W]) → Rets Tryd.prog 8 #[.pointer (some ⟨g, 0, none⟩), .int .u64 x] w fun v w' => v = .agg #[.int .i64 (plN s' x (2 ^ m) 0 : Int), .int .i64 (plN s' x (2 ^ m) 1 : Int), .int .i64 (plN s' x (2 ^ m) 2 : Int), .int .i64 (plN s' x (2 ^ m) 3 : Int)] ∧ Own W w' (dorO g m s' ws :: blk g1 29 [.slice qx (2 ^ m) cx, .int .u64 s] :: blB qx (2 ^ m) cx (rl (2 ^ m) ws) :: [snap W]) :=
      fun w h => drPlaces (fun w h => hm1 w h.drop.drop) (fun w h => hm2 w h.drop.drop) h
    have rpl : ∀ (F : List HP) (hh : Int) w, Own W w F → Rets Tryd.prog 9 #[.agg #[.slice qx (2 ^ m) cx, .int .u64 s], .int .u64 hh] w fun v w' => ∃ q' c', v = .slice q' 4 c' ∧ Own W w' (inB q' 4 c' (plL s' hh (2 ^ m) 4) :: F) := fun F hh w h => by
      rw [hs']; exact rdPlaces hm20 hsM h
    refine ⟨fun vs w => ∃ g5 qp cp qo co, vs = [.pointer (some ⟨g5, 0, none⟩), .slice qp 4 cp, .slice qo 4 co] ∧ Own W w (blk g5 31 [.int .i64 (plN s' x (2 ^ m) 0 : Int), .int .i64 (plN s' x (2 ^ m) 1 : Int), .int .i64 (plN s' x (2 ^ m) 2 : Int), .int .i64 (plN s' x (2 ^ m) 3 : Int)] :: inB qp 4 cp (plL s' x (2 ^ m) 4) :: inB qo 4 co (plL s' y (2 ^ m) 4) :: dorO g m s' ws :: blk g1 29 [.slice qx (2 ^ m) cx, .int .u64 s] :: blB qx (2 ^ m) cx (rl (2 ^ m) ws) :: [snap W]), ?_, ?_⟩
    · refine h.drw fun w h => ⟨S, h, by omega, by omega, smR ⟨by omega, by omega, smR ⟨by omega, by omega, smR ⟨x, fun w h => rdx w h.drop.drop.drop, _, _, _, _, ⟨fun w h => Own.ld (g := g1) h (by repeat (first | with_reducible exact Pick.here | apply Pick.there)) rfl, fun w h => Own.ld (g := g1) h (by repeat (first | with_reducible exact Pick.here | apply Pick.there)) rfl⟩, x, fun w h => rdx w h.drop.drop.drop, _, _, _, _, ⟨fun w h => Own.ld (g := g1) h (by repeat (first | with_reducible exact Pick.here | apply Pick.there)) rfl, fun w h => Own.ld (g := g1) h (by repeat (first | with_reducible exact Pick.here | apply Pick.there)) rfl⟩, x, fun w h => rdx w h.drop.drop.drop, ?_, ?_⟩⟩⟩⟩
      · refine Rets.mono (plc0 w h) ?_
        clear h
        rintro _ w ⟨rfl, h⟩
        refine ⟨_, _, _, _, rfl, h, ?_, ?_⟩
        · refine Rets.mono (rpl _ _ _ h) ?_
          clear h
          rintro _ w ⟨qp, cp, rfl, h⟩
          refine ⟨_, _, _, rfl, h.drop, ?_, ?_⟩
          · rw [← hy]
            refine Rets.mono (rpl _ _ _ h) ?_
            clear h
            rintro _ w ⟨qo, co, rfl, h⟩
            refine ⟨_, _, _, rfl, h.drop.drop, h.newR fun g5 w h => ⟨h.drop.drop.drop, Own.stP' (g := g5) h (by repeat (first | with_reducible exact Pick.here | apply Pick.there)) (by simp) (by simp [Value.oneCell']) fun w h => ?_⟩⟩
            simp only [setFrom, List.set_cons_zero, List.set_cons_succ, List.set_nil] at h
            exact ⟨h.drop.drop.drop, _, _, _, _, _, rfl, (Own.sub (h) (by repeat (first | with_reducible exact Sub.nil _ | with_reducible exact Sub.rfl _ | (apply Sub.cons; focus ((repeat (first | with_reducible exact Pick.here | apply Pick.there)); done)) | apply Sub.drop)))⟩
          · refine h.newR fun g5 w h => ⟨h.drop.drop, ?_⟩
            rw [← hy]
            refine Rets.mono (rpl _ _ _ h) ?_
            clear h
            rintro _ w ⟨qo, co, rfl, h⟩
            refine ⟨_, _, _, rfl, h.drop.drop.drop, Own.stP' (g := g5) h (by repeat (first | with_reducible exact Pick.here | apply Pick.there)) (by simp) (by simp [Value.oneCell']) fun w h => ?_⟩
            simp only [setFrom, List.set_cons_zero, List.set_cons_succ, List.set_nil] at h
            exact ⟨h.drop.drop.drop, _, _, _, _, _, rfl, (Own.sub (h) (by repeat (first | with_reducible exact Sub.nil _ | with_reducible exact Sub.rfl _ | (apply Sub.cons; focus ((repeat (first | with_reducible exact Pick.here | apply Pick.there)); done)) | apply Sub.drop)))⟩
        · refine h.newR fun g5 w h => ⟨h.drop, ?_⟩
          refine Rets.mono (rpl _ _ _ h) ?_
          clear h
          rintro _ w ⟨qp, cp, rfl, h⟩
          refine ⟨_, _, _, rfl, h.drop.drop, ?_⟩
          rw [← hy]
          refine Rets.mono (rpl _ _ _ h) ?_
          clear h
          rintro _ w ⟨qo, co, rfl, h⟩
          refine ⟨_, _, _, rfl, h.drop.drop.drop, Own.stP' (g := g5) h (by repeat (first | with_reducible exact Pick.here | apply Pick.there)) (by simp) (by simp [Value.oneCell']) fun w h => ?_⟩
          simp only [setFrom, List.set_cons_zero, List.set_cons_succ, List.set_nil] at h
          exact ⟨h.drop.drop.drop, _, _, _, _, _, rfl, (Own.sub (h) (by repeat (first | with_reducible exact Sub.nil _ | with_reducible exact Sub.rfl _ | (apply Sub.cons; focus ((repeat (first | with_reducible exact Pick.here | apply Pick.there)); done)) | apply Sub.drop)))⟩
      · refine h.newR fun g5 w h => ⟨h.drop, ?_⟩
        refine Rets.mono (plc _ w h.swap) ?_
        clear h
        rintro _ w ⟨rfl, h⟩
        have h := h.swap
        refine ⟨_, _, _, _, rfl, h.drop, ?_⟩
        refine Rets.mono (rpl _ _ _ h) ?_
        clear h
        rintro _ w ⟨qp, cp, rfl, h⟩
        refine ⟨_, _, _, rfl, h.drop.drop, ?_⟩
        rw [← hy]
        refine Rets.mono (rpl _ _ _ h) ?_
        clear h
        rintro _ w ⟨qo, co, rfl, h⟩
        refine ⟨_, _, _, rfl, h.drop.drop.drop, Own.stP' (g := g5) h (by repeat (first | with_reducible exact Pick.here | apply Pick.there)) (by simp) (by simp [Value.oneCell']) fun w h => ?_⟩
        simp only [setFrom, List.set_cons_zero, List.set_cons_succ, List.set_nil] at h
        exact ⟨h.drop.drop.drop, _, _, _, _, _, rfl, (Own.sub (h) (by repeat (first | with_reducible exact Sub.nil _ | with_reducible exact Sub.rfl _ | (apply Sub.cons; focus ((repeat (first | with_reducible exact Pick.here | apply Pick.there)); done)) | apply Sub.drop)))⟩
    clear h plc plc0 rpl
    rintro w q12 q13 k23 k24 q14 k25 k26
    intros
    rename_i hI
    obtain ⟨g5, qp, cp, qo, co, hvs, h⟩ := hI
    obtain ⟨e12, ⟨e13, e23, e24⟩, e14, e25, e26⟩ : q12 = some ⟨g5, 0, none⟩ ∧ (q13 = qp ∧ k23 = 4 ∧ k24 = cp) ∧ q14 = qo ∧ k25 = 4 ∧ k26 = co := by simpa using hvs
    subst e12 e23 e25
    obtain rfl := e13.symm
    obtain rfl := e24.symm
    obtain rfl := e14.symm
    obtain rfl := e26.symm
    have ps : ∀ (hh : Int), (plL s' hh (2 ^ m) 4).length = 4 := fun hh => by simp [plL]
    refine ⟨fun vs w => vs = [.bool (alike s' x y (2 ^ m))] ∧ Own W w (blk g5 31 [.int .i64 (plN s' x (2 ^ m) 0 : Int), .int .i64 (plN s' x (2 ^ m) 1 : Int), .int .i64 (plN s' x (2 ^ m) 2 : Int), .int .i64 (plN s' x (2 ^ m) 3 : Int)] :: inB qp 4 cp (plL s' x (2 ^ m) 4) :: inB qo 4 co (plL s' y (2 ^ m) 4) :: dorO g m s' ws :: blk g1 29 [.slice qx (2 ^ m) cx, .int .u64 s] :: blB qx (2 ^ m) cx (rl (2 ^ m) ws) :: [snap W]), ?_, ?_⟩
    · have get : ∀ {i : Nat} {qz : Option Addr} {hh : Int} {w : World} {cz : Nat} {k : Addr → Prop}, RdC w qz (cs .i64 (plL s' hh (2 ^ m) 4)) → i < 4 → (∀ a, World.cell? w (a.add i) = some (.int .i64 (plN s' hh (2 ^ m) i : Int)) → k a) → someR qz k := fun {i qz hh w cz k} hrd hi hk => hrd.int (i := i) (by rw [ps]; exact hi) fun a ha => hk a (by rw [plL_get hi, Nat.mul_one] at ha; exact ha)
      refine h.drw fun w h => ?_
      have r1 : RdC w qp (cs .i64 (plL s' x (2 ^ m) 4)) := Own.rdP (T := 3) (q := qp) h (by repeat (first | with_reducible exact Pick.here | apply Pick.there))
      have r2 : RdC w qo (cs .i64 (plL s' y (2 ^ m) 4)) := Own.rdP (T := 3) (q := qo) h (by repeat (first | with_reducible exact Pick.here | apply Pick.there))
      refine ⟨by omega, by omega, get (cz := 0) r1 (i := 0) (by omega) fun a ha => ⟨by omega, by omega, get (cz := 0) r2 (i := 0) (by omega) fun b hb => ⟨_, ha, _, hb, fun e0 => ?_, fun e0 => ⟨?_, h⟩⟩⟩⟩
      · have e0 := beq_t e0
        refine ⟨by omega, by omega, get (cz := 0) r1 (i := 1) (by omega) fun a ha => ⟨by omega, by omega, get (cz := 0) r2 (i := 1) (by omega) fun b hb => ⟨_, ha, _, hb, fun e1 => ?_, fun e1 => ⟨?_, h⟩⟩⟩⟩
        · have e1 := beq_t e1
          refine ⟨by omega, by omega, get (cz := 0) r1 (i := 2) (by omega) fun a ha => ⟨by omega, by omega, get (cz := 0) r2 (i := 2) (by omega) fun b hb => ⟨_, ha, _, hb, fun e2 => ?_, fun e2 => ⟨?_, h⟩⟩⟩⟩
          · have e2 := beq_t e2
            refine ⟨by omega, by omega, get (cz := 0) r1 (i := 3) (by omega) fun a ha => ⟨by omega, by omega, get (cz := 0) r2 (i := 3) (by omega) fun b hb => ⟨_, ha, _, hb, ?_, h⟩⟩⟩
            rw [eq4_last e0 e1 e2]; rfl
          · rw [eq4_2 (beq_f e2)]; rfl
        · rw [eq4_1 (beq_f e1)]; rfl
      · rw [eq4_0 (beq_f e0)]; rfl
    clear h
    rintro w b2
    intros
    rename_i hI
    obtain ⟨hvs, h⟩ := hI
    obtain rfl : b2 = alike s' x y (2 ^ m) := by simpa using hvs
    have r0 : RdC w qp (cs .i64 (plL s' x (2 ^ m) 4)) := Own.rdP (T := 3) (q := qp) h (by repeat (first | with_reducible exact Pick.here | apply Pick.there))
    obtain ⟨ap, rfl, _⟩ := r0.addr (cs_at (i := 0) (by rw [ps]; omega))
    clear r0
    have als : ∀ w, Own W w (dorO g m s' ws :: blk g1 29 [.slice qx (2 ^ m) cx, .int .u64 s] :: blB qx (2 ^ m) cx (rl (2 ^ m) ws) :: blk g5 31 [.int .i64 (plN s' x (2 ^ m) 0 : Int), .int .i64 (plN s' x (2 ^ m) 1 : Int), .int .i64 (plN s' x (2 ^ m) 2 : Int), .int .i64 (plN s' x (2 ^ m) 3 : Int)] :: inB (some ap) 4 cp (plL s' x (2 ^ m) 4) :: [snap W]) → Rets Tryd.prog 10 #[.pointer (some ⟨g, 0, none⟩), .int .u64 x, .int .u64 y] w fun v w' => v = .bool (alike s' x y (2 ^ m)) ∧ Own W w' (dorO g m s' ws :: blk g1 29 [.slice qx (2 ^ m) cx, .int .u64 s] :: blB qx (2 ^ m) cx (rl (2 ^ m) ws) :: blk g5 31 [.int .i64 (plN s' x (2 ^ m) 0 : Int), .int .i64 (plN s' x (2 ^ m) 1 : Int), .int .i64 (plN s' x (2 ^ m) 2 : Int), .int .i64 (plN s' x (2 ^ m) 3 : Int)] :: inB (some ap) 4 cp (plL s' x (2 ^ m) 4) :: [snap W]) :=
      fun w h => drAlike (fun w h => hm1 w h.drop.drop.drop.drop) (fun w h => hm2 w h.drop.drop.drop.drop) h
    have hass : ∀ w hh, Own W w (dorO g m s' ws :: blk g1 29 [.slice qx (2 ^ m) cx, .int .u64 s] :: blB qx (2 ^ m) cx (rl (2 ^ m) ws) :: blk g5 31 [.int .i64 (plN s' x (2 ^ m) 0 : Int), .int .i64 (plN s' x (2 ^ m) 1 : Int), .int .i64 (plN s' x (2 ^ m) 2 : Int), .int .i64 (plN s' x (2 ^ m) 3 : Int)] :: inB (some ap) 4 cp (plL s' x (2 ^ m) 4) :: [snap W]) → Rets Tryd.prog 11 #[.pointer (some ⟨g, 0, none⟩), .int .u64 hh] w fun v w' => v = .bool (hasB s' hh (2 ^ m) ws) ∧ Own W w' (dorO g m s' ws :: blk g1 29 [.slice qx (2 ^ m) cx, .int .u64 s] :: blB qx (2 ^ m) cx (rl (2 ^ m) ws) :: blk g5 31 [.int .i64 (plN s' x (2 ^ m) 0 : Int), .int .i64 (plN s' x (2 ^ m) 1 : Int), .int .i64 (plN s' x (2 ^ m) 2 : Int), .int .i64 (plN s' x (2 ^ m) 3 : Int)] :: inB (some ap) 4 cp (plL s' x (2 ^ m) 4) :: [snap W]) :=
      fun w hh h => drHas (fun w h => hm1 w h.drop.drop.drop.drop) (fun w h => hm2 w h.drop.drop.drop.drop) h
    have rhass : ∀ w hh, Own W w (dorO g m s' ws :: blk g1 29 [.slice qx (2 ^ m) cx, .int .u64 s] :: blB qx (2 ^ m) cx (rl (2 ^ m) ws) :: blk g5 31 [.int .i64 (plN s' x (2 ^ m) 0 : Int), .int .i64 (plN s' x (2 ^ m) 1 : Int), .int .i64 (plN s' x (2 ^ m) 2 : Int), .int .i64 (plN s' x (2 ^ m) 3 : Int)] :: inB (some ap) 4 cp (plL s' x (2 ^ m) 4) :: [snap W]) → Rets Tryd.prog 12 #[.agg #[.slice qx (2 ^ m) cx, .int .u64 s], .int .u64 hh] w fun v w' => v = .bool (hasB s' hh (2 ^ m) ws) ∧ Own W w' (dorO g m s' ws :: blk g1 29 [.slice qx (2 ^ m) cx, .int .u64 s] :: blB qx (2 ^ m) cx (rl (2 ^ m) ws) :: blk g5 31 [.int .i64 (plN s' x (2 ^ m) 0 : Int), .int .i64 (plN s' x (2 ^ m) 1 : Int), .int .i64 (plN s' x (2 ^ m) 2 : Int), .int .i64 (plN s' x (2 ^ m) 3 : Int)] :: inB (some ap) 4 cp (plL s' x (2 ^ m) 4) :: [snap W]) :=
      fun w hh h => by
        rw [hs']
        rw [hs'] at h
        exact rdHas (ws := ws) hm20 hsM (fun w h => Own.rdP (T := 4) (q := qx) h (by repeat (first | with_reducible exact Pick.here | apply Pick.there))) h
    refine ⟨fun vs w => vs = [.bool false] ∧ Own W w (dorO g m s' ws :: blk g1 29 [.slice qx (2 ^ m) cx, .int .u64 s] :: blB qx (2 ^ m) cx (rl (2 ^ m) ws) :: [snap W]), ?_, ?_⟩
    · let S6 : World → Prop := fun w => Own W w (dorO g m s' ws :: blk g1 29 [.slice qx (2 ^ m) cx, .int .u64 s] :: blB qx (2 ^ m) cx (rl (2 ^ m) ws) :: blk g5 31 [.int .i64 (plN s' x (2 ^ m) 0 : Int), .int .i64 (plN s' x (2 ^ m) 1 : Int), .int .i64 (plN s' x (2 ^ m) 2 : Int), .int .i64 (plN s' x (2 ^ m) 3 : Int)] :: inB (some ap) 4 cp (plL s' x (2 ^ m) 4) :: [snap W])
      have h : Own W w (dorO g m s' ws :: blk g1 29 [.slice qx (2 ^ m) cx, .int .u64 s] :: blB qx (2 ^ m) cx (rl (2 ^ m) ws) :: blk g5 31 [.int .i64 (plN s' x (2 ^ m) 0 : Int), .int .i64 (plN s' x (2 ^ m) 1 : Int), .int .i64 (plN s' x (2 ^ m) 2 : Int), .int .i64 (plN s' x (2 ^ m) 3 : Int)] :: inB (some ap) 4 cp (plL s' x (2 ^ m) 4) :: [snap W]) := (Own.sub (h) (by repeat (first | with_reducible exact Sub.nil _ | with_reducible exact Sub.rfl _ | (apply Sub.cons; focus ((repeat (first | with_reducible exact Pick.here | apply Pick.there)); done)) | apply Sub.drop)))
      have get : ∀ (j : Nat), j < 4 → ∀ w, S6 w → World.cell? w (ap.add j) = some (.int .i64 (plN s' x (2 ^ m) j : Int)) := fun j hj w h => by
        have r2 : RdC w (some ap) (cs .i64 (plL s' x (2 ^ m) 4)) := Own.rdP (T := 3) (q := some ap) h (by repeat (first | with_reducible exact Pick.here | apply Pick.there))
        obtain ⟨a', ea', hcell⟩ := r2.addr (cs_at (i := j) (by rw [ps]; exact hj))
        cases ea'
        have := hcell _ _ (cs_at (i := j) (by rw [ps]; exact hj))
        rw [plL_get hj] at this
        exact this
      have rdy : ∀ w, S6 w → World.cell? w (ad.add (Int.toNat (i : Int) * 1)) = some (.int .u64 x) := fun w h => rdx w h.drop.drop.drop.drop.drop
      refine h.drw fun w h => ⟨S6, h, by omega, by omega, smR ⟨by omega, by omega, smR ⟨by omega, by omega, smR ⟨by omega, by omega, smR (smR ⟨_, _, _, _, ⟨fun w h => Own.ld (g := g5) h (by repeat (first | with_reducible exact Pick.here | apply Pick.there)) rfl, fun w h => Own.ld (g := g5) h (by repeat (first | with_reducible exact Pick.here | apply Pick.there)) rfl, fun w h => Own.ld (g := g5) h (by repeat (first | with_reducible exact Pick.here | apply Pick.there)) rfl, fun w h => Own.ld (g := g5) h (by repeat (first | with_reducible exact Pick.here | apply Pick.there)) rfl⟩, _, get 0 (by omega), _, get 1 (by omega), _, get 2 (by omega), _, get 3 (by omega), _, notsame4 (plN4 p1 p2) (plN4 p1 p2), _, rfl, fun _ => ?_, fun hc => absurd hc (by rw [eq4_self]; simp)⟩)⟩⟩⟩⟩
      refine ⟨by omega, by omega, smR ⟨by omega, by omega, smR ⟨x, rdy, x, rdy, ?_⟩⟩⟩
      rw [← hy]
      refine Rets.mono (als w h) ?_
      clear h
      rintro _ w ⟨rfl, h⟩
      refine ⟨_, rfl, S6, fun w h => h, h, fun _ => ?_, fun hc => absurd hc (by simp)⟩
      refine ⟨by omega, by omega, smR ⟨by omega, by omega, smR ⟨x, rdy, _, _, _, _, ⟨fun w h => Own.ld (g := g1) h (by repeat (first | with_reducible exact Pick.here | apply Pick.there)) rfl, fun w h => Own.ld (g := g1) h (by repeat (first | with_reducible exact Pick.here | apply Pick.there)) rfl⟩, x, rdy, ?_⟩⟩⟩
      refine Rets.mono (hass w x h) ?_
      clear h
      rintro _ w ⟨rfl, h⟩
      refine ⟨_, rfl, S6, fun w h => h, h, ?_⟩
      refine Rets.mono (rhass w x h) ?_
      clear h
      rintro _ w ⟨rfl, h⟩
      refine ⟨_, rfl, S6, fun w h => h, h, fun _ => ?_, fun hc => absurd hc (by simp)⟩
      refine ⟨by omega, by omega, smR ⟨by omega, by omega, smR ⟨x, rdy, _, _, _, _, ⟨fun w h => Own.ld (g := g1) h (by repeat (first | with_reducible exact Pick.here | apply Pick.there)) rfl, fun w h => Own.ld (g := g1) h (by repeat (first | with_reducible exact Pick.here | apply Pick.there)) rfl⟩, x, rdy, ?_⟩⟩⟩
      rw [← hy]
      refine Rets.mono (hass w y h) ?_
      clear h
      rintro _ w ⟨rfl, h⟩
      refine ⟨_, rfl, h, ?_⟩
      refine Rets.mono (rhass w y h) ?_
      clear h
      rintro _ w ⟨rfl, h⟩
      exact ⟨_, rfl, by simp, (Own.sub (h) (by repeat (first | with_reducible exact Sub.nil _ | with_reducible exact Sub.rfl _ | (apply Sub.cons; focus ((repeat (first | with_reducible exact Pick.here | apply Pick.there)); done)) | apply Sub.drop)))⟩
    clear h als hass rhass
    intro w
    intros
    rename_i b9 hI
    obtain ⟨hvs, h⟩ := hI
    obtain rfl : b9 = false := by simpa using hvs
    refine ⟨fun hc => absurd hc (by simp), fun _ => ?_⟩
    obtain ⟨ws2, hws2⟩ : ∃ ws2, ws2 = putB s' x (2 ^ m) ws := ⟨_, rfl⟩
    obtain ⟨bb, hbb⟩ : ∃ bb, bb = !hasB s' x (2 ^ m) ws := ⟨_, rfl⟩
    have hwl2 : ws2.length = N := by rw [hws2, putB_len, hwl]
    have hzer2 : Zer (2 ^ m) ws2 := by rw [hws2]; exact hzer.put p1 (by rw [hwl, hN])
    have rput : ∀ w F, Own W w (blB qx (2 ^ m) cx (rl (2 ^ m) ws) :: F) → Rets Tryd.prog 13 #[.agg #[.slice qx (2 ^ m) cx, .int .u64 s], .int .u64 x] w fun v w' => ∃ q' c', v = .tuple #[.agg #[.slice q' (2 ^ m) c', .int .u64 s], .bool bb] ∧ Own W w' (blB q' (2 ^ m) c' (rl (2 ^ m) ws2) :: F) := fun w F h => by
      rw [hbb, hws2, hs']
      exact rdPut hm20 hsM (by rw [hwl, hN]) h
    have dput : ∀ w, ∀ B C : HP, Own W w (dorO g m s' ws :: B :: C :: blk g1 29 [.slice qx (2 ^ m) cx, .int .u64 s] :: [snap W]) → Rets Tryd.prog 14 #[.pointer (some ⟨g, 0, none⟩), .int .u64 x] w fun v w' => v = .bool bb ∧ Own W w' (dorO g m s' ws2 :: B :: C :: blk g1 29 [.slice qx (2 ^ m) cx, .int .u64 s] :: [snap W]) := fun w B C h => by
      rw [hbb, hws2]
      exact drPut (fun w h => hm1 w h.drop.drop.drop) (fun w h => hm2 w h.drop.drop.drop) h
    clear hws2 hbb
    refine ⟨fun vs w => ∃ g6 qn cn, vs = [.pointer (some ⟨g6, 0, none⟩), .bool bb] ∧ Own W w (dorO g m s' ws :: blk g6 29 [.slice qn (2 ^ m) cn, .int .u64 s] :: blB qn (2 ^ m) cn (rl (2 ^ m) ws2) :: blk g1 29 [.slice qx (2 ^ m) cx, .int .u64 s] :: [snap W]), ?_, ?_⟩
    · refine h.drw fun w h => ⟨fun w => Own W w (blk g1 29 [.slice qx (2 ^ m) cx, .int .u64 s] :: [snap W]), (Own.sub (h) (by repeat (first | with_reducible exact Sub.nil _ | with_reducible exact Sub.rfl _ | (apply Sub.cons; focus ((repeat (first | with_reducible exact Pick.here | apply Pick.there)); done)) | apply Sub.drop))), by omega, by omega, smR ⟨_, _, _, _, ⟨fun w h => Own.ld (g := g1) h (by repeat (first | with_reducible exact Pick.here | apply Pick.there)) rfl, fun w h => Own.ld (g := g1) h (by repeat (first | with_reducible exact Pick.here | apply Pick.there)) rfl⟩, x, fun w h => rdx w h.drop, ?_, ?_⟩⟩
      · have h : Own W w (blB qx (2 ^ m) cx (rl (2 ^ m) ws) :: dorO g m s' ws :: blk g1 29 [.slice qx (2 ^ m) cx, .int .u64 s] :: [snap W]) := (Own.sub (h) (by repeat (first | with_reducible exact Sub.nil _ | with_reducible exact Sub.rfl _ | (apply Sub.cons; focus ((repeat (first | with_reducible exact Pick.here | apply Pick.there)); done)) | apply Sub.drop)))
        refine Rets.mono (rput _ _ h) ?_
        clear h
        rintro _ w ⟨qn, cn, rfl, h⟩
        refine ⟨_, _, _, _, _, rfl, h.drop.drop, h.newR fun g6 w h => ⟨h.drop.drop.drop, Own.stP' (g := g6) h (by repeat (first | with_reducible exact Pick.here | apply Pick.there)) (by simp) (by simp [Value.oneCell']) fun w h => ?_⟩⟩
        simp only [setFrom, List.set_cons_zero, List.set_cons_succ, List.set_nil] at h
        exact ⟨h.drop.drop.drop, _, _, _, rfl, (Own.sub (h) (by repeat (first | with_reducible exact Sub.nil _ | with_reducible exact Sub.rfl _ | (apply Sub.cons; focus ((repeat (first | with_reducible exact Pick.here | apply Pick.there)); done)) | apply Sub.drop)))⟩
      · refine h.newR fun g6 w h => ⟨(Own.sub (h) (by repeat (first | with_reducible exact Sub.nil _ | with_reducible exact Sub.rfl _ | (apply Sub.cons; focus ((repeat (first | with_reducible exact Pick.here | apply Pick.there)); done)) | apply Sub.drop))), ?_⟩
        have h : Own W w (blB qx (2 ^ m) cx (rl (2 ^ m) ws) :: dorO g m s' ws :: blk g6 29 [.slice none 0 0, .int .u64 0] :: blk g1 29 [.slice qx (2 ^ m) cx, .int .u64 s] :: [snap W]) := (Own.sub (h) (by repeat (first | with_reducible exact Sub.nil _ | with_reducible exact Sub.rfl _ | (apply Sub.cons; focus ((repeat (first | with_reducible exact Pick.here | apply Pick.there)); done)) | apply Sub.drop)))
        refine Rets.mono (rput _ _ h) ?_
        clear h
        rintro _ w ⟨qn, cn, rfl, h⟩
        refine ⟨_, _, _, _, _, rfl, h.drop.drop.drop, Own.stP' (g := g6) h (by repeat (first | with_reducible exact Pick.here | apply Pick.there)) (by simp) (by simp [Value.oneCell']) fun w h => ?_⟩
        simp only [setFrom, List.set_cons_zero, List.set_cons_succ, List.set_nil] at h
        exact ⟨(Own.sub (h) (by repeat (first | with_reducible exact Sub.nil _ | with_reducible exact Sub.rfl _ | (apply Sub.cons; focus ((repeat (first | with_reducible exact Pick.here | apply Pick.there)); done)) | apply Sub.drop))), _, _, _, rfl, (Own.sub (h) (by repeat (first | with_reducible exact Sub.nil _ | with_reducible exact Sub.rfl _ | (apply Sub.cons; focus ((repeat (first | with_reducible exact Pick.here | apply Pick.there)); done)) | apply Sub.drop)))⟩
    clear h rput
    rintro w q20 b12
    intros
    rename_i hI
    obtain ⟨g6, qn, cn, hvs, h⟩ := hI
    obtain ⟨rfl, rfl⟩ : q20 = some ⟨g6, 0, none⟩ ∧ b12 = bb := by simpa using hvs
    refine ⟨fun vs w => vs = [.bool false] ∧ Own W w (dorO g m s' ws2 :: blk g6 29 [.slice qn (2 ^ m) cn, .int .u64 s] :: blB qn (2 ^ m) cn (rl (2 ^ m) ws2) :: blk g1 29 [.slice qx (2 ^ m) cx, .int .u64 s] :: [snap W]), ?_, ?_⟩
    · refine h.drw fun w h => ⟨fun w => Own W w [snap W], (Own.sub (h) (by repeat (first | with_reducible exact Sub.nil _ | with_reducible exact Sub.rfl _ | (apply Sub.cons; focus ((repeat (first | with_reducible exact Pick.here | apply Pick.there)); done)) | apply Sub.drop))), by omega, by omega, smR ⟨x, rdx, ?_⟩⟩
      refine Rets.mono (dput _ _ _ h) ?_
      clear h
      rintro _ w ⟨rfl, h⟩
      refine ⟨_, rfl, fun w => Own W w (blk g6 29 [.slice qn (2 ^ m) cn, .int .u64 s] :: [snap W]), fun w h => h.drop, (Own.sub (h) (by repeat (first | with_reducible exact Sub.nil _ | with_reducible exact Sub.rfl _ | (apply Sub.cons; focus ((repeat (first | with_reducible exact Pick.here | apply Pick.there)); done)) | apply Sub.drop))), fun _ => smR ⟨_, _, _, _, ⟨fun w h => Own.ld (g := g6) h (by repeat (first | with_reducible exact Pick.here | apply Pick.there)) rfl, fun w h => Own.ld (g := g6) h (by repeat (first | with_reducible exact Pick.here | apply Pick.there)) rfl⟩, ?_⟩, fun hc => absurd hc (by simp)⟩
      refine Rets.mono (drFull h) ?_
      clear h
      rintro _ w ⟨rfl, h⟩
      refine ⟨_, rfl, (Own.sub (h) (by repeat (first | with_reducible exact Sub.nil _ | with_reducible exact Sub.rfl _ | (apply Sub.cons; focus ((repeat (first | with_reducible exact Pick.here | apply Pick.there)); done)) | apply Sub.drop))), ?_⟩
      refine Rets.mono (rdFull (ws := ws2) hm20 hzer2 (by rw [hwl2, hN]) (fun w h => Own.rdP (T := 4) (q := qn) h (by repeat (first | with_reducible exact Pick.here | apply Pick.there))) h) ?_
      clear h
      rintro _ w ⟨rfl, h⟩
      exact ⟨_, rfl, by simp, h⟩
    clear h
    intro w
    intros
    rename_i b14 hI
    obtain ⟨hvs, h⟩ := hI
    obtain rfl : b14 = false := by simpa using hvs
    refine ⟨fun hc => absurd hc (by simp), fun _ => smR ⟨_, _, _, _, ⟨Own.ld (g := g6) h (by repeat (first | with_reducible exact Pick.here | apply Pick.there)) rfl, Own.ld (g := g6) h (by repeat (first | with_reducible exact Pick.here | apply Pick.there)) rfl⟩, Own.stP' (g := g1) h (by repeat (first | with_reducible exact Pick.here | apply Pick.there)) (by simp) (by simp [Value.oneCell']) fun w h => ?_⟩⟩
    simp only [setFrom, List.set_cons_zero, List.set_cons_succ, List.set_nil] at h
    exact ⟨z - 1, by omega, i + 1, ws2, qn, cn, by rw [wI64 (by omega) (by omega)]; rfl, by omega, hwl2, hzer2, (Own.sub (h) (by repeat (first | with_reducible exact Sub.nil _ | with_reducible exact Sub.rfl _ | (apply Sub.cons; focus ((repeat (first | with_reducible exact Pick.here | apply Pick.there)); done)) | apply Sub.drop)))⟩
  · refine h.drw fun w h => ⟨fun w => Own W w (blk g1 29 [.slice qx (2 ^ m) cx, .int .u64 s] :: [snap W]), (Own.sub (h) (by repeat (first | with_reducible exact Sub.nil _ | with_reducible exact Sub.rfl _ | (apply Sub.cons; focus ((repeat (first | with_reducible exact Pick.here | apply Pick.there)); done)) | apply Sub.drop))), _, _, _, fun w h => Own.ld (g := g1) h (by repeat (first | with_reducible exact Pick.here | apply Pick.there)) rfl, ?_⟩
    refine Rets.mono (drBits h) ?_
    clear h
    rintro _ w ⟨rfl, h⟩
    refine ⟨_, rfl, (Own.sub (h) (by repeat (first | with_reducible exact Sub.nil _ | with_reducible exact Sub.rfl _ | (apply Sub.cons; focus ((repeat (first | with_reducible exact Pick.here | apply Pick.there)); done)) | apply Sub.drop))), fun hc => absurd hc (by simp), fun _ => ?_⟩
    refine Rets.mono (drClear h) ?_
    clear h
    rintro _ w ⟨rfl, h⟩
    obtain ⟨n0, hn0⟩ : ∃ n, n = ws.length := ⟨_, rfl⟩
    rw [← hn0] at h
    refine ⟨rfl, fun z vs w => ∃ j : Nat, vs = [.int .i64 (j : Int)] ∧ z + j = L.length ∧ Own W w (dorO g m s' (List.replicate n0 0) :: [snap W]), ⟨L.length, 0, rfl, rfl, (Own.sub (h) (by repeat (first | with_reducible exact Sub.nil _ | with_reducible exact Sub.rfl _ | (apply Sub.cons; focus ((repeat (first | with_reducible exact Pick.here | apply Pick.there)); done)) | apply Sub.drop)))⟩, ?_⟩
    clear h
    rintro z w v n50
    intros
    rename_i hI
    obtain ⟨j, hvs, hz, h⟩ := hI
    obtain rfl : n50 = (j : Int) := by simpa using hvs
    refine ⟨fun hc1 => ?_, fun hc1 => ?_⟩
    · have hc1 := dec_t hc1
      have hj : j < L.length := by omega
      refine ⟨by omega, by omega, (hr w h.drop).int (i := j) hj fun a ha => ⟨_, by rw [Int.toNat_natCast]; exact ha, ?_⟩⟩
      refine Rets.mono (drHas hm1 hm2 h) ?_
      clear h
      rintro _ w ⟨rfl, h⟩
      rw [has_zero]
      exact ⟨_, rfl, fun hc => absurd hc (by simp), fun _ => ⟨z - 1, by omega, j + 1, by rw [wI64 (by omega) (by omega)]; rfl, by omega, h⟩⟩
    · refine Rets.mono (drFull h) ?_
      clear h
      rintro _ w ⟨rfl, h⟩
      rw [tot_zero]
      exact ⟨_, rfl, fun _ => aw w h.drop, fun hc => absurd hc (by decide)⟩
end
end Go.Proofs.YtfcddffcjmgpkaaDoor.Eng
