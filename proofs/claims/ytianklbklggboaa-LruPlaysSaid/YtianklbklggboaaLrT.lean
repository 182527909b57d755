/- Caches: the law LruPlays. -/
import Derived.Test.YtianklbklggboaaLrS
import Derived.Test.YtianklbklggboaaLrrG
namespace Go.Proofs.Ytianklbklggboaa.Eng
open Go Go.RowKit Go.Proofs
set_option linter.unusedVariables false
set_option linter.unusedSimpArgs false
set_option linter.unusedSectionVars false
set_option maxRecDepth 1000000
abbrev StepT := Int × Int × Int × Int
def encSt (s : StepT) : List Value := [.int .u64 s.1, .int .i64 s.2.1, .int .i64 s.2.2.1, .int .i64 s.2.2.2]
theorem encSt_len (s : StepT) : (encSt s).length = 4 := rfl
def okSt (s : StepT) : Prop := (Lit.int .u64 s.1).wf = true ∧ (Lit.int .i64 s.2.1).wf = true ∧ (Lit.int .i64 s.2.2.1).wf = true ∧ (Lit.int .i64 s.2.2.2).wf = true
theorem LruPlays_spec {W : World} {q : Option Addr} {c : Nat} {L : List StepT} {most told : Int} (hmw : (Lit.int .i64 most).wf = true) (hb : RdC W q (L.flatMap encSt)) (hm : L.length ≤ maxLen) (hc : L.length ≤ c) (hw : ∀ x ∈ L, okSt x) (htw : (Lit.int .u64 told).wf = true) :
    Rets Try.prog 4 #[.int .i64 most, .slice q L.length c, .int .u64 told] W fun v w' => v = .bool true ∧ Below W.heap.size W w' := by
  refine Rets.mono (k := fun v w' => v = .bool true ∧ Own W w' [snap W]) ?_ (fun v w' h => ⟨h.1, h.2.below⟩)
  have h := Own.begin W
  have htw := wfU64 htw
  have rd0 : ∀ {h1 : Nat → Option Obj} (le : LeH (fun b : Nat => W.heap[b]?) h1) w F, Own W w (imm h1 :: F) → RdC w q (L.flatMap encSt) := fun le w F h => Own.snapRd (W := W) (h.immLe le) hb
  rw [snap_imm] at h ⊢
  generalize (fun b : Nat => W.heap[b]?) = hW at h rd0 ⊢
  refine cortadolaw49_LruPlays_go _ _ _ _ _ (h.newR fun a1 w h => ?_)
  obtain ⟨h1, le1, ha1, hh⟩ := Own.absorb h
  clear h
  have h := hh
  clear hh
  have h : Own W w (imm h1 :: []) := h
  refine h.newR fun a2 w h => ⟨fun hx => ?_, fun hx => ?_⟩
  · refine Rets.mono (lrAwake h) ?_
    rintro _ w ⟨rfl, h⟩
    refine ⟨_, rfl, Own.stP' h (by repeat (first | with_reducible exact Pick.here | apply Pick.there)) (by simp) (by simp [Value.oneCell']) fun w h => ?_⟩
    simp only [setFrom, List.set_cons_zero, List.set_cons_succ, List.set_nil] at h
    exact ⟨_, (Own.ld' h (by repeat (first | with_reducible exact Pick.here | apply Pick.there)) (by rfl)), rfl, (h.drop).immLe le1⟩
  have hx := dec_f hx
  have hL : L.length ≤ 50 := by omega
  obtain ⟨T, hT⟩ : ∃ T : Nat, (T : Int) = told % 55 := ⟨(told % 55).toNat, by omega⟩
  have eT : IntKind.wrap .i64 (Int.tmod told 55) = (T : Int) := by
    rw [Int.tmod_eq_emod_of_nonneg (by omega), wI64 (by omega) (by omega)]; omega
  refine Rets.mono (lrNew_int h) ?_
  rintro _ w ⟨g, rfl, h⟩
  refine ⟨_, rfl, r2Cut ⟨_, rfl, h.newR fun a3 w h => ?_⟩⟩
  have hlc := lcut_b most
  generalize lcut most = lim at h hlc ⊢
  have h : Own W w (imm h1 :: lru_int g lim [] :: blk a3 35 [.slice none ([] : List R3).length 0] :: blk a2 4 [.bool false] :: []) := ((Own.sub (h) (by repeat (first | exact Sub.nil _ | exact Sub.rfl _ | (apply Sub.cons; focus ((repeat (first | with_reducible exact Pick.here | apply Pick.there)); done)) | apply Sub.drop))) : Own W w (imm h1 :: lru_int g lim [] :: blk a3 35 [.slice none 0 0] :: blk a2 4 [.bool false] :: []))
  refine ⟨fun K vs w => ∃ (i : Nat) (xs : List R3) (h2 : Nat → Option Obj) (qx : Option Addr) (cx : Nat), vs = [.int .i64 (i : Int)] ∧ K + i = L.length ∧ LeH h1 h2 ∧ ImR h2 qx (E3 xs) ∧ xs.length ≤ cx ∧ xs.length ≤ i ∧ Own W w (imm h2 :: lru_int g lim xs :: blk a3 35 [.slice qx xs.length cx] :: blk a2 4 [.bool false] :: []), ⟨L.length, 0, [], h1, none, 0, rfl, rfl, LeH.refl _, fun e w F h => .inl rfl, Nat.le_refl _, Nat.le_refl _, h⟩, ?_⟩
  clear h
  intro K w n2
  intros
  rename_i hI
  obtain ⟨i, xs, h2, qx, cx, hvs, hK, le2, hRx, hxc, hxi, h⟩ := hI
  obtain rfl : n2 = (i : Int) := by simpa using hvs
  refine ⟨fun hy => ?_, fun hy => ?_⟩
  · have hy := dec_t hy
    have hi : i < L.length := by omega
    refine h.drw fun w h => ⟨by omega, hy, ?_⟩
    obtain ⟨ad, rfl, rd⟩ := (rd0 (LeH.trans le1 le2) w _ h).rec encSt_len hi (by omega)
    have r0 := rd i hi 0 _ rfl
    have r1 := rd i hi 1 _ rfl
    have r2 := rd i hi 2 _ rfl
    have r3 := rd i hi 3 _ rfl
    refine smR ⟨_, _, _, (Own.ld' h (by repeat (first | with_reducible exact Pick.here | apply Pick.there)) (by rfl)), _, _, _, _, ⟨by rw [Int.toNat_natCast]; exact r0, by rw [Int.toNat_natCast]; exact r1, by rw [Int.toNat_natCast]; exact r2, by rw [Int.toNat_natCast]; exact r3⟩, ?_⟩
    refine Rets.mono (lrDo (by omega) hxc hRx h) ?_
    clear h rd r0 r1 r2 r3
    rintro _ w ⟨h3, q3, c3, ys, rfl, le3, hRy, hyc, hyx, h⟩
    refine ⟨_, _, _, _, rfl, Own.stP' h (by repeat (first | with_reducible exact Pick.here | apply Pick.there)) (by simp) (by simp [Value.oneCell']) fun w h => ?_⟩
    simp only [setFrom, List.set_cons_zero, List.set_cons_succ, List.set_nil] at h
    have hBu : us ys ≤ lim ∧ 0 ≤ us ys ∧ LrB ys lim := by
      obtain ⟨_, _, _, _, _, _, _, _, hB, _⟩ := lru_int_op (g := g) (most := lim) (xs := ys) (Own.pk h (by repeat (first | with_reducible exact Pick.here | apply Pick.there)))
      exact ⟨hB.2.1, hB.nn, hB⟩
    have h : Own W w (imm h3 :: lru_int g lim ys :: blk a3 35 [.slice q3 ys.length c3] :: blk a2 4 [.bool false] :: []) := (Own.sub (h) (by repeat (first | exact Sub.nil _ | exact Sub.rfl _ | (apply Sub.cons; focus ((repeat (first | with_reducible exact Pick.here | apply Pick.there)); done)) | apply Sub.drop)))
    have rl : ∀ {w : World}, Own W w (imm h3 :: lru_int g lim ys :: blk a3 35 [.slice q3 ys.length c3] :: blk a2 4 [.bool false] :: []) → Own W w (lru_int g lim ys :: imm h3 :: blk a3 35 [.slice q3 ys.length c3] :: blk a2 4 [.bool false] :: []) := fun h => h.swap
    refine ⟨fun vs w => vs = [.bool false] ∧ Own W w (imm h3 :: lru_int g lim ys :: blk a3 35 [.slice q3 ys.length c3] :: blk a2 4 [.bool false] :: []), ?_, ?_⟩
    · refine h.drw fun w h => ⟨fun w => Own W w (imm h3 :: lru_int g lim ys :: blk a3 35 [.slice q3 ys.length c3] :: blk a2 4 [.bool false] :: []), h, fun _ => ⟨_, _, _, fun w h => (Own.ld' h (by repeat (first | with_reducible exact Pick.here | apply Pick.there)) (by rfl)), Rets.mono (lrLen (rl h)) ?_⟩, fun hc => (by cases hc)⟩
      rintro _ w1 ⟨rfl, rfl⟩
      refine ⟨_, rfl, h, fun _ => ⟨_, _, _, fun w h => (Own.ld' h (by repeat (first | with_reducible exact Pick.here | apply Pick.there)) (by rfl)), Rets.mono (lrUsed_int (rl h)) ?_⟩, fun hc => absurd rfl (bool_ne hc)⟩
      rintro _ w2 ⟨rfl, rfl⟩
      refine ⟨_, rfl, h, Rets.mono (r49Used (c := c3) hBu.2.2 (by omega) hRy h) ?_⟩
      rintro _ w3 ⟨rfl, rfl⟩
      refine ⟨_, rfl, fun _ => Rets.mono (lrMost (rl h)) ?_, fun hc => absurd rfl (bool_ne hc)⟩
      rintro _ w4 ⟨rfl, rfl⟩
      refine ⟨_, rfl, fun _ => Rets.mono (lrUsed_int (rl h)) ?_, fun hc => absurd rfl (bool_ne hc)⟩
      rintro _ w5 ⟨rfl, rfl⟩
      refine ⟨_, rfl, ?_, h⟩
      rw [decide_eq_false (by omega)]
    · clear h
      intro w20
      intros
      rename_i b4 hI
      obtain ⟨hv, h⟩ := hI
      obtain rfl : b4 = false := by simpa using hv
      refine ⟨fun hc => (by cases hc), fun _ => ⟨K - 1, by omega, i + 1, ys, h3, q3, c3, ?_, by omega, LeH.trans le2 le3, hRy, hyc, by omega, h⟩⟩
      rw [wI64 (by omega) (by omega)]; rfl
  · have hx50 : xs.length ≤ 50 := by omega
    refine Rets.mono (lrAll h) ?_
    rintro _ w ⟨b, rfl, h⟩
    obtain ⟨h3, le3, hb3, hh⟩ := Own.absorb h
    clear h
    have h := hh
    clear hh
    refine ⟨_, _, _, rfl, fun hc => (by cases hc), fun _ => h.newR fun a6 w h => Own.stP' h (by repeat (first | with_reducible exact Pick.here | apply Pick.there)) (by simp) (by simp [Value.oneCell']) fun w h => ?_⟩
    simp only [setFrom, List.set_cons_zero, List.set_cons_succ, List.set_nil] at h
    refine ⟨_, rfl, h.loopR fun mk lp L1 w h => ?_⟩
    intro hround
    let Fr : Nat → List HP := fun j => puH (j ≤ T) (blk a6 3 [.int .i64 (j : Int)]) :: pt lp (LoopObj L1 .ready none) :: pt mk (.deferred (some [])) :: blk a3 35 [.slice qx xs.length cx] :: blk a2 4 [.bool false] :: []
    let Fin : World → Prop := fun w => ∃ h4, LeH h3 h4 ∧ T ≤ xs.length ∧ Own W w (imm h4 :: lru_int g lim xs :: blk a6 3 [.int .i64 (T : Int)] :: pt lp (LoopObj L1 .done (some (Code.exit 2))) :: pt mk (.deferred (some [])) :: blk a3 35 [.slice qx xs.length cx] :: blk a2 4 [.bool false] :: [])
    have h0 : Own W w (imm h3 :: lru_int g lim xs :: Fr 0) := by
      have h : Own W w (blk a6 3 [.int .i64 ((0 : Nat) : Int)] :: _) := ((Own.pk h (by repeat (first | with_reducible exact Pick.here | apply Pick.there))) : Own W w (blk a6 3 [.int .i64 0] :: _))
      have h := Own.mkPu (p := 0 ≤ T) (Nat.zero_le _) h
      exact (Own.sub (h) (by repeat (first | exact Sub.nil _ | exact Sub.rfl _ | (apply Sub.cons; focus ((repeat (first | with_reducible exact Pick.here | apply Pick.there)); done)) | apply Sub.drop)))
    refine Rets.mono (lrAll1 (Fr := Fr) (Fin := Fin) (by omega) hb3 (fun h4 j w hj le4 h => ?_) h0) ?_
    · refine hround _ _ w _ (Own.recR (l := lp) (L := L1) (Own.pk h (by repeat (first | with_reducible exact Pick.here | apply Pick.there)))) ?_
      refine Own.begR (l := lp) (L := L1) (Own.pk h (by repeat (first | with_reducible exact Pick.here | apply Pick.there))) fun w h => ?_
      have h : Own W w (puH (j ≤ T) (blk a6 3 [.int .i64 (j : Int)]) :: _) := (Own.pk h (by repeat (first | with_reducible exact Pick.here | apply Pick.there)))
      obtain ⟨hjT, h⟩ := h.pu
      have hi4 : Own W w (imm h4 :: _) := (Own.pk h (by repeat (first | with_reducible exact Pick.here | apply Pick.there)))
      have hct : cellAt w (⟨a1, 0, none⟩ : Addr) (.int .u64 told) := hi4.immCell (le4 _ _ (le3 _ _ (le2 _ _ ha1))) (i := 0) rfl
      refine ⟨_, (Own.ld' h (by repeat (first | with_reducible exact Pick.here | apply Pick.there)) (by rfl)), _, hct, by decide, ?_⟩
      rw [eT]
      refine ⟨fun hy2 => ?_, fun hy2 => ?_⟩
      · have hy2 := dec_t hy2
        have ejT : j = T := by omega
        rw [ejT] at h
        have h : Own W w (pt lp (LoopObj L1 .busy none) :: imm h4 :: lru_int g lim xs :: blk a6 3 [.int .i64 (T : Int)] :: pt mk (.deferred (some [])) :: blk a3 35 [.slice qx xs.length cx] :: blk a2 4 [.bool false] :: []) := (Own.sub (h) (by repeat (first | exact Sub.nil _ | exact Sub.rfl _ | (apply Sub.cons; focus ((repeat (first | with_reducible exact Pick.here | apply Pick.there)); done)) | apply Sub.drop)))
        refine Own.finF (l := lp) (L := L1) h fun w h => .inr ⟨rfl, h4, le4, by omega, ?_⟩
        have h : Own W w (pt lp (LoopObj L1 .done (some (Code.exit 2))) :: imm h4 :: lru_int g lim xs :: blk a6 3 [.int .i64 (T : Int)] :: pt mk (.deferred (some [])) :: blk a3 35 [.slice qx xs.length cx] :: blk a2 4 [.bool false] :: []) := h
        exact (Own.sub (h) (by repeat (first | exact Sub.nil _ | exact Sub.rfl _ | (apply Sub.cons; focus ((repeat (first | with_reducible exact Pick.here | apply Pick.there)); done)) | apply Sub.drop)))
      · have hy2 := dec_f hy2
        obtain ⟨ad, rfl, rd⟩ := (hRx.mono (LeH.trans le3 le4)).adr3 hj hi4
        have rdj := rd _ _ _ hi4
        refine ⟨fun vs w' => vs = [.bool false] ∧ w' = w, ⟨_, (Own.ld' h (by repeat (first | with_reducible exact Pick.here | apply Pick.there)) (by rfl)), _, _, _, (Own.ld' h (by repeat (first | with_reducible exact Pick.here | apply Pick.there)) (by rfl)), fun _ => ⟨_, _, _, (Own.ld' h (by repeat (first | with_reducible exact Pick.here | apply Pick.there)) (by rfl)), _, (Own.ld' h (by repeat (first | with_reducible exact Pick.here | apply Pick.there)) (by rfl)), by omega, by omega, smR ⟨_, rdj.1, fun _ => ⟨_, _, _, (Own.ld' h (by repeat (first | with_reducible exact Pick.here | apply Pick.there)) (by rfl)), _, (Own.ld' h (by repeat (first | with_reducible exact Pick.here | apply Pick.there)) (by rfl)), by omega, by omega, smR ⟨_, rdj.2.1, ?_, rfl⟩⟩, fun hc => absurd rfl (bool_ne hc)⟩⟩, fun hc => absurd (dec_t hc) (by omega)⟩, ?_⟩
        · simp
        · intro w30
          intros
          rename_i b7 hI
          obtain ⟨hv, rfl⟩ := hI
          obtain rfl : b7 = false := by simpa using hv
          refine ⟨fun hc => (by cases hc), fun _ => ⟨_, (Own.ld' h (by repeat (first | with_reducible exact Pick.here | apply Pick.there)) (by rfl)), Own.stP' h (by repeat (first | with_reducible exact Pick.here | apply Pick.there)) (by simp) (by simp [Value.oneCell']) fun w h => ?_⟩⟩
          simp only [setFrom, List.set_cons_zero, List.set_cons_succ, List.set_nil] at h
          refine Own.finT (l := lp) (L := L1) (Own.pk h (by repeat (first | with_reducible exact Pick.here | apply Pick.there))) fun w h => .inl ⟨rfl, ?_⟩
          have ej : IntKind.wrap .i64 ((j : Int) + 1) = ((j + 1 : Nat) : Int) := by rw [wI64 (by omega) (by omega)]; rfl
          rw [ej] at h
          have h : Own W w (blk a6 3 [.int .i64 ((j + 1 : Nat) : Int)] :: _) := (Own.pk h (by repeat (first | with_reducible exact Pick.here | apply Pick.there)))
          have h := Own.mkPu (p := j + 1 ≤ T) (by omega) h
          exact (Own.sub (h) (by repeat (first | exact Sub.nil _ | exact Sub.rfl _ | (apply Sub.cons; focus ((repeat (first | with_reducible exact Pick.here | apply Pick.there)); done)) | apply Sub.drop)))
    · intro v108 w35 hres
      refine EndR.tail3 (P := fun w => ∃ h4, LeH h3 h4 ∧ Own W w (imm h4 :: blk a6 3 [.int .i64 (min xs.length T : Nat)] :: pt mk (.deferred (some [])) :: blk a3 35 [.slice qx xs.length cx] :: blk a2 4 [.bool false] :: [])) (fun w hP => ?_) ?_
      · clear hres
        obtain ⟨h4, le4, h⟩ := hP
        refine lrNilGet ⟨_, _, rfl, lrNilPut ⟨_, _, _, _, rfl, fun _ w => Own W w (imm h4 :: blk a2 4 [.bool true] :: pt mk (.deferred (some [])) :: []), ⟨_, (Own.ld' h (by repeat (first | with_reducible exact Pick.here | apply Pick.there)) (by rfl)), _, _, _, (Own.ld' h (by repeat (first | with_reducible exact Pick.here | apply Pick.there)) (by rfl)), _, h.immCell (le4 _ _ (le3 _ _ (le2 _ _ ha1))) (i := 0) rfl, by decide, fun _ => ⟨fun _ => ⟨fun _ => lrNilDrop ⟨_, rfl, fun _ => lrNilLen ⟨_, rfl, lrNilUsed ⟨_, rfl, lrNilMost ⟨_, rfl, fun _ => ?_, fun hc => absurd hc (by decide)⟩⟩⟩, fun hc => (by cases hc)⟩, fun hc => (by cases hc)⟩, fun hc => (by cases hc)⟩, fun hc => ?_⟩, ?_⟩⟩
        · refine Rets.mono (lrAwake h) ?_
          rintro _ w ⟨rfl, h⟩
          refine ⟨_, rfl, Own.stP' h (by repeat (first | with_reducible exact Pick.here | apply Pick.there)) (by simp) (by simp [Value.oneCell']) fun w h => ?_⟩
          simp only [setFrom, List.set_cons_zero, List.set_cons_succ, List.set_nil] at h
          exact (Own.sub (h) (by repeat (first | exact Sub.nil _ | exact Sub.rfl _ | (apply Sub.cons; focus ((repeat (first | with_reducible exact Pick.here | apply Pick.there)); done)) | apply Sub.drop)))
        · rw [eT] at hc
          refine absurd ?_ (beq_f hc)
          unfold minI
          split <;> omega
        · clear h
          intro w50
          intros
          rename_i h
          refine Own.markR (g := mk) (Own.pk h (by repeat (first | with_reducible exact Pick.here | apply Pick.there))) fun w h => ⟨_, (Own.ld' h (by repeat (first | with_reducible exact Pick.here | apply Pick.there)) (by rfl)), rfl, ?_⟩
          have h : Own W w (imm h4 :: []) := (Own.sub (h) (by repeat (first | exact Sub.nil _ | exact Sub.rfl _ | (apply Sub.cons; focus ((repeat (first | with_reducible exact Pick.here | apply Pick.there)); done)) | apply Sub.drop)))
          exact h.immLe (LeH.trans le1 (LeH.trans le2 (LeH.trans le3 le4)))
      · rcases hres with ⟨h4, le4, h⟩ | ⟨h4, le4, hTx, h⟩
        · have h : Own W w35 (puH (xs.length ≤ T) (blk a6 3 [.int .i64 (xs.length : Int)]) :: _) := (Own.pk h (by repeat (first | with_reducible exact Pick.here | apply Pick.there)))
          obtain ⟨hle, h⟩ := h.pu
          have em : xs.length = min xs.length T := by omega
          refine .inl (Own.endR (l := lp) (L := L1) (Own.pk h (by repeat (first | with_reducible exact Pick.here | apply Pick.there))) (by simp) fun w h => ⟨h4, le4, ?_⟩)
          have h : Own W w (imm h4 :: blk a6 3 [.int .i64 (xs.length : Int)] :: pt mk (.deferred (some [])) :: blk a3 35 [.slice qx xs.length cx] :: blk a2 4 [.bool false] :: []) := (Own.sub (h) (by repeat (first | exact Sub.nil _ | exact Sub.rfl _ | (apply Sub.cons; focus ((repeat (first | with_reducible exact Pick.here | apply Pick.there)); done)) | apply Sub.drop)))
          rw [← em]; exact h
        · have em : T = min xs.length T := by omega
          refine .inr (Own.endR (l := lp) (L := L1) (Own.pk h (by repeat (first | with_reducible exact Pick.here | apply Pick.there))) (by simp) fun w h => ⟨h4, le4, ?_⟩)
          have h : Own W w (imm h4 :: blk a6 3 [.int .i64 (T : Int)] :: pt mk (.deferred (some [])) :: blk a3 35 [.slice qx xs.length cx] :: blk a2 4 [.bool false] :: []) := (Own.sub (h) (by repeat (first | exact Sub.nil _ | exact Sub.rfl _ | (apply Sub.cons; focus ((repeat (first | with_reducible exact Pick.here | apply Pick.there)); done)) | apply Sub.drop)))
          rw [← em]; exact h
end Go.Proofs.Ytianklbklggboaa.Eng
