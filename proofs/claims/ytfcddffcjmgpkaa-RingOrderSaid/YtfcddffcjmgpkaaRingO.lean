/- RingOrder. -/
import Derived.Test.YtfcddffcjmgpkaaRingR
namespace Go.Proofs.Ytfcddffcjmgpkaa.Eng
open Go Go.RowKit Go.Proofs
set_option linter.unusedVariables false
set_option linter.unusedSimpArgs false
set_option maxRecDepth 1000000
section
variable {W : World} {q : Option Addr} {c : Nat} {ss : List ByteArray}
theorem RingOrder_spec {most : Int} (hb : RdC W q (ss.map Value.string)) (hm : ss.length ≤ maxLen) (hc : ss.length ≤ c) (hmo : (Lit.int .u64 most).wf = true) :
    Rets Try.prog 4 #[.slice q ss.length c, .int .u64 most] W fun v w' => v = .bool true ∧ Below W.heap.size W w' := by
  refine Rets.mono (k := fun v w' => v = .bool true ∧ Own W w' [snap W]) ?_ (fun v w' h => ⟨h.1, h.2.below⟩)
  have h := Own.begin W
  have hmo := wfU64 hmo
  refine cortadolaw07_RingOrder_go _ _ _ _ ?_
  unfold cortadolaw07_RingOrder_m
  refine h.newR fun g1 w h => h.newR fun g2 w h => ⟨_, _, _, (Own.ld' h (by repeat (first | with_reducible exact Pick.here | apply Pick.there)) (by rfl)), fun hc1 => ?_, fun hc1 => ?_⟩
  · refine Rets.mono (rgAwake h) ?_
    rintro _ w ⟨rfl, h⟩
    exact ⟨_, rfl, Own.stP' h (by repeat (first | with_reducible exact Pick.here | apply Pick.there)) (by simp) (by simp [Value.oneCell']) fun w h => ⟨_, (Own.ld' h (by repeat (first | with_reducible exact Pick.here | apply Pick.there)) (by rfl)), rfl, (Own.sub (h) (by repeat (first | exact Sub.nil _ | exact Sub.rfl _ | (apply Sub.cons; focus ((repeat (first | with_reducible exact Pick.here | apply Pick.there)); done)) | apply Sub.drop)))⟩⟩
  have hc1 := dec_f hc1
  refine ⟨_, _, _, (Own.ld' h (by repeat (first | with_reducible exact Pick.here | apply Pick.there)) (by rfl)), ?_⟩
  refine Rets.mono (rgNew_string h) ?_
  rintro _ w ⟨g, rfl, h⟩
  have eR : (max 0 (min (ss.length : Int) 65536)).toNat = ss.length := by omega
  rw [eR] at h
  generalize hR : ss.length = R at *
  have rd : ∀ w, Own W w [snap W] → RdC w q (ss.map Value.string) := fun w h => h.snapRd hb
  let Rest : List HP := blk g1 33 [.slice q R c] :: blk g2 4 [.bool false] :: [snap W]
  refine ⟨_, rfl, fun m vs w => ∃ i : Nat, vs = [.int .i64 (i : Int)] ∧ m + i = R ∧ Own W w (ring_string g (ss.take i) R :: Rest), ⟨R, 0, rfl, rfl, (show Own W w (ring_string g [] R :: Rest) from (Own.sub (h) (by repeat (first | exact Sub.nil _ | exact Sub.rfl _ | (apply Sub.cons; focus ((repeat (first | with_reducible exact Pick.here | apply Pick.there)); done)) | apply Sub.drop))))⟩, ?_⟩
  rintro m w n1
  intros
  rename_i hI
  obtain ⟨i, hvs, hm', h⟩ := hI
  obtain rfl : n1 = (i : Int) := by simpa using hvs
  refine ⟨_, _, _, (Own.ld' h (by repeat (first | with_reducible exact Pick.here | apply Pick.there)) (by rfl)), fun hx => ?_, fun hx => ?_⟩
  · have hx := dec_t hx
    have hi : i < ss.length := by omega
    have hti : (ss.take i).length = i := by simp; omega
    refine ⟨_, _, _, (Own.ld' h (by repeat (first | with_reducible exact Pick.here | apply Pick.there)) (by rfl)), ?_⟩
    refine ⟨by omega, by omega, RdC.mp (rd _ (Own.sub (h) (by repeat (first | exact Sub.nil _ | exact Sub.rfl _ | (apply Sub.cons; focus ((repeat (first | with_reducible exact Pick.here | apply Pick.there)); done)) | apply Sub.drop)))) hi fun a ha => ⟨_, by rw [Int.toNat_natCast]; exact ha, ?_⟩⟩
    refine Rets.mono (rgSend_string (x := ss[i]) h (by omega)) ?_
    rintro _ w ⟨rfl, h⟩
    rw [hti] at h ⊢
    rw [if_pos (by omega)] at h
    rw [decide_eq_true (by omega)]
    refine ⟨_, rfl, fun hz => (by cases hz), fun _ => ⟨m - 1, by omega, i + 1, by rw [wI64 (by omega) (by omega)]; rfl, by omega, ?_⟩⟩
    rw [List.take_succ_eq_append_getElem hi]; exact h
  have hx := dec_f hx
  obtain rfl : i = R := by omega
  rw [List.take_of_length_le (by omega)] at h
  refine Rets.mono (rgClone_string h (by omega)) ?_
  rintro _ w ⟨g', rfl, h⟩
  refine ⟨_, rfl, h.drw fun w h => ⟨fun w => Own _ w _, h, ?_⟩⟩
  refine Rets.mono (rgSend_string (x := ⟨#[120]⟩) (Own.pk h (by repeat (first | with_reducible exact Pick.here | apply Pick.there))) (by omega)) ?_
  rintro _ w ⟨rfl, h⟩
  rw [if_neg (by omega)] at h
  rw [decide_eq_false (by omega)]
  refine ⟨_, rfl, (Own.sub (h) (by repeat (first | exact Sub.nil _ | exact Sub.rfl _ | (apply Sub.cons; focus ((repeat (first | with_reducible exact Pick.here | apply Pick.there)); done)) | apply Sub.drop))), fun _ => ?_, fun hz => (by cases hz)⟩
  refine ⟨_, _, _, fun w h => (Own.ld' h (by repeat (first | with_reducible exact Pick.here | apply Pick.there)) (by rfl)), ?_⟩
  have h' : Own W w (ring_string g' ss i :: _) := (Own.pk h (by repeat (first | with_reducible exact Pick.here | apply Pick.there)))
  refine Rets.mono (rgLen_string h') ?_
  rintro _ w ⟨rfl, h⟩
  rw [hR]
  refine ⟨_, rfl, (Own.sub (h) (by repeat (first | exact Sub.nil _ | exact Sub.rfl _ | (apply Sub.cons; focus ((repeat (first | with_reducible exact Pick.here | apply Pick.there)); done)) | apply Sub.drop))), fun hz => absurd rfl (bool_ne hz), fun _ => ?_⟩
  refine ⟨fun m vs w => ∃ j : Nat, vs = [.int .i64 (j : Int)] ∧ m + j = i ∧ Own W w (ring_string g (ss.drop j) i :: ring_string g' ss i :: Rest), ⟨i, 0, rfl, rfl, ?_⟩, ?_⟩
  · rw [List.drop_zero]; exact (Own.sub (h) (by repeat (first | exact Sub.nil _ | exact Sub.rfl _ | (apply Sub.cons; focus ((repeat (first | with_reducible exact Pick.here | apply Pick.there)); done)) | apply Sub.drop)))
  clear h' h
  rintro m w n1
  intros
  rename_i hI
  obtain ⟨j, hvs, hm', h⟩ := hI
  obtain rfl : n1 = (j : Int) := by simpa using hvs
  refine ⟨_, _, _, (Own.ld' h (by repeat (first | with_reducible exact Pick.here | apply Pick.there)) (by rfl)), fun hx => ?_, fun hx => ?_⟩
  · have hx := dec_t hx
    have hi : j < ss.length := by omega
    have e0 : (ss.drop j)[0]? = some ss[j] := by simp [hi]
    have hdl : 0 < (ss.drop j).length := by simp; omega
    refine Rets.mono (rgAt_string (i := 0) h (by omega)) ?_
    rintro _ w ⟨rfl, h⟩
    have e1 : (if (0 : Int) ≤ 0 then ((ss.drop j)[(0 : Int).toNat]?).getD ⟨#[]⟩ else ⟨#[]⟩ : ByteArray) = ss[j] := by
      rw [if_pos (by omega)]
      show ((ss.drop j)[0]?).getD ⟨#[]⟩ = ss[j]
      rw [e0]; rfl
    rw [e1, decide_eq_true (by omega)]
    refine ⟨_, _, rfl, ?_⟩
    refine Rets.mono (rgTake_string h) ?_
    rintro _ w ⟨rfl, h⟩
    have e2 : (ss.drop j).head?.getD ⟨#[]⟩ = ss[j] := by rw [List.head?_drop, List.getElem?_eq_getElem hi]; rfl
    rw [e2, decide_eq_true hdl]
    rw [List.tail_drop] at h
    refine ⟨_, _, rfl, fun _ => ⟨fun _ => ?_, fun hz => (by cases hz)⟩, fun hz => (by cases hz)⟩
    refine ⟨_, _, _, (Own.ld' h (by repeat (first | with_reducible exact Pick.here | apply Pick.there)) (by rfl)), ?_⟩
    refine ⟨by omega, by omega, RdC.mp (rd _ (Own.sub (h) (by repeat (first | exact Sub.nil _ | exact Sub.rfl _ | (apply Sub.cons; focus ((repeat (first | with_reducible exact Pick.here | apply Pick.there)); done)) | apply Sub.drop)))) hi fun a ha => ⟨_, by rw [Int.toNat_natCast]; exact ha, fun _ => ⟨fun hz => (by simp at hz), fun _ => ?_⟩, fun hz => (by simp at hz)⟩⟩
    exact ⟨m - 1, by omega, j + 1, by rw [wI64 (by omega) (by omega)]; rfl, by omega, h⟩
  have hx := dec_f hx
  obtain rfl : i = j := by omega
  have hT : 0 ≤ most.tmod 70 ∧ most.tmod 70 < 70 := by rw [Int.tmod_eq_emod_of_nonneg hmo.1]; omega
  obtain ⟨M, hM⟩ := Int.eq_ofNat_of_zero_le hT.1
  have eM : IntKind.wrap IntKind.i64 (most.tmod 70) = (M : Int) := by rw [wI64 (by omega) (by omega), hM]
  rw [eM]
  refine ⟨by omega, h.newR fun g5 w h => Own.stP' h (by repeat (first | with_reducible exact Pick.here | apply Pick.there)) (by simp) (by simp [Value.oneCell']) fun w h => ?_⟩
  simp only [setFrom, List.set_cons_zero, List.set_cons_succ, List.set_nil] at h
  refine h.newR fun g6 w h => Own.stP' h (by repeat (first | with_reducible exact Pick.here | apply Pick.there)) (by simp) (by simp [Value.oneCell']) fun w h => ?_
  simp only [setFrom, List.set_cons_zero, List.set_cons_succ, List.set_nil] at h
  refine Rets.mono (rgAll_string h) ?_
  rintro _ w ⟨b, rfl, h⟩
  refine ⟨_, _, _, rfl, fun hz => (by cases hz), fun _ => ⟨_, rfl, h.loopR fun mk lp L w h hround => ?_⟩⟩
  let Tail : List HP := pt mk (.deferred (some [])) :: blk g5 3 [.int .i64 (M : Int)] :: ring_string g (ss.drop i) i :: Rest
  let Fr : Nat → List HP := fun k => puH (k ≤ M) (blk g6 3 [.int .i64 (k : Int)]) :: pt lp (LoopObj L .ready none) :: Tail
  let Fin : World → Prop := fun w => M ≤ i ∧ Own W w (blk g6 3 [.int .i64 (M : Int)] :: pt lp (LoopObj L .done (some (Code.exit 4))) :: ring_string g' ss i :: Tail)
  have h0 : Own W w (blk b 34 [.pointer (some ⟨g', 0, none⟩)] :: ring_string g' ss i :: Fr 0) := by
    have h : Own W w (blk g6 3 [.int .i64 0] :: _) := (Own.pk h (by repeat (first | with_reducible exact Pick.here | apply Pick.there)))
    have h : Own W w (blk g6 3 [.int .i64 ((0 : Nat) : Int)] :: _) := h
    have h := Own.mkPu (p := 0 ≤ M) (Nat.zero_le _) h
    exact (Own.sub (h) (by repeat (first | exact Sub.nil _ | exact Sub.rfl _ | (apply Sub.cons; focus ((repeat (first | with_reducible exact Pick.here | apply Pick.there)); done)) | apply Sub.drop)))
  refine Rets.mono (rgAll1_string (xs := ss) (Fr := Fr) (Fin := Fin) (by omega) (fun R' k w hk h => ?_) h0) ?_
  · refine hround _ _ w _ (Own.recR (l := lp) (L := L) (Own.pk h (by repeat (first | with_reducible exact Pick.here | apply Pick.there)))) ?_
    refine Own.begR (l := lp) (L := L) (Own.pk h (by repeat (first | with_reducible exact Pick.here | apply Pick.there))) fun w h => ?_
    have h : Own W w (puH (k ≤ M) (blk g6 3 [.int .i64 (k : Int)]) :: _) := (Own.pk h (by repeat (first | with_reducible exact Pick.here | apply Pick.there)))
    obtain ⟨hkM, h⟩ := h.pu
    refine ⟨_, (Own.ld' h (by repeat (first | with_reducible exact Pick.here | apply Pick.there)) (by rfl)), _, (Own.ld' h (by repeat (first | with_reducible exact Pick.here | apply Pick.there)) (by rfl)), fun hy => ?_, fun hy => ?_⟩
    · have hy := dec_t hy
      obtain rfl : k = M := by omega
      exact Own.finF (l := lp) (L := L) (Own.pk h (by repeat (first | with_reducible exact Pick.here | apply Pick.there))) fun w h => .inr ⟨rfl, by omega, (Own.sub (h) (by repeat (first | exact Sub.nil _ | exact Sub.rfl _ | (apply Sub.cons; focus ((repeat (first | with_reducible exact Pick.here | apply Pick.there)); done)) | apply Sub.drop)))⟩
    · have hy := dec_f hy
      refine ⟨_, (Own.ld' h (by repeat (first | with_reducible exact Pick.here | apply Pick.there)) (by rfl)), fun _ => ?_, fun hz => absurd rfl (bool_ne hz)⟩
      refine ⟨_, _, _, (Own.ld' h (by repeat (first | with_reducible exact Pick.here | apply Pick.there)) (by rfl)), ?_⟩
      refine ⟨by omega, by omega, RdC.mp (rd _ (Own.sub (h) (by repeat (first | exact Sub.nil _ | exact Sub.rfl _ | (apply Sub.cons; focus ((repeat (first | with_reducible exact Pick.here | apply Pick.there)); done)) | apply Sub.drop)))) hk fun a ha => ⟨_, by rw [Int.toNat_natCast]; exact ha, fun hz => (by simp at hz), fun _ => ⟨_, (Own.ld' h (by repeat (first | with_reducible exact Pick.here | apply Pick.there)) (by rfl)), Own.stP' h (by repeat (first | with_reducible exact Pick.here | apply Pick.there)) (by simp) (by simp [Value.oneCell']) fun w h => ?_⟩⟩⟩
      simp only [setFrom, List.set_cons_zero, List.set_cons_succ, List.set_nil] at h
      refine Own.finT (l := lp) (L := L) (Own.pk h (by repeat (first | with_reducible exact Pick.here | apply Pick.there))) fun w h => .inl ⟨rfl, ?_⟩
      rw [wI64 (by omega) (by omega)] at h
      have h : Own W w (blk g6 3 [.int .i64 ((k : Int) + 1)] :: _) := (Own.pk h (by repeat (first | with_reducible exact Pick.here | apply Pick.there)))
      have h : Own W w (blk g6 3 [.int .i64 ((k + 1 : Nat) : Int)] :: _) := h
      have h := Own.mkPu (p := k + 1 ≤ M) (by omega) h
      exact (Own.sub (h) (by repeat (first | exact Sub.nil _ | exact Sub.rfl _ | (apply Sub.cons; focus ((repeat (first | with_reducible exact Pick.here | apply Pick.there)); done)) | apply Sub.drop)))
  · rintro v w hfin
    have hfin : (EndR lp L none w fun w => ∃ n : Nat, n = min M i ∧ Own W w (blk g6 3 [.int .i64 (n : Int)] :: ring_string g' ss i :: Tail)) ∨ (EndR lp L (some (Code.exit 4)) w fun w => ∃ n : Nat, n = min M i ∧ Own W w (blk g6 3 [.int .i64 (n : Int)] :: ring_string g' ss i :: Tail)) := by
      rcases hfin with h | ⟨hle, h⟩
      · left
        have h : Own W w (puH (ss.length ≤ M) (blk g6 3 [.int .i64 (ss.length : Int)]) :: _) := (Own.pk h (by repeat (first | with_reducible exact Pick.here | apply Pick.there)))
        obtain ⟨hkM, h⟩ := h.pu
        exact Own.endR (l := lp) (L := L) (Own.pk h (by repeat (first | with_reducible exact Pick.here | apply Pick.there))) (by simp) fun w h => ⟨ss.length, by omega, (Own.sub (h) (by repeat (first | exact Sub.nil _ | exact Sub.rfl _ | (apply Sub.cons; focus ((repeat (first | with_reducible exact Pick.here | apply Pick.there)); done)) | apply Sub.drop)))⟩
      · right
        exact Own.endR (l := lp) (L := L) (Own.pk h (by repeat (first | with_reducible exact Pick.here | apply Pick.there))) (by simp) fun w h => ⟨M, by omega, (Own.sub (h) (by repeat (first | exact Sub.nil _ | exact Sub.rfl _ | (apply Sub.cons; focus ((repeat (first | with_reducible exact Pick.here | apply Pick.there)); done)) | apply Sub.drop)))⟩
    refine EndR.tail3 _ (fun w h => ?_) hfin
    obtain ⟨n, hn, h⟩ := h
    refine h.drw fun w h => ⟨fun w => Own _ w _, h, ?_⟩
    have h' : Own W w (ring_string g (ss.drop i) i :: _) := (Own.pk h (by repeat (first | with_reducible exact Pick.here | apply Pick.there)))
    refine Rets.mono (rgLen_string h') ?_
    rintro _ w ⟨rfl, h⟩
    have e5 : (ss.drop i).length = 0 := by simp; omega
    rw [e5]
    refine ⟨_, rfl, (Own.sub (h) (by repeat (first | exact Sub.nil _ | exact Sub.rfl _ | (apply Sub.cons; focus ((repeat (first | with_reducible exact Pick.here | apply Pick.there)); done)) | apply Sub.drop))), fun _ => ?_, fun hz => (by cases hz)⟩
    refine ⟨_, _, _, fun w h => (Own.ld' h (by repeat (first | with_reducible exact Pick.here | apply Pick.there)) (by rfl)), ?_⟩
    have h' : Own W w (ring_string g' ss i :: _) := (Own.pk h (by repeat (first | with_reducible exact Pick.here | apply Pick.there)))
    refine Rets.mono (rgLen_string h') ?_
    rintro _ w ⟨rfl, h⟩
    rw [hR]
    refine ⟨_, rfl, (Own.sub (h) (by repeat (first | exact Sub.nil _ | exact Sub.rfl _ | (apply Sub.cons; focus ((repeat (first | with_reducible exact Pick.here | apply Pick.there)); done)) | apply Sub.drop))), fun _ => ?_, fun hz => absurd rfl (beq_f hz)⟩
    refine ⟨_, fun w h => (Own.ld' h (by repeat (first | with_reducible exact Pick.here | apply Pick.there)) (by rfl)), _, fun w h => (Own.ld' h (by repeat (first | with_reducible exact Pick.here | apply Pick.there)) (by rfl)), _, _, _, fun w h => (Own.ld' h (by repeat (first | with_reducible exact Pick.here | apply Pick.there)) (by rfl)), ?_⟩
    have e6 : (n : Int) = minI (M : Int) (i : Int) := by unfold minI; split <;> omega
    refine ⟨fun _ => ?_, fun hz => absurd e6 (beq_f hz)⟩
    refine Rets.mono (rgAwake h) ?_
    rintro _ w ⟨rfl, h⟩
    refine ⟨_, rfl, Own.stP' h (by repeat (first | with_reducible exact Pick.here | apply Pick.there)) (by simp) (by simp [Value.oneCell']) fun w h => ?_⟩
    simp only [setFrom, List.set_cons_zero, List.set_cons_succ, List.set_nil] at h
    exact Own.markR (g := mk) (Own.pk h (by repeat (first | with_reducible exact Pick.here | apply Pick.there))) fun w h => ⟨_, (Own.ld' h (by repeat (first | with_reducible exact Pick.here | apply Pick.there)) (by rfl)), rfl, (Own.sub (h) (by repeat (first | exact Sub.nil _ | exact Sub.rfl _ | (apply Sub.cons; focus ((repeat (first | with_reducible exact Pick.here | apply Pick.there)); done)) | apply Sub.drop)))⟩
end
end Go.Proofs.Ytfcddffcjmgpkaa.Eng
