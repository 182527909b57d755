/- NibbleApart. -/
import Derived.Test.YtfcddffcjmgpkaaNibR
namespace Go.Proofs.Ytfcddffcjmgpkaa.Eng
open Go Go.RowKit Go.Proofs
set_option linter.unusedVariables false
set_option linter.unusedSimpArgs false
set_option maxRecDepth 1000000
section
variable {e w : World} {F : List HP} {g : Nat} {ns : List Nat}
theorem nnLen (h : Own e w F) : Rets Try.prog 40 #[.pointer none] w fun v w' => v = .int .i64 0 ∧ Own e w' F :=
  nibble_nil_Len_go ⟨fun _ => ⟨rfl, h⟩, fun hc => (by cases hc)⟩
theorem nnIn {i : Int} (h : Own e w F) : Rets Try.prog 96 #[.pointer none, .int .i64 i] w fun v w' => v = .bool false ∧ Own e w' F := by
  refine nibble_Row_in_go _ _ ⟨fun hc => ?_, fun hc => ⟨rfl, h⟩⟩
  refine Rets.mono (nnLen h) ?_
  rintro v w1 ⟨rfl, h⟩
  have := dec_t hc
  exact ⟨_, rfl, by rw [decide_eq_false (by omega)], h⟩
theorem nnGet {i : Int} (h : Own e w F) : Rets Try.prog 35 #[.pointer none, .int .i64 i] w fun v w' => v = .int .i64 0 ∧ Own e w' F := by
  refine nibble_nil_Get_go _ ?_
  refine Rets.mono (nnIn h) ?_
  rintro v w1 ⟨rfl, h⟩
  exact ⟨_, rfl, fun _ => ⟨rfl, h⟩, fun hc => (by cases hc)⟩
theorem nnAdd {i : Int} (h : Own e w F) : Rets Try.prog 38 #[.pointer none, .int .i64 i] w fun v w' => v = .bool false ∧ Own e w' F := by
  refine nibble_nil_Add_go _ ?_
  refine Rets.mono (nnIn h) ?_
  rintro v w1 ⟨rfl, h⟩
  exact ⟨_, rfl, fun hc => (by cases hc), fun _ => ⟨rfl, h⟩⟩
theorem nnHalve (h : Own e w F) : Rets Try.prog 32 #[.pointer none] w fun v w' => v = .tuple #[] ∧ Own e w' F :=
  nibble_nil_Halve_go ⟨fun _ => ⟨rfl, h⟩, fun hc => (by cases hc)⟩
theorem nnClear (h : Own e w F) : Rets Try.prog 34 #[.pointer none] w fun v w' => v = .tuple #[] ∧ Own e w' F :=
  nibble_nil_Clear_go ⟨fun hc => (by cases hc), fun _ => ⟨rfl, h⟩⟩
theorem nnBytes (h : Own e w F) : Rets Try.prog 42 #[.pointer none] w fun v w' => v = .slice none 0 0 ∧ Own e w' F :=
  nibble_nil_Bytes_go ⟨fun _ => ⟨rfl, h⟩, fun hc => (by cases hc)⟩
theorem nnAll1 {l b : Nat} (h : Own e w (blk b 50 [.pointer none] :: F)) : Rets Try.prog 121 #[.func (.yield l) #[] #[], .pointer (some ⟨b, 0, none⟩)] w fun v w' => Own e w' (blk b 50 [.pointer none] :: F) := by
  refine nibble_Row_All_1_go _ _ ⟨_, h.cellAdd 0 rfl, ?_⟩
  refine Rets.mono (nnLen h) ?_
  rintro v w1 ⟨rfl, h⟩
  refine ⟨_, rfl, fun m vs w => vs = [.int .i64 0] ∧ Own e w (blk b 50 [.pointer none] :: F), ⟨0, rfl, h⟩, ?_⟩
  rintro m w2 v2 v3 n2
  intros
  rename_i hI
  obtain ⟨hvs, h⟩ := hI
  obtain rfl : n2 = 0 := by simpa using hvs
  exact ⟨fun hc => (by cases hc), fun hc => h⟩
theorem nnSum (h : Own e w F) : Rets Try.prog 41 #[.pointer none] w fun v w' => v = .int .i64 0 ∧ Own e w' F := by
  refine nibble_Row_Sum_go _ (h.newR fun a w1 h => ?_)
  refine Rets.mono (nAll_spec h) ?_
  rintro v w2 ⟨b, rfl, h⟩
  refine ⟨_, rfl, _, rfl, h.loopR fun mk l L w3 h hround => ?_⟩
  refine Rets.mono (nnAll1 (h.at 2)) ?_
  intro v w4 h
  refine (h.at 1).endR (by simp) fun w h => ?_
  have h := h.at 2
  refine ⟨_, h.cellAdd 0 rfl, h.store (k := 0) (by simp) (by simp [Value.oneCell']) fun w h => ?_⟩
  refine (h.at 2).markR fun w h => ?_
  exact ⟨_, h.cellAdd 0 rfl, rfl, (Own.sub (h) (by repeat (first | exact Sub.nil _ | exact Sub.rfl _ | (apply Sub.cons; focus ((repeat (first | with_reducible exact Pick.here | apply Pick.there)); done)) | apply Sub.drop)))⟩
theorem nAwake_spec (h : Own e w F) : Rets Try.prog 30 #[] w fun v w' => v = .bool true ∧ Own e w' F := by
  refine cortadolaw10_awake_go ?_
  refine Rets.mono (nNew_spec (n := 3) (N := 3) h (by rfl)) ?_
  rintro v w1 ⟨g, rfl, h⟩
  refine ⟨_, rfl, ?_⟩
  refine Rets.mono (nAdd_spec (i := 1) h (nbOk_zero _) (by simp)) ?_
  rintro v w2 ⟨rfl, h⟩
  refine ⟨_, rfl, fun _ => ?_, fun hc => (by cases hc)⟩
  refine Rets.mono (nGet_spec (i := 1) h (ngAdd_ok (nbOk_zero _) _) (by simp [ngAdd_len])) ?_
  rintro v w3 ⟨rfl, h⟩
  refine ⟨_, rfl, fun _ => ?_, fun hc => (by cases hc)⟩
  refine Rets.mono (nBytes_spec h (by simp [ngAdd_len])) ?_
  rintro v w4 ⟨q', c', rfl, h⟩
  exact ⟨_, _, _, rfl, rfl, h.drop.drop⟩
/-- What is left of a counter that so many have been added to. -/
theorem NibbleApart_spec {W : World} {n i k : Int} (hn : (Lit.int .i64 n).wf = true) (hi : (Lit.int .i64 i).wf = true) (hk : (Lit.int .i64 k).wf = true) :
    Rets Try.prog 7 #[.int .i64 n, .int .i64 i, .int .i64 k] W fun v w' => v = .bool true ∧ Below W.heap.size W w' := by
  refine Rets.mono (k := fun v w' => v = .bool true ∧ Own W w' [snap W]) ?_ (fun v w' h => ⟨h.1, h.2.below⟩)
  have h := Own.begin W
  refine cortadolaw10_NibbleApart_go _ _ _ ?_
  unfold cortadolaw10_NibbleApart_m
  refine ⟨fun hc1 => ⟨fun hc2 => ?_, fun hc2 => ?_⟩, fun hc1 => ?_⟩
  · refine Rets.mono (nAwake_spec h) ?_
    rintro v w1 ⟨rfl, h⟩
    exact ⟨_, rfl, rfl, h⟩
  · have hc1 := dec_f hc1
    have hc2 := beq_f hc2
    generalize hN : (max 0 (min n 65536)).toNat = N
    refine Rets.mono (nNew_spec h hN) ?_
    rintro v w2 ⟨g, rfl, h⟩
    refine ⟨_, rfl, ?_⟩
    refine Rets.mono (nAdd_spec h (nbOk_zero _) (by simp; omega)) ?_
    rintro v w3 ⟨rfl, h⟩
    refine ⟨_, rfl, ?_⟩
    have ok0 := ngAdd_ok (nbOk_zero N) k
    have len0 : (ngAdd (List.replicate N 0) k).length = N := by rw [ngAdd_len, List.length_replicate]
    have z0 : ngGet (ngAdd (List.replicate N 0) k) i = 0 := by rw [ngGet_ne (fun x => hc2 x.symm), ngGet_zero]
    generalize ngAdd (List.replicate N 0) k = ns0 at h ok0 len0 z0
    refine Rets.mono (nGet_spec h ok0 (by omega)) ?_
    rintro v w4 ⟨rfl, h⟩
    refine ⟨_, rfl, fun m vs w => ∃ (j : Nat) (ns : List Nat), vs = [.int .i64 (j : Int)] ∧ m + j = 20 ∧ nbOk ns ∧ ns.length = N ∧ ngGet ns k = ngGet ns0 k ∧ ngGet ns i = (if 0 ≤ i ∧ i < N then min 15 j else 0) ∧ Own W w (rowO g ns :: [snap W]), ⟨20, 0, ns0, rfl, rfl, ok0, len0, rfl, by rw [z0]; split <;> simp, h⟩, ?_⟩
    rintro m w5 v5 n2
    intros
    rename_i hI
    obtain ⟨j, ns, hvs, hm, ok, len, ek, ei, h⟩ := hI
    obtain rfl : n2 = (j : Int) := by simpa using hvs
    refine ⟨fun hc => ?_, fun hc => ?_⟩
    · have hc := dec_t hc
      refine Rets.mono (nAdd_spec h ok (by omega)) ?_
      rintro v w6 ⟨rfl, h⟩
      refine ⟨_, rfl, ?_⟩
      refine Rets.mono (nGet_spec h (ngAdd_ok ok _) (by rw [ngAdd_len]; omega)) ?_
      rintro v w7 ⟨rfl, h⟩
      have e1 : ngGet (ngAdd ns i) k = ngGet ns0 k := by rw [ngGet_ne hc2, ek]
      refine ⟨_, rfl, fun hx => ?_, fun hx => ⟨m - 1, by omega, j + 1, ngAdd ns i, ?_, by omega, ngAdd_ok ok _, by rw [ngAdd_len, len], e1, ?_, h⟩⟩
      · rw [e1] at hx; simp at hx
      · rw [wI64 (by omega) (by omega)]; simp
      · rw [ngGet_eq ok, len, ei]
        split <;> omega
    · have hc := dec_f hc
      obtain rfl : j = 20 := by omega
      have emay : ngMay ns i = false := by
        unfold ngMay
        refine decide_eq_false fun x => ?_
        rw [len] at x
        rw [ei, if_pos ⟨x.1, x.2.1⟩] at x
        exact x.2.2 rfl
      have esame : ngAdd ns i = ns := by
        unfold ngAdd
        unfold ngMay at emay
        rw [if_neg (of_decide_eq_false emay)]
      refine ⟨fun hp => ?_, fun hp => ?_⟩
      all_goals
        refine Rets.mono (nnHalve h) ?_
        rintro v w8 ⟨rfl, h⟩
        refine ⟨rfl, Rets.mono (nnClear h) ?_⟩
        rintro v w9 ⟨rfl, h⟩
        refine ⟨rfl, Rets.mono (nAdd_spec h ok (by omega)) ?_⟩
        rintro v w10 ⟨rfl, h⟩
        rw [emay, esame] at *
        refine ⟨_, rfl, fun _ => ?_, fun hx => (by cases hx)⟩
        refine Rets.mono (nGet_spec h ok (by omega)) ?_
        rintro v w11 ⟨rfl, h⟩
        refine ⟨_, rfl, fun _ => ?_, fun hx => ?_⟩
        · refine Rets.mono (nnLen h) ?_
          rintro v w12 ⟨rfl, h⟩
          refine ⟨_, rfl, Rets.mono (nnGet h) ?_⟩
          rintro v w13 ⟨rfl, h⟩
          refine ⟨_, rfl, Rets.mono (nnSum h) ?_⟩
          rintro v w14 ⟨rfl, h⟩
          refine ⟨_, rfl, fun _ => ?_, fun hx => (by cases hx)⟩
          refine Rets.mono (nnAdd h) ?_
          rintro v w15 ⟨rfl, h⟩
          refine ⟨_, rfl, fun _ => ?_, fun hx => (by cases hx)⟩
          refine Rets.mono (nnBytes h) ?_
          rintro v w16 ⟨rfl, h⟩
          refine ⟨_, _, _, rfl, fun _ => ?_, fun hx => (by cases hx)⟩
          refine Rets.mono (nAwake_spec h) ?_
          rintro v w17 ⟨rfl, h⟩
          exact ⟨_, rfl, rfl, h.drop⟩
        · exfalso
          rw [ei] at hx
          first
          | (have hp := dec_t hp
             by_cases hin : i < n
             · rw [if_pos (by omega), decide_eq_true hin] at hx; cases hx
             · rw [if_neg (by omega), decide_eq_false hin] at hx; cases hx)
          | (have hp := dec_f hp
             rw [if_neg (by omega)] at hx; cases hx)
  · refine Rets.mono (nAwake_spec h) ?_
    rintro v w1 ⟨rfl, h⟩
    exact ⟨_, rfl, rfl, h⟩
end
end Go.Proofs.Ytfcddffcjmgpkaa.Eng
