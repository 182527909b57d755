/- Calls: put as bytes. -/
import Derived.Test.YtppmdifhoejhjaaProQ
import Derived.Test.YtppmdifhoejhjaaTapeQ
namespace Go.Proofs.Ytppmdifhoejhjaa.Eng
open Go Go.RowKit Go.Proofs
set_option linter.unusedVariables false
set_option linter.unusedSimpArgs false
set_option maxRecDepth 1000000
/-- A call's own numbers; a program's bytes. -/
def ownL (x : Op5) : List Int := valsL x.1 (opL x)
def encB (x : Op5) : List Int := x.1 :: putL (ownL x)
def putP (l : List Op5) : List Int := (l.length : Int) :: l.flatMap encB
theorem ownL_len (x : Op5) : (ownL x).length ≤ 4 := by simp only [ownL, valsL, List.length_map]; exact pls_len _
theorem encB_len (x : Op5) : (encB x).length ≤ 37 := by
  have h1 := putL_len (ownL x)
  have h2 := ownL_len x
  simp only [encB, List.length_cons]; omega
theorem encBs_len : ∀ l : List Op5, (l.flatMap encB).length ≤ 37 * l.length
  | [] => by simp
  | x :: r => by
    have := encBs_len r
    have := encB_len x
    simp only [List.flatMap_cons, List.length_append, List.length_cons]; omega
def bAcc (g : Nat) (xs : List Int) : HP := exH fun q => exH fun c => allH [blk g 35 [.slice q xs.length c], byB q xs.length c xs]
/-- Marks. -/
def mksO (ms : List Nat) : HP := allH (ms.map fun r => pt r (.deferred (some [])))
theorem pick_mid {A : HP} {F : List HP} : ∀ L : List HP, Pick (L ++ A :: F) A (L ++ F)
  | [] => .here
  | B :: L => .there (pick_mid L)
section
variable {e w : World} {F : List HP} {g : Nat} {xs : List Int}
theorem bAcc.op (h : Own e w (bAcc g xs :: F)) : ∃ q c, Own e w (blk g 35 [.slice q xs.length c] :: byB q xs.length c xs :: F) := by
  obtain ⟨q, h⟩ := h.ex
  obtain ⟨c, h⟩ := h.ex
  exact ⟨q, c, h.open_⟩
theorem bAcc.cl {q : Option Addr} {c : Nat} (h : Own e w (blk g 35 [.slice q xs.length c] :: byB q xs.length c xs :: F)) : Own e w (bAcc g xs :: F) := by
  have h : Own e w ([blk g 35 [.slice q xs.length c], byB q xs.length c xs] ++ F) := h
  exact Own.mkEx q (Own.mkEx c h.close_)
theorem mksO.more {r : Nat} {ms : List Nat} (h : Own e w (mksO ms :: pt r (.deferred (some [])) :: F)) : Own e w (mksO (r :: ms) :: F) := by
  have h1 := Own.pk (h.open_) (pick_mid _)
  have h2 : Own e w (((r :: ms).map fun r => pt r (.deferred (some []))) ++ F) := h1
  exact h2.close_
theorem mksO.end_ {ms : List Nat} {k : World → Prop} (h : Own e w (mksO ms :: F)) (hk : ∀ w', Own e w' F → k w') : marksR ms w k := Own.marksR ms h.open_ hk
theorem mksO.nil (h : Own e w F) : Own e w (mksO [] :: F) := by
  have h : Own e w ([] ++ F) := h
  exact h.close_
theorem fine_len {l : List Op5} (h : fineB l = true) : l.length ≤ 24 := by
  unfold fineB at h
  rw [Bool.and_eq_true] at h
  exact of_decide_eq_true h.1
theorem fine_kind {l : List Op5} (h : fineB l = true) {x : Op5} (hx : x ∈ l) : 0 ≤ x.1 ∧ x.1 ≤ 7 := by
  unfold fineB at h
  rw [Bool.and_eq_true, List.all_eq_true] at h
  have h1 := h.2 x hx
  unfold rightB at h1
  rw [Bool.and_eq_true] at h1
  have h2 := h1.1
  unfold knownB at h2
  exact of_decide_eq_true h2
theorem prPut {q q2 : Option Addr} {c c2 : Nat} {bs : List Int} {l : List Op5} (h : Own e w F) (hr : ∀ w, Own e w F → RdC w q (cs .u8 bs)) (hr2 : ∀ w, Own e w F → RdC w q2 (l.flatMap encO)) (hbl : bs.length ≤ 50000) :
    Rets Try.prog 33 #[.slice q bs.length c, .slice q2 l.length c2] w fun v w' => (fineB l = false ∧ v = .tuple #[.slice none 0 0, .bool false] ∧ Own e w' F) ∨ (fineB l = true ∧ ∃ q' c', v = .tuple #[.slice q' (bs ++ putP l).length c', .bool true] ∧ Own e w' (byB q' (bs ++ putP l).length c' (bs ++ putP l) :: F)) := by
  refine prog_Put_go _ _ _ _ _ _ ?_
  refine Rets.mono (prFine h hr2) ?_
  rintro _ w ⟨rfl, h⟩
  refine ⟨_, rfl, fun hx => .inl ⟨by simpa using hx, rfl, h⟩, fun hx => ?_⟩
  have hf : fineB l = true := by simpa using hx
  have hl := fine_len hf
  refine Rets.mono (Clone_spec h hr (by omega)) ?_
  rintro _ w ⟨q', c', rfl, h⟩
  rw [wU8' (n := (l.length : Int)) (by omega) (by omega)]
  refine ⟨_, _, _, rfl, h.newR fun g1 w h => ?_⟩
  have h : Own e w (blk g1 5 (cs .u8 [(l.length : Int)]) :: byB q' bs.length c' bs :: F) := h
  refine put8 (a := ⟨0, 0, none⟩) (ys := [(l.length : Int)]) h rfl (by omega) fun q1 c1 w h => ⟨_, _, _, rfl, h.newR fun g2 w h => Own.stP' h (by repeat (first | with_reducible exact Pick.here | apply Pick.there)) (by simp) (by simp [Value.oneCell']) fun w h => ?_⟩
  simp only [setFrom, List.set_cons_zero, List.set_cons_succ, List.set_nil] at h
  have e0 : bs.length + 1 = (bs ++ [(l.length : Int)]).length := by simp
  have h : Own e w (blk g2 35 [.slice q1 (bs.length + 1) c1] :: byB q1 (bs.length + 1) c1 (bs ++ [(l.length : Int)]) :: F) := h
  rw [e0] at h
  have h := mksO.nil (bAcc.cl h)
  refine ⟨fun m vs ms w => ∃ i : Nat, vs = [.int .i64 (i : Int)] ∧ m + i = l.length ∧ Own e w (mksO ms :: bAcc g2 (bs ++ (l.length : Int) :: (l.take i).flatMap encB) :: F), ⟨l.length, 0, rfl, rfl, h⟩, ?_⟩
  rintro m ms w v4 n1
  intros
  rename_i hI
  obtain ⟨i, hvs, hm, h⟩ := hI
  obtain rfl : n1 = (i : Int) := by simpa using hvs
  refine ⟨fun hy => ?_, fun hy => ?_⟩
  · have hy := dec_t hy
    have hi : i < l.length := by omega
    obtain ⟨ad, rfl, hcell⟩ := RdC.rec encO_len (hr2 w h.drop.drop) hi (by omega)
    have hkk := fine_kind hf (List.getElem_mem hi)
    obtain ⟨x, hxe⟩ : ∃ x, x = l[i] := ⟨_, rfl⟩
    have ht := encBs_len (l.take i)
    have hti : (l.take i).length = i := by simp; omega
    refine ⟨by omega, by omega, _, _, _, _, _, ⟨hcell i hi 0 _ rfl, hcell i hi 1 _ rfl, hcell i hi 2 _ rfl, hcell i hi 3 _ rfl, hcell i hi 4 _ rfl⟩, h.newR fun g3 w h => Own.stP' h (by repeat (first | with_reducible exact Pick.here | apply Pick.there)) (by simp) (by simp [Value.oneCell']) fun w h => ?_⟩
    simp only [setFrom, List.set_cons_zero, List.set_cons_succ, List.set_nil] at h
    rw [← hxe] at hkk h
    obtain ⟨cur, hcur⟩ : ∃ cur, cur = bs ++ (l.length : Int) :: (l.take i).flatMap encB := ⟨_, rfl⟩
    have hcl : cur.length ≤ 50001 + 37 * i := by rw [hcur]; simp only [List.length_append, List.length_cons]; omega
    rw [← hcur] at h
    have h : Own e w (bAcc g2 cur :: blk g3 50 [.int .i64 x.1, .int .i64 x.2.1, .int .i64 x.2.2.1, .int .i64 x.2.2.2.1, .int .i64 x.2.2.2.2] :: mksO ms :: F) := (Own.sub (h) (by repeat (first | exact Sub.nil _ | exact Sub.rfl _ | (apply Sub.cons; focus ((repeat (first | with_reducible exact Pick.here | apply Pick.there)); done)) | apply Sub.drop)))
    obtain ⟨q3, c3, h⟩ := bAcc.op h
    refine ⟨_, _, _, (Own.ld' h (by repeat (first | with_reducible exact Pick.here | apply Pick.there)) (by rfl)), _, (Own.ld h (by repeat (first | with_reducible exact Pick.here | apply Pick.there)) (by rfl)), ?_⟩
    rw [wU8' (n := x.1) (by omega) (by omega)]
    refine h.newR fun g4 w h => ?_
    have h : Own e w (blk g4 5 [.int .u8 x.1] :: byB q3 cur.length c3 cur :: _) := (Own.pk2 h (by repeat (first | with_reducible exact Pick.here | apply Pick.there)) (by repeat (first | with_reducible exact Pick.here | apply Pick.there)))
    have h : Own e w (blk g4 5 (cs .u8 [x.1]) :: byB q3 cur.length c3 cur :: _) := h
    refine put8 (a := ⟨0, 0, none⟩) (ys := [x.1]) h rfl (by omega) fun q4 c4 w h => ⟨_, _, _, rfl, Own.stP' h (by repeat (first | with_reducible exact Pick.here | apply Pick.there)) (by simp) (by simp [Value.oneCell']) fun w h => ?_⟩
    simp only [setFrom, List.set_cons_zero, List.set_cons_succ, List.set_nil] at h
    have h : Own e w (blk g2 35 [.slice q4 (cur.length + 1) c4] :: byB q4 (cur.length + 1) c4 (cur ++ [x.1]) :: blk g3 50 [.int .i64 x.1, .int .i64 x.2.1, .int .i64 x.2.2.1, .int .i64 x.2.2.2.1, .int .i64 x.2.2.2.2] :: mksO ms :: F) := (Own.sub (h) (by repeat (first | exact Sub.nil _ | exact Sub.rfl _ | (apply Sub.cons; focus ((repeat (first | with_reducible exact Pick.here | apply Pick.there)); done)) | apply Sub.drop)))
    have e1 : cur.length + 1 = (cur ++ [x.1]).length := by simp
    rw [e1] at h
    have h := bAcc.cl h
    refine Rets.mono (prOwn (g := g3) h) ?_
    rintro _ w ⟨b1, rfl, h⟩
    refine ⟨_, _, _, rfl, _, rfl, h.loopR fun mk lp L w h hround => ?_⟩
    let Fr : Nat → List HP := fun j => bAcc g2 (cur ++ [x.1] ++ putL ((ownL x).take j)) :: pt lp (LoopObj L .ready none) :: blk b1 72 [.pointer (some ⟨g3, 0, none⟩)] :: blk g3 50 (opV (opL x)) :: pt mk (.deferred (some [])) :: mksO ms :: F
    have h : Own e w (bAcc g2 (cur ++ [x.1]) :: pt lp (LoopObj L .ready none) :: blk b1 72 [.pointer (some ⟨g3, 0, none⟩)] :: blk g3 50 [.int .i64 x.1, .int .i64 x.2.1, .int .i64 x.2.2.1, .int .i64 x.2.2.2.1, .int .i64 x.2.2.2.2] :: pt mk (.deferred (some [])) :: mksO ms :: F) := (Own.sub (h) (by repeat (first | exact Sub.nil _ | exact Sub.rfl _ | (apply Sub.cons; focus ((repeat (first | with_reducible exact Pick.here | apply Pick.there)); done)) | apply Sub.drop)))
    have h0 : Own e w (Fr 0) := by
      show Own e w (bAcc g2 (cur ++ [x.1] ++ []) :: _)
      rw [List.append_nil]; exact h
    refine Rets.mono (ow1 (e := e) (g := g3) (k := x.1) (lp := lp) (b := b1) (Fr := Fr) (fun w h => (Own.ld' h (by repeat (first | with_reducible exact Pick.here | apply Pick.there)) (by rfl))) (fun w h => Own.ld h (by repeat (first | with_reducible exact Pick.here | apply Pick.there)) (by rfl)) (fun R j w hj h => ?_) h0) ?_
    · refine hround _ w _ (Own.recR (l := lp) (L := L) (Own.pk h (by repeat (first | with_reducible exact Pick.here | apply Pick.there)))) ?_
      refine Own.begR (l := lp) (L := L) (Own.pk h (by repeat (first | with_reducible exact Pick.here | apply Pick.there))) fun w h => ?_
      have hp5 : (pls x.1)[j] < (opL x).length := pls_lt (List.getElem_mem hj)
      have hpv : (opV (opL x))[(pls x.1)[j]]? = some (.int .i64 ((opL x).getD (pls x.1)[j] 0)) := by
        simp only [opV, cs, List.getElem?_map, List.getElem?_eq_getElem hp5, List.getD_eq_getElem?_getD, Option.map_some, Option.getD_some]
      have et : (ownL x).take (j + 1) = (ownL x).take j ++ [(opL x).getD (pls x.1)[j] 0] := valsL_take hj
      obtain ⟨v0, hv0⟩ : ∃ v0, v0 = (opL x).getD (pls x.1)[j] 0 := ⟨_, rfl⟩
      rw [← hv0] at hpv et
      have h : Own e w (bAcc g2 (cur ++ [x.1] ++ putL ((ownL x).take j)) :: pt lp (LoopObj L .busy none) :: R :: blk b1 72 [.pointer (some ⟨g3, 0, none⟩)] :: blk g3 50 (opV (opL x)) :: pt mk (.deferred (some [])) :: mksO ms :: F) := (Own.sub (h) (by repeat (first | exact Sub.nil _ | exact Sub.rfl _ | (apply Sub.cons; focus ((repeat (first | with_reducible exact Pick.here | apply Pick.there)); done)) | apply Sub.drop)))
      obtain ⟨now, hnow⟩ : ∃ now, now = cur ++ [x.1] ++ putL ((ownL x).take j) := ⟨_, rfl⟩
      have hnl : now.length ≤ 60000 := by
        have h1 := putL_len ((ownL x).take j)
        have h2 := ownL_len x
        have h3 : ((ownL x).take j).length ≤ 4 := by rw [List.length_take]; omega
        rw [hnow]; simp only [List.length_append, List.length_cons, List.length_nil]; omega
      rw [← hnow] at h
      obtain ⟨q5, c5, h⟩ := bAcc.op h
      refine h.drw fun w h => ⟨fun w => Own e w _, h, smR ⟨_, _, _, fun w h => (Own.ld' h (by repeat (first | with_reducible exact Pick.here | apply Pick.there)) (by rfl)), _, fun w h => Own.ld h (by repeat (first | with_reducible exact Pick.here | apply Pick.there)) hpv, h.newR fun g5 w h => ⟨h.drop, ?_⟩⟩⟩
      refine Rets.mono (Put_spec (bs := now) (ns := [v0]) h (fun w h => Own.rdP (T := 5) h (by repeat (first | with_reducible exact Pick.here | apply Pick.there))) (fun w h => Own.blkRd h) (by omega) (by simp)) ?_
      rintro _ w ⟨q6, c6, rfl, h⟩
      refine ⟨_, _, _, rfl, Own.stP' h (by repeat (first | with_reducible exact Pick.here | apply Pick.there)) (by simp) (by simp [Value.oneCell']) fun w h => ?_⟩
      simp only [setFrom, List.set_cons_zero, List.set_cons_succ, List.set_nil] at h
      refine Own.finT (l := lp) (L := L) (Own.pk h (by repeat (first | with_reducible exact Pick.here | apply Pick.there))) fun w h => ⟨rfl, ?_⟩
      have en : now ++ putL [v0] = cur ++ [x.1] ++ putL ((ownL x).take (j + 1)) := by rw [et, putL_app, hnow, List.append_assoc]
      rw [en] at h
      have h : Own e w (blk g2 35 _ :: byB q6 (cur ++ [x.1] ++ putL ((ownL x).take (j + 1))).length c6 (cur ++ [x.1] ++ putL ((ownL x).take (j + 1))) :: R :: pt lp (LoopObj L .ready none) :: blk b1 72 [.pointer (some ⟨g3, 0, none⟩)] :: blk g3 50 (opV (opL x)) :: pt mk (.deferred (some [])) :: mksO ms :: F) := (Own.sub (h) (by repeat (first | exact Sub.nil _ | exact Sub.rfl _ | (apply Sub.cons; focus ((repeat (first | with_reducible exact Pick.here | apply Pick.there)); done)) | apply Sub.drop)))
      exact (bAcc.cl h).swap
    rintro _ w h
    have h : Own e w (bAcc g2 (cur ++ [x.1] ++ putL ((ownL x).take (pls x.1).length)) :: pt lp (LoopObj L .ready none) :: blk b1 72 [.pointer (some ⟨g3, 0, none⟩)] :: blk g3 50 (opV (opL x)) :: pt mk (.deferred (some [])) :: mksO ms :: F) := h
    rw [List.take_of_length_le (by simp [ownL, valsL])] at h
    refine Own.endR (l := lp) (L := L) (Own.pk h (by repeat (first | with_reducible exact Pick.here | apply Pick.there))) (by simp) fun w h => ?_
    refine ⟨m - 1, by omega, i + 1, by rw [wI64 (by omega) (by omega)]; rfl, by omega, ?_⟩
    have eo : cur ++ [x.1] ++ putL (ownL x) = bs ++ (l.length : Int) :: (l.take (i + 1)).flatMap encB := by
      rw [List.take_succ_eq_append_getElem hi, ← hxe, List.flatMap_append, hcur]
      simp [encB]
    rw [eo] at h
    have h : Own e w (mksO ms :: pt mk (.deferred (some [])) :: bAcc g2 (bs ++ (l.length : Int) :: (l.take (i + 1)).flatMap encB) :: F) := (Own.sub (h) (by repeat (first | exact Sub.nil _ | exact Sub.rfl _ | (apply Sub.cons; focus ((repeat (first | with_reducible exact Pick.here | apply Pick.there)); done)) | apply Sub.drop)))
    exact mksO.more h
  · have hy := dec_f hy
    obtain rfl : i = l.length := by omega
    rw [List.take_length] at h
    have h : Own e w (bAcc g2 (bs ++ putP l) :: mksO ms :: F) := h.swap
    obtain ⟨q3, c3, h⟩ := bAcc.op h
    refine ⟨_, _, _, (Own.ld' h (by repeat (first | with_reducible exact Pick.here | apply Pick.there)) (by rfl)), ?_⟩
    have h : Own e w (mksO ms :: byB q3 (bs ++ putP l).length c3 (bs ++ putP l) :: F) := (Own.sub (h) (by repeat (first | exact Sub.nil _ | exact Sub.rfl _ | (apply Sub.cons; focus ((repeat (first | with_reducible exact Pick.here | apply Pick.there)); done)) | apply Sub.drop)))
    exact mksO.end_ h fun w h => .inr ⟨hf, q3, c3, rfl, h⟩
end
end Go.Proofs.Ytppmdifhoejhjaa.Eng
