/- The document's ledger, on: what sets a cost, adds, moves, limits. -/
import Derived.Test.YtajckpjlliiekaaDoorLgR
namespace Go.Proofs.YtajckpjlliiekaaDoor.Eng
open Go Go.RowKit Go.Proofs
set_option linter.unusedVariables false
set_option linter.unusedSimpArgs false
set_option maxRecDepth 1000000
section
variable {e w : World} {F : List HP} {h0 : Nat → Option Obj} {q : Option Addr} {L : LE2} {c : Nat} {m k n : Int} {s : Lg}
theorem rset (hs : Srt L) (hl : L.length ≤ 600) (hI : ImR h0 q (E24 L)) (h : Own e w (imm h0 :: F)) : Rets Tryd.prog 65 #[L24 q L.length c m, .int .u64 k, .int .i64 n] w (R24 e F h0 (lput k n L) m) := by
  refine cortadoref24_set_go _ _ _ _ _ _ (h.newR fun ga w h => ?_)
  obtain ⟨ha0, le0, ha, hh⟩ := Own.absorb h
  clear h
  have h := hh
  clear hh
  have hI := hI.mono le0
  refine h.newR fun g2 w h => ?_
  have h : Own e w (imm ha0 :: B24 g2 none 0 0 0 :: F) := h.swap
  refine ⟨_, _, _, _, ⟨h.immCell ha (i := 0) rfl, h.immCell ha (i := 1) rfl⟩, ?_⟩
  refine Rets.mono (rDrop (k := k) (by omega) hI h) ?_
  clear h
  rintro _ w ⟨h1, qr, cr, rfl, le1, hR, hnc, h⟩
  have ha := le1 _ _ ha
  obtain ⟨R, eR⟩ : ∃ R, R = ldrop k L := ⟨_, rfl⟩
  have hsR : Srt R := by rw [eR]; exact ldrop_srt hs
  have hlR : R.length ≤ 600 := by rw [eR]; have := ldrop_len k L; omega
  have hnk : ∀ x ∈ R, x.1 ≠ k := fun x hx => by rw [eR] at hx; simpa using (List.mem_filter.1 hx).2
  rw [← lput_ldrop, ← eR]
  rw [← eR] at hR hnc
  clear eR
  refine ⟨_, _, _, _, rfl, h.newR fun g3 w h => Own.stP' (g := g3) h (by repeat (first | with_reducible exact Pick.here | apply Pick.there)) (by simp) (by simp [Value.oneCell']) fun w h => ?_⟩
  simp only [setFrom, List.set_cons_zero, List.set_cons_succ, List.set_nil] at h
  obtain ⟨hb0, le2, hb, hh⟩ := Own.absorb h
  clear h
  have h := hh
  clear hh
  have ha := le2 _ _ ha
  have hR := hR.mono le2
  refine ⟨_, h.immCell ha (i := 1) rfl, h.newR fun g4 w h => Own.stP' (g := g4) h (by repeat (first | with_reducible exact Pick.here | apply Pick.there)) (by simp) (by simp [Value.oneCell']) fun w h => ?_⟩
  simp only [setFrom, List.set_cons_zero, List.set_cons_succ, List.set_nil] at h
  have h : Own e w (imm hb0 :: B24 g4 none 0 0 m :: slO 34 2 none 0 0 [] :: B24 g2 none 0 0 0 :: F) := by
    have h : Own e w (slO 34 2 none 0 0 [] :: B24 g4 none 0 0 m :: imm hb0 :: B24 g2 none 0 0 0 :: F) := h.slNil
    exact (Own.sub (h) (by repeat (first | with_reducible exact Sub.nil _ | with_reducible exact Sub.rfl _ | (apply Sub.cons; focus ((repeat (first | with_reducible exact Pick.here | apply Pick.there)); done)) | apply Sub.drop)))
  refine ⟨fun z vs w => ∃ (i : Nat) (q' : Option Addr) (c' : Nat), vs = [.bool (pdone k (R.take i)), .int .i64 (i : Int)] ∧ z + i = R.length ∧ Own e w (imm hb0 :: B24 g4 q' (pout k n (R.take i)).length c' m :: slO 34 2 q' (pout k n (R.take i)).length c' (E24 (pout k n (R.take i))) :: B24 g2 none 0 0 0 :: F), ⟨R.length, 0, none, 0, rfl, rfl, h⟩, ?_⟩
  clear h
  rintro z w b1 n4
  intros
  rename_i hI2
  obtain ⟨i, q', c', hvs, hz, h⟩ := hI2
  obtain ⟨rfl, rfl⟩ : b1 = pdone k (R.take i) ∧ n4 = (i : Int) := by simpa using hvs
  have hpl := pout_len k n (R.take i)
  have htl : (R.take i).length ≤ 600 := by rw [List.length_take]; omega
  refine ⟨_, _, _, h.immCell hb (i := 0) rfl, fun hc => ?_, fun hc => ?_⟩
  · have hc := dec_t hc
    have hi : i < R.length := by omega
    have ei : IntKind.wrap .i64 ((i : Int) + 1) = ((i + 1 : Nat) : Int) := by rw [wI64 (by omega) (by omega)]; rfl
    rw [ei]
    obtain ⟨ad, eqr, rd⟩ := hR.adr24 hi h
    rw [eqr] at hb
    obtain ⟨x, hx⟩ : ∃ x, x = R[i] := ⟨_, rfl⟩
    have hxk : x.1 ≠ k := by rw [hx]; exact hnk _ (List.getElem_mem hi)
    have et : R.take (i + 1) = R.take i ++ [x] := by rw [hx]; exact List.take_succ_eq_append_getElem hi
    have hsn : Srt (R.take i ++ [x]) := by rw [← et]; exact hsR.take _
    rw [← hx] at rd
    obtain ⟨d, hd⟩ : ∃ d, d = pdone k (R.take i) := ⟨_, rfl⟩
    refine ⟨fun vs w => vs = [.bool (!pdone k (R.take i) && decide (x.1 > k))] ∧ Own e w (imm hb0 :: B24 g4 q' (pout k n (R.take i)).length c' m :: slO 34 2 q' (pout k n (R.take i)).length c' (E24 (pout k n (R.take i))) :: B24 g2 none 0 0 0 :: F), ⟨fun hq => ⟨_, _, _, h.immCell hb (i := 0) rfl, by omega, by omega, smR ⟨_, (rd _ _ _ h).1, ?_, h⟩⟩, fun hq => ⟨?_, h⟩⟩, ?_⟩
    · have hq : pdone k (R.take i) = false := by simpa using hq
      rw [hq]; rfl
    · have hq : pdone k (R.take i) = true := by simpa using hq
      rw [hq]; rfl
    clear h
    rintro w
    intros
    rename_i b2 hI3
    obtain ⟨hvs2, h⟩ := hI3
    obtain rfl : b2 = (!pdone k (R.take i) && decide (x.1 > k)) := by simpa using hvs2
    refine ⟨fun vs w => vs = [.bool (pdone k (R.take (i + 1)))] ∧ ∃ (M : LE2) (q' : Option Addr) (c' : Nat), M ++ [x] = pout k n (R.take (i + 1)) ∧ M.length ≤ 602 ∧ Own e w (imm hb0 :: B24 g4 q' M.length c' m :: slO 34 2 q' M.length c' (E24 M) :: B24 g2 none 0 0 0 :: F), ⟨fun hq => ?_, fun hq => ?_⟩, ?_⟩
    · have hq : pdone k (R.take i) = false ∧ k < x.1 := by simpa using hq
      obtain ⟨d1, d2, d3⟩ := pout_B (v := n) hq.1 (Int.le_of_lt hq.2)
      rw [if_neg hxk, ← et] at d3
      rw [← et] at d1
      rw [d2] at h
      refine ⟨_, _, _, Own.ld (g := g4) (k := 0) h (by repeat (first | with_reducible exact Pick.here | apply Pick.there)) rfl, h.newR fun g5 w h => ?_⟩
      have h : Own e w (blk g5 34 [.int .u64 (k, n).1, .int .i64 (k, n).2] :: slO 34 2 q' (R.take i).length c' (E24 (R.take i)) :: imm hb0 :: B24 g4 q' (R.take i).length c' m :: B24 g2 none 0 0 0 :: F) := (Own.sub (h) (by repeat (first | with_reducible exact Sub.nil _ | with_reducible exact Sub.rfl _ | (apply Sub.cons; focus ((repeat (first | with_reducible exact Pick.here | apply Pick.there)); done)) | apply Sub.drop)))
      refine app24 (x := (k, n)) (by omega) h fun q3 c3 w h => ⟨_, _, _, rfl, Own.stP (g := g4) (k := 0) h (by repeat (first | with_reducible exact Pick.here | apply Pick.there)) (by simp) (by simp [Value.oneCell']) fun w h => ⟨by rw [d1], R.take i ++ [(k, n)], q3, c3, d3.symm, by rw [List.length_append]; simp; omega, ?_⟩⟩
      simp only [setFrom, List.set_cons_zero, List.set_cons_succ, List.set_nil] at h
      exact (Own.sub (h) (by repeat (first | exact Sub.nil _ | exact Sub.rfl _ | (apply Sub.cons; focus ((repeat (first | with_reducible exact Pick.here | apply Pick.there)); done)) | apply Sub.drop)))
    · have hq : pdone k (R.take i) = false → ¬ k < x.1 := fun h1 h2 => by rw [h1] at hq; simp at hq; omega
      cases hpd : pdone k (R.take i) with
      | true =>
        obtain ⟨d0, d1, d3⟩ := pout_A (v := n) hsn hpd
        rw [← et] at d1 d3
        exact ⟨by rw [d1], _, q', c', d3.symm, by omega, h⟩
      | false =>
        have hq := hq hpd
        obtain ⟨d1, d2, d3⟩ := pout_C (k := k) (v := n) (e := x) hpd (by omega)
        rw [← et] at d1
        rw [d2] at h
        exact ⟨by rw [d1], _, q', c', by rw [et, d3], by omega, h⟩
    clear h
    rintro w b3
    intros
    rename_i hI4
    obtain ⟨hvs3, M, q2, c2, hM, hMl, h⟩ := hI4
    obtain rfl : b3 = pdone k (R.take (i + 1)) := by simpa using hvs3
    let S : World → Prop := fun w => Own e w (imm hb0 :: B24 g4 q2 M.length c2 m :: slO 34 2 q2 M.length c2 (E24 M) :: B24 g2 none 0 0 0 :: F)
    have h : S w := h
    refine Own.drw h fun w h => ⟨S, h, _, _, _, fun w h => Own.ld (g := g4) (k := 0) h (by repeat (first | with_reducible exact Pick.here | apply Pick.there)) rfl, _, _, _, fun w h => Own.immCell h hb (i := 0) rfl, by omega, by omega, smR ⟨_, _, ⟨fun w h => (rd _ _ _ h).1, fun w h => (rd _ _ _ h).2⟩, Own.newR h fun g5 w h => ⟨?_, ?_⟩⟩⟩
    · exact h.drop
    · have h : Own e w (blk g5 34 [.int .u64 x.1, .int .i64 x.2] :: slO 34 2 q2 M.length c2 (E24 M) :: imm hb0 :: B24 g4 q2 M.length c2 m :: B24 g2 none 0 0 0 :: F) := (Own.sub (h) (by repeat (first | with_reducible exact Sub.nil _ | with_reducible exact Sub.rfl _ | (apply Sub.cons; focus ((repeat (first | with_reducible exact Pick.here | apply Pick.there)); done)) | apply Sub.drop)))
      refine app24 (x := x) (by omega) h fun q3 c3 w h => ⟨_, _, _, rfl, Own.stP (g := g4) (k := 0) h (by repeat (first | with_reducible exact Pick.here | apply Pick.there)) (by simp) (by simp [Value.oneCell']) fun w h => ⟨z - 1, by omega, i + 1, q3, c3, rfl, by omega, ?_⟩⟩
      simp only [setFrom, List.set_cons_zero, List.set_cons_succ, List.set_nil] at h
      rw [hM] at h
      exact (Own.sub (h) (by repeat (first | exact Sub.nil _ | exact Sub.rfl _ | (apply Sub.cons; focus ((repeat (first | with_reducible exact Pick.here | apply Pick.there)); done)) | apply Sub.drop)))
  · have hc := dec_f hc
    obtain rfl : i = R.length := by omega
    rw [List.take_length] at h hpl ⊢
    obtain ⟨e1, e2⟩ := pout_end (k := k) (v := n) (l := R)
    refine ⟨fun vs w => vs = [] ∧ ∃ (q' : Option Addr) (c' : Nat), Own e w (imm hb0 :: B24 g4 q' (lput k n R).length c' m :: slO 34 2 q' (lput k n R).length c' (E24 (lput k n R)) :: B24 g2 none 0 0 0 :: F), ⟨fun hq => ?_, fun hq => ?_⟩, ?_⟩
    · have e2 := e2 (by simpa using hq)
      refine ⟨_, _, _, Own.ld (g := g4) (k := 0) h (by repeat (first | with_reducible exact Pick.here | apply Pick.there)) rfl, h.newR fun g5 w h => ?_⟩
      have h : Own e w (blk g5 34 [.int .u64 (k, n).1, .int .i64 (k, n).2] :: slO 34 2 q' (pout k n R).length c' (E24 (pout k n R)) :: imm hb0 :: B24 g4 q' (pout k n R).length c' m :: B24 g2 none 0 0 0 :: F) := (Own.sub (h) (by repeat (first | with_reducible exact Sub.nil _ | with_reducible exact Sub.rfl _ | (apply Sub.cons; focus ((repeat (first | with_reducible exact Pick.here | apply Pick.there)); done)) | apply Sub.drop)))
      refine app24 (x := (k, n)) (by omega) h fun q3 c3 w h => ⟨_, _, _, rfl, Own.stP (g := g4) (k := 0) h (by repeat (first | with_reducible exact Pick.here | apply Pick.there)) (by simp) (by simp [Value.oneCell']) fun w h => ⟨rfl, q3, c3, ?_⟩⟩
      simp only [setFrom, List.set_cons_zero, List.set_cons_succ, List.set_nil] at h
      rw [e2] at h
      exact (Own.sub (h) (by repeat (first | exact Sub.nil _ | exact Sub.rfl _ | (apply Sub.cons; focus ((repeat (first | with_reducible exact Pick.here | apply Pick.there)); done)) | apply Sub.drop)))
    · have e1 := e1 (by simpa using hq)
      rw [e1] at h
      exact ⟨rfl, q', c', h⟩
    clear h
    rintro w
    intros
    rename_i hI5
    obtain ⟨_, q3, c3, h⟩ := hI5
    refine ⟨_, _, _, _, ⟨Own.ld (g := g4) (k := 0) h (by repeat (first | with_reducible exact Pick.here | apply Pick.there)) rfl, Own.ld (g := g4) (k := 1) h (by repeat (first | with_reducible exact Pick.here | apply Pick.there)) rfl⟩, Own.stP' (g := g2) h (by repeat (first | with_reducible exact Pick.here | apply Pick.there)) (by simp) (by simp [Value.oneCell']) fun w h => ?_⟩
    simp only [setFrom, List.set_cons_zero, List.set_cons_succ, List.set_nil] at h
    refine ⟨_, _, _, _, ⟨Own.ld (g := g2) (k := 0) h (by repeat (first | with_reducible exact Pick.here | apply Pick.there)) rfl, Own.ld (g := g2) (k := 1) h (by repeat (first | with_reducible exact Pick.here | apply Pick.there)) rfl⟩, ?_⟩
    have h : Own e w (slO 34 2 q3 (lput k n R).length c3 (E24 (lput k n R)) :: imm hb0 :: F) := (Own.sub (h) (by repeat (first | exact Sub.nil _ | exact Sub.rfl _ | (apply Sub.cons; focus ((repeat (first | with_reducible exact Pick.here | apply Pick.there)); done)) | apply Sub.drop)))
    obtain ⟨h3, le3, hR3, hnc3, h⟩ := h.slImm
    exact ⟨h3, _, _, rfl, LeH.trans le0 (LeH.trans le1 (LeH.trans le2 le3)), hR3, hnc3, h⟩
theorem rAdd (ok : LgOk s) (hl : s.t.size ≤ 600) (hI : ImR h0 q (E24 s.t.toL)) (hnc : s.t.toL.length ≤ c) (h : Own e w (imm h0 :: F)) : Rets Tryd.prog 42 #[L24 q s.t.toL.length c s.most, .int .u64 k, .int .i64 n] w (R24b e F h0 (lgAdd k n s).1.t.toL (lgAdd k n s).1.most (lgAdd k n s).2) := by
  have hnn := ok.nn
  have hsz := Tr.size_toL s.t
  obtain ⟨o1, o2, o3, o4, o5⟩ := ok
  have ey : (lfind k s.t.toL).isSome = false → 0 ≤ n ∧ s.used + n ≤ s.most → (lgAdd k n s) = (⟨tput k n s.t, s.used + n, s.most⟩, true) := fun h1 h2 => by unfold lgAdd; rw [if_neg (by rw [h1]; simp), if_pos h2]
  have en : ¬ ((lfind k s.t.toL).isSome = false ∧ 0 ≤ n ∧ s.used + n ≤ s.most) → lgAdd k n s = (s, false) := fun h1 => by
    unfold lgAdd
    split
    · rfl
    · rename_i hf; rw [if_neg (fun h2 => h1 ⟨by simpa using hf, h2⟩)]
  obtain ⟨X, hX⟩ : ∃ X, X = lgAdd k n s := ⟨_, rfl⟩
  rw [← hX] at ey en ⊢
  clear hX
  refine cortadoref24_Add_go _ _ _ _ _ _ (h.newR fun ga w h => ?_)
  obtain ⟨ha0, le0, ha, hh⟩ := Own.absorb h
  clear h
  have h := hh
  clear hh
  have hI := hI.mono le0
  refine h.newR fun g2 w h => ?_
  have h : Own e w (imm ha0 :: B24 g2 none 0 0 0 :: F) := h.swap
  refine ⟨_, _, _, _, ⟨h.immCell ha (i := 0) rfl, h.immCell ha (i := 1) rfl⟩, ?_⟩
  refine Rets.mono (rCost (k := k) (by omega) hI h) ?_
  clear h
  rintro _ w ⟨rfl, h⟩
  let S : World → Prop := fun w => Own e w (imm ha0 :: B24 g2 none 0 0 0 :: F)
  have h : S w := h
  refine ⟨_, _, rfl, fun vs w => ∃ b, vs = [.bool b] ∧ (b = false ↔ ((lfind k s.t.toL).isSome = false ∧ 0 ≤ n ∧ s.used + n ≤ s.most)) ∧ S w, Own.drw h fun w h => ⟨S, h, fun hf => ?_, fun hf => ?_⟩, ?_⟩
  · refine Rets.mono (rRight h) ?_
    clear h
    rintro _ w ⟨rfl, h⟩
    refine ⟨_, rfl, h, fun hb => ⟨_, fun w h => Own.immCell h ha (i := 1) rfl, _, _, _, _, ⟨fun w h => Own.immCell h ha (i := 0) rfl, fun w h => Own.immCell h ha (i := 1) rfl⟩, ?_⟩, fun hb => ?_⟩
    · have hb := rightB_t.1 (by simpa using hb)
      refine Rets.mono (rUsed o3 (by omega) (by omega) hI h) ?_
      clear h
      rintro _ w ⟨rfl, h⟩
      rw [o2]
      refine ⟨_, rfl, h, _, rfl, ?_, h⟩
      rw [wI64 (by omega) (by omega), decide_eq_false_iff_not]
      exact ⟨fun h1 => ⟨hf, hb.1, by omega⟩, fun h1 => by omega⟩
    · have hb := rightB_f.1 (by simpa using hb)
      exact ⟨_, rfl, ⟨fun h1 => (by cases h1), fun h1 => by omega⟩, h⟩
  · exact ⟨_, rfl, ⟨fun h1 => (by cases h1), fun h1 => (by rw [hf] at h1; cases h1.1)⟩, h⟩
  clear h
  rintro w
  intros
  rename_i b3 hI3
  obtain ⟨b, hvs, hb, h⟩ := hI3
  obtain rfl : b3 = b := by simpa using hvs
  have h : Own e w (imm ha0 :: B24 g2 none 0 0 0 :: F) := h
  refine ⟨fun hq => ?_, fun hq => ?_⟩
  · rw [en (fun h1 => by rw [hb.2 h1] at hq; cases hq)]
    refine ⟨_, _, _, _, ⟨h.immCell ha (i := 0) rfl, h.immCell ha (i := 1) rfl⟩, Own.stP' (g := g2) h (by repeat (first | with_reducible exact Pick.here | apply Pick.there)) (by simp) (by simp [Value.oneCell']) fun w h => ?_⟩
    simp only [setFrom, List.set_cons_zero, List.set_cons_succ, List.set_nil] at h
    refine ⟨_, _, _, _, ⟨Own.ld (g := g2) (k := 0) h (by repeat (first | with_reducible exact Pick.here | apply Pick.there)) rfl, Own.ld (g := g2) (k := 1) h (by repeat (first | with_reducible exact Pick.here | apply Pick.there)) rfl⟩, ?_⟩
    have h : Own e w (imm ha0 :: F) := (Own.sub (h) (by repeat (first | exact Sub.nil _ | exact Sub.rfl _ | (apply Sub.cons; focus ((repeat (first | with_reducible exact Pick.here | apply Pick.there)); done)) | apply Sub.drop)))
    exact ⟨ha0, _, _, rfl, le0, hI, hnc, h⟩
  · obtain ⟨y1, y2⟩ := hb.1 hq
    rw [ey y1 y2]
    refine ⟨_, _, _, _, ⟨h.immCell ha (i := 0) rfl, h.immCell ha (i := 1) rfl⟩, ?_⟩
    refine Rets.mono (rset (k := k) (n := n) o1 (by omega) hI h) ?_
    clear h
    rintro _ w ⟨h1, q1, c1, rfl, le1, hR, hnc, h⟩
    refine ⟨_, _, _, _, rfl, Own.stP' (g := g2) h (by repeat (first | with_reducible exact Pick.here | apply Pick.there)) (by simp) (by simp [Value.oneCell']) fun w h => ?_⟩
    simp only [setFrom, List.set_cons_zero, List.set_cons_succ, List.set_nil] at h
    refine ⟨_, _, _, _, ⟨Own.ld (g := g2) (k := 0) h (by repeat (first | with_reducible exact Pick.here | apply Pick.there)) rfl, Own.ld (g := g2) (k := 1) h (by repeat (first | with_reducible exact Pick.here | apply Pick.there)) rfl⟩, ?_⟩
    have h : Own e w (imm h1 :: F) := (Own.sub (h) (by repeat (first | exact Sub.nil _ | exact Sub.rfl _ | (apply Sub.cons; focus ((repeat (first | with_reducible exact Pick.here | apply Pick.there)); done)) | apply Sub.drop)))
    have ep := tput_toL k n s.t o1
    rw [← ep] at hR hnc ⊢
    exact ⟨h1, _, _, rfl, LeH.trans le0 le1, hR, hnc, h⟩
end
end Go.Proofs.YtajckpjlliiekaaDoor.Eng
