/- LedgerBound: for any limit and any steps the law answers true. -/
import Derived.Test.YtajckpjlliiekaaLgQ
import Derived.Test.YtajckpjlliiekaaLdbG
namespace Go.Proofs.Ytajckpjlliiekaa.Eng
open Go Go.RowKit Go.Proofs
set_option linter.unusedVariables false
set_option linter.unusedSimpArgs false
set_option maxRecDepth 1000000
abbrev encL (s : Int × Int × Int) : List Value := [.int .u64 s.1, .int .u64 s.2.1, .int .i64 s.2.2]
theorem encL_len (s : Int × Int × Int) : (encL s).length = 3 := rfl
section
variable {e w : World} {F : List HP} {h0 : Nat → Option Obj}
theorem ldAwake (h : Own e w (imm h0 :: F)) : Rets Try.prog 5 #[] w fun v w' => v = .bool true ∧ Own e w' (imm h0 :: F) := by
  refine cortadolaw24_awake_go ?_
  refine Rets.mono (ldNew (n := 10) h) ?_
  clear h
  rintro _ w ⟨g, rfl, h1, g1, le1, T1, h⟩
  rw [show cutI 10 = 10 by decide] at h
  have ok0 : LgOk ⟨.nil, 0, 10⟩ := LgOk.nil ⟨by decide, by decide⟩
  have e1 : lgAdd 1 6 ⟨.nil, 0, 10⟩ = (⟨.node 1 6 .nil .nil, 6, 10⟩, true) := rfl
  have e2 : lgAdd 2 5 ⟨.node 1 6 .nil .nil, 6, 10⟩ = (⟨.node 1 6 .nil .nil, 6, 10⟩, false) := rfl
  have e3 : lgMove 1 4 ⟨.node 1 6 .nil .nil, 6, 10⟩ = (⟨.node 1 4 .nil .nil, 4, 10⟩, true) := rfl
  have e4 : (lgAdd 2 5 ⟨.node 1 4 .nil .nil, 4, 10⟩).2 = true ∧ (lgAdd 2 5 ⟨.node 1 4 .nil .nil, 4, 10⟩).1.used = 9 := ⟨rfl, rfl⟩
  have ok1 := ok0.add (k := 1) (n := 6)
  rw [e1] at ok1
  have ok2 := ok1.move (k := 1) (n := 4)
  rw [e3] at ok2
  refine ⟨_, rfl, ?_⟩
  refine Rets.mono (ldAdd (k := 1) (n := 6) ok0 (by decide) T1 h) ?_
  clear h
  rintro _ w ⟨rfl, h2, g2, le2, T2, h⟩
  rw [e1] at h T2 ⊢
  refine ⟨_, rfl, fun _ => ?_, fun hc => (by cases hc)⟩
  refine Rets.mono (ldAdd (k := 2) (n := 5) ok1 (by decide) T2 h) ?_
  clear h
  rintro _ w ⟨rfl, h3, g3, le3, T3, h⟩
  rw [e2] at h T3 ⊢
  refine ⟨_, rfl, fun _ => ?_, fun hc => (by cases hc)⟩
  refine Rets.mono (ldMove (k := 1) (n := 4) ok1 (by decide) T3 h) ?_
  clear h
  rintro _ w ⟨rfl, h4, g4, le4, T4, h⟩
  rw [e3] at h T4 ⊢
  refine ⟨_, rfl, fun _ => ?_, fun hc => (by cases hc)⟩
  refine Rets.mono (ldAdd (k := 2) (n := 5) ok2 (by decide) T4 h) ?_
  clear h
  rintro _ w ⟨rfl, h5, g5, le5, T5, h⟩
  rw [e4.1]
  refine ⟨_, rfl, fun _ => ?_, fun hc => (by cases hc)⟩
  refine Rets.mono (ldUsed h) ?_
  clear h
  rintro _ w ⟨rfl, h⟩
  rw [e4.2]
  have h : Own e w (imm h5 :: F) := (Own.sub (h) (by repeat (first | exact Sub.nil _ | exact Sub.rfl _ | (apply Sub.cons; focus ((repeat (first | with_reducible exact Pick.here | apply Pick.there)); done)) | apply Sub.drop)))
  exact ⟨_, rfl, rfl, h.immLe (LeH.trans le1 (LeH.trans le2 (LeH.trans le3 (LeH.trans le4 le5))))⟩
end
/-- A step of the law. -/
def stepL (p : Int × Int × Int) (s : Lg) : Lg × Bool :=
  if Int.tmod p.1 7 = 3 then lgMove p.2.1 p.2.2 s
  else if Int.tmod p.1 7 = 4 then (lgDrop p.2.1 s, (lfind p.2.1 s.t.toL).isSome)
  else if Int.tmod p.1 7 = 5 then lgLimit p.2.2 s
  else if Int.tmod p.1 7 = 6 then (lgClear s, true)
  else lgAdd p.2.1 p.2.2 s
theorem stepL_ok {p : Int × Int × Int} {s : Lg} (h : LgOk s) : LgOk (stepL p s).1 := by
  unfold stepL
  split
  · exact h.move
  · split
    · exact h.drop
    · split
      · exact h.limit
      · split
        · exact h.clear
        · exact h.add
theorem stepL_size (p : Int × Int × Int) (s : Lg) : (stepL p s).1.t.size ≤ s.t.size + 1 := by
  unfold stepL
  split
  · exact lgMove_size _ _ _
  · split
    · exact lgDrop_size _ _
    · split
      · exact lgLimit_size _ _
      · split
        · exact Nat.zero_le _
        · exact lgAdd_size _ _ _
theorem stepL_no {p : Int × Int × Int} {s : Lg} (h : (stepL p s).2 = false) : (stepL p s).1 = s := by
  unfold stepL at h ⊢
  split at h
  · rename_i e; rw [if_pos e]
    unfold lgMove at h ⊢
    split at h
    · rename_i e1; rw [if_pos e1]
      split at h
      · cases h
      · rename_i e2; rw [if_neg e2]
    · rename_i e1; rw [if_neg e1]
  · rename_i e; rw [if_neg e]
    split at h
    · rename_i e1; rw [if_pos e1]
      have h : (lfind p.2.1 s.t.toL).isSome = false := h
      show lgDrop _ _ = _
      unfold lgDrop; rw [if_neg (by rw [h]; simp)]
    · rename_i e1; rw [if_neg e1]
      split at h
      · rename_i e2; rw [if_pos e2]
        unfold lgLimit at h ⊢
        split at h
        · cases h
        · rename_i e3; rw [if_neg e3]
      · rename_i e2; rw [if_neg e2]
        split at h
        · cases h
        · rename_i e3; rw [if_neg e3]
          unfold lgAdd at h ⊢
          split at h
          · rename_i e4; rw [if_pos e4]
          · rename_i e4; rw [if_neg e4]
            split at h
            · cases h
            · rename_i e5; rw [if_neg e5]
theorem sumV_drop {l : LE2} {i : Nat} (hi : i < l.length) : sumV (l.drop i) = l[i].2 + sumV (l.drop (i + 1)) := by
  rw [List.drop_eq_getElem_cons hi]; rfl
section
variable {W : World} {q : Option Addr} {c : Nat} {L : List (Int × Int × Int)} {n : Int}
theorem LedgerBound_spec (hnw : (Lit.int .i64 n).wf = true) (hb : RdC W q (L.flatMap encL)) (hm : L.length ≤ maxLen) (hc : L.length ≤ c) (hw : ∀ s ∈ L, (Lit.int .u64 s.1).wf = true ∧ (Lit.int .u64 s.2.1).wf = true ∧ (Lit.int .i64 s.2.2).wf = true) :
    Rets Try.prog 3 #[.int .i64 n, .slice q L.length c] W fun v w' => v = .bool true ∧ Below W.heap.size W w' := by
  refine Rets.mono (k := fun v w' => v = .bool true ∧ Own W w' [snap W]) ?_ (fun v w' h => ⟨h.1, h.2.below⟩)
  have h := Own.begin W
  rw [snap_imm] at h ⊢
  have aw : ∀ {h1 : Nat → Option Obj} {w}, LeH (fun b => W.heap[b]?) h1 → Own W w [imm h1] → Rets Try.prog 5 #[] w fun v w' => ∃ b, v = Value.bool b ∧ (Value.bool b) = .bool true ∧ Own W w' [imm (fun b => W.heap[b]?)] := fun le h => by
    refine Rets.mono (ldAwake h) ?_
    rintro _ w ⟨rfl, h⟩
    exact ⟨_, rfl, rfl, h.immLe le⟩
  refine cortadolaw24_LedgerBound_go _ _ _ _ ⟨fun hx => aw (LeH.refl _) h, fun hx => ?_⟩
  have hx := dec_f hx
  refine Rets.mono (ldNew (n := n) h) ?_
  clear h
  rintro _ w ⟨g, rfl, h1, g1, le1, T1, h⟩
  refine ⟨_, rfl, fun z vs w => ∃ (i : Nat) (s : Lg) (h1 : Nat → Option Obj) (g1 : Nat), vs = [.int .i64 (i : Int)] ∧ z + i = L.length ∧ LgOk s ∧ s.t.size ≤ i ∧ LeH (fun b => W.heap[b]?) h1 ∧ TreeA h1 s.t g1 ∧ Own W w [imm h1, ldB g g1 s.used s.most], ⟨L.length, 0, ⟨.nil, 0, cutI n⟩, h1, g1, rfl, rfl, LgOk.nil (cutI_bd n), Nat.le_refl _, le1, T1, h⟩, ?_⟩
  clear h T1 le1
  rintro z w v3 n1
  intros
  rename_i hI
  obtain ⟨i, s, h1, g1, hvs, hz, ok, hs, le1, T1, h⟩ := hI
  obtain rfl : n1 = (i : Int) := by simpa using hvs
  refine ⟨fun hc1 => ?_, fun hc1 => ?_⟩
  · have hc1 := dec_t hc1
    have hi : i < L.length := by omega
    have ei : IntKind.wrap .i64 ((i : Int) + 1) = ((i + 1 : Nat) : Int) := by rw [wI64 (by omega) (by omega)]; rfl
    obtain ⟨ad, rfl, hW⟩ := hb.rec encL_len hi (by omega)
    obtain ⟨p, hp⟩ : ∃ p, p = L[i] := ⟨_, rfl⟩
    have rd : ∀ {hx : Nat → Option Obj} {F w}, LeH (fun b => W.heap[b]?) hx → Own W w (imm hx :: F) → cellAt w ((ad.add (Int.toNat (i : Int) * 3)).add 0) (.int .u64 p.1) ∧ cellAt w ((ad.add (Int.toNat (i : Int) * 3)).add 1) (.int .u64 p.2.1) ∧ cellAt w ((ad.add (Int.toNat (i : Int) * 3)).add 2) (.int .i64 p.2.2) := fun hle h => by
      have h : Own W _ (snap W :: _) := h.immLe hle
      rw [Int.toNat_natCast, hp]
      exact ⟨h.snapCell (hW i hi 0 _ rfl), h.snapCell (hW i hi 1 _ rfl), h.snapCell (hW i hi 2 _ rfl)⟩
    refine Rets.mono (ldUsed h) ?_
    clear h
    rintro _ w ⟨rfl, h⟩
    refine ⟨_, rfl, ?_⟩
    refine Rets.mono (ldLen T1 h) ?_
    clear h
    rintro _ w ⟨rfl, h⟩
    refine ⟨_, rfl, ?_⟩
    refine Rets.mono (ldMost h) ?_
    clear h
    rintro _ w ⟨rfl, h⟩
    refine ⟨_, rfl, by omega, by omega, smR ⟨_, (rd le1 h).1, by omega, ?_⟩⟩
    have hfin : ∀ {b : Bool} {w s2}, stepL p s = (s2, b) → LD W [] h1 g s2 w → ∃ s2 h2 g2, stepL p s = (s2, b) ∧ LeH (fun b => W.heap[b]?) h2 ∧ TreeA h2 s2.t g2 ∧ Own W w [imm h2, ldB g g2 s2.used s2.most] := by
      rintro b w s2 e1 ⟨h2, g2, le2, T2, h⟩
      exact ⟨s2, h2, g2, e1, LeH.trans le1 le2, T2, h⟩
    refine ⟨fun vs w => ∃ b, vs = [.bool b] ∧ ∃ s2 h2 g2, stepL p s = (s2, b) ∧ LeH (fun b => W.heap[b]?) h2 ∧ TreeA h2 s2.t g2 ∧ Own W w [imm h2, ldB g g2 s2.used s2.most], ⟨fun hk => ?_, fun hk => ⟨fun hk2 => ?_, fun hk2 => ⟨fun hk3 => ?_, fun hk3 => ⟨fun hk4 => ?_, fun hk4 => ?_⟩⟩⟩⟩, ?_⟩
    · have hk := beq_t hk
      refine h.drw fun w h => ⟨by omega, by omega, smR ⟨by omega, by omega, smR ⟨_, (rd le1 h).2.1, _, (rd le1 h).2.2, ?_⟩⟩⟩
      refine Rets.mono (ldMove (k := p.2.1) (n := p.2.2) ok (by omega) T1 h) ?_
      clear h
      rintro _ w ⟨rfl, h⟩
      exact ⟨_, rfl, _, rfl, hfin (by unfold stepL; rw [if_pos hk]) h⟩
    · have hk := beq_f hk
      have hk2 := beq_t hk2
      refine ⟨by omega, by omega, smR ⟨_, (rd le1 h).2.1, ?_⟩⟩
      refine Rets.mono (ldDrop (k := p.2.1) ok (by omega) T1 h) ?_
      clear h
      rintro _ w ⟨rfl, h⟩
      exact ⟨_, _, rfl, _, rfl, hfin (by unfold stepL; rw [if_neg hk, if_pos hk2]) h⟩
    · have hk := beq_f hk
      have hk2 := beq_f hk2
      have hk3 := beq_t hk3
      refine ⟨by omega, by omega, smR ⟨_, (rd le1 h).2.2, ?_⟩⟩
      refine Rets.mono (ldLimit (n := p.2.2) T1 h) ?_
      clear h
      rintro _ w ⟨rfl, h⟩
      exact ⟨_, rfl, _, rfl, hfin (by unfold stepL; rw [if_neg hk, if_neg hk2, if_pos hk3]) h⟩
    · have hk := beq_f hk
      have hk2 := beq_f hk2
      have hk3 := beq_f hk3
      have hk4 := beq_t hk4
      refine Rets.mono (ldClear (s := s) h) ?_
      clear h
      rintro _ w ⟨rfl, h⟩
      exact ⟨rfl, _, rfl, hfin (by unfold stepL; rw [if_neg hk, if_neg hk2, if_neg hk3, if_pos hk4]) h⟩
    · have hk := beq_f hk
      have hk2 := beq_f hk2
      have hk3 := beq_f hk3
      have hk4 := beq_f hk4
      refine h.drw fun w h => ⟨by omega, by omega, smR ⟨by omega, by omega, smR ⟨_, (rd le1 h).2.1, _, (rd le1 h).2.2, ?_⟩⟩⟩
      refine Rets.mono (ldAdd (k := p.2.1) (n := p.2.2) ok (by omega) T1 h) ?_
      clear h
      rintro _ w ⟨rfl, h⟩
      exact ⟨_, rfl, _, rfl, hfin (by unfold stepL; rw [if_neg hk, if_neg hk2, if_neg hk3, if_neg hk4]) h⟩
    clear h
    rintro w b6
    intros
    rename_i hI
    obtain ⟨b, hvs, s2, h2, g2, est, le2, T2, h⟩ := hI
    obtain rfl : b6 = b := by simpa using hvs
    have ok2 : LgOk s2 := by have := stepL_ok (p := p) ok; rw [est] at this; exact this
    have hs2 : s2.t.size ≤ i + 1 := by have := stepL_size p s; rw [est] at this; simp only at this; omega
    have hsame : b6 = false → s2 = s := fun hb => by have := stepL_no (p := p) (s := s) (by rw [est]; exact hb); rw [est] at this; exact this
    have hnn := ok2.nn
    have ok2' := ok2
    obtain ⟨o1, o2, o3, o4, o5⟩ := ok2'
    have rest : ∀ {w : World} {K : Value → World → Prop}, (∀ {w}, Own W w [imm h2, ldB g g2 s2.used s2.most] → K (.bool false) w) → Own W w [imm h2, ldB g g2 s2.used s2.most] → Rets Try.prog 9 #[.pointer (some ⟨g, 0, none⟩)] w fun v w => ∃ n19, v = .int .i64 n19 ∧ Rets Try.prog 15 #[.int .i64 n19] w fun v w => ∃ b8, v = .bool b8 ∧ ((!b8) = false → Rets Try.prog 7 #[.pointer (some ⟨g, 0, none⟩)] w fun v w => ∃ n20, v = .int .i64 n20 ∧ Rets Try.prog 9 #[.pointer (some ⟨g, 0, none⟩)] w fun v w => ∃ n21, v = .int .i64 n21 ∧ K (.bool (decide (n20 > n21))) w) ∧ ((!b8) = true → K (.bool true) w) := by
      intro w K hK h
      refine Rets.mono (ldMost h) ?_
      clear h
      rintro _ w ⟨rfl, h⟩
      refine ⟨_, rfl, ?_⟩
      refine Rets.mono (rRight h) ?_
      clear h
      rintro _ w ⟨rfl, h⟩
      have hr : rightB s2.most = true := rightB_t.2 ⟨by omega, o5⟩
      rw [hr]
      refine ⟨_, rfl, fun _ => ?_, fun hb => (by cases hb)⟩
      refine Rets.mono (ldUsed h) ?_
      clear h
      rintro _ w ⟨rfl, h⟩
      refine ⟨_, rfl, ?_⟩
      refine Rets.mono (ldMost h) ?_
      clear h
      rintro _ w ⟨rfl, h⟩
      refine ⟨_, rfl, ?_⟩
      rw [show decide (s2.used > s2.most) = false from decide_eq_false (by omega)]
      exact hK h
    refine ⟨fun vs w => vs = [.bool false] ∧ Own W w [imm h2, ldB g g2 s2.used s2.most], ⟨fun hbn => ?_, fun hbn => ?_⟩, ?_⟩
    · have e0 := hsame (by simpa using hbn)
      refine Rets.mono (ldUsed h) ?_
      clear h
      rintro _ w ⟨rfl, h⟩
      refine ⟨_, rfl, fun _ => ?_, fun hq => (by rw [e0] at hq; simp at hq)⟩
      refine Rets.mono (ldLen T2 h) ?_
      clear h
      rintro _ w ⟨rfl, h⟩
      refine ⟨_, rfl, fun _ => ?_, fun hq => (by rw [e0] at hq; simp at hq)⟩
      refine Rets.mono (ldMost h) ?_
      clear h
      rintro _ w ⟨rfl, h⟩
      refine ⟨_, rfl, fun _ => ?_, fun hq => (by rw [e0] at hq; simp at hq)⟩
      exact rest (K := fun v w => [v] = [.bool false] ∧ Own W w [imm h2, ldB g g2 s2.used s2.most]) (fun h => ⟨rfl, h⟩) h
    · exact rest (K := fun v w => [v] = [.bool false] ∧ Own W w [imm h2, ldB g g2 s2.used s2.most]) (fun h => ⟨rfl, h⟩) h
    clear h rest
    rintro w
    intros
    rename_i b9 hI
    obtain ⟨hvs, h⟩ := hI
    obtain rfl : b9 = false := by simpa using hvs
    refine ⟨fun hb => (by cases hb), fun _ => ?_⟩
    refine Rets.mono (ldUsed h) ?_
    clear h
    rintro _ w ⟨rfl, h⟩
    have hsz := Tr.size_toL s2.t
    refine ⟨_, rfl, fun k vs w => ∃ j : Nat, vs = [.int .i64 (sumV (s2.t.toL.drop j)), .int .i64 (j : Int)] ∧ k + j = s2.t.size ∧ Own W w [imm h2, ldB g g2 s2.used s2.most], ⟨s2.t.size, 0, by rw [List.drop_zero, o2]; rfl, rfl, h⟩, ?_⟩
    clear h
    rintro z2 w v255 n23 n24
    intros
    rename_i hI
    obtain ⟨j, hvs, hz2, h⟩ := hI
    obtain ⟨rfl, rfl⟩ : n23 = sumV (s2.t.toL.drop j) ∧ n24 = (j : Int) := by simpa using hvs
    refine Rets.mono (ldLen T2 h) ?_
    clear h
    rintro _ w ⟨rfl, h⟩
    refine ⟨_, rfl, fun hc2 => ?_, fun hc2 => ?_⟩
    · have hc2 := dec_t hc2
      have hj : j < s2.t.toL.length := by omega
      have hat : s2.t.toL[j]? = some s2.t.toL[j] := List.getElem?_eq_getElem hj
      refine Rets.mono (ldAt (i := j) T2 (by omega) (by omega) h) ?_
      clear h
      rintro _ w ⟨rfl, h⟩
      rw [hat]
      refine ⟨_, _, rfl, ?_⟩
      refine Rets.mono (ldCost (k := s2.t.toL[j].1) T2 (by omega) o1 h) ?_
      clear h
      rintro _ w ⟨rfl, h⟩
      have hf := lfind_at o1 hj
      have hv : lval s2.t.toL[j].1 s2.t.toL = s2.t.toL[j].2 := by unfold lval; rw [hf]; rfl
      have h1n := o3 s2.t.toL[j] (List.getElem_mem hj)
      have h2n : 0 ≤ sumV (s2.t.toL.drop (j + 1)) := sumV_nn fun e he => o3 e (List.mem_of_mem_drop he)
      have hsd := sumV_drop hj
      have hle : sumV (s2.t.toL.drop j) ≤ s2.used := by
        have := sumV_app (s2.t.toL.take j) (s2.t.toL.drop j)
        rw [List.take_append_drop, o2] at this
        have h3n : 0 ≤ sumV (s2.t.toL.take j) := sumV_nn fun e he => o3 e (List.mem_of_mem_take he)
        omega
      rw [hv, hf]
      refine ⟨_, _, rfl, fun vs w => vs = [.bool false] ∧ Own W w [imm h2, ldB g g2 s2.used s2.most], ⟨fun _ => ⟨fun _ => ⟨?_, h⟩, fun hq => ?_⟩, fun hq => (by cases hq)⟩, ?_⟩
      · rw [show decide (s2.t.toL[j].2 > sumV (s2.t.toL.drop j)) = false from decide_eq_false (by omega)]
      · have := dec_t hq; omega
      clear h
      rintro w
      intros
      rename_i b12 hI
      obtain ⟨hvs, h⟩ := hI
      obtain rfl : b12 = false := by simpa using hvs
      refine ⟨fun hb => (by cases hb), fun _ => ⟨z2 - 1, by omega, j + 1, ?_, by omega, h⟩⟩
      rw [wI64 (by omega) (by omega), wI64 (by omega) (by omega), show sumV (s2.t.toL.drop j) - s2.t.toL[j].2 = sumV (s2.t.toL.drop (j + 1)) by omega]; rfl
    · have hc2 := dec_f hc2
      have h0 : sumV (s2.t.toL.drop j) = 0 := by rw [List.drop_of_length_le (by omega)]; rfl
      rw [h0, ei]
      exact ⟨fun hq => (by cases hq), fun _ => ⟨z - 1, by omega, i + 1, s2, h2, g2, rfl, by omega, ok2, hs2, le2, T2, h⟩⟩
  · refine Rets.mono (lnClear h) ?_
    clear h
    rintro _ w ⟨rfl, h⟩
    refine ⟨rfl, ?_⟩
    refine Rets.mono (lnCost h) ?_
    clear h
    rintro _ w ⟨rfl, h⟩
    refine ⟨_, _, rfl, ?_⟩
    refine Rets.mono (lnDrop h) ?_
    clear h
    rintro _ w ⟨rfl, h⟩
    refine ⟨_, _, rfl, ?_⟩
    refine Rets.mono (lnAt h) ?_
    clear h
    rintro _ w ⟨rfl, h⟩
    refine ⟨_, _, rfl, fun vs w => vs = [.bool true] ∧ Own W w [imm (fun b => W.heap[b]?)], ⟨fun _ => ⟨fun _ => ⟨fun _ => ?_, fun hq => (by cases hq)⟩, fun hq => (by cases hq)⟩, fun hq => (by cases hq)⟩, ?_⟩
    · refine Rets.mono (lnAdd h) ?_
      clear h
      rintro _ w ⟨rfl, h⟩
      refine ⟨_, rfl, fun _ => ?_, fun hq => (by cases hq)⟩
      refine Rets.mono (lnMove h) ?_
      clear h
      rintro _ w ⟨rfl, h⟩
      refine ⟨_, rfl, fun _ => ?_, fun hq => (by cases hq)⟩
      refine Rets.mono (lnLimit h) ?_
      clear h
      rintro _ w ⟨rfl, h⟩
      refine ⟨_, rfl, fun _ => ?_, fun hq => (by cases hq)⟩
      refine Rets.mono (lnUsed h) ?_
      clear h
      rintro _ w ⟨rfl, h⟩
      refine ⟨_, rfl, ?_⟩
      refine Rets.mono (lnMost h) ?_
      clear h
      rintro _ w ⟨rfl, h⟩
      refine ⟨_, rfl, ?_⟩
      refine Rets.mono (lnRoom h) ?_
      clear h
      rintro _ w ⟨rfl, h⟩
      refine ⟨_, rfl, ?_⟩
      refine Rets.mono (lnLen h) ?_
      clear h
      rintro _ w ⟨rfl, h⟩
      refine ⟨_, rfl, fun _ => ?_, fun hq => absurd hq (by decide)⟩
      have h : Own W w [imm h1] := (Own.sub (h) (by repeat (first | exact Sub.nil _ | exact Sub.rfl _ | (apply Sub.cons; focus ((repeat (first | with_reducible exact Pick.here | apply Pick.there)); done)) | apply Sub.drop)))
      refine Rets.mono (aw le1 h) ?_
      rintro _ w ⟨b, rfl, hb, h⟩
      exact ⟨_, rfl, by rw [hb], h⟩
    · clear h
      rintro w b20
      intros
      rename_i hI
      obtain ⟨hvs, h⟩ := hI
      obtain rfl : b20 = true := by simpa using hvs
      exact ⟨rfl, h⟩
end
end Go.Proofs.Ytajckpjlliiekaa.Eng
