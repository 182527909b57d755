/- Calls, read back from bytes: plain laws. -/
import Derived.Test.YtppmdifhoejhjaaProS
import Derived.Test.YtppmdifhoejhjaaTapeB
namespace Go.Proofs.Ytppmdifhoejhjaa.Eng
open Go Go.RowKit Go.Proofs
set_option linter.unusedVariables false
set_option linter.unusedSimpArgs false
set_option maxRecDepth 1000000
def cStep (bs : List Int) (s : List Int × Nat) (p : Nat) : List Int × Nat := (s.1.set p (tInt bs s.2).1, (tInt bs s.2).2)
def cSt (k : Int) (bs : List Int) (a i : Nat) : List Int × Nat := ((pls k).take i).foldl (cStep bs) ([k, 0, 0, 0, 0], a)
def rdCall (bs : List Int) (a : Nat) : List Int × Nat := if knownB (tbV bs a) = true then cSt (tbV bs a) bs (tbA bs a) (pls (tbV bs a)).length else ([0, 0, 0, 0, 0], tbA bs a)
def to5 (l : List Int) : Op5 := (l.getD 0 0, l.getD 1 0, l.getD 2 0, l.getD 3 0, l.getD 4 0)
def rdN (bs : List Int) : Nat → Nat → List Op5 × Nat
  | 0, a => ([], a)
  | n + 1, a => ((rdN bs n a).1 ++ [to5 (rdCall bs (rdN bs n a).2).1], (rdCall bs (rdN bs n a).2).2)
def rdProg (bs : List Int) (a : Nat) : List Op5 × Nat := rdN bs (tbV bs a % 25).toNat (tbA bs a)
theorem opL_to5 {l : List Int} (h : l.length = 5) : opL (to5 l) = l := by
  obtain ⟨a, b, c, d, e, rfl⟩ := five h; rfl
theorem to5_opL (x : Op5) : to5 (opL x) = x := rfl
theorem encO_opV (x : Op5) : encO x = opV (opL x) := rfl
theorem cStep_len (bs : List Int) (s : List Int × Nat) (p : Nat) : (cStep bs s p).1.length = s.1.length := by simp [cStep]
theorem foldc_len (bs : List Int) : ∀ (ps : List Nat) (s : List Int × Nat), (ps.foldl (cStep bs) s).1.length = s.1.length
  | [], s => rfl
  | p :: r, s => by rw [List.foldl_cons, foldc_len bs r, cStep_len]
theorem cSt_len (k : Int) (bs : List Int) (a i : Nat) : (cSt k bs a i).1.length = 5 := foldc_len bs _ _
theorem cSt_succ {k : Int} {bs : List Int} {a i : Nat} (h : i < (pls k).length) : cSt k bs a (i + 1) = cStep bs (cSt k bs a i) (pls k)[i] := by
  unfold cSt
  rw [List.take_succ_eq_append_getElem h, List.foldl_append]; rfl
theorem foldc_le {bs : List Int} : ∀ (ps : List Nat) (s : List Int × Nat), s.2 ≤ bs.length → (ps.foldl (cStep bs) s).2 ≤ bs.length
  | [], s, h => h
  | p :: r, s, h => by rw [List.foldl_cons]; exact foldc_le r _ (tInt_le h)
theorem cSt_le {k : Int} {bs : List Int} {a : Nat} (h : a ≤ bs.length) (i : Nat) : (cSt k bs a i).2 ≤ bs.length := foldc_le _ _ h
theorem rdCall_len (bs : List Int) (a : Nat) : (rdCall bs a).1.length = 5 := by unfold rdCall; split; exact cSt_len _ _ _ _; rfl
theorem rdCall_le {bs : List Int} {a : Nat} (h : a ≤ bs.length) : (rdCall bs a).2 ≤ bs.length := by
  unfold rdCall; split
  · exact cSt_le (tbA_le h) _
  · exact tbA_le h
theorem rdN_le {bs : List Int} {a : Nat} (h : a ≤ bs.length) : ∀ n, (rdN bs n a).2 ≤ bs.length
  | 0 => h
  | n + 1 => rdCall_le (rdN_le h n)
theorem rdN_len (bs : List Int) (a : Nat) : ∀ n, (rdN bs n a).1.length = n
  | 0 => rfl
  | n + 1 => by simp [rdN, rdN_len bs a n]
theorem rdProg_le {bs : List Int} {a : Nat} (h : a ≤ bs.length) : (rdProg bs a).2 ≤ bs.length := rdN_le (tbA_le h) _
/-- What is read is right. -/
theorem rdCall_right (bs : List Int) (a : Nat) : rightB (to5 (rdCall bs a).1) = true := by
  unfold rdCall
  split
  · rename_i hk
    have hk' : 0 ≤ tbV bs a ∧ tbV bs a ≤ 7 := of_decide_eq_true hk
    generalize tbV bs a = k at hk hk'
    generalize tbA bs a = b
    obtain h | h | h | h | h | h | h | h : k = 0 ∨ k = 1 ∨ k = 2 ∨ k = 3 ∨ k = 4 ∨ k = 5 ∨ k = 6 ∨ k = 7 := by omega
    all_goals subst h
    all_goals simp [cSt, pls, cStep, to5, rightB, knownB, bareL, outsL, opL]
  · rfl
theorem rdN_right (bs : List Int) (a : Nat) : ∀ n, (rdN bs n a).1.all rightB = true
  | 0 => rfl
  | n + 1 => by
    show ((rdN bs n a).1 ++ [to5 (rdCall bs (rdN bs n a).2).1]).all rightB = true
    rw [List.all_append, rdN_right bs a n]
    simp [rdCall_right]
theorem rdProg_fine (bs : List Int) (a : Nat) : fineB (rdProg bs a).1 = true := by
  unfold fineB rdProg
  rw [rdN_right, rdN_len]
  simp; omega
/-- A call that was put is read. -/
theorem foldc_put (src : List Int) : ∀ (ps : List Nat) (l pre post : List Int), (∀ p ∈ ps, -9223372036854775808 ≤ src.getD p 0 ∧ src.getD p 0 ≤ 9223372036854775807) →
    ps.foldl (cStep (pre ++ putL (ps.map fun p => src.getD p 0) ++ post)) (l, pre.length) = (ps.foldl (fun l p => l.set p (src.getD p 0)) l, (pre ++ putL (ps.map fun p => src.getD p 0)).length)
  | [], l, pre, post, h => by simp [putL]
  | p :: r, l, pre, post, h => by
    have h1 : pre ++ putL ((p :: r).map fun p => src.getD p 0) ++ post = (pre ++ putN (src.getD p 0)) ++ putL (r.map fun p => src.getD p 0) ++ post := by
      simp [putL, List.append_assoc]
    have h2 := tInt_put (h p (by simp)) pre (putL (r.map fun p => src.getD p 0) ++ post)
    rw [h1, List.foldl_cons, List.foldl_cons]
    have h3 : cStep (pre ++ putN (src.getD p 0) ++ putL (r.map fun p => src.getD p 0) ++ post) (l, pre.length) p = (l.set p (src.getD p 0), (pre ++ putN (src.getD p 0)).length) := by
      unfold cStep
      simp only
      rw [List.append_assoc (pre ++ putN (src.getD p 0)), h2]
    rw [h3, foldc_put src r _ (pre ++ putN (src.getD p 0)) post (fun q hq => h q (List.mem_cons_of_mem _ hq))]
    congr 2
    simp [putL, List.append_assoc]
def op64 (x : Op5) : Prop := ∀ p, -9223372036854775808 ≤ (opL x).getD p 0 ∧ (opL x).getD p 0 ≤ 9223372036854775807
theorem rdCall_put {x : Op5} (h : rightB x = true) (h64 : op64 x) (pre post : List Int) : rdCall (pre ++ encB x ++ post) pre.length = (opL x, (pre ++ encB x).length) := by
  unfold rightB at h
  rw [Bool.and_eq_true] at h
  obtain ⟨hk, hb⟩ := h
  have hb := of_decide_eq_true hb
  have e0 : pre ++ encB x ++ post = pre ++ x.1 :: (putL (ownL x) ++ post) := by simp [encB]
  have e1 : tbV (pre ++ encB x ++ post) pre.length = x.1 := by rw [e0]; exact tbV_app
  have e2 : tbA (pre ++ encB x ++ post) pre.length = pre.length + 1 := by rw [e0]; exact tbA_app
  unfold rdCall
  rw [e1, e2, if_pos hk]
  unfold cSt
  rw [List.take_length]
  have h1 := foldc_put (opL x) (pls x.1) [x.1, 0, 0, 0, 0] (pre ++ [x.1]) post (fun p _ => h64 p)
  have e3 : pre ++ [x.1] ++ putL ((pls x.1).map fun p => (opL x).getD p 0) ++ post = pre ++ encB x ++ post := by
    simp [encB, ownL, valsL]
  rw [e3, List.length_append, List.length_singleton] at h1
  rw [h1]
  have e4 : (pls x.1).foldl (fun l p => l.set p ((opL x).getD p 0)) [x.1, 0, 0, 0, 0] = opL x := by
    have : bareL (opL x) = (pls x.1).foldl (fun l p => l.set p ((opL x).getD p 0)) [x.1, 0, 0, 0, 0] := by
      unfold bareL
      show (if knownB x.1 = true then outsL x.1 (opL x) (pls x.1).length else _) = _
      rw [if_pos hk]
      unfold outsL
      rw [List.take_length]
    rw [← this]; exact hb
  rw [e4]
  congr 1
  have : (pre ++ encB x).length = (pre ++ [x.1] ++ putL ((pls x.1).map fun p => (opL x).getD p 0)).length := by simp [encB, ownL, valsL]
  rw [this]
theorem rdN_put {l : List Op5} (h : ∀ x ∈ l, rightB x = true) (h64 : ∀ x ∈ l, op64 x) (pre : List Int) (i : Nat) (hi : i ≤ l.length) : rdN (pre ++ l.flatMap encB) i pre.length = (l.take i, (pre ++ (l.take i).flatMap encB).length) := by
  induction i with
  | zero => simp [rdN]
  | succ i ih =>
    have hl : i < l.length := by omega
    unfold rdN
    rw [ih (by omega)]
    simp only
    have e1 : pre ++ l.flatMap encB = (pre ++ (l.take i).flatMap encB) ++ encB l[i] ++ (l.drop (i + 1)).flatMap encB := by
      have : l = l.take i ++ (l[i] :: l.drop (i + 1)) := by rw [← List.drop_eq_getElem_cons hl, List.take_append_drop]
      have e2 : l.flatMap encB = (l.take i ++ (l[i] :: l.drop (i + 1))).flatMap encB := congrArg (fun z => z.flatMap encB) this
      rw [e2, List.flatMap_append, List.flatMap_cons]
      simp only [List.append_assoc]
    rw [e1, rdCall_put (h _ (List.getElem_mem hl)) (h64 _ (List.getElem_mem hl)), to5_opL, List.take_succ_eq_append_getElem hl, List.flatMap_append]
    simp only [List.flatMap_cons, List.flatMap_nil, List.append_nil, List.append_assoc]
theorem rdProg_put {l : List Op5} (h : fineB l = true) (h64 : ∀ x ∈ l, op64 x) : rdProg (putP l) 0 = (l, (putP l).length) := by
  have hl := fine_len h
  unfold fineB at h
  rw [Bool.and_eq_true, List.all_eq_true] at h
  have e1 : tbV (putP l) 0 = (l.length : Int) := tbV_app (pre := [])
  have e2 : tbA (putP l) 0 = 1 := tbA_app (pre := [])
  unfold rdProg
  rw [e1, e2]
  have e3 : ((l.length : Int) % 25).toNat = l.length := by omega
  rw [e3]
  have := rdN_put h.2 h64 [(l.length : Int)] l.length (Nat.le_refl _)
  rw [List.take_length] at this
  exact this
theorem encB_bd {x : Op5} (h : rightB x = true) : ∀ y ∈ encB x, 0 ≤ y ∧ y < 256 := by
  unfold rightB at h
  rw [Bool.and_eq_true] at h
  have hk : 0 ≤ x.1 ∧ x.1 ≤ 7 := of_decide_eq_true h.1
  intro y hy
  rcases List.mem_cons.1 hy with rfl | hy
  · omega
  · exact putL_bd _ _ hy
theorem putP_bd {l : List Op5} (h : fineB l = true) : ∀ y ∈ putP l, 0 ≤ y ∧ y < 256 := by
  have hl := fine_len h
  unfold fineB at h
  rw [Bool.and_eq_true, List.all_eq_true] at h
  intro y hy
  rcases List.mem_cons.1 hy with rfl | hy
  · omega
  · obtain ⟨x, hx, hy⟩ := List.mem_flatMap.1 hy
    exact encB_bd (h.2 x hx) y hy
end Go.Proofs.Ytppmdifhoejhjaa.Eng
