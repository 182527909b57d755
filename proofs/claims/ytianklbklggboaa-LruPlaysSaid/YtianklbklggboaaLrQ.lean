/- The document's row of keys: what each function does, in memory that never changes. -/
import Derived.Test.YtianklbklggboaaLrP
import Derived.Test.YtianklbklggboaaEngA
import Derived.Test.YtianklbklggboaaLrqG
namespace Go.Proofs.Ytianklbklggboaa.Eng
open Go Go.RowKit Go.Proofs
set_option linter.unusedVariables false
set_option linter.unusedSimpArgs false
set_option linter.unusedSectionVars false
set_option maxRecDepth 1000000
abbrev R3 := Row Int
abbrev enc3 (x : R3) : List Value := [.int .i64 x.1, .int .i64 x.2.1, .int .i64 x.2.2]
theorem enc3_len (x : R3) : (enc3 x).length = 3 := rfl
abbrev E3 (l : List R3) : List Value := l.flatMap enc3
theorem E3_len (l : List R3) : (E3 l).length = l.length * 3 := flat_len enc3_len l
theorem E3_one (l : List R3) : ∀ u ∈ E3 l, u.oneCell' = true := fun u hu => by
  obtain ⟨x, _, hu⟩ := List.mem_flatMap.1 hu
  simp at hu; rcases hu with rfl | rfl | rfl <;> rfl
theorem E3_app (a b : List R3) : E3 (a ++ b) = E3 a ++ E3 b := List.flatMap_append
/-- What may be read for ever. -/
def ImR (h0 : Nat → Option Obj) (q : Option Addr) (us : List Value) : Prop := ∀ e w F, Own e w (imm h0 :: F) → RdC w q us
theorem ImR.mono {h0 h1 : Nat → Option Obj} {q : Option Addr} {us : List Value} (hle : LeH h0 h1) (h : ImR h0 q us) : ImR h1 q us := fun e w F ho => h e w F (ho.immLe hle)
theorem Own.slImm {e w : World} {F : List HP} {h0 : Nat → Option Obj} {T : TypeId} {s n c : Nat} {q : Option Addr} {xs : List Value} (h : Own e w (slO T s q n c xs :: imm h0 :: F)) : ∃ h1, LeH h0 h1 ∧ ImR h1 q xs ∧ n ≤ c ∧ Own e w (imm h1 :: F) := by
  have hnc := h.slFacts.2.1
  rcases h.slCases with ⟨rfl, rfl, rfl, rfl⟩ | ⟨g, rest, rfl, hl, h⟩
  · exact ⟨h0, LeH.refl _, fun e w F ho => .inl rfl, hnc, h.drop⟩
  · obtain ⟨h1, le1, hg, h⟩ := Own.absorb h
    refine ⟨h1, le1, fun e w F ho => .inr ⟨_, rfl, fun j u hj => ?_⟩, hnc, h⟩
    exact ho.immCell (vs := xs ++ rest) hg (by rw [List.getElem?_append_left (List.getElem?_eq_some_iff.1 hj).1]; exact hj)
theorem slc3 {w : World} {q : Option Addr} {us : List Value} {m : Nat} (h : RdC w q us) (hm : us.length ≤ m * 3) : RdC w (slcA q 0 m 3) us := by
  rcases h.slice (l := 0) (m := m) (z := 3) (by omega) with h1 | h1
  · rw [Nat.zero_mul, List.drop_zero] at h1; exact h1
  · left
    exact List.eq_nil_of_length_eq_zero (by omega)
theorem E3_take (l : List R3) (j : Nat) : E3 (l.take j) = (E3 l).take (j * 3) := by
  by_cases hj : j ≤ l.length
  · have e1 : E3 l = E3 (l.take j) ++ E3 (l.drop j) := by rw [← E3_app, List.take_append_drop]
    have e2 : (E3 (l.take j)).length = j * 3 := by rw [E3_len, List.length_take]; omega
    rw [e1, List.take_append_of_le_length (by omega)]
    exact (List.take_of_length_le (by omega)).symm
  · have e2 : l.take j = l := List.take_of_length_le (by omega)
    rw [e2]
    exact (List.take_of_length_le (by rw [E3_len]; omega)).symm
section
variable {e w : World} {F : List HP} {h0 : Nat → Option Obj} {q : Option Addr} {L : List R3} {c : Nat} {k most : Int}
theorem ImR.adr3 (hI : ImR h0 q (E3 L)) {i : Nat} (hi : i < L.length) (h : Own e w (imm h0 :: F)) : ∃ ad, q = some ad ∧ ∀ e w F, Own e w (imm h0 :: F) → cellAt w ((ad.add (Int.toNat (i : Int) * 3)).add 0) (.int .i64 L[i].1) ∧ cellAt w ((ad.add (Int.toNat (i : Int) * 3)).add 1) (.int .i64 L[i].2.1) ∧ cellAt w ((ad.add (Int.toNat (i : Int) * 3)).add 2) (.int .i64 L[i].2.2) := by
  obtain ⟨ad, rfl, hc⟩ := (hI e w F h).rec enc3_len hi (by omega)
  refine ⟨ad, rfl, fun e w F h => ?_⟩
  obtain ⟨ad', ea, hc⟩ := (hI e w F h).rec enc3_len hi (by omega)
  cases ea
  rw [Int.toNat_natCast]
  exact ⟨hc i hi 0 _ rfl, hc i hi 1 _ rfl, hc i hi 2 _ rfl⟩
theorem app3 {K : Value → World → Prop} {q2 : Option Addr} {m c2 : Nat} {ys : List R3} (hn : L.length + ys.length ≤ 100000) (hm : m = ys.length) (hr : RdC w q2 (E3 ys)) (h : Own e w (slO 39 3 q L.length c (E3 L) :: F))
    (hk : ∀ q' c' w', Own e w' (slO 39 3 q' (L ++ ys).length c' (E3 (L ++ ys)) :: F) → K (.slice q' (L ++ ys).length c') w') :
    RunR Try.prog (builtinV .append #[35, 35] 35 #[.slice q L.length c, .slice q2 m c2]) w K := by
  subst hm
  refine Own.append (z := [.int .i64 0, .int .i64 0, .int .i64 0]) (b := 24) (m := ys.length) h (by kernel_rfl) (by kernel_rfl) (by kernel_rfl) (by kernel_rfl) (by kernel_rfl) (by omega) hr (E3_len ys) (E3_one ys) (by unfold maxLen; omega) (by omega) fun q' c' w h _ => ?_
  have e1 : L.length + ys.length = (L ++ ys).length := by simp
  rw [e1, ← E3_app] at h
  rw [e1]
  exact hk q' c' w h
theorem cut3 {i : Nat} (hi : i < L.length) : L = L.take i ++ L[i] :: L.drop (i + 1) := by rw [List.getElem_cons_drop, List.take_append_drop]
theorem lkp_app {a b : List R3} (ha : ∀ x ∈ a, x.1 ≠ k) : lkp (a ++ b) k = lkp b k := by
  unfold lkp
  rw [List.find?_append, List.find?_eq_none.2 (fun x hx => by simpa using ha x hx)]; rfl
theorem drp_snoc (a : List R3) (x : R3) : drp (a ++ [x]) k = drp a k ++ if x.1 = k then [] else [x] := by
  unfold drp
  rw [List.filter_append]
  by_cases h : x.1 = k
  · simp [h]
  · simp [h]
theorem r2Right {n : Int} {K : Value → World → Prop} (h : K (.bool (decide (0 ≤ n ∧ n ≤ 4611686018427387904))) w) : Rets Try.prog 26 #[.int .i64 n] w K := by
  refine cortadoref02_Right_go _ ⟨fun h1 => ?_, fun h1 => ?_⟩
  · have h1 := dec_t h1
    have : decide (0 ≤ n ∧ n ≤ 4611686018427387904) = decide (n ≤ 4611686018427387904) := by
      apply decide_eq_decide.2; omega
    rw [this] at h; exact h
  · have h1 := dec_f h1
    have : decide (0 ≤ n ∧ n ≤ 4611686018427387904) = false := decide_eq_false (by omega)
    rw [this] at h; exact h
theorem r2Cut {n : Int} {K : Value → World → Prop} (h : K (.int .i64 (lcut n)) w) : Rets Try.prog 11 #[.int .i64 n] w K := by
  refine cortadoref02_Cut_go _ ⟨fun h1 => ?_, fun h1 => r2Right ⟨_, rfl, fun h2 => ?_, fun h2 => ?_⟩⟩
  · have h1 := dec_t h1
    have e1 : lcut n = 0 := by unfold lcut maxI minI; split <;> split <;> omega
    rw [e1] at h; exact h
  · simp at h1 h2
    have e1 : lcut n = 4611686018427387904 := by unfold lcut maxI minI; split <;> split <;> omega
    rw [e1] at h; exact h
  · simp at h1 h2
    have e1 : lcut n = n := by unfold lcut maxI minI; split <;> split <;> omega
    rw [e1] at h; exact h
theorem r49Get (hl : L.length ≤ 1000) (hI : ImR h0 q (E3 L)) (h : Own e w (imm h0 :: F)) : Rets Try.prog 27 #[.slice q L.length c, .int .i64 k] w fun v w' => v = .tuple #[.int .i64 (lval (lkp L k)), .bool (lkp L k).isSome] ∧ w' = w := by
  refine cortadoref49_Get_go _ _ _ _ ⟨fun z vs w' => ∃ (i : Nat), vs = [.int .i64 (i : Int)] ∧ z + i = L.length ∧ (∀ x ∈ L.take i, x.1 ≠ k) ∧ w' = w, ⟨L.length, 0, rfl, rfl, fun x hx => (by cases hx), rfl⟩, ?_⟩
  intro z w'
  intros
  rename_i hI2
  obtain ⟨i, hvs, hz, hno, rfl⟩ := hI2
  simp at hvs
  subst hvs
  refine ⟨fun hc => ?_, fun hc => ?_⟩
  · have hc := dec_t hc
    have hi : i < L.length := by omega
    obtain ⟨ad, rfl, rd⟩ := hI.adr3 hi h
    have et : L.take (i + 1) = L.take i ++ [L[i]] := take_step hi
    refine ⟨by omega, hc, smR ⟨_, (rd _ _ _ h).1, fun hn => ?_, fun hn => ?_⟩⟩
    · have hn := beq_t hn
      have ec := cut3 hi
      have ef : lkp (L.take i ++ L[i] :: L.drop (i + 1)) k = some L[i] := by
        rw [lkp_app hno]; unfold lkp; rw [List.find?_cons_of_pos (by simpa using hn)]
      rw [← ec] at ef
      rw [ef]
      exact ⟨by omega, hc, smR ⟨_, (rd _ _ _ h).2.1, rfl, rfl⟩⟩
    · have hn := beq_f hn
      refine ⟨z - 1, by omega, i + 1, by rw [wI64 (by omega) (by omega)]; rfl, by omega, fun y hy => ?_, rfl⟩
      rw [et] at hy
      rcases List.mem_append.1 hy with hy | hy
      · exact hno y hy
      · rw [List.mem_singleton.1 hy]; exact hn
  · have hc := dec_f hc
    obtain rfl : i = L.length := by omega
    rw [List.take_length] at hno
    have ef : lkp L k = none := List.find?_eq_none.2 fun x hx => by simpa using hno x hx
    rw [ef]
    exact ⟨rfl, rfl⟩
abbrev R49 (e : World) (F : List HP) (h0 : Nat → Option Obj) (l : List R3) (v : Value) (w' : World) : Prop := ∃ (h1 : Nat → Option Obj) (q : Option Addr) (c : Nat), v = .slice q l.length c ∧ LeH h0 h1 ∧ ImR h1 q (E3 l) ∧ l.length ≤ c ∧ Own e w' (imm h1 :: F)
theorem r49Drop (hl : L.length ≤ 1000) (hI : ImR h0 q (E3 L)) (h : Own e w (imm h0 :: F)) : Rets Try.prog 29 #[.slice q L.length c, .int .i64 k] w (R49 e F h0 (drp L k)) := by
  refine cortadoref49_Drop_go _ _ _ _ ⟨fun z vs w => ∃ (i : Nat) (q' : Option Addr) (c' : Nat), vs = [.slice q' (drp (L.take i) k).length c', .int .i64 (i : Int)] ∧ z + i = L.length ∧ Own e w (slO 39 3 q' (drp (L.take i) k).length c' (E3 (drp (L.take i) k)) :: imm h0 :: F), ⟨L.length, 0, none, 0, rfl, rfl, h.slNil⟩, ?_⟩
  clear h
  intro z w q1 k3 k4 n1
  intros
  rename_i hI2
  obtain ⟨i, q', c', hvs, hz, h⟩ := hI2
  simp at hvs
  obtain ⟨⟨rfl, hk3, rfl⟩, rfl⟩ := hvs
  subst hk3
  refine ⟨fun hc => ?_, fun hc => ?_⟩
  · have hc := dec_t hc
    have hi : i < L.length := by omega
    have ei : IntKind.wrap .i64 ((i : Int) + 1) = ((i + 1 : Nat) : Int) := by rw [wI64 (by omega) (by omega)]; rfl
    rw [ei]
    obtain ⟨ad, rfl, rd⟩ := hI.adr3 hi h.drop
    have et : L.take (i + 1) = L.take i ++ [L[i]] := take_step hi
    have d3 := drp_snoc (k := k) (L.take i) L[i]
    rw [← et] at d3
    have hdl : (drp (L.take i) k).length ≤ 1000 := Nat.le_trans drp_len (by rw [List.length_take]; omega)
    have rd0 := rd _ _ _ h.swap
    have rd0 := rd _ _ _ h.drop
    generalize L[i] = x at rd rd0 d3
    refine ⟨by omega, hc, smR ⟨_, rd0.1, fun hn => ?_, fun hn => ?_⟩⟩
    · have hn := bool_ne hn
      rw [if_neg hn] at d3
      refine ⟨by omega, hc, smR ⟨_, _, _, ⟨rd0.1, rd0.2.1, rd0.2.2⟩, h.newR fun g w h => ?_⟩⟩
      have hsrc : RdC w (some ⟨g, 0, none⟩) (E3 [x]) := by
        have := h.blkRd
        simpa [E3] using this
      have h := h.drop
      refine app3 (ys := [x]) (by simp; omega) rfl hsrc h fun q3 c3 w h => ⟨_, _, _, rfl, z - 1, by omega, i + 1, q3, c3, ?_, by omega, ?_⟩
      · rw [d3]
      · rw [d3]; exact h
    · have hn := bool_eq hn
      rw [if_pos hn, List.append_nil] at d3
      refine ⟨z - 1, by omega, i + 1, q1, k4, ?_, by omega, ?_⟩
      · rw [d3]
      · rw [d3]; exact h
  · have hc := dec_f hc
    obtain rfl : i = L.length := by omega
    rw [List.take_length] at h ⊢
    obtain ⟨h1, le1, hR, hnc, h⟩ := h.slImm
    exact ⟨h1, _, _, rfl, le1, hR, hnc, h⟩
theorem fst1_cons {l r : List R3} {x : R3} (hl : ∀ y ∈ l, y.1 ≠ k) (hx : x.1 = k) : fst1 (l ++ x :: r) k = x :: drp (l ++ x :: r) k := by
  have : lkp (l ++ x :: r) k = some x := by
    rw [lkp_app hl]; unfold lkp; rw [List.find?_cons_of_pos (by simpa using hx)]
  unfold fst1; rw [this]
theorem r49First (hl : L.length ≤ 1000) (hlc : L.length ≤ c) (hI : ImR h0 q (E3 L)) (h : Own e w (imm h0 :: F)) : Rets Try.prog 28 #[.slice q L.length c, .int .i64 k] w (R49 e F h0 (fst1 L k)) := by
  refine cortadoref49_First_go _ _ _ _ ⟨fun z vs w' => ∃ (i : Nat), vs = [.int .i64 (i : Int)] ∧ z + i = L.length ∧ (∀ x ∈ L.take i, x.1 ≠ k) ∧ w' = w, ⟨L.length, 0, rfl, rfl, fun x hx => (by cases hx), rfl⟩, ?_⟩
  intro z w'
  intros
  rename_i hI2
  obtain ⟨i, hvs, hz, hno, rfl⟩ := hI2
  simp at hvs
  subst hvs
  refine ⟨fun hc => ?_, fun hc => ?_⟩
  · have hc := dec_t hc
    have hi : i < L.length := by omega
    obtain ⟨ad, rfl, rd⟩ := hI.adr3 hi h
    have et : L.take (i + 1) = L.take i ++ [L[i]] := take_step hi
    have ec := cut3 hi
    have rd0 := rd _ _ _ h
    generalize L[i] = x at rd rd0 ec et
    refine ⟨by omega, hc, smR ⟨_, rd0.1, fun hn => ?_, fun hn => ?_⟩⟩
    · have hn := beq_t hn
      have ef : fst1 L k = x :: drp L k := by
        have := fst1_cons (r := L.drop (i + 1)) hno hn
        rw [← ec] at this; exact this
      have hdl : (drp L k).length ≤ 1000 := Nat.le_trans drp_len hl
      have app : ∀ {w g h1 q1 c1} {K : Value → World → Prop}, LeH h0 h1 → ImR h1 q1 (E3 (drp L k)) → Own e w (blk g 39 (enc3 x) :: imm h1 :: F) → (∀ v w, (∃ F', Own e w (imm h0 :: F')) → R49 e F h0 (fst1 L k) v w → K v w) → RunR Try.prog (builtinV .append #[35, 35] 35 #[.slice (some ⟨g, 0, none⟩) 1 1, .slice q1 (drp L k).length c1]) w K := fun {w g h1 q1 c1 K} le1 hR1 h hk => by
        have hs : Own e w (slO 39 3 (some ⟨g, 0, none⟩) 1 1 (E3 [x]) :: imm h1 :: F) := Own.slMk (rest := []) rfl (Nat.le_refl _) (by unfold maxLen; omega) rfl h
        refine app3 (L := [x]) (ys := drp L k) (by simp; omega) rfl (hR1 _ _ _ hs.drop) hs fun q' c' w h => ?_
        rw [← show fst1 L k = [x] ++ drp L k from ef] at h ⊢
        obtain ⟨h2, le2, hR, hnc, h⟩ := h.slImm
        exact hk _ _ ⟨_, h.immLe (LeH.trans le1 le2)⟩ ⟨h2, _, _, rfl, LeH.trans le1 le2, hR, hnc, h⟩
      refine h.drw fun w h => ⟨fun w => ∃ F', Own e w (imm h0 :: F'), ⟨_, h⟩, by omega, hc, smR ⟨_, _, _, ⟨fun w ⟨F', h⟩ => (rd _ _ _ h).1, fun w ⟨F', h⟩ => (rd _ _ _ h).2.1, fun w ⟨F', h⟩ => (rd _ _ _ h).2.2⟩, ?_, ?_⟩⟩
      · refine h.newR fun g w h => ⟨⟨_, h.swap⟩, Rets.mono (r49Drop hl hI h.swap) ?_⟩
        rintro _ w ⟨h1, q1, c1, rfl, le1, hR1, hc1, h⟩
        refine ⟨_, _, _, rfl, ⟨_, h.immLe le1⟩, app le1 hR1 h.swap fun v w hs hr => ?_⟩
        obtain ⟨h2, q2, c2, rfl, hr⟩ := hr
        exact ⟨_, _, _, rfl, hs, h2, q2, c2, rfl, hr⟩
      · refine Rets.mono (r49Drop hl hI h) ?_
        rintro _ w ⟨h1, q1, c1, rfl, le1, hR1, hc1, h⟩
        refine ⟨_, _, _, rfl, ⟨_, h.immLe le1⟩, h.newR fun g w h => ⟨⟨_, (h.drop).immLe le1⟩, app le1 hR1 h fun v w hs hr => ?_⟩⟩
        obtain ⟨h2, q2, c2, rfl, hr⟩ := hr
        exact ⟨_, _, _, rfl, hs, h2, q2, c2, rfl, hr⟩
    · have hn := beq_f hn
      refine ⟨z - 1, by omega, i + 1, by rw [wI64 (by omega) (by omega)]; rfl, by omega, fun y hy => ?_, rfl⟩
      rw [et] at hy
      rcases List.mem_append.1 hy with hy | hy
      · exact hno y hy
      · rw [List.mem_singleton.1 hy]; exact hn
  · have hc := dec_f hc
    obtain rfl : i = L.length := by omega
    rw [List.take_length] at hno
    have ef : fst1 L k = L := by
      have : lkp L k = none := List.find?_eq_none.2 fun x hx => by simpa using hno x hx
      unfold fst1; rw [this]
    rw [ef]
    exact ⟨h0, _, _, rfl, LeH.refl _, hI, hlc, h⟩
theorem us_take {i : Nat} (hi : i < L.length) : us (L.take (i + 1)) = us (L.take i) + L[i].2.2 := by
  rw [take_step hi, us_app]; simp [us]
theorem r49Used {m : Int} (hB : LrB L m) (hl : L.length ≤ 1000) (hI : ImR h0 q (E3 L)) (h : Own e w (imm h0 :: F)) : Rets Try.prog 14 #[.slice q L.length c] w fun v w' => v = .int .i64 (us L) ∧ w' = w := by
  refine cortadoref49_Used_go _ _ _ ⟨fun z vs w' => ∃ (i : Nat), vs = [.int .i64 (us (L.take i)), .int .i64 (i : Int)] ∧ z + i = L.length ∧ w' = w, ⟨L.length, 0, rfl, rfl, rfl⟩, ?_⟩
  intro z w' n1 n2
  intros
  rename_i hI2
  obtain ⟨i, hvs, hz, rfl⟩ := hI2
  obtain ⟨rfl, rfl⟩ : n1 = us (L.take i) ∧ n2 = (i : Int) := by simpa using hvs
  refine ⟨fun hc => ?_, fun hc => ?_⟩
  · have hc := dec_t hc
    have hi : i < L.length := by omega
    obtain ⟨ad, rfl, rd⟩ := hI.adr3 hi h
    have b1 := hB.take i
    have b2 := hB.take (i + 1)
    have b3 := b1.nn
    have b4 := b2.nn
    have b5 := b1.2
    have b6 := b2.2
    have e1 := us_take hi
    refine ⟨by omega, hc, smR ⟨_, (rd _ _ _ h).2.2, z - 1, by omega, i + 1, ?_, by omega, rfl⟩⟩
    rw [wI64 (by omega) (by omega), wI64 (by omega) (by omega), ← e1]; rfl
  · have hc := dec_f hc
    obtain rfl : i = L.length := by omega
    rw [List.take_length]
    exact ⟨rfl, rfl⟩
theorem r49PutBad {v n : Int} (hb : ¬ (0 ≤ n ∧ n ≤ 4611686018427387904 ∧ n ≤ most)) (h : Own e w (imm h0 :: F)) : Rets Try.prog 30 #[.slice q L.length c, .int .i64 most, .agg #[.int .i64 k, .int .i64 v, .int .i64 n]] w fun o w' => o = .tuple #[.slice q L.length c, .slice none 0 0, .bool false] ∧ Own e w' (imm h0 :: F) := by
  refine cortadoref49_Put_go _ _ _ _ _ _ _ (h.newR fun g w h => ⟨_, (Own.ld h (by repeat (first | with_reducible exact Pick.here | apply Pick.there)) (by rfl)), r2Right ⟨_, rfl, fun h2 => ⟨_, (Own.ld h (by repeat (first | with_reducible exact Pick.here | apply Pick.there)) (by rfl)), fun h3 => ⟨rfl, h.drop⟩, fun h3 => ?_⟩, fun h2 => ⟨rfl, h.drop⟩⟩⟩)
  simp at h2 h3
  exact absurd ⟨h2.1, h2.2, h3⟩ hb
theorem r49PutOk {v n : Int} (hb : 0 ≤ n ∧ n ≤ 4611686018427387904 ∧ n ≤ most) (hB0 : LrB L most) (hl : L.length ≤ 1000) (hI : ImR h0 q (E3 L)) (h : Own e w (imm h0 :: F)) : Rets Try.prog 30 #[.slice q L.length c, .int .i64 most, .agg #[.int .i64 k, .int .i64 v, .int .i64 n]] w fun o w' => ∃ h1 j q1 c1 q2 c2, Evt (drp L k) (most - n) j ∧ o = .tuple #[.slice q1 (((k, v, n) : R3) :: (drp L k).take j).length c1, .slice q2 ((drp L k).length - j) c2, .bool true] ∧ LeH h0 h1 ∧ ImR h1 q1 (E3 ((k, v, n) :: (drp L k).take j)) ∧ (((k, v, n) : R3) :: (drp L k).take j).length ≤ c1 ∧ ImR h1 q2 (gonV (Value.int .i64) (drp L k) j) ∧ Own e w' (imm h1 :: F) := by
  refine cortadoref49_Put_go _ _ _ _ _ _ _ (h.newR fun ga w h => ?_)
  obtain ⟨ha0, le0, ha, hh⟩ := Own.absorb h
  clear h
  have h := hh
  clear hh
  have hI := hI.mono le0
  refine ⟨_, h.immCell ha (i := 2) rfl, r2Right ⟨_, rfl, fun h2 => ⟨_, h.immCell ha (i := 2) rfl, fun h3 => ?_, fun h3 => ⟨_, h.immCell ha (i := 0) rfl, Rets.mono (r49Drop hl hI h) ?_⟩⟩, fun h2 => ?_⟩⟩
  · simp at h3; omega
  · clear h
    rintro _ w ⟨h1, q1, c1, rfl, le1, hR1, hc1, h⟩
    have ha := le1 _ _ ha
    have hdl : (drp L k).length ≤ 1000 := Nat.le_trans drp_len hl
    obtain ⟨hB1, _⟩ := hB0.drp k
    generalize drp L k = ys at hR1 hc1 hdl hB1 ⊢
    refine ⟨_, _, _, rfl, fun K vs w => ∃ (qa : Option Addr) (ca : Nat) (qg : Option Addr) (cg : Nat), K ≤ ys.length ∧ K ≤ ca ∧ vs = [.slice qa K ca, .slice qg (ys.length - K) cg] ∧ ImR h1 qa (E3 (ys.take K)) ∧ (∀ i, K < i → i ≤ ys.length → most - n < us (ys.take i)) ∧ Own e w (slO 3 1 qg (ys.length - K) cg (gonV (Value.int .i64) ys K) :: imm h1 :: F), ⟨ys.length, q1, c1, none, 0, Nat.le_refl _, hc1, by rw [Nat.sub_self], by rw [List.take_length]; exact hR1, fun i h4 h5 => absurd h4 (by omega), ?_⟩, ?_⟩
    · rw [gonV_all, Nat.sub_self]
      exact Own.slNil h
    · clear h
      intro K w qa k5 ca qg k7 cg
      intros
      rename_i hI2
      obtain ⟨qa', ca', qg', cg', hK, hKc, hvs, hRa, hgt, h⟩ := hI2
      simp at hvs
      obtain ⟨⟨rfl, rfl, rfl⟩, ⟨rfl, rfl, rfl⟩⟩ := hvs
      have hK2 : (ys.take k5).length = k5 := by rw [List.length_take]; omega
      have hBK : LrB (ys.take k5) most := hB1.take k5
      have hnn := hBK.nn
      obtain ⟨hb1, hb2, hb3⟩ := hb
      have hle := hBK.2.1
      have hm4 := hBK.2.2.2
      have hwr : IntKind.wrap .i64 (most - n) = most - n := wI64 (by omega) (by omega)
      refine h.drw fun w h => ⟨fun w => ∃ F', Own e w (imm h1 :: F'), ⟨_, h.drop⟩, _, fun w ⟨F', h⟩ => h.immCell ha (i := 2) rfl, ?_⟩
      have hu := r49Used (c := ca) hBK (by omega) hRa h.swap
      rw [hK2] at hu
      refine Rets.mono hu ?_
      rintro _ w1 ⟨rfl, rfl⟩
      refine ⟨_, rfl, ⟨_, h.swap⟩, fun hc => ?_, fun hc => ?_⟩
      · rw [hwr] at hc
        have hc := dec_t hc
        obtain ⟨j, rfl⟩ : ∃ j, k5 = j + 1 := by
          cases k5 with
          | zero => simp [us] at hc; omega
          | succ j => exact ⟨j, rfl⟩
        have hj : j < ys.length := by omega
        have ej : IntKind.wrap .i64 (((j + 1 : Nat) : Int) - 1) = (j : Int) := by rw [wI64 (by omega) (by omega)]; omega
        rw [ej]
        obtain ⟨ad, rfl, rd⟩ := hRa.adr3 (i := j) (by omega) h.swap
        have ey : (ys.take (j + 1))[j]'(by omega) = ys[j] := by simp
        rw [ey] at rd
        refine ⟨by omega, by omega, smR ⟨_, (rd _ _ _ h.swap).1, h.newR fun a3 w2 h => ?_⟩⟩
        refine Own.append (z := [.int .i64 0]) (b := 8) (news := [.int .i64 (ys[j]).1]) h.swap (by kernel_rfl) (by kernel_rfl) (by kernel_rfl) (by kernel_rfl) (by kernel_rfl) (by omega) (Own.blkRd h) rfl (by simp [Value.oneCell']) (by unfold maxLen; omega) (by omega) fun q' c' w3 h _ => ?_
        refine ⟨_, _, _, rfl, by omega, by omega, j, by omega, slcA (some ad) 0 ca 3, ca, q', c', by omega, by omega, ?_, ?_, fun i h4 h5 => ?_, ?_⟩
        · rw [Int.toNat_natCast, show ys.length - (j + 1) + 1 = ys.length - j by omega]; rfl
        · intro e w F h
          have e1 : ys.take j = (ys.take (j + 1)).take j := by rw [List.take_take]; congr 1; omega
          rw [e1, E3_take]
          refine slc3 ((hRa e w F h).take _) ?_
          rw [List.length_take, E3_len]; omega
        · rcases Nat.lt_or_ge (j + 1) i with h6 | h6
          · exact hgt i h6 h5
          · rw [show i = j + 1 by omega]; exact hc
        · rw [show ys.length - (j + 1) + 1 = ys.length - j by omega, ← gonV_step hj] at h
          have h := h.swap.drop
          exact (Own.sub (h) (by repeat (first | exact Sub.nil _ | exact Sub.rfl _ | (apply Sub.cons; focus ((repeat (first | with_reducible exact Pick.here | apply Pick.there)); done)) | apply Sub.drop)))
      · rw [hwr] at hc
        have hc := dec_f hc
        refine ⟨_, _, _, ⟨h.swap.immCell ha (i := 0) rfl, h.swap.immCell ha (i := 1) rfl, h.swap.immCell ha (i := 2) rfl⟩, h.newR fun a4 w2 h => ?_⟩
        have hs : Own e w2 (slO 39 3 (some ⟨a4, 0, none⟩) 1 1 (E3 [((k, v, n) : R3)]) :: slO 3 1 qg (ys.length - k5) cg (gonV (Value.int .i64) ys k5) :: imm h1 :: F) := Own.slMk (rest := []) rfl (Nat.le_refl _) (by unfold maxLen; omega) rfl h
        refine app3 (L := [((k, v, n) : R3)]) (ys := ys.take k5) (by rw [hK2]; simp; omega) hK2.symm (hRa _ _ _ hs.drop.swap) hs fun q' c' w h => ⟨_, _, _, rfl, ?_⟩
        have h : Own e w (slO 39 3 q' (((k, v, n) : R3) :: ys.take k5).length c' (E3 (((k, v, n) : R3) :: ys.take k5)) :: slO 3 1 qg (ys.length - k5) cg (gonV (Value.int .i64) ys k5) :: imm h1 :: F) := h
        obtain ⟨h3', le3, hR3, hc3, h⟩ := Own.slImm (Own.perm h (List.Perm.cons _ (List.Perm.swap _ _ _)))
        obtain ⟨h4', le4, hR4, hc4, h⟩ := Own.slImm h.swap
        exact ⟨h4', k5, q', c', qg, cg, ⟨hK, by omega, hgt⟩, rfl, LeH.trans le0 (LeH.trans le1 (LeH.trans le3 le4)), hR3.mono le4, hc3, hR4, h⟩
  · simp at h2; omega
theorem r7Same {G : List Int} {q2 : Option Addr} {c2 : Nat} (hl : G.length ≤ 1000) (h1 : ∀ w, Own e w F → RdC w q (cs .i64 G)) (h2 : ∀ w, Own e w F → RdC w q2 (cs .i64 G)) (h : Own e w F) : Rets Try.prog 31 #[.slice q G.length c, .slice q2 G.length c2] w fun v w' => v = .bool true ∧ Own e w' F := by
  refine cortadoref07_Same_go _ _ _ _ _ _ ⟨fun hc => (by simp at hc), fun _ => ⟨fun z vs w => ∃ (i : Nat), vs = [.int .i64 (i : Int)] ∧ z + i = G.length ∧ Own e w F, ⟨G.length, 0, rfl, rfl, h⟩, ?_⟩⟩
  intro z w v1 n1
  intros
  rename_i hI2
  obtain ⟨i, hvs, hz, h⟩ := hI2
  obtain rfl : n1 = (i : Int) := by simpa using hvs
  refine ⟨fun hc => ?_, fun hc => ⟨rfl, h⟩⟩
  have hc := dec_t hc
  have hi : i < G.length := by omega
  refine h.drw fun w h => ⟨by omega, hc, RdC.int (h1 w h) hi fun a ha => ⟨by omega, hc, RdC.int (h2 w h) hi fun b hb => ⟨_, by rw [Int.toNat_natCast]; exact ha, _, by rw [Int.toNat_natCast]; exact hb, fun hn => (by simp at hn), fun _ => ⟨z - 1, by omega, i + 1, by rw [wI64 (by omega) (by omega)]; rfl, by omega, h⟩⟩⟩⟩
theorem gonV_cs {ys : List R3} {j : Nat} : gonV (Value.int .i64) ys j = cs .i64 ((ys.drop j).reverse.map Prod.fst) := by unfold gonV cs; rw [List.map_map]; rfl
end
end Go.Proofs.Ytianklbklggboaa.Eng
