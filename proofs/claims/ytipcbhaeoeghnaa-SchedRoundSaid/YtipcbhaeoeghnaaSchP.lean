/- Schedulers: what each function of the program does. -/
import Derived.Test.YtipcbhaeoeghnaaSchW
import Derived.Test.YtipcbhaeoeghnaaSchG
import Derived.Test.YtipcbhaeoeghnaaIntP
import Derived.Test.YtipcbhaeoeghnaaEngA
namespace Go.Proofs.Ytipcbhaeoeghnaa.Eng
open Go Go.RowKit Go.Proofs
set_option linter.unusedVariables false
set_option linter.unusedSimpArgs false
set_option maxRecDepth 1000000
/-- A scheduler. -/
def schO (g : Nat) (P : List Int) (b : Int) (t : Nat) (W : List Nat) (o : Nat) : HP :=
  exH fun q => exH fun c => exH fun q2 => exH fun c2 => allH [blk g 105 [.slice q P.length c, .int .i64 b, .int .i64 (t : Int), .slice q2 W.length c2, .int .i64 (o : Int)], roO 3 q c (cs .i64 P), inB q2 W.length c2 (iL W)]
section
variable {e w : World} {F : List HP} {g t o : Nat} {P : List Int} {b : Int} {W : List Nat}
theorem schO.op (h : Own e w (schO g P b t W o :: F)) : ∃ q c q2 c2, Own e w (blk g 105 [.slice q P.length c, .int .i64 b, .int .i64 (t : Int), .slice q2 W.length c2, .int .i64 (o : Int)] :: roO 3 q c (cs .i64 P) :: inB q2 W.length c2 (iL W) :: F) := by
  obtain ⟨q, h⟩ := h.ex
  obtain ⟨c, h⟩ := h.ex
  obtain ⟨q2, h⟩ := h.ex
  obtain ⟨c2, h⟩ := h.ex
  exact ⟨q, c, q2, c2, h.open_⟩
theorem schO.cl {q q2 : Option Addr} {c c2 : Nat} (h : Own e w (blk g 105 [.slice q P.length c, .int .i64 b, .int .i64 (t : Int), .slice q2 W.length c2, .int .i64 (o : Int)] :: roO 3 q c (cs .i64 P) :: inB q2 W.length c2 (iL W) :: F)) : Own e w (schO g P b t W o :: F) := by
  have h : Own e w ([blk g 105 [.slice q P.length c, .int .i64 b, .int .i64 (t : Int), .slice q2 W.length c2, .int .i64 (o : Int)], roO 3 q c (cs .i64 P), inB q2 W.length c2 (iL W)] ++ F) := h
  exact Own.mkEx q (Own.mkEx c (Own.mkEx q2 (Own.mkEx c2 h.close_)))
theorem schClone {q : Option Addr} {c : Nat} {xs : List Int} (h : Own e w F) (hr : ∀ w, Own e w F → RdC w q (cs .i64 xs)) (hn : xs.length * 8 ≤ 140737488351232) :
    Rets Try.prog 63 #[.slice q xs.length c] w fun v w' => ∃ q' c', v = .slice q' xs.length c' ∧ Own e w' (inB q' xs.length c' xs :: F) := by
  refine slices_Clone_int_int_go _ _ _ ?_
  refine ⟨fun hc => ?_, fun hc => ?_⟩
  · cases q with
    | some a => cases hc
    | none =>
      have hb : xs = [] := by
        rcases hr w h with hr | ⟨a, ha, _⟩
        · simpa [cs] using hr
        · cases ha
      subst hb
      exact ⟨_, _, rfl, h.slNil⟩
  · refine h.newR fun g w1 h => ?_
    refine app64 (empty64 h) (hr _ h.drop) rfl (by omega) fun q' c' w' h => ?_
    rw [List.nil_append] at h
    simp only [Nat.zero_add] at h ⊢
    exact ⟨_, _, _, rfl, _, _, rfl, h⟩
theorem schNew {q : Option Addr} {c : Nat} {xs : List Int} {b : Int} (h : Own e w F) (hr : ∀ w, Own e w F → RdC w q (cs .i64 xs)) (hn : xs.length * 8 ≤ 140737488351232) :
    Rets Try.prog 10 #[.slice q xs.length c, .int .i64 b] w fun v w' => ∃ g, v = .pointer (some ⟨g, 0, none⟩) ∧ Own e w' (schO g xs (max b 0) 0 [] 0 :: F) := by
  refine sched_New_go _ _ _ _ ?_
  refine Rets.mono (schClone h hr hn) ?_
  rintro _ w ⟨q', c', rfl, h⟩
  refine ⟨_, _, _, rfl, h.newR fun g w h => ⟨g, rfl, ?_⟩⟩
  have eb : maxI b 0 = max b 0 := by unfold maxI; split <;> omega
  rw [eb] at h
  have h := h.swap.toRo
  have h := Own.slNil (T := 3) (s := 1) h
  refine schO.cl (q := q') (c := c') (q2 := none) (c2 := 0) (W := []) ?_
  show Own e w (blk g 105 [.slice q' xs.length c', .int .i64 (max b 0), .int .i64 0, .slice none 0 0, .int .i64 0] :: roO 3 q' c' (cs .i64 xs) :: slO 3 1 none 0 0 [] :: F)
  exact (Own.sub (h) (by repeat (first | exact Sub.nil _ | exact Sub.rfl _ | (apply Sub.cons; focus ((repeat (first | with_reducible exact Pick.here | apply Pick.there)); done)) | apply Sub.drop)))
theorem schWorst (h : Own e w (schO g P b t W o :: F)) : Rets Try.prog 15 #[.pointer (some ⟨g, 0, none⟩)] w fun v w' => v = .int .i64 (o : Int) ∧ Own e w' (schO g P b t W o :: F) := by
  refine sched_Sched_Worst_go _ ⟨fun hc => (by cases hc), fun _ => ?_⟩
  obtain ⟨q, c, q2, c2, h⟩ := schO.op h
  exact ⟨_, (Own.ld h (by repeat (first | with_reducible exact Pick.here | apply Pick.there)) (by rfl)), rfl, schO.cl h⟩
theorem schLeft (h : Own e w (schO g P b t W o :: F)) : Rets Try.prog 13 #[.pointer (some ⟨g, 0, none⟩)] w fun v w' => v = .int .i64 (P.length : Nat) ∧ Own e w' (schO g P b t W o :: F) := by
  refine sched_Sched_Left_go _ ⟨fun hc => (by cases hc), fun _ => ?_⟩
  obtain ⟨q, c, q2, c2, h⟩ := schO.op h
  exact ⟨_, _, _, (Own.ld h (by repeat (first | with_reducible exact Pick.here | apply Pick.there)) (by rfl)), rfl, schO.cl h⟩
theorem schTurns (h : Own e w (schO g P b t W o :: F)) : Rets Try.prog 14 #[.pointer (some ⟨g, 0, none⟩)] w fun v w' => v = .int .i64 (t : Int) ∧ Own e w' (schO g P b t W o :: F) := by
  refine sched_Sched_Turns_go _ ⟨fun hc => (by cases hc), fun _ => ?_⟩
  obtain ⟨q, c, q2, c2, h⟩ := schO.op h
  exact ⟨_, (Own.ld h (by repeat (first | with_reducible exact Pick.here | apply Pick.there)) (by rfl)), rfl, schO.cl h⟩
theorem schWaited {i : Int} (h : Own e w (schO g P b t W o :: F)) : Rets Try.prog 16 #[.pointer (some ⟨g, 0, none⟩), .int .i64 i] w fun v w' => v = .int .i64 (wtI W i : Nat) ∧ Own e w' (schO g P b t W o :: F) := by
  refine sched_Sched_Waited_go _ _ ⟨fun _ => ⟨fun hi => ?_, fun hi => ?_⟩, fun hc => (by cases hc)⟩
  · have hi := dec_f hi
    obtain ⟨k, rfl⟩ := Int.eq_ofNat_of_zero_le (show 0 ≤ i by omega)
    rw [wtI_nat]
    obtain ⟨q, c, q2, c2, h⟩ := schO.op h
    refine ⟨_, _, _, (Own.ld h (by repeat (first | with_reducible exact Pick.here | apply Pick.there)) (by rfl)), fun hj => ?_, fun hj => ?_⟩
    · have hj := dec_t hj
      unfold wt
      rw [List.getD_eq_getElem?_getD, List.getElem?_eq_none (by omega)]
      exact ⟨rfl, schO.cl h⟩
    · have hj := dec_f hj
      have hk : k < W.length := by omega
      have hk' : k < (iL W).length := by rw [iL_len]; exact hk
      refine ⟨_, _, _, (Own.ld h (by repeat (first | with_reducible exact Pick.here | apply Pick.there)) (by rfl)), ?_⟩
      refine ⟨by omega, by omega, RdC.int (Own.rdP (T := 3) (q := q2) h (by repeat (first | with_reducible exact Pick.here | apply Pick.there))) hk' fun a ha => ⟨_, by rw [Int.toNat_natCast]; exact ha, ?_, schO.cl h⟩⟩
      rw [iL_at]
      unfold wt
      rw [List.getD_eq_getElem?_getD, List.getElem?_eq_getElem hk]; rfl
  · have hi := dec_t hi
    unfold wtI; rw [if_neg (by omega)]; exact ⟨rfl, h⟩
theorem schThose {q : Option Addr} {c : Nat} {M : List Bool} (h : Own e w F) (hr : ∀ w, Own e w F → RdC w q (M.map Value.bool)) (hl : M.length ≤ 1000) : Rets Try.prog 64 #[.slice q M.length c] w fun v w' => ∃ q' c', v = .slice q' (tho M).length c' ∧ Own e w' (inB q' (tho M).length c' (iL (tho M)) :: F) := by
  refine sched_those_go _ _ _ ?_
  let T : Nat → List Nat := fun i => (List.range i).filter (mayB M)
  have hTl : ∀ i, (T i).length ≤ i := fun i => by
    have := List.length_filter_le (mayB M) (List.range i)
    simpa using this
  refine ⟨fun m vs w => ∃ (i : Nat) (q' : Option Addr) (c' : Nat), vs = [.slice q' (T i).length c', .int .i64 (i : Int)] ∧ m + i = M.length ∧ Own e w (inB q' (T i).length c' (iL (T i)) :: F), ⟨M.length, 0, none, 0, rfl, rfl, h.slNil⟩, ?_⟩
  rintro m w q1 k3 k4 v1 v2 n1
  intros
  rename_i hI
  obtain ⟨i, q', c', hvs, hm, h⟩ := hI
  obtain ⟨⟨rfl, rfl, rfl⟩, rfl⟩ : (q1 = q' ∧ k3 = (T i).length ∧ k4 = c') ∧ n1 = (i : Int) := by simpa using hvs
  have hTi := hTl i
  refine ⟨fun hc => ?_, fun hc => ?_⟩
  · have hc := dec_t hc
    have hi : i < M.length := by omega
    have em : mayB M i = M[i] := by unfold mayB; rw [List.getD_eq_getElem?_getD, List.getElem?_eq_getElem hi]; rfl
    refine ⟨by omega, by omega, RdC.mp (hr _ h.drop) hi fun a ha => ⟨_, by rw [Int.toNat_natCast]; exact ha, fun hb => ?_, fun hb => ?_⟩⟩
    · have e1 : T (i + 1) = T i ++ [i] := by
        show (List.range (i + 1)).filter _ = _
        rw [List.range_succ, List.filter_append, List.filter_cons_of_pos (by rw [em]; exact hb)]; rfl
      refine h.newR fun g w h => ?_
      refine put64 (ys := [(i : Int)]) h rfl (by omega) fun q' c' w h => ⟨_, _, _, rfl, m - 1, by omega, i + 1, q', c', ?_, by omega, ?_⟩
      · rw [wI64 (by omega) (by omega), e1]; simp
      · rw [e1]
        have e2 : iL (T i ++ [i]) = iL (T i) ++ [(i : Int)] := by simp [iL]
        rw [e2, List.length_append]; exact h
    · have e1 : T (i + 1) = T i := by
        show (List.range (i + 1)).filter _ = _
        rw [List.range_succ, List.filter_append, List.filter_cons_of_neg (by rw [em, hb]; simp)]; simp [T]
      refine ⟨m - 1, by omega, i + 1, q1, k4, ?_, by omega, ?_⟩
      · rw [wI64 (by omega) (by omega), e1]; rfl
      · rw [e1]; exact h
  · have hc := dec_f hc
    obtain rfl : i = M.length := by omega
    exact ⟨_, _, rfl, h⟩
theorem schCmp {k : Nat} {x y : Nat} (h : Own e w (blk k 25 [.pointer (some ⟨g, 0, none⟩)] :: schO g P b t W o :: F)) (hW : ∀ i, wt W i ≤ 10000) : Rets Try.prog 104 #[.int .i64 (x : Int), .int .i64 (y : Int), .pointer (some ⟨k, 0, none⟩)] w fun v w' => v = .int .i64 ((wt W x : Int) - (wt W y : Int)) ∧ Own e w' (blk k 25 [.pointer (some ⟨g, 0, none⟩)] :: schO g P b t W o :: F) := by
  refine sched_Sched_longest_1_go _ _ _ ?_
  refine h.drw fun w h => ⟨fun w => Own _ w _, h, ?_⟩
  refine ⟨_, fun w h => (Own.ld' h (by repeat (first | with_reducible exact Pick.here | apply Pick.there)) (by rfl)), _, fun w h => (Own.ld' h (by repeat (first | with_reducible exact Pick.here | apply Pick.there)) (by rfl)), ?_⟩
  refine Rets.mono (schWaited (i := (x : Int)) (Own.pk h (by repeat (first | with_reducible exact Pick.here | apply Pick.there)))) ?_
  rintro _ w ⟨rfl, h⟩
  refine ⟨_, rfl, (Own.sub (h) (by repeat (first | exact Sub.nil _ | exact Sub.rfl _ | (apply Sub.cons; focus ((repeat (first | with_reducible exact Pick.here | apply Pick.there)); done)) | apply Sub.drop))), ?_⟩
  refine Rets.mono (schWaited (i := (y : Int)) h) ?_
  rintro _ w ⟨rfl, h⟩
  have h1 := hW x
  have h2 := hW y
  rw [wtI_nat, wtI_nat]
  exact ⟨_, rfl, by rw [wI64 (by omega) (by omega)], (Own.sub (h) (by repeat (first | exact Sub.nil _ | exact Sub.rfl _ | (apply Sub.cons; focus ((repeat (first | with_reducible exact Pick.here | apply Pick.there)); done)) | apply Sub.drop)))⟩
theorem schMax {k : Nat} {q : Option Addr} {c : Nat} {l : List Nat} (h : Own e w (blk k 25 [.pointer (some ⟨g, 0, none⟩)] :: schO g P b t W o :: F)) (hr : ∀ w, Own e w F → RdC w q (cs .i64 (iL l))) (hW : ∀ i, wt W i ≤ 10000) (hl : l ≠ []) (hll : l.length ≤ 1000) :
    Rets Try.prog 103 #[.slice q l.length c, .func (.func 104) #[] #[.pointer (some ⟨k, 0, none⟩)]] w fun v w' => v = .int .i64 (lng W l : Nat) ∧ Own e w' (blk k 25 [.pointer (some ⟨g, 0, none⟩)] :: schO g P b t W o :: F) := by
  have h0 : 0 < l.length := List.length_pos_iff.2 hl
  have hat : ∀ {w : World} {i : Nat} (hi : i < l.length) {kk : Addr → Prop}, Own e w (blk k 25 [.pointer (some ⟨g, 0, none⟩)] :: schO g P b t W o :: F) → (∀ a, cellAt w (a.add (i * 1)) (.int .i64 ((l[i] : Nat) : Int)) → kk a) → someR q kk := by
    intro w i hi kk h hk
    have hi' : i < (iL l).length := by rw [iL_len]; exact hi
    refine RdC.int (hr w h.drop.drop) hi' fun a ha => hk a ?_
    rw [iL_at] at ha; exact ha
  refine slices_MaxFunc_int_int_go _ _ _ _ ⟨fun hc => absurd (dec_t hc) (by omega), fun _ => ⟨by omega, by omega, hat h0 h fun a ha => ⟨_, by rw [Nat.zero_mul] at ha; exact ha, ?_⟩⟩⟩
  refine ⟨fun m vs w => ∃ (i x : Nat), vs = [.int .i64 (x : Int), .int .i64 (i : Int)] ∧ m + i = l.length ∧ lngF W x (l.drop i) = lng W l ∧ Own e w (blk k 25 [.pointer (some ⟨g, 0, none⟩)] :: schO g P b t W o :: F), ⟨l.length - 1, 1, l[0], rfl, by omega, ?_, h⟩, ?_⟩
  · cases l with
    | nil => exact absurd rfl hl
    | cons x r => rfl
  rintro m w n2 n3
  intros
  rename_i hI
  obtain ⟨i, x, hvs, hm, he, h⟩ := hI
  obtain ⟨rfl, rfl⟩ : n2 = (x : Int) ∧ n3 = (i : Int) := by simpa using hvs
  refine ⟨fun hc => ?_, fun hc => ?_⟩
  · have hc := dec_t hc
    have hi : i < l.length := by omega
    rw [List.drop_eq_getElem_cons hi] at he
    unfold lngF at he
    refine ⟨by omega, by omega, hat hi h fun a ha => ⟨_, by rw [Int.toNat_natCast]; exact ha, ?_⟩⟩
    refine Rets.mono (schCmp h hW) ?_
    rintro _ w ⟨rfl, h⟩
    refine ⟨_, rfl, fun hx => ?_, fun hx => ?_⟩
    · have hx := dec_t hx
      rw [if_pos (by omega)] at he
      exact ⟨by omega, by omega, hat hi h fun a ha => ⟨_, by rw [Int.toNat_natCast]; exact ha, m - 1, by omega, i + 1, l[i], by rw [wI64 (by omega) (by omega)]; rfl, by omega, he, h⟩⟩
    · have hx := dec_f hx
      rw [if_neg (by omega)] at he
      exact ⟨m - 1, by omega, i + 1, x, by rw [wI64 (by omega) (by omega)]; rfl, by omega, he, h⟩
  · have hc := dec_f hc
    rw [List.drop_eq_nil_of_le (by omega)] at he
    rw [← he]; exact ⟨rfl, h⟩
theorem schLong {q : Option Addr} {c : Nat} {l : List Nat} (h : Own e w (schO g P b t W o :: F)) (hr : ∀ w, Own e w F → RdC w q (cs .i64 (iL l))) (hW : ∀ i, wt W i ≤ 10000) (hl : l ≠ []) (hll : l.length ≤ 1000) :
    Rets Try.prog 65 #[.pointer (some ⟨g, 0, none⟩), .slice q l.length c] w fun v w' => v = .int .i64 (lng W l : Nat) ∧ Own e w' (schO g P b t W o :: F) := by
  refine sched_Sched_longest_go _ _ _ _ (h.newR fun k w h => ?_)
  refine Rets.mono (schMax h hr hW hl hll) ?_
  rintro _ w ⟨rfl, h⟩
  exact ⟨_, rfl, rfl, h.drop⟩
theorem schTold (h : Own e w (schO g P b t W o :: F)) : Rets Try.prog 66 #[.pointer (some ⟨g, 0, none⟩)] w fun v w' => v = .tuple #[.int .i64 (max (P.head?.getD 0) 0), .bool (decide (P ≠ []))] ∧ Own e w' (schO g P.tail b t W o :: F) := by
  refine sched_Sched_told_go _ ?_
  obtain ⟨q, c, q2, c2, h⟩ := schO.op h
  refine ⟨_, _, _, (Own.ld h (by repeat (first | with_reducible exact Pick.here | apply Pick.there)) (by rfl)), fun hx => ?_, fun hx => ?_⟩
  · have hx := beq_t hx
    obtain rfl : P = [] := List.eq_nil_of_length_eq_zero (by omega)
    exact ⟨rfl, schO.cl h⟩
  · have hx := beq_f hx
    cases P with
    | nil => exact absurd rfl hx
    | cons p r =>
      have h : Own e w (roO 3 q c (cs .i64 (p :: r)) :: _) := (Own.pk h (by repeat (first | with_reducible exact Pick.here | apply Pick.there)))
      have hle := h.roLe
      rw [cs_len] at hle
      simp only [List.length_cons] at hle
      obtain ⟨ad, rfl, hcell⟩ := h.roRd.addr (j := 0) (u := .int .i64 p) rfl
      refine ⟨_, _, _, (Own.ld h (by repeat (first | with_reducible exact Pick.here | apply Pick.there)) (by rfl)), ?_⟩
      refine ⟨by omega, by simp, p, hcell 0 _ rfl, _, _, _, (Own.ld h (by repeat (first | with_reducible exact Pick.here | apply Pick.there)) (by rfl)), ?_⟩
      refine ⟨by omega, by simp; omega, Own.stP h (by repeat (first | with_reducible exact Pick.here | apply Pick.there)) (by simp) (by simp [Value.oneCell']) fun w h => ?_⟩
      simp only [setFrom, List.set_cons_zero, List.set_cons_succ, List.set_nil] at h
      have ep : maxI p 0 = max p 0 := by unfold maxI; split <;> omega
      refine ⟨by rw [ep]; simp, ?_⟩
      have h : Own e w (roO 3 (some ad) c (cs .i64 (p :: r)) :: _) := (Own.pk h (by repeat (first | with_reducible exact Pick.here | apply Pick.there)))
      have h := Own.roDrop (k := 1) (by rw [cs_len]; simp) h
      rw [← cs_drop] at h
      refine schO.cl (P := r) (q := slcA (some ad) 1 c 1) (c := c - 1) (q2 := q2) (c2 := c2) ?_
      have h : Own e w (roO 3 (slcA (some ad) 1 c 1) (c - 1) (cs .i64 r) :: _) := h
      have h : Own e w (blk g 105 [.slice (slcA (some ad) 1 c 1) ((p :: r).length - 1) (c - 1), _, _, _, _] :: _) := (Own.pk h (by repeat (first | with_reducible exact Pick.here | apply Pick.there)))
      have h : Own e w (blk g 105 [.slice (slcA (some ad) 1 c 1) r.length (c - 1), _, _, _, _] :: _) := h
      exact (Own.sub (h) (by repeat (first | exact Sub.nil _ | exact Sub.rfl _ | (apply Sub.cons; focus ((repeat (first | with_reducible exact Pick.here | apply Pick.there)); done)) | apply Sub.drop)))
end
end Go.Proofs.Ytipcbhaeoeghnaa.Eng
