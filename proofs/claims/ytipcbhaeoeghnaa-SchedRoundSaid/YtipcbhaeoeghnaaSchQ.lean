/- Schedulers: turns and picks. -/
import Derived.Test.YtipcbhaeoeghnaaSchP
namespace Go.Proofs.Ytipcbhaeoeghnaa.Eng
open Go Go.RowKit Go.Proofs
set_option linter.unusedVariables false
set_option linter.unusedSimpArgs false
set_option maxRecDepth 1000000
def nowi (N : Nat) (M : List Bool) (W : List Nat) (who i : Nat) : List Nat := (List.range N).map fun j => if j < i then nw1 M W who j else 0
theorem nowi_len (N : Nat) (M : List Bool) (W : List Nat) (who i : Nat) : (nowi N M W who i).length = N := by simp [nowi]
theorem nowi_set {N : Nat} {M : List Bool} {W : List Nat} {who i : Nat} (h : i < N) : (nowi N M W who i).set i (nw1 M W who i) = nowi N M W who (i + 1) := by
  apply List.ext_getElem
  · simp [nowi]
  · intro j h1 h2
    rw [List.getElem_set]
    simp only [nowi, List.getElem_map, List.getElem_range]
    split
    · rename_i h3; subst h3; rw [if_pos (by omega)]
    · rename_i h3
      by_cases hj : j < i
      · rw [if_pos hj, if_pos (by omega)]
      · rw [if_neg hj, if_neg (by omega)]
theorem nowi_same {N : Nat} {M : List Bool} {W : List Nat} {who i : Nat} (h : nw1 M W who i = 0) : nowi N M W who (i + 1) = nowi N M W who i := by
  unfold nowi
  refine List.map_congr_left fun j _ => ?_
  by_cases hj : j < i
  · rw [if_pos hj, if_pos (by omega)]
  · by_cases hj2 : j = i
    · subst hj2; rw [if_pos (by omega), if_neg hj, h]
    · rw [if_neg hj, if_neg (by omega)]
theorem nowi_all {M : List Bool} {W : List Nat} {who : Nat} : nowi (max M.length W.length) M W who M.length = nwt M W who := by
  unfold nowi nwt
  refine List.map_congr_left fun j _ => ?_
  split
  · rfl
  · rename_i h; rw [nw1_over (by omega)]
section
variable {e w : World} {F : List HP} {g t o : Nat} {P : List Int} {b : Int} {W : List Nat} {M : List Bool} {q : Option Addr} {c : Nat}
theorem schTurn {who : Nat} (h : Own e w (schO g P b t W o :: F)) (hr : ∀ w, Own e w F → RdC w q (M.map Value.bool)) (hM : M.length ≤ 1000) (hWl : W.length ≤ 1000) (hW : ∀ i, wt W i ≤ 9999) (ho : o ≤ 10000) (ht : t ≤ 10000) :
    Rets Try.prog 67 #[.pointer (some ⟨g, 0, none⟩), .slice q M.length c, .int .i64 (who : Int)] w fun v w' => v = .tuple #[] ∧ Own e w' (schO g P b (t + 1) (nwt M W who) (wrs M W who o M.length) :: F) := by
  refine sched_Sched_turn_go _ _ _ _ _ ?_
  have hwr : ∀ k, wrs M W who o k ≤ 10000 := wrs_le ho (fun i => by have := hW i; unfold nw1; split <;> omega)
  obtain ⟨q1, c1, q2, c2, h⟩ := schO.op h
  refine ⟨_, _, _, (Own.ld h (by repeat (first | with_reducible exact Pick.here | apply Pick.there)) (by rfl)), ?_⟩
  obtain ⟨N, hN⟩ : ∃ N : Nat, N = max M.length W.length := ⟨_, rfl⟩
  have eN : maxI (M.length : Int) (W.length : Int) = (N : Int) := by unfold maxI; split <;> omega
  rw [eN, Int.toNat_natCast]
  refine h.makeR ⟨by omega, by omega, by omega, by omega⟩ fun g1 w h => ?_
  rw [Int.toNat_natCast, zrep_one] at h
  have e0 : List.replicate N (Value.int .i64 0) = cs .i64 (iL (nowi N M W who 0)) := by
    have : nowi N M W who 0 = List.replicate N 0 := by
      apply List.ext_getElem
      · simp [nowi]
      · intro j h1 h2; simp [nowi]
    rw [this]; simp [cs, iL]
  rw [e0] at h
  have h : Own e w (inB (some ⟨g1, 0, none⟩) N N (iL (nowi N M W who 0)) :: _) := Own.slMk (rest := []) (by rw [cs_len, iL_len, nowi_len]; omega) (Nat.le_refl _) (by unfold maxLen; omega) (by rw [List.append_nil, cs_len, iL_len, nowi_len]; omega) (by rw [List.append_nil]; exact h)
  have h : Own e w (blk g 105 _ :: roO 3 q1 c1 (cs .i64 P) :: inB q2 W.length c2 (iL W) :: _) := (Own.pk3 h (by repeat (first | with_reducible exact Pick.here | apply Pick.there)) (by repeat (first | with_reducible exact Pick.here | apply Pick.there)) (by repeat (first | with_reducible exact Pick.here | apply Pick.there)))
  have h := schO.cl h
  refine ⟨fun m vs w => ∃ i : Nat, vs = [.int .i64 (i : Int)] ∧ m + i = M.length ∧ Own e w (schO g P b t W (wrs M W who o i) :: inB (some ⟨g1, 0, none⟩) N N (iL (nowi N M W who i)) :: F), ⟨M.length, 0, rfl, rfl, h⟩, ?_⟩
  rintro m w v1 v2 n1
  intros
  rename_i hI
  obtain ⟨i, hvs, hm, h⟩ := hI
  obtain rfl : n1 = (i : Int) := by simpa using hvs
  have hwi := hwr i
  refine ⟨fun hx => ?_, fun hx => ?_⟩
  · have hx := dec_t hx
    have hi : i < M.length := by omega
    have em : mayB M i = M[i] := by unfold mayB; rw [List.getD_eq_getElem?_getD, List.getElem?_eq_getElem hi]; rfl
    have same : nw1 M W who i = 0 → Own e w (schO g P b t W (wrs M W who o (i + 1)) :: inB (some ⟨g1, 0, none⟩) N N (iL (nowi N M W who (i + 1))) :: F) := fun hz => by
      rw [nowi_same hz]
      have : wrs M W who o (i + 1) = wrs M W who o i := by show max _ _ = _; rw [hz]; omega
      rw [this]; exact h
    have fin : ∀ w, Own e w (schO g P b t W (wrs M W who o (i + 1)) :: inB (some ⟨g1, 0, none⟩) N N (iL (nowi N M W who (i + 1))) :: F) → ∃ k5 : Nat, k5 < m ∧ ∃ i' : Nat, [Value.int IntKind.i64 (IntKind.wrap IntKind.i64 ((i : Int) + 1))] = [.int .i64 (i' : Int)] ∧ k5 + i' = M.length ∧ Own e w (schO g P b t W (wrs M W who o i') :: inB (some ⟨g1, 0, none⟩) N N (iL (nowi N M W who i')) :: F) := fun w h => ⟨m - 1, by omega, i + 1, by rw [wI64 (by omega) (by omega)]; rfl, by omega, h⟩
    refine ⟨by omega, by omega, RdC.mp (hr _ h.drop.drop) hi fun a ha => ⟨_, by rw [Int.toNat_natCast]; exact ha, fun hb => ?_, fun hb => ?_⟩⟩
    · refine ⟨fun vs w => Own e w (schO g P b t W (wrs M W who o (i + 1)) :: inB (some ⟨g1, 0, none⟩) N N (iL (nowi N M W who (i + 1))) :: F), ⟨fun hne => ?_, fun hne => ?_⟩, ?_⟩
      · have hne := bool_ne hne
        have en : nw1 M W who i = wt W i + 1 := by unfold nw1; rw [if_pos ⟨by rw [em]; exact hb, by omega⟩]
        have hwti := hW i
        refine Rets.mono (schWaited (i := (i : Int)) h) ?_
        rintro _ w ⟨rfl, h⟩
        rw [wtI_nat]
        refine ⟨_, rfl, by omega, by omega, ?_⟩
        have key : ∀ {K : World → Prop}, (∀ w', Own e w' (schO g P b t W (wrs M W who o i) :: inB (some ⟨g1, 0, none⟩) N N (iL (nowi N M W who (i + 1))) :: F) → K w') → StoreR ((⟨g1, 0, none⟩ : Addr).add (Int.toNat (i : Int) * 1)) [Value.int .i64 (IntKind.wrap .i64 ((wt W i : Int) + 1))] w K := by
          intro K hK
          have := h.swap.slStore (i := i) (us := [.int .i64 ((nw1 M W who i : Nat) : Int)]) (K := K) (by rw [cs_len, iL_len, nowi_len]; simp; omega) (by simp) (by simp [Value.oneCell']) (fun w h => hK w (by
            rw [cs_set] at h
            have e1 : (iL (nowi N M W who i)).set i ((nw1 M W who i : Nat) : Int) = iL (nowi N M W who (i + 1)) := by
              rw [← nowi_set (by omega)]; unfold iL; rw [List.map_set]; rfl
            rw [e1] at h
            exact h.swap))
          rw [Int.toNat_natCast, Nat.mul_one, wI64 (by omega) (by omega)]
          have e2 : (wt W i : Int) + 1 = ((nw1 M W who i : Nat) : Int) := by rw [en]; rfl
          rw [e2]; exact this
        refine key fun w h => h.drw fun w h => ⟨by omega, by omega, ?_⟩
        obtain ⟨q3, c3, q4, c4, h⟩ := schO.op h
        have hN2 : i < (iL (nowi N M W who (i + 1))).length := by rw [iL_len, nowi_len]; omega
        refine ⟨_, (Own.ld h (by repeat (first | with_reducible exact Pick.here | apply Pick.there)) (by rfl)), ((nw1 M W who i : Nat) : Int), ?_, Own.stP h (by repeat (first | with_reducible exact Pick.here | apply Pick.there)) (by simp) (by simp [Value.oneCell']) fun w h => ?_⟩
        · have h1 : RdC w (some ⟨g1, 0, none⟩) (cs .i64 (iL (nowi N M W who (i + 1)))) := Own.rdP (T := 3) h (by repeat (first | with_reducible exact Pick.here | apply Pick.there))
          have h2 := RdC.int h1 hN2 (k := fun a => cellAt w (a.add (i * 1)) (.int .i64 ((nw1 M W who i : Nat) : Int))) (fun a ha => by
            rw [iL_at] at ha
            have e3 : (nowi N M W who (i + 1))[i]'(by rw [nowi_len]; omega) = nw1 M W who i := by simp [nowi]
            rw [e3] at ha; exact ha)
          rw [Int.toNat_natCast]
          exact h2
        · simp only [setFrom, List.set_cons_zero, List.set_cons_succ, List.set_nil] at h
          have e4 : maxI ((wrs M W who o i : Nat) : Int) ((nw1 M W who i : Nat) : Int) = ((wrs M W who o (i + 1) : Nat) : Int) := by
            show _ = ((max (wrs M W who o i) (nw1 M W who i) : Nat) : Int)
            unfold maxI; split <;> omega
          rw [e4] at h
          have h : Own e w (blk g 105 _ :: roO 3 q3 c3 (cs .i64 P) :: inB q4 W.length c4 (iL W) :: _) := (Own.pk3 h (by repeat (first | with_reducible exact Pick.here | apply Pick.there)) (by repeat (first | with_reducible exact Pick.here | apply Pick.there)) (by repeat (first | with_reducible exact Pick.here | apply Pick.there)))
          exact schO.cl h
      · have hne := bool_eq hne
        exact same (by unfold nw1; rw [if_neg (by omega)])
      · rintro w
        intros
        rename_i hJ
        exact fin w hJ
    · refine ⟨fun vs w => Own e w (schO g P b t W (wrs M W who o (i + 1)) :: inB (some ⟨g1, 0, none⟩) N N (iL (nowi N M W who (i + 1))) :: F), same (by unfold nw1; rw [if_neg (by rw [em, hb]; simp)]), ?_⟩
      rintro w
      intros
      rename_i hJ
      exact fin w hJ
  · have hx := dec_f hx
    obtain rfl : i = M.length := by omega
    obtain ⟨q3, c3, q4, c4, h⟩ := schO.op h
    refine Own.stP h (by repeat (first | with_reducible exact Pick.here | apply Pick.there)) (by simp) (by simp [Value.oneCell']) fun w h => ?_
    simp only [setFrom, List.set_cons_zero, List.set_cons_succ, List.set_nil] at h
    refine ⟨_, (Own.ld h (by repeat (first | with_reducible exact Pick.here | apply Pick.there)) (by rfl)), Own.stP h (by repeat (first | with_reducible exact Pick.here | apply Pick.there)) (by simp) (by simp [Value.oneCell']) fun w h => ⟨rfl, ?_⟩⟩
    simp only [setFrom, List.set_cons_zero, List.set_cons_succ, List.set_nil] at h
    subst hN
    rw [nowi_all] at h
    rw [wI64 (by omega) (by omega)] at h
    refine schO.cl (q := q3) (c := c3) (q2 := some ⟨g1, 0, none⟩) (c2 := max M.length W.length) ?_
    rw [nwt_len]
    have et : ((t + 1 : Nat) : Int) = (t : Int) + 1 := rfl
    rw [et]
    exact (Own.sub (h) (by repeat (first | exact Sub.nil _ | exact Sub.rfl _ | (apply Sub.cons; focus ((repeat (first | with_reducible exact Pick.here | apply Pick.there)); done)) | apply Sub.drop)))
theorem iL_get {l : List Nat} {i : Nat} {w : World} (h : RdC w q (cs .i64 (iL l))) (hi : i < l.length) {k : Addr → Prop} (hk : ∀ a, cellAt w (a.add (i * 1)) (.int .i64 ((l[i] : Nat) : Int)) → k a) : someR q k := by
  have hi' : i < (iL l).length := by rw [iL_len]; exact hi
  refine RdC.int h hi' fun a ha => hk a ?_
  rw [iL_at] at ha; exact ha
theorem schPick (h : Own e w (schO g P b t W o :: F)) (hr : ∀ w, Own e w F → RdC w q (M.map Value.bool)) (hM : M.length ≤ 1000) (hWl : W.length ≤ 1000) (hW : ∀ i, wt W i ≤ 9999) (ho : o ≤ 10000) (ht : t ≤ 10000) (hb : 0 ≤ b ∧ b ≤ 9223372036854775807) (hP : ∀ p ∈ P, -9223372036854775808 ≤ p ∧ p ≤ 9223372036854775807) :
    Rets Try.prog 11 #[.pointer (some ⟨g, 0, none⟩), .slice q M.length c] w fun v w' =>
      (tho M = [] ∧ v = .tuple #[.int .i64 0, .bool false] ∧ Own e w' (schO g P b t W o :: F)) ∨
      (tho M ≠ [] ∧ v = .tuple #[.int .i64 (whoP P b M W : Nat), .bool true] ∧ Own e w' (schO g P.tail b (t + 1) (nwt M W (whoP P b M W)) (wrs M W (whoP P b M W) o M.length) :: F)) := by
  have htl : (tho M).length ≤ M.length := by
    have := List.length_filter_le (mayB M) (List.range M.length)
    simpa [tho] using this
  refine sched_Sched_Pick_go _ _ _ _ ?_
  refine Rets.mono (schThose h (fun w h => hr w h.drop) hM) ?_
  rintro _ w ⟨q1, c1, rfl, h⟩
  refine ⟨_, _, _, rfl, fun _ => ⟨fun hx => ?_, fun hx => ?_⟩, fun hc => (by cases hc)⟩
  · have hx := beq_t hx
    exact .inl ⟨List.eq_nil_of_length_eq_zero (by omega), rfl, h.drop⟩
  · have hx := beq_f hx
    have hne : tho M ≠ [] := fun h0 => hx (by rw [h0]; rfl)
    have hpos : 0 < (tho M).length := List.length_pos_iff.2 hne
    refine Rets.mono (schLong (l := tho M) h.swap (fun w h => h.slRd) (fun i => by have := hW i; omega) hne (by omega)) ?_
    rintro _ w ⟨rfl, h⟩
    have hlw := hW (lng W (tho M))
    -- what comes behind: the turn
    have turn : ∀ (P' : List Int) (w : World), P' = P.tail → Own e w (schO g P' b t W o :: inB q1 (tho M).length c1 (iL (tho M)) :: F) → ∀ n7 : Int, n7 = (whoP P b M W : Nat) →
        Rets Try.prog 67 #[.pointer (some ⟨g, 0, none⟩), .slice q M.length c, .int .i64 n7] w fun v12 w9 => v12 = .tuple #[] ∧
          ((tho M = [] ∧ Value.tuple #[.int .i64 n7, .bool true] = .tuple #[.int .i64 0, .bool false] ∧ Own e w9 (schO g P b t W o :: F)) ∨
          (tho M ≠ [] ∧ Value.tuple #[.int .i64 n7, .bool true] = .tuple #[.int .i64 (whoP P b M W : Nat), .bool true] ∧ Own e w9 (schO g P.tail b (t + 1) (nwt M W (whoP P b M W)) (wrs M W (whoP P b M W) o M.length) :: F))) := by
      rintro P' w rfl h n7 rfl
      refine Rets.mono (schTurn h (fun w h => hr w h.drop) hM hWl hW ho ht) ?_
      rintro _ w ⟨rfl, h⟩
      exact ⟨rfl, .inr ⟨hne, rfl, (Own.sub (h) (by repeat (first | exact Sub.nil _ | exact Sub.rfl _ | (apply Sub.cons; focus ((repeat (first | with_reducible exact Pick.here | apply Pick.there)); done)) | apply Sub.drop)))⟩⟩
    have nl : ∀ (p : Int) (r : List Int) (w : World), P = p :: r → ¬ late b M W → Own e w (schO g P.tail b t W o :: inB q1 (tho M).length c1 (iL (tho M)) :: F) →
        ((tho M).length : Int) ≠ 0 ∧ (0 : Int) ≤ Int.tmod (max (P.head?.getD 0) 0) ((tho M).length : Int) ∧ Int.tmod (max (P.head?.getD 0) 0) ((tho M).length : Int) < ((tho M).length : Int) ∧ someR q1 fun a2 => ∃ n10 : Int, cellAt w (Addr.add a2 (Int.toNat (Int.tmod (max (P.head?.getD 0) 0) ((tho M).length : Int)) * 1)) (.int .i64 n10) ∧ [Value.int .i64 n10] = [Value.int .i64 (whoP P b M W : Nat)] ∧ Own e w (schO g P.tail b t W o :: inB q1 (tho M).length c1 (iL (tho M)) :: F) := by
      rintro p r w rfl hnl h
      obtain ⟨i, hi⟩ : ∃ i : Nat, i = (max p 0).toNat % (tho M).length := ⟨_, rfl⟩
      have hlt : i < (tho M).length := by rw [hi]; exact Nat.mod_lt _ hpos
      have em : Int.tmod (max ((p :: r).head?.getD 0) 0) ((tho M).length : Int) = (i : Int) := by
        show Int.tmod (max p 0) _ = _
        obtain ⟨k, hk⟩ := Int.eq_ofNat_of_zero_le (show 0 ≤ max p 0 by omega)
        rw [hi, hk]; rfl
      rw [em]
      refine ⟨by omega, by omega, by omega, iL_get h.swap.slRd hlt fun a ha => ⟨_, by rw [Int.toNat_natCast]; exact ha, ?_, h⟩⟩
      have ew : whoP (p :: r) b M W = (tho M)[i] := by
        show (if late b M W then lng W (tho M) else (tho M).getD ((max p 0).toNat % (tho M).length) 0) = _
        rw [if_neg hnl, ← hi, List.getD_eq_getElem?_getD, List.getElem?_eq_getElem hlt]; rfl
      rw [ew]
    refine ⟨_, rfl, h.drw fun w h => ⟨fun w => Own e w (schO g P b t W o :: inB q1 (tho M).length c1 (iL (tho M)) :: F), h, ?_⟩⟩
    have hb1 : ∀ w, Own e w (schO g P b t W o :: inB q1 (tho M).length c1 (iL (tho M)) :: F) → World.cell? w ((⟨g, 0, none⟩ : Addr).add 1) = some (.int .i64 b) := fun w h => by
      obtain ⟨q3, c3, q4, c4, h⟩ := schO.op h
      exact Own.ld h (by repeat (first | with_reducible exact Pick.here | apply Pick.there)) (by rfl)
    refine ⟨b, hb1, fun hx => ⟨b, hb1, ?_⟩, fun hx => ?_⟩
    · have hx := dec_t hx
      refine Rets.mono (schWaited (i := ((lng W (tho M) : Nat) : Int)) h) ?_
      rintro _ w ⟨rfl, h⟩
      rw [wtI_nat]
      refine ⟨_, rfl, h, ?_⟩
      refine Rets.mono (schTold h) ?_
      rintro _ w ⟨rfl, h⟩
      have ew : IntKind.wrap .i64 (maxI b (M.length : Int) - (M.length : Int)) = max b (M.length : Int) - (M.length : Int) := by
        have : maxI b (M.length : Int) = max b (M.length : Int) := by unfold maxI; split <;> omega
        rw [this, wI64 (by omega) (by omega)]
      rw [ew]
      refine ⟨_, _, rfl, fun hp => ?_, fun hp => ?_⟩
      · have hp := of_decide_eq_true hp
        obtain ⟨p, r, hpr⟩ := List.exists_cons_of_ne_nil hp
        refine ⟨fun vs w => vs = [Value.int .i64 (whoP P b M W : Nat)] ∧ Own e w (schO g P.tail b t W o :: inB q1 (tho M).length c1 (iL (tho M)) :: F), ⟨fun hy => ?_, fun hy => ?_⟩, ?_⟩
        · have hy := dec_f (by simpa only [Bool.not_eq_true'] using hy)
          exact nl p r w hpr (fun hc => hy hc.2) h
        · have hy := dec_t (by simpa only [Bool.not_eq_false'] using hy)
          exact ⟨by rw [whoP_late ⟨by omega, hy⟩], h⟩
        · rintro w n7
          intros
          rename_i hJ
          obtain ⟨hvs, h⟩ := hJ
          obtain rfl : n7 = ((whoP P b M W : Nat) : Int) := by simpa using hvs
          exact turn _ w rfl h _ rfl
      · have hp := of_decide_eq_false hp
        have hp : P = [] := by simpa using hp
        refine ⟨fun vs w => vs = [Value.int .i64 (whoP P b M W : Nat)] ∧ Own e w (schO g P.tail b t W o :: inB q1 (tho M).length c1 (iL (tho M)) :: F), ⟨by rw [hp]; rfl, h⟩, ?_⟩
        · rintro w n7
          intros
          rename_i hJ
          obtain ⟨hvs, h⟩ := hJ
          obtain rfl : n7 = ((whoP P b M W : Nat) : Int) := by simpa using hvs
          exact turn _ w rfl h _ rfl
    · have hx := dec_f hx
      refine Rets.mono (schTold h) ?_
      rintro _ w ⟨rfl, h⟩
      refine ⟨_, _, rfl, fun hp => ?_, fun hp => ?_⟩
      · have hp := of_decide_eq_true hp
        obtain ⟨p, r, hpr⟩ := List.exists_cons_of_ne_nil hp
        refine ⟨fun vs w => vs = [Value.int .i64 (whoP P b M W : Nat)] ∧ Own e w (schO g P.tail b t W o :: inB q1 (tho M).length c1 (iL (tho M)) :: F), nl p r w hpr (fun hc => hx hc.1) h, ?_⟩
        · rintro w n7
          intros
          rename_i hJ
          obtain ⟨hvs, h⟩ := hJ
          obtain rfl : n7 = ((whoP P b M W : Nat) : Int) := by simpa using hvs
          exact turn _ w rfl h _ rfl
      · have hp := of_decide_eq_false hp
        have hp : P = [] := by simpa using hp
        refine ⟨fun vs w => vs = [Value.int .i64 (whoP P b M W : Nat)] ∧ Own e w (schO g P.tail b t W o :: inB q1 (tho M).length c1 (iL (tho M)) :: F), ⟨by rw [hp]; rfl, h⟩, ?_⟩
        · rintro w n7
          intros
          rename_i hJ
          obtain ⟨hvs, h⟩ := hJ
          obtain rfl : n7 = ((whoP P b M W : Nat) : Int) := by simpa using hvs
          exact turn _ w rfl h _ rfl
end
end Go.Proofs.Ytipcbhaeoeghnaa.Eng
