/- Schedulers: the document's. -/
import Derived.Test.YtipcbhaeoeghnaaSchQ
import Derived.Test.YtipcbhaeoeghnaaSchX
namespace Go.Proofs.Ytipcbhaeoeghnaa.Eng
open Go Go.RowKit Go.Proofs
set_option linter.unusedVariables false
set_option linter.unusedSimpArgs false
set_option maxRecDepth 1000000
/-- The document's scheduler. -/
def refO (g : Nat) (q : Option Addr) (c n : Nat) (b : Int) (t : Nat) (W : List Nat) (o : Nat) : HP :=
  exH fun q2 => exH fun c2 => allH [blk g 29 [.slice q n c, .int .i64 b, .int .i64 (t : Int), .slice q2 W.length c2, .int .i64 (o : Int)], inB q2 W.length c2 (iL W)]
section
variable {e w : World} {F : List HP} {g t o n1 c1 : Nat} {q1 : Option Addr} {b : Int} {W : List Nat} {M : List Bool} {q : Option Addr} {c : Nat}
theorem refO.op (h : Own e w (refO g q1 c1 n1 b t W o :: F)) : ∃ q2 c2, Own e w (blk g 29 [.slice q1 n1 c1, .int .i64 b, .int .i64 (t : Int), .slice q2 W.length c2, .int .i64 (o : Int)] :: inB q2 W.length c2 (iL W) :: F) := by
  obtain ⟨q2, h⟩ := h.ex
  obtain ⟨c2, h⟩ := h.ex
  exact ⟨q2, c2, h.open_⟩
theorem refO.cl {q2 : Option Addr} {c2 : Nat} (h : Own e w (blk g 29 [.slice q1 n1 c1, .int .i64 b, .int .i64 (t : Int), .slice q2 W.length c2, .int .i64 (o : Int)] :: inB q2 W.length c2 (iL W) :: F)) : Own e w (refO g q1 c1 n1 b t W o :: F) := by
  have h : Own e w ([blk g 29 [.slice q1 n1 c1, .int .i64 b, .int .i64 (t : Int), .slice q2 W.length c2, .int .i64 (o : Int)], inB q2 W.length c2 (iL W)] ++ F) := h
  exact Own.mkEx q2 (Own.mkEx c2 h.close_)
theorem refWaited {i : Int} (h : Own e w (refO g q1 c1 n1 b t W o :: F)) : Rets Try.prog 17 #[.pointer (some ⟨g, 0, none⟩), .int .i64 i] w fun v w' => v = .int .i64 (wtI W i : Nat) ∧ Own e w' (refO g q1 c1 n1 b t W o :: F) := by
  refine cortadoref35_S_Waited_go _ _ ⟨fun hi => ?_, fun hi => ?_⟩
  · have hi := dec_f hi
    obtain ⟨k, rfl⟩ := Int.eq_ofNat_of_zero_le (show 0 ≤ i by omega)
    rw [wtI_nat]
    obtain ⟨q2, c2, h⟩ := refO.op h
    refine ⟨_, _, _, (Own.ld h (by repeat (first | with_reducible exact Pick.here | apply Pick.there)) (by rfl)), fun hj => ?_, fun hj => ?_⟩
    · have hj := dec_t hj
      unfold wt
      rw [List.getD_eq_getElem?_getD, List.getElem?_eq_none (by omega)]
      exact ⟨rfl, refO.cl h⟩
    · have hj := dec_f hj
      have hk : k < W.length := by omega
      have hk' : k < (iL W).length := by rw [iL_len]; exact hk
      refine ⟨_, _, _, (Own.ld h (by repeat (first | with_reducible exact Pick.here | apply Pick.there)) (by rfl)), ?_⟩
      refine ⟨by omega, by omega, RdC.int (Own.rdP (T := 3) (q := q2) h (by repeat (first | with_reducible exact Pick.here | apply Pick.there))) hk' fun a ha => ⟨_, by rw [Int.toNat_natCast]; exact ha, ?_, refO.cl h⟩⟩
      rw [iL_at]
      unfold wt
      rw [List.getD_eq_getElem?_getD, List.getElem?_eq_getElem hk]; rfl
  · have hi := dec_t hi
    unfold wtI; rw [if_neg (by omega)]; exact ⟨rfl, h⟩
theorem refTail {who : Nat} {K : Value → World → Prop} (h : Own e w (refO g q1 c1 n1 b t W o :: F)) (hr : ∀ w, Own e w F → RdC w q (M.map Value.bool)) (hM : M.length ≤ 1000) (hWl : W.length ≤ 1000) (hW : ∀ i, wt W i ≤ 9999) (ho : o ≤ 10000) (ht : t ≤ 10000)
    (hK : ∀ w, Own e w (refO g q1 c1 n1 b (t + 1) (nwt M W who) (wrs M W who o M.length) :: F) → K (.tuple #[.int .i64 (who : Int), .bool true]) w) {l : Nat} (hl : l = M.length) {nW : Int} (hnW : nW = (who : Int)) :
    ∃ (q5 : Option Addr),
  ∃ (k20 : Nat),
  ∃ (k21 : Nat),
  cellAt w (Addr.add { block := g, off := (0 : Nat) } (3 : Nat)) (Value.slice q5 k20 k21) ∧
  MakeR 3 [Value.int IntKind.i64 (0 : Int)] (8 : Nat) (maxI (↑l : Int) (↑k20 : Int))
  (maxI (↑l : Int) (↑k20 : Int)) w fun (a4 : Addr) (w12 : World) =>
  ∃ (h5 : Nat → List Value → World → Prop),
  (∃ (k22 : Nat), h5 k22 [Value.int IntKind.i64 (0 : Int)] w12) ∧
  ∀ (k23 : Nat) (w13 : World) (n14 : Int)
  (v81 v82 v83 v84 v85 v86 v87 v88 v89 v90 v91 v92 v93 v94 v95 v96 v97 v98 v99 v100 v101 v102 v103 v104 v105 v106 v107
  v108 v109 v110 v111 v112 v113 v114 : Value),
  h5 k23 [Value.int IntKind.i64 n14] w13 →
  (decide (n14 < (↑l : Int)) = true →
  (0 : Int) ≤ n14 ∧
  n14 < (↑l : Int) ∧
  someR q fun (a5 : Addr) =>
  ∃ (b3 : Bool),
  cellAt w13 (Addr.add a5 (Int.toNat n14 * (1 : Nat))) (Value.bool b3) ∧
  (b3 = true →
  ((n14 != nW) = true →
  Rets Try.prog 17
  { toList := [Value.pointer (some { block := g, off := (0 : Nat) }), Value.int IntKind.i64 n14] } w13
  fun (v115 : Value) (w14 : World) =>
  ∃ (n15 : Int),
  v115 = Value.int IntKind.i64 n15 ∧
  (0 : Int) ≤ n14 ∧
  n14 < (↑(Int.toNat (maxI (↑l : Int) (↑k20 : Int))) : Int) ∧
  StoreR (Addr.add a4 (Int.toNat n14 * (1 : Nat))) [Value.int IntKind.i64 (IntKind.wrap IntKind.i64 (n15 + (1 : Int)))]
  w14 fun (w15 : World) =>
  Drw w15 fun (w16 : World) =>
  (0 : Int) ≤ n14 ∧
  n14 < (↑(Int.toNat (maxI (↑l : Int) (↑k20 : Int))) : Int) ∧
  ∃ (n16 : Int),
  cellAt w16 (Addr.add { block := g, off := (0 : Nat) } (4 : Nat)) (Value.int IntKind.i64 n16) ∧
  ∃ (n17 : Int),
  cellAt w16 (Addr.add a4 (Int.toNat n14 * (1 : Nat))) (Value.int IntKind.i64 n17) ∧
  StoreR (Addr.add { block := g, off := (0 : Nat) } (4 : Nat)) [Value.int IntKind.i64 (maxI n16 n17)] w16
  fun (w17 : World) =>
  ∃ (k24 : Nat), k24 < k23 ∧ h5 k24 [Value.int IntKind.i64 (IntKind.wrap IntKind.i64 (n14 + (1 : Int)))] w17) ∧
  ((n14 != nW) = false →
  ∃ (k25 : Nat), k25 < k23 ∧ h5 k25 [Value.int IntKind.i64 (IntKind.wrap IntKind.i64 (n14 + (1 : Int)))] w13)) ∧
  (b3 = false →
  ∃ (k26 : Nat), k26 < k23 ∧ h5 k26 [Value.int IntKind.i64 (IntKind.wrap IntKind.i64 (n14 + (1 : Int)))] w13)) ∧
  (decide (n14 < (↑l : Int)) = false →
  StoreR (Addr.add { block := g, off := (0 : Nat) } (3 : Nat))
  [Value.slice (some a4) (Int.toNat (maxI (↑l : Int) (↑k20 : Int))) (Int.toNat (maxI (↑l : Int) (↑k20 : Int)))] w13
  fun (w18 : World) =>
  ∃ (n18 : Int),
  cellAt w18 (Addr.add { block := g, off := (0 : Nat) } (2 : Nat)) (Value.int IntKind.i64 n18) ∧
  StoreR (Addr.add { block := g, off := (0 : Nat) } (2 : Nat))
  [Value.int IntKind.i64 (IntKind.wrap IntKind.i64 (n18 + (1 : Int)))] w18 fun (w19 : World) =>
  K (Value.tuple { toList := [Value.int IntKind.i64 nW, Value.bool true] }) w19) := by
  subst hl hnW
  have hwr : ∀ k, wrs M W who o k ≤ 10000 := wrs_le ho (fun i => by have := hW i; unfold nw1; split <;> omega)
  obtain ⟨q2, c2, h⟩ := refO.op h
  refine ⟨_, _, _, (Own.ld h (by repeat (first | with_reducible exact Pick.here | apply Pick.there)) (by rfl)), ?_⟩
  obtain ⟨N, hN⟩ : ∃ N : Nat, N = max M.length W.length := ⟨_, rfl⟩
  have eN : maxI (M.length : Int) (W.length : Int) = (N : Int) := by unfold maxI; split <;> omega
  rw [eN, Int.toNat_natCast]
  refine h.makeR ⟨by omega, by omega, by omega, by omega⟩ fun g1 w h => ?_
  rw [Int.toNat_natCast, zrep_one] at h
  have e0 : List.replicate N (Value.int .i64 0) = cs .i64 (iL (nowi N M W who 0)) := by
    have : nowi N M W who 0 = List.replicate N 0 := by
      apply List.ext_getElem
      · simp [nowi]
      · intro j h1 h2; simp [nowi]
    rw [this]; simp [cs, iL]
  rw [e0] at h
  have h : Own e w (inB (some ⟨g1, 0, none⟩) N N (iL (nowi N M W who 0)) :: _) := Own.slMk (rest := []) (by rw [cs_len, iL_len, nowi_len]; omega) (Nat.le_refl _) (by unfold maxLen; omega) (by rw [List.append_nil, cs_len, iL_len, nowi_len]; omega) (by rw [List.append_nil]; exact h)
  have h : Own e w (blk g 29 _ :: inB q2 W.length c2 (iL W) :: _) := (Own.pk2 h (by repeat (first | with_reducible exact Pick.here | apply Pick.there)) (by repeat (first | with_reducible exact Pick.here | apply Pick.there)))
  have h := refO.cl h
  refine ⟨fun m vs w => ∃ i : Nat, vs = [.int .i64 (i : Int)] ∧ m + i = M.length ∧ Own e w (refO g q1 c1 n1 b t W (wrs M W who o i) :: inB (some ⟨g1, 0, none⟩) N N (iL (nowi N M W who i)) :: F), ⟨M.length, 0, rfl, rfl, h⟩, ?_⟩
  rintro m w n14
  intros
  rename_i hI
  obtain ⟨i, hvs, hm, h⟩ := hI
  obtain rfl : n14 = (i : Int) := by simpa using hvs
  have hwi := hwr i
  refine ⟨fun hx => ?_, fun hx => ?_⟩
  · have hx := dec_t hx
    have hi : i < M.length := by omega
    have em : mayB M i = M[i] := by unfold mayB; rw [List.getD_eq_getElem?_getD, List.getElem?_eq_getElem hi]; rfl
    have same : nw1 M W who i = 0 → Own e w (refO g q1 c1 n1 b t W (wrs M W who o (i + 1)) :: inB (some ⟨g1, 0, none⟩) N N (iL (nowi N M W who (i + 1))) :: F) := fun hz => by
      rw [nowi_same hz]
      have : wrs M W who o (i + 1) = wrs M W who o i := by show max _ _ = _; rw [hz]; omega
      rw [this]; exact h
    have fin : ∀ w, Own e w (refO g q1 c1 n1 b t W (wrs M W who o (i + 1)) :: inB (some ⟨g1, 0, none⟩) N N (iL (nowi N M W who (i + 1))) :: F) → ∃ k5 : Nat, k5 < m ∧ ∃ i' : Nat, [Value.int IntKind.i64 (IntKind.wrap IntKind.i64 ((i : Int) + 1))] = [.int .i64 (i' : Int)] ∧ k5 + i' = M.length ∧ Own e w (refO g q1 c1 n1 b t W (wrs M W who o i') :: inB (some ⟨g1, 0, none⟩) N N (iL (nowi N M W who i')) :: F) := fun w h => ⟨m - 1, by omega, i + 1, by rw [wI64 (by omega) (by omega)]; rfl, by omega, h⟩
    refine ⟨by omega, by omega, RdC.mp (hr _ h.drop.drop) hi fun a ha => ⟨_, by rw [Int.toNat_natCast]; exact ha, fun hb => ⟨fun hne => ?_, fun hne => ?_⟩, fun hb => ?_⟩⟩
    · have hne := bool_ne hne
      have en : nw1 M W who i = wt W i + 1 := by unfold nw1; rw [if_pos ⟨by rw [em]; exact hb, by omega⟩]
      have hwti := hW i
      refine Rets.mono (refWaited (i := (i : Int)) h) ?_
      rintro _ w ⟨rfl, h⟩
      rw [wtI_nat]
      refine ⟨_, rfl, by omega, by omega, ?_⟩
      have key : ∀ {K : World → Prop}, (∀ w', Own e w' (refO g q1 c1 n1 b t W (wrs M W who o i) :: inB (some ⟨g1, 0, none⟩) N N (iL (nowi N M W who (i + 1))) :: F) → K w') → StoreR ((⟨g1, 0, none⟩ : Addr).add (Int.toNat (i : Int) * 1)) [Value.int .i64 (IntKind.wrap .i64 ((wt W i : Int) + 1))] w K := by
        intro K hK
        have := h.swap.slStore (i := i) (us := [.int .i64 ((nw1 M W who i : Nat) : Int)]) (K := K) (by rw [cs_len, iL_len, nowi_len]; simp; omega) (by simp) (by simp [Value.oneCell']) (fun w h => hK w (by
          rw [cs_set] at h
          have e1 : (iL (nowi N M W who i)).set i ((nw1 M W who i : Nat) : Int) = iL (nowi N M W who (i + 1)) := by
            rw [← nowi_set (by omega)]; unfold iL; rw [List.map_set]; rfl
          rw [e1] at h
          exact h.swap))
        rw [Int.toNat_natCast, Nat.mul_one, wI64 (by omega) (by omega)]
        have e2 : (wt W i : Int) + 1 = ((nw1 M W who i : Nat) : Int) := by rw [en]; rfl
        rw [e2]; exact this
      refine key fun w h => h.drw fun w h => ⟨by omega, by omega, ?_⟩
      obtain ⟨q4, c4, h⟩ := refO.op h
      have hN2 : i < (iL (nowi N M W who (i + 1))).length := by rw [iL_len, nowi_len]; omega
      refine ⟨_, (Own.ld h (by repeat (first | with_reducible exact Pick.here | apply Pick.there)) (by rfl)), ((nw1 M W who i : Nat) : Int), ?_, Own.stP h (by repeat (first | with_reducible exact Pick.here | apply Pick.there)) (by simp) (by simp [Value.oneCell']) fun w h => ?_⟩
      · have h1 : RdC w (some ⟨g1, 0, none⟩) (cs .i64 (iL (nowi N M W who (i + 1)))) := Own.rdP (T := 3) h (by repeat (first | with_reducible exact Pick.here | apply Pick.there))
        have h2 := RdC.int h1 hN2 (k := fun a => cellAt w (a.add (i * 1)) (.int .i64 ((nw1 M W who i : Nat) : Int))) (fun a ha => by
          rw [iL_at] at ha
          have e3 : (nowi N M W who (i + 1))[i]'(by rw [nowi_len]; omega) = nw1 M W who i := by simp [nowi]
          rw [e3] at ha; exact ha)
        rw [Int.toNat_natCast]
        exact h2
      · simp only [setFrom, List.set_cons_zero, List.set_cons_succ, List.set_nil] at h
        have e4 : maxI ((wrs M W who o i : Nat) : Int) ((nw1 M W who i : Nat) : Int) = ((wrs M W who o (i + 1) : Nat) : Int) := by
          show _ = ((max (wrs M W who o i) (nw1 M W who i) : Nat) : Int)
          unfold maxI; split <;> omega
        rw [e4] at h
        have h : Own e w (blk g 29 _ :: inB q4 W.length c4 (iL W) :: _) := (Own.pk2 h (by repeat (first | with_reducible exact Pick.here | apply Pick.there)) (by repeat (first | with_reducible exact Pick.here | apply Pick.there)))
        exact fin w (refO.cl h)
    · have hne := bool_eq hne
      exact fin w (same (by unfold nw1; rw [if_neg (by omega)]))
    · exact fin w (same (by unfold nw1; rw [if_neg (by rw [em, hb]; simp)]))
  · have hx := dec_f hx
    obtain rfl : i = M.length := by omega
    obtain ⟨q4, c4, h⟩ := refO.op h
    refine Own.stP h (by repeat (first | with_reducible exact Pick.here | apply Pick.there)) (by simp) (by simp [Value.oneCell']) fun w h => ?_
    simp only [setFrom, List.set_cons_zero, List.set_cons_succ, List.set_nil] at h
    refine ⟨_, (Own.ld h (by repeat (first | with_reducible exact Pick.here | apply Pick.there)) (by rfl)), Own.stP h (by repeat (first | with_reducible exact Pick.here | apply Pick.there)) (by simp) (by simp [Value.oneCell']) fun w h => ?_⟩
    simp only [setFrom, List.set_cons_zero, List.set_cons_succ, List.set_nil] at h
    subst hN
    rw [nowi_all] at h
    rw [wI64 (by omega) (by omega)] at h
    refine hK w (refO.cl (q2 := some ⟨g1, 0, none⟩) (c2 := max M.length W.length) ?_)
    rw [nwt_len]
    have et : ((t + 1 : Nat) : Int) = (t : Int) + 1 := rfl
    rw [et]
    exact (Own.sub (h) (by repeat (first | exact Sub.nil _ | exact Sub.rfl _ | (apply Sub.cons; focus ((repeat (first | with_reducible exact Pick.here | apply Pick.there)); done)) | apply Sub.drop)))
theorem refDown {nP : Int} {K3 : List Value → World → Prop} {L k : Nat} (h : Own e w (refO g q1 c1 n1 b t W o :: F)) (hr : ∀ w, Own e w F → RdC w q (M.map Value.bool)) (hM : M.length ≤ 1000) (h1 : 0 < n1) (h0 : tho M ≠ []) (hk : k = (max nP 0).toNat % (tho M).length)
    (hK : ∀ w, Own e w (refO g (slcA q1 1 c1 1) (c1 - 1) (n1 - 1) b t W o :: F) → K3 [.int .i64 ((tho M).getD k 0 : Nat)] w) {l : Nat} (hl : l = M.length) {nM nL : Int} (hnM : nM = ((tho M).length : Nat)) (hnL : nL = (L : Int)) :
    ∃ (h4 : Nat → List Value → World → Prop),
  (∃ (k11 : Nat),
  h4 k11
  [Value.int IntKind.i64 nM, Value.int IntKind.i64 nL,
  Value.int IntKind.i64 (IntKind.wrap IntKind.i64 ((↑l : Int) - (1 : Int)))]
  w) ∧
  ∀ (k12 : Nat) (w8 : World) (n10 n11 n12 : Int) (v28 v29 v30 v31 v32 v33 v34 v35 v36 v37 v38 v39 v40 v41 : Value),
  h4 k12 [Value.int IntKind.i64 n10, Value.int IntKind.i64 n11, Value.int IntKind.i64 n12] w8 →
  (decide (n12 ≥ (0 : Int)) = true →
  (0 : Int) ≤ n12 ∧
  n12 < (↑l : Int) ∧
  someR q fun (a3 : Addr) =>
  ∃ (b2 : Bool),
  cellAt w8 (Addr.add a3 (Int.toNat n12 * (1 : Nat))) (Value.bool b2) ∧
  (b2 = true →
  ((IntKind.wrap IntKind.i64 (n10 - (1 : Int)) == Int.tmod (maxI nP (0 : Int)) nM) = true →
  ∃ (k13 : Nat),
  k13 < k12 ∧
  h4 k13
  [Value.int IntKind.i64 (IntKind.wrap IntKind.i64 (n10 - (1 : Int))), Value.int IntKind.i64 n12,
  Value.int IntKind.i64 (IntKind.wrap IntKind.i64 (n12 - (1 : Int)))]
  w8) ∧
  ((IntKind.wrap IntKind.i64 (n10 - (1 : Int)) == Int.tmod (maxI nP (0 : Int)) nM) = false →
  ∃ (k14 : Nat),
  k14 < k12 ∧
  h4 k14
  [Value.int IntKind.i64 (IntKind.wrap IntKind.i64 (n10 - (1 : Int))), Value.int IntKind.i64 n11,
  Value.int IntKind.i64 (IntKind.wrap IntKind.i64 (n12 - (1 : Int)))]
  w8)) ∧
  (b2 = false →
  ∃ (k15 : Nat),
  k15 < k12 ∧
  h4 k15
  [Value.int IntKind.i64 n10, Value.int IntKind.i64 n11,
  Value.int IntKind.i64 (IntKind.wrap IntKind.i64 (n12 - (1 : Int)))]
  w8)) ∧
  (decide (n12 ≥ (0 : Int)) = false →
  ∃ (q3 : Option Addr),
  ∃ (k16 : Nat),
  ∃ (k17 : Nat),
  cellAt w8 (Addr.add { block := g, off := (0 : Nat) } (0 : Nat)) (Value.slice q3 k16 k17) ∧
  (0 : Int) ≤ (1 : Int) ∧
  (1 : Int) ≤ (↑k16 : Int) ∧
  StoreR (Addr.add { block := g, off := (0 : Nat) } (0 : Nat))
  [Value.slice (slcA q3 (1 : Nat) k17 (1 : Nat)) (k16 - (1 : Nat)) (k17 - (1 : Nat))] w8 fun (w9 : World) =>
  K3 [Value.int IntKind.i64 n11] w9) := by
  subst hl hnM hnL
  have hpos : 0 < (tho M).length := List.length_pos_iff.2 h0
  have hkl : k < (tho M).length := by rw [hk]; exact Nat.mod_lt _ hpos
  have em : Int.tmod (maxI nP 0) ((tho M).length : Int) = (k : Int) := by
    have e1 : maxI nP 0 = max nP 0 := by unfold maxI; split <;> omega
    obtain ⟨j, hj⟩ := Int.eq_ofNat_of_zero_le (show 0 ≤ max nP 0 by omega)
    rw [e1, hk, hj]; rfl
  rw [em]
  refine ⟨fun m vs w => ∃ i : Nat, i ≤ M.length ∧ m = i ∧ vs = [.int .i64 ((thoI M i).length : Nat), .int .i64 (whoD M k L i : Nat), .int .i64 ((i : Int) - 1)] ∧ Own e w (refO g q1 c1 n1 b t W o :: F), ⟨M.length, M.length, Nat.le_refl _, rfl, by rw [whoD_top hkl, wI64 (by omega) (by omega)]; rfl, h⟩, ?_⟩
  rintro m w n10 n11 n12
  intros
  rename_i hI
  obtain ⟨i, hiM, rfl, hvs, h⟩ := hI
  obtain ⟨rfl, rfl, rfl⟩ : n10 = ((thoI M m).length : Nat) ∧ n11 = (whoD M k L m : Nat) ∧ n12 = (m : Int) - 1 := by simpa using hvs
  refine ⟨fun hx => ?_, fun hx => ?_⟩
  · have hx := dec_t hx
    obtain ⟨i, rfl⟩ : ∃ i, m = i + 1 := ⟨m - 1, by omega⟩
    have e1 : ((i + 1 : Nat) : Int) - 1 = (i : Int) := by omega
    have hi : i < M.length := by omega
    have emb : mayB M i = M[i] := by unfold mayB; rw [List.getD_eq_getElem?_getD, List.getElem?_eq_getElem hi]; rfl
    have hlen := thoI_len M i
    rw [e1]
    refine ⟨by omega, by omega, RdC.mp (hr _ h.drop) hi fun a ha => ⟨_, by rw [Int.toNat_natCast]; exact ha, fun hb => ?_, fun hb => ?_⟩⟩
    · have hb : mayB M i = true := by rw [emb]; exact hb
      have e2 : IntKind.wrap .i64 (((thoI M (i + 1)).length : Nat) - 1 : Int) = ((thoI M i).length : Nat) := by
        rw [thoI_yes hb, List.length_append, List.length_singleton, wI64 (by omega) (by omega)]; omega
      rw [e2]
      refine ⟨fun hy => ⟨i, by omega, i, by omega, rfl, ?_, h⟩, fun hy => ⟨i, by omega, i, by omega, rfl, ?_, h⟩⟩
      · have hy := beq_t hy
        rw [whoD_yes hi hb, if_pos (by omega), wI64 (by omega) (by omega)]
      · have hy := beq_f hy
        rw [whoD_yes hi hb, if_neg (by omega), wI64 (by omega) (by omega)]
    · have hb : mayB M i = false := by rw [emb]; exact hb
      exact ⟨i, by omega, i, by omega, rfl, by rw [thoI_no hb, whoD_no hb, wI64 (by omega) (by omega)], h⟩
  · have hx := dec_f hx
    obtain rfl : m = 0 := by omega
    obtain ⟨q4, c4, h⟩ := refO.op h
    refine ⟨_, _, _, (Own.ld h (by repeat (first | with_reducible exact Pick.here | apply Pick.there)) (by rfl)), by omega, by omega, Own.stP h (by repeat (first | with_reducible exact Pick.here | apply Pick.there)) (by simp) (by simp [Value.oneCell']) fun w h => ?_⟩
    simp only [setFrom, List.set_cons_zero, List.set_cons_succ, List.set_nil] at h
    rw [whoD_low]
    exact hK w (refO.cl (Own.sub (h) (by repeat (first | exact Sub.nil _ | exact Sub.rfl _ | (apply Sub.cons; focus ((repeat (first | with_reducible exact Pick.here | apply Pick.there)); done)) | apply Sub.drop))))
end
end Go.Proofs.Ytipcbhaeoeghnaa.Eng
