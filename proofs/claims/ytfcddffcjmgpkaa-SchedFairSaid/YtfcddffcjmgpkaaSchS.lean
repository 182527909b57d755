/- SchedFair. -/
import Derived.Test.YtfcddffcjmgpkaaSchQ
namespace Go.Proofs.Ytfcddffcjmgpkaa.Eng
open Go Go.RowKit Go.Proofs
set_option linter.unusedVariables false
set_option linter.unusedSimpArgs false
set_option maxRecDepth 1000000
theorem wt_nwt_le {M : List Bool} {W : List Nat} {who L : Nat} (h : ∀ i, wt W i ≤ L) (i : Nat) : wt (nwt M W who) i ≤ L + 1 := by
  rw [wt_nwt]; unfold nw1; have := h i; split <;> omega
theorem wrs_le' {M : List Bool} {W : List Nat} {who L o : Nat} (h : ∀ i, wt W i ≤ L) (ho : o ≤ L + 1) (k : Nat) : wrs M W who o k ≤ L + 1 :=
  wrs_le ho (fun i => by have := h i; unfold nw1; split <;> omega) k
/-- Who may, by the bits of a turn. -/
def bitI (x : Int) (k : Nat) : Bool := Int.tmod (shrI IntKind.u8 x (k : Int)) 2 == 1
def mb (x : Int) (n k : Nat) : List Bool := (List.range n).map fun j => decide (j < k) && bitI x j
theorem mb_len (x : Int) (n k : Nat) : (mb x n k).length = n := by simp [mb]
theorem mb_zero (x : Int) (n : Nat) : mb x n 0 = List.replicate n false := by
  apply List.ext_getElem
  · simp [mb]
  · intro j h1 h2; simp [mb]
theorem mb_yes {x : Int} {n k : Nat} (h : k < n) (hb : bitI x k = true) : (mb x n k).set k true = mb x n (k + 1) := by
  apply List.ext_getElem
  · simp [mb]
  · intro j h1 h2
    rw [List.getElem_set]
    simp only [mb, List.getElem_map, List.getElem_range]
    by_cases hj : k = j
    · subst hj; simp [hb]
    · rw [if_neg hj]
      by_cases hj2 : j < k
      · rw [decide_eq_true hj2, decide_eq_true (show j < k + 1 by omega)]
      · rw [decide_eq_false hj2, decide_eq_false (show ¬ j < k + 1 by omega)]
theorem mb_no {x : Int} {n k : Nat} (hb : bitI x k = false) : mb x n (k + 1) = mb x n k := by
  unfold mb
  refine List.map_congr_left fun j _ => ?_
  by_cases hj : j = k
  · subst hj; simp [hb]
  · by_cases hj2 : j < k
    · rw [decide_eq_true hj2, decide_eq_true (show j < k + 1 by omega)]
    · rw [decide_eq_false hj2, decide_eq_false (show ¬ j < k + 1 by omega)]
theorem mayB_mb {x : Int} {n i : Nat} (hi : i < n) : mayB (mb x n n) i = bitI x i := by
  unfold mayB
  rw [List.getD_eq_getElem?_getD, List.getElem?_eq_getElem (by rw [mb_len]; exact hi)]
  simp [mb, hi]
theorem tho_mb (x : Int) (n : Nat) : tho (mb x n n) = (List.range n).filter (bitI x) := by
  unfold tho
  rw [mb_len]
  exact List.filter_congr fun i hi => mayB_mb (by simpa using hi)
section
variable {e w : World} {F : List HP} {g t o : Nat} {P : List Int} {b : Int} {W : List Nat} {M : List Bool} {q : Option Addr} {c : Nat}
theorem schAwake (h : Own e w F) : Rets Try.prog 58 #[] w fun v w' => v = .bool true ∧ Own e w' F := by
  refine cortadolaw35_awake_go (h.newR fun g1 w h => ?_)
  have h : Own e w (slO 3 1 (some ⟨g1, 0, none⟩) 2 2 (cs .i64 [5, 0]) :: F) := Own.slMk (rest := []) (by rfl) (by omega) (by unfold maxLen; omega) (by rfl) h
  refine Rets.mono (schNew (q := some ⟨g1, 0, none⟩) (c := 2) (xs := [5, 0]) (b := 0) h (fun w h => h.slRd) (by simp)) ?_
  rintro _ w ⟨g, rfl, h⟩
  refine ⟨_, rfl, h.newR fun g2 w h => ?_⟩
  have h : Own e w (slO 4 1 (some ⟨g2, 0, none⟩) 3 3 ([true, true, true].map Value.bool) :: _) := Own.slMk (rest := []) (by rfl) (by omega) (by unfold maxLen; omega) (by rfl) h
  have h0 : ∀ i, wt [] i ≤ 0 := fun i => by simp [wt]
  have h : Own e w (schO g [5, 0] 0 0 [] 0 :: slO 4 1 (some ⟨g2, 0, none⟩) 3 3 ([true, true, true].map Value.bool) :: slO 3 1 (some ⟨g1, 0, none⟩) 2 2 (cs .i64 [5, 0]) :: F) := h.swap
  refine Rets.mono (schPick (M := [true, true, true]) (q := some ⟨g2, 0, none⟩) (c := 3) h (fun w h => h.slRd) (by simp) (by simp) (fun i => by have := h0 i; omega) (by omega) (by omega) ⟨by omega, by omega⟩ (by simp)) ?_
  have e1 : whoP [5, 0] 0 [true, true, true] [] = 2 := by decide
  rw [e1]
  rintro _ w (⟨hz, _⟩ | ⟨_, rfl, h⟩)
  · exact absurd hz (by decide)
  have h1 := wt_nwt_le (M := [true, true, true]) (who := 2) h0
  have h : Own e w (schO g [0] 0 1 (nwt [true, true, true] [] 2) (wrs [true, true, true] [] 2 0 3) :: _) := h
  have l1 : (nwt [true, true, true] [] 2).length = 3 := by rw [nwt_len]; rfl
  have o1 := wrs_le' (M := [true, true, true]) (who := 2) h0 (show 0 ≤ 0 + 1 by omega) 3
  refine ⟨_, _, rfl, ?_⟩
  refine Rets.mono (schPick (M := [true, true, true]) (q := some ⟨g2, 0, none⟩) (c := 3) h (fun w h => h.slRd) (by simp) (by omega) (fun i => by have := h1 i; omega) (by omega) (by omega) ⟨by omega, by omega⟩ (by simp)) ?_
  have e2 : whoP [0] 0 [true, true, true] (nwt [true, true, true] [] 2) = 0 := by decide
  rw [e2]
  rintro _ w (⟨hz, _⟩ | ⟨_, rfl, h⟩)
  · exact absurd hz (by decide)
  have h2 := wt_nwt_le (M := [true, true, true]) (who := 0) h1
  have h : Own e w (schO g [] 0 2 (nwt [true, true, true] (nwt [true, true, true] [] 2) 0) (wrs [true, true, true] (nwt [true, true, true] [] 2) 0 (wrs [true, true, true] [] 2 0 3) 3) :: _) := h
  have l2 : (nwt [true, true, true] (nwt [true, true, true] [] 2) 0).length = 3 := by rw [nwt_len, l1]; rfl
  have o2 := wrs_le' (M := [true, true, true]) (who := 0) h1 (show wrs [true, true, true] [] 2 0 3 ≤ 0 + 1 + 1 by omega) 3
  refine ⟨_, _, rfl, ?_⟩
  refine Rets.mono (schPick (M := [true, true, true]) (q := some ⟨g2, 0, none⟩) (c := 3) h (fun w h => h.slRd) (by simp) (by omega) (fun i => by have := h2 i; omega) (by omega) (by omega) ⟨by omega, by omega⟩ (by simp)) ?_
  have e3 : whoP [] 0 [true, true, true] (nwt [true, true, true] (nwt [true, true, true] [] 2) 0) = 1 := by decide
  rw [e3]
  rintro _ w (⟨hz, _⟩ | ⟨_, rfl, h⟩)
  · exact absurd hz (by decide)
  exact ⟨_, _, rfl, fun _ => ⟨fun _ => ⟨fun _ => ⟨rfl, h.drop.drop.drop⟩, fun hc => (by cases hc)⟩, fun hc => (by cases hc)⟩, fun hc => (by cases hc)⟩
end
theorem SchedFair_spec {W : World} {q q2 : Option Addr} {c c2 : Nat} {ps ts : List Int} {sa sb : Int} (hb : RdC W q (cs .i64 ps)) (hm : ps.length * 8 ≤ 140737488351232) (hc : ps.length ≤ c) (hw : ∀ x ∈ ps, (Lit.int .i64 x).wf = true) (hsa : (Lit.int .u64 sa).wf = true) (hsb : (Lit.int .u64 sb).wf = true)
    (hb2 : RdC W q2 (cs .u8 ts)) (hm2 : ts.length * 1 ≤ 140737488351232) (hc2 : ts.length ≤ c2) (hw2 : ∀ x ∈ ts, (Lit.int .u8 x).wf = true) :
    Rets Try.prog 10 #[.slice q ps.length c, .agg #[.int .u64 sa, .int .u64 sb], .slice q2 ts.length c2] W fun v w' => v = .bool true ∧ Below W.heap.size W w' := by
  refine Rets.mono (k := fun v w' => v = .bool true ∧ Own W w' [snap W]) ?_ (fun v w' h => ⟨h.1, h.2.below⟩)
  have h := Own.begin W
  have ra := wfU64 hsa
  have rb := wfU64 hsb
  refine cortadolaw35_SchedFair_go _ _ _ _ _ _ _ _ ?_
  refine h.newR fun g1 w h => ⟨by omega, by omega, _, (Own.ld h (by repeat (first | with_reducible exact Pick.here | apply Pick.there)) (by rfl)), by omega, by omega, by omega, _, (Own.ld h (by repeat (first | with_reducible exact Pick.here | apply Pick.there)) (by rfl)), by omega, fun hx => ?_, fun hx => ?_⟩
  · refine Rets.mono (schAwake h) ?_
    rintro _ w ⟨rfl, h⟩
    exact ⟨_, rfl, rfl, (Own.sub (h) (by repeat (first | exact Sub.nil _ | exact Sub.rfl _ | (apply Sub.cons; focus ((repeat (first | with_reducible exact Pick.here | apply Pick.there)); done)) | apply Sub.drop)))⟩
  have hx := dec_f hx
  obtain ⟨n, hn⟩ : ∃ n : Nat, n = (sa % 8).toNat + 1 := ⟨_, rfl⟩
  have en : IntKind.wrap .i64 (IntKind.wrap .i64 (Int.tmod sa 8) + 1) = (n : Int) := by
    rw [Int.tmod_eq_emod_of_nonneg (by omega), wI64 (n := sa % 8) (by omega) (by omega), wI64 (by omega) (by omega)]; omega
  obtain ⟨B, hB⟩ : ∃ B : Nat, B = max n (sb % 20).toNat := ⟨_, rfl⟩
  have eB : maxI (n : Int) (IntKind.wrap .i64 (Int.tmod sb 20)) = (B : Int) := by
    rw [Int.tmod_eq_emod_of_nonneg (by omega), wI64 (n := sb % 20) (by omega) (by omega)]
    unfold maxI; split <;> omega
  rw [en, eB, Int.toNat_natCast]
  clear en eB
  have hn8 : n ≤ 8 := by omega
  have hn1 : 1 ≤ n := by omega
  have hBn : n ≤ B := by omega
  have hB28 : B ≤ 28 := by omega
  have rd : ∀ w, Own W w [snap W] → RdC w q2 (cs .u8 ts) := fun w h => h.snapRd hb2
  have h : Own W w [snap W] := h.drop
  refine Rets.mono (schNew (xs := ps) (q := q) (c := c) h (fun w h => h.snapRd hb) (by omega)) ?_
  rintro _ w ⟨g, rfl, h⟩
  have h : Own W w (schO g ps (B : Int) 0 [] 0 :: [snap W]) := by
    have eb : max (B : Int) 0 = (B : Int) := by omega
    rw [eb] at h; exact h
  refine ⟨_, rfl, ?_⟩
  refine ⟨fun m vs w => ∃ (i t o : Nat) (P : List Int) (W' : List Nat), vs = [.int .i64 (i : Int)] ∧ m + i = ts.length ∧ t ≤ i ∧ o < B ∧ (∀ p ∈ P, (Lit.int .i64 p).wf = true) ∧ W'.length ≤ n ∧ fairI (B - n) n W' ∧ Own W w (schO g P (B : Int) t W' o :: [snap W]), ⟨ts.length, 0, 0, 0, ps, [], rfl, rfl, by omega, by omega, hw, by simp, fair_nil _ _, h⟩, ?_⟩
  rintro m w v1 n3
  intros
  rename_i hI
  obtain ⟨i, t, o, P, W', hvs, hmi, hti, ho, hP, hWl, hfair, h⟩ := hI
  obtain rfl : n3 = (i : Int) := by simpa using hvs
  refine ⟨fun hx => ?_, fun hx => ?_⟩
  · have hx := dec_t hx
    have hi : i < (ts : List Int).length := by omega
    refine h.makeR ⟨by omega, by omega, by omega, by omega⟩ fun g2 w h => ?_
    rw [Int.toNat_natCast, zrep_one] at h
    have e0 : List.replicate n (Value.bool false) = (mb ts[i] n 0).map Value.bool := by rw [mb_zero]; simp
    rw [e0] at h
    have h : Own W w (slO 4 1 (some ⟨g2, 0, none⟩) n n ((mb ts[i] n 0).map Value.bool) :: _) := Own.slMk (rest := []) (by simp [mb_len]) (Nat.le_refl _) (by unfold maxLen; omega) (by simp [mb_len]) (by rw [List.append_nil]; exact h)
    refine ⟨fun m vs w => ∃ (k : Nat), vs = [.int .i64 (((List.range k).filter (bitI ts[i])).length : Nat), .int .i64 (k : Int)] ∧ m + k = n ∧ Own W w (slO 4 1 (some ⟨g2, 0, none⟩) n n ((mb ts[i] n k).map Value.bool) :: schO g P (B : Int) t W' o :: [snap W]), ⟨n, 0, rfl, rfl, h⟩, ?_⟩
    rintro m2 w n4 n5
    intros
    rename_i hJ
    obtain ⟨k, hvs2, hmk, h⟩ := hJ
    obtain ⟨rfl, rfl⟩ : n4 = (((List.range k).filter (bitI ts[i])).length : Nat) ∧ n5 = (k : Int) := by simpa using hvs2
    have hfl : ((List.range k).filter (bitI ts[i])).length ≤ k := by
      have := List.length_filter_le (bitI ts[i]) (List.range k)
      simpa using this
    refine ⟨fun hy => ?_, fun hy => ?_⟩
    · have hy := dec_t hy
      have hk : k < n := by omega
      rw [wU64' (n := (k : Int)) (by omega) (by omega)]
      refine ⟨by omega, by omega, RdC.int (rd _ (Own.sub (h) (by repeat (first | exact Sub.nil _ | exact Sub.rfl _ | (apply Sub.cons; focus ((repeat (first | with_reducible exact Pick.here | apply Pick.there)); done)) | apply Sub.drop)))) hi fun a ha => ⟨_, by rw [Int.toNat_natCast]; exact ha, by omega, by omega, ?_⟩⟩
      refine ⟨fun vs w => vs = [.int .i64 (((List.range (k + 1)).filter (bitI ts[i])).length : Nat)] ∧ Own W w (slO 4 1 (some ⟨g2, 0, none⟩) n n ((mb ts[i] n (k + 1)).map Value.bool) :: schO g P (B : Int) t W' o :: [snap W]), ⟨fun hbit => ?_, fun hbit => ?_⟩, ?_⟩
      · have hbit : bitI ts[i] k = true := hbit
        refine ⟨by omega, by omega, ?_⟩
        have key := h.slStore (i := k) (us := [.bool true]) (K := fun w => [Value.int .i64 (IntKind.wrap .i64 ((((List.range k).filter (bitI ts[i])).length : Nat) + 1))] = [.int .i64 (((List.range (k + 1)).filter (bitI ts[i])).length : Nat)] ∧ Own W w (slO 4 1 (some ⟨g2, 0, none⟩) n n ((mb ts[i] n (k + 1)).map Value.bool) :: schO g P (B : Int) t W' o :: [snap W])) (by simp [mb_len]; omega) (by simp) (by simp [Value.oneCell']) (fun w h => ⟨by
            rw [wI64 (by omega) (by omega), List.range_succ, List.filter_append, List.filter_cons_of_pos hbit, List.length_append]; rfl, by
            rw [← mb_yes hk hbit, List.map_set]; exact h⟩)
        rw [Int.toNat_natCast, Nat.mul_one]
        exact key
      · have hbit : bitI ts[i] k = false := hbit
        refine ⟨by rw [List.range_succ, List.filter_append, List.filter_cons_of_neg (by rw [hbit]; simp)]; simp, ?_⟩
        rw [mb_no hbit]; exact h
      · rintro w n7
        intros
        rename_i hJ2
        obtain ⟨hv, h⟩ := hJ2
        obtain rfl : n7 = (((List.range (k + 1)).filter (bitI ts[i])).length : Nat) := by simpa using hv
        exact ⟨m2 - 1, by omega, k + 1, by rw [wI64 (by omega) (by omega)]; rfl, by omega, h⟩
    · have hy := dec_f hy
      obtain rfl : k = n := by omega
      have hlt : ∀ j, wt W' j < B := fun j => by
        by_cases hj : j < k
        · have := fair_lt hfair hj; omega
        · unfold wt; rw [List.getD_eq_getElem?_getD, List.getElem?_eq_none (by omega)]; show 0 < B; omega
      obtain ⟨M, hM⟩ : ∃ M, M = mb ts[i] k k := ⟨_, rfl⟩
      have hMl : M.length = k := by rw [hM, mb_len]
      have eT : ((List.range k).filter (bitI ts[i])).length = (tho M).length := by rw [hM, tho_mb]
      rw [← hM] at h
      rw [eT]
      have h : Own W w (schO g P (B : Int) t W' o :: slO 4 1 (some ⟨g2, 0, none⟩) k k (M.map Value.bool) :: [snap W]) := h.swap
      have hpick := schPick (q := some ⟨g2, 0, none⟩) (M := M) (c := k) h (fun w h => h.slRd) (by omega) (by omega) (fun j => by have := hlt j; omega) (by omega) (by omega) ⟨by omega, by omega⟩ (fun p hp => wfI64 (hP p hp))
      rw [hMl] at hpick
      refine Rets.mono hpick ?_
      clear hpick
      rintro _ w (⟨hz, rfl, h⟩ | ⟨hz, rfl, h⟩)
      · refine ⟨_, _, rfl, fun _ => ⟨fun hc => (by cases hc), fun _ => ?_⟩, fun hc => ?_⟩
        · refine Rets.mono (schWorst h) ?_
          rintro _ w ⟨rfl, h⟩
          refine ⟨_, rfl, fun hc => absurd (dec_t hc) (by omega), fun _ => ⟨m - 1, by omega, i + 1, t, o, P, W', by rw [wI64 (by omega) (by omega)]; rfl, by omega, by omega, ho, hP, hWl, hfair, (Own.sub (h) (by repeat (first | exact Sub.nil _ | exact Sub.rfl _ | (apply Sub.cons; focus ((repeat (first | with_reducible exact Pick.here | apply Pick.there)); done)) | apply Sub.drop)))⟩⟩
        · rw [hz] at hc; cases hc
      · have hpos : 0 < (tho M).length := List.length_pos_iff.2 hz
        have hmem := whoP_mem (P := P) (b := (B : Int)) (W := W') hz
        have hlate : late (B : Int) M W' → whoP P (B : Int) M W' = lng W' (tho M) := whoP_late
        generalize whoP P (B : Int) M W' = who at hmem hlate h ⊢
        have hmm := mem_tho.1 hmem
        have hf2 : fairI (B - k) k (nwt M W' who) := fair_step hMl hfair hmem (fun hl => hlate ⟨by omega, by omega⟩)
        have ho2 : wrs M W' who o k < B := by
          have := wrs_le (L := B - 1) (M := M) (W := W') (who := who) (o := o) (by omega) (fun j => by
            by_cases hj : j < k
            · have := fair_lt hf2 hj; rw [wt_nwt] at this; omega
            · rw [nw1_over (by omega)]; omega) k
          omega
        refine ⟨_, _, rfl, fun _ => ⟨fun _ => ⟨by omega, by omega, true, ?_, fun _ => ?_, fun hc => (by cases hc)⟩, fun hc => (by cases hc)⟩, fun hc => ?_⟩
        · have hw1 : who < M.length := hmm.1
          have key := RdC.mp (k := fun a => cellAt w (a.add (who * 1)) (.bool true)) (h.drop.slRd) hw1 (fun a ha => by
            have em : M[who] = true := by
              have := hmm.2; unfold mayB at this
              rw [List.getD_eq_getElem?_getD, List.getElem?_eq_getElem hw1] at this; exact this
            rw [em] at ha; exact ha)
          rw [Int.toNat_natCast]; exact key
        · refine Rets.mono (schWorst h) ?_
          rintro _ w ⟨rfl, h⟩
          refine ⟨_, rfl, fun hc => absurd (dec_t hc) (by omega), fun _ => ⟨m - 1, by omega, i + 1, t + 1, wrs M W' who o k, P.tail, nwt M W' who, by rw [wI64 (by omega) (by omega)]; rfl, by omega, by omega, ho2, fun p hp => hP p (List.mem_of_mem_tail hp), by rw [nwt_len]; omega, hf2, (Own.sub (h) (by repeat (first | exact Sub.nil _ | exact Sub.rfl _ | (apply Sub.cons; focus ((repeat (first | with_reducible exact Pick.here | apply Pick.there)); done)) | apply Sub.drop)))⟩⟩
        · rw [decide_eq_true (by omega)] at hc; cases hc
  · have hx := dec_f hx
    refine Rets.mono (schWorst h) ?_
    rintro _ w ⟨rfl, h⟩
    refine ⟨_, rfl, fun _ => ?_, fun hc => absurd (dec_f hc) (by omega)⟩
    refine Rets.mono (schAwake h) ?_
    rintro _ w ⟨rfl, h⟩
    exact ⟨_, rfl, rfl, (Own.sub (h) (by repeat (first | exact Sub.nil _ | exact Sub.rfl _ | (apply Sub.cons; focus ((repeat (first | with_reducible exact Pick.here | apply Pick.there)); done)) | apply Sub.drop)))⟩
end Go.Proofs.Ytfcddffcjmgpkaa.Eng
