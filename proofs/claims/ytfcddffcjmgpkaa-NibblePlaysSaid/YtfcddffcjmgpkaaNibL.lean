/- NibblePlays. -/
import Derived.Test.YtfcddffcjmgpkaaNibS
import Derived.Test.YtfcddffcjmgpkaaEngA
namespace Go.Proofs.Ytfcddffcjmgpkaa.Eng
open Go Go.RowKit Go.Proofs
set_option linter.unusedVariables false
set_option linter.unusedSimpArgs false
set_option maxRecDepth 1000000
theorem make64 {e w : World} {F : List HP} {g N : Nat} (h : Own e w (blk g 3 (zrep [.int .i64 0] N) :: F)) (hN : N ≤ 1000000) : Own e w (rfO (some ⟨g, 0, none⟩) N (List.replicate N 0) :: F) := by
  have e1 : cs .i64 (toI (List.replicate N 0)) = List.replicate N (.int .i64 0) := by simp [cs, toI]
  show Own e w (slO 3 1 _ (List.replicate N 0).length N (cs .i64 (toI (List.replicate N 0))) :: F)
  rw [List.length_replicate, e1]
  refine Own.slMk (rest := []) (by simp) (Nat.le_refl _) (by unfold maxLen; omega) (by simp) ?_
  rw [zrep_one] at h
  rw [List.append_nil]; exact h
/-- Steps: a kind, a place. -/
abbrev encS (s : Int × Int) : List Value := [.int .u64 s.1, .int .i64 s.2]
theorem encS_len (s : Int × Int) : (encS s).length = 2 := rfl
section
variable {W : World} {q : Option Addr} {c : Nat} {ss : List (Int × Int)}
theorem NibblePlays_spec {n times : Int} (hn : (Lit.int .i64 n).wf = true) (hb : RdC W q (ss.flatMap encS)) (hm : ss.length ≤ maxLen) (hc : ss.length ≤ c) (hw : ∀ s ∈ ss, (Lit.int .u64 s.1).wf = true ∧ (Lit.int .i64 s.2).wf = true) (ht : (Lit.int .u64 times).wf = true) :
    Rets Try.prog 6 #[.int .i64 n, .slice q ss.length c, .int .u64 times] W fun v w' => v = .bool true ∧ Below W.heap.size W w' := by
  refine Rets.mono (k := fun v w' => v = .bool true ∧ Own W w' [snap W]) ?_ (fun v w' h => ⟨h.1, h.2.below⟩)
  have h := Own.begin W
  have ht := wfU64 ht
  refine cortadolaw10_NibblePlays_go _ _ _ _ _ ?_
  unfold cortadolaw10_NibblePlays_m
  refine ⟨fun hc1 => ⟨fun hc2 => ?_, fun hc2 => ?_⟩, fun hc1 => ?_⟩
  · refine Rets.mono (nAwake_spec h) ?_
    rintro v w1 ⟨rfl, h⟩
    exact ⟨_, rfl, rfl, h⟩
  · have hc1 := dec_f hc1; have hc2 := dec_f hc2
    generalize hN : (max 0 (min n 65536)).toNat = N
    have hN40 : N ≤ 40 := by omega
    have eM : maxI 0 n = (N : Int) := by unfold maxI; split <;> omega
    refine Rets.mono (nNew_spec h hN) ?_
    rintro v w2 ⟨g, rfl, h⟩
    refine ⟨_, rfl, ?_⟩
    rw [eM]
    refine h.makeR ⟨by omega, by omega, by omega, by omega⟩ fun g2 w3 h => ?_
    simp only [Int.toNat_natCast] at h ⊢
    have h := (make64 h (by omega)).swap
    let I : List Nat → Option Addr → Nat → World → Prop := fun ns q c w => nbOk ns ∧ ns.length = N ∧ Own W w (rowO g ns :: rfO q c ns :: [snap W])
    have hI0 : I (List.replicate N 0) (some ⟨g2, 0, none⟩) N w3 := ⟨nbOk_zero N, by simp, h⟩
    refine ⟨fun m vs w => ∃ (i : Nat) (ns : List Nat) (q' : Option Addr) (c' : Nat), vs = [.slice q' N c', .int .i64 (i : Int)] ∧ m + i = ss.length ∧ I ns q' c' w, ⟨ss.length, 0, _, _, _, rfl, rfl, hI0⟩, ?_⟩
    rintro m w4 v3 q2 k3 k4 n1
    intros
    rename_i hI
    obtain ⟨i, ns, q', c', hvs, hm, hI⟩ := hI
    obtain ⟨⟨rfl, rfl, rfl⟩, rfl⟩ : (q2 = q' ∧ k3 = N ∧ k4 = c') ∧ n1 = (i : Int) := by simpa using hvs
    refine ⟨fun hx => ?_, fun hx => ?_⟩
    · have hx := dec_t hx
      have hi : i < ss.length := by omega
      obtain ⟨ad, rfl, hW⟩ := hb.rec encS_len hi (by omega)
      have hk : ∀ w, Own W w [snap W] → cellAt w ((ad.add (i * 2)).add 0) (.int .u64 ss[i].1) := fun w h => h.snapCell (hW i hi 0 _ rfl)
      have ha : ∀ w, Own W w [snap W] → cellAt w ((ad.add (i * 2)).add 1) (.int .i64 ss[i].2) := fun w h => h.snapCell (hW i hi 1 _ rfl)
      have hT : 0 ≤ times.tmod 20 ∧ times.tmod 20 < 20 := by rw [Int.tmod_eq_emod_of_nonneg ht.1]; omega
      refine ⟨fun m vs w => ∃ (j : Nat) (ns : List Nat) (q' : Option Addr) (c' : Nat), vs = [.slice q' k3 c', .int .i64 (j : Int)] ∧ m + j = 21 ∧ I ns q' c' w, ⟨21, 0, ns, _, _, rfl, rfl, hI⟩, ?_⟩
      rintro m2 w5 v84 q3 k7 k8 n2
      intros
      rename_i hJ
      obtain ⟨j, ns, q', c', hvs, hm2, hok, hlen, h⟩ := hJ
      obtain ⟨⟨rfl, rfl, rfl⟩, rfl⟩ : (q3 = q' ∧ k7 = k3 ∧ k8 = c') ∧ n2 = (j : Int) := by simpa using hvs
      have next : ∀ (ns : List Nat) (q' : Option Addr) (c' : Nat) (w : World), (j : Int) ≤ times.tmod 20 → nbOk ns → ns.length = k7 → Own W w (rowO g ns :: rfO q' c' ns :: [snap W]) →
          ∃ k : Nat, k < m2 ∧ ∃ (j' : Nat) (ns : List Nat) (q'' : Option Addr) (c'' : Nat), [Value.slice q' k7 c', .int .i64 (IntKind.wrap IntKind.i64 ((j : Int) + 1))] = [.slice q'' k7 c'', .int .i64 (j' : Int)] ∧ k + j' = 21 ∧ I ns q'' c'' w := fun ns q' c' w hj h1 h2 h3 =>
        ⟨m2 - 1, by omega, j + 1, ns, q', c', by rw [wI64 (by omega) (by omega)]; rfl, by omega, h1, h2, h3⟩
      refine ⟨by omega, fun hy => ?_, fun hy => ?_⟩
      · have hy := dec_t hy
        rw [wI64 (by omega) (by omega)] at hy
        refine ⟨by omega, by omega, _, hk _ h.drop.drop, by omega, fun h8 => ?_, fun _ => ⟨fun h9 => ?_, fun _ => ⟨fun h10 => ?_, fun _ => ?_⟩⟩⟩
        · refine Rets.mono (nHalve_spec h hok (by omega)) ?_
          rintro v w6 ⟨rfl, h⟩
          refine ⟨rfl, ?_⟩
          rw [← hlen]
          refine Rets.mono (rfHalve_spec h (fun w h => h.drop.slRd) hok (by omega)) ?_
          rintro v w7 ⟨q4, c4, rfl, h⟩
          refine ⟨_, _, _, rfl, ?_⟩
          have el : (ngHalve ns).length = ns.length := by simp [ngHalve]
          rw [el, hlen]
          exact next (ngHalve ns) q4 c4 w7 hy (fun x hx => by
            obtain ⟨y, hy, rfl⟩ := List.mem_map.1 hx
            have := hok y hy; omega) (by rw [el, hlen]) (Own.sub (h) (by repeat (first | exact Sub.nil _ | exact Sub.rfl _ | (apply Sub.cons; focus ((repeat (first | with_reducible exact Pick.here | apply Pick.there)); done)) | apply Sub.drop)))
        · refine Rets.mono (nClear_spec h) ?_
          rintro v w8 ⟨rfl, h⟩
          refine ⟨rfl, h.makeR ⟨by omega, by omega, by omega, by omega⟩ fun g3 w9 h => ?_⟩
          simp only [Int.toNat_natCast] at h ⊢
          have h := (make64 h (by omega)).swap
          rw [hlen] at h
          exact next (List.replicate k7 0) (some ⟨g3, 0, none⟩) k7 w9 hy (nbOk_zero _) (by simp) (Own.sub (h) (by repeat (first | exact Sub.nil _ | exact Sub.rfl _ | (apply Sub.cons; focus ((repeat (first | with_reducible exact Pick.here | apply Pick.there)); done)) | apply Sub.drop)))
        · refine h.drw fun w10 h => ⟨fun w => Own W w [snap W], h.drop.drop, by omega, by omega, by omega, by omega, _, fun w hS => ha w hS, _, fun w hS => ha w hS, ?_⟩
          refine Rets.mono (nGet_spec h hok (by omega)) ?_
          rintro v w13 ⟨rfl, h⟩
          refine ⟨_, rfl, h.drop.drop, ?_⟩
          rw [← hlen]
          refine Rets.mono (rfGet_spec (ns := ns) h h.drop.slRd) ?_
          rintro v w14 ⟨rfl, h⟩
          refine ⟨_, rfl, fun hz => (by simp at hz), fun _ => ?_⟩
          rw [hlen]
          exact next ns _ _ w14 hy hok hlen h
        · refine ⟨by omega, by omega, _, ha _ h.drop.drop, ?_⟩
          rw [← hlen]
          refine Rets.mono (rfAdd_spec (i := ss[i].2) h.swap hok (by omega)) ?_
          rintro v w15 ⟨q5, c5, rfl, h⟩
          refine ⟨_, _, _, _, rfl, by omega, by omega, _, ha _ h.drop.drop, ?_⟩
          refine Rets.mono (nAdd_spec (i := ss[i].2) h.swap hok (by omega)) ?_
          rintro v w16 ⟨rfl, h⟩
          refine ⟨_, rfl, fun hz => (by simp at hz), fun _ => ?_⟩
          rw [ngAdd_len, hlen]
          exact next (ngAdd ns ss[i].2) _ _ w16 hy (ngAdd_ok hok _) (by rw [ngAdd_len, hlen]) h
      · rw [← hlen]
        refine Rets.mono (stands_spec h hok (by omega)) ?_
        rintro v w17 ⟨rfl, h⟩
        refine ⟨_, rfl, fun hz => (by cases hz), fun _ => ⟨m - 1, by omega, i + 1, ns, _, _, ?_, by omega, hok, hlen, h⟩⟩
        rw [wI64 (by omega) (by omega), hlen]; rfl
    · refine Rets.mono (nAwake_spec hI.2.2) ?_
      rintro v w18 ⟨rfl, h⟩
      exact ⟨_, rfl, rfl, h.drop.drop⟩
  · refine Rets.mono (nAwake_spec h) ?_
    rintro v w1 ⟨rfl, h⟩
    exact ⟨_, rfl, rfl, h⟩
end
end Go.Proofs.Ytfcddffcjmgpkaa.Eng
