/- Schedulers: the document's picks, and SchedPicks. -/
import Derived.Test.YtipcbhaeoeghnaaSchR
import Derived.Test.YtipcbhaeoeghnaaSchS
namespace Go.Proofs.Ytipcbhaeoeghnaa.Eng
open Go Go.RowKit Go.Proofs
set_option linter.unusedVariables false
set_option linter.unusedSimpArgs false
set_option maxRecDepth 1000000
def pkP (M : List Bool) (P : List Int) : List Int := if tho M = [] then P else P.tail
def pkT (M : List Bool) (t : Nat) : Nat := if tho M = [] then t else t + 1
def pkW (P : List Int) (b : Int) (M : List Bool) (W : List Nat) : List Nat := if tho M = [] then W else nwt M W (whoP P b M W)
def pkO (P : List Int) (b : Int) (M : List Bool) (W : List Nat) (o : Nat) : Nat := if tho M = [] then o else wrs M W (whoP P b M W) o M.length
def pkN (P : List Int) (b : Int) (M : List Bool) (W : List Nat) : Nat := if tho M = [] then 0 else whoP P b M W
def pkB (M : List Bool) : Bool := decide (tho M ≠ [])
theorem pkW_le {P : List Int} {b : Int} {M : List Bool} {W : List Nat} {L : Nat} (h : ∀ i, wt W i ≤ L) (i : Nat) : wt (pkW P b M W) i ≤ L + 1 := by
  unfold pkW
  split
  · have := h i; omega
  · exact wt_nwt_le h i
theorem pkO_le {P : List Int} {b : Int} {M : List Bool} {W : List Nat} {L o : Nat} (h : ∀ i, wt W i ≤ L) (ho : o ≤ L) : pkO P b M W o ≤ L + 1 := by
  unfold pkO
  split
  · omega
  · exact wrs_le' h (by omega) _
theorem pkW_len {P : List Int} {b : Int} {M : List Bool} {W : List Nat} {L : Nat} (hW : W.length ≤ L) (hM : M.length ≤ L) : (pkW P b M W).length ≤ L := by
  unfold pkW
  split
  · exact hW
  · rw [nwt_len]; omega
section
variable {e w : World} {F : List HP} {g t o n1 c1 : Nat} {q1 : Option Addr} {P : List Int} {b : Int} {W : List Nat} {M : List Bool} {q : Option Addr} {c : Nat}
theorem schPick' (h : Own e w (schO g P b t W o :: F)) (hr : ∀ w, Own e w F → RdC w q (M.map Value.bool)) (hM : M.length ≤ 1000) (hWl : W.length ≤ 1000) (hW : ∀ i, wt W i ≤ 9999) (ho : o ≤ 10000) (ht : t ≤ 10000) (hb : 0 ≤ b ∧ b ≤ 9223372036854775807) (hP : ∀ p ∈ P, -9223372036854775808 ≤ p ∧ p ≤ 9223372036854775807) :
    Rets Try.prog 11 #[.pointer (some ⟨g, 0, none⟩), .slice q M.length c] w fun v w' => v = .tuple #[.int .i64 (pkN P b M W : Nat), .bool (pkB M)] ∧ Own e w' (schO g (pkP M P) b (pkT M t) (pkW P b M W) (pkO P b M W o) :: F) := by
  refine Rets.mono (schPick h hr hM hWl hW ho ht hb hP) ?_
  unfold pkN pkB pkP pkT pkW pkO
  rintro _ w (⟨hz, rfl, h⟩ | ⟨hz, rfl, h⟩)
  · rw [if_pos hz, if_pos hz, if_pos hz, if_pos hz, if_pos hz, decide_eq_false (by simpa using hz)]; exact ⟨rfl, h⟩
  · rw [if_neg hz, if_neg hz, if_neg hz, if_neg hz, if_neg hz, decide_eq_true hz]; exact ⟨rfl, h⟩
theorem refPick {A : World → Prop} (h : Own e w (refO g q1 c1 P.length b t W o :: F)) (hA : ∀ w, Own e w F → A w) (hP : ∀ w, A w → RdC w q1 (cs .i64 P)) (hc1 : P.length ≤ c1) (hr : ∀ w, Own e w F → RdC w q (M.map Value.bool)) (hM : M.length ≤ 1000) (hWl : W.length ≤ 1000) (hW : ∀ i, wt W i ≤ 9999) (ho : o ≤ 10000) (ht : t ≤ 10000) (hb : 0 ≤ b ∧ b ≤ 9223372036854775807) :
    Rets Try.prog 12 #[.pointer (some ⟨g, 0, none⟩), .slice q M.length c] w fun v w' => v = .tuple #[.int .i64 (pkN P b M W : Nat), .bool (pkB M)] ∧ ∃ q' c', (pkP M P).length ≤ c' ∧ (∀ w, A w → RdC w q' (cs .i64 (pkP M P))) ∧ Own e w' (refO g q' c' (pkP M P).length b (pkT M t) (pkW P b M W) (pkO P b M W o) :: F) := by
  refine cortadoref35_S_Pick_go _ _ _ _ ?_
  refine ⟨fun m vs w => ∃ i : Nat, vs = [.int .i64 ((thoI M i).length : Nat), .int .i64 (lngI W (thoI M i)), .int .i64 (i : Int)] ∧ m + i = M.length ∧ Own e w (refO g q1 c1 P.length b t W o :: F), ⟨M.length, 0, rfl, rfl, h⟩, ?_⟩
  rintro m w n1 n2 n3
  intros
  rename_i hI
  obtain ⟨i, hvs, hm, h⟩ := hI
  obtain ⟨rfl, rfl, rfl⟩ : n1 = ((thoI M i).length : Nat) ∧ n2 = lngI W (thoI M i) ∧ n3 = (i : Int) := by simpa using hvs
  have hlen := thoI_len M i
  refine ⟨fun hx => ?_, fun hx => ?_⟩
  · have hx := dec_t hx
    have hi : i < M.length := by omega
    have em : mayB M i = M[i] := by unfold mayB; rw [List.getD_eq_getElem?_getD, List.getElem?_eq_getElem hi]; rfl
    have ei : IntKind.wrap .i64 ((i : Int) + 1) = ((i + 1 : Nat) : Int) := by rw [wI64 (by omega) (by omega)]; rfl
    refine ⟨by omega, by omega, RdC.mp (hr _ h.drop) hi fun a ha => ⟨_, by rw [Int.toNat_natCast]; exact ha, fun hb => ?_, fun hb => ?_⟩⟩
    · have hb : mayB M i = true := by rw [em]; exact hb
      have el : IntKind.wrap .i64 (((thoI M i).length : Nat) + 1 : Int) = ((thoI M (i + 1)).length : Nat) := by
        rw [thoI_yes hb, List.length_append, List.length_singleton, wI64 (by omega) (by omega)]; rfl
      rw [el, ei]
      by_cases he : thoI M i = []
      · have e0 : lngI W (thoI M i) = -1 := by rw [he]; rfl
        rw [e0]
        refine ⟨fun hc => (by cases hc), fun _ => ⟨m - 1, by omega, i + 1, ?_, by omega, h⟩⟩
        have e1 : lngI W (thoI M (i + 1)) = (i : Int) := by rw [thoI_yes hb, he]; rfl
        rw [e1]
      · rw [lngI_some he]
        refine ⟨fun _ => ?_, fun hc => absurd (dec_t hc) (by omega)⟩
        refine Rets.mono (refWaited (i := (i : Int)) h) ?_
        rintro _ w ⟨rfl, h⟩
        refine ⟨_, rfl, ?_⟩
        refine Rets.mono (refWaited (i := ((lng W (thoI M i) : Nat) : Int)) h) ?_
        rintro _ w ⟨rfl, h⟩
        rw [wtI_nat, wtI_nat]
        have e1 := lngI_snoc (W := W) he i
        rw [← thoI_yes hb] at e1
        refine ⟨_, rfl, fun hy => ⟨m - 1, by omega, i + 1, ?_, by omega, h⟩, fun hy => ⟨m - 1, by omega, i + 1, ?_, by omega, h⟩⟩
        · have hy := dec_t hy
          rw [e1, if_pos (by omega)]
        · have hy := dec_f hy
          rw [e1, if_neg (by omega)]
    · have hb : mayB M i = false := by rw [em]; exact hb
      rw [ei]
      exact ⟨m - 1, by omega, i + 1, by rw [thoI_no hb], by omega, h⟩
  · have hx := dec_f hx
    obtain rfl : i = M.length := by omega
    rw [thoI_all] at hlen ⊢
    clear hvs
    refine ⟨fun hz => ?_, fun hz => ?_⟩
    · have hz := beq_t hz
      have hz : tho M = [] := List.eq_nil_of_length_eq_zero (by omega)
      unfold pkN pkB pkP pkT pkW pkO
      rw [if_pos hz, if_pos hz, if_pos hz, if_pos hz, if_pos hz, decide_eq_false (by simpa using hz)]
      exact ⟨rfl, q1, c1, hc1, hP, h⟩
    · have hz := beq_f hz
      have hz : tho M ≠ [] := fun h0 => hz (by rw [h0]; rfl)
      have hpos : 0 < (tho M).length := List.length_pos_iff.2 hz
      rw [lngI_some hz]
      unfold pkN pkB pkP pkT pkW pkO
      rw [if_neg hz, if_neg hz, if_neg hz, if_neg hz, if_neg hz, decide_eq_true hz]
      have hb1 : ∀ w, Own e w (refO g q1 c1 P.length b t W o :: F) → World.cell? w ((⟨g, 0, none⟩ : Addr).add 1) = some (.int .i64 b) := fun w h => by
        obtain ⟨q4, c4, h⟩ := refO.op h
        exact Own.ld h (by repeat (first | with_reducible exact Pick.here | apply Pick.there)) (by rfl)
      have hb0 : ∀ w, Own e w (refO g q1 c1 P.length b t W o :: F) → World.cell? w ((⟨g, 0, none⟩ : Addr).add 0) = some (.slice q1 P.length c1) := fun w h => by
        obtain ⟨q4, c4, h⟩ := refO.op h
        exact Own.ld h (by repeat (first | with_reducible exact Pick.here | apply Pick.there)) (by rfl)
      have tl : 0 < P.length → ∀ w, A w → RdC w (slcA q1 1 c1 1) (cs .i64 P.tail) := fun hp w hw => by
        rcases (hP w hw).slice (l := 1) (m := c1) (z := 1) (by rw [cs_len]; omega) with h1 | h1
        · rw [Nat.one_mul, ← cs_drop, List.drop_one] at h1; exact h1
        · left
          have : P.tail = [] := List.eq_nil_of_length_eq_zero (by rw [List.length_tail]; omega)
          rw [this]; rfl
      have ew : IntKind.wrap .i64 (maxI b (M.length : Int) - (M.length : Int)) = max b (M.length : Int) - (M.length : Int) := by
        have : maxI b (M.length : Int) = max b (M.length : Int) := by unfold maxI; split <;> omega
        rw [this, wI64 (by omega) (by omega)]
      -- what the ways have in common
      let J : List Value → World → Prop := fun vs w => vs = [.int .i64 (whoP P b M W : Nat)] ∧ ∃ q' c', P.tail.length ≤ c' ∧ (∀ w, A w → RdC w q' (cs .i64 P.tail)) ∧ Own e w (refO g q' c' P.tail.length b t W o :: F)
      let KK : Value → World → Prop := fun v w' => v = .tuple #[.int .i64 (whoP P b M W : Nat), .bool true] ∧ ∃ q' c', P.tail.length ≤ c' ∧ (∀ w, A w → RdC w q' (cs .i64 P.tail)) ∧ Own e w' (refO g q' c' P.tail.length b (t + 1) (nwt M W (whoP P b M W)) (wrs M W (whoP P b M W) o M.length) :: F)
      have nope : ∀ w, P = [] → Own e w (refO g q1 c1 P.length b t W o :: F) → J [.int .i64 (lng W (tho M) : Nat)] w := fun w hp h => by
        subst hp
        exact ⟨rfl, q1, c1, by simp, hP, h⟩
      have low : ∀ (K : World → Prop) w, 0 < P.length → (∀ w, Own e w (refO g (slcA q1 1 c1 1) (c1 - 1) P.tail.length b t W o :: F) → K w) → Own e w (refO g q1 c1 P.length b t W o :: F) → ∃ (q4 : Option Addr) (k18 k19 : Nat), cellAt w ((⟨g, 0, none⟩ : Addr).add 0) (.slice q4 k18 k19) ∧ (0 : Int) ≤ 1 ∧ (1 : Int) ≤ (k18 : Int) ∧ StoreR ((⟨g, 0, none⟩ : Addr).add 0) [Value.slice (slcA q4 1 k19 1) (k18 - 1) (k19 - 1)] w K := fun K w hp hK h => by
        obtain ⟨q4, c4, h⟩ := refO.op h
        refine ⟨_, _, _, (Own.ld h (by repeat (first | with_reducible exact Pick.here | apply Pick.there)) (by rfl)), by omega, by omega, Own.stP h (by repeat (first | with_reducible exact Pick.here | apply Pick.there)) (by simp) (by simp [Value.oneCell']) fun w h => ?_⟩
        simp only [setFrom, List.set_cons_zero, List.set_cons_succ, List.set_nil] at h
        refine hK w (refO.cl (q2 := q4) (c2 := c4) ?_)
        rw [List.length_tail]
        exact (Own.sub (h) (by repeat (first | exact Sub.nil _ | exact Sub.rfl _ | (apply Sub.cons; focus ((repeat (first | with_reducible exact Pick.here | apply Pick.there)); done)) | apply Sub.drop)))
      have jl : late b M W → ∀ w, 0 < P.length → Own e w (refO g (slcA q1 1 c1 1) (c1 - 1) P.tail.length b t W o :: F) → J [.int .i64 (lng W (tho M) : Nat)] w := fun hl w hp h => by
        exact ⟨by rw [whoP_late hl], _, _, by rw [List.length_tail]; omega, tl hp, h⟩
      have jn : ∀ (p : Int) (r : List Int), P = p :: r → ¬ late b M W → ∀ w, Own e w (refO g (slcA q1 1 c1 1) (c1 - 1) (P.length - 1) b t W o :: F) → J [.int .i64 ((tho M).getD ((max p 0).toNat % (tho M).length) 0 : Nat)] w := by
        rintro p r hp hl w h
        refine ⟨?_, slcA q1 1 c1 1, c1 - 1, ?_, ?_, ?_⟩
        · rw [hp]
          show _ = [Value.int .i64 ((if late b M W then lng W (tho M) else (tho M).getD ((max p 0).toNat % (tho M).length) 0 : Nat) : Int)]
          rw [if_neg hl]
        · rw [List.length_tail]; omega
        · exact tl (by rw [hp]; simp)
        · rw [List.length_tail]; exact h
      refine h.drw fun w h => ⟨fun w => Own e w (refO g q1 c1 P.length b t W o :: F), h, b, hb1, fun hx => ⟨b, hb1, ?_⟩, fun hx => ?_⟩
      · have hx := dec_t hx
        refine Rets.mono (refWaited (i := ((lng W (tho M) : Nat) : Int)) h) ?_
        rintro _ w ⟨rfl, h⟩
        rw [wtI_nat, ew]
        refine ⟨_, rfl, h, _, _, _, hb0 w h, J, ⟨fun hp => ⟨fun hy => ?_, fun hy => ?_⟩, fun hp => ?_⟩, ?_⟩
        · have hp := dec_t hp
          have hy := dec_f (by simpa only [Bool.not_eq_true'] using hy)
          obtain ⟨p, r, hpr⟩ := List.exists_cons_of_ne_nil (show P ≠ [] from fun h0 => by rw [h0] at hp; simp at hp)
          refine ⟨_, _, _, hb0 w h, by omega, by omega, ?_⟩
          have hr0 := hP w (hA w h.drop)
          rw [hpr] at hr0
          refine RdC.int (l := p :: r) hr0 (i := 0) (by simp) fun a ha => ⟨p, by rw [Nat.zero_mul] at ha; exact ha, by omega, ?_⟩
          exact refDown (k := (max p 0).toNat % (tho M).length) h hr hM (by omega) hz rfl (jn p r hpr (fun hc => hy hc.2)) rfl rfl rfl
        · have hp := dec_t hp
          have hy := dec_t (by simpa only [Bool.not_eq_false'] using hy)
          exact low _ w (by omega) (fun w h => jl ⟨by omega, hy⟩ w (by omega) h) h
        · have hp := dec_f hp
          exact nope w (List.eq_nil_of_length_eq_zero (by omega)) h
        · rintro w v1 n13
          intros
          rename_i hJ
          obtain ⟨hv, q', c', hc', hR', h⟩ := hJ
          obtain rfl : n13 = (whoP P b M W : Nat) := by simpa using hv
          exact refTail (K := KK) h hr hM hWl hW ho ht (fun w h => ⟨rfl, q', c', hc', hR', h⟩) rfl rfl
      · have hx := dec_f hx
        refine ⟨_, _, _, hb0 w h, J, ⟨fun hp => ?_, fun hp => ?_⟩, ?_⟩
        · have hp := dec_t hp
          obtain ⟨p, r, hpr⟩ := List.exists_cons_of_ne_nil (show P ≠ [] from fun h0 => by rw [h0] at hp; simp at hp)
          refine ⟨_, _, _, hb0 w h, by omega, by omega, ?_⟩
          have hr0 := hP w (hA w h.drop)
          rw [hpr] at hr0
          refine RdC.int (l := p :: r) hr0 (i := 0) (by simp) fun a ha => ⟨p, by rw [Nat.zero_mul] at ha; exact ha, by omega, ?_⟩
          exact refDown (k := (max p 0).toNat % (tho M).length) h hr hM (by omega) hz rfl (jn p r hpr (fun hc => hx hc.1)) rfl rfl rfl
        · have hp := dec_f hp
          exact nope w (List.eq_nil_of_length_eq_zero (by omega)) h
        · rintro w v1 n13
          intros
          rename_i hJ
          obtain ⟨hv, q', c', hc', hR', h⟩ := hJ
          obtain rfl : n13 = (whoP P b M W : Nat) := by simpa using hv
          exact refTail (K := KK) h hr hM hWl hW ho ht (fun w h => ⟨rfl, q', c', hc', hR', h⟩) rfl rfl
theorem SchedPicks_spec {W : World} {q q2 : Option Addr} {c c2 : Nat} {ps : List Int} {b : Int} {ts : List (Sl Bool)} (hb : RdC W q (cs .i64 ps)) (hm : ps.length * 8 ≤ 140737488351232) (hc : ps.length ≤ c) (hw : ∀ x ∈ ps, (Lit.int .i64 x).wf = true) (hbw : (Lit.int .i64 b).wf = true)
    (hb2 : RdC W q2 (ts.map Sl.v)) (hm2 : ts.length ≤ maxLen) (hc2 : ts.length ≤ c2) (hw2 : ∀ x ∈ ts, RdC W x.1 (x.2.2.map Value.bool) ∧ x.2.2.length ≤ maxLen ∧ x.2.2.length ≤ x.2.1 ∧ True) :
    Rets Try.prog 3 #[.slice q ps.length c, .int .i64 b, .slice q2 ts.length c2] W fun v w' => v = .bool true ∧ Below W.heap.size W w' := by
  refine Rets.mono (k := fun v w' => v = .bool true ∧ Own W w' [snap W]) ?_ (fun v w' h => ⟨h.1, h.2.below⟩)
  have h := Own.begin W
  have rb := wfI64 hbw
  refine cortadolaw35_SchedPicks_go _ _ _ _ _ _ _ ⟨fun hx => ?_, fun hx => ?_⟩
  · refine Rets.mono (schAwake h) ?_
    rintro _ w ⟨rfl, h⟩
    exact ⟨_, rfl, rfl, h⟩
  have hx := dec_f hx
  refine Rets.mono (schNew (xs := ps) (q := q) (c := c) h (fun w h => h.snapRd hb) (by omega)) ?_
  rintro _ w ⟨g, rfl, h⟩
  have eb : maxI b 0 = max b 0 := by unfold maxI; split <;> omega
  rw [eb]
  obtain ⟨B, hB⟩ : ∃ B, B = max b 0 := ⟨_, rfl⟩
  rw [← hB] at h ⊢
  refine ⟨_, rfl, h.newR fun g2 w h => ?_⟩
  have h := Own.slNil (T := 3) (s := 1) h
  have h : Own W w (refO g2 q c ps.length B 0 [] 0 :: schO g ps B 0 [] 0 :: [snap W]) := refO.cl (q2 := none) (c2 := 0) (W := []) h.swap
  refine ⟨fun m vs w => ∃ (i t o : Nat) (P : List Int) (W' : List Nat) (q' : Option Addr) (c' : Nat), vs = [.int .i64 (i : Int)] ∧ m + i = ts.length ∧ t ≤ i ∧ o ≤ i ∧ (∀ p ∈ P, (Lit.int .i64 p).wf = true) ∧ W'.length ≤ 10 ∧ (∀ j, wt W' j ≤ i) ∧ P.length ≤ c' ∧ (∀ w, Own W w [snap W] → RdC w q' (cs .i64 P)) ∧ Own W w (refO g2 q' c' P.length B t W' o :: schO g P B t W' o :: [snap W]), ⟨ts.length, 0, 0, 0, ps, [], q, c, rfl, rfl, by omega, by omega, hw, by simp, fun j => by simp [wt], hc, fun w h => h.snapRd hb, h⟩, ?_⟩
  rintro m w v1 n3
  intros
  rename_i hI
  obtain ⟨i, t, o, P, W', q', c', hvs, hmi, hti, hoi, hP, hWl, hWi, hPc, hPr, h⟩ := hI
  obtain rfl : n3 = (i : Int) := by simpa using hvs
  have rd : ∀ w, Own W w [snap W] → RdC w q2 (ts.map Sl.v) := fun w h => h.snapRd hb2
  refine ⟨fun hy => ?_, fun hy => ?_⟩
  · have hy := dec_t hy
    have hi : i < ts.length := by omega
    obtain ⟨hx1, hx2, hx3, _⟩ := hw2 _ (List.getElem_mem hi)
    refine ⟨by omega, by omega, RdC.mp (rd w (Own.sub (h) (by repeat (first | exact Sub.nil _ | exact Sub.rfl _ | (apply Sub.cons; focus ((repeat (first | with_reducible exact Pick.here | apply Pick.there)); done)) | apply Sub.drop)))) hi fun a ha => ⟨_, _, _, by rw [Int.toNat_natCast]; exact ha, fun hz => ?_, fun hz => ?_⟩⟩
    · refine Rets.mono (schAwake h) ?_
      rintro _ w ⟨rfl, h⟩
      exact ⟨_, rfl, rfl, (Own.sub (h) (by repeat (first | exact Sub.nil _ | exact Sub.rfl _ | (apply Sub.cons; focus ((repeat (first | with_reducible exact Pick.here | apply Pick.there)); done)) | apply Sub.drop)))⟩
    have hz := dec_f hz
    refine ⟨by omega, by omega, RdC.mp (rd w (Own.sub (h) (by repeat (first | exact Sub.nil _ | exact Sub.rfl _ | (apply Sub.cons; focus ((repeat (first | with_reducible exact Pick.here | apply Pick.there)); done)) | apply Sub.drop)))) hi fun a ha => ⟨_, _, _, by rw [Int.toNat_natCast]; exact ha, ?_⟩⟩
    have hrx : ∀ w, Own W w [snap W] → RdC w ts[i].1 (ts[i].2.2.map Value.bool) := fun w h => h.snapRd hx1
    refine Rets.mono (schPick' (M := ts[i].2.2) h.swap (fun w h => hrx w (Own.sub (h) (by repeat (first | exact Sub.nil _ | exact Sub.rfl _ | (apply Sub.cons; focus ((repeat (first | with_reducible exact Pick.here | apply Pick.there)); done)) | apply Sub.drop)))) (by omega) (by omega) (fun j => by have := hWi j; omega) (by omega) (by omega) ⟨by omega, by omega⟩ (fun p hp => wfI64 (hP p hp))) ?_
    rintro _ w ⟨rfl, h⟩
    refine ⟨_, _, rfl, by omega, by omega, RdC.mp (rd w (Own.sub (h) (by repeat (first | exact Sub.nil _ | exact Sub.rfl _ | (apply Sub.cons; focus ((repeat (first | with_reducible exact Pick.here | apply Pick.there)); done)) | apply Sub.drop)))) hi fun a ha => ⟨_, _, _, by rw [Int.toNat_natCast]; exact ha, ?_⟩⟩
    refine Rets.mono (refPick (A := fun w => Own W w [snap W]) (M := ts[i].2.2) h.swap (fun w h => (Own.sub (h) (by repeat (first | exact Sub.nil _ | exact Sub.rfl _ | (apply Sub.cons; focus ((repeat (first | with_reducible exact Pick.here | apply Pick.there)); done)) | apply Sub.drop)))) hPr hPc (fun w h => hrx w (Own.sub (h) (by repeat (first | exact Sub.nil _ | exact Sub.rfl _ | (apply Sub.cons; focus ((repeat (first | with_reducible exact Pick.here | apply Pick.there)); done)) | apply Sub.drop)))) (by omega) (by omega) (fun j => by have := hWi j; omega) (by omega) (by omega) ⟨by omega, by omega⟩) ?_
    rintro _ w ⟨rfl, q3, c3, hPc3, hPr3, h⟩
    have hW3 : ∀ j, wt (pkW P B ts[i].2.2 W') j ≤ i + 1 := pkW_le hWi
    have hO3 : pkO P B ts[i].2.2 W' o ≤ i + 1 := pkO_le hWi hoi
    have hL3 : (pkW P B ts[i].2.2 W').length ≤ 10 := pkW_len hWl (by omega)
    have hT3 : pkT ts[i].2.2 t ≤ i + 1 := by unfold pkT; split <;> omega
    have hP3 : ∀ p ∈ pkP ts[i].2.2 P, (Lit.int .i64 p).wf = true := fun p hp => by
      unfold pkP at hp
      split at hp
      · exact hP p hp
      · exact hP p (List.mem_of_mem_tail hp)
    generalize pkW P B ts[i].2.2 W' = W3 at hW3 hL3 h ⊢
    generalize pkO P B ts[i].2.2 W' o = o3 at hO3 h ⊢
    generalize pkT ts[i].2.2 t = t3 at hT3 h ⊢
    generalize pkP ts[i].2.2 P = P3 at hP3 hPc3 hPr3 h ⊢
    generalize pkN P B ts[i].2.2 W' = N3
    generalize pkB ts[i].2.2 = B3
    have l0 : ∀ w, Own W w (schO g P3 B t3 W3 o3 :: refO g2 q3 c3 P3.length B t3 W3 o3 :: [snap W]) → World.cell? w ((⟨g2, 0, none⟩ : Addr).add 0) = some (.slice q3 P3.length c3) := fun w h => by
      obtain ⟨q4, c4, h⟩ := refO.op h.swap
      exact Own.ld h (by repeat (first | with_reducible exact Pick.here | apply Pick.there)) (by rfl)
    have l2 : ∀ w, Own W w (schO g P3 B t3 W3 o3 :: refO g2 q3 c3 P3.length B t3 W3 o3 :: [snap W]) → World.cell? w ((⟨g2, 0, none⟩ : Addr).add 2) = some (.int .i64 (t3 : Int)) := fun w h => by
      obtain ⟨q4, c4, h⟩ := refO.op h.swap
      exact Own.ld h (by repeat (first | with_reducible exact Pick.here | apply Pick.there)) (by rfl)
    have l4 : ∀ w, Own W w (schO g P3 B t3 W3 o3 :: refO g2 q3 c3 P3.length B t3 W3 o3 :: [snap W]) → World.cell? w ((⟨g2, 0, none⟩ : Addr).add 4) = some (.int .i64 (o3 : Int)) := fun w h => by
      obtain ⟨q4, c4, h⟩ := refO.op h.swap
      exact Own.ld h (by repeat (first | with_reducible exact Pick.here | apply Pick.there)) (by rfl)
    refine ⟨_, _, rfl, h.swap.drw fun w h => ⟨fun w => Own W w (schO g P3 B t3 W3 o3 :: refO g2 q3 c3 P3.length B t3 W3 o3 :: [snap W]), h, fun _ => ⟨fun _ => ⟨_, _, _, l0, ?_⟩, fun hc => (by simp at hc)⟩, fun hc => (by simp at hc)⟩⟩
    refine Rets.mono (schLeft h) ?_
    rintro _ w ⟨rfl, h⟩
    refine ⟨_, rfl, h, fun _ => ⟨_, l2, ?_⟩, fun hc => (by simp at hc)⟩
    refine Rets.mono (schTurns h) ?_
    rintro _ w ⟨rfl, h⟩
    refine ⟨_, rfl, h, fun _ => ⟨_, l4, ?_⟩, fun hc => (by simp at hc)⟩
    refine Rets.mono (schWorst h) ?_
    rintro _ w ⟨rfl, h⟩
    refine ⟨_, rfl, h, fun hc => (by simp at hc), fun _ => ?_⟩
    refine ⟨fun m vs w => ∃ d : Nat, vs = [.int .i64 ((d : Int) - 1)] ∧ m + d = 12 ∧ Own W w (schO g P3 B t3 W3 o3 :: refO g2 q3 c3 P3.length B t3 W3 o3 :: [snap W]), ⟨12, 0, rfl, rfl, h⟩, ?_⟩
    rintro m2 w v2 n9
    intros
    rename_i hJ
    obtain ⟨d, hvs2, hmd, h⟩ := hJ
    obtain rfl : n9 = (d : Int) - 1 := by simpa using hvs2
    refine ⟨fun hk => ?_, fun hk => ?_⟩
    · have hk := dec_t hk
      refine Rets.mono (schWaited h) ?_
      rintro _ w ⟨rfl, h⟩
      refine ⟨_, rfl, ?_⟩
      refine Rets.mono (refWaited h.swap) ?_
      rintro _ w ⟨rfl, h⟩
      exact ⟨_, rfl, fun hc => (by simp at hc), fun _ => ⟨m2 - 1, by omega, d + 1, by rw [wI64 (by omega) (by omega)]; congr 2; omega, by omega, h.swap⟩⟩
    · have hk := dec_f hk
      exact ⟨m - 1, by omega, i + 1, t3, o3, P3, W3, q3, c3, by rw [wI64 (by omega) (by omega)]; rfl, by omega, hT3, hO3, hP3, hL3, hW3, hPc3, hPr3, h.swap⟩
  · refine Rets.mono (schAwake h) ?_
    rintro _ w ⟨rfl, h⟩
    exact ⟨_, rfl, rfl, (Own.sub (h) (by repeat (first | exact Sub.nil _ | exact Sub.rfl _ | (apply Sub.cons; focus ((repeat (first | with_reducible exact Pick.here | apply Pick.there)); done)) | apply Sub.drop)))⟩
end
end Go.Proofs.Ytipcbhaeoeghnaa.Eng
