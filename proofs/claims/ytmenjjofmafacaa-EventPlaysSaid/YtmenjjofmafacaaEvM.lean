/- EventPlays: the law. -/
import Derived.Test.YtmenjjofmafacaaEvL
namespace Go.Proofs.Ytmenjjofmafacaa.Eng
open Go Go.RowKit Go.Proofs
set_option linter.unusedVariables false
set_option linter.unusedSimpArgs false
set_option maxRecDepth 1000000
def evFl (c : Int) (l : List (Ev Int)) : List (Ev Int) := l.filter fun x => decide (x.c = c)
theorem evFl_app (c : Int) (l : List (Ev Int)) (x : Ev Int) : evFl c (l ++ [x]) = if x.c = c then evFl c l ++ [x] else evFl c l := by
  unfold evFl
  rw [List.filter_append]
  by_cases h : x.c = c <;> simp [h]
theorem evFl_take {c : Int} {l : List (Ev Int)} {i : Nat} (hi : i < l.length) : evFl c (l.take (i + 1)) = if l[i].c = c then evFl c (l.take i) ++ [l[i]] else evFl c (l.take i) := by
  rw [List.take_succ_eq_append_getElem hi, evFl_app]
theorem evFl_le (c : Int) (l : List (Ev Int)) : (evFl c l).length ≤ l.length := List.length_filter_le _ _
theorem evFl_pre (c : Int) (l : List (Ev Int)) (i : Nat) : evFl c (l.take i) = (evFl c l).take (evFl c (l.take i)).length := by
  have h : evFl c l = evFl c (l.take i) ++ evFl c (l.drop i) := by unfold evFl; rw [← List.filter_append, List.take_append_drop]
  rw [h, List.take_left' rfl]
section
variable {W : World} {q : Option Addr} {c : Nat} {ls : List (Ev Int)}
theorem EventPlays_spec {cause most : Int} (hb : RdC W q (ls.flatMap (encE (Value.int .i64)))) (hm : ls.length ≤ maxLen) (hc : ls.length ≤ c) (hw : ∀ s ∈ ls, (Lit.int .i64 s.c).wf = true ∧ (Lit.int .u64 s.h).wf = true ∧ (Lit.int .u64 s.cf).wf = true ∧ (Lit.int .i64 s.v).wf = true ∧ (Lit.int .i64 s.i).wf = true)
    (hca : (Lit.int .i64 cause).wf = true) (hmo : (Lit.int .u64 most).wf = true) :
    Rets Try.prog 9 #[.slice q ls.length c, .int .i64 cause, .int .u64 most] W fun v w' => v = .bool true ∧ Below W.heap.size W w' := by
  refine Rets.mono (k := fun v w' => v = .bool true ∧ Own W w' [snap W]) ?_ (fun v w' h => ⟨h.1, h.2.below⟩)
  have h := Own.begin W
  have hmo := wfU64 hmo
  refine cortadolaw31_EventPlays_go _ _ _ _ _ ?_
  unfold cortadolaw31_EventPlays_m
  refine h.newR fun g1 w h => h.newR fun g2 w h => ⟨fun hc1 => ?_, fun hc1 => ?_⟩
  · refine Rets.mono (evAwake h) ?_
    rintro _ w ⟨rfl, h⟩
    exact ⟨_, rfl, Own.stP' h (by repeat (first | with_reducible exact Pick.here | apply Pick.there)) (by simp) (by simp [Value.oneCell']) fun w h => ⟨_, (Own.ld' h (by repeat (first | with_reducible exact Pick.here | apply Pick.there)) (by rfl)), rfl, (Own.sub (h) (by repeat (first | exact Sub.nil _ | exact Sub.rfl _ | (apply Sub.cons; focus ((repeat (first | with_reducible exact Pick.here | apply Pick.there)); done)) | apply Sub.drop)))⟩⟩
  have hc1 := dec_f hc1
  refine Rets.mono (evNew_int h) ?_
  rintro _ w ⟨g, rfl, h⟩
  refine ⟨_, rfl, h.newR fun g3 w h => ?_⟩
  let Rest : List HP := blk g1 46 [.int .u64 most] :: blk g2 4 [.bool false] :: [snap W]
  let J : List (Ev Int) → Option Addr → Nat → World → Prop := fun l qs ks w => ∃ (qx : Option Addr) (kx : Nat), l.length ≤ 60 ∧ (∀ x ∈ l, evKn x.c = true) ∧ Own W w (blk g3 83 [.slice qx l.length kx] :: vsO qx kx l :: vsO qs ks (evFl cause l) :: logO_int g l :: Rest)
  have hJ0 : J [] none 0 w := ⟨none, 0, by simp, by simp, by
    have h := Own.slNil (T := 87) (s := 5) (Own.slNil (T := 87) (s := 5) h)
    show Own W w (blk g3 83 [.slice none 0 0] :: slO 87 5 none 0 0 [] :: slO 87 5 none 0 0 [] :: logO_int g [] :: Rest)
    exact (Own.sub (h) (by repeat (first | exact Sub.nil _ | exact Sub.rfl _ | (apply Sub.cons; focus ((repeat (first | with_reducible exact Pick.here | apply Pick.there)); done)) | apply Sub.drop)))⟩
  refine ⟨fun m vs w => ∃ (i : Nat) (l : List (Ev Int)) (qs : Option Addr) (ks : Nat), vs = [.slice qs (evFl cause l).length ks, .int .i64 (i : Int)] ∧ m + i = ls.length ∧ l.length ≤ i ∧ J l qs ks w, ⟨ls.length, 0, [], none, 0, rfl, by omega, by simp, hJ0⟩, ?_⟩
  rintro m w q2 k3 k4 n1
  intros
  rename_i hI
  obtain ⟨i, l, qs, ks, hvs, hm', hli, qx, kx, hl60, hkn, h⟩ := hI
  obtain ⟨⟨rfl, rfl, rfl⟩, rfl⟩ : (q2 = qs ∧ k3 = (evFl cause l).length ∧ k4 = ks) ∧ n1 = (i : Int) := by simpa using hvs
  have hfl := evFl_le cause l
  refine ⟨fun hx => ?_, fun hx => ?_⟩
  · have hx := dec_t hx
    have hi : i < ls.length := by omega
    obtain ⟨ad, rfl, hcell⟩ := RdC.rec (encE_len _) hb hi (by omega)
    have rd : ∀ w, Own W w [snap W] → ∀ (j : Nat) (u : Value), (encE (Value.int .i64) ls[i])[j]? = some u → cellAt w ((ad.add (Int.toNat (i : Int) * 5)).add j) u := fun w h j u hj => by
      rw [Int.toNat_natCast]; exact h.snapCell (hcell i hi j u hj)
    generalize ls[i] = x at rd
    refine h.drw fun w h => ?_
    have r1 := rd w (Own.sub (h) (by repeat (first | exact Sub.nil _ | exact Sub.rfl _ | (apply Sub.cons; focus ((repeat (first | with_reducible exact Pick.here | apply Pick.there)); done)) | apply Sub.drop)))
    refine ⟨by omega, by omega, _, _, _, (Own.ld' h (by repeat (first | with_reducible exact Pick.here | apply Pick.there)) (by rfl)), _, _, _, _, _, ⟨r1 0 _ rfl, r1 1 _ rfl, r1 2 _ rfl, r1 3 _ rfl, r1 4 _ rfl⟩, ?_⟩
    have h' : Own W w (vsO qx kx l :: _) := (Own.pk h (by repeat (first | with_reducible exact Pick.here | apply Pick.there)))
    refine Rets.mono (rAdd_spec (x := x) h' (by omega)) ?_
    rintro _ w ⟨q', k', rfl, h⟩
    have r2 := rd w (Own.sub (h) (by repeat (first | exact Sub.nil _ | exact Sub.rfl _ | (apply Sub.cons; focus ((repeat (first | with_reducible exact Pick.here | apply Pick.there)); done)) | apply Sub.drop)))
    refine ⟨_, _, _, _, rfl, by omega, by omega, _, _, _, _, _, ⟨r2 0 _ rfl, r2 1 _ rfl, r2 2 _ rfl, r2 3 _ rfl, r2 4 _ rfl⟩, ?_⟩
    have h' : Own W w (logO_int g l :: _) := (Own.pk h (by repeat (first | with_reducible exact Pick.here | apply Pick.there)))
    refine Rets.mono (evAdd_int (x := x) h' (by omega)) ?_
    rintro _ w ⟨rfl, h⟩
    refine ⟨_, rfl, fun _ => ?_, fun hz => (by simp at hz)⟩
    refine Rets.mono (evLen_int h) ?_
    rintro _ w ⟨rfl, h⟩
    refine ⟨_, rfl, fun hz => absurd rfl (bool_ne hz), fun _ => ⟨fun hz => ?_, fun hz => ?_⟩⟩
    · rw [hz] at h
      have h : Own W w (logO_int g (l ++ [x]) :: vsO q' k' (l ++ [x]) :: _) := h
      have r3 := rd w (Own.sub (h) (by repeat (first | exact Sub.nil _ | exact Sub.rfl _ | (apply Sub.cons; focus ((repeat (first | with_reducible exact Pick.here | apply Pick.there)); done)) | apply Sub.drop)))
      have next : ∀ q6 k12 w, Own W w (vsO q6 k12 (evFl cause (l ++ [x])) :: logO_int g (l ++ [x]) :: vsO q' k' (l ++ [x]) :: blk g3 83 [.slice qx l.length kx] :: Rest) → 
          StoreR ⟨g3, 0, none⟩ [Value.slice q' (if evKn x.c = true then l ++ [x] else l).length k'] w fun w16 => ∃ k13 : Nat, k13 < m ∧ ∃ (i' : Nat) (l' : List (Ev Int)) (qs : Option Addr) (ks : Nat), [Value.slice q6 (evFl cause (l ++ [x])).length k12, Value.int IntKind.i64 (IntKind.wrap IntKind.i64 ((i : Int) + 1))] = [.slice qs (evFl cause l').length ks, .int .i64 (i' : Int)] ∧ k13 + i' = ls.length ∧ l'.length ≤ i' ∧ J l' qs ks w16 := by
        intro q6 k12 w h
        rw [if_pos hz]
        refine Own.stP' h (by repeat (first | with_reducible exact Pick.here | apply Pick.there)) (by simp) (by simp [Value.oneCell']) fun w h => ?_
        simp only [setFrom, List.set_cons_zero, List.set_cons_succ, List.set_nil] at h
        refine ⟨m - 1, by omega, i + 1, l ++ [x], q6, k12, by rw [wI64 (by omega) (by omega)]; rfl, by omega, by simp; omega, q', k', by simp; omega, ?_, (Own.sub (h) (by repeat (first | exact Sub.nil _ | exact Sub.rfl _ | (apply Sub.cons; focus ((repeat (first | with_reducible exact Pick.here | apply Pick.there)); done)) | apply Sub.drop)))⟩
        intro y hy
        rcases List.mem_append.1 hy with hy | hy
        · exact hkn y hy
        · rw [List.mem_singleton.1 hy]; exact hz
      refine ⟨by omega, by omega, _, r3 0 _ rfl, fun vs w => ∃ q6 k12, vs = [.slice q6 (evFl cause (l ++ [x])).length k12] ∧ Own W w (vsO q6 k12 (evFl cause (l ++ [x])) :: logO_int g (l ++ [x]) :: vsO q' k' (l ++ [x]) :: blk g3 83 [.slice qx l.length kx] :: Rest), ⟨fun hy => ?_, fun hy => ?_⟩, ?_⟩
      · have hy := beq_t hy
        refine ⟨by omega, by omega, _, _, _, _, _, ⟨r3 0 _ rfl, r3 1 _ rfl, r3 2 _ rfl, r3 3 _ rfl, r3 4 _ rfl⟩, h.newR fun g5 w h => ?_⟩
        have h : Own W w (blk g5 87 (encE (Value.int .i64) x) :: vsO q2 k4 (evFl cause l) :: _) := (Own.pk2 h (by repeat (first | with_reducible exact Pick.here | apply Pick.there)) (by repeat (first | with_reducible exact Pick.here | apply Pick.there)))
        refine vsPut h (by omega) fun q6 k12 w h => ⟨_, _, _, rfl, q6, k12, ?_, ?_⟩
        · rw [evFl_app, if_pos hy]; simp
        · rw [evFl_app, if_pos hy]; exact (Own.sub (h) (by repeat (first | exact Sub.nil _ | exact Sub.rfl _ | (apply Sub.cons; focus ((repeat (first | with_reducible exact Pick.here | apply Pick.there)); done)) | apply Sub.drop)))
      · have hy := beq_f hy
        refine ⟨q2, k4, ?_, ?_⟩
        · rw [evFl_app, if_neg hy]
        · rw [evFl_app, if_neg hy]; exact (Own.sub (h) (by repeat (first | exact Sub.nil _ | exact Sub.rfl _ | (apply Sub.cons; focus ((repeat (first | with_reducible exact Pick.here | apply Pick.there)); done)) | apply Sub.drop)))
      · rintro w q6 k11 k12
        intros
        rename_i hJ
        obtain ⟨q7, k7, hvs, h⟩ := hJ
        obtain ⟨rfl, rfl, rfl⟩ : q6 = q7 ∧ k11 = (evFl cause (l ++ [x])).length ∧ k12 = k7 := by simpa using hvs
        exact next _ _ _ h
    · rw [hz] at h ⊢
      have h : Own W w (logO_int g l :: vsO q' k' l :: _) := h
      refine ⟨fun vs w' => vs = [.slice q2 (evFl cause l).length k4] ∧ w' = w, ⟨rfl, rfl⟩, ?_⟩
      rintro w q6 k11 k12
      intros
      rename_i hJ
      obtain ⟨hvs, rfl⟩ := hJ
      obtain ⟨rfl, rfl, rfl⟩ : q6 = q2 ∧ k11 = (evFl cause l).length ∧ k12 = k4 := by simpa using hvs
      rw [if_neg (by simp)]
      refine Own.stP' h (by repeat (first | with_reducible exact Pick.here | apply Pick.there)) (by simp) (by simp [Value.oneCell']) fun w h => ?_
      simp only [setFrom, List.set_cons_zero, List.set_cons_succ, List.set_nil] at h
      exact ⟨m - 1, by omega, i + 1, l, q6, k12, by rw [wI64 (by omega) (by omega)]; rfl, by omega, by omega, q', k', hl60, hkn, (Own.sub (h) (by repeat (first | exact Sub.nil _ | exact Sub.rfl _ | (apply Sub.cons; focus ((repeat (first | with_reducible exact Pick.here | apply Pick.there)); done)) | apply Sub.drop)))⟩
  -- the names and counts
  have hcz : ∀ c, evKn c = false → evCnt l c = 0 := fun c hcz => by
    unfold evCnt
    rw [List.countP_eq_zero]
    intro x hx
    have := hkn x hx
    simp only [decide_eq_true_eq]
    intro e; rw [e, hcz] at this; cases this
  have hcnt : ∀ c, (if evKn c = true then evCnt l c else 0) = evCnt l c := fun c => by
    cases hk : evKn c with
    | true => rfl
    | false => rw [hcz c hk]; rfl
  let B : World → Prop := fun w => Own W w (blk g3 83 [.slice qx l.length kx] :: vsO qx kx l :: vsO q2 k4 (evFl cause l) :: logO_int g l :: Rest)
  refine ⟨fun m vs w => ∃ i : Nat, vs = [.int .i64 ((i : Int) - 1)] ∧ m + i = 9 ∧ B w, ⟨9, 0, rfl, rfl, h⟩, ?_⟩
  rintro m w n19
  intros
  rename_i hI
  obtain ⟨i, hvs, hm', h⟩ := hI
  obtain rfl : n19 = (i : Int) - 1 := by simpa using hvs
  have step : ∀ w, B w → (i : Int) - 1 < 8 → ∃ k18 : Nat, k18 < m ∧ ∃ i' : Nat, [Value.int IntKind.i64 (IntKind.wrap IntKind.i64 ((i : Int) - 1 + 1))] = [.int .i64 ((i' : Int) - 1)] ∧ k18 + i' = 9 ∧ B w := fun w h hi => ⟨m - 1, by omega, i + 1, by rw [wI64 (by omega) (by omega)]; simp, by omega, h⟩
  refine ⟨fun hx => ?_, fun hx => ?_⟩
  · have hx := dec_t hx
    refine ⟨fun hy => ⟨fun vs w => vs = [.string (evName ((i : Int) - 1))] ∧ B w, ⟨fun hz => ?_, fun hz => ?_⟩, ?_⟩, fun hy => ⟨fun vs w => vs = [.string (evName ((i : Int) - 1))] ∧ B w, ?_, ?_⟩⟩
    · have hy := dec_t hy; have hz := dec_t hz
      refine h.newR fun g5 w h => ?_
      rw [wI64 (by omega) (by omega)]
      have hB : B w := h.drop
      refine ⟨by omega, by omega, ?_⟩
      have hcs : i = 2 ∨ i = 3 ∨ i = 4 ∨ i = 5 ∨ i = 6 ∨ i = 7 := by omega
      rcases hcs with rfl | rfl | rfl | rfl | rfl | rfl
      all_goals exact ⟨_, (Own.ld h (by repeat (first | with_reducible exact Pick.here | apply Pick.there)) (by rfl)), rfl, hB⟩
    · have hz := dec_f hz
      refine ⟨?_, h⟩
      unfold evName
      rw [if_neg (by simp [evKn]; omega)]
    rotate_left
    · have hy := dec_f hy
      refine ⟨?_, h⟩
      unfold evName
      rw [if_neg (by simp [evKn]; omega)]
    all_goals
      rintro w s2
      intros
      rename_i hJ
      obtain ⟨hvs, h⟩ := hJ
      obtain rfl : s2 = evName ((i : Int) - 1) := by simpa using hvs
      refine h.drw fun w h => ⟨fun w => B w, h, ?_⟩
      refine ⟨_, _, _, fun w h => (Own.ld' h (by repeat (first | with_reducible exact Pick.here | apply Pick.there)) (by rfl)), ?_⟩
      have h' : Own W w (logO_int g l :: _) := (Own.pk h (by repeat (first | with_reducible exact Pick.here | apply Pick.there)))
      refine Rets.mono (evCount_int h') ?_
      rintro _ w ⟨rfl, h⟩
      refine ⟨_, rfl, (Own.sub (h) (by repeat (first | exact Sub.nil _ | exact Sub.rfl _ | (apply Sub.cons; focus ((repeat (first | with_reducible exact Pick.here | apply Pick.there)); done)) | apply Sub.drop))), ?_⟩
      refine Rets.mono (rCount_spec h (Own.rdP (q := qx) (T := 87) h (by repeat (first | with_reducible exact Pick.here | apply Pick.there))) (by omega)) ?_
      rintro _ _ ⟨rfl, rfl⟩
      rw [hcnt]
      refine ⟨_, rfl, fun _ => ?_, fun hz => absurd rfl (bool_ne hz)⟩
      refine Rets.mono (evName_spec h (by omega)) ?_
      rintro _ w ⟨rfl, h⟩
      refine ⟨_, rfl, fun _ => ?_, fun hz => (by simp at hz)⟩
      refine Rets.mono (evKnown_spec h) ?_
      rintro _ w ⟨rfl, h⟩
      rw [evName_ne]
      refine ⟨_, rfl, fun _ => ?_, fun hz => (by simp at hz)⟩
      refine Rets.mono (evRemoves_spec h) ?_
      rintro _ w ⟨rfl, h⟩
      refine ⟨_, rfl, fun hu => ?_, fun hu => ?_⟩
      · rw [hu]
        refine ⟨fun hz => ?_, fun _ => step _ (Own.sub (h) (by repeat (first | exact Sub.nil _ | exact Sub.rfl _ | (apply Sub.cons; focus ((repeat (first | with_reducible exact Pick.here | apply Pick.there)); done)) | apply Sub.drop))) hx⟩
        exfalso
        by_cases h6 : (i : Int) - 1 = 6 <;> simp [h6] at hz
      · rw [hu]
        exact ⟨fun hz => (by simp at hz), fun _ => step _ (Own.sub (h) (by repeat (first | exact Sub.nil _ | exact Sub.rfl _ | (apply Sub.cons; focus ((repeat (first | with_reducible exact Pick.here | apply Pick.there)); done)) | apply Sub.drop))) hx⟩
  -- each place
  obtain rfl : i = 9 := by have := dec_f hx; omega
  refine ⟨fun m vs w => ∃ i : Nat, vs = [.int .i64 ((i : Int) - 1)] ∧ m + i = l.length + 2 ∧ B w, ⟨l.length + 2, 0, rfl, rfl, h⟩, ?_⟩
  clear step hm' hvs hx
  rintro m w n24
  intros
  rename_i hI
  obtain ⟨i, hvs, hm', h⟩ := hI
  obtain rfl : n24 = (i : Int) - 1 := by simpa using hvs
  refine ⟨_, _, _, (Own.ld' h (by repeat (first | with_reducible exact Pick.here | apply Pick.there)) (by rfl)), fun hx => ?_, fun hx => ?_⟩
  · have hx := dec_t hx
    have step : ∀ w, B w → ∃ k18 : Nat, k18 < m ∧ ∃ i' : Nat, [Value.int IntKind.i64 (IntKind.wrap IntKind.i64 ((i : Int) - 1 + 1))] = [.int .i64 ((i' : Int) - 1)] ∧ k18 + i' = l.length + 2 ∧ B w := fun w h => ⟨m - 1, by omega, i + 1, by rw [wI64 (by omega) (by omega)]; simp, by omega, h⟩
    have h' : Own W w (logO_int g l :: _) := (Own.pk h (by repeat (first | with_reducible exact Pick.here | apply Pick.there)))
    refine Rets.mono (evAt_spec (i := (i : Int) - 1) h') ?_
    rintro _ w ⟨rfl, h⟩
    refine ⟨_, _, _, _, _, _, rfl, h.newR fun g5 w h => Own.stP' h (by repeat (first | with_reducible exact Pick.here | apply Pick.there)) (by simp) (by simp [Value.oneCell']) fun w h => ?_⟩
    simp only [setFrom, List.set_cons_zero, List.set_cons_succ, List.set_nil] at h
    refine h.drw fun w h => ?_
    by_cases hin : 0 ≤ (i : Int) - 1 ∧ (i : Int) - 1 < l.length
    · obtain ⟨k, hk⟩ : ∃ k : Nat, (i : Int) - 1 = k := ⟨i - 1, by omega⟩
      rw [hk] at h ⊢
      have hkl : k < l.length := by omega
      have e1 : (if (0 : Int) ≤ (k : Int) then (l[(k : Int).toNat]?).getD evZero else evZero) = l[k] := by
        rw [if_pos (by omega), Int.toNat_natCast, List.getElem?_eq_getElem hkl]; rfl
      have e2 : decide (0 ≤ (k : Int) ∧ (k : Int) < l.length) = true := decide_eq_true (by omega)
      have e3 : decide ((k : Int) < l.length) = true := decide_eq_true (by omega)
      rw [e1] at h
      rw [e2]
      refine ⟨fun _ => ?_, fun hz => absurd (dec_f hz) (by omega)⟩
      refine ⟨_, _, _, (Own.ld' h (by repeat (first | with_reducible exact Pick.here | apply Pick.there)) (by rfl)), fun _ => ⟨fun _ => ?_, fun hz => (by cases hz)⟩, fun hz => ?_⟩
      · (refine ⟨_, _, _, _, _, ⟨(Own.ld h (by repeat (first | with_reducible exact Pick.here | apply Pick.there)) (by rfl)), (Own.ld h (by repeat (first | with_reducible exact Pick.here | apply Pick.there)) (by rfl)), (Own.ld h (by repeat (first | with_reducible exact Pick.here | apply Pick.there)) (by rfl)), (Own.ld h (by repeat (first | with_reducible exact Pick.here | apply Pick.there)) (by rfl)), (Own.ld h (by repeat (first | with_reducible exact Pick.here | apply Pick.there)) (by rfl))⟩, ?_⟩)
        refine ⟨_, _, _, (Own.ld' h (by repeat (first | with_reducible exact Pick.here | apply Pick.there)) (by rfl)), by omega, by omega, ?_⟩
        obtain ⟨ad, ead, hcell⟩ := RdC.rec (encE_len _) (Own.rdP (q := qx) (T := 87) h (by repeat (first | with_reducible exact Pick.here | apply Pick.there))) hkl (by omega)
        rw [ead]
        have cc := fun j u hj => hcell k hkl j u hj
        refine ⟨_, _, _, _, _, ⟨cc 0 _ rfl, cc 1 _ rfl, cc 2 _ rfl, cc 3 _ rfl, cc 4 _ rfl⟩, fun hz => ?_, fun _ => ?_⟩
        · simp at hz
        · rw [← hk]; exact step _ (Own.sub (h) (by repeat (first | exact Sub.nil _ | exact Sub.rfl _ | (apply Sub.cons; focus ((repeat (first | with_reducible exact Pick.here | apply Pick.there)); done)) | apply Sub.drop)))
      · rw [e3] at hz; cases hz
    · have e2 : decide (0 ≤ (i : Int) - 1 ∧ (i : Int) - 1 < l.length) = false := decide_eq_false hin
      rw [e2]
      refine ⟨fun hy => ?_, fun hy => ?_⟩
      · have hy := dec_t hy
        have e3 : decide ((i : Int) - 1 < l.length) = false := decide_eq_false (by omega)
        refine ⟨_, _, _, (Own.ld' h (by repeat (first | with_reducible exact Pick.here | apply Pick.there)) (by rfl)), fun _ => ⟨fun hz => (by cases hz), fun _ => step _ (Own.sub (h) (by repeat (first | exact Sub.nil _ | exact Sub.rfl _ | (apply Sub.cons; focus ((repeat (first | with_reducible exact Pick.here | apply Pick.there)); done)) | apply Sub.drop)))⟩, fun hz => ?_⟩
        rw [e3] at hz; cases hz
      · exact ⟨fun _ => ⟨fun hz => (by cases hz), fun _ => step _ (Own.sub (h) (by repeat (first | exact Sub.nil _ | exact Sub.rfl _ | (apply Sub.cons; focus ((repeat (first | with_reducible exact Pick.here | apply Pick.there)); done)) | apply Sub.drop)))⟩, fun hz => (by cases hz)⟩
  -- all of a cause
  refine h.newR fun g13 w h => ?_
  refine Rets.mono (evAll_int h) ?_
  rintro _ w ⟨a, b, rfl, h⟩
  refine ⟨_, _, _, rfl, fun hx => (by cases hx), fun _ => h.newR fun g15 w h => h.newR fun g16 w h => ?_⟩
  refine Own.stP' h (by repeat (first | with_reducible exact Pick.here | apply Pick.there)) (by simp) (by simp [Value.oneCell']) fun w h => ?_
  simp only [setFrom, List.set_cons_zero, List.set_cons_succ, List.set_nil] at h
  refine ⟨_, _, rfl, h.loopR fun mk lp L w h hround => ?_⟩
  have h : Own W w (logO_int g l :: _) := (Own.pk h (by repeat (first | with_reducible exact Pick.here | apply Pick.there)))
  obtain ⟨ql, kl, h⟩ := logO.op h
  have hT : 0 ≤ most.tmod 65 ∧ most.tmod 65 < 65 := by rw [Int.tmod_eq_emod_of_nonneg hmo.1]; omega
  obtain ⟨M, hM⟩ := Int.eq_ofNat_of_zero_le hT.1
  have eM : IntKind.wrap IntKind.i64 (most.tmod 65) = (M : Int) := by rw [wI64 (by omega) (by omega), hM]
  let Tail : List HP := pt mk (.deferred (some [])) :: blk g13 3 [.int .i64 cause] :: blk g3 83 [.slice qx l.length kx] :: vsO qx kx l :: vsO q2 k4 (evFl cause l) :: Rest
  let At : Nat → HP := fun i => exH fun z : Int => puH (z < i) (blk g16 3 [.int .i64 z])
  let Got : List (Ev Int) → HP := fun l => exH fun q' => exH fun c' => allH [blk g15 83 [.slice q' l.length c'], vsO q' c' l]
  let Fr : Nat → List HP := fun i => puH ((evFl cause (l.take i)).length ≤ M) (At i) :: Got (evFl cause (l.take i)) :: pt lp (LoopObj L .ready none) :: Tail
  have gotOp : ∀ {w} {l : List (Ev Int)} {R : List HP}, Own W w (Got l :: R) → ∃ q' c', Own W w (blk g15 83 [.slice q' l.length c'] :: vsO q' c' l :: R) := fun h => by
    obtain ⟨q', h⟩ := h.ex
    obtain ⟨c', h⟩ := h.ex
    exact ⟨q', c', h.open_⟩
  have gotCl : ∀ {w} {l : List (Ev Int)} {R : List HP} {q' c'}, Own W w (blk g15 83 [.slice q' l.length c'] :: vsO q' c' l :: R) → Own W w (Got l :: R) := fun {w} {l} {R} {q'} {c'} h => by
    have h : Own W w ([blk g15 83 [.slice q' l.length c'], vsO q' c' l] ++ R) := h
    exact Own.mkEx q' (Own.mkEx c' h.close_)
  let Fin : World → Prop := fun w => Own W w (Got ((evFl cause l).take M) :: pt lp (LoopObj L .done (some (Code.exit 6))) :: logO_int g l :: Tail)
  have h0 : Own W w (evB_int a b g (some ⟨g13, 0, none⟩) [cause].length 1 ql kl l (Fr 0)) := by
    have h := Own.slNil (T := 87) (s := 5) h
    have h : Own W w (blk g15 83 [.slice none 0 0] :: slO 87 5 none 0 0 [] :: _) := (Own.pk2 h (by repeat (first | with_reducible exact Pick.here | apply Pick.there)) (by repeat (first | with_reducible exact Pick.here | apply Pick.there)))
    have h := gotCl (l := []) h
    have h : Own W w (blk g16 3 [.int .i64 (-1)] :: _) := (Own.pk h (by repeat (first | with_reducible exact Pick.here | apply Pick.there)))
    have h := Own.mkPu (p := (evFl cause (l.take 0)).length ≤ M) (Nat.zero_le _) (Own.mkEx (P := fun z : Int => puH (z < (0 : Nat)) (blk g16 3 [.int .i64 z])) (-1) (Own.mkPu (by decide) h))
    have h : Own W w (Got (evFl cause (l.take 0)) :: _) := ((Own.pk h (by repeat (first | with_reducible exact Pick.here | apply Pick.there))) : Own W w (Got [] :: _))
    have h : Own W w (blk b 26 [.slice (some ⟨g13, 0, none⟩) [cause].length 1] :: _) := ((Own.pk h (by repeat (first | with_reducible exact Pick.here | apply Pick.there))) : Own W w (blk b 26 [.slice (some ⟨g13, 0, none⟩) 1 1] :: _))
    exact (Own.sub (h) (by repeat (first | exact Sub.nil _ | exact Sub.rfl _ | (apply Sub.cons; focus ((repeat (first | with_reducible exact Pick.here | apply Pick.there)); done)) | apply Sub.drop)))
  refine Rets.mono (evAll1_int (cl := [cause]) (l := l) (q := ql) (c := kl) (k2 := 1) (g := g) (Fr := Fr) (Fin := Fin) (by omega) (by simp) (fun w i h => (Own.blkRd (g := g13) (T := 3) (Own.pk h (by repeat (first | with_reducible exact Pick.here | apply Pick.there))) : RdC w _ [.int .i64 cause])) (fun i w hi hwant h => ?_) (fun i w hi hn h => ?_) h0) ?_
  · have hlc : l[i].c = cause := by
      rcases hwant with h1 | h1
      · cases h1
      · simpa using h1
    refine hround _ _ _ _ _ _ w _ (Own.recR (l := lp) (L := L) (Own.pk h (by repeat (first | with_reducible exact Pick.here | apply Pick.there)))) ?_
    refine h.newR fun g6 w h => Own.stP' h (by repeat (first | with_reducible exact Pick.here | apply Pick.there)) (by simp) (by simp [Value.oneCell']) fun w h => ?_
    simp only [setFrom, List.set_cons_zero, List.set_cons_succ, List.set_nil] at h
    refine Own.begR (l := lp) (L := L) (Own.pk h (by repeat (first | with_reducible exact Pick.here | apply Pick.there))) fun w h => ?_
    have h : Own W w (puH ((evFl cause (l.take i)).length ≤ M) (At i) :: _) := (Own.pk h (by repeat (first | with_reducible exact Pick.here | apply Pick.there)))
    obtain ⟨hle, h⟩ := h.pu
    obtain ⟨z, h⟩ := h.ex
    obtain ⟨hz, h⟩ := h.pu
    have h : Own W w (Got (evFl cause (l.take i)) :: _) := (Own.pk h (by repeat (first | with_reducible exact Pick.here | apply Pick.there)))
    obtain ⟨q', c', h⟩ := gotOp h
    have hll := evFl_le cause (l.take i)
    have hl2 : (l.take i).length ≤ l.length := by simp; omega
    refine ⟨_, _, _, (Own.ld' h (by repeat (first | with_reducible exact Pick.here | apply Pick.there)) (by rfl)), _, (Own.ld' h (by repeat (first | with_reducible exact Pick.here | apply Pick.there)) (by rfl)), by omega, ?_⟩
    rw [eM]
    refine ⟨fun hy => ?_, fun hy => ?_⟩
    · have hy := dec_t hy
      refine Own.finF (l := lp) (L := L) (Own.pk h (by repeat (first | with_reducible exact Pick.here | apply Pick.there))) fun w h => .inr ⟨rfl, ?_⟩
      have e1 : evFl cause (l.take i) = (evFl cause l).take M := by
        have := evFl_pre cause l i
        rw [show (evFl cause (l.take i)).length = M by omega] at this
        exact this
      have h := gotCl (q' := q') (c' := c') (Own.pk2 h (by repeat (first | with_reducible exact Pick.here | apply Pick.there)) (by repeat (first | with_reducible exact Pick.here | apply Pick.there)))
      rw [e1] at h
      have h := logO.cl (T := 113) (E := 61) (f := Value.int .i64) (g := g) (l := l) (q := ql) (c := kl) (Own.pk2 h (by repeat (first | with_reducible exact Pick.here | apply Pick.there)) (by repeat (first | with_reducible exact Pick.here | apply Pick.there)))
      exact (Own.sub (h) (by repeat (first | exact Sub.nil _ | exact Sub.rfl _ | (apply Sub.cons; focus ((repeat (first | with_reducible exact Pick.here | apply Pick.there)); done)) | apply Sub.drop)))
    · have hy := dec_f hy
      refine h.drw fun w h => ⟨_, (Own.ld' h (by repeat (first | with_reducible exact Pick.here | apply Pick.there)) (by rfl)), fun _ => ?_, fun hv => absurd (dec_t hv) (by omega)⟩
      refine ⟨_, _, _, (Own.ld' h (by repeat (first | with_reducible exact Pick.here | apply Pick.there)) (by rfl)), fun _ => ?_, fun hv => absurd (dec_t hv) (by omega)⟩
      refine ⟨_, _, _, (Own.ld' h (by repeat (first | with_reducible exact Pick.here | apply Pick.there)) (by rfl)), ?_⟩
      obtain ⟨ad, ead, hcell⟩ := RdC.rec (encE_len _) (Own.rdP (q := qx) (T := 87) h (by repeat (first | with_reducible exact Pick.here | apply Pick.there))) hi (by omega)
      have cc := fun j u hj => hcell i hi j u hj
      refine ⟨by omega, by omega, ?_⟩
      rw [ead]
      refine ⟨_, _, _, _, _, ⟨cc 0 _ rfl, cc 1 _ rfl, cc 2 _ rfl, cc 3 _ rfl, cc 4 _ rfl⟩, ?_⟩
      (refine ⟨_, _, _, _, _, ⟨(Own.ld h (by repeat (first | with_reducible exact Pick.here | apply Pick.there)) (by rfl)), (Own.ld h (by repeat (first | with_reducible exact Pick.here | apply Pick.there)) (by rfl)), (Own.ld h (by repeat (first | with_reducible exact Pick.here | apply Pick.there)) (by rfl)), (Own.ld h (by repeat (first | with_reducible exact Pick.here | apply Pick.there)) (by rfl)), (Own.ld h (by repeat (first | with_reducible exact Pick.here | apply Pick.there)) (by rfl))⟩, ?_⟩)
      refine ⟨fun hv => (by simp at hv), fun _ => Own.stP' h (by repeat (first | with_reducible exact Pick.here | apply Pick.there)) (by simp) (by simp [Value.oneCell']) fun w h => ?_⟩
      simp only [setFrom, List.set_cons_zero, List.set_cons_succ, List.set_nil] at h
      refine ⟨_, _, _, (Own.ld' h (by repeat (first | with_reducible exact Pick.here | apply Pick.there)) (by rfl)), ?_⟩
      (refine ⟨_, _, _, _, _, ⟨(Own.ld h (by repeat (first | with_reducible exact Pick.here | apply Pick.there)) (by rfl)), (Own.ld h (by repeat (first | with_reducible exact Pick.here | apply Pick.there)) (by rfl)), (Own.ld h (by repeat (first | with_reducible exact Pick.here | apply Pick.there)) (by rfl)), (Own.ld h (by repeat (first | with_reducible exact Pick.here | apply Pick.there)) (by rfl)), (Own.ld h (by repeat (first | with_reducible exact Pick.here | apply Pick.there)) (by rfl))⟩, ?_⟩)
      refine h.newR fun g7 w h => ?_
      have h : Own W w (blk g7 87 (encE (Value.int .i64) l[i]) :: vsO q' c' (evFl cause (l.take i)) :: _) := (Own.pk2 h (by repeat (first | with_reducible exact Pick.here | apply Pick.there)) (by repeat (first | with_reducible exact Pick.here | apply Pick.there)))
      refine vsPut h (by omega) fun q'' c'' w h => ⟨_, _, _, rfl, Own.stP' h (by repeat (first | with_reducible exact Pick.here | apply Pick.there)) (by simp) (by simp [Value.oneCell']) fun w h => ?_⟩
      simp only [setFrom, List.set_cons_zero, List.set_cons_succ, List.set_nil] at h
      refine Own.finT (l := lp) (L := L) (Own.pk h (by repeat (first | with_reducible exact Pick.here | apply Pick.there))) fun w h => .inl ⟨rfl, ?_⟩
      have e2 : evFl cause (l.take (i + 1)) = evFl cause (l.take i) ++ [l[i]] := by rw [evFl_take hi, if_pos hlc]
      have h : Own W w (vsO q'' c'' (evFl cause (l.take i) ++ [l[i]]) :: blk g15 83 [.slice q'' ((evFl cause (l.take i)).length + 1) c''] :: _) := (Own.pk2 h (by repeat (first | with_reducible exact Pick.here | apply Pick.there)) (by repeat (first | with_reducible exact Pick.here | apply Pick.there)))
      have e4 : (evFl cause (l.take i)).length + 1 = (evFl cause (l.take i) ++ [l[i]]).length := by simp
      rw [e4] at h
      have h := gotCl (Own.swap h)
      rw [← e2] at h
      have h : Own W w (blk g16 3 [.int .i64 (i : Int)] :: _) := (Own.pk h (by repeat (first | with_reducible exact Pick.here | apply Pick.there)))
      have h := Own.mkPu (p := (evFl cause (l.take (i + 1))).length ≤ M) (by rw [e2, List.length_append]; simp; omega) (Own.mkEx (P := fun z : Int => puH (z < (i + 1 : Nat)) (blk g16 3 [.int .i64 z])) (i : Int) (Own.mkPu (by omega) h))
      exact (Own.sub (h) (by repeat (first | exact Sub.nil _ | exact Sub.rfl _ | (apply Sub.cons; focus ((repeat (first | with_reducible exact Pick.here | apply Pick.there)); done)) | apply Sub.drop)))
  · have hlc : ¬ l[i].c = cause := fun hh => hn (.inr (by simp [hh]))
    have e2 : evFl cause (l.take (i + 1)) = evFl cause (l.take i) := by rw [evFl_take hi, if_neg hlc]
    have h : Own W w (puH ((evFl cause (l.take i)).length ≤ M) (At i) :: _) := (Own.pk h (by repeat (first | with_reducible exact Pick.here | apply Pick.there)))
    obtain ⟨hle, h⟩ := h.pu
    obtain ⟨z, h⟩ := h.ex
    obtain ⟨hz, h⟩ := h.pu
    have h := Own.mkPu (p := (evFl cause (l.take (i + 1))).length ≤ M) (by rw [e2]; exact hle) (Own.mkEx (P := fun z : Int => puH (z < (i + 1 : Nat)) (blk g16 3 [.int .i64 z])) z (Own.mkPu (by omega) h))
    have h : Own W w (Got (evFl cause (l.take i)) :: _) := (Own.pk h (by repeat (first | with_reducible exact Pick.here | apply Pick.there)))
    rw [← e2] at h
    exact (Own.sub (h) (by repeat (first | exact Sub.nil _ | exact Sub.rfl _ | (apply Sub.cons; focus ((repeat (first | with_reducible exact Pick.here | apply Pick.there)); done)) | apply Sub.drop)))
  · rintro v w hfin
    have hfin : (EndR lp L none w fun w => Own W w (Got ((evFl cause l).take M) :: logO_int g l :: Tail)) ∨ (EndR lp L (some (Code.exit 6)) w fun w => Own W w (Got ((evFl cause l).take M) :: logO_int g l :: Tail)) := by
      rcases hfin with h | h
      · left
        have h : Own W w (puH ((evFl cause (l.take l.length)).length ≤ M) (At l.length) :: _) := (Own.pk h (by repeat (first | with_reducible exact Pick.here | apply Pick.there)))
        obtain ⟨hle, h⟩ := h.pu
        rw [List.take_length] at hle h
        refine Own.endR (l := lp) (L := L) (Own.pk h (by repeat (first | with_reducible exact Pick.here | apply Pick.there))) (by simp) fun w h => ?_
        have h := logO.cl (T := 113) (E := 61) (f := Value.int .i64) (g := g) (l := l) (q := ql) (c := kl) (Own.pk2 h (by repeat (first | with_reducible exact Pick.here | apply Pick.there)) (by repeat (first | with_reducible exact Pick.here | apply Pick.there)))
        rw [List.take_of_length_le hle]
        exact (Own.sub (h) (by repeat (first | exact Sub.nil _ | exact Sub.rfl _ | (apply Sub.cons; focus ((repeat (first | with_reducible exact Pick.here | apply Pick.there)); done)) | apply Sub.drop)))
      · right
        exact Own.endR (l := lp) (L := L) (Own.pk h (by repeat (first | with_reducible exact Pick.here | apply Pick.there))) (by simp) fun w h => (Own.sub (h) (by repeat (first | exact Sub.nil _ | exact Sub.rfl _ | (apply Sub.cons; focus ((repeat (first | with_reducible exact Pick.here | apply Pick.there)); done)) | apply Sub.drop)))
    refine EndR.tail3 _ (fun w h => ?_) hfin
    obtain ⟨q', c', h⟩ := gotOp h
    have hcap : (evFl cause l).length ≤ k4 := (Own.slFacts (T := 87) (q := q2) (c := k4) (xs := (evFl cause l).flatMap (encE (Value.int .i64))) (Own.pk h (by repeat (first | with_reducible exact Pick.here | apply Pick.there)))).2.1
    refine h.drw fun w h => ⟨fun w => Own _ w _, h, ?_⟩
    refine ⟨_, _, _, fun w h => (Own.ld' h (by repeat (first | with_reducible exact Pick.here | apply Pick.there)) (by rfl)), _, fun w h => (Own.ld' h (by repeat (first | with_reducible exact Pick.here | apply Pick.there)) (by rfl)), by omega, ?_⟩
    rw [eM]
    have emin : minI ((evFl cause l).length : Int) (M : Int) = (((evFl cause l).take M).length : Int) := by
      rw [List.length_take]; unfold minI; split <;> omega
    rw [emin]
    have hlt : ((evFl cause l).take M).length ≤ (evFl cause l).length := by simp; omega
    refine ⟨by omega, by omega, ?_⟩
    rw [Int.toNat_natCast, Nat.sub_zero]
    have hrd2 : ∀ w, Own W w (blk g15 83 [.slice q' ((evFl cause l).take M).length c'] :: vsO q' c' ((evFl cause l).take M) :: logO_int g l :: Tail) → RdC w (slcA q2 0 k4 5) (((evFl cause l).take M).flatMap (encE (Value.int .i64))) := fun w h => by
      have h1 : RdC w q2 ((evFl cause l).flatMap (encE (Value.int .i64))) := Own.rdP (T := 87) h (by repeat (first | with_reducible exact Pick.here | apply Pick.there))
      have e3 : (evFl cause l).flatMap (encE (Value.int .i64)) = ((evFl cause l).take M).flatMap (encE (Value.int .i64)) ++ ((evFl cause l).drop M).flatMap (encE (Value.int .i64)) := by
        rw [← List.flatMap_append, List.take_append_drop]
      rcases h1.slice (l := 0) (m := k4) (z := 5) (by omega) with h2 | h2
      · rw [Nat.zero_mul, List.drop_zero, e3] at h2
        have h3 := h2.take (((evFl cause l).take M).flatMap (encE (Value.int .i64))).length
        rw [List.take_left' rfl] at h3
        exact h3
      · left
        have : (evFl cause l) = [] := List.eq_nil_of_length_eq_zero (by omega)
        rw [this]; simp
    refine Rets.mono (rSame_spec (l := (evFl cause l).take M) h (fun w h => (Own.rdP (T := 87) h (by repeat (first | with_reducible exact Pick.here | apply Pick.there)))) hrd2 (by omega)) ?_
    rintro _ w ⟨rfl, h⟩
    refine ⟨_, rfl, h, fun _ => ?_, fun hz => (by cases hz)⟩
    refine ⟨_, _, _, fun w h => (Own.ld' h (by repeat (first | with_reducible exact Pick.here | apply Pick.there)) (by rfl)), _, _, _, fun w h => (Own.ld' h (by repeat (first | with_reducible exact Pick.here | apply Pick.there)) (by rfl)), ?_⟩
    have h' : Own W w (logO_int g l :: _) := (Own.pk h (by repeat (first | with_reducible exact Pick.here | apply Pick.there)))
    refine Rets.mono (evRemoved_spec h' (by omega)) ?_
    rintro _ w ⟨rfl, h⟩
    refine ⟨_, rfl, (Own.sub (h) (by repeat (first | exact Sub.nil _ | exact Sub.rfl _ | (apply Sub.cons; focus ((repeat (first | with_reducible exact Pick.here | apply Pick.there)); done)) | apply Sub.drop))), ?_⟩
    refine Rets.mono (rCount_spec h (Own.rdP (q := qx) (T := 87) h (by repeat (first | with_reducible exact Pick.here | apply Pick.there))) (by omega)) ?_
    rintro _ _ ⟨rfl, rfl⟩
    have hc6 := evCnt_le l 6
    refine ⟨_, rfl, (Own.sub (h) (by repeat (first | exact Sub.nil _ | exact Sub.rfl _ | (apply Sub.cons; focus ((repeat (first | with_reducible exact Pick.here | apply Pick.there)); done)) | apply Sub.drop))), fun _ => ?_, fun hz => absurd (beq_f hz) (by rw [wI64 (by omega) (by omega)]; simp)⟩
    refine Rets.mono (evAwake h) ?_
    rintro _ w ⟨rfl, h⟩
    refine ⟨_, rfl, Own.stP' h (by repeat (first | with_reducible exact Pick.here | apply Pick.there)) (by simp) (by simp [Value.oneCell']) fun w h => ?_⟩
    simp only [setFrom, List.set_cons_zero, List.set_cons_succ, List.set_nil] at h
    exact Own.markR (g := mk) (Own.pk h (by repeat (first | with_reducible exact Pick.here | apply Pick.there))) fun w h => ⟨_, (Own.ld' h (by repeat (first | with_reducible exact Pick.here | apply Pick.there)) (by rfl)), rfl, (Own.sub (h) (by repeat (first | exact Sub.nil _ | exact Sub.rfl _ | (apply Sub.cons; focus ((repeat (first | with_reducible exact Pick.here | apply Pick.there)); done)) | apply Sub.drop)))⟩
end
end Go.Proofs.Ytmenjjofmafacaa.Eng
