/- Scripts: their bytes, by the program and by the document. -/
import Derived.Test.YtppmdifhoejhjaaScnC
namespace Go.Proofs.Ytppmdifhoejhjaa.Eng
open Go Go.RowKit Go.Proofs
set_option linter.unusedVariables false
set_option linter.unusedSimpArgs false
set_option maxRecDepth 1000000
abbrev ScT.bytes (x : ScT) : List Int := bytesL x.c0 x.c1 x.c2 x.c3 x.c4 x.pl x.PK x.DS
theorem putP_len {l : List Op5} (h : fineB l = true) : (putP l).length ≤ 900 := by
  have hl := fine_len h
  have key : ∀ k : List Op5, (k.flatMap encB).length ≤ 37 * k.length := fun k => by
    induction k with
    | nil => simp
    | cons a r ih => rw [List.flatMap_cons, List.length_append, List.length_cons]; have := encB_len a; omega
  have := key l
  unfold putP
  rw [List.length_cons]; omega
theorem putPs_len : ∀ {pl : List (List Op5)}, (∀ l ∈ pl, fineB l = true) → (pl.flatMap putP).length ≤ 900 * pl.length
  | [], _ => by simp
  | a :: r, h => by
    rw [List.flatMap_cons, List.length_append, List.length_cons]
    have h1 := putP_len (h a (by simp))
    have h2 := putPs_len (pl := r) (fun l hl => h l (by simp [hl]))
    omega
section
variable {e w : World} {F : List HP}
theorem w8 {n : Int} (h : 0 ≤ n ∧ n < 256) : IntKind.wrap .u8 n = n := wU8' h.1 h.2
theorem scBytes {x : ScT} (fx : x.few) (rx : ScRd e F x) (h : Own e w F) : Rets Try.prog 15 #[x.v] w fun v w' =>
    (¬ x.right ∧ v = .tuple #[.slice none 0 0, .int .i64 1] ∧ Own e w' F) ∨ (x.right ∧ 16384 < x.bytes.length ∧ v = .tuple #[.slice none 0 0, .int .i64 4] ∧ Own e w' F) ∨ (x.right ∧ x.bytes.length ≤ 16384 ∧ ∃ q c, v = .tuple #[.slice q x.bytes.length c, .int .i64 0] ∧ Own e w' (byB q x.bytes.length c x.bytes :: F)) := by
  refine script_Bytes_go _ _ _ _ _ _ _ _ _ _ _ _ _ _ ?_
  unfold script_Bytes_m
  refine h.newR fun a1 w h => ?_
  simp only [addr_add_add, Nat.zero_add]
  have h : Own e w (blk a1 27 x.cs :: F) := h
  have rx1 := rx.cons (A := blk a1 27 x.cs)
  refine ⟨_, _, _, _, _, _, _, _, _, _, _, _, _, _, ⟨Own.ld (g := a1) h (by repeat (first | with_reducible exact Pick.here | apply Pick.there)) rfl, Own.ld (g := a1) h (by repeat (first | with_reducible exact Pick.here | apply Pick.there)) rfl, Own.ld (g := a1) h (by repeat (first | with_reducible exact Pick.here | apply Pick.there)) rfl, Own.ld (g := a1) h (by repeat (first | with_reducible exact Pick.here | apply Pick.there)) rfl, Own.ld (g := a1) h (by repeat (first | with_reducible exact Pick.here | apply Pick.there)) rfl, Own.ld (g := a1) h (by repeat (first | with_reducible exact Pick.here | apply Pick.there)) rfl, Own.ld (g := a1) h (by repeat (first | with_reducible exact Pick.here | apply Pick.there)) rfl, Own.ld (g := a1) h (by repeat (first | with_reducible exact Pick.here | apply Pick.there)) rfl⟩, ?_⟩
  refine Rets.mono (scRightG (x := x) fx rx1 h) ?_
  clear h
  rintro _ w ⟨⟨b, rfl, hb⟩, h⟩
  refine ⟨_, rfl, fun hc => .inl ⟨fun hh => (by rw [hb.2 hh] at hc; cases hc), (by first | trivial | rfl), h.drop⟩, fun hc => ?_⟩
  have hr := hb.1 (by simpa using hc)
  clear hb hc
  obtain ⟨f1, f2, f3, f4⟩ := fx
  have hr' := hr
  obtain ⟨hn, g2, g3, g4, g5, g6⟩ := hr'
  have hn : nearP x.c0 x.c1 x.c2 x.c3 x.c4 := hn
  obtain ⟨b0, b1, b2, b3, b4⟩ := hn
  refine ⟨_, _, _, _, _, ⟨Own.ld (g := a1) h (by repeat (first | with_reducible exact Pick.here | apply Pick.there)) rfl, Own.ld (g := a1) h (by repeat (first | with_reducible exact Pick.here | apply Pick.there)) rfl, Own.ld (g := a1) h (by repeat (first | with_reducible exact Pick.here | apply Pick.there)) rfl, Own.ld (g := a1) h (by repeat (first | with_reducible exact Pick.here | apply Pick.there)) rfl, Own.ld (g := a1) h (by repeat (first | with_reducible exact Pick.here | apply Pick.there)) rfl⟩, ?_⟩
  refine h.newR fun a2 w h => Own.stP' (g := a2) h (by repeat (first | with_reducible exact Pick.here | apply Pick.there)) (by simp) (by simp [Value.oneCell']) fun w h => ?_
  simp only [setFrom, List.set_cons_zero, List.set_cons_succ, List.set_nil] at h
  have h : Own e w (blk a2 23 [.int .i64 x.c0, .int .i64 x.c1, .int .i64 x.c2, .int .i64 x.c3, .int .i64 x.c4] :: blk a1 27 x.cs :: F) := h
  obtain ⟨CF, hCF⟩ : ∃ A : HP, A = blk a2 23 [.int .i64 x.c0, .int .i64 x.c1, .int .i64 x.c2, .int .i64 x.c3, .int .i64 x.c4] := ⟨_, rfl⟩
  refine ⟨_, Own.ld (g := a2) h (by repeat (first | with_reducible exact Pick.here | apply Pick.there)) rfl, h.newR fun a3 w h => ?_⟩
  refine Rets.mono (Put_spec (bs := []) (q := none) (c := 0) (ns := [x.c0]) (q2 := some ⟨a3, 0, none⟩) (c2 := 1) h (fun w h => .inl rfl) (fun w h => Own.blkRd (vs := [.int .i64 x.c0]) h) (by simp) (by simp)) ?_
  clear h
  rintro _ w ⟨q1, c1', rfl, h⟩
  simp only [List.nil_append] at h ⊢
  have h : Own e w (byB q1 (putL [x.c0]).length c1' (putL [x.c0]) :: blk a2 23 [.int .i64 x.c0, .int .i64 x.c1, .int .i64 x.c2, .int .i64 x.c3, .int .i64 x.c4] :: blk a1 27 x.cs :: F) := (Own.sub (h) (by repeat (first | with_reducible exact Sub.nil _ | with_reducible exact Sub.rfl _ | (apply Sub.cons; focus ((repeat (first | with_reducible exact Pick.here | apply Pick.there)); done)) | apply Sub.drop)))
  refine ⟨_, _, _, rfl, _, Own.ld (g := a2) (k := 1) h (by repeat (first | with_reducible exact Pick.here | apply Pick.there)) rfl, _, Own.ld (g := a2) (k := 3) h (by repeat (first | with_reducible exact Pick.here | apply Pick.there)) rfl, _, Own.ld (g := a2) (k := 4) h (by repeat (first | with_reducible exact Pick.here | apply Pick.there)) rfl, h.newR fun a4 w h => ?_⟩
  rw [wI64 (n := x.c1 - 1) (by omega) (by omega), wI64 (n := x.c3 - 1) (by omega) (by omega), w8 (n := x.c1 - 1) (by omega), w8 (n := x.c3 - 1) (by omega), w8 (n := x.c4) (by omega)] at h
  have h : Own e w (blk a4 5 (cs .u8 [x.c1 - 1, x.c3 - 1, x.c4]) :: byB q1 (putL [x.c0]).length c1' (putL [x.c0]) :: blk a2 23 [.int .i64 x.c0, .int .i64 x.c1, .int .i64 x.c2, .int .i64 x.c3, .int .i64 x.c4] :: blk a1 27 x.cs :: F) := h
  have l0 := putL_len [x.c0]
  have l2 := putL_len [x.c2]
  simp only [List.length_cons, List.length_nil] at l0 l2
  refine put8 (a := ⟨a4, 0, none⟩) (m := 3) h rfl (by omega) fun q2 c2' w h => ⟨_, _, _, rfl, ?_⟩
  obtain ⟨P4, hP4⟩ : ∃ P, P = putL [x.c0] ++ [x.c1 - 1, x.c3 - 1, x.c4] := ⟨_, rfl⟩
  have e4 : (putL [x.c0]).length + 3 = P4.length := by rw [hP4]; simp
  rw [← hP4, e4] at h
  rw [e4]
  obtain ⟨P6, hP6⟩ : ∃ P, P = P4 ++ putL [x.c2] ++ [(x.ms.length : Int)] := ⟨_, rfl⟩
  have e6 : (P4 ++ putL [x.c2]).length + 1 = P6.length := by rw [hP6]; simp; omega
  have l4 : P4.length ≤ 12 := by omega
  have l6 : P6.length ≤ 22 := by rw [← e6, List.length_append]; omega
  have wl : IntKind.wrap .u8 (x.ms.length : Int) = (x.ms.length : Int) := w8 (by omega)
  let S : World → Prop := fun w => ∃ F', Own e w (blk a2 23 [.int .i64 x.c0, .int .i64 x.c1, .int .i64 x.c2, .int .i64 x.c3, .int .i64 x.c4] :: blk a1 27 x.cs :: F')
  let J : List Value → World → Prop := fun vs w => ∃ q c, vs = [.slice q P6.length c] ∧ Own e w (byB q P6.length c P6 :: blk a1 27 x.cs :: F)
  have fin : ∀ {w : World} {g : Nat} {q : Option Addr} {c : Nat} {G : List HP}, Own e w (blk g 5 (cs .u8 [(x.ms.length : Int)]) :: byB q (P4 ++ putL [x.c2]).length c (P4 ++ putL [x.c2]) :: blk a1 27 x.cs :: F) → RunR Try.prog (builtinV .append #[35, 35] 35 #[.slice q (P4 ++ putL [x.c2]).length c, .slice (some ⟨g, 0, none⟩) 1 1]) w fun v w' => ∃ q k1 k2, v = .slice q k1 k2 ∧ J [.slice q k1 k2] w' := fun {w g q c G} h => by
    refine put8 (a := ⟨g, 0, none⟩) (m := 1) h rfl (by rw [List.length_append]; omega) fun q' c' w h => ⟨_, _, _, rfl, ?_⟩
    rw [e6] at h ⊢
    rw [← hP6] at h
    exact ⟨_, _, rfl, h⟩
  refine ⟨J, h.drw fun w h => ⟨S, ⟨_, (Own.sub (h) (by repeat (first | with_reducible exact Sub.nil _ | with_reducible exact Sub.rfl _ | (apply Sub.cons; focus ((repeat (first | with_reducible exact Pick.here | apply Pick.there)); done)) | apply Sub.drop)))⟩, _, fun w h => h.elim fun F' h => Own.ld (g := a2) (k := 2) h (by repeat (first | with_reducible exact Pick.here | apply Pick.there)) rfl, _, _, _, fun w h => h.elim fun F' h => Own.ld (g := a1) (k := 5) h (by repeat (first | with_reducible exact Pick.here | apply Pick.there)) rfl, ?_⟩, ?_⟩
  · refine ⟨h.newR fun a5 w h => ⟨⟨_, (Own.sub (h) (by repeat (first | with_reducible exact Sub.nil _ | with_reducible exact Sub.rfl _ | (apply Sub.cons; focus ((repeat (first | with_reducible exact Pick.here | apply Pick.there)); done)) | apply Sub.drop)))⟩, ?_, ?_⟩, h.newR fun a8 w h => ⟨⟨_, (Own.sub (h) (by repeat (first | with_reducible exact Sub.nil _ | with_reducible exact Sub.rfl _ | (apply Sub.cons; focus ((repeat (first | with_reducible exact Pick.here | apply Pick.there)); done)) | apply Sub.drop)))⟩, h.newR fun a9 w h => ⟨⟨_, (Own.sub (h) (by repeat (first | with_reducible exact Sub.nil _ | with_reducible exact Sub.rfl _ | (apply Sub.cons; focus ((repeat (first | with_reducible exact Pick.here | apply Pick.there)); done)) | apply Sub.drop)))⟩, ?_⟩⟩⟩
    · refine Rets.mono (Put_spec (bs := P4) (q := q2) (ns := [x.c2]) (q2 := some ⟨a5, 0, none⟩) (c2 := 1) h (fun w h => Own.rdP (T := 5) (q := q2) h (by repeat (first | with_reducible exact Pick.here | apply Pick.there))) (fun w h => Own.blkRd (vs := [.int .i64 x.c2]) h) (by omega) (by simp)) ?_
      clear h
      rintro _ w ⟨q7, c7, rfl, h⟩
      refine ⟨_, _, _, rfl, ⟨_, (Own.sub (h) (by repeat (first | with_reducible exact Sub.nil _ | with_reducible exact Sub.rfl _ | (apply Sub.cons; focus ((repeat (first | with_reducible exact Pick.here | apply Pick.there)); done)) | apply Sub.drop)))⟩, h.newR fun a6 w h => ⟨⟨_, (Own.sub (h) (by repeat (first | with_reducible exact Sub.nil _ | with_reducible exact Sub.rfl _ | (apply Sub.cons; focus ((repeat (first | with_reducible exact Pick.here | apply Pick.there)); done)) | apply Sub.drop)))⟩, ?_⟩⟩
      rw [wl] at h
      refine fin (G := F) ?_
      have h : Own e w (blk a6 5 [.int .u8 (x.ms.length : Int)] :: byB q7 (P4 ++ putL [x.c2]).length c7 (P4 ++ putL [x.c2]) :: blk a1 27 x.cs :: F) := (Own.sub (h) (by repeat (first | with_reducible exact Sub.nil _ | with_reducible exact Sub.rfl _ | (apply Sub.cons; focus ((repeat (first | with_reducible exact Pick.here | apply Pick.there)); done)) | apply Sub.drop)))
      exact h
    · refine h.newR fun a7 w h => ⟨⟨_, (Own.sub (h) (by repeat (first | with_reducible exact Sub.nil _ | with_reducible exact Sub.rfl _ | (apply Sub.cons; focus ((repeat (first | with_reducible exact Pick.here | apply Pick.there)); done)) | apply Sub.drop)))⟩, ?_⟩
      rw [wl] at h
      refine Rets.mono (Put_spec (bs := P4) (q := q2) (ns := [x.c2]) (q2 := some ⟨a5, 0, none⟩) (c2 := 1) h (fun w h => Own.rdP (T := 5) (q := q2) h (by repeat (first | with_reducible exact Pick.here | apply Pick.there))) (fun w h => Own.blkRd (vs := [.int .i64 x.c2]) (h.drop)) (by omega) (by simp)) ?_
      clear h
      rintro _ w ⟨q7, c7, rfl, h⟩
      refine ⟨_, _, _, rfl, ⟨_, (Own.sub (h) (by repeat (first | with_reducible exact Sub.nil _ | with_reducible exact Sub.rfl _ | (apply Sub.cons; focus ((repeat (first | with_reducible exact Pick.here | apply Pick.there)); done)) | apply Sub.drop)))⟩, ?_⟩
      refine fin (G := F) ?_
      have h : Own e w (blk a7 5 [.int .u8 (x.ms.length : Int)] :: byB q7 (P4 ++ putL [x.c2]).length c7 (P4 ++ putL [x.c2]) :: blk a1 27 x.cs :: F) := (Own.sub (h) (by repeat (first | with_reducible exact Sub.nil _ | with_reducible exact Sub.rfl _ | (apply Sub.cons; focus ((repeat (first | with_reducible exact Pick.here | apply Pick.there)); done)) | apply Sub.drop)))
      exact h
    · rw [wl] at h
      refine Rets.mono (Put_spec (bs := P4) (q := q2) (ns := [x.c2]) (q2 := some ⟨a9, 0, none⟩) (c2 := 1) h (fun w h => Own.rdP (T := 5) (q := q2) h (by repeat (first | with_reducible exact Pick.here | apply Pick.there))) (fun w h => Own.blkRd (vs := [.int .i64 x.c2]) h) (by omega) (by simp)) ?_
      clear h
      rintro _ w ⟨q7, c7, rfl, h⟩
      refine ⟨_, _, _, rfl, ⟨_, (Own.sub (h) (by repeat (first | with_reducible exact Sub.nil _ | with_reducible exact Sub.rfl _ | (apply Sub.cons; focus ((repeat (first | with_reducible exact Pick.here | apply Pick.there)); done)) | apply Sub.drop)))⟩, ?_⟩
      refine fin (G := F) ?_
      have h : Own e w (blk a8 5 [.int .u8 (x.ms.length : Int)] :: byB q7 (P4 ++ putL [x.c2]).length c7 (P4 ++ putL [x.c2]) :: blk a1 27 x.cs :: F) := (Own.sub (h) (by repeat (first | with_reducible exact Sub.nil _ | with_reducible exact Sub.rfl _ | (apply Sub.cons; focus ((repeat (first | with_reducible exact Pick.here | apply Pick.there)); done)) | apply Sub.drop)))
      exact h
  clear h
  intro w q13 k25 k26
  intros
  rename_i hI
  obtain ⟨q, c, hvs, h⟩ := hI
  obtain ⟨rfl, rfl, rfl⟩ : q13 = q ∧ k25 = P6.length ∧ k26 = c := by simpa using hvs
  clear hvs fin S J
  have h : Own e w (byB q13 P6.length k26 P6 :: blk a1 27 x.cs :: F) := h
  let Q : Nat → List Int := fun i => P6 ++ (x.pl.take i).flatMap putP
  have hQ : ∀ i, Q i = P6 ++ (x.pl.take i).flatMap putP := fun i => rfl
  have q0 : Q 0 = P6 := by rw [hQ]; simp
  have hpf : ∀ l ∈ x.pl, fineB l = true := fun l hl => by
    obtain ⟨m, hm, rfl⟩ := List.mem_map.1 hl
    exact g5 m hm
  have hpl : x.pl.length = x.ms.length := by simp [ScT.pl]
  have lQ : ∀ i, (Q i).length ≤ 6000 := fun i => by
    rw [hQ, List.length_append]
    have h1 := putPs_len (pl := x.pl.take i) (fun l hl => hpf l (List.mem_of_mem_take hl))
    have h2 : (x.pl.take i).length ≤ 6 := by rw [List.length_take]; omega
    omega
  refine ⟨_, _, _, Own.ld (g := a1) (k := 5) h (by repeat (first | with_reducible exact Pick.here | apply Pick.there)) rfl, fun m vs w => ∃ (i : Nat) (q : Option Addr) (c : Nat), vs = [.slice q (Q i).length c, .int .i64 (i : Int)] ∧ m + i = x.ms.length ∧ Own e w (byB q (Q i).length c (Q i) :: blk a1 27 x.cs :: F), ⟨x.ms.length, 0, q13, k26, by rw [q0]; rfl, rfl, by rw [q0]; exact h⟩, ?_⟩
  clear h
  intro m w q15 k31 k32 v21 n16
  intros
  rename_i hI
  obtain ⟨i, q, c, hvs, hm, h⟩ := hI
  obtain ⟨⟨rfl, rfl, rfl⟩, rfl⟩ : (q15 = q ∧ k31 = (Q i).length ∧ k32 = c) ∧ n16 = (i : Int) := by simpa using hvs
  refine ⟨fun hc => ?_, fun hc => ?_⟩
  · have hc := dec_t hc
    have hi : i < x.ms.length := by omega
    have hfi := g5 _ (List.getElem_mem hi)
    refine ⟨by omega, by omega, RdC.mp (f := Sl.v) (rx1.rd w h.drop) hi fun a ha => ⟨x.ms[i].1, x.ms[i].2.2.length, x.ms[i].2.1, by rw [Int.toNat_natCast]; exact ha, ?_⟩⟩
    refine Rets.mono (prPut (bs := Q i) (l := x.ms[i].2.2) h (fun w h => Own.rdP (T := 5) (q := q15) h (by repeat (first | with_reducible exact Pick.here | apply Pick.there))) (fun w h => rx1.rdi w h.drop _ (List.getElem_mem hi)) (by have := lQ i; omega)) ?_
    clear h
    rintro _ w (⟨hno, _⟩ | ⟨_, q', c', rfl, h⟩)
    · rw [hfi] at hno; cases hno
    · have hi' : i < x.pl.length := by omega
      have eQ : Q i ++ putP x.ms[i].2.2 = Q (i + 1) := by
        rw [hQ, hQ, List.take_succ_eq_append_getElem hi', List.flatMap_append, ← List.append_assoc, pl_at hi]
        simp
      rw [eQ] at h ⊢
      exact ⟨_, _, _, _, rfl, m - 1, by omega, i + 1, q', c', by rw [wI64 (by omega) (by omega)]; rfl, by omega, (Own.sub (h) (by repeat (first | with_reducible exact Sub.nil _ | with_reducible exact Sub.rfl _ | (apply Sub.cons; focus ((repeat (first | with_reducible exact Pick.here | apply Pick.there)); done)) | apply Sub.drop)))⟩
  · have hc := dec_f hc
    obtain rfl : i = x.ms.length := by omega
    have eQ : Q x.ms.length = P6 ++ x.pl.flatMap putP := by rw [hQ, ← hpl, List.take_length]
    have lq := lQ x.ms.length
    obtain ⟨P7, hP7⟩ : ∃ P, P = Q x.ms.length := ⟨_, rfl⟩
    rw [← hP7] at h lq ⊢
    have hP7 : P7 = P6 ++ x.pl.flatMap putP := hP7.trans eQ
    clear eQ
    let S : World → Prop := fun w => ∃ F', Own e w (blk a1 27 x.cs :: F')
    refine h.drw fun w h => ⟨S, ⟨_, (Own.sub (h) (by repeat (first | with_reducible exact Sub.nil _ | with_reducible exact Sub.rfl _ | (apply Sub.cons; focus ((repeat (first | with_reducible exact Pick.here | apply Pick.there)); done)) | apply Sub.drop)))⟩, _, _, _, fun w h => h.elim fun F' h => Own.ld (g := a1) (k := 7) h (by repeat (first | with_reducible exact Pick.here | apply Pick.there)) rfl, _, _, _, fun w h => h.elim fun F' h => Own.ld (g := a1) (k := 7) h (by repeat (first | with_reducible exact Pick.here | apply Pick.there)) rfl, ?_⟩
    refine h.newR fun a11 w h => ⟨⟨_, (Own.sub (h) (by repeat (first | with_reducible exact Sub.nil _ | with_reducible exact Sub.rfl _ | (apply Sub.cons; focus ((repeat (first | with_reducible exact Pick.here | apply Pick.there)); done)) | apply Sub.drop)))⟩, ?_⟩
    rw [w8 (n := (x.DS.length : Int)) (by omega)] at h
    have h : Own e w (blk a11 5 (cs .u8 [(x.DS.length : Int)]) :: byB q15 P7.length k32 P7 :: blk a1 27 x.cs :: F) := h
    refine put8 (a := ⟨a11, 0, none⟩) (m := 1) h rfl (by omega) fun q8 c8 w h => ⟨_, _, _, rfl, ⟨_, (Own.sub (h) (by repeat (first | with_reducible exact Sub.nil _ | with_reducible exact Sub.rfl _ | (apply Sub.cons; focus ((repeat (first | with_reducible exact Pick.here | apply Pick.there)); done)) | apply Sub.drop)))⟩, ?_⟩
    obtain ⟨P8, hP8⟩ : ∃ P, P = P7 ++ [(x.DS.length : Int)] := ⟨_, rfl⟩
    have e8 : P7.length + 1 = P8.length := by rw [hP8]; simp
    rw [← hP8, e8] at h
    rw [e8]
    have rx2 := rx1.cons (A := byB q8 P8.length c8 P8)
    refine Rets.mono (Put_spec (bs := P8) (q := q8) (ns := x.DS) h (fun w h => Own.rdP (T := 5) (q := q8) h (by repeat (first | with_reducible exact Pick.here | apply Pick.there))) rx2.rd3 (by omega) (by omega)) ?_
    clear h
    rintro _ w ⟨q9, c9, rfl, h⟩
    have l9 := putL_len x.DS
    obtain ⟨P9, hP9⟩ : ∃ P, P = P8 ++ putL x.DS := ⟨_, rfl⟩
    have l9' : P9.length ≤ 10000 := by rw [hP9, List.length_append]; omega
    rw [← hP9] at h ⊢
    have h : Own e w (byB q9 P9.length c9 P9 :: blk a1 27 x.cs :: F) := (Own.sub (h) (by repeat (first | with_reducible exact Sub.nil _ | with_reducible exact Sub.rfl _ | (apply Sub.cons; focus ((repeat (first | with_reducible exact Pick.here | apply Pick.there)); done)) | apply Sub.drop)))
    let Z : Nat → List Int := fun i => P9 ++ x.PK.take i
    have hZ : ∀ i, Z i = P9 ++ x.PK.take i := fun i => rfl
    have lZ : ∀ i, (Z i).length ≤ 20000 := fun i => by rw [hZ, List.length_append, List.length_take]; omega
    have z0 : Z 0 = P9 := by rw [hZ]; simp
    refine ⟨_, _, _, rfl, _, _, _, Own.ld (g := a1) (k := 6) h (by repeat (first | with_reducible exact Pick.here | apply Pick.there)) rfl, fun m vs w => ∃ (i : Nat) (q : Option Addr) (c : Nat), vs = [.slice q (Z i).length c, .int .i64 (i : Int)] ∧ m + i = x.PK.length ∧ Own e w (byB q (Z i).length c (Z i) :: blk a1 27 x.cs :: F), ⟨x.PK.length, 0, q9, c9, by rw [z0]; rfl, rfl, by rw [z0]; exact h⟩, ?_⟩
    clear h
    intro m w q23 k50 k51 v35 n17
    intros
    rename_i hI
    obtain ⟨i, q, c, hvs, hm, h⟩ := hI
    obtain ⟨⟨rfl, rfl, rfl⟩, rfl⟩ : (q23 = q ∧ k50 = (Z i).length ∧ k51 = c) ∧ n17 = (i : Int) := by simpa using hvs
    refine ⟨fun hc => ?_, fun hc => ?_⟩
    · have hc := dec_t hc
      have hi : i < x.PK.length := by omega
      have hxi := g6 _ (List.getElem_mem hi)
      refine ⟨by omega, by omega, (rx1.rd2 w h.drop).int (i := i) hi fun a ha => ⟨x.PK[i], by rw [Int.toNat_natCast]; exact ha, h.newR fun a13 w h => ?_⟩⟩
      rw [w8 (n := x.PK[i]) hxi] at h
      have h : Own e w (blk a13 5 (cs .u8 [x.PK[i]]) :: byB q23 (Z i).length k51 (Z i) :: blk a1 27 x.cs :: F) := h
      refine put8 (a := ⟨a13, 0, none⟩) (m := 1) h rfl (by have := lZ i; omega) fun q' c' w h => ⟨_, _, _, rfl, m - 1, by omega, i + 1, q', c', ?_, by omega, ?_⟩
      · have eZ : Z (i + 1) = Z i ++ [x.PK[i]] := by rw [hZ, hZ, List.take_succ_eq_append_getElem hi, List.append_assoc]
        have eL : (Z i).length + 1 = (Z (i + 1)).length := by rw [eZ]; simp
        rw [wI64 (by omega) (by omega), ← eL]; rfl
      · have eZ : Z (i + 1) = Z i ++ [x.PK[i]] := by rw [hZ, hZ, List.take_succ_eq_append_getElem hi, List.append_assoc]
        rw [eZ, List.length_append]
        exact h
    · have hc := dec_f hc
      obtain rfl : i = x.PK.length := by omega
      have eb : Z x.PK.length = x.bytes := by
        rw [hZ, List.take_length, hP9, hP8, hP7, hP6, hP4]
        show _ = bytesL _ _ _ _ _ _ _ _
        unfold bytesL
        rw [hpl]
      rw [eb] at h ⊢
      refine ⟨fun hq => .inr (.inl ⟨hr, by have := dec_t hq; omega, (by first | trivial | rfl), h.drop.drop⟩), fun hq => .inr (.inr ⟨hr, by have := dec_f hq; omega, _, _, rfl, (Own.sub (h) (by repeat (first | with_reducible exact Sub.nil _ | with_reducible exact Sub.rfl _ | (apply Sub.cons; focus ((repeat (first | with_reducible exact Pick.here | apply Pick.there)); done)) | apply Sub.drop)))⟩)⟩
theorem rdBytes {x : ScT} (fx : x.few) (hr : x.right) (rx : ScRd e F x) (h : Own e w F) : Rets Try.prog 16 #[x.v] w fun v w' => ∃ q c, v = .slice q x.bytes.length c ∧ Own e w' (byB q x.bytes.length c x.bytes :: F) := by
  obtain ⟨f1, f2, f3, f4⟩ := fx
  obtain ⟨hn, g2, g3, g4, g5, g6⟩ := hr
  have hn : nearP x.c0 x.c1 x.c2 x.c3 x.c4 := hn
  obtain ⟨b0, b1, b2, b3, b4⟩ := hn
  refine cortadoref18_Bytes_go _ _ _ _ _ _ _ _ _ _ _ _ _ _ ?_
  unfold cortadoref18_Bytes_m
  refine h.newR fun a1 w h => ?_
  simp only [addr_add_add, Nat.zero_add]
  have h : Own e w (blk a1 27 x.cs :: F) := h
  have rx1 := rx.cons (A := blk a1 27 x.cs)
  refine ⟨_, _, _, _, _, ⟨Own.ld (g := a1) h (by repeat (first | with_reducible exact Pick.here | apply Pick.there)) rfl, Own.ld (g := a1) h (by repeat (first | with_reducible exact Pick.here | apply Pick.there)) rfl, Own.ld (g := a1) h (by repeat (first | with_reducible exact Pick.here | apply Pick.there)) rfl, Own.ld (g := a1) h (by repeat (first | with_reducible exact Pick.here | apply Pick.there)) rfl, Own.ld (g := a1) h (by repeat (first | with_reducible exact Pick.here | apply Pick.there)) rfl⟩, ?_⟩
  refine h.newR fun a2 w h => Own.stP' (g := a2) h (by repeat (first | with_reducible exact Pick.here | apply Pick.there)) (by simp) (by simp [Value.oneCell']) fun w h => ?_
  simp only [setFrom, List.set_cons_zero, List.set_cons_succ, List.set_nil] at h
  have h : Own e w (blk a2 23 [.int .i64 x.c0, .int .i64 x.c1, .int .i64 x.c2, .int .i64 x.c3, .int .i64 x.c4] :: blk a1 27 x.cs :: F) := h
  refine ⟨_, Own.ld (g := a2) h (by repeat (first | with_reducible exact Pick.here | apply Pick.there)) rfl, h.newR fun a3 w h => ?_⟩
  refine Rets.mono (rPut_spec (ns := [x.c0]) (q2 := some ⟨a3, 0, none⟩) (c2 := 1) h (fun w h => Own.blkRd (vs := [.int .i64 x.c0]) h) (by simp)) ?_
  clear h
  rintro _ w ⟨q1, c1', rfl, h⟩
  have h : Own e w (byB q1 (putL [x.c0]).length c1' (putL [x.c0]) :: blk a2 23 [.int .i64 x.c0, .int .i64 x.c1, .int .i64 x.c2, .int .i64 x.c3, .int .i64 x.c4] :: blk a1 27 x.cs :: F) := (Own.sub (h) (by repeat (first | with_reducible exact Sub.nil _ | with_reducible exact Sub.rfl _ | (apply Sub.cons; focus ((repeat (first | with_reducible exact Pick.here | apply Pick.there)); done)) | apply Sub.drop)))
  refine ⟨_, _, _, rfl, _, Own.ld (g := a2) (k := 1) h (by repeat (first | with_reducible exact Pick.here | apply Pick.there)) rfl, _, Own.ld (g := a2) (k := 3) h (by repeat (first | with_reducible exact Pick.here | apply Pick.there)) rfl, _, Own.ld (g := a2) (k := 4) h (by repeat (first | with_reducible exact Pick.here | apply Pick.there)) rfl, h.newR fun a4 w h => ?_⟩
  rw [wI64 (n := x.c1 - 1) (by omega) (by omega), wI64 (n := x.c3 - 1) (by omega) (by omega), w8 (n := x.c1 - 1) (by omega), w8 (n := x.c3 - 1) (by omega), w8 (n := x.c4) (by omega)] at h
  have h : Own e w (blk a4 5 (cs .u8 [x.c1 - 1, x.c3 - 1, x.c4]) :: byB q1 (putL [x.c0]).length c1' (putL [x.c0]) :: blk a2 23 [.int .i64 x.c0, .int .i64 x.c1, .int .i64 x.c2, .int .i64 x.c3, .int .i64 x.c4] :: blk a1 27 x.cs :: F) := h
  have l0 := putL_len [x.c0]
  have l2 := putL_len [x.c2]
  simp only [List.length_cons, List.length_nil] at l0 l2
  refine put8 (a := ⟨a4, 0, none⟩) (m := 3) h rfl (by omega) fun q2 c2' w h => ⟨_, _, _, rfl, ?_⟩
  obtain ⟨P4, hP4⟩ : ∃ P, P = putL [x.c0] ++ [x.c1 - 1, x.c3 - 1, x.c4] := ⟨_, rfl⟩
  have e4 : (putL [x.c0]).length + 3 = P4.length := by rw [hP4]; simp
  rw [← hP4, e4] at h
  rw [e4]
  have l4 : P4.length ≤ 12 := by omega
  refine ⟨_, Own.ld (g := a2) (k := 2) h (by repeat (first | with_reducible exact Pick.here | apply Pick.there)) rfl, h.newR fun a5 w h => ?_⟩
  refine Rets.mono (rPut_spec (ns := [x.c2]) (q2 := some ⟨a5, 0, none⟩) (c2 := 1) h (fun w h => Own.blkRd (vs := [.int .i64 x.c2]) h) (by simp)) ?_
  clear h
  rintro _ w ⟨q3, c3', rfl, h⟩
  have h : Own e w (byB q2 P4.length c2' P4 :: byB q3 (putL [x.c2]).length c3' (putL [x.c2]) :: blk a1 27 x.cs :: F) := (Own.sub (h) (by repeat (first | with_reducible exact Sub.nil _ | with_reducible exact Sub.rfl _ | (apply Sub.cons; focus ((repeat (first | with_reducible exact Pick.here | apply Pick.there)); done)) | apply Sub.drop)))
  refine ⟨_, _, _, rfl, app8 (ys := putL [x.c2]) h (Own.rdP (T := 5) (q := q3) h (by repeat (first | with_reducible exact Pick.here | apply Pick.there))) rfl (by omega) fun q4 c4' w h => ⟨_, _, _, rfl, ?_⟩⟩
  obtain ⟨P5, hP5⟩ : ∃ P, P = P4 ++ putL [x.c2] := ⟨_, rfl⟩
  have e5 : P4.length + (putL [x.c2]).length = P5.length := by rw [hP5]; simp
  rw [← hP5, e5] at h
  rw [e5]
  have h : Own e w (byB q4 P5.length c4' P5 :: blk a1 27 x.cs :: F) := (Own.sub (h) (by repeat (first | with_reducible exact Sub.nil _ | with_reducible exact Sub.rfl _ | (apply Sub.cons; focus ((repeat (first | with_reducible exact Pick.here | apply Pick.there)); done)) | apply Sub.drop)))
  refine ⟨_, _, _, Own.ld (g := a1) (k := 5) h (by repeat (first | with_reducible exact Pick.here | apply Pick.there)) rfl, h.newR fun a6 w h => ?_⟩
  rw [w8 (n := (x.ms.length : Int)) (by omega)] at h
  have h : Own e w (blk a6 5 (cs .u8 [(x.ms.length : Int)]) :: byB q4 P5.length c4' P5 :: blk a1 27 x.cs :: F) := h
  refine put8 (a := ⟨a6, 0, none⟩) (m := 1) h rfl (by omega) fun q6 c6' w h => ⟨_, _, _, rfl, ?_⟩
  obtain ⟨P6, hP6⟩ : ∃ P, P = P5 ++ [(x.ms.length : Int)] := ⟨_, rfl⟩
  have e6 : P5.length + 1 = P6.length := by rw [hP6]; simp
  rw [← hP6, e6] at h
  rw [e6]
  have l6 : P6.length ≤ 22 := by omega
  let Q : Nat → List Int := fun i => P6 ++ (x.pl.take i).flatMap putP
  have hQ : ∀ i, Q i = P6 ++ (x.pl.take i).flatMap putP := fun i => rfl
  have q0 : Q 0 = P6 := by rw [hQ]; simp
  have hpf : ∀ l ∈ x.pl, fineB l = true := fun l hl => by
    obtain ⟨m, hm, rfl⟩ := List.mem_map.1 hl
    exact g5 m hm
  have hpl : x.pl.length = x.ms.length := by simp [ScT.pl]
  have lQ : ∀ i, (Q i).length ≤ 6000 := fun i => by
    rw [hQ, List.length_append]
    have h1 := putPs_len (pl := x.pl.take i) (fun l hl => hpf l (List.mem_of_mem_take hl))
    have h2 : (x.pl.take i).length ≤ 6 := by rw [List.length_take]; omega
    omega
  refine ⟨fun m vs w => ∃ (i : Nat) (q : Option Addr) (c : Nat), vs = [.slice q (Q i).length c, .int .i64 (i : Int)] ∧ m + i = x.ms.length ∧ Own e w (byB q (Q i).length c (Q i) :: blk a1 27 x.cs :: F), ⟨x.ms.length, 0, q6, c6', by rw [q0]; rfl, rfl, by rw [q0]; exact h⟩, ?_⟩
  clear h
  intro m w q7 k15 k16 n11
  intros
  rename_i hI
  obtain ⟨i, q, c, hvs, hm, h⟩ := hI
  obtain ⟨⟨rfl, rfl, rfl⟩, rfl⟩ : (q7 = q ∧ k15 = (Q i).length ∧ k16 = c) ∧ n11 = (i : Int) := by simpa using hvs
  refine ⟨_, _, _, Own.ld (g := a1) (k := 5) h (by repeat (first | with_reducible exact Pick.here | apply Pick.there)) rfl, fun hc => ?_, fun hc => ?_⟩
  · have hc := dec_t hc
    have hi : i < x.ms.length := by omega
    have hfi := g5 _ (List.getElem_mem hi)
    refine ⟨_, _, _, Own.ld (g := a1) (k := 5) h (by repeat (first | with_reducible exact Pick.here | apply Pick.there)) rfl, by omega, by omega, RdC.mp (f := Sl.v) (rx1.rd w h.drop) hi fun a ha => ⟨x.ms[i].1, x.ms[i].2.2.length, x.ms[i].2.1, by rw [Int.toNat_natCast]; exact ha, ?_⟩⟩
    refine Rets.mono (rfPutP (l := x.ms[i].2.2) h (fun w h => rx1.rdi w h.drop _ (List.getElem_mem hi)) hfi) ?_
    clear h
    rintro _ w ⟨q', c', rfl, h⟩
    have hi' : i < x.pl.length := by omega
    have eQ : Q i ++ putP x.ms[i].2.2 = Q (i + 1) := by
      rw [hQ, hQ, List.take_succ_eq_append_getElem hi', List.flatMap_append, ← List.append_assoc, pl_at hi]
      simp
    have h : Own e w (byB q7 (Q i).length k16 (Q i) :: byB q' (putP x.ms[i].2.2).length c' (putP x.ms[i].2.2) :: blk a1 27 x.cs :: F) := (Own.sub (h) (by repeat (first | with_reducible exact Sub.nil _ | with_reducible exact Sub.rfl _ | (apply Sub.cons; focus ((repeat (first | with_reducible exact Pick.here | apply Pick.there)); done)) | apply Sub.drop)))
    have lp := putP_len hfi
    refine ⟨_, _, _, rfl, app8 (ys := putP x.ms[i].2.2) h (Own.rdP (T := 5) (q := q') h (by repeat (first | with_reducible exact Pick.here | apply Pick.there))) rfl (by have := lQ i; omega) fun q'' c'' w h => ⟨_, _, _, rfl, m - 1, by omega, i + 1, q'', c'', ?_, by omega, ?_⟩⟩
    · have eL : (Q i).length + (putP x.ms[i].2.2).length = (Q (i + 1)).length := by rw [← eQ]; simp
      rw [wI64 (by omega) (by omega), eL]; rfl
    · have eL : (Q i).length + (putP x.ms[i].2.2).length = (Q (i + 1)).length := by rw [← eQ]; simp
      rw [eQ, eL] at h
      exact (Own.sub (h) (by repeat (first | with_reducible exact Sub.nil _ | with_reducible exact Sub.rfl _ | (apply Sub.cons; focus ((repeat (first | with_reducible exact Pick.here | apply Pick.there)); done)) | apply Sub.drop)))
  · have hc := dec_f hc
    obtain rfl : i = x.ms.length := by omega
    have eQ : Q x.ms.length = P6 ++ x.pl.flatMap putP := by rw [hQ, ← hpl, List.take_length]
    have lq := lQ x.ms.length
    obtain ⟨P7, hP7⟩ : ∃ P, P = Q x.ms.length := ⟨_, rfl⟩
    rw [← hP7] at h lq ⊢
    have hP7 : P7 = P6 ++ x.pl.flatMap putP := hP7.trans eQ
    clear eQ
    refine ⟨_, _, _, Own.ld (g := a1) (k := 7) h (by repeat (first | with_reducible exact Pick.here | apply Pick.there)) rfl, h.newR fun a8 w h => ?_⟩
    rw [w8 (n := (x.DS.length : Int)) (by omega)] at h
    have h : Own e w (blk a8 5 (cs .u8 [(x.DS.length : Int)]) :: byB q7 P7.length k16 P7 :: blk a1 27 x.cs :: F) := h
    refine put8 (a := ⟨a8, 0, none⟩) (m := 1) h rfl (by omega) fun q8 c8 w h => ⟨_, _, _, rfl, ?_⟩
    obtain ⟨P8, hP8⟩ : ∃ P, P = P7 ++ [(x.DS.length : Int)] := ⟨_, rfl⟩
    have e8 : P7.length + 1 = P8.length := by rw [hP8]; simp
    rw [← hP8, e8] at h
    rw [e8]
    have rx2 := rx1.cons (A := byB q8 P8.length c8 P8)
    refine ⟨_, _, _, Own.ld (g := a1) (k := 7) h (by repeat (first | with_reducible exact Pick.here | apply Pick.there)) rfl, ?_⟩
    refine Rets.mono (rPut_spec (ns := x.DS) h rx2.rd3 (by omega)) ?_
    clear h
    rintro _ w ⟨q9, c9, rfl, h⟩
    have l9 := putL_len x.DS
    have h : Own e w (byB q8 P8.length c8 P8 :: byB q9 (putL x.DS).length c9 (putL x.DS) :: blk a1 27 x.cs :: F) := (Own.sub (h) (by repeat (first | with_reducible exact Sub.nil _ | with_reducible exact Sub.rfl _ | (apply Sub.cons; focus ((repeat (first | with_reducible exact Pick.here | apply Pick.there)); done)) | apply Sub.drop)))
    refine ⟨_, _, _, rfl, app8 (ys := putL x.DS) h (Own.rdP (T := 5) (q := q9) h (by repeat (first | with_reducible exact Pick.here | apply Pick.there))) rfl (by omega) fun q10 c10 w h => ⟨_, _, _, rfl, ?_⟩⟩
    obtain ⟨P9, hP9⟩ : ∃ P, P = P8 ++ putL x.DS := ⟨_, rfl⟩
    have e9 : P8.length + (putL x.DS).length = P9.length := by rw [hP9]; simp
    have l9' : P9.length ≤ 10000 := by omega
    rw [← hP9, e9] at h
    rw [e9]
    have h : Own e w (byB q10 P9.length c10 P9 :: blk a1 27 x.cs :: F) := (Own.sub (h) (by repeat (first | with_reducible exact Sub.nil _ | with_reducible exact Sub.rfl _ | (apply Sub.cons; focus ((repeat (first | with_reducible exact Pick.here | apply Pick.there)); done)) | apply Sub.drop)))
    let Z : Nat → List Int := fun i => P9 ++ x.PK.take i
    have hZ : ∀ i, Z i = P9 ++ x.PK.take i := fun i => rfl
    have lZ : ∀ i, (Z i).length ≤ 20000 := fun i => by rw [hZ, List.length_append, List.length_take]; omega
    have z0 : Z 0 = P9 := by rw [hZ]; simp
    refine ⟨fun m vs w => ∃ (i : Nat) (q : Option Addr) (c : Nat), vs = [.slice q (Z i).length c, .int .i64 (i : Int)] ∧ m + i = x.PK.length ∧ Own e w (byB q (Z i).length c (Z i) :: blk a1 27 x.cs :: F), ⟨x.PK.length, 0, q10, c10, by rw [z0]; rfl, rfl, by rw [z0]; exact h⟩, ?_⟩
    clear h
    intro m w q18 k40 k41 n12
    intros
    rename_i hI
    obtain ⟨i, q, c, hvs, hm, h⟩ := hI
    obtain ⟨⟨rfl, rfl, rfl⟩, rfl⟩ : (q18 = q ∧ k40 = (Z i).length ∧ k41 = c) ∧ n12 = (i : Int) := by simpa using hvs
    refine ⟨_, _, _, Own.ld (g := a1) (k := 6) h (by repeat (first | with_reducible exact Pick.here | apply Pick.there)) rfl, fun hc => ?_, fun hc => ?_⟩
    · have hc := dec_t hc
      have hi : i < x.PK.length := by omega
      have hxi := g6 _ (List.getElem_mem hi)
      refine ⟨_, _, _, Own.ld (g := a1) (k := 6) h (by repeat (first | with_reducible exact Pick.here | apply Pick.there)) rfl, by omega, by omega, (rx1.rd2 w h.drop).int (i := i) hi fun a ha => ⟨x.PK[i], by rw [Int.toNat_natCast]; exact ha, h.newR fun a13 w h => ?_⟩⟩
      rw [w8 (n := x.PK[i]) hxi] at h
      have h : Own e w (blk a13 5 (cs .u8 [x.PK[i]]) :: byB q18 (Z i).length k41 (Z i) :: blk a1 27 x.cs :: F) := h
      refine put8 (a := ⟨a13, 0, none⟩) (m := 1) h rfl (by have := lZ i; omega) fun q' c' w h => ⟨_, _, _, rfl, m - 1, by omega, i + 1, q', c', ?_, by omega, ?_⟩
      · have eZ : Z (i + 1) = Z i ++ [x.PK[i]] := by rw [hZ, hZ, List.take_succ_eq_append_getElem hi, List.append_assoc]
        have eL : (Z i).length + 1 = (Z (i + 1)).length := by rw [eZ]; simp
        rw [wI64 (by omega) (by omega), ← eL]; rfl
      · have eZ : Z (i + 1) = Z i ++ [x.PK[i]] := by rw [hZ, hZ, List.take_succ_eq_append_getElem hi, List.append_assoc]
        rw [eZ, List.length_append]
        exact h
    · have hc := dec_f hc
      obtain rfl : i = x.PK.length := by omega
      have eb : Z x.PK.length = x.bytes := by
        rw [hZ, List.take_length, hP9, hP8, hP7, hP6, hP5, hP4]
        show _ = bytesL _ _ _ _ _ _ _ _
        unfold bytesL
        rw [hpl]
      rw [eb] at h ⊢
      exact ⟨_, _, rfl, (Own.sub (h) (by repeat (first | with_reducible exact Sub.nil _ | with_reducible exact Sub.rfl _ | (apply Sub.cons; focus ((repeat (first | with_reducible exact Pick.here | apply Pick.there)); done)) | apply Sub.drop)))⟩
end
end Go.Proofs.Ytppmdifhoejhjaa.Eng
