/- NibbleTells. -/
import Derived.Test.YtmenjjofmafacaaNibS
import Derived.Test.YtmenjjofmafacaaEngU
namespace Go.Proofs.Ytmenjjofmafacaa.Eng
open Go Go.RowKit Go.Proofs
set_option linter.unusedVariables false
set_option linter.unusedSimpArgs false
set_option maxRecDepth 1000000
def cnz (l : List Nat) : Nat := l.countP (fun x => decide (0 < x))
theorem cnz_take {l : List Nat} {i : Nat} (h : i < l.length) : cnz (l.take (i + 1)) = cnz (l.take i) + if 0 < l.getD i 0 then 1 else 0 := by
  unfold cnz
  rw [List.take_succ_eq_append_getElem h, List.countP_append, List.getD_eq_getElem?_getD, List.getElem?_eq_getElem h]
  simp [List.countP_cons]
theorem cnz_le (l : List Nat) (i : Nat) : cnz (l.take i) ≤ cnz l := by
  unfold cnz
  exact (List.take_sublist i l).countP_le
theorem cnz_len (l : List Nat) : cnz l ≤ l.length := List.countP_le_length
/-- How far the telling came. -/
structure NtOk (ns : List Nat) (M i at_ : Nat) : Prop where
  le : at_ ≤ i
  c : cnz (ns.take at_) = cnz (ns.take i)
  m : cnz (ns.take i) ≤ M
section
variable {W : World} {q : Option Addr} {c : Nat} {ls : List Int}
theorem NibbleTells_spec {most : Int} (hb : RdC W q (cs .u64 ls)) (hm : ls.length ≤ maxLen) (hc : ls.length ≤ c) (h64 : ∀ x ∈ ls, (Lit.int .u64 x).wf = true) (hmo : (Lit.int .u64 most).wf = true) :
    Rets Try.prog 8 #[.slice q ls.length c, .int .u64 most] W fun v w' => v = .bool true ∧ Below W.heap.size W w' := by
  refine Rets.mono (k := fun v w' => v = .bool true ∧ Own W w' [snap W]) ?_ (fun v w' h => ⟨h.1, h.2.below⟩)
  have h := Own.begin W
  have hmo := wfU64 hmo
  refine cortadolaw10_NibbleTells_go _ _ _ _ ?_
  unfold cortadolaw10_NibbleTells_m
  refine h.newR fun g1 w1 h => h.newR fun g2 w2 h => ⟨fun hc1 => ?_, fun hc1 => ?_⟩
  · refine Rets.mono (nAwake_spec h) ?_
    rintro v w3 ⟨rfl, h⟩
    exact ⟨_, rfl, Own.stP' h (by repeat (first | with_reducible exact Pick.here | apply Pick.there)) (by simp) (by simp [Value.oneCell']) fun w h => ⟨_, (Own.ld' h (by repeat (first | with_reducible exact Pick.here | apply Pick.there)) (by rfl)), rfl, (Own.sub (h) (by repeat (first | exact Sub.nil _ | exact Sub.rfl _ | (apply Sub.cons; focus ((repeat (first | with_reducible exact Pick.here | apply Pick.there)); done)) | apply Sub.drop)))⟩⟩
  have hc1 := dec_f hc1
  refine Rets.mono (nNew_spec (N := 40) h (by rfl)) ?_
  rintro v w3 ⟨g, rfl, h⟩
  refine ⟨_, rfl, h.makeR ⟨by omega, by omega, by omega, by omega⟩ fun g3 w4 h => h.newR fun g4 w5 h => ?_⟩
  refine Own.stP' h (by repeat (first | with_reducible exact Pick.here | apply Pick.there)) (by simp) (by simp [Value.oneCell']) fun w6 h => ?_
  simp only [setFrom, List.set_cons_zero, List.set_cons_succ, List.set_nil] at h
  have h := make64 (N := 40) (Own.swap h) (by decide)
  -- the adds
  refine ⟨fun m vs w => ∃ (i : Nat) (ns : List Nat) (q' : Option Addr) (c' : Nat), vs = [.int .i64 (i : Int)] ∧ m + i = ls.length ∧ nbOk ns ∧ ns.length = 40 ∧
      Own W w (rowO g ns :: rfO q' c' ns :: blk g4 26 [.slice q' 40 c'] :: blk g1 46 [.int .u64 most] :: blk g2 4 [.bool false] :: [snap W]),
    ⟨ls.length, 0, _, _, _, rfl, rfl, nbOk_zero 40, by simp, (Own.sub (h) (by repeat (first | exact Sub.nil _ | exact Sub.rfl _ | (apply Sub.cons; focus ((repeat (first | with_reducible exact Pick.here | apply Pick.there)); done)) | apply Sub.drop)))⟩, ?_⟩
  rintro m w7 n1
  intros
  rename_i hI
  obtain ⟨i, ns, q', c', hvs, hm', hok, hlen, h⟩ := hI
  obtain rfl : n1 = (i : Int) := by simpa using hvs
  refine ⟨fun hx => ?_, fun hx => ?_⟩
  · have hx := dec_t hx
    have hi : i < ls.length := by omega
    obtain ⟨ad, rfl, hW⟩ := hb.addr (cs_at hi)
    have hk : ∀ w, Own W w [snap W] → cellAt w (ad.add (Int.toNat (i : Int) * 1)) (.int .u64 ls[i]) := fun w h => by
      rw [Int.toNat_natCast, Nat.mul_one]; exact h.snapCell (hW i _ (cs_at hi))
    refine ⟨by omega, by omega, _, hk _ (Own.sub (h) (by repeat (first | exact Sub.nil _ | exact Sub.rfl _ | (apply Sub.cons; focus ((repeat (first | with_reducible exact Pick.here | apply Pick.there)); done)) | apply Sub.drop))), by omega, ?_⟩
    refine Rets.mono (nAdd_spec (Own.pk h (by repeat (first | with_reducible exact Pick.here | apply Pick.there))) hok (by omega)) ?_
    rintro v w8 ⟨rfl, h⟩
    refine ⟨_, rfl, h.drw fun w9 h => ⟨by omega, by omega, _, _, _, (Own.ld' h (by repeat (first | with_reducible exact Pick.here | apply Pick.there)) (by rfl)), _, hk _ (Own.sub (h) (by repeat (first | exact Sub.nil _ | exact Sub.rfl _ | (apply Sub.cons; focus ((repeat (first | with_reducible exact Pick.here | apply Pick.there)); done)) | apply Sub.drop))), by omega, ?_⟩⟩
    generalize IntKind.wrap IntKind.i64 (Int.tmod ls[i] 40) = x at h ⊢
    have h' : Own W w9 (rfO q' c' ns :: rowO g (ngAdd ns x) :: _) := (Own.pk h (by repeat (first | with_reducible exact Pick.here | apply Pick.there)))
    have hA := rfAdd_spec (i := x) h' hok (by omega)
    rw [hlen] at hA
    refine Rets.mono hA ?_
    rintro v w10 ⟨q2, c2, rfl, h⟩
    refine ⟨_, _, _, _, rfl, Own.stP' h (by repeat (first | with_reducible exact Pick.here | apply Pick.there)) (by simp) (by simp [Value.oneCell']) fun w11 h => ?_⟩
    simp only [setFrom, List.set_cons_zero, List.set_cons_succ, List.set_nil] at h
    refine ⟨m - 1, by omega, i + 1, ngAdd ns x, q2, c2, by rw [wI64 (by omega) (by omega)]; rfl, by omega, ngAdd_ok hok x, by rw [ngAdd_len, hlen], ?_⟩
    have e1 : (ngAdd ns x).length = 40 := by rw [ngAdd_len, hlen]
    rw [e1] at h
    exact (Own.sub (h) (by repeat (first | exact Sub.nil _ | exact Sub.rfl _ | (apply Sub.cons; focus ((repeat (first | with_reducible exact Pick.here | apply Pick.there)); done)) | apply Sub.drop)))
  -- all are told
  refine Rets.mono (nAll_spec h) ?_
  rintro v w8 ⟨b, rfl, h⟩
  refine ⟨_, _, _, rfl, fun hx => (by cases hx), fun _ => h.newR fun g5 w9 h => h.newR fun g6 w10 h => ?_⟩
  refine Own.stP' h (by repeat (first | with_reducible exact Pick.here | apply Pick.there)) (by simp) (by simp [Value.oneCell']) fun w11 h => ?_
  simp only [setFrom, List.set_cons_zero, List.set_cons_succ, List.set_nil] at h
  refine Own.stP' h (by repeat (first | with_reducible exact Pick.here | apply Pick.there)) (by simp) (by simp [Value.oneCell']) fun w12 h => ?_
  simp only [setFrom, List.set_cons_zero, List.set_cons_succ, List.set_nil] at h
  refine ⟨_, rfl, h.loopR fun mk l L w13 h hround => ?_⟩
  have hT : 0 ≤ most.tmod 45 ∧ most.tmod 45 < 45 := by rw [Int.tmod_eq_emod_of_nonneg hmo.1]; omega
  obtain ⟨M, hM⟩ := Int.eq_ofNat_of_zero_le hT.1
  have eM : IntKind.wrap IntKind.i64 (most.tmod 45) = (M : Int) := by rw [wI64 (by omega) (by omega), hM]
  have hcn : ∀ i, cnz (ns.take i) ≤ 40 := fun i => by have := cnz_le ns i; have := cnz_len ns; omega
  let Rest : List HP := rfO q' c' ns :: blk g4 26 [.slice q' 40 c'] :: blk g1 46 [.int .u64 most] :: blk g2 4 [.bool false] :: pt mk (.deferred (some [])) :: [snap W]
  let At : Nat → HP := fun i => exH fun at_ : Nat => puH (NtOk ns M i at_) (blk g5 3 [.int .i64 ((at_ : Int) - 1)])
  let Fr : Nat → List HP := fun i => At i :: blk g6 3 [.int .i64 (cnz (ns.take i) : Nat)] :: pt l (LoopObj L .ready none) :: Rest
  let Fin : World → Prop := fun w => ∃ i, i < ns.length ∧ cnz (ns.take i) = M ∧ Own W w (At i :: blk g6 3 [.int .i64 (cnz (ns.take i) : Nat)] :: pt l (LoopObj L .done (some (Code.exit 2))) :: rowO g ns :: Rest)
  have h0 : Own W w13 (blk b 75 [.pointer (some ⟨g, 0, none⟩)] :: rowO g ns :: Fr 0) := by
    have h : Own W w13 (blk g6 3 [.int .i64 0] :: _) := (Own.pk h (by repeat (first | with_reducible exact Pick.here | apply Pick.there)))
    have h : Own W w13 (blk g6 3 [.int .i64 (cnz (ns.take 0) : Nat)] :: _) := h
    have h : Own W w13 (blk g5 3 [.int .i64 (-1)] :: _) := (Own.pk h (by repeat (first | with_reducible exact Pick.here | apply Pick.there)))
    have h : Own W w13 (blk g5 3 [.int .i64 (((0 : Nat) : Int) - 1)] :: _) := h
    have h := Own.mkEx (P := fun at_ : Nat => puH (NtOk ns M 0 at_) (blk g5 3 [.int .i64 ((at_ : Int) - 1)])) 0 (Own.mkPu ⟨Nat.le_refl 0, rfl, by simp [cnz]⟩ h)
    exact (Own.sub (h) (by repeat (first | exact Sub.nil _ | exact Sub.rfl _ | (apply Sub.cons; focus ((repeat (first | with_reducible exact Pick.here | apply Pick.there)); done)) | apply Sub.drop)))
  refine Rets.mono (nAll1_spec (Fr := Fr) (Fin := Fin) hok (by omega) (fun i w hi hp h => ?_) (fun i w hi hz h => ?_) h0) ?_
  · refine hround _ _ w _ (Own.recR (l := l) (L := L) (Own.pk h (by repeat (first | with_reducible exact Pick.here | apply Pick.there)))) ?_
    refine Own.begR (l := l) (L := L) (Own.pk h (by repeat (first | with_reducible exact Pick.here | apply Pick.there))) fun w h => ?_
    have h : Own W w (At i :: _) := (Own.pk h (by repeat (first | with_reducible exact Pick.here | apply Pick.there)))
    obtain ⟨at_, h⟩ := h.ex
    obtain ⟨hat, h⟩ := h.pu
    refine ⟨_, (Own.ld' h (by repeat (first | with_reducible exact Pick.here | apply Pick.there)) (by rfl)), _, (Own.ld' h (by repeat (first | with_reducible exact Pick.here | apply Pick.there)) (by rfl)), by omega, ?_⟩
    rw [eM]
    refine ⟨fun hx => ?_, fun hx => ?_⟩
    · have hx := dec_t hx
      have e1 : cnz (ns.take i) = M := by have := hat.m; omega
      refine Own.finF (l := l) (L := L) (Own.pk h (by repeat (first | with_reducible exact Pick.here | apply Pick.there))) fun w h => .inr ⟨rfl, i, hi, e1, ?_⟩
      have h : Own W w (blk g5 3 [.int .i64 ((at_ : Int) - 1)] :: _) := (Own.pk h (by repeat (first | with_reducible exact Pick.here | apply Pick.there)))
      have h := Own.mkEx (P := fun at_ : Nat => puH (NtOk ns M i at_) (blk g5 3 [.int .i64 ((at_ : Int) - 1)])) at_ (Own.mkPu hat h)
      exact (Own.sub (h) (by repeat (first | exact Sub.nil _ | exact Sub.rfl _ | (apply Sub.cons; focus ((repeat (first | with_reducible exact Pick.here | apply Pick.there)); done)) | apply Sub.drop)))
    · have hx := dec_f hx
      have hle := hat.le
      have hi' : i < (toI ns).length := by rw [toI_len]; exact hi
      have h' : Own W w (rfO q' c' ns :: _) := (Own.pk h (by repeat (first | with_reducible exact Pick.here | apply Pick.there)))
      obtain ⟨ad, rfl, hW⟩ := h'.slRd.addr (cs_at hi')
      have hg := hok.at i
      have e2 : cnz (ns.take (i + 1)) = cnz (ns.take i) + 1 := by rw [cnz_take hi, if_pos hp]
      refine ⟨_, (Own.ld' h (by repeat (first | with_reducible exact Pick.here | apply Pick.there)) (by rfl)), fun hy => ⟨fun hz => ?_, fun hz => absurd (dec_t hz) (by omega)⟩, fun hy => absurd (dec_t hy) (by omega)⟩
      refine ⟨_, _, _, (Own.ld' h (by repeat (first | with_reducible exact Pick.here | apply Pick.there)) (by rfl)), ?_⟩
      refine ⟨by omega, by omega, _, by rw [Int.toNat_natCast, Nat.mul_one]; exact hW i _ (cs_at hi'), ?_⟩
      rw [toI_at ns hi']
      refine ⟨fun _ => ⟨fun hv => absurd (beq_t hv) (by omega), fun _ => ?_⟩, fun hv => absurd rfl (bool_ne hv)⟩
      refine Own.stP' h (by repeat (first | with_reducible exact Pick.here | apply Pick.there)) (by simp) (by simp [Value.oneCell']) fun w h => ?_
      simp only [setFrom, List.set_cons_zero, List.set_cons_succ, List.set_nil] at h
      refine ⟨_, (Own.ld' h (by repeat (first | with_reducible exact Pick.here | apply Pick.there)) (by rfl)), Own.stP' h (by repeat (first | with_reducible exact Pick.here | apply Pick.there)) (by simp) (by simp [Value.oneCell']) fun w h => ?_⟩
      simp only [setFrom, List.set_cons_zero, List.set_cons_succ, List.set_nil] at h
      refine Own.finT (l := l) (L := L) (Own.pk h (by repeat (first | with_reducible exact Pick.here | apply Pick.there))) fun w h => .inl ⟨rfl, ?_⟩
      have hcc := hcn i
      rw [wI64 (by omega) (by omega)] at h
      have h : Own W w (blk g5 3 [.int .i64 (i : Int)] :: _) := (Own.pk h (by repeat (first | with_reducible exact Pick.here | apply Pick.there)))
      have e3 : (i : Int) = ((i + 1 : Nat) : Int) - 1 := by omega
      rw [e3] at h
      have h := Own.mkEx (P := fun at_ : Nat => puH (NtOk ns M (i + 1) at_) (blk g5 3 [.int .i64 ((at_ : Int) - 1)])) (i + 1) (Own.mkPu ⟨Nat.le_refl _, rfl, by omega⟩ h)
      show Own W w (_ :: _ :: At (i + 1) :: blk g6 3 [.int .i64 (cnz (ns.take (i + 1)) : Nat)] :: pt l (LoopObj L .ready none) :: Rest)
      have e4 : ((cnz (ns.take i) : Nat) : Int) + 1 = ((cnz (ns.take (i + 1)) : Nat) : Int) := by omega
      rw [e4] at h
      exact (Own.sub (h) (by repeat (first | exact Sub.nil _ | exact Sub.rfl _ | (apply Sub.cons; focus ((repeat (first | with_reducible exact Pick.here | apply Pick.there)); done)) | apply Sub.drop)))
  · have h : Own W w (At i :: _) := (Own.pk h (by repeat (first | with_reducible exact Pick.here | apply Pick.there)))
    obtain ⟨at_, h⟩ := h.ex
    obtain ⟨hat, h⟩ := h.pu
    have e1 : cnz (ns.take (i + 1)) = cnz (ns.take i) := by rw [cnz_take hi, hz]; simp
    have h := Own.mkEx (P := fun at_ : Nat => puH (NtOk ns M (i + 1) at_) (blk g5 3 [.int .i64 ((at_ : Int) - 1)])) at_ (Own.mkPu ⟨by have := hat.le; omega, by rw [hat.c, e1], by rw [e1]; exact hat.m⟩ h)
    show Own W w (_ :: _ :: At (i + 1) :: blk g6 3 [.int .i64 (cnz (ns.take (i + 1)) : Nat)] :: pt l (LoopObj L .ready none) :: Rest)
    rw [e1]
    exact (Own.sub (h) (by repeat (first | exact Sub.nil _ | exact Sub.rfl _ | (apply Sub.cons; focus ((repeat (first | with_reducible exact Pick.here | apply Pick.there)); done)) | apply Sub.drop)))
  · rintro v w14 hfin
    -- what was told, and what is counted then
    have hfin : (EndR l L none w14 fun w => ∃ at_ told : Nat, at_ ≤ 40 ∧ cnz (ns.take at_) = told ∧ told = min (cnz ns) M ∧ Own W w (blk g5 3 [.int .i64 ((at_ : Int) - 1)] :: blk g6 3 [.int .i64 (told : Nat)] :: rowO g ns :: Rest)) ∨
        (EndR l L (some (Code.exit 2)) w14 fun w => ∃ at_ told : Nat, at_ ≤ 40 ∧ cnz (ns.take at_) = told ∧ told = min (cnz ns) M ∧ Own W w (blk g5 3 [.int .i64 ((at_ : Int) - 1)] :: blk g6 3 [.int .i64 (told : Nat)] :: rowO g ns :: Rest)) := by
      rcases hfin with h | ⟨i, hi0, hi, h⟩
      · left
        have h : Own W w14 (At ns.length :: _) := (Own.pk h (by repeat (first | with_reducible exact Pick.here | apply Pick.there)))
        obtain ⟨at_, h⟩ := h.ex
        obtain ⟨hat, h⟩ := h.pu
        have h1 := hat.le
        have h2 := hat.c
        have h3 := hat.m
        rw [List.take_length] at h2 h3
        refine Own.endR (l := l) (L := L) (Own.pk h (by repeat (first | with_reducible exact Pick.here | apply Pick.there))) (by simp) fun w h => ⟨at_, cnz ns, by omega, h2, by omega, ?_⟩
        rw [List.take_length] at h
        exact (Own.sub (h) (by repeat (first | exact Sub.nil _ | exact Sub.rfl _ | (apply Sub.cons; focus ((repeat (first | with_reducible exact Pick.here | apply Pick.there)); done)) | apply Sub.drop)))
      · right
        obtain ⟨at_, h⟩ := h.ex
        obtain ⟨hat, h⟩ := h.pu
        have h1 := hat.le
        have h2 := hat.c
        have h3 := cnz_le ns i
        exact Own.endR (l := l) (L := L) (Own.pk h (by repeat (first | with_reducible exact Pick.here | apply Pick.there))) (by simp) fun w h => ⟨at_, cnz (ns.take i), by omega, h2, by omega, (Own.sub (h) (by repeat (first | exact Sub.nil _ | exact Sub.rfl _ | (apply Sub.cons; focus ((repeat (first | with_reducible exact Pick.here | apply Pick.there)); done)) | apply Sub.drop)))⟩
    refine EndR.tail3 _ (fun w hw => ?_) hfin
    obtain ⟨at_, told, hat, hct, htd, h⟩ := hw
    have hnc := cnz_len ns
    refine ⟨fun m vs w => ∃ i : Nat, vs = [.int .i64 (cnz (ns.take (min i at_)) : Nat), .int .i64 (i : Int)] ∧ m + i = ns.length ∧ Own W w (blk g5 3 [.int .i64 ((at_ : Int) - 1)] :: blk g6 3 [.int .i64 (told : Nat)] :: rowO g ns :: Rest), ⟨ns.length, 0, by simp [cnz], by omega, h⟩, ?_⟩
    rintro m w15 n1 n2
    intros
    rename_i hI
    obtain ⟨i, hvs, hm', h⟩ := hI
    obtain ⟨rfl, rfl⟩ : n1 = ((cnz (ns.take (min i at_)) : Nat) : Int) ∧ n2 = (i : Int) := by simpa using hvs
    refine ⟨_, _, _, (Own.ld' h (by repeat (first | with_reducible exact Pick.here | apply Pick.there)) (by rfl)), fun hx => ?_, fun hx => ?_⟩
    · have hx := dec_t hx
      have hi : i < ns.length := by omega
      have hi' : i < (toI ns).length := by rw [toI_len]; exact hi
      have hcc := hcn i
      have hcd := hcn (min i at_)
      refine ⟨_, _, _, (Own.ld' h (by repeat (first | with_reducible exact Pick.here | apply Pick.there)) (by rfl)), ?_⟩
      refine ⟨by omega, by omega, RdC.int (Own.rdP h (by repeat (first | with_reducible exact Pick.here | apply Pick.there))) hi' fun a ha => ⟨_, ha, ?_⟩⟩
      rw [toI_at ns hi']
      have e1 := cnz_take hi
      refine ⟨fun hy => ⟨_, (Own.ld' h (by repeat (first | with_reducible exact Pick.here | apply Pick.there)) (by rfl)), fun hz => ?_, fun hz => ?_⟩, fun hy => ?_⟩
      · have hy := dec_t hy; have hz := dec_t hz
        refine ⟨m - 1, by omega, i + 1, ?_, by omega, h⟩
        rw [wI64 (by omega) (by omega), wI64 (by omega) (by omega), show min (i + 1) at_ = i + 1 by omega, show min i at_ = i by omega, e1, if_pos (by omega)]; simp
      · have hy := dec_t hy; have hz := dec_f hz
        refine ⟨m - 1, by omega, i + 1, ?_, by omega, h⟩
        rw [wI64 (by omega) (by omega), show min (i + 1) at_ = at_ by omega, show min i at_ = at_ by omega]; simp
      · have hy := dec_f hy
        refine ⟨m - 1, by omega, i + 1, ?_, by omega, h⟩
        have e2 : cnz (ns.take (min (i + 1) at_)) = cnz (ns.take (min i at_)) := by
          rcases Nat.lt_or_ge i at_ with h' | h'
          · rw [show min (i + 1) at_ = i + 1 by omega, show min i at_ = i by omega, e1, if_neg (by omega)]; rfl
          · rw [show min (i + 1) at_ = at_ by omega, show min i at_ = at_ by omega]
        rw [wI64 (by omega) (by omega), e2]; simp
    · obtain rfl : i = 40 := by have := dec_f hx; omega
      have e0 : min 40 at_ = at_ := by omega
      rw [e0, hct]
      refine ⟨fun m vs w => ∃ i : Nat, vs = [.int .i64 (cnz (ns.take i) : Nat), .int .i64 (i : Int)] ∧ m + i = ns.length ∧ Own W w (blk g5 3 [.int .i64 ((at_ : Int) - 1)] :: blk g6 3 [.int .i64 (told : Nat)] :: rowO g ns :: Rest), ⟨ns.length, 0, by simp [cnz], by omega, h⟩, ?_⟩
      rintro m w16 n1 n2
      intros
      rename_i hI
      obtain ⟨i, hvs, hm', h⟩ := hI
      obtain ⟨rfl, rfl⟩ : n1 = ((cnz (ns.take i) : Nat) : Int) ∧ n2 = (i : Int) := by simpa using hvs
      refine ⟨_, _, _, (Own.ld' h (by repeat (first | with_reducible exact Pick.here | apply Pick.there)) (by rfl)), fun hx => ?_, fun hx => ?_⟩
      · have hx := dec_t hx
        have hi : i < ns.length := by omega
        have hi' : i < (toI ns).length := by rw [toI_len]; exact hi
        have hcc := hcn i
        refine ⟨_, _, _, (Own.ld' h (by repeat (first | with_reducible exact Pick.here | apply Pick.there)) (by rfl)), ?_⟩
        refine ⟨by omega, by omega, RdC.int (Own.rdP h (by repeat (first | with_reducible exact Pick.here | apply Pick.there))) hi' fun a ha => ⟨_, ha, ?_⟩⟩
        rw [toI_at ns hi']
        have e1 := cnz_take hi
        refine ⟨fun hy => ?_, fun hy => ?_⟩
        · have hy := dec_t hy
          refine ⟨m - 1, by omega, i + 1, ?_, by omega, h⟩
          rw [wI64 (by omega) (by omega), wI64 (by omega) (by omega), e1, if_pos (by omega)]; simp
        · have hy := dec_f hy
          refine ⟨m - 1, by omega, i + 1, ?_, by omega, h⟩
          rw [wI64 (by omega) (by omega), e1, if_neg (by omega)]; simp
      · obtain rfl : i = ns.length := by have := dec_f hx; omega
        rw [List.take_length]
        refine ⟨_, (Own.ld' h (by repeat (first | with_reducible exact Pick.here | apply Pick.there)) (by rfl)), fun _ => ⟨_, (Own.ld' h (by repeat (first | with_reducible exact Pick.here | apply Pick.there)) (by rfl)), _, (Own.ld' h (by repeat (first | with_reducible exact Pick.here | apply Pick.there)) (by rfl)), by omega, ?_⟩, fun hv => absurd hv (by simp)⟩
        rw [eM]
        have e5 : (told : Int) = minI (cnz ns : Nat) (M : Int) := by unfold minI; split <;> omega
        refine ⟨fun _ => ?_, fun hv => absurd e5 (beq_f hv)⟩
        refine Rets.mono (nAwake_spec h) ?_
        rintro v w17 ⟨rfl, h⟩
        refine ⟨_, rfl, Own.stP' h (by repeat (first | with_reducible exact Pick.here | apply Pick.there)) (by simp) (by simp [Value.oneCell']) fun w h => ?_⟩
        simp only [setFrom, List.set_cons_zero, List.set_cons_succ, List.set_nil] at h
        exact Own.markR (g := mk) (Own.pk h (by repeat (first | with_reducible exact Pick.here | apply Pick.there))) fun w h => ⟨_, (Own.ld' h (by repeat (first | with_reducible exact Pick.here | apply Pick.there)) (by rfl)), rfl, (Own.sub (h) (by repeat (first | exact Sub.nil _ | exact Sub.rfl _ | (apply Sub.cons; focus ((repeat (first | with_reducible exact Pick.here | apply Pick.there)); done)) | apply Sub.drop)))⟩
end
end Go.Proofs.Ytmenjjofmafacaa.Eng
