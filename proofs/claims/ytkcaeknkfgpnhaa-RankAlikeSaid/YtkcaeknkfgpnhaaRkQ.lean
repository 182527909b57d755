/- The document's rows; what stands in a tree. -/
import Derived.Test.YtkcaeknkfgpnhaaRkV
import Derived.Test.YtkcaeknkfgpnhaaBitW
namespace Go.Proofs.Ytkcaeknkfgpnhaa.Eng
open Go Go.RowKit Go.Proofs
set_option linter.unusedVariables false
set_option linter.unusedSimpArgs false
set_option maxRecDepth 1000000
abbrev encE2 (x : Int × Int) : List Value := [.int .i64 x.1, .int .i64 x.2]
theorem encE2_len (x : Int × Int) : (encE2 x).length = 2 := rfl
abbrev E2 (l : LE2) : List Value := l.flatMap encE2
theorem E2_len (l : LE2) : (E2 l).length = l.length * 2 := flat_len encE2_len l
theorem E2_snoc (l : LE2) (x : Int × Int) : E2 (l ++ [x]) = E2 l ++ [.int .i64 x.1, .int .i64 x.2] := by simp [E2]
/-- What may be read for ever. -/
def ImR (h0 : Nat → Option Obj) (q : Option Addr) (us : List Value) : Prop := ∀ e w F, Own e w (imm h0 :: F) → RdC w q us
theorem ImR.mono {h0 h1 : Nat → Option Obj} {q : Option Addr} {us : List Value} (hle : LeH h0 h1) (h : ImR h0 q us) : ImR h1 q us := fun e w F ho => h e w F (ho.immLe hle)
theorem Own.slImm {e w : World} {F : List HP} {h0 : Nat → Option Obj} {T : TypeId} {s n c : Nat} {q : Option Addr} {xs : List Value} (h : Own e w (slO T s q n c xs :: imm h0 :: F)) : ∃ h1, LeH h0 h1 ∧ ImR h1 q xs ∧ n ≤ c ∧ Own e w (imm h1 :: F) := by
  have hnc := h.slFacts.2.1
  rcases h.slCases with ⟨rfl, rfl, rfl, rfl⟩ | ⟨g, rest, rfl, hl, h⟩
  · exact ⟨h0, LeH.refl _, fun e w F ho => .inl rfl, hnc, h.drop⟩
  · obtain ⟨h1, le1, hg, h⟩ := Own.absorb h
    refine ⟨h1, le1, fun e w F ho => .inr ⟨_, rfl, fun j u hj => ?_⟩, hnc, h⟩
    exact ho.immCell (vs := xs ++ rest) hg (by rw [List.getElem?_append_left (List.getElem?_eq_some_iff.1 hj).1]; exact hj)
section
variable {e w : World} {F : List HP} {h0 : Nat → Option Obj} {q : Option Addr} {L : LE2} {c : Nat} {k v : Int}
/-- The cells of a row. -/
theorem ImR.adr (hI : ImR h0 q (E2 L)) {i : Nat} (hi : i < L.length) (h : Own e w (imm h0 :: F)) : ∃ ad, q = some ad ∧ ∀ e w F, Own e w (imm h0 :: F) → cellAt w ((ad.add (Int.toNat (i : Int) * 2)).add 0) (.int .i64 L[i].1) ∧ cellAt w ((ad.add (Int.toNat (i : Int) * 2)).add 1) (.int .i64 L[i].2) := by
  obtain ⟨ad, rfl, hc⟩ := (hI e w F h).rec encE2_len hi (by omega)
  refine ⟨ad, rfl, fun e w F h => ?_⟩
  obtain ⟨ad', ea, hc⟩ := (hI e w F h).rec encE2_len hi (by omega)
  cases ea
  rw [Int.toNat_natCast]
  exact ⟨hc i hi 0 _ rfl, hc i hi 1 _ rfl⟩
theorem appE {K : Value → World → Prop} {g c2 : Nat} {x : Int × Int} (hn : L.length ≤ 100000) (h : Own e w (blk g 110 [.int .i64 x.1, .int .i64 x.2] :: slO 110 2 q L.length c (E2 L) :: F))
    (hk : ∀ q' c' w', Own e w' (slO 110 2 q' (L ++ [x]).length c' (E2 (L ++ [x])) :: F) → K (.slice q' (L ++ [x]).length c') w') :
    RunR Try.prog (builtinV .append #[40, 40] 40 #[.slice q L.length c, .slice (some ⟨g, 0, none⟩) 1 c2]) w K := by
  have hsrc : RdC w (some ⟨g, 0, none⟩) [.int .i64 x.1, .int .i64 x.2] := h.blkRd
  refine Own.append (z := [.int .i64 0, .int .i64 0]) (b := 16) (m := 1) h.drop (by kernel_rfl) (by kernel_rfl) (by kernel_rfl) (by kernel_rfl) (by kernel_rfl) (by omega) hsrc rfl (fun u hu => ?_) (by unfold maxLen; omega) (by omega) fun q' c' w h _ => ?_
  · simp at hu; rcases hu with rfl | rfl <;> rfl
  · have e1 : L.length + 1 = (L ++ [x]).length := by simp
    rw [e1, ← E2_snoc] at h
    rw [e1]
    exact hk q' c' w h
/-- A row is told. -/
abbrev RL (e : World) (F : List HP) (h0 : Nat → Option Obj) (l : LE2) (v : Value) (w' : World) : Prop := ∃ (h1 : Nat → Option Obj) (q : Option Addr) (c : Nat), v = .slice q l.length c ∧ LeH h0 h1 ∧ ImR h1 q (E2 l) ∧ l.length ≤ c ∧ Own e w' (imm h1 :: F)
theorem rlPut (hI : ImR h0 q (E2 L)) (hs : Srt L) (hl : L.length ≤ 700) (h : Own e w (imm h0 :: F)) : Rets Try.prog 21 #[.slice q L.length c, .int .i64 k, .int .i64 v] w (RL e F h0 (lput k v L)) := by
  refine cortadoref08_Put_go _ _ _ _ _ ⟨fun m vs w => ∃ (i : Nat) (q' : Option Addr) (c' : Nat), vs = [.slice q' (pout k v (L.take i)).length c', .bool (pdone k (L.take i)), .int .i64 (i : Int)] ∧ m + i = L.length ∧ Own e w (slO 110 2 q' (pout k v (L.take i)).length c' (E2 (pout k v (L.take i))) :: imm h0 :: F), ⟨L.length, 0, none, 0, rfl, rfl, h.slNil⟩, ?_⟩
  clear h
  rintro m w q1 k3 k4 b1 n1
  intros
  rename_i hI2
  obtain ⟨i, q', c', hvs, hm, h⟩ := hI2
  obtain ⟨⟨rfl, rfl, rfl⟩, rfl, rfl⟩ : (q1 = q' ∧ k3 = (pout k v (L.take i)).length ∧ k4 = c') ∧ b1 = pdone k (L.take i) ∧ n1 = (i : Int) := by simpa using hvs
  have hpl := pout_len k v (L.take i)
  have htl : (L.take i).length ≤ 700 := by rw [List.length_take]; omega
  refine ⟨fun hc => ?_, fun hc => ?_⟩
  · have hc := dec_t hc
    have hi : i < L.length := by omega
    have ei : IntKind.wrap .i64 ((i : Int) + 1) = ((i + 1 : Nat) : Int) := by rw [wI64 (by omega) (by omega)]; rfl
    rw [ei]
    obtain ⟨ad, rfl, rd⟩ := hI.adr hi h.drop
    obtain ⟨x, hx⟩ : ∃ x, x = L[i] := ⟨_, rfl⟩
    have et : L.take (i + 1) = L.take i ++ [x] := by rw [hx]; exact List.take_succ_eq_append_getElem hi
    have hsn : Srt (L.take i ++ [x]) := by rw [← et]; exact hs.take _
    rw [← hx] at rd
    refine ⟨fun hb => ?_, fun hb => ?_⟩
    · have hd : pdone k (L.take i) = false := by simpa using hb
      refine ⟨by omega, by omega, smR ⟨_, (rd _ _ _ h.drop).1, fun hk => ?_, fun hk => ?_⟩⟩
      · have hk := dec_t hk
        obtain ⟨d1, d2, d3⟩ := pout_B (v := v) hd hk
        rw [d2] at h ⊢
        refine h.newR fun g w h => appE (x := (k, v)) (by omega) h fun q2 c2 w h => ⟨_, _, _, rfl, by omega, by omega, smR ⟨_, (rd _ _ _ h.drop).1, fun hn => ?_, fun hn => ?_⟩⟩
        · have hn := bool_ne hn
          rw [if_neg hn] at d3
          refine ⟨by omega, by omega, smR ⟨_, _, rd _ _ _ h.drop, h.newR fun g w h => appE (x := x) (by rw [List.length_append]; simp; omega) h fun q3 c3 w h => ⟨_, _, _, rfl, m - 1, by omega, i + 1, q3, c3, ?_, by omega, ?_⟩⟩⟩
          · rw [et, d1, d3]
          · rw [et, d3]; exact h
        · have hn := bool_eq hn
          rw [if_pos hn, List.append_nil] at d3
          refine ⟨m - 1, by omega, i + 1, q2, c2, ?_, by omega, ?_⟩
          · rw [et, d1, d3]
          · rw [et, d3]; exact h
      · have hk := dec_f hk
        obtain ⟨d1, d2, d3⟩ := pout_C (k := k) (v := v) (e := x) hd (by omega)
        rw [d2] at h ⊢
        refine ⟨by omega, by omega, smR ⟨_, (rd _ _ _ h.drop).1, fun hn => ?_, fun hn => ?_⟩⟩
        · refine ⟨by omega, by omega, smR ⟨_, _, rd _ _ _ h.drop, h.newR fun g w h => appE (x := x) (by omega) h fun q3 c3 w h => ⟨_, _, _, rfl, m - 1, by omega, i + 1, q3, c3, ?_, by omega, ?_⟩⟩⟩
          · rw [et, d1, d3, hd]
          · rw [et, d3]; exact h
        · have hn := bool_eq hn
          omega
    · have hd : pdone k (L.take i) = true := by simpa using hb
      obtain ⟨d0, d1, d3⟩ := pout_A (v := v) hsn hd
      refine ⟨by omega, by omega, smR ⟨_, (rd _ _ _ h.drop).1, fun hn => ?_, fun hn => ?_⟩⟩
      · refine ⟨by omega, by omega, smR ⟨_, _, rd _ _ _ h.drop, h.newR fun g w h => appE (x := x) (by omega) h fun q3 c3 w h => ⟨_, _, _, rfl, m - 1, by omega, i + 1, q3, c3, ?_, by omega, ?_⟩⟩⟩
        · rw [et, d1, d3, hd]
        · rw [et, d3]; exact h
      · have hn := bool_eq hn
        omega
  · have hc := dec_f hc
    obtain rfl : i = L.length := by omega
    rw [List.take_length] at h hpl ⊢
    obtain ⟨e1, e2⟩ := pout_end (k := k) (v := v) (l := L)
    refine ⟨fun hb => ?_, fun hb => ?_⟩
    · have e2 := e2 (by simpa using hb)
      refine h.newR fun g w h => appE (x := (k, v)) (by omega) h fun q2 c2 w h => ⟨_, _, _, rfl, ?_⟩
      rw [e2] at h ⊢
      obtain ⟨h1, le1, hR, hnc, h⟩ := h.slImm
      exact ⟨h1, q2, c2, rfl, le1, hR, hnc, h⟩
    · have e1 := e1 (by simpa using hb)
      rw [e1] at h ⊢
      obtain ⟨h1, le1, hR, hnc, h⟩ := h.slImm
      exact ⟨h1, _, _, rfl, le1, hR, hnc, h⟩
theorem rlDrop (hI : ImR h0 q (E2 L)) (hl : L.length ≤ 700) (h : Own e w (imm h0 :: F)) : Rets Try.prog 23 #[.slice q L.length c, .int .i64 k] w (RL e F h0 (ldrop k L)) := by
  refine cortadoref08_Drop_go _ _ _ _ ⟨fun m vs w => ∃ (i : Nat) (q' : Option Addr) (c' : Nat), vs = [.slice q' (ldrop k (L.take i)).length c', .int .i64 (i : Int)] ∧ m + i = L.length ∧ Own e w (slO 110 2 q' (ldrop k (L.take i)).length c' (E2 (ldrop k (L.take i))) :: imm h0 :: F), ⟨L.length, 0, none, 0, rfl, rfl, h.slNil⟩, ?_⟩
  clear h
  rintro m w q1 k3 k4 n1
  intros
  rename_i hI2
  obtain ⟨i, q', c', hvs, hm, h⟩ := hI2
  obtain ⟨⟨rfl, rfl, rfl⟩, rfl⟩ : (q1 = q' ∧ k3 = (ldrop k (L.take i)).length ∧ k4 = c') ∧ n1 = (i : Int) := by simpa using hvs
  have hpl := ldrop_len k (L.take i)
  have htl : (L.take i).length ≤ 700 := by rw [List.length_take]; omega
  refine ⟨fun hc => ?_, fun hc => ?_⟩
  · have hc := dec_t hc
    have hi : i < L.length := by omega
    have ei : IntKind.wrap .i64 ((i : Int) + 1) = ((i + 1 : Nat) : Int) := by rw [wI64 (by omega) (by omega)]; rfl
    rw [ei]
    obtain ⟨ad, rfl, rd⟩ := hI.adr hi h.drop
    obtain ⟨x, hx⟩ : ∃ x, x = L[i] := ⟨_, rfl⟩
    have et : L.take (i + 1) = L.take i ++ [x] := by rw [hx]; exact List.take_succ_eq_append_getElem hi
    have d3 := ldrop_snoc k (L.take i) x
    rw [← hx] at rd
    refine ⟨by omega, by omega, smR ⟨_, (rd _ _ _ h.drop).1, fun hn => ?_, fun hn => ?_⟩⟩
    · have hn := bool_ne hn
      rw [if_neg hn] at d3
      refine ⟨by omega, by omega, smR ⟨_, _, rd _ _ _ h.drop, h.newR fun g w h => appE (x := x) (by omega) h fun q3 c3 w h => ⟨_, _, _, rfl, m - 1, by omega, i + 1, q3, c3, ?_, by omega, ?_⟩⟩⟩
      · rw [et, d3]
      · rw [et, d3]; exact h
    · have hn := bool_eq hn
      rw [if_pos hn, List.append_nil] at d3
      refine ⟨m - 1, by omega, i + 1, q1, k4, ?_, by omega, ?_⟩
      · rw [et, d3]
      · rw [et, d3]; exact h
  · have hc := dec_f hc
    obtain rfl : i = L.length := by omega
    rw [List.take_length] at h ⊢
    obtain ⟨h1, le1, hR, hnc, h⟩ := h.slImm
    exact ⟨h1, _, _, rfl, le1, hR, hnc, h⟩
theorem rlGet (hI : ImR h0 q (E2 L)) (hl : L.length ≤ 700) (h : Own e w (imm h0 :: F)) : Rets Try.prog 25 #[.slice q L.length c, .int .i64 k] w fun v w' => v = .tuple #[.int .i64 ((lfind k L).getD (0, 0)).2, .bool (lfind k L).isSome] ∧ Own e w' (imm h0 :: F) := by
  refine cortadoref08_Get_go _ _ _ _ ⟨fun m vs w => ∃ (i : Nat), vs = [.int .i64 (i : Int)] ∧ m + i = L.length ∧ (∀ x ∈ L.take i, x.1 ≠ k) ∧ Own e w (imm h0 :: F), ⟨L.length, 0, rfl, rfl, fun x hx => (by cases hx), h⟩, ?_⟩
  clear h
  intro m w
  intros
  rename_i hI2
  obtain ⟨i, hvs, hm, hno, h⟩ := hI2
  simp at hvs
  subst hvs
  refine ⟨fun hc => ?_, fun hc => ?_⟩
  · have hc := dec_t hc
    have hi : i < L.length := by omega
    obtain ⟨ad, rfl, rd⟩ := hI.adr hi h
    obtain ⟨x, hx⟩ : ∃ x, x = L[i] := ⟨_, rfl⟩
    have et : L.take (i + 1) = L.take i ++ [x] := by rw [hx]; exact List.take_succ_eq_append_getElem hi
    have ec := at_cut hi
    rw [← hx] at rd ec
    refine ⟨by omega, by omega, smR ⟨_, (rd _ _ _ h).1, fun hn => ?_, fun hn => ?_⟩⟩
    · have hn := beq_t hn
      have ef : lfind k L = some x := by
        rw [ec, lfind_app hno, ← hn]; exact lfind_cons
      rw [ef]
      exact ⟨by omega, by omega, smR ⟨_, (rd _ _ _ h).2, rfl, h⟩⟩
    · have hn := beq_f hn
      refine ⟨m - 1, by omega, i + 1, by rw [wI64 (by omega) (by omega)]; rfl, by omega, fun y hy => ?_, h⟩
      rw [et] at hy
      rcases List.mem_append.1 hy with hy | hy
      · exact hno y hy
      · rw [List.mem_singleton.1 hy]; exact hn
  · have hc := dec_f hc
    obtain rfl : i = L.length := by omega
    rw [List.take_length] at hno
    rw [lfind_no hno]
    exact ⟨rfl, h⟩
theorem rlRank (hI : ImR h0 q (E2 L)) (hs : Srt L) (hl : L.length ≤ 700) (h : Own e w (imm h0 :: F)) : Rets Try.prog 27 #[.slice q L.length c, .int .i64 k] w fun v w' => v = .tuple #[.int .i64 (lrank k L : Int), .bool (lfind k L).isSome] ∧ Own e w' (imm h0 :: F) := by
  refine cortadoref08_Rank_go _ _ _ _ ⟨fun m vs w => ∃ (i : Nat), vs = [.int .i64 (i : Int)] ∧ m + i = L.length ∧ (∀ x ∈ L.take i, x.1 < k) ∧ Own e w (imm h0 :: F), ⟨L.length, 0, rfl, rfl, fun x hx => (by cases hx), h⟩, ?_⟩
  clear h
  intro m w
  intros
  rename_i hI2
  obtain ⟨i, hvs, hm, hno, h⟩ := hI2
  simp at hvs
  subst hvs
  refine ⟨fun hc => ?_, fun hc => ?_⟩
  · have hc := dec_t hc
    have hi : i < L.length := by omega
    have hI' := hI
    obtain ⟨ad, rfl, rd⟩ := hI.adr hi h
    obtain ⟨x, hx⟩ : ∃ x, x = L[i] := ⟨_, rfl⟩
    have et : L.take (i + 1) = L.take i ++ [x] := by rw [hx]; exact List.take_succ_eq_append_getElem hi
    have ec := at_cut hi
    have hgt := (take_lt hs hi).2
    rw [← hx] at rd ec hgt
    refine ⟨by omega, by omega, smR ⟨_, (rd _ _ _ h).1, fun hn => ?_, fun hn => ?_⟩⟩
    · have hn := dec_t hn
      refine ⟨m - 1, by omega, i + 1, by rw [wI64 (by omega) (by omega)]; rfl, by omega, fun y hy => ?_, h⟩
      rw [et] at hy
      rcases List.mem_append.1 hy with hy | hy
      · exact hno y hy
      · rw [List.mem_singleton.1 hy]; exact hn
    · have hn := dec_f hn
      have ek : lrank k L = i := by
        rw [ec, lrank_app, lrank_all hno, lrank_no (l := x :: L.drop (i + 1)), List.length_take]
        · omega
        · intro y hy
          rcases List.mem_cons.1 hy with rfl | hy
          · omega
          · have := hgt y hy; omega
      refine Rets.mono (rlGet (c := c) (k := k) hI' hl h) ?_
      rintro _ w ⟨rfl, h⟩
      exact ⟨_, _, rfl, by rw [ek], h⟩
  · have hc := dec_f hc
    obtain rfl : i = L.length := by omega
    rw [List.take_length] at hno
    have ek : lrank k L = L.length := lrank_all hno
    refine Rets.mono (rlGet (c := c) (k := k) hI hl h) ?_
    rintro _ w ⟨rfl, h⟩
    exact ⟨_, _, rfl, by rw [ek], h⟩
/-! ### Trees, told by their rows -/
variable {t : Tr} {g : Nat}
theorem tkGet (hT : TreeA h0 t g) (hs : t.size ≤ 700) (hS : Srt t.toL) (h : Own e w (imm h0 :: F)) : Rets Try.prog 24 #[.pointer (some ⟨g, 0, none⟩), .int .i64 k] w fun v w' => v = .tuple #[.int .i64 ((lfind k t.toL).getD (0, 0)).2, .bool (lfind k t.toL).isSome] ∧ Own e w' (imm h0 :: F) := by
  have := rkGet (k := k) hT hs h
  rw [tfind_eq k t 0 hS] at this
  exact this
theorem tkRank (hT : TreeA h0 t g) (hs : t.size ≤ 700) (hS : Srt t.toL) (h : Own e w (imm h0 :: F)) : Rets Try.prog 26 #[.pointer (some ⟨g, 0, none⟩), .int .i64 k] w fun v w' => v = .tuple #[.int .i64 (lrank k t.toL : Int), .bool (lfind k t.toL).isSome] ∧ Own e w' (imm h0 :: F) := by
  have := rkRank (k := k) hT hs h
  rw [tfind_eq k t 0 hS] at this
  simp only [Nat.zero_add] at this
  exact this
theorem tkStands (hT : TreeA h0 t g) (hI : ImR h0 q (E2 t.toL)) (hs : t.size ≤ 600) (hS : Srt t.toL) (h : Own e w (imm h0 :: F)) : Rets Try.prog 28 #[.pointer (some ⟨g, 0, none⟩), .slice q t.toL.length c] w fun v w' => v = .bool true ∧ Own e w' (imm h0 :: F) := by
  have hsz := Tr.size_toL t
  refine cortadolaw08_stands_go _ _ _ _ ⟨fun m vs w => ∃ (i : Nat), vs = [.int .i64 (i : Int)] ∧ m + i = t.toL.length ∧ Own e w (imm h0 :: F), ⟨t.toL.length, 0, rfl, rfl, h⟩, ?_⟩
  clear h
  intro m w
  intros
  rename_i hI2
  obtain ⟨i, hvs, hm, h⟩ := hI2
  simp at hvs
  subst hvs
  refine ⟨fun hc => ?_, fun hc => ?_⟩
  · have hc := dec_t hc
    have hi : i < t.toL.length := by omega
    obtain ⟨ad, rfl, rd⟩ := hI.adr hi h
    have ea : tat t i = some t.toL[i] := by rw [tat_eq]; exact List.getElem?_eq_getElem hi
    have er := lrank_at hS hi
    have ef := lfind_at hS hi
    obtain ⟨x, hx⟩ : ∃ x, x = t.toL[i] := ⟨_, rfl⟩
    rw [← hx] at rd ea er ef
    have hA := rkAt (i := i) hT (by omega) (by omega) h
    rw [ea] at hA
    refine Rets.mono hA ?_
    clear h hA
    rintro _ w ⟨rfl, h⟩
    refine ⟨_, _, _, rfl, by omega, by omega, smR ⟨_, (rd _ _ _ h).1, ?_⟩⟩
    refine Rets.mono (tkRank (k := x.1) hT (by omega) hS h) ?_
    clear h
    rintro _ w ⟨rfl, h⟩
    rw [er, ef]
    refine ⟨_, _, rfl, fun _ => ⟨fun _ => ⟨by omega, by omega, smR ⟨_, (rd _ _ _ h).1, fun _ => ⟨by omega, by omega, smR ⟨_, (rd _ _ _ h).2, fun _ => ⟨fun hc => absurd hc (by simp), fun _ => ⟨m - 1, by omega, i + 1, by rw [wI64 (by omega) (by omega)]; rfl, by omega, h⟩⟩, fun hc => absurd hc (by simp)⟩⟩, fun hc => absurd hc (by simp)⟩⟩, fun hc => absurd hc (by simp)⟩, fun hc => absurd hc (by simp)⟩
  · have hc := dec_f hc
    obtain rfl : i = t.toL.length := by omega
    have ea : tat t t.toL.length = none := by rw [tat_eq]; exact List.getElem?_eq_none (Nat.le_refl _)
    have hA := rkAt (i := t.toL.length) hT (by omega) (by omega) h
    rw [ea] at hA
    refine Rets.mono hA ?_
    clear h hA
    rintro _ w ⟨rfl, h⟩
    refine ⟨_, _, _, rfl, ?_⟩
    refine Rets.mono (rkAtNeg h) ?_
    clear h
    rintro _ w ⟨rfl, h⟩
    refine ⟨_, _, _, rfl, ?_⟩
    refine Rets.mono (rkLen hT h) ?_
    clear h
    rintro _ w ⟨rfl, h⟩
    rw [← hsz]
    exact ⟨_, rfl, fun _ => ⟨fun _ => ⟨rfl, h⟩, fun hc => absurd hc (by simp)⟩, fun hc => absurd hc (by simp)⟩
theorem rkAwake (h : Own e w (imm h0 :: F)) : Rets Try.prog 17 #[] w fun v w' => v = .bool true ∧ Own e w' (imm h0 :: F) := by
  refine cortadolaw08_awake_go ?_
  refine Rets.mono (rkNew h) ?_
  clear h
  rintro _ w ⟨h1, g1, rfl, le1, T1, h⟩
  refine ⟨_, rfl, ?_⟩
  refine Rets.mono (rkPut (k := 30) (v := 1) T1 (by decide) h) ?_
  clear h
  rintro _ w ⟨h2, g2, rfl, le2, T2, h⟩
  refine ⟨_, rfl, ?_⟩
  refine Rets.mono (rkPut (k := 10) (v := 2) T2 (by decide) h) ?_
  clear h
  rintro _ w ⟨h3, g3, rfl, le3, T3, h⟩
  refine ⟨_, rfl, ?_⟩
  refine Rets.mono (rkPut (k := 20) (v := 3) T3 (by decide) h) ?_
  clear h
  rintro _ w ⟨h4, g4, rfl, le4, T4, h⟩
  refine ⟨_, rfl, ?_⟩
  refine Rets.mono (rkAt (i := 1) T4 (by decide) (by decide) h) ?_
  clear h
  rintro _ w ⟨rfl, h⟩
  refine ⟨_, _, _, rfl, ?_⟩
  refine Rets.mono (rkRank (k := 15) T4 (by decide) h) ?_
  clear h
  rintro _ w ⟨rfl, h⟩
  have h := h.immLe (LeH.trans le1 (LeH.trans le2 (LeH.trans le3 le4)))
  have e1 : tat (tput 20 3 (tput 10 2 (tput 30 1 .nil))) 1 = some (20, 3) := by decide
  have e2 : tfind 15 (tput 20 3 (tput 10 2 (tput 30 1 .nil))) 0 = (none, 1) := by decide
  rw [e1, e2]
  exact ⟨_, _, rfl, fun _ => ⟨fun _ => ⟨fun _ => ⟨fun _ => ⟨rfl, h⟩, fun hc => absurd hc (by decide)⟩, fun hc => absurd hc (by decide)⟩, fun hc => absurd hc (by decide)⟩, fun hc => absurd hc (by decide)⟩
theorem rkLog {X : Nat} (hX : X < 18446744073709551616) (h : Own e w F) : Rets Try.prog 30 #[.int .u64 (X : Int)] w fun v w' => (∃ i : Nat, v = .int .i64 ((i : Int) - 1) ∧ i ≤ 64 ∧ X / 2 ^ i = 0 ∧ (i = 0 ∨ X / 2 ^ (i - 1) ≠ 0)) ∧ Own e w' F := by
  refine word_Log_go _ ⟨fun m vs w => ∃ i : Nat, vs = [.int .u64 ((X / 2 ^ i : Nat) : Int), .int .i64 ((i : Int) - 1)] ∧ m = X / 2 ^ i ∧ i ≤ 64 ∧ (i = 0 ∨ X / 2 ^ (i - 1) ≠ 0) ∧ Own e w F, ⟨X, 0, by simp, by simp, by omega, .inl rfl, h⟩, ?_⟩
  clear h
  rintro m w n1 n2
  intros
  rename_i hI
  obtain ⟨i, hvs, rfl, hi, h0, h⟩ := hI
  obtain ⟨rfl, rfl⟩ : n1 = ((X / 2 ^ i : Nat) : Int) ∧ n2 = (i : Int) - 1 := by simpa using hvs
  refine ⟨fun hc => ?_, fun hc => ?_⟩
  · have hc : ¬ X / 2 ^ i = 0 := fun e => by rw [e] at hc; exact absurd hc (by decide)
    have hi64 : i < 64 := by
      refine Nat.lt_of_not_le fun hge => hc (Nat.div_eq_of_lt ?_)
      have : 2 ^ 64 ≤ 2 ^ i := Nat.pow_le_pow_right (by omega) hge
      rw [pow64] at this
      omega
    rw [show shrI IntKind.u64 ((X / 2 ^ i : Nat) : Int) 1 = ((X / 2 ^ i / 2 ^ 1 : Nat) : Int) from shrN _ 1 (by omega), Nat.div_div_eq_div_mul, ← Nat.pow_succ]
    refine ⟨by omega, X / 2 ^ (i + 1), ?_, i + 1, ?_, rfl, by omega, .inr (by rw [Nat.add_sub_cancel]; exact hc), h⟩
    · rw [Nat.pow_succ, ← Nat.div_div_eq_div_mul]
      exact Nat.div_lt_self (Nat.pos_of_ne_zero hc) (by omega)
    · rw [wI64 (by omega) (by omega)]
      congr 3
      omega
  · have hc : X / 2 ^ i = 0 := Int.ofNat.inj (show ((X / 2 ^ i : Nat) : Int) = ((0 : Nat) : Int) from bne_eq_false_iff_eq.1 hc)
    exact ⟨⟨i, rfl, hi, hc, h0⟩, h⟩
end
end Go.Proofs.Ytkcaeknkfgpnhaa.Eng
