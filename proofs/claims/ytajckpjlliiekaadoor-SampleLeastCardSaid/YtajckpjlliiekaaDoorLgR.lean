/- The document's ledger: what each function does, in memory that never changes. -/
import Derived.Test.YtajckpjlliiekaaDoorLgQ
import Derived.Test.YtajckpjlliiekaaDoorLdpG
namespace Go.Proofs.YtajckpjlliiekaaDoor.Eng
open Go Go.RowKit Go.Proofs
set_option linter.unusedVariables false
set_option linter.unusedSimpArgs false
set_option maxRecDepth 1000000
abbrev enc24 (x : Int × Int) : List Value := [.int .u64 x.1, .int .i64 x.2]
theorem enc24_len (x : Int × Int) : (enc24 x).length = 2 := rfl
abbrev E24 (l : LE2) : List Value := l.flatMap enc24
theorem E24_snoc (l : LE2) (x : Int × Int) : E24 (l ++ [x]) = E24 l ++ [.int .u64 x.1, .int .i64 x.2] := by simp [E24]
/-- What may be read for ever. -/
def ImR (h0 : Nat → Option Obj) (q : Option Addr) (us : List Value) : Prop := ∀ e w F, Own e w (imm h0 :: F) → RdC w q us
theorem ImR.mono {h0 h1 : Nat → Option Obj} {q : Option Addr} {us : List Value} (hle : LeH h0 h1) (h : ImR h0 q us) : ImR h1 q us := fun e w F ho => h e w F (ho.immLe hle)
theorem Own.slImm {e w : World} {F : List HP} {h0 : Nat → Option Obj} {T : TypeId} {s n c : Nat} {q : Option Addr} {xs : List Value} (h : Own e w (slO T s q n c xs :: imm h0 :: F)) : ∃ h1, LeH h0 h1 ∧ ImR h1 q xs ∧ n ≤ c ∧ Own e w (imm h1 :: F) := by
  have hnc := h.slFacts.2.1
  rcases h.slCases with ⟨rfl, rfl, rfl, rfl⟩ | ⟨g, rest, rfl, hl, h⟩
  · exact ⟨h0, LeH.refl _, fun e w F ho => .inl rfl, hnc, h.drop⟩
  · obtain ⟨h1, le1, hg, h⟩ := Own.absorb h
    refine ⟨h1, le1, fun e w F ho => .inr ⟨_, rfl, fun j u hj => ?_⟩, hnc, h⟩
    exact ho.immCell (vs := xs ++ rest) hg (by rw [List.getElem?_append_left (List.getElem?_eq_some_iff.1 hj).1]; exact hj)
theorem lput_ldrop (k v : Int) (l : LE2) : lput k v (ldrop k l) = lput k v l := by
  have e1 : (ldrop k l).filter (fun e => decide (e.1 < k)) = l.filter (fun e => decide (e.1 < k)) := by
    unfold ldrop; rw [List.filter_filter]
    congr 1; funext e
    by_cases h : e.1 < k
    · have : e.1 ≠ k := by omega
      simp [h, this]
    · simp [h]
  have e2 : (ldrop k l).filter (fun e => decide (k < e.1)) = l.filter (fun e => decide (k < e.1)) := by
    unfold ldrop; rw [List.filter_filter]
    congr 1; funext e
    by_cases h : k < e.1
    · have : e.1 ≠ k := by omega
      simp [h, this]
    · simp [h]
  unfold lput; rw [e1, e2]
abbrev L24 (q : Option Addr) (n c : Nat) (m : Int) : Value := .agg #[.slice q n c, .int .i64 m]
abbrev B24 (g : Nat) (q : Option Addr) (n c : Nat) (m : Int) : HP := blk g 29 [.slice q n c, .int .i64 m]
abbrev R24 (e : World) (F : List HP) (h0 : Nat → Option Obj) (l : LE2) (m : Int) (v : Value) (w' : World) : Prop := ∃ (h1 : Nat → Option Obj) (q : Option Addr) (c : Nat), v = L24 q l.length c m ∧ LeH h0 h1 ∧ ImR h1 q (E24 l) ∧ l.length ≤ c ∧ Own e w' (imm h1 :: F)
abbrev R24b (e : World) (F : List HP) (h0 : Nat → Option Obj) (l : LE2) (m : Int) (b : Bool) (v : Value) (w' : World) : Prop := ∃ (h1 : Nat → Option Obj) (q : Option Addr) (c : Nat), v = .tuple #[L24 q l.length c m, .bool b] ∧ LeH h0 h1 ∧ ImR h1 q (E24 l) ∧ l.length ≤ c ∧ Own e w' (imm h1 :: F)
section
variable {e w : World} {F : List HP} {h0 : Nat → Option Obj} {q : Option Addr} {L : LE2} {c : Nat} {m k n : Int}
theorem ImR.adr24 (hI : ImR h0 q (E24 L)) {i : Nat} (hi : i < L.length) (h : Own e w (imm h0 :: F)) : ∃ ad, q = some ad ∧ ∀ e w F, Own e w (imm h0 :: F) → cellAt w ((ad.add (Int.toNat (i : Int) * 2)).add 0) (.int .u64 L[i].1) ∧ cellAt w ((ad.add (Int.toNat (i : Int) * 2)).add 1) (.int .i64 L[i].2) := by
  obtain ⟨ad, rfl, hc⟩ := (hI e w F h).rec enc24_len hi (by omega)
  refine ⟨ad, rfl, fun e w F h => ?_⟩
  obtain ⟨ad', ea, hc⟩ := (hI e w F h).rec enc24_len hi (by omega)
  cases ea
  rw [Int.toNat_natCast]
  exact ⟨hc i hi 0 _ rfl, hc i hi 1 _ rfl⟩
theorem app24 {K : Value → World → Prop} {g c2 : Nat} {x : Int × Int} (hn : L.length ≤ 100000) (h : Own e w (blk g 34 [.int .u64 x.1, .int .i64 x.2] :: slO 34 2 q L.length c (E24 L) :: F))
    (hk : ∀ q' c' w', Own e w' (slO 34 2 q' (L ++ [x]).length c' (E24 (L ++ [x])) :: F) → K (.slice q' (L ++ [x]).length c') w') :
    RunR Tryd.prog (builtinV .append #[27, 27] 27 #[.slice q L.length c, .slice (some ⟨g, 0, none⟩) 1 c2]) w K := by
  have hsrc : RdC w (some ⟨g, 0, none⟩) [.int .u64 x.1, .int .i64 x.2] := h.blkRd
  refine Own.append (z := [.int .u64 0, .int .i64 0]) (b := 16) (m := 1) h.drop (by kernel_rfl) (by kernel_rfl) (by kernel_rfl) (by kernel_rfl) (by kernel_rfl) (by omega) hsrc rfl (fun u hu => ?_) (by unfold maxLen; omega) (by omega) fun q' c' w h _ => ?_
  · simp at hu; rcases hu with rfl | rfl <;> rfl
  · have e1 : L.length + 1 = (L ++ [x]).length := by simp
    rw [e1, ← E24_snoc] at h
    rw [e1]
    exact hk q' c' w h
theorem sumV_take {l : LE2} {i : Nat} (hi : i < l.length) : sumV (l.take (i + 1)) = sumV (l.take i) + l[i].2 := by
  rw [List.take_succ_eq_append_getElem hi, sumV_app]; simp [sumV]
theorem sumV_bd {l : LE2} (hn : ∀ e ∈ l, 0 ≤ e.2) (i : Nat) : 0 ≤ sumV (l.take i) ∧ sumV (l.take i) ≤ sumV l := by
  have h1 := sumV_app (l.take i) (l.drop i)
  rw [List.take_append_drop] at h1
  have h2 : 0 ≤ sumV (l.drop i) := sumV_nn fun e he => hn e (List.mem_of_mem_drop he)
  exact ⟨sumV_nn fun e he => hn e (List.mem_of_mem_take he), by omega⟩
theorem rUsed (hn : ∀ e ∈ L, 0 ≤ e.2) (hs : sumV L ≤ 4611686018427387904) (hl : L.length ≤ 700) (hI : ImR h0 q (E24 L)) (h : Own e w (imm h0 :: F)) : Rets Tryd.prog 36 #[L24 q L.length c m] w fun v w' => v = .int .i64 (sumV L) ∧ Own e w' (imm h0 :: F) := by
  refine cortadoref24_Used_go _ _ _ _ (h.newR fun ga w h => ?_)
  obtain ⟨ha0, le0, ha, hh⟩ := Own.absorb h
  clear h
  have h := hh
  clear hh
  have hI := hI.mono le0
  refine ⟨fun z vs w => ∃ i : Nat, vs = [.int .i64 (sumV (L.take i)), .int .i64 (i : Int)] ∧ z + i = L.length ∧ Own e w (imm ha0 :: F), ⟨L.length, 0, rfl, rfl, h⟩, ?_⟩
  clear h
  rintro z w n1 n2
  intros
  rename_i hI2
  obtain ⟨i, hvs, hz, h⟩ := hI2
  obtain ⟨rfl, rfl⟩ : n1 = sumV (L.take i) ∧ n2 = (i : Int) := by simpa using hvs
  refine ⟨_, _, _, h.immCell ha (i := 0) rfl, fun hc => ?_, fun hc => ?_⟩
  · have hc := dec_t hc
    have hi : i < L.length := by omega
    obtain ⟨ad, rfl, rd⟩ := hI.adr24 hi h
    have b1 := sumV_bd hn i
    have b2 := sumV_bd hn (i + 1)
    have e1 := sumV_take hi
    refine ⟨_, _, _, h.immCell ha (i := 0) rfl, by omega, by omega, smR ⟨_, (rd _ _ _ h).2, z - 1, by omega, i + 1, ?_, by omega, h⟩⟩
    rw [wI64 (by omega) (by omega), wI64 (by omega) (by omega), ← e1]; rfl
  · have hc := dec_f hc
    obtain rfl : i = L.length := by omega
    rw [List.take_length]
    exact ⟨rfl, h.immLe le0⟩
theorem rCost (hl : L.length ≤ 700) (hI : ImR h0 q (E24 L)) (h : Own e w (imm h0 :: F)) : Rets Tryd.prog 33 #[L24 q L.length c m, .int .u64 k] w fun v w' => v = .tuple #[.int .i64 (lval k L), .bool (lfind k L).isSome] ∧ Own e w' (imm h0 :: F) := by
  refine cortadoref24_Cost_go _ _ _ _ _ (h.newR fun ga w h => ?_)
  obtain ⟨ha0, le0, ha, hh⟩ := Own.absorb h
  clear h
  have h := hh
  clear hh
  have hI := hI.mono le0
  refine ⟨fun z vs w => ∃ (i : Nat), vs = [.int .i64 (i : Int)] ∧ z + i = L.length ∧ (∀ x ∈ L.take i, x.1 ≠ k) ∧ Own e w (imm ha0 :: F), ⟨L.length, 0, rfl, rfl, fun x hx => (by cases hx), h⟩, ?_⟩
  clear h
  intro z w
  intros
  rename_i hI2
  obtain ⟨i, hvs, hz, hno, h⟩ := hI2
  simp at hvs
  subst hvs
  refine ⟨_, _, _, h.immCell ha (i := 0) rfl, fun hc => ?_, fun hc => ?_⟩
  · have hc := dec_t hc
    have hi : i < L.length := by omega
    obtain ⟨ad, rfl, rd⟩ := hI.adr24 hi h
    obtain ⟨x, hx⟩ : ∃ x, x = L[i] := ⟨_, rfl⟩
    have et : L.take (i + 1) = L.take i ++ [x] := by rw [hx]; exact List.take_succ_eq_append_getElem hi
    have ec := at_cut hi
    rw [← hx] at rd ec
    refine ⟨_, _, _, h.immCell ha (i := 0) rfl, by omega, by omega, smR ⟨_, (rd _ _ _ h).1, fun hn => ?_, fun hn => ?_⟩⟩
    · have hn := beq_t hn
      have ef : lfind k L = some x := by
        rw [ec, lfind_app hno, ← hn]; exact lfind_cons
      have ev : lval k L = x.2 := by unfold lval; rw [ef]; rfl
      rw [ef, ev]
      exact ⟨_, _, _, h.immCell ha (i := 0) rfl, by omega, by omega, smR ⟨_, (rd _ _ _ h).2, rfl, h.immLe le0⟩⟩
    · have hn := beq_f hn
      refine ⟨z - 1, by omega, i + 1, by rw [wI64 (by omega) (by omega)]; rfl, by omega, fun y hy => ?_, h⟩
      rw [et] at hy
      rcases List.mem_append.1 hy with hy | hy
      · exact hno y hy
      · rw [List.mem_singleton.1 hy]; exact hn
  · have hc := dec_f hc
    obtain rfl : i = L.length := by omega
    rw [List.take_length] at hno
    have ef := lfind_no hno
    have ev : lval k L = 0 := by unfold lval; rw [ef]; rfl
    rw [ef, ev]
    exact ⟨rfl, h.immLe le0⟩
theorem rDrop (hl : L.length ≤ 700) (hI : ImR h0 q (E24 L)) (h : Own e w (imm h0 :: F)) : Rets Tryd.prog 34 #[L24 q L.length c m, .int .u64 k] w (R24 e F h0 (ldrop k L) m) := by
  refine cortadoref24_Drop_go _ _ _ _ _ (h.newR fun ga w h => ?_)
  obtain ⟨ha0, le0, ha, hh⟩ := Own.absorb h
  clear h
  have h := hh
  clear hh
  have hI := hI.mono le0
  refine h.newR fun g2 w h => ⟨_, h.swap.immCell ha (i := 1) rfl, h.newR fun g3 w h => Own.stP' (g := g3) h (by repeat (first | with_reducible exact Pick.here | apply Pick.there)) (by simp) (by simp [Value.oneCell']) fun w h => ?_⟩
  simp only [setFrom, List.set_cons_zero, List.set_cons_succ, List.set_nil] at h
  have h : Own e w (imm ha0 :: B24 g3 none 0 0 m :: slO 34 2 none 0 0 [] :: B24 g2 none 0 0 0 :: F) := by
    have h : Own e w (slO 34 2 none 0 0 [] :: B24 g3 none 0 0 m :: B24 g2 none 0 0 0 :: imm ha0 :: F) := h.slNil
    exact (Own.sub (h) (by repeat (first | with_reducible exact Sub.nil _ | with_reducible exact Sub.rfl _ | (apply Sub.cons; focus ((repeat (first | with_reducible exact Pick.here | apply Pick.there)); done)) | apply Sub.drop)))
  refine ⟨fun z vs w => ∃ (i : Nat) (q' : Option Addr) (c' : Nat), vs = [.int .i64 (i : Int)] ∧ z + i = L.length ∧ Own e w (imm ha0 :: B24 g3 q' (ldrop k (L.take i)).length c' m :: slO 34 2 q' (ldrop k (L.take i)).length c' (E24 (ldrop k (L.take i))) :: B24 g2 none 0 0 0 :: F), ⟨L.length, 0, none, 0, rfl, rfl, h⟩, ?_⟩
  clear h
  rintro z w n2
  intros
  rename_i hI2
  obtain ⟨i, q', c', hvs, hz, h⟩ := hI2
  obtain rfl : n2 = (i : Int) := by simpa using hvs
  have hpl := ldrop_len k (L.take i)
  have htl : (L.take i).length ≤ 700 := by rw [List.length_take]; omega
  refine ⟨_, _, _, h.immCell ha (i := 0) rfl, fun hc => ?_, fun hc => ?_⟩
  · have hc := dec_t hc
    have hi : i < L.length := by omega
    have ei : IntKind.wrap .i64 ((i : Int) + 1) = ((i + 1 : Nat) : Int) := by rw [wI64 (by omega) (by omega)]; rfl
    rw [ei]
    obtain ⟨ad, rfl, rd⟩ := hI.adr24 hi h
    obtain ⟨x, hx⟩ : ∃ x, x = L[i] := ⟨_, rfl⟩
    have et : L.take (i + 1) = L.take i ++ [x] := by rw [hx]; exact List.take_succ_eq_append_getElem hi
    have d3 := ldrop_snoc k (L.take i) x
    rw [← et] at d3
    rw [← hx] at rd
    obtain ⟨M, hM⟩ : ∃ M, M = ldrop k (L.take i) := ⟨_, rfl⟩
    rw [← hM] at h hpl d3
    let S : World → Prop := fun w => Own e w (imm ha0 :: B24 g3 q' M.length c' m :: slO 34 2 q' M.length c' (E24 M) :: B24 g2 none 0 0 0 :: F)
    have h : S w := h
    refine ⟨_, _, _, Own.immCell h ha (i := 0) rfl, by omega, by omega, smR ⟨_, (rd _ _ _ h).1, ?_⟩⟩
    refine ⟨fun vs w => vs = [] ∧ ∃ (q' : Option Addr) (c' : Nat), Own e w (imm ha0 :: B24 g3 q' (ldrop k (L.take (i + 1))).length c' m :: slO 34 2 q' (ldrop k (L.take (i + 1))).length c' (E24 (ldrop k (L.take (i + 1)))) :: B24 g2 none 0 0 0 :: F), ⟨fun hn => ?_, fun hn => ?_⟩, ?_⟩
    · have hn := bool_ne hn
      rw [if_neg hn] at d3
      refine Own.drw h fun w h => ⟨S, h, _, _, _, fun w h => Own.ld (g := g3) (k := 0) h (by repeat (first | with_reducible exact Pick.here | apply Pick.there)) rfl, _, _, _, fun w h => Own.immCell h ha (i := 0) rfl, by omega, by omega, smR ⟨_, _, ⟨fun w h => (rd _ _ _ h).1, fun w h => (rd _ _ _ h).2⟩, Own.newR h fun g5 w h => ⟨?_, ?_⟩⟩⟩
      · exact h.drop
      · have h : Own e w (blk g5 34 [.int .u64 x.1, .int .i64 x.2] :: slO 34 2 q' M.length c' (E24 M) :: imm ha0 :: B24 g3 q' M.length c' m :: B24 g2 none 0 0 0 :: F) := (Own.sub (h) (by repeat (first | with_reducible exact Sub.nil _ | with_reducible exact Sub.rfl _ | (apply Sub.cons; focus ((repeat (first | with_reducible exact Pick.here | apply Pick.there)); done)) | apply Sub.drop)))
        refine app24 (x := x) (by omega) h fun q3 c3 w h => ⟨_, _, _, rfl, Own.stP (g := g3) (k := 0) h (by repeat (first | with_reducible exact Pick.here | apply Pick.there)) (by simp) (by simp [Value.oneCell']) fun w h => ⟨rfl, q3, c3, ?_⟩⟩
        simp only [setFrom, List.set_cons_zero, List.set_cons_succ, List.set_nil] at h
        rw [d3]
        exact (Own.sub (h) (by repeat (first | exact Sub.nil _ | exact Sub.rfl _ | (apply Sub.cons; focus ((repeat (first | with_reducible exact Pick.here | apply Pick.there)); done)) | apply Sub.drop)))
    · have hn := bool_eq hn
      rw [if_pos hn, List.append_nil] at d3
      rw [d3]
      exact ⟨rfl, q', c', h⟩
    clear h
    rintro w
    intros
    rename_i hI3
    obtain ⟨_, q3, c3, h⟩ := hI3
    exact ⟨z - 1, by omega, i + 1, q3, c3, rfl, by omega, h⟩
  · have hc := dec_f hc
    obtain rfl : i = L.length := by omega
    rw [List.take_length] at h
    refine ⟨_, _, _, _, ⟨Own.ld (g := g3) (k := 0) h (by repeat (first | with_reducible exact Pick.here | apply Pick.there)) rfl, Own.ld (g := g3) (k := 1) h (by repeat (first | with_reducible exact Pick.here | apply Pick.there)) rfl⟩, Own.stP' (g := g2) h (by repeat (first | with_reducible exact Pick.here | apply Pick.there)) (by simp) (by simp [Value.oneCell']) fun w h => ?_⟩
    simp only [setFrom, List.set_cons_zero, List.set_cons_succ, List.set_nil] at h
    refine ⟨_, _, _, _, ⟨Own.ld (g := g2) (k := 0) h (by repeat (first | with_reducible exact Pick.here | apply Pick.there)) rfl, Own.ld (g := g2) (k := 1) h (by repeat (first | with_reducible exact Pick.here | apply Pick.there)) rfl⟩, ?_⟩
    have h : Own e w (slO 34 2 q' (ldrop k L).length c' (E24 (ldrop k L)) :: imm ha0 :: F) := (Own.sub (h) (by repeat (first | exact Sub.nil _ | exact Sub.rfl _ | (apply Sub.cons; focus ((repeat (first | with_reducible exact Pick.here | apply Pick.there)); done)) | apply Sub.drop)))
    obtain ⟨h1, le1, hR, hnc, h⟩ := h.slImm
    exact ⟨h1, _, _, rfl, LeH.trans le0 le1, hR, hnc, h⟩
end
end Go.Proofs.YtajckpjlliiekaaDoor.Eng
