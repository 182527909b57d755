/- Samples: what the document's functions do; how ledgers are made; awake. -/
import Derived.Test.YtajckpjlliiekaaDoorSamP
namespace Go.Proofs.YtajckpjlliiekaaDoor.Eng
open Go Go.RowKit Go.Proofs
set_option linter.unusedVariables false
set_option linter.unusedSimpArgs false
set_option maxRecDepth 1000000
/-- How many aren't among some. -/
def cntK (ks ins : List Int) : Nat := ks.countP (fun x => decide (x ∉ ins))
theorem cntK_pos (ks ins : List Int) : 0 < cntK ks ins ↔ moreK ks ins = true := by
  unfold cntK moreK
  rw [List.countP_pos_iff, List.any_eq_true]
theorem rnd_step {ks : List Int} {B i : Nat} (h : 0 < ks.length) : (if ((B + i) % ks.length + 1 = ks.length) then 0 else (B + i) % ks.length + 1) = (B + (i + 1)) % ks.length := by
  have h1 := Nat.mod_lt (B + i) h
  have key : (B + (i + 1)) % ks.length = ((B + i) % ks.length + 1) % ks.length := by rw [← Nat.add_assoc, Nat.mod_add_mod]
  rw [key]
  generalize (B + i) % ks.length = r at h1
  split
  · rename_i e; rw [e, Nat.mod_self]
  · rename_i e; rw [Nat.mod_eq_of_lt (by omega)]
section
variable {e w : World} {F : List HP} {h0 : Nat → Option Obj} {q q2 qd : Option Addr} {c c2 cd g gt gd u : Nat} {ins D : List Int} {s m : Int} {L : LE2}
theorem uRest (hl : L.length ≤ 700) (hn : ins.length ≤ 1000) (hI : ImR h0 q (E24 L)) (hr : ∀ w, Own e w F → RdC w q2 (cs .u64 ins)) (h : Own e w (imm h0 :: F)) :
    Rets Tryd.prog 47 #[L24 q L.length c m, .slice q2 ins.length c2] w fun v w' => v = .int .i64 (cntK (keysL L) ins : Int) ∧ Own e w' (imm h0 :: F) := by
  refine cortadoref25_rest_go _ _ _ _ _ _ _ (h.newR fun ga w h => ?_)
  obtain ⟨ha0, le0, ha, hh⟩ := Own.absorb h
  clear h
  have h := hh
  clear hh
  have hI := hI.mono le0
  refine ⟨fun z vs w => ∃ i : Nat, vs = [.int .i64 (cntK (keysL (L.take i)) ins : Int), .int .i64 (i : Int)] ∧ z + i = L.length ∧ Own e w (imm ha0 :: F), ⟨L.length, 0, rfl, rfl, h⟩, ?_⟩
  clear h
  rintro z w n1 n2
  intros
  rename_i hI2
  obtain ⟨i, hvs, hz, h⟩ := hI2
  obtain ⟨rfl, rfl⟩ : n1 = (cntK (keysL (L.take i)) ins : Int) ∧ n2 = (i : Int) := by simpa using hvs
  refine ⟨_, _, _, h.immCell ha (i := 0) rfl, fun hc => ?_, fun hc => ?_⟩
  · have hc := dec_t hc
    have hi : i < L.length := by omega
    obtain ⟨ad, eq, rd⟩ := hI.adr24 hi h
    subst eq
    have ek : keysL (L.take (i + 1)) = keysL (L.take i) ++ [L[i].1] := by
      rw [List.take_succ_eq_append_getElem hi, keysL, List.map_append]; rfl
    have ec : cntK (keysL (L.take (i + 1))) ins = cntK (keysL (L.take i)) ins + if L[i].1 ∉ ins then 1 else 0 := by
      unfold cntK; rw [ek, List.countP_append]; simp
    have hb : cntK (keysL (L.take i)) ins ≤ 700 := by
      have := List.countP_le_length (p := fun x : Int => decide (x ∉ ins)) (l := keysL (L.take i))
      unfold cntK
      simp at this ⊢
      omega
    refine ⟨_, _, _, h.immCell ha (i := 0) rfl, by omega, by omega, smR ⟨_, (rd _ _ _ h).1, ?_⟩⟩
    refine Rets.mono (uAmong h (fun w h => hr w h.drop) hn) ?_
    clear h
    rintro _ w ⟨rfl, h⟩
    refine ⟨_, rfl, fun vs w => vs = [.int .i64 (cntK (keysL (L.take (i + 1))) ins : Int)] ∧ Own e w (imm ha0 :: F), ⟨fun hq => ⟨?_, h⟩, fun hq => ⟨?_, h⟩⟩, ?_⟩
    · have hq : L[i].1 ∉ ins := by simpa using hq
      rw [ec, if_pos hq, wI64 (by omega) (by omega)]; rfl
    · have hq : L[i].1 ∈ ins := by simpa using hq
      rw [ec, if_neg (by simpa using hq)]; rfl
    clear h
    rintro w n4
    intros
    rename_i hI3
    obtain ⟨hvs3, h⟩ := hI3
    obtain rfl : n4 = (cntK (keysL (L.take (i + 1))) ins : Int) := by simpa using hvs3
    exact ⟨z - 1, by omega, i + 1, by rw [wI64 (by omega) (by omega)]; rfl, by omega, h⟩
  · have hc := dec_f hc
    obtain rfl : i = L.length := by omega
    rw [List.take_length]
    exact ⟨rfl, h.immLe le0⟩
theorem rFillS (hl : L.length ≤ 700) (hn : ins.length ≤ 900) (hu : u ≤ 9000) (hs : M64 s) (hD : D.length * 8 ≤ 140737488351232) (hI : ImR h0 q (E24 L))
    (hd : ∀ w F, Own e w (imm h0 :: F) → RdC w qd (cs .i64 D)) (hr : ∀ w F, Own e w (imm h0 :: F) → RdC w q2 (cs .u64 ins)) (h : Own e w (imm h0 :: rdO gd qd D.length cd s u :: F)) :
    Rets Tryd.prog 15 #[L24 q L.length c m, .slice q2 ins.length c2, .pointer (some ⟨gd, 0, none⟩)] w fun v w' => ∃ h1 q' c', v = .slice q' (outS D s (keysL L) ins u).1.length c' ∧ LeH h0 h1 ∧ Own e w' (sl64 q' (outS D s (keysL L) ins u).1.length c' (outS D s (keysL L) ins u).1 :: imm h1 :: rdO gd qd D.length cd s (outS D s (keysL L) ins u).2 :: F) := by
  have hkl : (keysL L).length = L.length := List.length_map _
  obtain ⟨R, hR⟩ : ∃ R, R = outS D s (keysL L) ins u := ⟨_, rfl⟩
  rw [← hR]
  refine cortadoref25_Fill_go _ _ _ _ _ _ _ _ (h.newR fun ga w h => ?_)
  obtain ⟨ha0, le0, ha, hh⟩ := Own.absorb h
  clear h
  have h := hh
  clear hh
  have hI := hI.mono le0
  refine h.newR fun ge w h => ?_
  refine uapp (uempty h) (hr w _ (h.drop.immLe le0)) rfl (by omega) fun q' c' w h => ?_
  rw [List.nil_append] at h
  simp only [Nat.zero_add] at h ⊢
  refine ⟨_, _, _, rfl, fun z vs w => ∃ (out : List Int) (v : Nat) (q' : Option Addr) (c' : Nat), vs = [.slice q' out.length c'] ∧ filS (keysL L) (belN D s (keysL L).length) z out v = R ∧ 5 ≤ out.length + z ∧ out.length ≤ 905 ∧ v + z ≤ 9005 ∧ Own e w (sl64 q' out.length c' out :: imm ha0 :: rdO gd qd D.length cd s v :: F), ⟨5, ins, u, q', c', rfl, hR.symm, by omega, by omega, by omega, h⟩, ?_⟩
  clear h
  rintro z w qz k5 k6
  intros
  rename_i hI2
  obtain ⟨out, v, q1, c1, hvs, hfil, h5, hol, hv, h⟩ := hI2
  obtain ⟨rfl, rfl, rfl⟩ : qz = q1 ∧ k5 = out.length ∧ k6 = c1 := by simpa using hvs
  refine ⟨fun vs w => vs = [.bool (decide (out.length < 5) && moreK (keysL L) out)] ∧ Own e w (sl64 qz out.length k6 out :: imm ha0 :: rdO gd qd D.length cd s v :: F), ⟨fun hc => ?_, fun hc => ?_⟩, ?_⟩
  · have hc := dec_t hc
    refine ⟨_, _, _, _, ⟨h.swap.immCell ha (i := 0) rfl, h.swap.immCell ha (i := 1) rfl⟩, ?_⟩
    refine Rets.mono (uRest (q2 := qz) (c2 := k6) hl (show out.length ≤ 1000 by omega) hI (fun w h => Own.rdP (T := 32) h (by repeat (first | with_reducible exact Pick.here | apply Pick.there))) h.swap) ?_
    clear h
    rintro _ w ⟨rfl, h⟩
    refine ⟨_, rfl, ?_, h.swap⟩
    have h1 := cntK_pos (keysL L) out
    rw [decide_eq_true (show out.length < 5 by omega), Bool.true_and]
    cases hm : moreK (keysL L) out with
    | true => rw [decide_eq_true (by have := h1.2 hm; omega)]
    | false => rw [decide_eq_false (fun hh => by have := h1.1 (by omega); rw [hm] at this; cases this)]
  · have hc := dec_f hc
    rw [decide_eq_false (show ¬ out.length < 5 by omega)]
    exact ⟨rfl, h⟩
  clear h
  rintro w
  intros
  rename_i b1 hI3
  obtain ⟨hvs3, h⟩ := hI3
  obtain rfl : b1 = (decide (out.length < 5) && moreK (keysL L) out) := by simpa using hvs3
  refine ⟨fun hb => ?_, fun hb => ?_⟩
  · have hb : out.length < 5 ∧ moreK (keysL L) out = true := by simpa using hb
    obtain ⟨hb5, hm2⟩ := hb
    have hne : 1 ≤ L.length := by
      obtain ⟨x, hx, _⟩ := List.any_eq_true.1 hm2
      have := List.length_pos_of_mem hx
      omega
    refine ⟨_, _, _, h.swap.immCell ha (i := 0) rfl, ?_⟩
    have h : Own e w (rdO gd qd D.length cd s v :: imm ha0 :: sl64 qz out.length k6 out :: F) := (Own.sub (h) (by repeat (first | with_reducible exact Sub.nil _ | with_reducible exact Sub.rfl _ | (apply Sub.cons; focus ((repeat (first | with_reducible exact Pick.here | apply Pick.there)); done)) | apply Sub.drop)))
    refine Rets.mono (rdBelow (n := (L.length : Int)) h (fun w h => hd w _ (h.immLe le0)) hs hD (by omega) (by omega)) ?_
    clear h
    rintro _ w ⟨rfl, h⟩
    rw [if_neg (by omega)] at h
    have eb := belN_int D s L.length v
    have elt := belN_lt D s (n := L.length) v hne
    obtain ⟨B, hB⟩ : ∃ B, B = belN D s L.length v := ⟨_, rfl⟩
    rw [← hB] at eb elt
    rw [← eb]
    have h : Own e w (imm ha0 :: rdO gd qd D.length cd s (v + 1) :: sl64 qz out.length k6 out :: F) := h.swap
    refine ⟨_, rfl, fun z2 vs w => ∃ i : Nat, vs = [.int .i64 (((B + i) % L.length : Nat) : Int)] ∧ z2 + i = L.length ∧ i < L.length ∧ (∀ j, j < i → rndK (keysL L) B j ∈ out) ∧ Own e w (imm ha0 :: rdO gd qd D.length cd s (v + 1) :: sl64 qz out.length k6 out :: F), ⟨L.length, 0, by rw [Nat.add_zero, Nat.mod_eq_of_lt elt], rfl, by omega, fun j hj => absurd hj (by omega), h⟩, ?_⟩
    clear h
    rintro z2 w n4
    intros
    rename_i hI4
    obtain ⟨i, hvs4, hz2, hi, hno, h⟩ := hI4
    obtain rfl : n4 = (((B + i) % L.length : Nat) : Int) := by simpa using hvs4
    have hlt : (B + i) % L.length < L.length := Nat.mod_lt _ (by omega)
    obtain ⟨ad, eq, rd⟩ := hI.adr24 hlt h
    have eK : L[(B + i) % L.length].1 = rndK (keysL L) B i := by
      rw [rndK_at (by omega)]; simp [hkl]
    rw [eK] at rd
    subst eq
    refine ⟨_, _, _, h.immCell ha (i := 0) rfl, by omega, by omega, smR ⟨_, (rd _ _ _ h).1, ?_⟩⟩
    refine Rets.mono (uAmong (q := qz) (c := k6) h (fun w h => Own.rdP (T := 32) h (by repeat (first | with_reducible exact Pick.here | apply Pick.there))) (show out.length ≤ 1000 by omega)) ?_
    clear h
    rintro _ w ⟨rfl, h⟩
    refine ⟨_, rfl, fun hq => ?_, fun hq => ?_⟩
    · have hq : rndK (keysL L) B i ∈ out := by simpa using hq
      have hno2 : ∀ j, j < i + 1 → rndK (keysL L) B j ∈ out := fun j hj => by
        by_cases e1 : j = i
        · rw [e1]; exact hq
        · exact hno j (by omega)
      have hi2 : i + 1 < L.length := by
        refine Decidable.byContradiction fun hh => ?_
        have := moreK_none (nxtK_none (ks := keysL L) (ins := out) (f := B) fun j hj => hno2 j (by omega))
        rw [hm2] at this; cases this
      have hst := rnd_step (ks := keysL L) (B := B) (i := i) (by omega)
      rw [hkl] at hst
      refine ⟨_, _, _, h.immCell ha (i := 0) rfl, fun vs w => vs = [.int .i64 (((B + (i + 1)) % L.length : Nat) : Int)] ∧ Own e w (imm ha0 :: rdO gd qd D.length cd s (v + 1) :: sl64 qz out.length k6 out :: F), ⟨fun hw => ⟨?_, h⟩, fun hw => ⟨?_, h⟩⟩, ?_⟩
      · have hw := beq_t hw
        rw [wI64 (by omega) (by omega)] at hw
        rw [if_pos (by omega)] at hst
        rw [← hst]; rfl
      · have hw := beq_f hw
        rw [wI64 (by omega) (by omega)] at hw ⊢
        rw [if_neg (by omega)] at hst
        rw [← hst]; rfl
      clear h
      rintro w n6
      intros
      rename_i hI5
      obtain ⟨hvs5, h⟩ := hI5
      obtain rfl : n6 = (((B + (i + 1)) % L.length : Nat) : Int) := by simpa using hvs5
      exact ⟨z2 - 1, by omega, i + 1, rfl, by omega, hi2, hno2, h⟩
    · have hq : rndK (keysL L) B i ∉ out := by simpa using hq
      have hnx := nxtK_at (by omega) hq hno
      obtain ⟨z', rfl⟩ : ∃ z', z = z' + 1 := ⟨z - 1, by omega⟩
      rw [filS_step ⟨by omega, hm2⟩, hkl, ← hB, hnx, Option.getD_some] at hfil
      refine ⟨_, _, _, h.immCell ha (i := 0) rfl, by omega, by omega, smR ⟨_, (rd _ _ _ h).1, h.newR fun gf w h => ?_⟩⟩
      have h : Own e w (blk gf 32 [.int .u64 (rndK (keysL L) B i)] :: sl64 qz out.length k6 out :: imm ha0 :: rdO gd qd D.length cd s (v + 1) :: F) := (Own.sub (h) (by repeat (first | with_reducible exact Sub.nil _ | with_reducible exact Sub.rfl _ | (apply Sub.cons; focus ((repeat (first | with_reducible exact Pick.here | apply Pick.there)); done)) | apply Sub.drop)))
      refine uput h (by omega) fun q3 c3 w h => ⟨_, _, _, rfl, z', by omega, out ++ [rndK (keysL L) B i], v + 1, q3, c3, rfl, by rw [hkl]; exact hfil, by simp; omega, by simp; omega, by omega, h⟩
  · have hb : ¬ (out.length < 5 ∧ moreK (keysL L) out = true) := fun hh => by rw [decide_eq_true hh.1, hh.2] at hb; cases hb
    rw [filS_stop hb] at hfil
    rw [← hfil]
    exact ⟨ha0, _, _, rfl, le0, h⟩
/-- A ledger of hashes that cost nothing. -/
def mdS (l : List Int) : Lg := l.foldl (fun s k => (lgAdd k 0 s).1) ⟨.nil, 0, 0⟩
theorem mdS_snoc (l : List Int) (k : Int) : mdS (l ++ [k]) = (lgAdd k 0 (mdS l)).1 := by unfold mdS; rw [List.foldl_append]; rfl
theorem mdS_ok (l : List Int) : LgOk (mdS l) ∧ (mdS l).t.size ≤ l.length := by
  suffices h : ∀ s, LgOk s → LgOk (l.foldl (fun s k => (lgAdd k 0 s).1) s) ∧ (l.foldl (fun s k => (lgAdd k 0 s).1) s).t.size ≤ s.t.size + l.length by
    have := h ⟨.nil, 0, 0⟩ (LgOk.nil ⟨by decide, by decide⟩)
    exact ⟨this.1, by have h2 := this.2; simp only [Tr.size, Nat.zero_add] at h2; exact h2⟩
  induction l with
  | nil => intro s hs; exact ⟨hs, Nat.le_refl _⟩
  | cons k l ih =>
    intro s hs
    obtain ⟨h1, h2⟩ := ih _ (hs.add (k := k) (n := 0))
    have h3 := lgAdd_size k 0 s
    refine ⟨h1, ?_⟩
    rw [List.foldl_cons, List.length_cons]; omega
abbrev MD (e : World) (F : List HP) (h0 : Nat → Option Obj) (s : Lg) (v : Value) (w' : World) : Prop := ∃ (h1 : Nat → Option Obj) (g gt : Nat) (q : Option Addr) (c : Nat), v = .tuple #[.pointer (some ⟨g, 0, none⟩), L24 q s.t.toL.length c s.most] ∧ LeH h0 h1 ∧ ImR h1 q (E24 s.t.toL) ∧ s.t.toL.length ≤ c ∧ TreeA h1 s.t gt ∧ Own e w' (imm h1 :: ldB g gt s.used s.most :: F)
theorem smMade (hn : ins.length ≤ 500) (hr : ∀ w F, Own e w (imm h0 :: F) → RdC w q2 (cs .u64 ins)) (h : Own e w (imm h0 :: F)) : Rets Tryd.prog 9 #[.slice q2 ins.length c2] w (MD e F h0 (mdS ins)) := by
  refine cortadolaw25_made_go _ _ _ (h.newR fun g1 w h => ?_)
  refine Rets.mono (ldNew (n := 0) h.swap) ?_
  clear h
  rintro _ w ⟨g, rfl, h1, gt, le1, T1, h⟩
  rw [show cutI 0 = 0 by decide] at h
  refine ⟨_, rfl, h.newR fun g2 w h => Own.stP' (g := g2) h (by repeat (first | with_reducible exact Pick.here | apply Pick.there)) (by simp) (by simp [Value.oneCell']) fun w h => ?_⟩
  simp only [setFrom, List.set_cons_zero, List.set_cons_succ, List.set_nil] at h
  have h : Own e w (imm h1 :: ldB g gt 0 0 :: B24 g2 none 0 0 0 :: B24 g1 none 0 0 0 :: F) := (Own.sub (h) (by repeat (first | with_reducible exact Sub.nil _ | with_reducible exact Sub.rfl _ | (apply Sub.cons; focus ((repeat (first | with_reducible exact Pick.here | apply Pick.there)); done)) | apply Sub.drop)))
  refine ⟨fun z vs w => ∃ (i : Nat) (h1 : Nat → Option Obj) (gt : Nat) (q : Option Addr) (c : Nat), vs = [.int .i64 (i : Int)] ∧ z + i = ins.length ∧ LeH h0 h1 ∧ ImR h1 q (E24 (mdS (ins.take i)).t.toL) ∧ (mdS (ins.take i)).t.toL.length ≤ c ∧ TreeA h1 (mdS (ins.take i)).t gt ∧ Own e w (imm h1 :: ldB g gt (mdS (ins.take i)).used (mdS (ins.take i)).most :: B24 g2 q (mdS (ins.take i)).t.toL.length c (mdS (ins.take i)).most :: B24 g1 none 0 0 0 :: F), ⟨ins.length, 0, h1, gt, none, 0, rfl, rfl, le1, fun e w F ho => .inl rfl, Nat.le_refl _, T1, h⟩, ?_⟩
  clear h T1 le1
  rintro z w n1
  intros
  rename_i hI2
  obtain ⟨i, h1, gt, q, c, hvs, hz, le1, I1, hnc, T1, h⟩ := hI2
  obtain rfl : n1 = (i : Int) := by simpa using hvs
  obtain ⟨ok, hs⟩ := mdS_ok (ins.take i)
  have htl : (ins.take i).length ≤ 500 := by rw [List.length_take]; omega
  refine ⟨fun hc => ?_, fun hc => ?_⟩
  · have hc := dec_t hc
    have hi : i < ins.length := by omega
    have et : mdS (ins.take (i + 1)) = (lgAdd ins[i] 0 (mdS (ins.take i))).1 := by rw [List.take_succ_eq_append_getElem hi, mdS_snoc]
    obtain ⟨s, hs1⟩ : ∃ s, s = mdS (ins.take i) := ⟨_, rfl⟩
    rw [← hs1] at h T1 I1 hnc ok hs et
    refine ⟨by omega, by omega, (hr w _ (h.immLe le1)).int hi fun a ha => ⟨_, by rw [Int.toNat_natCast]; exact ha, ?_⟩⟩
    refine Rets.mono (ldAdd (k := ins[i]) (n := 0) ok (by omega) T1 h) ?_
    clear h
    rintro _ w ⟨rfl, h2, gt2, le2, T2, h⟩
    refine ⟨_, rfl, h.drw fun w h => ⟨by omega, by omega, (hr w _ (h.immLe (LeH.trans le1 le2))).int hi fun a ha => ⟨_, _, _, _, ⟨Own.ld (g := g2) (k := 0) h (by repeat (first | with_reducible exact Pick.here | apply Pick.there)) rfl, Own.ld (g := g2) (k := 1) h (by repeat (first | with_reducible exact Pick.here | apply Pick.there)) rfl⟩, _, by rw [Int.toNat_natCast]; exact ha, ?_⟩⟩⟩
    refine Rets.mono (rAdd (k := ins[i]) (n := 0) ok (by omega) (I1.mono le2) hnc h) ?_
    clear h
    rintro _ w ⟨h3, q3, c3, rfl, le3, I3, hnc3, h⟩
    refine ⟨_, _, _, _, _, rfl, Own.stP' (g := g2) h (by repeat (first | with_reducible exact Pick.here | apply Pick.there)) (by simp) (by simp [Value.oneCell']) fun w h => ?_⟩
    simp only [setFrom, List.set_cons_zero, List.set_cons_succ, List.set_nil] at h
    rw [← et] at h I3 hnc3 T2
    exact ⟨z - 1, by omega, i + 1, h3, gt2, q3, c3, by rw [wI64 (by omega) (by omega)]; rfl, by omega, LeH.trans le1 (LeH.trans le2 le3), I3, hnc3, T2.mono le3, (Own.sub (h) (by repeat (first | exact Sub.nil _ | exact Sub.rfl _ | (apply Sub.cons; focus ((repeat (first | with_reducible exact Pick.here | apply Pick.there)); done)) | apply Sub.drop)))⟩
  · have hc := dec_f hc
    obtain rfl : i = ins.length := by omega
    rw [List.take_length] at h T1 I1 hnc
    refine h.drw fun w h => ⟨_, _, _, _, ⟨Own.ld (g := g2) (k := 0) h (by repeat (first | with_reducible exact Pick.here | apply Pick.there)) rfl, Own.ld (g := g2) (k := 1) h (by repeat (first | with_reducible exact Pick.here | apply Pick.there)) rfl⟩, Own.stP' (g := g1) h (by repeat (first | with_reducible exact Pick.here | apply Pick.there)) (by simp) (by simp [Value.oneCell']) fun w h => ?_⟩
    simp only [setFrom, List.set_cons_zero, List.set_cons_succ, List.set_nil] at h
    exact ⟨_, _, _, _, ⟨Own.ld (g := g1) (k := 0) h (by repeat (first | with_reducible exact Pick.here | apply Pick.there)) rfl, Own.ld (g := g1) (k := 1) h (by repeat (first | with_reducible exact Pick.here | apply Pick.there)) rfl⟩, h1, g, gt, q, c, rfl, le1, I1, hnc, T1, (Own.sub (h) (by repeat (first | exact Sub.nil _ | exact Sub.rfl _ | (apply Sub.cons; focus ((repeat (first | with_reducible exact Pick.here | apply Pick.there)); done)) | apply Sub.drop)))⟩
end
end Go.Proofs.YtajckpjlliiekaaDoor.Eng
