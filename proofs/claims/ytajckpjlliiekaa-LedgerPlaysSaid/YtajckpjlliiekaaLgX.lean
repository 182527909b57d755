/- LedgerPlays: for any limit and any steps the law answers true. -/
import Derived.Test.YtajckpjlliiekaaLgT
import Derived.Test.YtajckpjlliiekaaLgU
namespace Go.Proofs.Ytajckpjlliiekaa.Eng
open Go Go.RowKit Go.Proofs
set_option linter.unusedVariables false
set_option linter.unusedSimpArgs false
set_option maxRecDepth 1000000
def atH (i : Int) (l : LE2) : Int := if 0 ≤ i then ((l[i.toNat]?).getD (0, 0)).1 else 0
def atB (i : Int) (l : LE2) : Bool := decide (0 ≤ i ∧ i < (l.length : Int))
section
variable {e w : World} {F : List HP} {h0 : Nat → Option Obj} {t : Tr} {g gt : Nat} {used most : Int}
theorem ldAtZ {i : Int} (hT : TreeA h0 t gt) (hs : t.size ≤ 700) (hi : i ≤ 9223372036854775807) (h : Own e w (imm h0 :: ldB g gt used most :: F)) : Rets Try.prog 16 #[.pointer (some ⟨g, 0, none⟩), .int .i64 i] w fun v w' => v = .tuple #[.int .u64 (atH i t.toL), .bool (atB i t.toL)] ∧ Own e w' (imm h0 :: ldB g gt used most :: F) := by
  by_cases h0i : 0 ≤ i
  · have e1 : i = ((i.toNat : Nat) : Int) := by omega
    have := ldAt (i := i.toNat) hT hs (by omega) h
    rw [← e1] at this
    have e2 : atH i t.toL = ((t.toL[i.toNat]?).getD (0, 0)).1 := by unfold atH; rw [if_pos h0i]
    have e3 : atB i t.toL = (t.toL[i.toNat]?).isSome := by
      unfold atB
      by_cases hl : i.toNat < t.toL.length
      · rw [List.getElem?_eq_getElem hl, decide_eq_true (by omega)]; rfl
      · rw [List.getElem?_eq_none (by omega), decide_eq_false (by omega)]; rfl
    rw [e2, e3]; exact this
  · have := ldAtNeg (i := i) (by omega) h
    have e2 : atH i t.toL = 0 := by unfold atH; rw [if_neg h0i]
    have e3 : atB i t.toL = false := by unfold atB; rw [decide_eq_false (by omega)]
    rw [e2, e3]; exact this
end
section
variable {W : World} {q : Option Addr} {c : Nat} {L : List (Int × Int × Int)} {n : Int}
theorem LedgerPlays_spec (hnw : (Lit.int .i64 n).wf = true) (hb : RdC W q (L.flatMap encL)) (hm : L.length ≤ maxLen) (hc : L.length ≤ c) (hw : ∀ s ∈ L, (Lit.int .u64 s.1).wf = true ∧ (Lit.int .u64 s.2.1).wf = true ∧ (Lit.int .i64 s.2.2).wf = true) :
    Rets Try.prog 4 #[.int .i64 n, .slice q L.length c] W fun v w' => v = .bool true ∧ Below W.heap.size W w' := by
  refine Rets.mono (k := fun v w' => v = .bool true ∧ ∃ F, Own W w' (snap W :: F)) ?_ (fun v w' h => ⟨h.1, h.2.elim fun F h => h.below⟩)
  have h := Own.begin W
  rw [snap_imm] at h ⊢
  obtain ⟨hW, ehW⟩ : ∃ hW : Nat → Option Obj, hW = (fun b => W.heap[b]?) := ⟨_, rfl⟩
  have snp : ∀ {h1 : Nat → Option Obj} {w F}, LeH hW h1 → Own W w (imm h1 :: F) → Own W w (snap W :: F) := fun le h => by rw [ehW] at le; exact h.immLe le
  rw [← ehW] at h ⊢
  clear ehW
  refine cortadolaw24_LedgerPlays_go _ _ _ _ (h.newR fun ga w h => ⟨fun hx => ?_, fun hx => ?_⟩)
  · refine Rets.mono (ldAwake h.swap) ?_
    clear h
    rintro _ w ⟨rfl, h⟩
    refine ⟨_, rfl, Own.stP' (g := ga) h (by repeat (first | with_reducible exact Pick.here | apply Pick.there)) (by simp) (by simp [Value.oneCell']) fun w h => ?_⟩
    simp only [setFrom, List.set_cons_zero, List.set_cons_succ, List.set_nil] at h
    exact ⟨_, (Own.ld' h (by repeat (first | with_reducible exact Pick.here | apply Pick.there)) (by rfl)), rfl, _, h.swap⟩
  have hx := dec_f hx
  refine Rets.mono (ldNew (n := n) h.swap) ?_
  clear h
  rintro _ w ⟨g, rfl, h1, g1, le1, T1, h⟩
  refine ⟨_, rfl, ?_⟩
  refine Rets.mono (rCut (n := n) h) ?_
  clear h
  rintro _ w ⟨rfl, h⟩
  refine ⟨_, rfl, h.newR fun g2 w h => Own.stP' (g := g2) h (by repeat (first | with_reducible exact Pick.here | apply Pick.there)) (by simp) (by simp [Value.oneCell']) fun w h => ?_⟩
  simp only [setFrom, List.set_cons_zero, List.set_cons_succ, List.set_nil] at h
  have h : Own W w (imm h1 :: ldB g g1 0 (cutI n) :: B24 g2 none 0 0 (cutI n) :: blk ga 4 [.bool false] :: []) := (Own.sub (h) (by repeat (first | with_reducible exact Sub.nil _ | with_reducible exact Sub.rfl _ | (apply Sub.cons; focus ((repeat (first | with_reducible exact Pick.here | apply Pick.there)); done)) | apply Sub.drop)))
  refine ⟨fun z vs w => ∃ (i : Nat) (s : Lg) (h1 : Nat → Option Obj) (g1 : Nat) (q1 : Option Addr) (c1 : Nat), vs = [.int .i64 (i : Int)] ∧ z + i = L.length ∧ LgOk s ∧ s.t.size ≤ i ∧ LeH hW h1 ∧ ImR h1 q1 (E24 s.t.toL) ∧ s.t.toL.length ≤ c1 ∧ TreeA h1 s.t g1 ∧ Own W w (imm h1 :: ldB g g1 s.used s.most :: B24 g2 q1 s.t.toL.length c1 s.most :: blk ga 4 [.bool false] :: []), ⟨L.length, 0, ⟨.nil, 0, cutI n⟩, h1, g1, none, 0, rfl, rfl, LgOk.nil (cutI_bd n), Nat.le_refl _, le1, fun e w F ho => .inl rfl, Nat.le_refl _, T1, h⟩, ?_⟩
  clear h T1 le1
  rintro z w n1
  intros
  rename_i hI
  obtain ⟨i, s, h1, g1, q1, c1, hvs, hz, ok, hs, le1, I1, hnc, T1, h⟩ := hI
  obtain rfl : n1 = (i : Int) := by simpa using hvs
  have hsz := Tr.size_toL s.t
  refine ⟨fun hc1 => ?_, fun hc1 => ?_⟩
  · have hc1 := dec_t hc1
    have hi : i < L.length := by omega
    have ei : IntKind.wrap .i64 ((i : Int) + 1) = ((i + 1 : Nat) : Int) := by rw [wI64 (by omega) (by omega)]; rfl
    obtain ⟨ad, eq, hWc⟩ := hb.rec encL_len hi (by omega)
    obtain ⟨p, hp⟩ : ∃ p, p = L[i] := ⟨_, rfl⟩
    have hpw := wfI64 (hw p (by rw [hp]; exact List.getElem_mem hi)).2.2
    have rd : ∀ {hx : Nat → Option Obj} {F w}, LeH hW hx → Own W w (imm hx :: F) → cellAt w ((ad.add (Int.toNat (i : Int) * 3)).add 0) (.int .u64 p.1) ∧ cellAt w ((ad.add (Int.toNat (i : Int) * 3)).add 1) (.int .u64 p.2.1) ∧ cellAt w ((ad.add (Int.toNat (i : Int) * 3)).add 2) (.int .i64 p.2.2) := fun hle h => by
      have h := snp hle h
      rw [Int.toNat_natCast, hp]
      exact ⟨h.snapCell (hWc i hi 0 _ rfl), h.snapCell (hWc i hi 1 _ rfl), h.snapCell (hWc i hi 2 _ rfl)⟩
    rw [eq]
    clear eq
    obtain ⟨s2, hs2⟩ : ∃ s2, s2 = (stepL p s).1 := ⟨_, rfl⟩
    have ok2 : LgOk s2 := by rw [hs2]; exact stepL_ok ok
    have hsz2 : s2.t.size ≤ i + 1 := by have := stepL_size p s; rw [← hs2] at this; omega
    have hdo := fun (w : World) (F : List HP) (h : Own W w (imm h1 :: ldB g g1 s.used s.most :: F)) => ldo (p := p) ok (by omega) I1 hnc T1 h
    rw [← hs2] at hdo
    clear hs2
    let S : World → Prop := fun w => ∃ F', Own W w (B24 g2 q1 s.t.toL.length c1 s.most :: imm hW :: F')
    have toS : ∀ {w : World} {A B C : HP} {hx : Nat → Option Obj}, LeH hW hx → Own W w (imm hx :: A :: B :: C :: B24 g2 q1 s.t.toL.length c1 s.most :: []) → S w := fun le h => ⟨_, ((Own.sub ((h.immLe le)) (by repeat (first | with_reducible exact Sub.nil _ | with_reducible exact Sub.rfl _ | (apply Sub.cons; focus ((repeat (first | with_reducible exact Pick.here | apply Pick.there)); done)) | apply Sub.drop))))⟩
    let Jn : List Value → World → Prop := fun vs w => ∃ (a4 : Nat) (q4 : Option Addr) (c4 : Nat) (h2 : Nat → Option Obj) (gt2 : Nat), vs = [.pointer (some ⟨a4, 0, none⟩), .bool true] ∧ LeH hW h2 ∧ ImR h2 q4 (E24 s2.t.toL) ∧ s2.t.toL.length ≤ c4 ∧ TreeA h2 s2.t gt2 ∧ Own W w (imm h2 :: ldB g gt2 s2.used s2.most :: B24 g2 q1 s.t.toL.length c1 s.most :: B24 a4 q4 s2.t.toL.length c4 s2.most :: blk ga 4 [.bool false] :: [])
    have Srd : ∀ w, S w → cellAt w ((ad.add (Int.toNat (i : Int) * 3)).add 0) (.int .u64 p.1) ∧ cellAt w ((ad.add (Int.toNat (i : Int) * 3)).add 1) (.int .u64 p.2.1) ∧ cellAt w ((ad.add (Int.toNat (i : Int) * 3)).add 2) (.int .i64 p.2.2) := fun w ⟨F', h⟩ => rd (LeH.refl _) h.swap
    refine ⟨Jn, h.drw fun w h => ⟨S, ⟨_, ((Own.sub ((h.immLe le1)) (by repeat (first | with_reducible exact Sub.nil _ | with_reducible exact Sub.rfl _ | (apply Sub.cons; focus ((repeat (first | with_reducible exact Pick.here | apply Pick.there)); done)) | apply Sub.drop))) : Own W w (B24 g2 q1 s.t.toL.length c1 s.most :: imm hW :: []))⟩, by omega, by omega, smR ⟨_, _, _, _, ⟨fun w ⟨F', h⟩ => Own.ld (g := g2) (k := 0) h (by repeat (first | with_reducible exact Pick.here | apply Pick.there)) rfl, fun w ⟨F', h⟩ => Own.ld (g := g2) (k := 1) h (by repeat (first | with_reducible exact Pick.here | apply Pick.there)) rfl⟩, _, _, _, ⟨fun w h => (Srd w h).1, fun w h => (Srd w h).2.1, fun w h => (Srd w h).2.2⟩, ?_, h.newR fun a5 w h => ⟨?_, ?_⟩⟩⟩, ?_⟩
    · refine Rets.mono (hdo _ _ h) ?_
      clear h
      rintro _ w ⟨q4, c4, rfl, h2, gt2, le2, I2, hnc2, T2, h⟩
      refine ⟨_, _, _, _, _, rfl, ⟨_, ((Own.sub ((h.immLe (LeH.trans le1 le2))) (by repeat (first | with_reducible exact Sub.nil _ | with_reducible exact Sub.rfl _ | (apply Sub.cons; focus ((repeat (first | with_reducible exact Pick.here | apply Pick.there)); done)) | apply Sub.drop))) : Own W w (B24 g2 q1 s.t.toL.length c1 s.most :: imm hW :: []))⟩, h.newR fun a4 w h => ⟨⟨_, ((Own.sub ((h.swap.immLe (LeH.trans le1 le2))) (by repeat (first | with_reducible exact Sub.nil _ | with_reducible exact Sub.rfl _ | (apply Sub.cons; focus ((repeat (first | with_reducible exact Pick.here | apply Pick.there)); done)) | apply Sub.drop))) : Own W w (B24 g2 q1 s.t.toL.length c1 s.most :: imm hW :: []))⟩, Own.stP' (g := a4) h (by repeat (first | with_reducible exact Pick.here | apply Pick.there)) (by simp) (by simp [Value.oneCell']) fun w h => ?_⟩⟩
      simp only [setFrom, List.set_cons_zero, List.set_cons_succ, List.set_nil] at h
      have h : Own W w (imm h2 :: ldB g gt2 s2.used s2.most :: B24 g2 q1 s.t.toL.length c1 s.most :: B24 a4 q4 s2.t.toL.length c4 s2.most :: blk ga 4 [.bool false] :: []) := (Own.sub (h) (by repeat (first | with_reducible exact Sub.nil _ | with_reducible exact Sub.rfl _ | (apply Sub.cons; focus ((repeat (first | with_reducible exact Pick.here | apply Pick.there)); done)) | apply Sub.drop)))
      exact ⟨⟨_, ((Own.sub ((h.immLe (LeH.trans le1 le2))) (by repeat (first | with_reducible exact Sub.nil _ | with_reducible exact Sub.rfl _ | (apply Sub.cons; focus ((repeat (first | with_reducible exact Pick.here | apply Pick.there)); done)) | apply Sub.drop))) : Own W w (B24 g2 q1 s.t.toL.length c1 s.most :: imm hW :: []))⟩, a4, q4, c4, h2, gt2, rfl, LeH.trans le1 le2, I2, hnc2, T2, h⟩
    · exact ⟨_, ((Own.sub ((h.swap.immLe le1)) (by repeat (first | with_reducible exact Sub.nil _ | with_reducible exact Sub.rfl _ | (apply Sub.cons; focus ((repeat (first | with_reducible exact Pick.here | apply Pick.there)); done)) | apply Sub.drop))) : Own W w (B24 g2 q1 s.t.toL.length c1 s.most :: imm hW :: []))⟩
    · have h : Own W w (imm h1 :: ldB g g1 s.used s.most :: B24 a5 none 0 0 0 :: B24 g2 q1 s.t.toL.length c1 s.most :: blk ga 4 [.bool false] :: []) := (Own.sub (h) (by repeat (first | with_reducible exact Sub.nil _ | with_reducible exact Sub.rfl _ | (apply Sub.cons; focus ((repeat (first | with_reducible exact Pick.here | apply Pick.there)); done)) | apply Sub.drop)))
      refine Rets.mono (hdo _ _ h) ?_
      clear h
      rintro _ w ⟨q4, c4, rfl, h2, gt2, le2, I2, hnc2, T2, h⟩
      refine ⟨_, _, _, _, _, rfl, ⟨_, ((Own.sub ((h.immLe (LeH.trans le1 le2))) (by repeat (first | with_reducible exact Sub.nil _ | with_reducible exact Sub.rfl _ | (apply Sub.cons; focus ((repeat (first | with_reducible exact Pick.here | apply Pick.there)); done)) | apply Sub.drop))) : Own W w (B24 g2 q1 s.t.toL.length c1 s.most :: imm hW :: []))⟩, Own.stP' (g := a5) h (by repeat (first | with_reducible exact Pick.here | apply Pick.there)) (by simp) (by simp [Value.oneCell']) fun w h => ?_⟩
      simp only [setFrom, List.set_cons_zero, List.set_cons_succ, List.set_nil] at h
      have h : Own W w (imm h2 :: ldB g gt2 s2.used s2.most :: B24 g2 q1 s.t.toL.length c1 s.most :: B24 a5 q4 s2.t.toL.length c4 s2.most :: blk ga 4 [.bool false] :: []) := (Own.sub (h) (by repeat (first | with_reducible exact Sub.nil _ | with_reducible exact Sub.rfl _ | (apply Sub.cons; focus ((repeat (first | with_reducible exact Pick.here | apply Pick.there)); done)) | apply Sub.drop)))
      exact ⟨⟨_, ((Own.sub ((h.immLe (LeH.trans le1 le2))) (by repeat (first | with_reducible exact Sub.nil _ | with_reducible exact Sub.rfl _ | (apply Sub.cons; focus ((repeat (first | with_reducible exact Pick.here | apply Pick.there)); done)) | apply Sub.drop))) : Own W w (B24 g2 q1 s.t.toL.length c1 s.most :: imm hW :: []))⟩, a5, q4, c4, h2, gt2, rfl, LeH.trans le1 le2, I2, hnc2, T2, h⟩
    clear h hdo I1 T1 le1 hnc toS Srd
    rintro w qz b5
    intros
    rename_i hI2
    obtain ⟨a4, q4, c4, h2, gt2, hvs2, le2, I2, hnc2, T2, h⟩ := hI2
    obtain ⟨rfl, rfl⟩ : qz = some ⟨a4, 0, none⟩ ∧ b5 = true := by simpa using hvs2
    refine smR ⟨_, _, _, _, ⟨Own.ld (g := a4) (k := 0) h (by repeat (first | with_reducible exact Pick.here | apply Pick.there)) rfl, Own.ld (g := a4) (k := 1) h (by repeat (first | with_reducible exact Pick.here | apply Pick.there)) rfl⟩, Own.stP' (g := g2) h (by repeat (first | with_reducible exact Pick.here | apply Pick.there)) (by simp) (by simp [Value.oneCell']) fun w h => ?_⟩
    simp only [setFrom, List.set_cons_zero, List.set_cons_succ, List.set_nil] at h
    have h : Own W w (imm h2 :: ldB g gt2 s2.used s2.most :: B24 g2 q4 s2.t.toL.length c4 s2.most :: blk ga 4 [.bool false] :: []) := (Own.sub (h) (by repeat (first | with_reducible exact Sub.nil _ | with_reducible exact Sub.rfl _ | (apply Sub.cons; focus ((repeat (first | with_reducible exact Pick.here | apply Pick.there)); done)) | apply Sub.drop)))
    have hl2 := Tr.size_toL s2.t
    have hnn := ok2.nn
    have ok2' := ok2
    obtain ⟨o1, o2, o3, o4, o5⟩ := ok2'
    refine ⟨by omega, by omega, smR ⟨_, (rd le2 h).2.1, ?_⟩⟩
    refine Rets.mono (ldCost (k := p.2.1) T2 (by omega) o1 h) ?_
    clear h
    rintro _ w ⟨rfl, h⟩
    refine ⟨_, _, rfl, h.drw fun w h => ⟨by omega, by omega, smR ⟨_, _, _, _, ⟨Own.ld (g := g2) (k := 0) h (by repeat (first | with_reducible exact Pick.here | apply Pick.there)) rfl, Own.ld (g := g2) (k := 1) h (by repeat (first | with_reducible exact Pick.here | apply Pick.there)) rfl⟩, _, (rd le2 h).2.1, ?_⟩⟩⟩
    refine Rets.mono (rCost (k := p.2.1) (by omega) I2 h) ?_
    clear h
    rintro _ w ⟨rfl, h⟩
    refine ⟨_, _, rfl, by omega, by omega, smR ⟨_, (rd le2 h).2.2, ?_⟩⟩
    refine Rets.mono (ldAtZ (i := p.2.2) T2 (by omega) (by omega) h) ?_
    clear h
    rintro _ w ⟨rfl, h⟩
    refine ⟨_, _, rfl, fun vs w => vs = [.bool (atB p.2.2 s2.t.toL)] ∧ Own W w (imm h2 :: ldB g gt2 s2.used s2.most :: B24 g2 q4 s2.t.toL.length c4 s2.most :: blk ga 4 [.bool false] :: []), h.drw fun w h => ⟨by omega, by omega, smR ⟨_, (rd le2 h).2.2, fun hq => ⟨by omega, by omega, smR ⟨_, (rd le2 h).2.2, _, _, _, Own.ld (g := g2) (k := 0) h (by repeat (first | with_reducible exact Pick.here | apply Pick.there)) rfl, ?_, h⟩⟩, fun hq => ⟨?_, h⟩⟩⟩, ?_⟩
    · have hq := dec_t hq
      have : atB p.2.2 s2.t.toL = decide (p.2.2 < (s2.t.toL.length : Int)) := by unfold atB; rw [decide_eq_decide]; omega
      rw [this]
    · have hq := dec_f hq
      have : atB p.2.2 s2.t.toL = false := by unfold atB; rw [decide_eq_false (by omega)]
      rw [this]
    clear h
    rintro w b9
    intros
    rename_i hI4
    obtain ⟨hvs4, h⟩ := hI4
    obtain rfl : b9 = atB p.2.2 s2.t.toL := by simpa using hvs4
    refine ⟨fun vs w => vs = [.bool false] ∧ Own W w (imm h2 :: ldB g gt2 s2.used s2.most :: B24 g2 q4 s2.t.toL.length c4 s2.most :: blk ga 4 [.bool false] :: []), h.drw fun w h => ⟨fun _ => ⟨fun _ => ⟨fun _ => ⟨fun _ => ⟨fun hq => ?_, fun hq => ?_⟩, fun hq => (by simp at hq)⟩, fun hq => (by simp at hq)⟩, fun hq => (by simp at hq)⟩, fun hq => (by cases hq)⟩, ?_⟩
    · have hq' : 0 ≤ p.2.2 ∧ p.2.2 < (s2.t.toL.length : Int) := of_decide_eq_true hq
      have hj : p.2.2.toNat < s2.t.toL.length := by omega
      obtain ⟨ad2, eq2, rd2⟩ := I2.adr24 hj h
      have eN : (((p.2.2.toNat : Nat) : Int)).toNat = p.2.2.toNat := Int.toNat_natCast _
      have eH : atH p.2.2 s2.t.toL = s2.t.toL[p.2.2.toNat].1 := by unfold atH; rw [if_pos hq'.1, List.getElem?_eq_getElem hj]; rfl
      refine ⟨by omega, by omega, smR ⟨_, _, _, Own.ld (g := g2) (k := 0) h (by repeat (first | with_reducible exact Pick.here | apply Pick.there)) rfl, _, (rd le2 h).2.2, by omega, by omega, ?_⟩⟩
      subst eq2
      have := (rd2 _ _ _ h).1
      rw [eN] at this
      refine smR ⟨_, this, fun _ => ⟨fun hq2 => (by rw [hq] at hq2; cases hq2), fun _ => ⟨rfl, h⟩⟩, fun hq2 => (by rw [eH] at hq2; simp at hq2)⟩
    · have hq' : ¬ (0 ≤ p.2.2 ∧ p.2.2 < (s2.t.toL.length : Int)) := of_decide_eq_false hq
      have eH : atH p.2.2 s2.t.toL = 0 := by
        unfold atH
        split
        · rw [List.getElem?_eq_none (by omega)]; rfl
        · rfl
      rw [eH]
      exact ⟨fun _ => ⟨rfl, h⟩, fun hq2 => (by rw [hq] at hq2; cases hq2)⟩
    clear h
    rintro w
    intros
    rename_i b10 hI5
    obtain ⟨hvs5, h⟩ := hI5
    obtain rfl : b10 = false := by simpa using hvs5
    refine ⟨fun hb => (by cases hb), fun _ => ?_⟩
    let S7 : World → Prop := fun w => Own W w (imm h2 :: ldB g gt2 s2.used s2.most :: B24 g2 q4 s2.t.toL.length c4 s2.most :: blk ga 4 [.bool false] :: [])
    have h : S7 w := h
    refine ⟨fun vs w => vs = [.bool false] ∧ S7 w, Own.drw h fun w h => ⟨S7, h, _, _, _, _, ⟨fun w h => Own.ld (g := g2) (k := 0) h (by repeat (first | with_reducible exact Pick.here | apply Pick.there)) rfl, fun w h => Own.ld (g := g2) (k := 1) h (by repeat (first | with_reducible exact Pick.here | apply Pick.there)) rfl⟩, ?_⟩, ?_⟩
    · refine Rets.mono (ldUsed h) ?_
      clear h
      rintro _ w ⟨rfl, h⟩
      refine ⟨_, rfl, h, ?_⟩
      refine Rets.mono (rUsed o3 (by omega) (by omega) I2 h) ?_
      clear h
      rintro _ w ⟨rfl, h⟩
      rw [o2]
      refine ⟨_, rfl, h, fun _ => ⟨_, fun w h => Own.ld (g := g2) (k := 1) h (by repeat (first | with_reducible exact Pick.here | apply Pick.there)) rfl, ?_⟩, fun hq => (by simp at hq)⟩
      refine Rets.mono (ldMost h) ?_
      clear h
      rintro _ w ⟨rfl, h⟩
      refine ⟨_, rfl, h, fun _ => ⟨_, fun w h => Own.ld (g := g2) (k := 1) h (by repeat (first | with_reducible exact Pick.here | apply Pick.there)) rfl, _, _, _, _, ⟨fun w h => Own.ld (g := g2) (k := 0) h (by repeat (first | with_reducible exact Pick.here | apply Pick.there)) rfl, fun w h => Own.ld (g := g2) (k := 1) h (by repeat (first | with_reducible exact Pick.here | apply Pick.there)) rfl⟩, ?_⟩, fun hq => (by simp at hq)⟩
      refine Rets.mono (ldRoom ⟨hnn, o4, o5⟩ h) ?_
      clear h
      rintro _ w ⟨rfl, h⟩
      refine ⟨_, rfl, h, ?_⟩
      refine Rets.mono (rUsed o3 (by omega) (by omega) I2 h) ?_
      clear h
      rintro _ w ⟨rfl, h⟩
      rw [o2]
      refine ⟨_, rfl, h, ?_⟩
      rw [wI64 (by omega) (by omega)]
      refine ⟨fun _ => ⟨_, _, _, fun w h => Own.ld (g := g2) (k := 0) h (by repeat (first | with_reducible exact Pick.here | apply Pick.there)) rfl, ?_⟩, fun hq => (by simp at hq)⟩
      refine Rets.mono (ldLen T2 h) ?_
      clear h
      rintro _ w ⟨rfl, h⟩
      refine ⟨_, rfl, h, ?_, h⟩
      rw [hl2]; simp
    clear h
    rintro w
    intros
    rename_i b12 hI6
    obtain ⟨hvs6, h⟩ := hI6
    obtain rfl : b12 = false := by simpa using hvs6
    rw [ei]
    exact ⟨fun hb => (by cases hb), fun _ => ⟨z - 1, by omega, i + 1, s2, h2, gt2, q4, c4, rfl, by omega, ok2, hsz2, le2, I2, hnc2, T2, h⟩⟩
  · have hall : Rets Try.prog 23 #[.pointer (some ⟨g, 0, none⟩)] w fun v w' => ∃ h2 b, v = .func (.func 47) #[] #[.pointer (some ⟨b, 0, none⟩)] ∧ LeH h1 h2 ∧ h2 b = some (.cells #[.pointer (some ⟨g1, 0, none⟩)] 51 (0, 0)) ∧ Own W w' (imm h2 :: ldB g g1 s.used s.most :: B24 g2 q1 s.t.toL.length c1 s.most :: blk ga 4 [.bool false] :: []) := by
      refine ledger_Ledger_All_go _ ⟨fun hc => (by cases hc), fun _ => ⟨_, Own.ld (g := g) (k := 0) h (by repeat (first | with_reducible exact Pick.here | apply Pick.there)) rfl, ?_⟩⟩
      refine Rets.mono (rkAll h) ?_
      rintro _ w ⟨h2, b, rfl, le2, hb2, h⟩
      exact ⟨_, _, _, rfl, h2, b, rfl, le2, hb2, h⟩
    refine Rets.mono hall ?_
    clear h hall
    rintro _ w ⟨h2, b, rfl, le2, hb2, h⟩
    have T1 := T1.mono le2
    have I1 := I1.mono le2
    have le1 := LeH.trans le1 le2
    refine ⟨_, _, _, rfl, fun hc => (by cases hc), fun _ => h.newR fun gn w h => Own.stP' (g := gn) h (by repeat (first | with_reducible exact Pick.here | apply Pick.there)) (by simp) (by simp [Value.oneCell']) fun w h => ?_⟩
    simp only [setFrom, List.set_cons_zero, List.set_cons_succ, List.set_nil] at h
    refine ⟨_, rfl, h.loopR fun mk lp LL w h hround => ?_⟩
    obtain ⟨T, hTe⟩ : ∃ T, T = s.t.toL := ⟨_, rfl⟩
    have hTf : T = s.t.toL.filter (fun _ => true) := by rw [hTe]; exact (List.filter_eq_self.2 (fun _ _ => rfl)).symm
    let Fr : Nat → List HP := fun i => blk gn 3 [.int .i64 (i : Int)] :: pt lp (LoopObj LL .ready none) :: pt mk (.deferred (some [])) :: B24 g2 q1 s.t.toL.length c1 s.most :: ldB g g1 s.used s.most :: blk ga 4 [.bool false] :: []
    have h : Own W w (imm h2 :: blk gn 3 [.int .i64 0] :: pt lp (LoopObj LL .ready none) :: pt mk (.deferred (some [])) :: B24 g2 q1 s.t.toL.length c1 s.most :: ldB g g1 s.used s.most :: blk ga 4 [.bool false] :: []) := (Own.sub (h) (by repeat (first | with_reducible exact Sub.nil _ | with_reducible exact Sub.rfl _ | (apply Sub.cons; focus ((repeat (first | with_reducible exact Pick.here | apply Pick.there)); done)) | apply Sub.drop)))
    have h : Own W w (imm h2 :: Fr 0) := h
    have hr2 : ∀ (i : Nat) w (hi : i < T.length), Own W w (imm h2 :: Fr i) → RoundR Try.prog lp #[.int .u64 T[i].1, .int .i64 T[i].2] w fun v w' => (v = .bool true ∧ Own W w' (imm h2 :: Fr (i + 1))) ∨ (v = .bool false ∧ False) := fun i w hi h => by
      have h : Own W w (imm h2 :: blk gn 3 [.int .i64 (i : Int)] :: pt lp (LoopObj LL .ready none) :: pt mk (.deferred (some [])) :: B24 g2 q1 s.t.toL.length c1 s.most :: ldB g g1 s.used s.most :: blk ga 4 [.bool false] :: []) := h
      have hi2 : i < s.t.toL.length := by rw [← hTe]; exact hi
      have hTi : T[i] = s.t.toL[i] := by simp [hTe]
      have hTl : T.length ≤ 100 := by rw [hTe]; omega
      refine hround _ _ w _ (Own.recR (l := lp) (L := LL) (Own.pk h (by repeat (first | with_reducible exact Pick.here | apply Pick.there)))) ?_
      refine Own.begR (l := lp) (L := LL) (Own.pk h (by repeat (first | with_reducible exact Pick.here | apply Pick.there))) fun w h => ?_
      have h : Own W w (imm h2 :: pt lp (LoopObj LL .busy none) :: blk gn 3 [.int .i64 (i : Int)] :: pt mk (.deferred (some [])) :: B24 g2 q1 s.t.toL.length c1 s.most :: ldB g g1 s.used s.most :: blk ga 4 [.bool false] :: []) := (Own.sub (h) (by repeat (first | with_reducible exact Sub.nil _ | with_reducible exact Sub.rfl _ | (apply Sub.cons; focus ((repeat (first | with_reducible exact Pick.here | apply Pick.there)); done)) | apply Sub.drop)))
      refine ⟨fun vs w => vs = [.bool false] ∧ Own W w (imm h2 :: pt lp (LoopObj LL .busy none) :: blk gn 3 [.int .i64 (i : Int)] :: pt mk (.deferred (some [])) :: B24 g2 q1 s.t.toL.length c1 s.most :: ldB g g1 s.used s.most :: blk ga 4 [.bool false] :: []), ⟨_, Own.ld' (g := gn) h (by repeat (first | with_reducible exact Pick.here | apply Pick.there)) rfl, _, _, _, Own.ld (g := g2) (k := 0) h (by repeat (first | with_reducible exact Pick.here | apply Pick.there)) rfl, fun _ => ⟨_, _, _, Own.ld (g := g2) (k := 0) h (by repeat (first | with_reducible exact Pick.here | apply Pick.there)) rfl, _, Own.ld' (g := gn) h (by repeat (first | with_reducible exact Pick.here | apply Pick.there)) rfl, by omega, by omega, ?_⟩, fun hq => (by have := dec_t hq; omega)⟩, ?_⟩
      · obtain ⟨ad2, eq2, rd2⟩ := I1.adr24 hi2 h
        subst eq2
        refine smR ⟨_, _, ⟨(rd2 _ _ _ h).1, (rd2 _ _ _ h).2⟩, ?_, h⟩
        rw [hTi]; simp
      clear h
      rintro w
      intros
      rename_i b15 hI7
      obtain ⟨hvs7, h⟩ := hI7
      obtain rfl : b15 = false := by simpa using hvs7
      refine ⟨fun hb => (by cases hb), fun _ => ⟨_, Own.ld' (g := gn) h (by repeat (first | with_reducible exact Pick.here | apply Pick.there)) rfl, Own.stP' (g := gn) h (by repeat (first | with_reducible exact Pick.here | apply Pick.there)) (by simp) (by simp [Value.oneCell']) fun w h => ?_⟩⟩
      simp only [setFrom, List.set_cons_zero, List.set_cons_succ, List.set_nil] at h
      rw [wI64 (by omega) (by omega)] at h
      refine Own.finT (l := lp) (L := LL) (Own.pk h (by repeat (first | with_reducible exact Pick.here | apply Pick.there))) fun w h => .inl ⟨rfl, ?_⟩
      have h : Own W w (imm h2 :: blk gn 3 [.int .i64 ((i + 1 : Nat) : Int)] :: pt lp (LoopObj LL .ready none) :: pt mk (.deferred (some [])) :: B24 g2 q1 s.t.toL.length c1 s.most :: ldB g g1 s.used s.most :: blk ga 4 [.bool false] :: []) := by
        rw [show ((i + 1 : Nat) : Int) = (i : Int) + 1 by omega]
        exact (Own.sub (h) (by repeat (first | with_reducible exact Sub.nil _ | with_reducible exact Sub.rfl _ | (apply Sub.cons; focus ((repeat (first | with_reducible exact Pick.here | apply Pick.there)); done)) | apply Sub.drop)))
      exact h
    obtain ⟨pt', ho, ht⟩ := T1
    have hwk : Rets Try.prog 47 #[.func (.yield lp) #[] #[], .pointer (some ⟨b, 0, none⟩)] w fun v w' => Own W w' (imm h2 :: Fr T.length) := by
      refine rank_Tree_int_int_All_1_go _ _ ⟨_, h.immCell (vs := [.pointer (some ⟨g1, 0, none⟩)]) hb2 (i := 0) rfl, fun _ => ⟨_, h.immCell (vs := [.pointer (some ⟨g1, 0, none⟩)]) hb2 (i := 0) rfl, smR ⟨_, h.immCell (vs := [.func (.func 40) #[] #[], .pointer pt']) ho (i := 1) rfl, ?_⟩⟩, fun hc => (by cases hc)⟩
      refine Rets.mono (wk_all (T := T) (Fr := Fr) (Fin := fun _ => False) (fun w h => h.elim) hr2 s.t pt' w [] [] ht ok.1 (by rw [hTf]; simp) h) ?_
      rintro _ w (⟨rfl, h⟩ | ⟨rfl, h⟩)
      · refine ⟨_, rfl, ?_⟩
        rw [← hTf] at h
        simpa using h
      · exact h.elim
    refine Rets.mono hwk ?_
    clear h hr2 hwk
    rintro v w h
    have h : Own W w (imm h2 :: blk gn 3 [.int .i64 (T.length : Int)] :: pt lp (LoopObj LL .ready none) :: pt mk (.deferred (some [])) :: B24 g2 q1 s.t.toL.length c1 s.most :: ldB g g1 s.used s.most :: blk ga 4 [.bool false] :: []) := h
    rw [hTe] at h
    refine .inl (Own.endR (l := lp) (L := LL) (Own.pk h (by repeat (first | with_reducible exact Pick.here | apply Pick.there))) (by simp) fun w h => ?_)
    have h : Own W w (imm h2 :: blk gn 3 [.int .i64 (s.t.toL.length : Int)] :: pt mk (.deferred (some [])) :: B24 g2 q1 s.t.toL.length c1 s.most :: blk ga 4 [.bool false] :: []) := (Own.sub (h) (by repeat (first | with_reducible exact Sub.nil _ | with_reducible exact Sub.rfl _ | (apply Sub.cons; focus ((repeat (first | with_reducible exact Pick.here | apply Pick.there)); done)) | apply Sub.drop)))
    refine ⟨fun vs w => vs = [] ∧ Own W w (imm h2 :: pt mk (.deferred (some [])) :: blk ga 4 [.bool true] :: []), ⟨_, Own.ld' (g := gn) h (by repeat (first | with_reducible exact Pick.here | apply Pick.there)) rfl, _, _, _, Own.ld (g := g2) (k := 0) h (by repeat (first | with_reducible exact Pick.here | apply Pick.there)) rfl, fun _ => ?_, fun hq => (by simp at hq)⟩, ?_⟩
    · refine Rets.mono (ldAwake h) ?_
      clear h
      rintro _ w ⟨rfl, h⟩
      refine ⟨_, rfl, Own.stP' (g := ga) h (by repeat (first | with_reducible exact Pick.here | apply Pick.there)) (by simp) (by simp [Value.oneCell']) fun w h => ⟨rfl, ?_⟩⟩
      simp only [setFrom, List.set_cons_zero, List.set_cons_succ, List.set_nil] at h
      exact (Own.sub (h) (by repeat (first | with_reducible exact Sub.nil _ | with_reducible exact Sub.rfl _ | (apply Sub.cons; focus ((repeat (first | with_reducible exact Pick.here | apply Pick.there)); done)) | apply Sub.drop)))
    clear h
    rintro w
    intros
    rename_i hI8
    obtain ⟨_, h⟩ := hI8
    refine Own.markR (g := mk) (Own.pk h (by repeat (first | with_reducible exact Pick.here | apply Pick.there))) fun w h => ⟨_, (Own.ld' h (by repeat (first | with_reducible exact Pick.here | apply Pick.there)) (by rfl)), rfl, _, h.immLe le1⟩
end
end Go.Proofs.Ytajckpjlliiekaa.Eng
