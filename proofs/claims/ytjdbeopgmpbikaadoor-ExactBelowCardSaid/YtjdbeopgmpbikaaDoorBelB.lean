/- Joined: BelW BelX. -/
import Derived.Test.YtjdbeopgmpbikaaDoorTiA
import Derived.Test.YtjdbeopgmpbikaaDoorExA
namespace Go.Proofs.YtjdbeopgmpbikaaDoor.Eng
open Go Go.RowKit Go.Proofs
set_option linter.unusedVariables false
set_option linter.unusedSimpArgs false
set_option maxRecDepth 1000000
/-- A tiny is never below. -/
def Bl (s : Int) (m md : Nat) (lim : Int) (t : Ts) (l : List Int) : Prop := ∀ x, (kn lim x l).2.2 ≤ ((cuG (plc s (2 ^ m) x) t.R 4 : Nat) : Int) ∧ ((kn lim x l).2.1 = true → hasB (mixI s) x (2 ^ md) t.ws = true)
theorem Bl.nil (s : Int) (m md : Nat) (lim : Int) : Bl s m md lim (t0 m md) [] := fun x => ⟨Int.natCast_nonneg _, fun h => by cases h⟩
theorem cu_adR {s y x : Int} {m md : Nat} {R : Nat → List Nat} {ws : List Nat} (hR : rowsOk (2 ^ m) R) : cuG (plc s (2 ^ m) x) R 4 ≤ cuG (plc s (2 ^ m) x) (adR s (2 ^ m) (2 ^ md) R ws y) 4 := by
  have p1 : 0 < 2 ^ m := Nat.pow_pos (by omega)
  unfold adR
  split
  · exact cuG_mono (plc s (2 ^ m) y) (plc s (2 ^ m) x) R (fun i => plc_lt p1) hR 4
  · exact Nat.le_refl _
theorem Bl.next {s y lim : Int} {m md : Nat} {t : Ts} {l : List Int} (h : Bl s m md lim t l) (ok : okT m md lim t) (hl : 1 ≤ lim) (hct : t.ct = Int.tmod (l.length : Int) lim) (hage : lim ≤ t.ct + 1 ↔ Int.tmod ((l.length : Int) + 1) lim = 0) : Bl s m md lim (nxT s m md lim t y) (l ++ [y]) := fun x => by
  obtain ⟨hR, hwl, _, _⟩ := ok
  have p1 : 0 < 2 ^ m := Nat.pow_pos (by omega)
  have p2 : 0 < 2 ^ md := Nat.pow_pos (by omega)
  obtain ⟨h1, h2⟩ := h x
  have hlen := kn_len lim x l
  have hbd := kn_bd lim x l
  rw [kn_snoc]
  generalize kn lim x l = k at h1 h2 hlen hbd ⊢
  obtain ⟨i, b, n⟩ := k
  have hlen : i = l.length := hlen
  subst hlen
  have h1 : n ≤ ((cuG (plc s (2 ^ m) x) t.R 4 : Nat) : Int) := h1
  have h2 : b = true → hasB (mixI s) x (2 ^ md) t.ws = true := h2
  have hbd : 0 ≤ n ∧ n ≤ 15 := hbd
  -- ahead of an age
  have a1 : (if y = x ∧ b = true then minI 15 (n + 1) else n) ≤ ((cuG (plc s (2 ^ m) x) (adR s (2 ^ m) (2 ^ md) t.R t.ws y) 4 : Nat) : Int) := by
    split
    · rename_i hh
      obtain ⟨rfl, hb⟩ := hh
      have e1 : adR s (2 ^ m) (2 ^ md) t.R t.ws y = fun j => ngAdd (t.R j) (plc s (2 ^ m) y j : Int) := by unfold adR; rw [if_pos (h2 hb)]
      rw [e1, cuG_add (plc s (2 ^ m) y) t.R (fun i => plc_lt p1) hR 4]
      generalize cuG (plc s (2 ^ m) y) t.R 4 = C at h1 ⊢
      unfold minI; split <;> omega
    · have := cu_adR (s := s) (y := y) (x := x) (md := md) (ws := t.ws) hR
      generalize cuG (plc s (2 ^ m) x) t.R 4 = C at h1 this
      generalize cuG (plc s (2 ^ m) x) (adR s (2 ^ m) (2 ^ md) t.R t.ws y) 4 = D at this ⊢
      omega
  have a2 : (b || decide (y = x)) = true → hasB (mixI s) x (2 ^ md) (putB (mixI s) y (2 ^ md) t.ws) = true := fun hh => by
    by_cases e : y = x
    · subst e; exact has_put p2 hwl
    · have hb : b = true := by simpa [e] using hh
      exact has_mono p2 hwl (h2 hb)
  unfold kst nxT
  dsimp only
  by_cases hc : lim ≤ t.ct + 1
  · rw [if_pos (hage.1 hc), if_pos hc]
    refine ⟨?_, fun hh => by cases hh⟩
    show (if y = x ∧ b = true then minI 15 (n + 1) else n) / 2 ≤ ((cuG (plc s (2 ^ m) x) (fun j => ngHalve (adR s (2 ^ m) (2 ^ md) t.R t.ws y j)) 4 : Nat) : Int)
    rw [cuG_half (plc s (2 ^ m) x) _ (adR_ok hR) 3]
    generalize cuG (plc s (2 ^ m) x) (adR s (2 ^ m) (2 ^ md) t.R t.ws y) (3 + 1) = D at a1 ⊢
    generalize (if y = x ∧ b = true then minI 15 (n + 1) else n) = N at a1 ⊢
    omega
  · rw [if_neg (fun hh => hc (hage.2 hh)), if_neg hc]
    exact ⟨a1, a2⟩
/-- The estimates themselves. -/
theorem Bl.le {s lim x : Int} {m md : Nat} {t : Ts} {l : List Int} (h : Bl s m md lim t l) : knE (kn lim x l) ≤ ((esN s (2 ^ m) (2 ^ md) t.R t.ws x : Nat) : Int) := by
  obtain ⟨h1, h2⟩ := h x
  unfold knE esN esG
  generalize kn lim x l = k at h1 h2 ⊢
  obtain ⟨i, b, n⟩ := k
  have h1 : n ≤ ((cuG (plc s (2 ^ m) x) t.R 4 : Nat) : Int) := h1
  have h2 : b = true → hasB (mixI s) x (2 ^ md) t.ws = true := h2
  generalize cuG (plc s (2 ^ m) x) t.R 4 = C at h1 ⊢
  dsimp only
  cases b with
  | true => rw [if_pos rfl, if_pos (h2 rfl)]; omega
  | false => rw [if_neg (by simp)]; split <;> omega
section
variable {W : World} {q : Option Addr} {c : Nat} {L : List Int} {n s : Int}
theorem nxT_ct {s lim : Int} {m md : Nat} {t : Ts} {y : Int} : (nxT s m md lim t y).ct = if lim ≤ t.ct + 1 then 0 else t.ct + 1 := by
  unfold nxT; split <;> rfl
theorem ExactBelow_spec (HL : MixLaid W) (hnw : (Lit.int .i64 n).wf = true) (hsw : (Lit.int .u64 s).wf = true) (hb : RdC W q (cs .u64 L)) (hm : L.length ≤ maxLen) (hc : L.length ≤ c) (hw : ∀ x ∈ L, (Lit.int .u64 x).wf = true) :
    Rets Tryd.prog 3 #[.int .i64 n, .int .u64 s, .slice q L.length c] W fun v w' => v = .bool true ∧ Below W.heap.size W w' := by
  refine Rets.mono (k := fun v w' => v = .bool true ∧ ∃ F, Own W w' (snap W :: F)) ?_ (fun v w' h => ⟨h.1, h.2.elim fun F h => h.below⟩)
  have h := Own.begin W
  rw [snap_imm] at h ⊢
  obtain ⟨hW, ehW⟩ : ∃ hW : Nat → Option Obj, hW = (fun b => W.heap[b]?) := ⟨_, rfl⟩
  have rd1 : ∀ {h1 : Nat → Option Obj} {w F}, LeH hW h1 → Own W w (imm h1 :: F) → RdC w mixQ mixC := fun le h => by rw [ehW] at le; exact Own.snapRd (W := W) (h.immLe le) HL.rd
  have rd2 : ∀ {h1 : Nat → Option Obj} {w F}, LeH hW h1 → Own W w (imm h1 :: F) → RdC w twiQ twiC := fun le h => by rw [ehW] at le; exact Own.snapRd (W := W) (h.immLe le) HL.rd2
  have hrd : ∀ {h1 : Nat → Option Obj} {w F}, LeH hW h1 → Own W w (imm h1 :: F) → RdC w q (cs .u64 L) := fun le h => by rw [ehW] at le; exact Own.snapRd (W := W) (h.immLe le) hb
  have aw : ∀ {h1 : Nat → Option Obj} {w F}, LeH hW h1 → Own W w (imm h1 :: F) → Rets Tryd.prog 5 #[] w fun v w' => ∃ b, v = Value.bool b ∧ (Value.bool b) = .bool true ∧ ∃ F, Own W w' (imm hW :: F) := fun le h => by
    refine Rets.mono (exAwake h) ?_
    rintro _ w ⟨rfl, h⟩
    exact ⟨_, rfl, rfl, _, h.immLe le⟩
  rw [← ehW] at h ⊢
  clear ehW
  refine cortadolaw14_ExactBelow_go _ _ _ _ _ ⟨fun hx => aw (LeH.refl _) h, fun hx => ?_⟩
  have hx := dec_f hx
  refine Rets.mono (tNewT (n := minI n 500) (s := s) (fun w h => rd1 (LeH.refl _) h) h) ?_
  clear h
  rintro _ w ⟨g, m, md, rfl, _, _, h⟩
  refine ⟨_, rfl, ?_⟩
  refine Rets.mono (exNew (n := minI n 500) h.swap) ?_
  clear h
  rintro _ w ⟨g2, rfl, h1, gu, le1, hU, h⟩
  obtain ⟨lim, hlim⟩ : ∃ lim, lim = maxI 1 (minI (minI n 500) 4096) := ⟨_, rfl⟩
  have hlb : 1 ≤ lim ∧ lim ≤ 4096 := by rw [hlim]; unfold maxI; generalize minI n 500 = y; unfold minI; split <;> split <;> omega
  rw [← hlim] at h
  clear hlim
  refine ⟨_, rfl, fun k vs w => ∃ (i : Nat) (t : Ts) (u : Tr) (h1 : Nat → Option Obj) (gu : Nat), vs = [.int .i64 (i : Int)] ∧ k + i = L.length ∧ okT m md lim t ∧ t.ct = Int.tmod (i : Int) lim ∧ Bl s m md lim t (L.take i) ∧ Rl lim u (L.take i) ∧ u.size ≤ i ∧ LeH hW h1 ∧ TreeA h1 u gu ∧ Own W w [imm h1, exB g2 gu (Int.tmod (i : Int) lim) lim, tinT g m md s lim t], ⟨L.length, 0, t0 m md, .nil, h1, gu, rfl, rfl, okT0 hlb.1, by rw [show Int.tmod ((0 : Nat) : Int) lim = 0 from Int.zero_tmod lim]; rfl, Bl.nil s m md lim, Rl.nil lim, Nat.le_refl _, le1, hU, by rw [show Int.tmod ((0 : Nat) : Int) lim = 0 from Int.zero_tmod lim]; exact h⟩, ?_⟩
  clear h hU le1
  rintro z w v4 n1
  intros
  rename_i hI
  obtain ⟨i, t, u, h1, gu, hvs, hz, ok, hct, B, R, hs, le1, hT, h⟩ := hI
  obtain rfl : n1 = (i : Int) := by simpa using hvs
  refine ⟨fun hc1 => ?_, fun hc1 => ?_⟩
  · have hc1 := dec_t hc1
    have hi : i < L.length := by omega
    have hti : (L.take i).length = i := by simp; omega
    have et : L.take (i + 1) = L.take i ++ [L[i]] := List.take_succ_eq_append_getElem hi
    obtain ⟨c0, c1, c2⟩ := tmod_step (i := (i : Int)) (by omega) hlb.1 hct
    have R2 := R.next (y := L[i])
    have hage : lim ≤ t.ct + 1 ↔ Int.tmod (((L.take i).length : Int) + 1) lim = 0 := by
      rw [hti, c2]
      split
      · rename_i hh; exact ⟨fun _ => rfl, fun _ => hh⟩
      · rename_i hh; exact ⟨fun h2 => absurd h2 hh, fun h2 => by omega⟩
    have B2 := B.next (y := L[i]) ok hlb.1 (by rw [hti]; exact hct) hage
    have ok2 := okT_nx (s := s) hlb.1 ok L[i]
    have hct2 : (nxT s m md lim t L[i]).ct = Int.tmod ((i : Int) + 1) lim := by rw [nxT_ct, c2]
    rw [← et] at R2 B2
    refine ⟨by omega, by omega, (hrd le1 h).int hi fun a ha => ⟨_, by rw [Int.toNat_natCast]; exact ha, ?_⟩⟩
    have h : Own W w (tinT g m md s lim t :: imm h1 :: exB g2 gu (Int.tmod (i : Int) lim) lim :: []) := (Own.sub (h) (by repeat (first | with_reducible exact Sub.nil _ | with_reducible exact Sub.rfl _ | (apply Sub.cons; focus ((repeat (first | with_reducible exact Pick.here | apply Pick.there)); done)) | apply Sub.drop)))
    refine Rets.mono (tAddT (hh := L[i]) (fun w h => rd1 le1 h) (fun w h => rd2 le1 h) hlb.2 ok h) ?_
    clear h
    rintro _ w ⟨rfl, h⟩
    obtain ⟨t2, ht2⟩ : ∃ t2, t2 = nxT s m md lim t L[i] := ⟨_, rfl⟩
    rw [← ht2] at h B2 ok2 hct2
    have h : Own W w (imm h1 :: exB g2 gu (Int.tmod (i : Int) lim) lim :: tinT g m md s lim t2 :: []) := (Own.sub (h) (by repeat (first | with_reducible exact Sub.nil _ | with_reducible exact Sub.rfl _ | (apply Sub.cons; focus ((repeat (first | with_reducible exact Pick.here | apply Pick.there)); done)) | apply Sub.drop)))
    refine ⟨rfl, by omega, by omega, (hrd le1 h).int hi fun a ha => ⟨_, by rw [Int.toNat_natCast]; exact ha, ?_⟩⟩
    have hadd := exAddN (y := L[i]) R hlb (by omega) hT (by rw [hti]; exact h)
    rw [hti] at hadd R2
    refine Rets.mono hadd ?_
    clear h hadd
    rintro _ w ⟨rfl, h3, gw, le3, hT3, h⟩
    have hs3 : (nxE lim i L[i] u).size ≤ i + 1 := nxE_size hs
    obtain ⟨u2, hu⟩ : ∃ u2, u2 = nxE lim i L[i] u := ⟨_, rfl⟩
    rw [← hu] at R2 hT3 hs3
    have le4 : LeH hW h3 := LeH.trans le1 le3
    have ei : IntKind.wrap .i64 ((i : Int) + 1) = ((i + 1 : Nat) : Int) := by rw [wI64 (by omega) (by omega)]; rfl
    rw [ei]
    have ec : Int.tmod ((i : Int) + 1) lim = Int.tmod ((i + 1 : Nat) : Int) lim := rfl
    rw [ec] at h hct2
    clear hu ht2 c2 ec hage B R hct ok
    let S : World → Prop := fun w => Own W w [imm h3, exB g2 gw (Int.tmod ((i + 1 : Nat) : Int) lim) lim, tinT g m md s lim t2]
    have h : S w := h
    refine ⟨rfl, fun k vs w => ∃ x : Nat, vs = [.int .i64 (x : Int)] ∧ k + x = L.length ∧ S w, ⟨L.length, 0, rfl, rfl, h⟩, ?_⟩
    clear h
    rintro z2 w v45 n4
    intros
    rename_i hI
    obtain ⟨x, hvs, hz2, h⟩ := hI
    obtain rfl : n4 = (x : Int) := by simpa using hvs
    refine ⟨fun hc2 => ?_, fun hc2 => ?_⟩
    · have hc2 := dec_t hc2
      have hxl : x < L.length := by omega
      have hat : (cs .u64 L)[x]? = some (.int .u64 L[x]) := by simp [cs, hxl]
      obtain ⟨ad, eq, _⟩ := (hrd le4 (show Own W w (imm h3 :: _) from h)).addr hat
      have hdr : ∀ w, S w → cellAt w (ad.add (Int.toNat (x : Int) * 1)) (.int .u64 L[x]) := fun w h => by
        obtain ⟨ad', ead, hcell⟩ := (hrd le4 (show Own W w (imm h3 :: _) from h)).addr hat
        rw [eq] at ead
        cases ead
        rw [Int.toNat_natCast, Nat.mul_one]
        exact hcell _ _ hat
      rw [eq]
      refine Own.drw (show Own W w _ from h) fun w h => ⟨S, h, by omega, by omega, smR ⟨by omega, by omega, smR ⟨_, fun w h => hdr w h, _, fun w h => hdr w h, ?_⟩⟩⟩
      have h : Own W w (tinT g m md s lim t2 :: imm h3 :: exB g2 gw (Int.tmod ((i + 1 : Nat) : Int) lim) lim :: []) := (Own.sub (h) (by repeat (first | with_reducible exact Sub.nil _ | with_reducible exact Sub.rfl _ | (apply Sub.cons; focus ((repeat (first | with_reducible exact Pick.here | apply Pick.there)); done)) | apply Sub.drop)))
      refine Rets.mono (tEst (hh := L[x]) (fun w h => rd1 le4 h) (fun w h => rd2 le4 h) h) ?_
      clear h
      rintro _ w ⟨rfl, h⟩
      have h : S w := by
        have h : Own W w (imm h3 :: exB g2 gw (Int.tmod ((i + 1 : Nat) : Int) lim) lim :: tinT g m md s lim t2 :: []) := (Own.sub (h) (by repeat (first | with_reducible exact Sub.nil _ | with_reducible exact Sub.rfl _ | (apply Sub.cons; focus ((repeat (first | with_reducible exact Pick.here | apply Pick.there)); done)) | apply Sub.drop)))
        exact h
      refine ⟨_, rfl, h, ?_⟩
      refine Rets.mono (exEstN (x := L[x]) R2 (by omega) hT3 h) ?_
      clear h
      rintro _ w ⟨rfl, h⟩
      have hle := B2.le (x := L[x])
      generalize knE (kn lim L[x] (L.take (i + 1))) = E at hle ⊢
      generalize ((esN s (2 ^ m) (2 ^ md) t2.R t2.ws L[x] : Nat) : Int) = E2 at hle ⊢
      exact ⟨_, rfl, fun hq => (by have := dec_t hq; omega), fun _ => ⟨z2 - 1, by omega, x + 1, by rw [wI64 (by omega) (by omega)]; rfl, by omega, h⟩⟩
    · exact ⟨z - 1, by omega, i + 1, t2, u2, h3, gw, rfl, by omega, ok2, hct2, B2, R2, hs3, le4, hT3, h⟩
  · have h : Own W w (tinT g m md s lim t :: imm h1 :: exB g2 gu (Int.tmod (i : Int) lim) lim :: []) := (Own.sub (h) (by repeat (first | with_reducible exact Sub.nil _ | with_reducible exact Sub.rfl _ | (apply Sub.cons; focus ((repeat (first | with_reducible exact Pick.here | apply Pick.there)); done)) | apply Sub.drop)))
    refine Rets.mono (tCount h) ?_
    clear h
    rintro _ w ⟨rfl, h⟩
    refine ⟨_, rfl, ?_⟩
    have h : Own W w (imm h1 :: exB g2 gu (Int.tmod (i : Int) lim) lim :: tinT g m md s lim t :: []) := (Own.sub (h) (by repeat (first | with_reducible exact Sub.nil _ | with_reducible exact Sub.rfl _ | (apply Sub.cons; focus ((repeat (first | with_reducible exact Pick.here | apply Pick.there)); done)) | apply Sub.drop)))
    refine Rets.mono (exCount h) ?_
    clear h
    rintro _ w ⟨rfl, h⟩
    rw [hct]
    exact ⟨_, rfl, fun _ => aw le1 h, fun hq => (by simp at hq)⟩
end
end Go.Proofs.YtjdbeopgmpbikaaDoor.Eng
