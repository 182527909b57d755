/- TinyPlays: the law. -/
import Derived.Test.YtkhfejnkefgpeaaDoorTplA
import Derived.Test.YtkhfejnkefgpeaaDoorTinR
namespace Go.Proofs.YtkhfejnkefgpeaaDoor.Eng
open Go Go.RowKit Go.Proofs
set_option linter.unusedVariables false
set_option linter.unusedSimpArgs false
set_option maxRecDepth 1000000

theorem snapIm {W : World} {q : Option Addr} {us : List Value} (hr : RdC W q us) : ImR (fun b => W.heap[b]?) q us := fun e w F h => Own.snapRd (W := W) h hr
theorem pw9 {k : Int} {m : Nat} (h : pwOk k m) (hk : k ≤ 64) : m ≤ 9 := by
  refine Nat.le_of_not_lt fun hlt => ?_
  have : 2 ^ 10 ≤ 2 ^ m := Nat.pow_le_pow_right (by omega) hlt
  obtain ⟨_, h⟩ := h
  have e : (2 : Nat) ^ 10 = 1024 := rfl
  omega
def nxB (s : Int) (m md : Nat) (lim : Int) (t : Ts) (l : List (Sl Int)) : Ts := l.foldl (fun t x => nxL s m md lim t x.2.2) t
theorem nxB_take {s : Int} {m md : Nat} {lim : Int} {t : Ts} {l : List (Sl Int)} {i : Nat} (h : i < l.length) : nxB s m md lim t (l.take (i + 1)) = nxL s m md lim (nxB s m md lim t (l.take i)) l[i].2.2 := by
  rw [List.take_succ_eq_append_getElem h]; unfold nxB; rw [List.foldl_append]; rfl
theorem okT_nxB {s : Int} {m md : Nat} {lim : Int} {t : Ts} (hl : 1 ≤ lim) (h : okT m md lim t) (l : List (Sl Int)) : okT m md lim (nxB s m md lim t l) := by
  unfold nxB
  induction l generalizing t with
  | nil => exact h
  | cons x l ih => exact ih (okT_nxL hl h x.2.2)
section
variable {W : World} {q : Option Addr} {c : Nat} {L : List (Sl Int)} {n s : Int}
theorem TinyPlays_spec (HL : MixLaid W) (hnw : (Lit.int .i64 n).wf = true) (hsw : (Lit.int .u64 s).wf = true) (hb : RdC W q (L.map Sl.v)) (hm : L.length ≤ maxLen) (hc : L.length ≤ c) (hw : ∀ x ∈ L, RdC W x.1 (cs .u64 x.2.2) ∧ x.2.2.length ≤ maxLen ∧ x.2.2.length ≤ x.2.1 ∧ ∀ y ∈ x.2.2, (Lit.int .u64 y).wf = true) :
    Rets Tryd.prog 3 #[.int .i64 n, .int .u64 s, .slice q L.length c] W fun v w' => v = .bool true ∧ Below W.heap.size W w' := by
  refine Rets.mono (k := fun v w' => v = .bool true ∧ ∃ F, Own W w' (snap W :: F)) ?_ (fun v w' h => ⟨h.1, h.2.elim fun F h => h.below⟩)
  have h := Own.begin W
  have hsM : M64 s := wfU64 hsw
  rw [snap_imm] at h ⊢
  obtain ⟨hW, ehW⟩ : ∃ hW : Nat → Option Obj, hW = (fun b => W.heap[b]?) := ⟨_, rfl⟩
  have rd1 : ∀ {h1 : Nat → Option Obj} {w F}, LeH hW h1 → Own W w (imm h1 :: F) → RdC w mixQ mixC := fun le h => by rw [ehW] at le; exact Own.snapRd (W := W) (h.immLe le) HL.rd
  have rd2 : ∀ {h1 : Nat → Option Obj} {w F}, LeH hW h1 → Own W w (imm h1 :: F) → RdC w twiQ twiC := fun le h => by rw [ehW] at le; exact Own.snapRd (W := W) (h.immLe le) HL.rd2
  have aw : ∀ {h1 : Nat → Option Obj} {w F}, LeH hW h1 → Own W w (imm h1 :: F) → Rets Tryd.prog 5 #[] w fun v w' => ∃ b, v = Value.bool b ∧ (Value.bool b) = .bool true ∧ ∃ F, Own W w' (imm hW :: F) := fun le h => by
    refine Rets.mono (tinAwake (fun w h => rd1 le h) (fun w h => rd2 le h) h) ?_
    rintro _ w ⟨rfl, h⟩
    exact ⟨_, rfl, rfl, _, h.immLe le⟩
  have hbI : ImR hW q (L.map Sl.v) := by rw [ehW]; exact snapIm hb
  have hxI : ∀ x ∈ L, ImR hW x.1 (cs .u64 x.2.2) := fun x hx => by rw [ehW]; exact snapIm (hw x hx).1
  have hxM : ∀ x ∈ L, x.2.2.length ≤ maxLen := fun x hx => (hw x hx).2.1
  rw [← ehW] at h ⊢
  clear hb hw ehW
  refine cortadolaw13_TinyPlays_go _ _ _ _ _ ⟨fun hn => ⟨fun hl => aw (LeH.refl _) h, fun hl => ?_⟩, fun hn => aw (LeH.refl _) h⟩
  have hn := dec_f hn
  have hl := dec_f hl
  refine Rets.mono (tNewT (n := n) (s := s) (fun w h => rd1 (LeH.refl _) h) h) ?_
  clear h
  rintro _ w ⟨g, m, md, rfl, hok, hok2, h⟩
  refine ⟨_, rfl, ?_⟩
  refine Rets.mono (trNew (n := n) (s := s) hsM h.swap) ?_
  clear h
  rintro _ w ⟨h1, q1, c1, m', q2, md', c2, rfl, hok', hok2', le1, hS, h⟩
  obtain rfl : m' = m := hok'.uniq hok
  obtain rfl : md' = md := hok2'.uniq hok2
  obtain ⟨lim, hlim⟩ : ∃ lim, lim = maxI 1 (minI n 4096) := ⟨_, rfl⟩
  have hlb : 1 ≤ lim ∧ lim ≤ 64 := by rw [hlim]; unfold maxI minI; split <;> split <;> omega
  rw [← hlim] at h hok hok2 ⊢
  clear hok' hok2' hlim
  have hm9 : m' ≤ 9 := pw9 hok (by unfold maxI minI; split <;> split <;> omega)
  have hmd : md' ≤ 20 := hok2.small (by have := keyN_bd lim; omega)
  refine ⟨_, _, _, _, _, _, _, _, _, _, _, _, _, _, rfl, h.newR fun ga w h => Own.stP' (g := ga) h (by repeat (first | with_reducible exact Pick.here | apply Pick.there)) (by simp) (by simp [Value.oneCell']) fun w h => ?_⟩
  simp only [setFrom, List.set_cons_zero, List.set_cons_succ, List.set_nil] at h
  have h : Own W w (imm h1 :: tinT g m' md' s lim (t0 m' md') :: blk ga 34 (trC q1 c1 m' s q2 md' c2 lim (t0 m' md').ct (t0 m' md').ag) :: dlO q2 md' c2 (t0 m' md').ws :: []) := by
    have h : Own W w (blk ga 34 (trC q1 c1 m' s q2 md' c2 lim (t0 m' md').ct (t0 m' md').ag) :: imm h1 :: dlO q2 md' c2 (t0 m' md').ws :: tinT g m' md' s lim (t0 m' md') :: []) := h
    exact (Own.sub (h) (by repeat (first | with_reducible exact Sub.nil _ | with_reducible exact Sub.rfl _ | (apply Sub.cons; focus ((repeat (first | with_reducible exact Pick.here | apply Pick.there)); done)) | apply Sub.drop)))
  refine ⟨fun k vs w => ∃ (i : Nat) (h1 : Nat → Option Obj) (q1 : Option Addr) (c1 : Nat) (q2 : Option Addr) (c2 : Nat), vs = [.int .i64 (i : Int)] ∧ k + i = L.length ∧ LeH hW h1 ∧ RsR h1 q1 (2 ^ m') (nxB s m' md' lim (t0 m' md') (L.take i)).R ∧ Own W w (imm h1 :: tinT g m' md' s lim (nxB s m' md' lim (t0 m' md') (L.take i)) :: blk ga 34 (trC q1 c1 m' s q2 md' c2 lim (nxB s m' md' lim (t0 m' md') (L.take i)).ct (nxB s m' md' lim (t0 m' md') (L.take i)).ag) :: dlO q2 md' c2 (nxB s m' md' lim (t0 m' md') (L.take i)).ws :: []), ⟨L.length, 0, h1, q1, c1, q2, c2, rfl, rfl, le1, hS, h⟩, ?_⟩
  clear h hS le1
  rintro z w v4 n9
  intros
  rename_i hI
  obtain ⟨i, h1, q1, c1, q2, c2, hvs, hz, le1, hS, h⟩ := hI
  obtain rfl : n9 = (i : Int) := by simpa using hvs
  have ok := okT_nxB (s := s) (lim := lim) hlb.1 (okT0 (m := m') (md := md') hlb.1) (L.take i)
  refine ⟨fun hc1 => ?_, fun hc1 => ?_⟩
  · have hc1 := dec_t hc1
    have hi : i < L.length := by omega
    have hnx := nxB_take (s := s) (m := m') (md := md') (lim := lim) (t := t0 m' md') hi
    obtain ⟨t, ht⟩ : ∃ t, t = nxB s m' md' lim (t0 m' md') (L.take i) := ⟨_, rfl⟩
    rw [← ht] at h hS ok hnx
    clear ht
    have hat : ∀ {k : Nat} (hk : k < L.length), (L.map Sl.v)[k]? = some (.slice L[k].1 L[k].2.2.length L[k].2.1) := fun hk => by rw [List.getElem?_map, List.getElem?_eq_getElem hk]; rfl
    obtain ⟨ad, rfl, _⟩ := ((hbI.mono le1) _ _ _ h).addr (hat hi)
    have hdr : ∀ {h2 : Nat → Option Obj} {w F}, LeH hW h2 → Own W w (imm h2 :: F) → ∀ {k : Nat} (hk : k < L.length), cellAt w (ad.add (Int.toNat (k : Int) * 1)) (.slice L[k].1 L[k].2.2.length L[k].2.1) := by
      intro h2 w F le h k hk
      obtain ⟨ad', ead, hcell⟩ := ((hbI.mono le) _ _ _ h).addr (hat hk)
      cases ead
      rw [Int.toNat_natCast, Nat.mul_one]
      exact hcell _ _ (hat hk)
    refine ⟨by omega, by omega, smR ⟨_, _, _, hdr le1 h hi, fun hx => aw le1 h, fun hx => ?_⟩⟩
    have hx := dec_f hx
    have hxi := (hxI L[i] (List.getElem_mem hi)).mono le1
    refine ⟨by omega, by omega, smR ⟨_, _, _, hdr le1 h hi, ?_⟩⟩
    refine Rets.mono (tPushT (s := s) (m := m') (fun w h => rd1 le1 h) (fun w h => rd2 le1 h) ⟨hlb.1, by omega⟩ ok (by omega) (fun w h => hxi _ _ _ h) h.swap) ?_
    clear h
    rintro _ w ⟨rfl, h⟩
    have h := h.swap
    refine ⟨rfl, h.drw fun w h => ⟨by omega, by omega, smR ⟨_, _, _, _, _, _, _, _, _, _, _, _, _, _, ⟨Own.ld (g := ga) h (by repeat (first | with_reducible exact Pick.here | apply Pick.there)) rfl, Own.ld (g := ga) h (by repeat (first | with_reducible exact Pick.here | apply Pick.there)) rfl, Own.ld (g := ga) h (by repeat (first | with_reducible exact Pick.here | apply Pick.there)) rfl, Own.ld (g := ga) h (by repeat (first | with_reducible exact Pick.here | apply Pick.there)) rfl, Own.ld (g := ga) h (by repeat (first | with_reducible exact Pick.here | apply Pick.there)) rfl, Own.ld (g := ga) h (by repeat (first | with_reducible exact Pick.here | apply Pick.there)) rfl, Own.ld (g := ga) h (by repeat (first | with_reducible exact Pick.here | apply Pick.there)) rfl, Own.ld (g := ga) h (by repeat (first | with_reducible exact Pick.here | apply Pick.there)) rfl, Own.ld (g := ga) h (by repeat (first | with_reducible exact Pick.here | apply Pick.there)) rfl, Own.ld (g := ga) h (by repeat (first | with_reducible exact Pick.here | apply Pick.there)) rfl⟩, _, _, _, hdr le1 h hi, ?_⟩⟩⟩
    have h : Own W w (imm h1 :: dlO q2 md' c2 t.ws :: tinT g m' md' s lim (nxL s m' md' lim t L[i].2.2) :: blk ga 34 (trC q1 c1 m' s q2 md' c2 lim t.ct t.ag) :: []) := (Own.sub (h) (by repeat (first | with_reducible exact Sub.nil _ | with_reducible exact Sub.rfl _ | (apply Sub.cons; focus ((repeat (first | with_reducible exact Pick.here | apply Pick.there)); done)) | apply Sub.drop)))
    refine Rets.mono (trPush (L := L[i].2.2) hm9 hmd hsM ⟨hlb.1, by omega⟩ hok2 ok hS (by omega) hxi h) ?_
    clear h
    rintro _ w ⟨h2, q3, c3, q4, c4, rfl, le2, hS2, h⟩
    rw [← hnx] at h hS2 ⊢
    have ok2 := okT_nxB (s := s) (lim := lim) hlb.1 (okT0 (m := m') (md := md') hlb.1) (L.take (i + 1))
    obtain ⟨t2, ht2⟩ : ∃ t2, t2 = nxB s m' md' lim (t0 m' md') (L.take (i + 1)) := ⟨_, rfl⟩
    rw [← ht2] at h hS2 ok2 ⊢
    have le3 : LeH hW h2 := LeH.trans le1 le2
    refine ⟨_, _, _, _, _, _, _, _, _, _, _, _, _, _, rfl, Own.stP' (g := ga) h (by repeat (first | with_reducible exact Pick.here | apply Pick.there)) (by simp) (by simp [Value.oneCell']) fun w h => ?_⟩
    simp only [setFrom, List.set_cons_zero, List.set_cons_succ, List.set_nil] at h
    let S : World → Prop := fun w => Own W w (imm h2 :: tinT g m' md' s lim t2 :: blk ga 34 (trC q3 c3 m' s q4 md' c4 lim t2.ct t2.ag) :: dlO q4 md' c4 t2.ws :: [])
    have h : S w := by
      have h : Own W w (blk ga 34 (trC q3 c3 m' s q4 md' c4 lim t2.ct t2.ag) :: imm h2 :: dlO q4 md' c4 t2.ws :: tinT g m' md' s lim t2 :: []) := h
      exact (Own.sub (h) (by repeat (first | with_reducible exact Sub.nil _ | with_reducible exact Sub.rfl _ | (apply Sub.cons; focus ((repeat (first | with_reducible exact Pick.here | apply Pick.there)); done)) | apply Sub.drop)))
    refine Own.drw (show Own W w _ from h) fun w h => ⟨S, h, _, fun w h => Own.ld (g := ga) (k := 5) h (by repeat (first | with_reducible exact Pick.here | apply Pick.there)) rfl, ?_⟩
    refine Rets.mono (tCount h.swap) ?_
    clear h
    rintro _ w ⟨rfl, h⟩
    have h : S w := h.swap
    refine ⟨_, rfl, h, fun _ => ⟨_, fun w h => Own.ld (g := ga) (k := 7) h (by repeat (first | with_reducible exact Pick.here | apply Pick.there)) rfl, ?_⟩, fun hb => (by simp at hb)⟩
    refine Rets.mono (tAged (Own.swap h)) ?_
    clear h
    rintro _ w ⟨rfl, h⟩
    have h : S w := h.swap
    refine ⟨_, rfl, h, fun _ => ⟨_, fun w h => Own.ld (g := ga) (k := 6) h (by repeat (first | with_reducible exact Pick.here | apply Pick.there)) rfl, ?_⟩, fun hb => (by simp at hb)⟩
    refine Rets.mono (tLimit (Own.swap h)) ?_
    clear h
    rintro _ w ⟨rfl, h⟩
    have h : S w := h.swap
    refine ⟨_, rfl, h, fun hb => (by simp at hb), fun _ => ?_⟩
    refine ⟨fun k vs w => ∃ x : Nat, vs = [.int .i64 (x : Int)] ∧ k + x = i + 1 ∧ S w, ⟨i + 1, 0, rfl, rfl, h⟩, ?_⟩
    clear h
    rintro z3 w v90 n32
    intros
    rename_i hI
    obtain ⟨x, hvs, hz3, h⟩ := hI
    obtain rfl : n32 = (x : Int) := by simpa using hvs
    refine ⟨fun hc2 => ?_, fun hc2 => ?_⟩
    · have hc2 := dec_t hc2
      have hxl : x < L.length := by omega
      refine ⟨fun k vs w => ∃ y : Nat, vs = [.int .i64 (y : Int)] ∧ k + y = L[x].2.2.length ∧ S w, ⟨L[x].2.2.length, 0, rfl, rfl, h⟩, ?_⟩
      clear h
      rintro z4 w v125 n33
      intros
      rename_i hI
      obtain ⟨y, hvs, hz4, h⟩ := hI
      obtain rfl : n33 = (y : Int) := by simpa using hvs
      refine ⟨by omega, by omega, smR ⟨_, _, _, hdr le3 h hxl, fun hc3 => ?_, fun hc3 => ?_⟩⟩
      · have hc3 := dec_t hc3
        have hy : y < L[x].2.2.length := by omega
        have hxi2 := (hxI L[x] (List.getElem_mem hxl)).mono le3
        have hyM := hxM L[x] (List.getElem_mem hxl)
        unfold maxLen at hyM
        obtain ⟨ax, eax, _⟩ := (hxi2 _ _ _ h).addr (cs_at hy)
        have rdy : ∀ w, S w → cellAt w (ax.add (Int.toNat (y : Int) * 1)) (.int .u64 L[x].2.2[y]) := fun w h => by
          obtain ⟨ax', eax', hcell⟩ := (hxi2 _ _ _ h).addr (cs_at hy)
          rw [eax] at eax'; cases eax'
          rw [Int.toNat_natCast, Nat.mul_one]
          exact hcell _ _ (cs_at hy)
        have sm : ∀ {k : Addr → Prop}, k ax → someR L[x].1 k := fun hk => by rw [eax]; exact smR hk
        refine Own.drw (show Own W w _ from h) fun w h => ⟨S, h, by omega, by omega, smR ⟨by omega, by omega, smR ⟨_, _, _, fun w h => hdr le3 h hxl, by omega, by omega, sm ⟨_, rdy, _, _, _, _, _, _, _, _, _, _, _, _, _, _, ⟨fun w h => Own.ld (g := ga) (k := 0) h (by repeat (first | with_reducible exact Pick.here | apply Pick.there)) rfl, fun w h => Own.ld (g := ga) (k := 1) h (by repeat (first | with_reducible exact Pick.here | apply Pick.there)) rfl, fun w h => Own.ld (g := ga) (k := 2) h (by repeat (first | with_reducible exact Pick.here | apply Pick.there)) rfl, fun w h => Own.ld (g := ga) (k := 3) h (by repeat (first | with_reducible exact Pick.here | apply Pick.there)) rfl, fun w h => Own.ld (g := ga) (k := 4) h (by repeat (first | with_reducible exact Pick.here | apply Pick.there)) rfl, fun w h => Own.ld (g := ga) (k := 5) h (by repeat (first | with_reducible exact Pick.here | apply Pick.there)) rfl, fun w h => Own.ld (g := ga) (k := 6) h (by repeat (first | with_reducible exact Pick.here | apply Pick.there)) rfl, fun w h => Own.ld (g := ga) (k := 7) h (by repeat (first | with_reducible exact Pick.here | apply Pick.there)) rfl, fun w h => Own.ld (g := ga) (k := 8) h (by repeat (first | with_reducible exact Pick.here | apply Pick.there)) rfl, fun w h => Own.ld (g := ga) (k := 9) h (by repeat (first | with_reducible exact Pick.here | apply Pick.there)) rfl⟩, _, _, _, fun w h => hdr le3 h hxl, by omega, by omega, sm ⟨_, rdy, ?_⟩⟩⟩⟩⟩
        refine Rets.mono (tEst (hh := L[x].2.2[y]) (fun w h => rd1 le3 h) (fun w h => rd2 le3 h) h.swap) ?_
        clear h
        rintro _ w ⟨rfl, h⟩
        have h : S w := h.swap
        refine ⟨_, rfl, h, ?_⟩
        refine Rets.mono (trEst (hh := L[x].2.2[y]) (t := t2) hm9 hmd hsM ok2 hS2 (fun w h => Own.rdP (T := 4) (q := q4) h (by repeat (first | with_reducible exact Pick.here | apply Pick.there))) h) ?_
        clear h
        rintro _ w ⟨rfl, h⟩
        exact ⟨_, rfl, fun hb => (by simp at hb), fun _ => ⟨z4 - 1, by omega, y + 1, by rw [wI64 (by omega) (by omega)]; rfl, by omega, h⟩⟩
      · have hc3 := dec_f hc3
        exact ⟨z3 - 1, by omega, x + 1, by rw [wI64 (by omega) (by omega)]; rfl, by omega, h⟩
    · have hc2 := dec_f hc2
      refine ⟨z - 1, by omega, i + 1, h2, q3, c3, q4, c4, by rw [wI64 (by omega) (by omega)]; rfl, by omega, le3, ?_, ?_⟩
      · rw [← ht2]; exact hS2
      · rw [← ht2]; exact h
  · have hc1 := dec_f hc1
    refine Rets.mono (tClear h.swap) ?_
    clear h
    rintro _ w ⟨rfl, h⟩
    refine ⟨rfl, ?_⟩
    refine Rets.mono (tCount h) ?_
    clear h
    rintro _ w ⟨rfl, h⟩
    refine ⟨_, rfl, ?_⟩
    refine Rets.mono (tAged h) ?_
    clear h
    rintro _ w ⟨rfl, h⟩
    refine ⟨_, rfl, ?_⟩
    refine Rets.mono (tEst (hh := s) (fun w h => rd1 le1 h) (fun w h => rd2 le1 h) h) ?_
    clear h
    rintro _ w ⟨rfl, h⟩
    rw [es_zero]
    exact ⟨_, rfl, fun _ => aw le1 h.drop, fun hb => absurd hb (by decide)⟩
end
end Go.Proofs.YtkhfejnkefgpeaaDoor.Eng
