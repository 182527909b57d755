/- Exact: what each function does. -/
import Derived.Test.YtkcaeknkfgpnhaaExQ
import Derived.Test.YtkcaeknkfgpnhaaExbG
namespace Go.Proofs.Ytkcaeknkfgpnhaa.Eng
open Go Go.RowKit Go.Proofs
set_option linter.unusedVariables false
set_option linter.unusedSimpArgs false
set_option maxRecDepth 1000000
theorem vA1 (a : Int) : vA (2 * a + 1) = .agg #[.bool true, .int .i64 a] := by
  have e1 : vB (2 * a + 1) = true := by unfold vB; exact decide_eq_true (by omega)
  have e2 : vN (2 * a + 1) = a := by unfold vN; omega
  unfold vA; rw [e1, e2]
def kyN (v : Int) : Int := if vB v = true then minI 15 (vN v + 1) else vN v
def kyV (x : Int) (t : Tr) : Int := ((tfind x t 0).1.getD (0, 0)).2
def kyT (x : Int) (t : Tr) : Tr := tput x (2 * kyN (kyV x t) + 1) t
section
variable {e w : World} {F : List HP} {h0 : Nat → Option Obj} {t : Tr} {g gt : Nat} {x ct lim n : Int}
abbrev EX (e : World) (F : List HP) (h0 : Nat → Option Obj) (g : Nat) (t : Tr) (ct lim : Int) (w' : World) : Prop := ∃ h1 gu, LeH h0 h1 ∧ TreeA h1 t gu ∧ Own e w' (imm h1 :: exB g gu ct lim :: F)
theorem exNew (h : Own e w (imm h0 :: F)) : Rets Try.prog 58 #[.int .i64 n] w fun v w' => ∃ g, v = .pointer (some ⟨g, 0, none⟩) ∧ EX e F h0 g .nil 0 (maxI 1 (minI n 4096)) w' := by
  refine exact_New_go _ ?_
  refine Rets.mono (exNone h) ?_
  clear h
  rintro _ w ⟨h1, gu, rfl, le1, hU, h⟩
  exact ⟨_, rfl, h.newR fun g w h => ⟨g, rfl, h1, gu, le1, hU, h.swap⟩⟩
theorem exCount (h : Own e w (imm h0 :: exB g gt ct lim :: F)) : Rets Try.prog 60 #[.pointer (some ⟨g, 0, none⟩)] w fun v w' => v = .int .i64 ct ∧ Own e w' (imm h0 :: exB g gt ct lim :: F) :=
  exact_Exact_Count_go _ ⟨fun hc => (by cases hc), fun _ => ⟨_, Own.ld (g := g) (k := 1) h (by repeat (first | with_reducible exact Pick.here | apply Pick.there)) rfl, rfl, h⟩⟩
theorem exLen (hT : TreeA h0 t gt) (h : Own e w (imm h0 :: exB g gt ct lim :: F)) : Rets Try.prog 63 #[.pointer (some ⟨g, 0, none⟩)] w fun v w' => v = .int .i64 (t.size : Int) ∧ Own e w' (imm h0 :: exB g gt ct lim :: F) := by
  refine exact_Exact_Len_go _ ⟨fun hc => (by cases hc), fun _ => ⟨_, Own.ld (g := g) (k := 0) h (by repeat (first | with_reducible exact Pick.here | apply Pick.there)) rfl, ?_⟩⟩
  refine Rets.mono (rkLen hT h) ?_
  rintro _ w ⟨rfl, h⟩
  exact ⟨_, rfl, rfl, h⟩
theorem exClear (h : Own e w (imm h0 :: exB g gt ct lim :: F)) : Rets Try.prog 64 #[.pointer (some ⟨g, 0, none⟩)] w fun v w' => v = .tuple #[] ∧ EX e F h0 g .nil 0 lim w' := by
  refine exact_Exact_Clear_go _ ⟨fun _ => ?_, fun hc => (by cases hc)⟩
  refine Rets.mono (exNone h) ?_
  clear h
  rintro _ w ⟨h1, gu, rfl, le1, hU, h⟩
  refine ⟨_, rfl, Own.stP (g := g) (k := 0) h (by repeat (first | with_reducible exact Pick.here | apply Pick.there)) (by simp) (by simp [Value.oneCell']) fun w h => ?_⟩
  simp only [setFrom, List.set_cons_zero, List.set_cons_succ, List.set_nil] at h
  refine Own.stP (g := g) (k := 1) h (by repeat (first | with_reducible exact Pick.here | apply Pick.there)) (by simp) (by simp [Value.oneCell']) fun w h => ⟨rfl, h1, gu, le1, hU, ?_⟩
  simp only [setFrom, List.set_cons_zero, List.set_cons_succ, List.set_nil] at h
  exact (Own.sub (h) (by repeat (first | with_reducible exact Sub.nil _ | with_reducible exact Sub.rfl _ | (apply Sub.cons; focus ((repeat (first | with_reducible exact Pick.here | apply Pick.there)); done)) | apply Sub.drop)))
theorem exEst (hT : TreeA h0 t gt) (hs : t.size ≤ 700) (hv : 0 ≤ vN (kyV x t) ∧ vN (kyV x t) ≤ 100) (h : Own e w (imm h0 :: exB g gt ct lim :: F)) : Rets Try.prog 62 #[.pointer (some ⟨g, 0, none⟩), .int .u64 x] w fun v w' => v = .int .i64 (vN (kyV x t) + if vB (kyV x t) = true then 1 else 0) ∧ Own e w' (imm h0 :: exB g gt ct lim :: F) := by
  refine exact_Exact_Estimate_go _ _ ⟨fun hc => (by cases hc), fun _ => ⟨_, Own.ld (g := g) (k := 0) h (by repeat (first | with_reducible exact Pick.here | apply Pick.there)) rfl, ?_⟩⟩
  refine Rets.mono (rkGet (k := x) hT hs h) ?_
  clear h
  rintro _ w ⟨rfl, h⟩
  have e0 : ((tfind x t 0).1.getD (0, 0)).2 = kyV x t := rfl
  rw [e0]
  refine ⟨_, _, _, rfl, h.newR fun ga w h => Own.stP' (g := ga) h (by repeat (first | with_reducible exact Pick.here | apply Pick.there)) (by simp) (by simp [Value.oneCell']) fun w h => ?_⟩
  simp only [setFrom, List.set_cons_zero, List.set_cons_succ, List.set_nil] at h
  refine ⟨_, Own.ld (g := ga) (k := 0) h (by repeat (first | with_reducible exact Pick.here | apply Pick.there)) rfl, fun hb => ⟨_, Own.ld (g := ga) (k := 1) h (by repeat (first | with_reducible exact Pick.here | apply Pick.there)) rfl, ?_, h.drop⟩, fun hb => ⟨_, Own.ld (g := ga) (k := 1) h (by repeat (first | with_reducible exact Pick.here | apply Pick.there)) rfl, ?_, h.drop⟩⟩
  · rw [if_pos hb, wI64 (by omega) (by omega)]
  · rw [if_neg (by rw [hb]; simp), Int.add_zero]
theorem exAdd (hT : TreeA h0 t gt) (hs : t.size ≤ 200) (hS : Srt t.toL) (hv : 0 ≤ vN (kyV x t) ∧ vN (kyV x t) ≤ 15) (hvs : ∀ y ∈ (kyT x t).toL, 0 ≤ vN y.2 ∧ vN y.2 ≤ 100) (hct : 0 ≤ ct ∧ ct < lim ∧ lim ≤ 4096) (h : Own e w (imm h0 :: exB g gt ct lim :: F)) : Rets Try.prog 59 #[.pointer (some ⟨g, 0, none⟩), .int .u64 x] w fun v w' => v = .tuple #[] ∧
    ((lim ≤ ct + 1 ∧ EX e F h0 g (agT (kyT x t).toL .nil) 0 lim w') ∨ (ct + 1 < lim ∧ EX e F h0 g (kyT x t) (ct + 1) lim w')) := by
  have hsz := size_put x (2 * kyN (kyV x t) + 1) t
  have hS2 : Srt (kyT x t).toL := by unfold kyT; rw [tput_toL _ _ t hS]; exact lput_srt hS
  refine exact_Exact_Add_go _ _ ⟨fun hc => (by cases hc), fun _ => ⟨_, Own.ld (g := g) (k := 0) h (by repeat (first | with_reducible exact Pick.here | apply Pick.there)) rfl, ?_⟩⟩
  refine Rets.mono (rkGet (k := x) hT (by omega) h) ?_
  clear h
  rintro _ w ⟨rfl, h⟩
  have e0 : ((tfind x t 0).1.getD (0, 0)).2 = kyV x t := rfl
  rw [e0]
  refine ⟨_, _, _, rfl, h.newR fun ga w h => Own.stP' (g := ga) h (by repeat (first | with_reducible exact Pick.here | apply Pick.there)) (by simp) (by simp [Value.oneCell']) fun w h => ?_⟩
  simp only [setFrom, List.set_cons_zero, List.set_cons_succ, List.set_nil] at h
  refine ⟨_, Own.ld (g := ga) (k := 0) h (by repeat (first | with_reducible exact Pick.here | apply Pick.there)) rfl, fun vs w => vs = [] ∧ ∃ b, Own e w (imm h0 :: blk ga 143 [.bool b, .int .i64 (kyN (kyV x t))] :: exB g gt ct lim :: F), ⟨fun hb => ?_, fun hb => ?_⟩, ?_⟩
  · refine ⟨_, Own.ld (g := ga) (k := 1) h (by repeat (first | with_reducible exact Pick.here | apply Pick.there)) rfl, Own.stP (g := ga) (k := 1) h (by repeat (first | with_reducible exact Pick.here | apply Pick.there)) (by simp) (by simp [Value.oneCell']) fun w h => ⟨rfl, vB (kyV x t), ?_⟩⟩
    simp only [setFrom, List.set_cons_zero, List.set_cons_succ, List.set_nil] at h
    have e1 : kyN (kyV x t) = minI 15 (IntKind.wrap .i64 (vN (kyV x t) + 1)) := by unfold kyN; rw [if_pos hb, wI64 (by omega) (by omega)]
    rw [e1]
    exact (Own.sub (h) (by repeat (first | with_reducible exact Sub.nil _ | with_reducible exact Sub.rfl _ | (apply Sub.cons; focus ((repeat (first | with_reducible exact Pick.here | apply Pick.there)); done)) | apply Sub.drop)))
  · have e1 : kyN (kyV x t) = vN (kyV x t) := by unfold kyN; rw [if_neg (by rw [hb]; simp)]
    rw [e1]
    exact ⟨rfl, vB (kyV x t), (Own.sub (h) (by repeat (first | with_reducible exact Sub.nil _ | with_reducible exact Sub.rfl _ | (apply Sub.cons; focus ((repeat (first | with_reducible exact Pick.here | apply Pick.there)); done)) | apply Sub.drop)))⟩
  clear h
  rintro w
  intros
  rename_i hI
  obtain ⟨_, b, h⟩ := hI
  refine Own.stP (g := ga) (k := 0) h (by repeat (first | with_reducible exact Pick.here | apply Pick.there)) (by simp) (by simp [Value.oneCell']) fun w h => ?_
  simp only [setFrom, List.set_cons_zero, List.set_cons_succ, List.set_nil] at h
  refine h.drw fun w h => ⟨_, Own.ld (g := g) (k := 0) h (by repeat (first | with_reducible exact Pick.here | apply Pick.there)) rfl, _, _, ⟨Own.ld (g := ga) (k := 0) h (by repeat (first | with_reducible exact Pick.here | apply Pick.there)) rfl, Own.ld (g := ga) (k := 1) h (by repeat (first | with_reducible exact Pick.here | apply Pick.there)) rfl⟩, ?_⟩
  rw [← vA1]
  have h : Own e w (imm h0 :: exB g gt ct lim :: F) := (Own.sub (h) (by repeat (first | exact Sub.nil _ | exact Sub.rfl _ | (apply Sub.cons; focus ((repeat (first | with_reducible exact Pick.here | apply Pick.there)); done)) | apply Sub.drop)))
  refine Rets.mono (rkPut (k := x) (v := 2 * kyN (kyV x t) + 1) hT (by omega) h) ?_
  clear h
  rintro _ w ⟨h1, gu, rfl, le1, hU, h⟩
  have hU : TreeA h1 (kyT x t) gu := hU
  refine ⟨_, rfl, Own.stP (g := g) (k := 0) h (by repeat (first | with_reducible exact Pick.here | apply Pick.there)) (by simp) (by simp [Value.oneCell']) fun w h => ?_⟩
  simp only [setFrom, List.set_cons_zero, List.set_cons_succ, List.set_nil] at h
  refine ⟨_, Own.ld (g := g) (k := 1) h (by repeat (first | with_reducible exact Pick.here | apply Pick.there)) rfl, Own.stP (g := g) (k := 1) h (by repeat (first | with_reducible exact Pick.here | apply Pick.there)) (by simp) (by simp [Value.oneCell']) fun w h => ?_⟩
  simp only [setFrom, List.set_cons_zero, List.set_cons_succ, List.set_nil] at h
  rw [wI64 (by omega) (by omega)] at h
  refine h.drw fun w h => ⟨_, Own.ld (g := g) (k := 1) h (by repeat (first | with_reducible exact Pick.here | apply Pick.there)) rfl, _, Own.ld (g := g) (k := 2) h (by repeat (first | with_reducible exact Pick.here | apply Pick.there)) rfl, fun hc => ?_, fun hc => ⟨rfl, .inr ⟨?_, h1, gu, le1, hU, h.swap⟩⟩⟩
  · have hc := dec_t hc
    refine Rets.mono (exAge hvs hS2 (by have : (kyT x t).size = (tput x (2 * kyN (kyV x t) + 1) t).size := rfl; omega) hU h.swap) ?_
    clear h
    rintro _ w ⟨rfl, h2, gv, le2, hV, h⟩
    exact ⟨rfl, rfl, .inl ⟨by omega, h2, gv, LeH.trans le1 le2, hV, h⟩⟩
  · have hc := dec_f hc; omega
theorem xnAdd (h : Own e w F) : Rets Try.prog 59 #[.pointer none, .int .u64 x] w fun v w' => v = .tuple #[] ∧ Own e w' F := exact_nil_Add_go _ ⟨fun _ => ⟨rfl, h⟩, fun hc => (by cases hc)⟩
/-- Keys one after another. -/
theorem exPush {L : List Int} {q : Option Addr} {c : Nat} (S : Nat → World → Prop) (hL : L.length ≤ 1000) (hr : ∀ i w, S i w → RdC w q (cs .u64 L)) (ha : ∀ i w (hi : i < L.length), S i w → Rets Try.prog 59 #[.pointer (some ⟨g, 0, none⟩), .int .u64 L[i]] w fun v w' => v = .tuple #[] ∧ S (i + 1) w') (h : S 0 w) : Rets Try.prog 65 #[.pointer (some ⟨g, 0, none⟩), .slice q L.length c] w fun v w' => v = .tuple #[] ∧ S L.length w' := by
  refine exact_Exact_Push_go _ _ _ _ ⟨fun k vs w => ∃ i : Nat, vs = [.int .i64 (i : Int)] ∧ k + i = L.length ∧ S i w, ⟨L.length, 0, rfl, rfl, h⟩, ?_⟩
  clear h
  rintro k w v1 n1
  intros
  rename_i hI
  obtain ⟨i, hvs, hk, h⟩ := hI
  obtain rfl : n1 = (i : Int) := by simpa using hvs
  refine ⟨fun hc => ?_, fun hc => ?_⟩
  · have hc := dec_t hc
    have hi : i < L.length := by omega
    refine ⟨by omega, by omega, (hr i w h).int hi fun a ha2 => ⟨_, by rw [Int.toNat_natCast]; exact ha2, ?_⟩⟩
    refine Rets.mono (ha i w hi h) ?_
    rintro _ w ⟨rfl, h⟩
    exact ⟨rfl, k - 1, by omega, i + 1, by rw [wI64 (by omega) (by omega)]; rfl, by omega, h⟩
  · have hc := dec_f hc
    obtain rfl : i = L.length := by omega
    exact ⟨rfl, h⟩
theorem xnClear (h : Own e w F) : Rets Try.prog 64 #[.pointer none] w fun v w' => v = .tuple #[] ∧ Own e w' F := exact_nil_Clear_go ⟨fun hc => (by cases hc), fun _ => ⟨rfl, h⟩⟩
theorem xnEst (h : Own e w F) : Rets Try.prog 62 #[.pointer none, .int .u64 x] w fun v w' => v = .int .i64 0 ∧ Own e w' F := exact_nil_Estimate_go _ ⟨fun _ => ⟨rfl, h⟩, fun hc => (by cases hc)⟩
theorem xnCount (h : Own e w F) : Rets Try.prog 60 #[.pointer none] w fun v w' => v = .int .i64 0 ∧ Own e w' F := exact_nil_Count_go ⟨fun _ => ⟨rfl, h⟩, fun hc => (by cases hc)⟩
theorem xnLen (h : Own e w F) : Rets Try.prog 63 #[.pointer none] w fun v w' => v = .int .i64 0 ∧ Own e w' F := exact_nil_Len_go ⟨fun _ => ⟨rfl, h⟩, fun hc => (by cases hc)⟩
theorem xnPush {L : List Int} {q : Option Addr} {c : Nat} (hL : L.length ≤ 1000) (hr : ∀ w, Own e w F → RdC w q (cs .u64 L)) (h : Own e w F) : Rets Try.prog 65 #[.pointer none, .slice q L.length c] w fun v w' => v = .tuple #[] ∧ Own e w' F := by
  refine exact_nil_Push_go _ _ _ ⟨fun k vs w => ∃ i : Nat, vs = [.int .i64 (i : Int)] ∧ k + i = L.length ∧ Own e w F, ⟨L.length, 0, rfl, rfl, h⟩, ?_⟩
  clear h
  rintro k w v1 n1
  intros
  rename_i hI
  obtain ⟨i, hvs, hk, h⟩ := hI
  obtain rfl : n1 = (i : Int) := by simpa using hvs
  refine ⟨fun hc => ?_, fun hc => ?_⟩
  · have hc := dec_t hc
    have hi : i < L.length := by omega
    refine ⟨by omega, by omega, (hr w h).int hi fun a ha2 => ⟨_, by rw [Int.toNat_natCast]; exact ha2, ?_⟩⟩
    refine Rets.mono (xnAdd h) ?_
    rintro _ w ⟨rfl, h⟩
    exact ⟨rfl, k - 1, by omega, i + 1, by rw [wI64 (by omega) (by omega)]; rfl, by omega, h⟩
  · exact ⟨rfl, h⟩
end
end Go.Proofs.Ytkcaeknkfgpnhaa.Eng
