/- Mixes: what each function does. -/
import Derived.Test.YtjdbeopgmpbikaaDoorFoldP
import Derived.Test.YtjdbeopgmpbikaaDoorMixG
namespace Go.Proofs.YtjdbeopgmpbikaaDoor.Eng
open Go Go.RowKit Go.Proofs
set_option linter.unusedVariables false
set_option linter.unusedSimpArgs false
set_option maxRecDepth 1000000
/-- The table that is laid. -/
def mixC : List Value := [.int .i64 30, .int .u64 13787848793156543929, .int .i64 27, .int .u64 10723151780598845931, .int .i64 31, .int .u64 1]
def twiC : List Value := [.int .i64 33, .int .u64 18397679294719823053, .int .i64 33, .int .u64 14181476777654086739, .int .i64 33, .int .u64 1]
/-- Both tables are laid. -/
def MixLaid (W : World) : Prop := (∃ t fr, W.heap[0]? = some (.cells #[.int .i64 30, .int .u64 13787848793156543929, .int .i64 27, .int .u64 10723151780598845931, .int .i64 31, .int .u64 1] t fr)) ∧ (True → ∃ t fr, W.heap[1]? = some (.cells #[.int .i64 33, .int .u64 18397679294719823053, .int .i64 33, .int .u64 14181476777654086739, .int .i64 33, .int .u64 1] t fr))
abbrev mixQ : Option Addr := some ⟨0, 0, none⟩
abbrev twiQ : Option Addr := some ⟨1, 0, none⟩
theorem rd_laid {W : World} {g : Nat} {T : TypeId} {fr : Nat × Nat} {l : List Value} (h : W.heap[g]? = some (.cells l.toArray T fr)) : RdC W (some ⟨g, 0, none⟩) l := by
  refine .inr ⟨_, rfl, fun j u hj => ?_⟩
  have e0 : (⟨g, 0, none⟩ : Addr).add j = ⟨g, j, none⟩ := add0 g j
  rw [e0]
  simpa [World.cell?, h] using hj
theorem MixLaid.rd {W : World} (h : MixLaid W) : RdC W mixQ mixC := by
  obtain ⟨⟨t, fr, h⟩, _⟩ := h
  exact rd_laid (l := mixC) h
theorem MixLaid.rd2 {W : World} (h : MixLaid W) : RdC W twiQ twiC := by
  obtain ⟨_, h⟩ := h
  obtain ⟨t, fr, h⟩ := h trivial
  exact rd_laid (l := twiC) h
section
variable {e w : World} {F : List HP} {x k : Int}
def alX (x f0 t0 f1 t1 f2 t2 : Int) : Nat → Int
  | 0 => x
  | 1 => IntKind.wrap .u64 (fI x f0 * t0)
  | 2 => IntKind.wrap .u64 (fI (IntKind.wrap .u64 (fI x f0 * t0)) f1 * t1)
  | _ => IntKind.wrap .u64 (fI (IntKind.wrap .u64 (fI (IntKind.wrap .u64 (fI x f0 * t0)) f1 * t1)) f2 * t2)
theorem mxAlong {f0 t0 f1 t1 f2 t2 : Int} (h : Own e w F) (h0 : 1 ≤ f0 ∧ f0 < 64) (h1 : 1 ≤ f1 ∧ f1 < 64) (h2 : 1 ≤ f2 ∧ f2 < 64) : Rets Tryd.prog 60 #[.int .u64 x, .agg #[.int .i64 f0, .int .u64 t0, .int .i64 f1, .int .u64 t1, .int .i64 f2, .int .u64 t2]] w fun v w' => v = .int .u64 (alX x f0 t0 f1 t1 f2 t2 3) ∧ Own e w' F := by
  refine mix_along_go _ _ _ _ _ _ _ (h.newR fun g w h => ?_)
  refine ⟨_, _, _, _, _, _, ⟨(Own.ld h (by repeat (first | with_reducible exact Pick.here | apply Pick.there)) (by rfl)), (Own.ld h (by repeat (first | with_reducible exact Pick.here | apply Pick.there)) (by rfl)), (Own.ld h (by repeat (first | with_reducible exact Pick.here | apply Pick.there)) (by rfl)), (Own.ld h (by repeat (first | with_reducible exact Pick.here | apply Pick.there)) (by rfl)), (Own.ld h (by repeat (first | with_reducible exact Pick.here | apply Pick.there)) (by rfl)), (Own.ld h (by repeat (first | with_reducible exact Pick.here | apply Pick.there)) (by rfl))⟩, ?_⟩
  have h := h.drop
  refine ⟨fun m vs w => ∃ i : Nat, vs = [.int .u64 (alX x f0 t0 f1 t1 f2 t2 i), .int .i64 (i : Int)] ∧ m + i = 3 ∧ Own e w F, ⟨3, 0, rfl, rfl, h⟩, ?_⟩
  rintro m w n7 v1 n8
  intros
  rename_i hI
  obtain ⟨i, hvs, hm, h⟩ := hI
  obtain ⟨rfl, rfl⟩ : n7 = alX x f0 t0 f1 t1 f2 t2 i ∧ n8 = (i : Int) := by simpa using hvs
  refine ⟨fun hx => ?_, fun hx => ?_⟩
  · have hx := dec_t hx
    have ei : IntKind.wrap .i64 ((i : Int) + 1) = ((i + 1 : Nat) : Int) := by rw [wI64 (by omega) (by omega)]; rfl
    rw [ei]
    refine ⟨by omega, by omega, ⟨⟨trivial, fun hi => ?_⟩, fun hi => ?_⟩, fun hi => ?_⟩
    · obtain rfl : i = 0 := by exact_mod_cast hi
      refine h.newR fun g2 w h => Own.stP' h (by repeat (first | with_reducible exact Pick.here | apply Pick.there)) (by simp) (by simp [Value.oneCell']) fun w h => ?_
      simp only [setFrom, List.set_cons_zero, List.set_cons_succ, List.set_nil] at h
      refine h.drw fun w h => ⟨fun w => Own _ w _, h, _, fun w h => Own.ld h (by repeat (first | with_reducible exact Pick.here | apply Pick.there)) (by rfl), _, fun w h => Own.ld h (by repeat (first | with_reducible exact Pick.here | apply Pick.there)) (by rfl), ?_⟩
      refine Rets.mono (mxFold h0 h) ?_
      rintro _ w ⟨rfl, h⟩
      exact ⟨_, rfl, h, m - 1, by omega, 1, rfl, by omega, h.drop⟩
    · obtain rfl : i = 1 := by exact_mod_cast hi
      refine h.newR fun g2 w h => Own.stP' h (by repeat (first | with_reducible exact Pick.here | apply Pick.there)) (by simp) (by simp [Value.oneCell']) fun w h => ?_
      simp only [setFrom, List.set_cons_zero, List.set_cons_succ, List.set_nil] at h
      refine h.drw fun w h => ⟨fun w => Own _ w _, h, _, fun w h => Own.ld h (by repeat (first | with_reducible exact Pick.here | apply Pick.there)) (by rfl), _, fun w h => Own.ld h (by repeat (first | with_reducible exact Pick.here | apply Pick.there)) (by rfl), ?_⟩
      refine Rets.mono (mxFold h1 h) ?_
      rintro _ w ⟨rfl, h⟩
      exact ⟨_, rfl, h, m - 1, by omega, 2, rfl, by omega, h.drop⟩
    · obtain rfl : i = 2 := by exact_mod_cast hi
      refine h.newR fun g2 w h => Own.stP' h (by repeat (first | with_reducible exact Pick.here | apply Pick.there)) (by simp) (by simp [Value.oneCell']) fun w h => ?_
      simp only [setFrom, List.set_cons_zero, List.set_cons_succ, List.set_nil] at h
      refine h.drw fun w h => ⟨fun w => Own _ w _, h, _, fun w h => Own.ld h (by repeat (first | with_reducible exact Pick.here | apply Pick.there)) (by rfl), _, fun w h => Own.ld h (by repeat (first | with_reducible exact Pick.here | apply Pick.there)) (by rfl), ?_⟩
      refine Rets.mono (mxFold h2 h) ?_
      rintro _ w ⟨rfl, h⟩
      exact ⟨_, rfl, h, m - 1, by omega, 3, rfl, by omega, h.drop⟩
  · have hx := dec_f hx
    obtain rfl : i = 3 := by omega
    exact ⟨rfl, h⟩
theorem mxMix (h : Own e w F) (hm : ∀ w, Own e w F → RdC w mixQ mixC) : Rets Tryd.prog 40 #[.int .u64 x] w fun v w' => v = .int .u64 (mixI x) ∧ Own e w' F := by
  refine mix_Mix_go _ ?_
  obtain ⟨a, ha, hc⟩ := (hm w h).addr (j := 0) rfl
  obtain rfl : (⟨0, 0, none⟩ : Addr) = a := by injection ha
  refine ⟨_, _, _, _, _, _, ⟨hc 0 _ rfl, hc 1 _ rfl, hc 2 _ rfl, hc 3 _ rfl, hc 4 _ rfl, hc 5 _ rfl⟩, ?_⟩
  refine Rets.mono (mxAlong h (by omega) (by omega) (by omega)) ?_
  rintro _ w ⟨rfl, h⟩
  refine ⟨_, rfl, ?_, h⟩
  show Value.int .u64 (IntKind.wrap .u64 (fI _ 31 * 1)) = _
  rw [(fI_M64 _ _).one]; rfl
theorem mxTwist (h : Own e w F) (hm : ∀ w, Own e w F → RdC w twiQ twiC) : Rets Tryd.prog 62 #[.int .u64 x] w fun v w' => v = .int .u64 (twiI x) ∧ Own e w' F := by
  refine mix_Twist_go _ ?_
  obtain ⟨a, ha, hc⟩ := (hm w h).addr (j := 0) rfl
  obtain rfl : (⟨1, 0, none⟩ : Addr) = a := by injection ha
  refine ⟨_, _, _, _, _, _, ⟨hc 0 _ rfl, hc 1 _ rfl, hc 2 _ rfl, hc 3 _ rfl, hc 4 _ rfl, hc 5 _ rfl⟩, ?_⟩
  refine Rets.mono (mxAlong h (by omega) (by omega) (by omega)) ?_
  rintro _ w ⟨rfl, h⟩
  refine ⟨_, rfl, ?_, h⟩
  show Value.int .u64 (IntKind.wrap .u64 (fI _ 33 * 1)) = _
  rw [(fI_M64 _ _).one]; rfl
theorem rfMix (hx : M64 x) (h : Own e w F) : Rets Tryd.prog 71 #[.int .u64 x] w fun v w' => v = .int .u64 (mixI x) ∧ Own e w' F := by
  refine cortadoref03_Mix_go _ ?_
  refine Rets.mono (rfFold (K := 30) hx (by omega) h) ?_
  rintro _ w ⟨rfl, h⟩
  refine ⟨_, rfl, ?_⟩
  refine Rets.mono (rfFold (K := 27) (M64.w _) (by omega) h) ?_
  rintro _ w ⟨rfl, h⟩
  refine ⟨_, rfl, ?_⟩
  refine Rets.mono (rfFold (K := 31) (M64.w _) (by omega) h) ?_
  rintro _ w ⟨rfl, h⟩
  exact ⟨_, rfl, rfl, h⟩
theorem rfTwist (hx : M64 x) (h : Own e w F) : Rets Tryd.prog 72 #[.int .u64 x] w fun v w' => v = .int .u64 (twiI x) ∧ Own e w' F := by
  refine cortadoref03_Twist_go _ ?_
  refine Rets.mono (rfFold (K := 33) hx (by omega) h) ?_
  rintro _ w ⟨rfl, h⟩
  refine ⟨_, rfl, ?_⟩
  refine Rets.mono (rfFold (K := 33) (M64.w _) (by omega) h) ?_
  rintro _ w ⟨rfl, h⟩
  refine ⟨_, rfl, ?_⟩
  refine Rets.mono (rfFold (K := 33) (M64.w _) (by omega) h) ?_
  rintro _ w ⟨rfl, h⟩
  exact ⟨_, rfl, rfl, h⟩
end
end Go.Proofs.YtjdbeopgmpbikaaDoor.Eng
