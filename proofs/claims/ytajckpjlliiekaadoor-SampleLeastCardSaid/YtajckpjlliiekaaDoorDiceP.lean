/- Dice: what each function does. -/
import Derived.Test.YtajckpjlliiekaaDoorDiceW
import Derived.Test.YtajckpjlliiekaaDoorDiceG
import Derived.Test.YtajckpjlliiekaaDoorIntP
namespace Go.Proofs.YtajckpjlliiekaaDoor.Eng
open Go Go.RowKit Go.Proofs
set_option linter.unusedVariables false
set_option linter.unusedSimpArgs false
set_option maxRecDepth 1000000
/-- The table that is laid. -/
def mixC : List Value := [.int .i64 30, .int .u64 13787848793156543929, .int .i64 27, .int .u64 10723151780598845931, .int .i64 31, .int .u64 1]
def MixLaid (W : World) : Prop := (∃ t fr, W.heap[0]? = some (.cells #[.int .i64 30, .int .u64 13787848793156543929, .int .i64 27, .int .u64 10723151780598845931, .int .i64 31, .int .u64 1] t fr)) ∧ (False → True)
abbrev mixQ : Option Addr := some ⟨0, 0, none⟩
theorem MixLaid.rd {W : World} (h : MixLaid W) : RdC W mixQ mixC := by
  obtain ⟨⟨t, fr, h⟩, _⟩ := h
  refine .inr ⟨_, rfl, fun j u hj => ?_⟩
  have hj2 := (List.getElem?_eq_some_iff.1 hj).1
  simp only [mixC, List.length_cons, List.length_nil] at hj2
  have : j = 0 ∨ j = 1 ∨ j = 2 ∨ j = 3 ∨ j = 4 ∨ j = 5 := by omega
  rcases this with rfl | rfl | rfl | rfl | rfl | rfl
  all_goals (simp only [mixC, List.getElem?_cons_zero, List.getElem?_cons_succ, Option.some.injEq] at hj; subst hj; simp [World.cell?, Addr.add, h])
section
variable {e w : World} {F : List HP} {x k : Int}
theorem mxFold (hk : 1 ≤ k ∧ k < 64) (h : Own e w F) : Rets Tryd.prog 120 #[.int .u64 x, .int .i64 k] w fun v w' => v = .int .u64 (fI x k) ∧ Own e w' F := by
  refine mix_Fold_go _ _ ⟨fun _ => ⟨fun hc => absurd (dec_t hc) (by omega), fun _ => ?_⟩, fun hc => absurd (dec_t hc) (by omega)⟩
  rw [wU64' (n := k) (by omega) (by omega)]
  exact ⟨by omega, rfl, h⟩
def alX (x f0 t0 f1 t1 f2 t2 : Int) : Nat → Int
  | 0 => x
  | 1 => IntKind.wrap .u64 (fI x f0 * t0)
  | 2 => IntKind.wrap .u64 (fI (IntKind.wrap .u64 (fI x f0 * t0)) f1 * t1)
  | _ => IntKind.wrap .u64 (fI (IntKind.wrap .u64 (fI (IntKind.wrap .u64 (fI x f0 * t0)) f1 * t1)) f2 * t2)
theorem mxAlong {f0 t0 f1 t1 f2 t2 : Int} (h : Own e w F) (h0 : 1 ≤ f0 ∧ f0 < 64) (h1 : 1 ≤ f1 ∧ f1 < 64) (h2 : 1 ≤ f2 ∧ f2 < 64) : Rets Tryd.prog 109 #[.int .u64 x, .agg #[.int .i64 f0, .int .u64 t0, .int .i64 f1, .int .u64 t1, .int .i64 f2, .int .u64 t2]] w fun v w' => v = .int .u64 (alX x f0 t0 f1 t1 f2 t2 3) ∧ Own e w' F := by
  refine mix_along_go _ _ _ _ _ _ _ (h.newR fun g w h => ?_)
  refine ⟨_, _, _, _, _, _, ⟨(Own.ld h (by repeat (first | with_reducible exact Pick.here | apply Pick.there)) (by rfl)), (Own.ld h (by repeat (first | with_reducible exact Pick.here | apply Pick.there)) (by rfl)), (Own.ld h (by repeat (first | with_reducible exact Pick.here | apply Pick.there)) (by rfl)), (Own.ld h (by repeat (first | with_reducible exact Pick.here | apply Pick.there)) (by rfl)), (Own.ld h (by repeat (first | with_reducible exact Pick.here | apply Pick.there)) (by rfl)), (Own.ld h (by repeat (first | with_reducible exact Pick.here | apply Pick.there)) (by rfl))⟩, ?_⟩
  have h := h.drop
  refine ⟨fun m vs w => ∃ i : Nat, vs = [.int .u64 (alX x f0 t0 f1 t1 f2 t2 i), .int .i64 (i : Int)] ∧ m + i = 3 ∧ Own e w F, ⟨3, 0, rfl, rfl, h⟩, ?_⟩
  rintro m w n7 v1 n8
  intros
  rename_i hI
  obtain ⟨i, hvs, hm, h⟩ := hI
  obtain ⟨rfl, rfl⟩ : n7 = alX x f0 t0 f1 t1 f2 t2 i ∧ n8 = (i : Int) := by simpa using hvs
  refine ⟨fun hx => ?_, fun hx => ?_⟩
  · have hx := dec_t hx
    have ei : IntKind.wrap .i64 ((i : Int) + 1) = ((i + 1 : Nat) : Int) := by rw [wI64 (by omega) (by omega)]; rfl
    rw [ei]
    refine ⟨by omega, by omega, ⟨⟨trivial, fun hi => ?_⟩, fun hi => ?_⟩, fun hi => ?_⟩
    · obtain rfl : i = 0 := by exact_mod_cast hi
      refine h.newR fun g2 w h => Own.stP' h (by repeat (first | with_reducible exact Pick.here | apply Pick.there)) (by simp) (by simp [Value.oneCell']) fun w h => ?_
      simp only [setFrom, List.set_cons_zero, List.set_cons_succ, List.set_nil] at h
      refine h.drw fun w h => ⟨fun w => Own _ w _, h, _, fun w h => Own.ld h (by repeat (first | with_reducible exact Pick.here | apply Pick.there)) (by rfl), _, fun w h => Own.ld h (by repeat (first | with_reducible exact Pick.here | apply Pick.there)) (by rfl), ?_⟩
      refine Rets.mono (mxFold h0 h) ?_
      rintro _ w ⟨rfl, h⟩
      exact ⟨_, rfl, h, m - 1, by omega, 1, rfl, by omega, h.drop⟩
    · obtain rfl : i = 1 := by exact_mod_cast hi
      refine h.newR fun g2 w h => Own.stP' h (by repeat (first | with_reducible exact Pick.here | apply Pick.there)) (by simp) (by simp [Value.oneCell']) fun w h => ?_
      simp only [setFrom, List.set_cons_zero, List.set_cons_succ, List.set_nil] at h
      refine h.drw fun w h => ⟨fun w => Own _ w _, h, _, fun w h => Own.ld h (by repeat (first | with_reducible exact Pick.here | apply Pick.there)) (by rfl), _, fun w h => Own.ld h (by repeat (first | with_reducible exact Pick.here | apply Pick.there)) (by rfl), ?_⟩
      refine Rets.mono (mxFold h1 h) ?_
      rintro _ w ⟨rfl, h⟩
      exact ⟨_, rfl, h, m - 1, by omega, 2, rfl, by omega, h.drop⟩
    · obtain rfl : i = 2 := by exact_mod_cast hi
      refine h.newR fun g2 w h => Own.stP' h (by repeat (first | with_reducible exact Pick.here | apply Pick.there)) (by simp) (by simp [Value.oneCell']) fun w h => ?_
      simp only [setFrom, List.set_cons_zero, List.set_cons_succ, List.set_nil] at h
      refine h.drw fun w h => ⟨fun w => Own _ w _, h, _, fun w h => Own.ld h (by repeat (first | with_reducible exact Pick.here | apply Pick.there)) (by rfl), _, fun w h => Own.ld h (by repeat (first | with_reducible exact Pick.here | apply Pick.there)) (by rfl), ?_⟩
      refine Rets.mono (mxFold h2 h) ?_
      rintro _ w ⟨rfl, h⟩
      exact ⟨_, rfl, h, m - 1, by omega, 3, rfl, by omega, h.drop⟩
  · have hx := dec_f hx
    obtain rfl : i = 3 := by omega
    exact ⟨rfl, h⟩
theorem mxMix (h : Own e w F) (hm : ∀ w, Own e w F → RdC w mixQ mixC) : Rets Tryd.prog 91 #[.int .u64 x] w fun v w' => v = .int .u64 (mixI x) ∧ Own e w' F := by
  refine mix_Mix_go _ ?_
  obtain ⟨a, ha, hc⟩ := (hm w h).addr (j := 0) rfl
  obtain rfl : (⟨0, 0, none⟩ : Addr) = a := by injection ha
  refine ⟨_, _, _, _, _, _, ⟨hc 0 _ rfl, hc 1 _ rfl, hc 2 _ rfl, hc 3 _ rfl, hc 4 _ rfl, hc 5 _ rfl⟩, ?_⟩
  refine Rets.mono (mxAlong h (by omega) (by omega) (by omega)) ?_
  rintro _ w ⟨rfl, h⟩
  refine ⟨_, rfl, ?_, h⟩
  show Value.int .u64 (IntKind.wrap .u64 (fI _ 31 * 1)) = _
  rw [(fI_M64 _ _).one]; rfl
theorem rfFold {K : Nat} (hx : M64 x) (hk : 1 ≤ K ∧ K < 64) (h : Own e w F) : Rets Tryd.prog 119 #[.int .u64 x, .int .i64 (K : Int)] w fun v w' => v = .int .u64 (fI x K) ∧ Own e w' F := by
  obtain ⟨X, rfl⟩ := Int.eq_ofNat_of_zero_le hx.1
  have hX := hx.2
  refine cortadoref03_Fold_go _ _ ⟨fun _ => ⟨fun hc => absurd (dec_t hc) (by omega), fun _ => ?_⟩, fun hc => absurd (dec_t hc) (by omega)⟩
  refine ⟨fun m vs w => ∃ i : Nat, vs = [.int .u64 ((X / 2 ^ i : Nat) : Int), .int .i64 (i : Int)] ∧ m + i = K ∧ Own e w F, ⟨K, 0, by simp, rfl, h⟩, ?_⟩
  rintro m w n1 n2
  intros
  rename_i hI
  obtain ⟨i, hvs, hm, h⟩ := hI
  obtain ⟨rfl, rfl⟩ : n1 = ((X / 2 ^ i : Nat) : Int) ∧ n2 = (i : Int) := by simpa using hvs
  refine ⟨fun hc => ?_, fun hc => ?_⟩
  · have hc := dec_t hc
    refine ⟨by omega, m - 1, by omega, i + 1, ?_, by omega, h⟩
    have hle : X / 2 ^ i ≤ X := Nat.div_le_self _ _
    have e1 : Int.tdiv ((X / 2 ^ i : Nat) : Int) 2 = ((X / 2 ^ i / 2 : Nat) : Int) := rfl
    have e2 : X / 2 ^ i / 2 = X / 2 ^ (i + 1) := Nat.div_div_eq_div_mul _ _ _
    rw [e1, e2]
    have hle2 : X / 2 ^ (i + 1) ≤ X := Nat.div_le_self _ _
    generalize X / 2 ^ (i + 1) = Y at hle2 ⊢
    rw [wU64' (by omega) (by omega), wI64 (by omega) (by omega)]; rfl
  · have hc := dec_f hc
    obtain rfl : i = K := by omega
    refine ⟨?_, h⟩
    unfold fI
    rw [shr_nat X i (by omega)]
theorem rfMix (hx : M64 x) (h : Own e w F) : Rets Tryd.prog 107 #[.int .u64 x] w fun v w' => v = .int .u64 (mixI x) ∧ Own e w' F := by
  refine cortadoref03_Mix_go _ ?_
  refine Rets.mono (rfFold (K := 30) hx (by omega) h) ?_
  rintro _ w ⟨rfl, h⟩
  refine ⟨_, rfl, ?_⟩
  refine Rets.mono (rfFold (K := 27) (M64.w _) (by omega) h) ?_
  rintro _ w ⟨rfl, h⟩
  refine ⟨_, rfl, ?_⟩
  refine Rets.mono (rfFold (K := 31) (M64.w _) (by omega) h) ?_
  rintro _ w ⟨rfl, h⟩
  exact ⟨_, rfl, rfl, h⟩
end
/-! ### Dice -/
def dicO (g : Nat) (L : List Int) (s : Int) (u : Nat) : HP :=
  exH fun q => exH fun q0 => exH fun c0 => puH (q = slcA q0 0 L.length 1) (allH [blk g 88 [.slice q L.length L.length, .int .u64 s, .int .i64 (u : Int)], inB q0 L.length c0 L])
section
variable {e w : World} {F : List HP} {g u : Nat} {L : List Int} {s : Int} {q : Option Addr} {c : Nat}
theorem dicO.op (h : Own e w (dicO g L s u :: F)) : ∃ q q0 c0, q = slcA q0 0 L.length 1 ∧ Own e w (blk g 88 [.slice q L.length L.length, .int .u64 s, .int .i64 (u : Int)] :: inB q0 L.length c0 L :: F) := by
  obtain ⟨q, h⟩ := h.ex
  obtain ⟨q0, h⟩ := h.ex
  obtain ⟨c0, h⟩ := h.ex
  obtain ⟨hq, h⟩ := h.pu
  exact ⟨q, q0, c0, hq, h.open_⟩
theorem dicO.cl {q q0 : Option Addr} {c0 : Nat} (hq : q = slcA q0 0 L.length 1) (h : Own e w (blk g 88 [.slice q L.length L.length, .int .u64 s, .int .i64 (u : Int)] :: inB q0 L.length c0 L :: F)) : Own e w (dicO g L s u :: F) := by
  have h : Own e w ([blk g 88 [.slice q L.length L.length, .int .u64 s, .int .i64 (u : Int)], inB q0 L.length c0 L] ++ F) := h
  exact Own.mkEx q (Own.mkEx q0 (Own.mkEx c0 (Own.mkPu hq h.close_)))
theorem slc0 {q0 : Option Addr} (h : RdC w q0 (cs .i64 L)) : RdC w (slcA q0 0 L.length 1) (cs .i64 L) := by
  rcases h.slice (l := 0) (m := L.length) (z := 1) (by omega) with h1 | h1
  · rw [Nat.zero_mul, List.drop_zero] at h1; exact h1
  · left
    have : L = [] := List.eq_nil_of_length_eq_zero (by omega)
    rw [this]; rfl
theorem dcNew (h : Own e w F) (hr : ∀ w, Own e w F → RdC w q (cs .i64 L)) (hn : L.length * 8 ≤ 140737488351232) : Rets Tryd.prog 11 #[.slice q L.length c, .int .u64 s] w fun v w' => ∃ g, v = .pointer (some ⟨g, 0, none⟩) ∧ Own e w' (dicO g L s 0 :: F) := by
  refine dice_New_go _ _ _ _ (h.newR fun g w h => ?_)
  refine app64 (empty64 h) (hr _ h.drop) rfl (by omega) fun q' c' w' h => ?_
  rw [List.nil_append] at h
  simp only [Nat.zero_add] at h ⊢
  have hf := h.slFacts
  refine ⟨_, _, _, rfl, by omega, by omega, by omega, by omega, h.newR fun g w h => ⟨g, rfl, ?_⟩⟩
  rw [Int.toNat_natCast, Nat.sub_zero] at h
  exact dicO.cl rfl h
theorem dcUsed (h : Own e w (dicO g L s u :: F)) : Rets Tryd.prog 16 #[.pointer (some ⟨g, 0, none⟩)] w fun v w' => v = .int .i64 (u : Int) ∧ Own e w' (dicO g L s u :: F) := by
  refine dice_Dice_Used_go _ ⟨fun hc => (by cases hc), fun _ => ?_⟩
  obtain ⟨q, q0, c0, hq, h⟩ := dicO.op h
  exact ⟨_, (Own.ld h (by repeat (first | with_reducible exact Pick.here | apply Pick.there)) (by rfl)), rfl, dicO.cl hq h⟩
theorem drawI_low {L : List Int} {s : Int} {k : Nat} (h : k < L.length) : drawI L s k = IntKind.wrap .u64 L[k] := by
  unfold drawI
  rw [if_pos h, List.getD_eq_getElem?_getD, List.getElem?_eq_getElem h]; rfl
theorem dcAt {k : Nat} (h : Own e w (dicO g L s u :: F)) (hm : ∀ w, Own e w F → RdC w mixQ mixC) (hn : L.length * 8 ≤ 140737488351232) (hk : k ≤ 10000000) : Rets Tryd.prog 87 #[.pointer (some ⟨g, 0, none⟩), .int .i64 (k : Int)] w fun v w' => v = .int .u64 (drawI L s k) ∧ Own e w' (dicO g L s u :: F) := by
  refine dice_Dice_at_go _ _ ?_
  obtain ⟨q, q0, c0, hq, h⟩ := dicO.op h
  refine ⟨_, _, _, (Own.ld h (by repeat (first | with_reducible exact Pick.here | apply Pick.there)) (by rfl)), fun hx => ?_, fun hx => ?_⟩
  · have hx := dec_t hx
    have hk2 : k < L.length := by omega
    refine ⟨_, _, _, (Own.ld h (by repeat (first | with_reducible exact Pick.here | apply Pick.there)) (by rfl)), ?_⟩
    have hr : RdC w q (cs .i64 L) := by rw [hq]; exact slc0 (Own.rdP (T := 3) h (by repeat (first | with_reducible exact Pick.here | apply Pick.there)))
    refine ⟨by omega, by omega, RdC.int hr hk2 fun a ha => ⟨_, by rw [Int.toNat_natCast]; exact ha, ?_, dicO.cl hq h⟩⟩
    rw [drawI_low hk2]
  · have hx := dec_f hx
    refine h.drw fun w h => ⟨_, (Own.ld h (by repeat (first | with_reducible exact Pick.here | apply Pick.there)) (by rfl)), _, _, _, (Own.ld h (by repeat (first | with_reducible exact Pick.here | apply Pick.there)) (by rfl)), ?_⟩
    refine Rets.mono (mxMix h (fun w h => hm w h.drop.drop)) ?_
    rintro _ w ⟨rfl, h⟩
    refine ⟨_, rfl, ?_, dicO.cl hq h⟩
    unfold drawI
    rw [if_neg (by omega), wI64 (n := (k : Int) - L.length) (by omega) (by omega), wI64 (by omega) (by omega), wU64' (n := (k : Int) - L.length + 1) (by omega) (by omega), wU64, wU64]
    congr 2
    omega
theorem dcNext (h : Own e w (dicO g L s u :: F)) (hm : ∀ w, Own e w F → RdC w mixQ mixC) (hn : L.length * 8 ≤ 140737488351232) (hu : u ≤ 10000) : Rets Tryd.prog 68 #[.pointer (some ⟨g, 0, none⟩)] w fun v w' => v = .int .u64 (drawI L s u) ∧ Own e w' (dicO g L s (u + 1) :: F) := by
  refine dice_Dice_Next_go _ ⟨fun hc => (by cases hc), fun _ => ?_⟩
  obtain ⟨q, q0, c0, hq, h⟩ := dicO.op h
  refine ⟨_, (Own.ld h (by repeat (first | with_reducible exact Pick.here | apply Pick.there)) (by rfl)), ?_⟩
  refine Rets.mono (dcAt (dicO.cl hq h) hm hn (by omega)) ?_
  rintro _ w ⟨rfl, h⟩
  obtain ⟨q, q0, c0, hq, h⟩ := dicO.op h
  refine ⟨_, rfl, _, (Own.ld h (by repeat (first | with_reducible exact Pick.here | apply Pick.there)) (by rfl)), Own.stP h (by repeat (first | with_reducible exact Pick.here | apply Pick.there)) (by simp) (by simp [Value.oneCell']) fun w h => ⟨rfl, ?_⟩⟩
  simp only [setFrom, List.set_cons_zero, List.set_cons_succ, List.set_nil] at h
  rw [wI64 (by omega) (by omega)] at h
  exact dicO.cl hq h
theorem dcBelow {n : Int} (h : Own e w (dicO g L s u :: F)) (hm : ∀ w, Own e w F → RdC w mixQ mixC) (hn : L.length * 8 ≤ 140737488351232) (hu : u ≤ 10000) (hb : n ≤ 9223372036854775807) : Rets Tryd.prog 45 #[.pointer (some ⟨g, 0, none⟩), .int .i64 n] w fun v w' => v = .int .i64 (belI (drawI L s u) n) ∧ Own e w' (dicO g L s (if n < 1 then u else u + 1) :: F) := by
  refine dice_Dice_Below_go _ _ ⟨fun hx => ?_, fun hx => ?_⟩
  · have hx := dec_t hx
    rw [if_pos hx]
    unfold belI; rw [if_pos hx]; exact ⟨rfl, h⟩
  · have hx := dec_f hx
    rw [if_neg hx]
    refine Rets.mono (dcNext h hm hn hu) ?_
    rintro _ w ⟨rfl, h⟩
    refine ⟨_, rfl, by rw [wU64' (by omega) (by omega)]; omega, ?_, h⟩
    rw [belI_wrap (drawI_M64 _ _ _).1 (by omega) hb]
end
end Go.Proofs.YtajckpjlliiekaaDoor.Eng
