/- SampleLeast: what each function does. -/
import Derived.Test.YtajckpjlliiekaaDoorSamR
import Derived.Test.YtajckpjlliiekaaDoorSmlW
import Derived.Test.YtajckpjlliiekaaDoorSmlG
namespace Go.Proofs.YtajckpjlliiekaaDoor.Eng
open Go Go.RowKit Go.Proofs
set_option linter.unusedVariables false
set_option linter.unusedSimpArgs false
set_option maxRecDepth 1000000
theorem slcA0s (q : Option Addr) (c z : Nat) : slcA q 0 c z = q := by
  unfold slcA
  split
  · rfl
  · cases q with
    | none => rfl
    | some a =>
      show some (a.add (0 * z)) = some a
      rw [Nat.zero_mul]; rfl
def hAt (H : List Int) (x : Int) : Int := H.getD (Int.tmod x (H.length : Int)).toNat 0
abbrev lstV (l : List Int) : Value := .tuple #[.int .i64 (amin l l.length : Nat), .int .i64 (l.getD (amin l l.length) 0), .bool (decide (0 < l.length))]
def woZ (l : List Int) (i : Int) : List Int := if i < 0 ∨ (l.length : Int) ≤ i then l else woL l i.toNat
section
variable {e w : World} {F : List HP} {h0 : Nat → Option Obj} {q q2 : Option Addr} {c c2 b : Nat} {ins H : List Int} {i x : Int}
theorem uHits (hb : h0 b = some (.cells #[.slice q2 H.length c2] 24 (0, 0))) (hH : 1 ≤ H.length ∧ H.length ≤ 1000000000000000) (hx : 0 ≤ x ∧ x < 18446744073709551616) (hr : ∀ w F, Own e w (imm h0 :: F) → RdC w q2 (cs .i64 H)) (h : Own e w (imm h0 :: F)) :
    Rets Tryd.prog 18 #[.int .u64 x, .pointer (some ⟨b, 0, none⟩)] w fun v w' => v = .int .i64 (hAt H x) ∧ Own e w' (imm h0 :: F) := by
  have e1 : IntKind.wrap .u64 (H.length : Int) = (H.length : Int) := by rw [wU64]; omega
  have h1 := Int.emod_nonneg x (show (H.length : Int) ≠ 0 by omega)
  have h2 := Int.emod_lt_of_pos x (show 0 < (H.length : Int) by omega)
  have e2 : Int.tmod x (H.length : Int) = x % (H.length : Int) := Int.tmod_eq_emod_of_nonneg hx.1
  have e3 : IntKind.wrap .i64 (Int.tmod x (H.length : Int)) = Int.tmod x (H.length : Int) := by rw [e2]; exact wI64 (by omega) (by omega)
  have rdb : ∀ {w F}, Own e w (imm h0 :: F) → cellAt w ⟨b, 0, none⟩ (.slice q2 H.length c2) := fun h => by
    have := h.immCell (vs := [.slice q2 H.length c2]) hb (i := 0) rfl
    rwa [add0] at this
  refine hitsAt_go _ _ (h.drw fun w h => ⟨_, _, _, rdb h, _, _, _, rdb h, ?_⟩)
  · rw [e1, e3]
    have hi : (Int.tmod x (H.length : Int)).toNat < H.length := by rw [e2]; omega
    refine ⟨by omega, by rw [e2]; omega, by rw [e2]; omega, (hr _ _ h).int hi fun a ha => ⟨_, ha, ?_, h⟩⟩
    unfold hAt
    rw [List.getD_eq_getElem?_getD, List.getElem?_eq_getElem hi]; rfl
theorem uLeast (hb : h0 b = some (.cells #[.slice q2 H.length c2] 24 (0, 0))) (hH : 1 ≤ H.length ∧ H.length ≤ 1000000000000000) (hx : ∀ x ∈ ins, 0 ≤ x ∧ x < 18446744073709551616) (hn : ins.length ≤ 1000) (hr : ∀ w F, Own e w (imm h0 :: F) → RdC w q2 (cs .i64 H)) (hri : ∀ w F, Own e w (imm h0 :: F) → RdC w q (cs .u64 ins)) (h : Own e w (imm h0 :: F)) :
    Rets Tryd.prog 17 #[.slice q ins.length c, .func (.func 18) #[] #[.pointer (some ⟨b, 0, none⟩)]] w fun v w' => v = lstV (ins.map (hAt H)) ∧ Own e w' (imm h0 :: F) := by
  obtain ⟨l, hl⟩ : ∃ l, l = ins.map (hAt H) := ⟨_, rfl⟩
  have hll : l.length = ins.length := by rw [hl, List.length_map]
  have hld : ∀ {k : Nat} (hk : k < ins.length), l.getD k 0 = hAt H ins[k] := fun hk => by rw [hl, List.getD_eq_getElem?_getD, List.getElem?_map, List.getElem?_eq_getElem hk]; rfl
  rw [← hl]
  refine sample_Least_go _ _ _ _ ⟨fun _ => ⟨fun hz => ?_, fun hz => ?_⟩, fun hc => (by cases hc)⟩
  · have hz : ins.length = 0 := by simpa using hz
    have : l = [] := List.eq_nil_of_length_eq_zero (by omega)
    rw [this]; exact ⟨rfl, h⟩
  · have hz : ins.length ≠ 0 := by simpa using hz
    have h0i : 0 < ins.length := by omega
    refine ⟨by omega, by omega, (hri _ _ h).int h0i fun a ha => ⟨_, by simpa using ha, ?_⟩⟩
    refine Rets.mono (uHits hb hH (hx _ (List.getElem_mem h0i)) hr h) ?_
    clear h
    rintro _ w ⟨rfl, h⟩
    refine ⟨_, rfl, fun z vs w => ∃ k : Nat, vs = [.int .i64 (amin l k : Nat), .int .i64 (l.getD (amin l k) 0), .int .i64 (k : Int)] ∧ z + k = ins.length ∧ Own e w (imm h0 :: F), ⟨ins.length, 0, by rw [show amin l 0 = 0 from rfl, hld h0i]; rfl, rfl, h⟩, ?_⟩
    clear h
    rintro z w n3 n4 v2 v3 v4 n5
    intros
    rename_i hI
    obtain ⟨k, hvs, hzk, h⟩ := hI
    obtain ⟨rfl, rfl, rfl⟩ : n3 = (amin l k : Int) ∧ n4 = l.getD (amin l k) 0 ∧ n5 = (k : Int) := by simpa using hvs
    refine ⟨fun hc => ?_, fun hc => ?_⟩
    · have hc := dec_t hc
      have hk : k < ins.length := by omega
      refine ⟨by omega, by omega, (hri _ _ h).int hk fun a ha => ⟨_, by rw [Int.toNat_natCast]; exact ha, ?_⟩⟩
      refine Rets.mono (uHits hb hH (hx _ (List.getElem_mem hk)) hr h) ?_
      clear h
      rintro _ w ⟨rfl, h⟩
      rw [← hld hk]
      refine ⟨_, rfl, fun vs w => vs = [.int .i64 (amin l (k + 1) : Nat), .int .i64 (l.getD (amin l (k + 1)) 0)] ∧ Own e w (imm h0 :: F), ⟨fun hq => ⟨?_, h⟩, fun hq => ⟨?_, h⟩⟩, ?_⟩
      · have hq := dec_t hq
        have : amin l (k + 1) = k := by show (if _ then _ else _) = _; rw [if_pos hq]
        rw [this]
      · have hq := dec_f hq
        have : amin l (k + 1) = amin l k := by show (if _ then _ else _) = _; rw [if_neg hq]
        rw [this]
      clear h
      rintro w n8 n9
      intros
      rename_i hI2
      obtain ⟨hvs2, h⟩ := hI2
      obtain ⟨rfl, rfl⟩ : n8 = (amin l (k + 1) : Int) ∧ n9 = l.getD (amin l (k + 1)) 0 := by simpa using hvs2
      exact ⟨z - 1, by omega, k + 1, by rw [wI64 (by omega) (by omega)]; rfl, by omega, h⟩
    · have hc := dec_f hc
      obtain rfl : k = ins.length := by omega
      refine ⟨?_, h⟩
      show _ = Value.tuple #[.int .i64 (amin l l.length : Nat), .int .i64 (l.getD (amin l l.length) 0), .bool (decide (0 < l.length))]
      rw [hll, decide_eq_true h0i]
theorem uLeastNil (h : Own e w F) : Rets Tryd.prog 17 #[.slice q ins.length c, .nilFunc] w fun v w' => v = .tuple #[.int .i64 0, .int .i64 0, .bool false] ∧ Own e w' F := sample_nil_Least_go _ _ _ ⟨fun hc => (by cases hc), fun _ => ⟨rfl, h⟩⟩
theorem rLeast {l : List Int} (hn : l.length ≤ 1000) (hr : ∀ w, Own e w F → RdC w q (cs .i64 l)) (h : Own e w F) : Rets Tryd.prog 19 #[.slice q l.length c] w fun v w' => v = lstV l ∧ Own e w' F := by
  have hld : ∀ {k : Nat} (hk : k < l.length), l.getD k 0 = l[k] := fun hk => by rw [List.getD_eq_getElem?_getD, List.getElem?_eq_getElem hk]; rfl
  refine cortadoref25_Least_go _ _ _ ⟨fun z vs w => ∃ k : Nat, vs = [.int .i64 (amin l k : Nat), .int .i64 (k : Int)] ∧ z + k = l.length ∧ Own e w F, ⟨l.length, 0, rfl, rfl, h⟩, ?_⟩
  clear h
  rintro z w n1 n2
  intros
  rename_i hI
  obtain ⟨k, hvs, hz, h⟩ := hI
  obtain ⟨rfl, rfl⟩ : n1 = (amin l k : Int) ∧ n2 = (k : Int) := by simpa using hvs
  refine ⟨fun hc => ?_, fun hc => ⟨fun h0 => ?_, fun h0 => ?_⟩⟩
  · have hc := dec_t hc
    have hk : k < l.length := by omega
    have ha := amin_lt l (by omega) k (by omega)
    refine h.drw fun w h => ⟨by omega, by omega, (hr _ h).int hk fun a1 ha1 => ⟨by omega, by omega, (hr _ h).int ha fun a2 ha2 => ⟨_, by rw [Int.toNat_natCast]; exact ha1, _, by rw [Int.toNat_natCast]; exact ha2, fun vs w => vs = [.int .i64 (amin l (k + 1) : Nat)] ∧ Own e w F, ⟨fun hq => ⟨?_, h⟩, fun hq => ⟨?_, h⟩⟩, ?_⟩⟩⟩
    · have hq := dec_t hq
      have : amin l (k + 1) = k := by show (if _ then _ else _) = _; rw [if_pos (by rw [hld hk, hld ha]; exact hq)]
      rw [this]
    · have hq := dec_f hq
      have : amin l (k + 1) = amin l k := by show (if _ then _ else _) = _; rw [if_neg (by rw [hld hk, hld ha]; exact hq)]
      rw [this]
    clear h
    rintro w n5
    intros
    rename_i hI2
    obtain ⟨hvs2, h⟩ := hI2
    obtain rfl : n5 = (amin l (k + 1) : Int) := by simpa using hvs2
    exact ⟨z - 1, by omega, k + 1, by rw [wI64 (by omega) (by omega)]; rfl, by omega, h⟩
  · have h0 : l.length = 0 := by simpa using h0
    have : l = [] := List.eq_nil_of_length_eq_zero h0
    subst this
    exact ⟨rfl, h⟩
  · have hc := dec_f hc
    have h0 : l.length ≠ 0 := by simpa using h0
    obtain rfl : k = l.length := by omega
    have ha := amin_lt l (by omega) l.length (Nat.le_refl _)
    refine h.drw fun w h => ⟨by omega, by omega, (hr _ h).int ha fun a1 ha1 => ⟨_, by rw [Int.toNat_natCast]; exact ha1, ?_, h⟩⟩
    show _ = Value.tuple #[.int .i64 (amin l l.length : Nat), .int .i64 (l.getD (amin l l.length) 0), .bool (decide (0 < l.length))]
    rw [← hld ha, show decide (0 < l.length) = true from decide_eq_true (by omega)]
abbrev WO (e : World) (F : List HP) (h0 : Nat → Option Obj) (l : List Int) (v : Value) (w' : World) : Prop := ∃ (h1 : Nat → Option Obj) (q' : Option Addr) (c' : Nat), v = .slice q' l.length c' ∧ LeH h0 h1 ∧ ImR h1 q' (cs .u64 l) ∧ Own e w' (imm h1 :: F)
theorem uWo (hn : ins.length ≤ 900) (hr : ImR h0 q (cs .u64 ins)) (hi : -9223372036854775808 ≤ i ∧ i ≤ 9223372036854775807) (h : Own e w (imm h0 :: F)) : Rets Tryd.prog 20 #[.slice q ins.length c, .int .i64 i] w (WO e F h0 (woZ ins i)) := by
  refine sample_Without_go _ _ _ _ ⟨fun vs w => vs = [.bool (decide (i < 0 ∨ (ins.length : Int) ≤ i))] ∧ Own e w (imm h0 :: F), ⟨fun hq => ⟨?_, h⟩, fun hq => ⟨?_, h⟩⟩, ?_⟩
  · have hq := dec_f hq
    have : decide (i ≥ (ins.length : Int)) = decide (i < 0 ∨ (ins.length : Int) ≤ i) := by rw [decide_eq_decide]; omega
    rw [this]
  · have hq := dec_t hq
    rw [decide_eq_true (by omega)]
  clear h
  rintro w
  intros
  rename_i b1 hI
  obtain ⟨hvs, h⟩ := hI
  obtain rfl : b1 = decide (i < 0 ∨ (ins.length : Int) ≤ i) := by simpa using hvs
  unfold woZ
  refine ⟨fun hq => ?_, fun hq => ?_⟩
  · have hq := of_decide_eq_true hq
    rw [if_pos hq]
    exact ⟨h0, _, _, rfl, LeH.refl _, hr, h⟩
  · have hq := of_decide_eq_false hq
    rw [if_neg hq]
    refine Rets.mono (uClone h (fun w h => hr _ _ _ h) (by omega)) ?_
    clear h
    rintro _ w ⟨q1, c1, rfl, h⟩
    have hf := h.slFacts
    have hl1 : ins.length - 1 < ins.length := by omega
    have hit : i.toNat < ins.length := by omega
    have e1 : IntKind.wrap .i64 ((ins.length : Int) - 1) = ((ins.length - 1 : Nat) : Int) := by rw [wI64 (by omega) (by omega)]; omega
    refine ⟨_, _, _, rfl, ?_⟩
    rw [e1]
    have hlast : ins.getD (ins.length - 1) 0 = ins[ins.length - 1] := by rw [List.getD_eq_getElem?_getD, List.getElem?_eq_getElem hl1]; rfl
    refine ⟨by omega, by omega, h.slRd.int hl1 fun a1 ha1 => ⟨_, by rw [Int.toNat_natCast]; exact ha1, by omega, by omega, ?_⟩⟩
    rw [Nat.mul_one]
    refine h.slStore (i := i.toNat) (us := [.int .u64 ins[ins.length - 1]]) (by simp [cs]; omega) (by simp) (by simp [Value.oneCell']) fun w h => ⟨by omega, by omega, ?_⟩
    have es : setFrom (cs .u64 ins) i.toNat [.int .u64 ins[ins.length - 1]] = cs .u64 (ins.set i.toNat (ins.getD (ins.length - 1) 0)) := by
      rw [hlast]; simp [setFrom, cs, List.map_set]
    rw [es] at h
    obtain ⟨h1, le1, hI, _, h⟩ := h.slImm
    refine ⟨h1, slcA q1 0 c1 1, c1 - 0, ?_, le1, ?_, h⟩
    · rw [woL_len, Int.toNat_natCast, Nat.sub_zero]
    · intro e w F h
      rw [slcA0s]
      have := (hI e w F h).take (ins.length - 1)
      rwa [show (cs .u64 (ins.set i.toNat (ins.getD (ins.length - 1) 0))).take (ins.length - 1) = cs .u64 (woL ins i.toNat) by simp [cs, woL]] at this
theorem rWo (hn : ins.length ≤ 900) (hr : ImR h0 q (cs .u64 ins)) (hi : -9223372036854775808 ≤ i ∧ i ≤ 9223372036854775807) (h : Own e w (imm h0 :: F)) : Rets Tryd.prog 21 #[.slice q ins.length c, .int .i64 i] w (WO e F h0 (woZ ins i)) := by
  refine cortadoref25_Without_go _ _ _ _ ⟨fun vs w => vs = [.bool (decide (i < 0 ∨ (ins.length : Int) ≤ i))] ∧ Own e w (imm h0 :: F), ⟨fun hq => ⟨?_, h⟩, fun hq => ⟨?_, h⟩⟩, ?_⟩
  · have hq := dec_f hq
    have : decide (i ≥ (ins.length : Int)) = decide (i < 0 ∨ (ins.length : Int) ≤ i) := by rw [decide_eq_decide]; omega
    rw [this]
  · have hq := dec_t hq
    rw [decide_eq_true (by omega)]
  clear h
  rintro w
  intros
  rename_i b1 hI
  obtain ⟨hvs, h⟩ := hI
  obtain rfl : b1 = decide (i < 0 ∨ (ins.length : Int) ≤ i) := by simpa using hvs
  unfold woZ
  refine ⟨fun hq => ?_, fun hq => ?_⟩
  · have hq := of_decide_eq_true hq
    rw [if_pos hq]
    exact ⟨h0, _, _, rfl, LeH.refl _, hr, h⟩
  · have hq := of_decide_eq_false hq
    rw [if_neg hq]
    have hit : i.toNat < ins.length := by omega
    have hl1 : ins.length - 1 < ins.length := by omega
    have hlast : ins.getD (ins.length - 1) 0 = ins[ins.length - 1] := by rw [List.getD_eq_getElem?_getD, List.getElem?_eq_getElem hl1]; rfl
    have e1 : IntKind.wrap .i64 ((ins.length : Int) - 1) = ((ins.length - 1 : Nat) : Int) := by rw [wI64 (by omega) (by omega)]; omega
    rw [e1]
    obtain ⟨wl, hwl⟩ : ∃ wl, wl = woL ins i.toNat := ⟨_, rfl⟩
    have hwll : wl.length = ins.length - 1 := by rw [hwl, woL_len]
    have hstep : ∀ {k : Nat}, k < ins.length - 1 → wl.take (k + 1) = wl.take k ++ [if k = i.toNat then ins.getD (ins.length - 1) 0 else ins.getD k 0] := fun hk => by rw [hwl, woL_take hk]
    rw [← hwl]
    clear hwl
    refine ⟨fun z vs w => ∃ (k : Nat) (q' : Option Addr) (c' : Nat), vs = [.slice q' (wl.take k).length c', .int .i64 (k : Int)] ∧ z + k = ins.length - 1 ∧ Own e w (sl64 q' (wl.take k).length c' (wl.take k) :: imm h0 :: F), ⟨ins.length - 1, 0, none, 0, rfl, rfl, h.slNil⟩, ?_⟩
    clear h
    rintro z w q1 k3 k4 n1
    intros
    rename_i hI2
    obtain ⟨k, q', c', hvs2, hz, h⟩ := hI2
    obtain ⟨⟨rfl, rfl, rfl⟩, rfl⟩ : (q1 = q' ∧ k3 = (wl.take k).length ∧ k4 = c') ∧ n1 = (k : Int) := by simpa using hvs2
    have htl : (wl.take k).length ≤ 900 := by rw [List.length_take]; omega
    refine ⟨fun hc => ?_, fun hc => ?_⟩
    · have hc := dec_t hc
      have hk : k < ins.length - 1 := by omega
      have hki : k < ins.length := by omega
      have hst := hstep hk
      have hkd : ins.getD k 0 = ins[k] := by rw [List.getD_eq_getElem?_getD, List.getElem?_eq_getElem hki]; rfl
      refine ⟨fun vs w => ∃ (q' : Option Addr) (c' : Nat), vs = [.slice q' (wl.take (k + 1)).length c'] ∧ Own e w (sl64 q' (wl.take (k + 1)).length c' (wl.take (k + 1)) :: imm h0 :: F), ⟨fun hq2 => ?_, fun hq2 => ?_⟩, ?_⟩
      · have hq2 := beq_t hq2
        rw [if_pos (by omega), hlast] at hst
        refine ⟨by omega, by omega, (hr _ _ _ h.drop).int hl1 fun a1 ha1 => ⟨_, by rw [Int.toNat_natCast]; exact ha1, h.newR fun ge w h => ?_⟩⟩
        refine uput h (by omega) fun q3 c3 w h => ⟨_, _, _, rfl, q3, c3, ?_, ?_⟩
        · rw [hst]
        · rw [hst]; exact h
      · have hq2 := beq_f hq2
        rw [if_neg (by omega), hkd] at hst
        refine ⟨by omega, by omega, (hr _ _ _ h.drop).int hki fun a1 ha1 => ⟨_, by rw [Int.toNat_natCast]; exact ha1, h.newR fun ge w h => ?_⟩⟩
        refine uput h (by omega) fun q3 c3 w h => ⟨_, _, _, rfl, q3, c3, ?_, ?_⟩
        · rw [hst]
        · rw [hst]; exact h
      clear h
      rintro w q4 k9 k10
      intros
      rename_i hI3
      obtain ⟨q3, c3, hvs3, h⟩ := hI3
      obtain ⟨rfl, rfl, rfl⟩ : q4 = q3 ∧ k9 = (wl.take (k + 1)).length ∧ k10 = c3 := by simpa using hvs3
      exact ⟨z - 1, by omega, k + 1, q4, k10, by rw [wI64 (by omega) (by omega)]; rfl, by omega, h⟩
    · have hc := dec_f hc
      obtain rfl : k = ins.length - 1 := by omega
      rw [← hwll, List.take_length] at h ⊢
      obtain ⟨h1, le1, hI4, _, h⟩ := h.slImm
      exact ⟨h1, _, _, rfl, le1, hI4, h⟩
end
end Go.Proofs.YtajckpjlliiekaaDoor.Eng
