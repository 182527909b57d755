/- SampleLeast: for any hashes and numbers, and any place, the law answers true. -/
import Derived.Test.YtajckpjlliiekaaDoorSmlP
namespace Go.Proofs.YtajckpjlliiekaaDoor.Eng
open Go Go.RowKit Go.Proofs
set_option linter.unusedVariables false
set_option linter.unusedSimpArgs false
set_option maxRecDepth 1000000
section
variable {W : World} {q q2 : Option Addr} {c c2 : Nat} {ins H : List Int} {i : Int}
theorem SampleLeast_spec (HL : MixLaid W) (hb : RdC W q (cs .u64 ins)) (hm : ins.length * 8 ≤ 140737488351232) (hc : ins.length ≤ c) (hw : ∀ x ∈ ins, (Lit.int .u64 x).wf = true)
    (hb2 : RdC W q2 (cs .i64 H)) (hm2 : H.length * 8 ≤ 140737488351232) (hc2 : H.length ≤ c2) (hw2 : ∀ x ∈ H, (Lit.int .i64 x).wf = true) (hiw : (Lit.int .i64 i).wf = true) :
    Rets Tryd.prog 5 #[.slice q ins.length c, .slice q2 H.length c2, .int .i64 i] W fun v w' => v = .bool true ∧ Below W.heap.size W w' := by
  refine Rets.mono (k := fun v w' => v = .bool true ∧ ∃ F, Own W w' (snap W :: F)) ?_ (fun v w' h => ⟨h.1, h.2.elim fun F h => h.below⟩)
  have h := Own.begin W
  rw [snap_imm] at h ⊢
  have hib := wfI64 hiw
  have hxb : ∀ x ∈ ins, 0 ≤ x ∧ x < 18446744073709551616 := fun x hx => wfU64 (hw x hx)
  obtain ⟨hW, ehW⟩ : ∃ hW : Nat → Option Obj, hW = (fun b => W.heap[b]?) := ⟨_, rfl⟩
  have rdm : ∀ {h1 : Nat → Option Obj} (le : LeH hW h1) w F, Own W w (imm h1 :: F) → RdC w mixQ mixC := fun le w F h => by rw [ehW] at le; exact Own.snapRd (W := W) (h.immLe le) HL.rd
  have rdI : ∀ {h1 : Nat → Option Obj} (le : LeH hW h1) w F, Own W w (imm h1 :: F) → RdC w q (cs .u64 ins) := fun le w F h => by rw [ehW] at le; exact Own.snapRd (W := W) (h.immLe le) hb
  have rdH : ∀ {h1 : Nat → Option Obj} (le : LeH hW h1) w F, Own W w (imm h1 :: F) → RdC w q2 (cs .i64 H) := fun le w F h => by rw [ehW] at le; exact Own.snapRd (W := W) (h.immLe le) hb2
  have II : ImR hW q (cs .u64 ins) := by rw [ehW]; exact fun e w F h => Own.snapRd (W := W) h hb
  rw [← ehW] at h ⊢
  clear ehW hb hb2
  have aw : ∀ {h1 : Nat → Option Obj} {w F}, LeH hW h1 → Own W w (imm h1 :: F) → Rets Tryd.prog 8 #[] w fun v w' => ∃ b, v = Value.bool b ∧ (Value.bool b) = .bool true ∧ ∃ F, Own W w' (imm hW :: F) := fun le h => by
    refine Rets.mono (smAwake (rdm le) h) ?_
    rintro _ w ⟨rfl, F, h⟩
    exact ⟨_, rfl, rfl, _, h.immLe le⟩
  refine cortadolaw25_SampleLeast_go _ _ _ _ _ _ _ (h.newR fun g1 w h => ?_)
  obtain ⟨ha0, le0, ha, hh⟩ := Own.absorb h
  clear h
  have h := hh
  clear hh
  have rdb : ∀ {h1 : Nat → Option Obj} {w F}, LeH ha0 h1 → Own W w (imm h1 :: F) → cellAt w ⟨g1, 0, none⟩ (.slice q2 H.length c2) := fun le h => by
    have := h.immCell (vs := [.slice q2 H.length c2]) (le _ _ ha) (i := 0) rfl
    rwa [add0] at this
  refine ⟨fun vs w => vs = [.bool (decide (30 < ins.length ∨ H.length = 0))] ∧ Own W w (imm ha0 :: []), ⟨fun hx => ⟨_, _, _, rdb (LeH.refl _) h, ?_, h⟩, fun hx => ⟨?_, h⟩⟩, ?_⟩
  · have hx := dec_f hx
    have : ((H.length : Int) == 0) = decide (30 < ins.length ∨ H.length = 0) := by
      by_cases e : H.length = 0
      · simp [e]
      · rw [decide_eq_false (by omega)]; simp; intro e2; exact e (by simp [e2])
    rw [this]
  · have hx := dec_t hx
    rw [decide_eq_true (by omega)]
  clear h
  rintro w
  intros
  rename_i b1 hI
  obtain ⟨hvs, h⟩ := hI
  obtain rfl : b1 = decide (30 < ins.length ∨ H.length = 0) := by simpa using hvs
  refine ⟨fun hq => aw le0 h, fun hq => ?_⟩
  have hq := of_decide_eq_false hq
  have hHl : 1 ≤ H.length ∧ H.length ≤ 1000000000000000 := by omega
  have hHi : (H.length : Int) < 18446744073709551616 := by omega
  obtain ⟨l, hl⟩ : ∃ l, l = ins.map (hAt H) := ⟨_, rfl⟩
  have hll : l.length = ins.length := by rw [hl, List.length_map]
  refine ⟨fun z vs w => ∃ (k : Nat) (q' : Option Addr) (c' : Nat), vs = [.slice q' (l.take k).length c', .int .i64 (k : Int)] ∧ z + k = ins.length ∧ Own W w (inB q' (l.take k).length c' (l.take k) :: imm ha0 :: []), ⟨ins.length, 0, none, 0, rfl, rfl, h.slNil⟩, ?_⟩
  clear h
  rintro z w qz k5 k6 n1
  intros
  rename_i hI2
  obtain ⟨k, q', c', hvs2, hz, h⟩ := hI2
  obtain ⟨⟨rfl, rfl, rfl⟩, rfl⟩ : (qz = q' ∧ k5 = (l.take k).length ∧ k6 = c') ∧ n1 = (k : Int) := by simpa using hvs2
  refine ⟨fun hc1 => ?_, fun hc1 => ?_⟩
  · have hc1 := dec_t hc1
    have hk : k < ins.length := by omega
    have htl : (l.take k).length = k := by rw [List.length_take]; omega
    have et : l.take (k + 1) = l.take k ++ [hAt H ins[k]] := by
      rw [List.take_succ_eq_append_getElem (by omega)]; congr 2; simp [hl]
    have hxk := hxb _ (List.getElem_mem hk)
    obtain ⟨x, hx⟩ : ∃ x, x = ins[k] := ⟨_, rfl⟩
    rw [← hx] at hxk et
    have e1 : IntKind.wrap .u64 (H.length : Int) = (H.length : Int) := by rw [wU64]; omega
    have h1 := Int.emod_nonneg x (show (H.length : Int) ≠ 0 by omega)
    have h2 := Int.emod_lt_of_pos x (show 0 < (H.length : Int) by omega)
    have e2 : Int.tmod x (H.length : Int) = x % (H.length : Int) := Int.tmod_eq_emod_of_nonneg hxk.1
    have e3 : IntKind.wrap .i64 (Int.tmod x (H.length : Int)) = Int.tmod x (H.length : Int) := by rw [e2]; exact wI64 (by omega) (by omega)
    have hi : (Int.tmod x (H.length : Int)).toNat < H.length := by rw [e2]; omega
    have hHat : H[(Int.tmod x (H.length : Int)).toNat] = hAt H x := by unfold hAt; rw [List.getD_eq_getElem?_getD, List.getElem?_eq_getElem hi]; rfl
    refine h.drw fun w h => ⟨by omega, by omega, (rdI le0 _ _ h.drop).int hk fun a1 ha1 => ⟨_, _, _, rdb (LeH.refl _) h.drop, x, by rw [Int.toNat_natCast, hx]; exact ha1, _, _, _, rdb (LeH.refl _) h.drop, ?_⟩⟩
    rw [e1, e3]
    refine ⟨by omega, by rw [e2]; omega, by rw [e2]; omega, (rdH le0 _ _ h.drop).int hi fun a2 ha2 => ⟨_, ha2, ?_⟩⟩
    rw [hHat]
    refine h.newR fun ge w h => ?_
    have h : Own W w (blk ge 3 (cs .i64 [hAt H x]) :: inB qz (l.take k).length k6 (l.take k) :: imm ha0 :: []) := h
    refine put64 (ys := [hAt H x]) (m := 1) h rfl (by omega) fun q3 c3 w h => ⟨_, _, _, rfl, z - 1, by omega, k + 1, q3, c3, ?_, by omega, ?_⟩
    · rw [et, wI64 (by omega) (by omega), List.length_append]; rfl
    · rw [et, List.length_append]; exact h
  · have hc1 := dec_f hc1
    obtain rfl : k = ins.length := by omega
    have el : l.take ins.length = l := List.take_of_length_le (by omega)
    rw [el] at h ⊢
    obtain ⟨h2, le2, Il, _, h⟩ := h.slImm
    have ha := le2 _ _ ha
    have le3 := LeH.trans le0 le2
    refine Rets.mono (uLeast (q2 := q2) (H := H) (c2 := c2) (ins := ins) (c := c) ha hHl hxb (by omega) (rdH le3) (rdI le3) h) ?_
    clear h
    rintro _ w ⟨rfl, h⟩
    rw [← hl]
    refine ⟨_, _, _, rfl, ?_⟩
    refine Rets.mono (rLeast (c := k6) (by omega) (fun w h => Il _ _ _ h) h) ?_
    clear h
    rintro _ w ⟨rfl, h⟩
    refine ⟨_, _, _, rfl, ?_⟩
    refine Rets.mono (uLeastNil (ins := ins) (q := q) (c := c) h) ?_
    clear h
    rintro _ w ⟨rfl, h⟩
    refine ⟨_, _, _, rfl, h.newR fun ge w h => ?_⟩
    refine uapp (uempty h) (rdI le3 w _ h.drop) rfl (by omega) fun q6 c6 w h => ?_
    rw [List.nil_append] at h
    rw [Nat.zero_add] at h
    rw [Nat.zero_add]
    obtain ⟨h4, le4, I6, _, h⟩ := h.slImm
    have le5 := LeH.trans le3 le4
    refine ⟨_, _, _, rfl, fun vs w => vs = [.bool true] ∧ ∃ F, Own W w (imm hW :: F), ⟨fun _ => ⟨fun _ => ⟨fun _ => ⟨fun _ => ?_, fun hq2 => (by cases hq2)⟩, fun hq2 => (by simp at hq2)⟩, fun hq2 => (by simp at hq2)⟩, fun hq2 => (by simp at hq2)⟩, ?_⟩
    · refine Rets.mono (uWo (c := c) (i := i) (ins := ins) (by omega) (II.mono le5) hib h) ?_
      clear h
      rintro _ w ⟨h6, q7, c7, rfl, le6, I7, h⟩
      refine ⟨_, _, _, rfl, ?_⟩
      refine Rets.mono (rWo (q := q) (c := c) (i := i) (ins := ins) (by omega) (II.mono (LeH.trans le5 le6)) hib h) ?_
      clear h
      rintro _ w ⟨h8, q8, c8, rfl, le8, I8, h⟩
      refine ⟨_, _, _, rfl, ?_⟩
      have hwol : (woZ ins i).length ≤ 1000 := by
        unfold woZ; split
        · omega
        · rw [woL_len]; omega
      refine Rets.mono (uSame (xs := woZ ins i) (c := c7) (c2 := c8) h (fun w h => (I7.mono le8) _ _ _ h) (fun w h => I8 _ _ _ h) hwol) ?_
      clear h
      rintro _ w ⟨rfl, h⟩
      refine ⟨_, rfl, fun _ => ?_, fun hq3 => (by cases hq3)⟩
      refine Rets.mono (uSame (xs := ins) (q := q) (q2 := q6) (c := c) (c2 := c6) h (fun w h => rdI (LeH.trans le5 (LeH.trans le6 le8)) _ _ h) (fun w h => (I6.mono (LeH.trans le6 le8)) _ _ _ h) (by omega)) ?_
      clear h
      rintro _ w ⟨rfl, h⟩
      refine ⟨_, rfl, fun _ => ?_, fun hq3 => (by cases hq3)⟩
      refine Rets.mono (aw (LeH.trans le5 (LeH.trans le6 le8)) h) ?_
      rintro _ w ⟨b, rfl, hb6, h⟩
      exact ⟨_, rfl, by rw [hb6], h⟩
    · clear h
      rintro w b9
      intros
      rename_i hI7
      obtain ⟨hvs7, h⟩ := hI7
      obtain rfl : b9 = true := by simpa using hvs7
      exact ⟨rfl, h⟩
end
end Go.Proofs.YtajckpjlliiekaaDoor.Eng
