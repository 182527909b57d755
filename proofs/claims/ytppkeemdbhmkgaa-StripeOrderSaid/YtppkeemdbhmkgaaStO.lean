/- Pools: what each function does. -/
import Derived.Test.YtppkeemdbhmkgaaPolW
import Derived.Test.YtppkeemdbhmkgaaStqG
import Derived.Test.YtppkeemdbhmkgaaIntP
namespace Go.Proofs.Ytppkeemdbhmkgaa.Eng
open Go Go.RowKit Go.Proofs
set_option linter.unusedVariables false
set_option linter.unusedSimpArgs false
set_option maxRecDepth 1000000
theorem mk0 {e w : World} {F : List HP} {T : TypeId} {z : Value} {g c : Nat} (hc : c ≤ maxLen) (h : Own e w (blk g T (zrep [z] c) :: F)) : Own e w (slO T 1 (some ⟨g, 0, none⟩) 0 c [] :: F) := by
  rw [zrep_one] at h
  exact Own.slMk (rest := List.replicate c z) (by rfl) (by omega) hc (by simp) h
/-! ### Of int -/
abbrev buf_int (r : Nat) (q : Option Addr) : HP := slO 3 1 q 0 r []
abbrev wai_int (r : Nat) (qs : List (Option Addr)) : List Value := qs.map fun q => .slice q 0 r
abbrev pob_int (g r sp md : Nat) (qs : List (Option Addr)) (qw : Option Addr) (cw : Nat) : HP := blk g 63 [.slice qw qs.length cw, .int .i64 (r : Int), .int .i64 (sp : Int), .int .i64 (md : Int)]
def pol_int (g r sp md : Nat) (qs : List (Option Addr)) : HP := exH fun (p : Option Addr × Nat) => allH (pob_int g r sp md qs p.1 p.2 :: slO 33 1 p.1 qs.length p.2 (wai_int r qs) :: qs.map (buf_int r))
section
variable {e w : World} {F : List HP} {g r sp md : Nat} {qs : List (Option Addr)}
theorem pol_int_op (h : Own e w (pol_int g r sp md qs :: F)) : ∃ qw cw, Own e w (pob_int g r sp md qs qw cw :: slO 33 1 qw qs.length cw (wai_int r qs) :: (qs.map (buf_int r) ++ F)) := by
  obtain ⟨⟨qw, cw⟩, h⟩ := h.ex
  exact ⟨qw, cw, h.open_⟩
theorem pol_int_cl {qw : Option Addr} {cw : Nat} (h : Own e w (pob_int g r sp md qs qw cw :: slO 33 1 qw qs.length cw (wai_int r qs) :: (qs.map (buf_int r) ++ F))) : Own e w (pol_int g r sp md qs :: F) := by
  have h : Own e w ((pob_int g r sp md qs qw cw :: slO 33 1 qw qs.length cw (wai_int r qs) :: qs.map (buf_int r)) ++ F) := h
  exact Own.mkEx (P := fun (p : Option Addr × Nat) => allH (pob_int g r sp md qs p.1 p.2 :: slO 33 1 p.1 qs.length p.2 (wai_int r qs) :: qs.map (buf_int r))) (qw, cw) h.close_
theorem plNew_int {room spare : Int} (h : Own e w F) : Rets Try.prog 37 #[.int .i64 room, .int .i64 spare] w fun v w' => ∃ g, v = .pointer (some ⟨g, 0, none⟩) ∧ Own e w' (pol_int g (maxI 1 (minI room 1024)).toNat (maxI 0 (minI spare 1024)).toNat 0 [] :: F) := by
  refine pool_New_int_go _ _ (h.newR fun g w h => ⟨g, rfl, ?_⟩)
  have e1 : maxI 1 (minI room 1024) = ((maxI 1 (minI room 1024)).toNat : Int) := by unfold maxI minI; split <;> split <;> omega
  have e2 : maxI 0 (minI spare 1024) = ((maxI 0 (minI spare 1024)).toNat : Int) := by unfold maxI minI; split <;> split <;> omega
  generalize (maxI 1 (minI room 1024)).toNat = a at e1 ⊢
  generalize (maxI 0 (minI spare 1024)).toNat = b at e2 ⊢
  rw [e1, e2] at h
  exact pol_int_cl ((Own.slNil (T := 33) (s := 1) h).swap)
theorem plTake_int (hr : r ≤ 1024) (hmd : md ≤ 1000) (h : Own e w (pol_int g r sp md qs :: F)) : Rets Try.prog 31 #[.pointer (some ⟨g, 0, none⟩)] w fun v w' => ∃ q qs' md', v = .slice q 0 r ∧ ((qs = qs' ++ [q] ∧ md' = md) ∨ (qs = [] ∧ qs' = [] ∧ md' = md + 1)) ∧ Own e w' (buf_int r q :: pol_int g r sp md' qs' :: F) := by
  obtain ⟨qw, cw, h⟩ := pol_int_op h
  have h : Own e w (blk g 63 [.slice qw qs.length cw, .int .i64 (r : Int), .int .i64 (sp : Int), .int .i64 (md : Int)] :: slO 33 1 qw qs.length cw (wai_int r qs) :: (qs.map (buf_int r) ++ F)) := h
  obtain ⟨hf1, hf2, hf3⟩ := (h.drop).slFacts
  refine pool_Pool_int_Take_go _ ⟨fun hc => (by cases hc), fun _ => ⟨_, _, _, Own.ld (g := g) (k := 0) h (by repeat (first | with_reducible exact Pick.here | apply Pick.there)) rfl, fun hc => ?_, fun hc => ?_⟩⟩
  · have hc := dec_t hc
    obtain ⟨qs', q, rfl⟩ : ∃ qs' q, qs = qs' ++ [q] := by
      have hne : qs ≠ [] := by intro e; rw [e] at hc; simp at hc
      exact ⟨qs.dropLast, qs.getLast hne, (List.dropLast_concat_getLast hne).symm⟩
    have hw : (wai_int r (qs' ++ [q]))[qs'.length]? = some (.slice q 0 r) := by simp
    obtain ⟨aw, rfl, hcell⟩ := h.drop.slRd.addr hw
    have hlen : (qs' ++ [q]).length = qs'.length + 1 := by simp
    rw [hlen] at h hf2 hc ⊢
    unfold maxLen at hf3
    have e1 : IntKind.wrap .i64 (((qs'.length + 1 : Nat) : Int) - 1) = (qs'.length : Int) := by rw [wI64 (by omega) (by omega)]; omega
    rw [e1, Int.toNat_natCast, Nat.mul_one]
    refine ⟨_, _, _, Own.ld (g := g) (k := 0) h (by repeat (first | with_reducible exact Pick.here | apply Pick.there)) rfl, by omega, by omega, smR ⟨_, _, _, hcell _ _ hw, _, _, _, Own.ld (g := g) (k := 0) h (by repeat (first | with_reducible exact Pick.here | apply Pick.there)) rfl, by omega, by omega, ?_⟩⟩
    have h : Own e w (slO 33 1 (some aw) (qs'.length + 1) cw (wai_int r (qs' ++ [q])) :: blk g 63 [.slice (some aw) (qs'.length + 1) cw, .int .i64 (r : Int), .int .i64 (sp : Int), .int .i64 (md : Int)] :: ((qs' ++ [q]).map (buf_int r) ++ F)) := h.swap
    refine Own.slStore (i := qs'.length) (us := [.slice none 0 0]) h (by simp) (by simp) (by simp [Value.oneCell']) fun w h => ?_
    have ez : setFrom (wai_int r (qs' ++ [q])) qs'.length [.slice none 0 0] = wai_int r qs' ++ [.slice none 0 0] := by
      simp [setFrom, wai_int]
    rw [ez] at h
    have h := Own.shrink (m := qs'.length) h (by simp) (by omega)
    refine ⟨_, _, _, Own.ld (g := g) (k := 0) h (by repeat (first | with_reducible exact Pick.here | apply Pick.there)) rfl, by omega, by omega, ?_⟩
    refine Own.stP (g := g) (k := 0) h (by repeat (first | with_reducible exact Pick.here | apply Pick.there)) (by simp) (by simp [Value.oneCell']) fun w h => ?_
    simp only [setFrom, List.set_cons_zero, List.set_cons_succ, List.set_nil] at h
    rw [slcA0, Nat.sub_zero, Nat.sub_zero] at h
    refine ⟨q, qs', md, rfl, .inl ⟨rfl, rfl⟩, ?_⟩
    rw [List.map_append, List.append_assoc] at h
    have h : Own e w (([pob_int g r sp md qs' (some aw) cw, slO 33 1 (some aw) qs'.length cw (wai_int r qs')] ++ qs'.map (buf_int r)) ++ buf_int r q :: F) := h
    have h := h.mid
    have h : Own e w (buf_int r q :: pob_int g r sp md qs' (some aw) cw :: slO 33 1 (some aw) qs'.length cw (wai_int r qs') :: (qs'.map (buf_int r) ++ F)) := h
    have h : Own e w (pob_int g r sp md qs' (some aw) cw :: slO 33 1 (some aw) qs'.length cw (wai_int r qs') :: (qs'.map (buf_int r) ++ buf_int r q :: F)) := by
      have h2 : Own e w (([pob_int g r sp md qs' (some aw) cw, slO 33 1 (some aw) qs'.length cw (wai_int r qs')] ++ qs'.map (buf_int r)) ++ buf_int r q :: F) := Own.midBack h
      exact h2
    exact (pol_int_cl h).swap
  · have hc := dec_f hc
    obtain rfl : qs = [] := List.eq_nil_of_length_eq_zero (by omega)
    refine ⟨_, Own.ld (g := g) (k := 3) h (by repeat (first | with_reducible exact Pick.here | apply Pick.there)) rfl, Own.stP (g := g) (k := 3) h (by repeat (first | with_reducible exact Pick.here | apply Pick.there)) (by simp) (by simp [Value.oneCell']) fun w h => ?_⟩
    simp only [setFrom, List.set_cons_zero, List.set_cons_succ, List.set_nil] at h
    rw [wI64 (by omega) (by omega)] at h
    refine ⟨_, Own.ld (g := g) (k := 1) h (by repeat (first | with_reducible exact Pick.here | apply Pick.there)) rfl, h.makeR ⟨by omega, by omega, by omega, by omega⟩ fun g3 w h => ?_⟩
    rw [Int.toNat_natCast] at h ⊢
    have h := mk0 (by unfold maxLen; omega) h
    refine ⟨_, [], md + 1, rfl, .inr ⟨rfl, rfl, rfl⟩, ?_⟩
    have h : Own e w (buf_int r (some ⟨g3, 0, none⟩) :: pob_int g r sp (md + 1) [] qw cw :: slO 33 1 qw ([] : List (Option Addr)).length cw (wai_int r []) :: F) := h
    have h : Own e w (pob_int g r sp (md + 1) [] qw cw :: slO 33 1 qw ([] : List (Option Addr)).length cw (wai_int r []) :: buf_int r (some ⟨g3, 0, none⟩) :: F) := (Own.sub (h) (by repeat (first | with_reducible exact Sub.nil _ | with_reducible exact Sub.rfl _ | (apply Sub.cons; focus ((repeat (first | with_reducible exact Pick.here | apply Pick.there)); done)) | apply Sub.drop)))
    exact (pol_int_cl h).swap
theorem plGive_int {q : Option Addr} {n c : Nat} {xs : List Value} (hsp : sp ≤ 1024) (hr : 1 ≤ r ∧ r ≤ 1024) (h : Own e w (slO 3 1 q n c xs :: pol_int g r sp md qs :: F)) : Rets Try.prog 33 #[.pointer (some ⟨g, 0, none⟩), .slice q n c] w fun v w' => v = .bool (decide (qs.length < sp ∧ c = r)) ∧ Own e w' (pol_int g r sp md (if qs.length < sp ∧ c = r then qs ++ [q] else qs) :: F) := by
  obtain ⟨qw, cw, h⟩ := pol_int_op h.swap
  refine pool_Pool_int_Give_go _ _ _ _ (h.drw fun w h => ⟨fun _ => ⟨_, _, _, Own.ld (g := g) (k := 0) h (by repeat (first | with_reducible exact Pick.here | apply Pick.there)) rfl, _, Own.ld (g := g) (k := 2) h (by repeat (first | with_reducible exact Pick.here | apply Pick.there)) rfl, fun hc => ?_, fun hc => ?_⟩, fun hc => (by cases hc)⟩)
  · have hc := dec_f hc
    refine ⟨_, Own.ld (g := g) (k := 1) h (by repeat (first | with_reducible exact Pick.here | apply Pick.there)) rfl, fun hq => ?_, fun hq => ?_⟩
    · have hq := bool_ne hq
      have hn : ¬ (qs.length < sp ∧ c = r) := by omega
      rw [if_neg hn, decide_eq_false hn]
      refine ⟨rfl, pol_int_cl (qw := qw) (cw := cw) ?_⟩
      have h : Own e w (([pob_int g r sp md qs qw cw, slO 33 1 qw qs.length cw (wai_int r qs)] ++ qs.map (buf_int r)) ++ slO 3 1 q n c xs :: F) := h
      exact h.mid.drop
    · have hq := bool_eq hq
      obtain rfl : c = r := by omega
      have hn : qs.length < sp ∧ c = c := by omega
      rw [if_pos hn, decide_eq_true hn]
      refine ⟨_, Own.ld (g := g) (k := 1) h (by repeat (first | with_reducible exact Pick.here | apply Pick.there)) rfl, by omega, by omega, ?_⟩
      rw [slcA0, Int.toNat_natCast, Nat.sub_zero]
      have h : Own e w (([pob_int g c sp md qs qw cw, slO 33 1 qw qs.length cw (wai_int c qs)] ++ qs.map (buf_int c)) ++ slO 3 1 q n c xs :: F) := h
      obtain ⟨ys, h⟩ := h.mid.extend
      refine Own.clear (z := .int .i64 0) h (by kernel_rfl) (by kernel_rfl) rfl fun w h => ⟨rfl, ?_⟩
      have h := Own.shrink (m := 0) (xs := []) h (by simp) (by omega)
      have h : Own e w (slO 33 1 qw qs.length cw (wai_int c qs) :: pob_int g c sp md qs qw cw :: (qs.map (buf_int c) ++ buf_int c q :: F)) := by
        have h2 : Own e w (([pob_int g c sp md qs qw cw, slO 33 1 qw qs.length cw (wai_int c qs)] ++ qs.map (buf_int c)) ++ buf_int c q :: F) := Own.midBack h
        have h2 : Own e w (pob_int g c sp md qs qw cw :: slO 33 1 qw qs.length cw (wai_int c qs) :: (qs.map (buf_int c) ++ buf_int c q :: F)) := h2
        exact h2.swap
      refine h.drw fun w h => ⟨fun w => Own e w (slO 33 1 qw qs.length cw (wai_int c qs) :: pob_int g c sp md qs qw cw :: (qs.map (buf_int c) ++ buf_int c q :: F)), h, by omega, by omega, _, _, _, fun w h => Own.ld (g := g) (k := 0) h (by repeat (first | with_reducible exact Pick.here | apply Pick.there)) rfl, h.newR fun g4 w h => ⟨h.drop, ?_⟩⟩
      rw [slcA0] at h
      have hsrc : RdC w (some ⟨g4, 0, none⟩) [.slice q 0 c] := h.blkRd
      have h := h.drop
      refine Own.append (z := [.slice none 0 0]) (b := 24) (m := 1) h (by kernel_rfl) (by kernel_rfl) (by kernel_rfl) (by kernel_rfl) (by kernel_rfl) (by omega) hsrc rfl (fun v hv => by rw [List.mem_singleton.1 hv]; rfl) (by unfold maxLen; omega) (by omega) fun q3 c3 w h _ => ⟨_, _, _, rfl, ?_⟩
      refine Own.stP (g := g) (k := 0) h (by repeat (first | with_reducible exact Pick.here | apply Pick.there)) (by simp) (by simp [Value.oneCell']) fun w h => ?_
      simp only [setFrom, List.set_cons_zero, List.set_cons_succ, List.set_nil] at h
      refine ⟨rfl, pol_int_cl (qw := q3) (cw := c3) ?_⟩
      have e3 : wai_int c (qs ++ [q]) = wai_int c qs ++ [.slice q 0 c] := by simp [wai_int]
      have e4 : (qs ++ [q]).length = qs.length + 1 := by simp
      show Own e w (blk g 63 [.slice q3 (qs ++ [q]).length c3, .int .i64 (c : Int), .int .i64 (sp : Int), .int .i64 (md : Int)] :: slO 33 1 q3 (qs ++ [q]).length c3 (wai_int c (qs ++ [q])) :: ((qs ++ [q]).map (buf_int c) ++ F))
      rw [List.map_append, List.append_assoc, e3, e4]
      exact h
  · have hc := dec_t hc
    have hn : ¬ (qs.length < sp ∧ c = r) := by omega
    rw [if_neg hn, decide_eq_false hn]
    refine ⟨rfl, pol_int_cl (qw := qw) (cw := cw) ?_⟩
    have h : Own e w (([pob_int g r sp md qs qw cw, slO 33 1 qw qs.length cw (wai_int r qs)] ++ qs.map (buf_int r)) ++ slO 3 1 q n c xs :: F) := h
    exact h.mid.drop
end
/-! ### Of string -/
abbrev buf_string (r : Nat) (q : Option Addr) : HP := slO 9 1 q 0 r []
abbrev wai_string (r : Nat) (qs : List (Option Addr)) : List Value := qs.map fun q => .slice q 0 r
abbrev pob_string (g r sp md : Nat) (qs : List (Option Addr)) (qw : Option Addr) (cw : Nat) : HP := blk g 59 [.slice qw qs.length cw, .int .i64 (r : Int), .int .i64 (sp : Int), .int .i64 (md : Int)]
def pol_string (g r sp md : Nat) (qs : List (Option Addr)) : HP := exH fun (p : Option Addr × Nat) => allH (pob_string g r sp md qs p.1 p.2 :: slO 22 1 p.1 qs.length p.2 (wai_string r qs) :: qs.map (buf_string r))
section
variable {e w : World} {F : List HP} {g r sp md : Nat} {qs : List (Option Addr)}
theorem pol_string_op (h : Own e w (pol_string g r sp md qs :: F)) : ∃ qw cw, Own e w (pob_string g r sp md qs qw cw :: slO 22 1 qw qs.length cw (wai_string r qs) :: (qs.map (buf_string r) ++ F)) := by
  obtain ⟨⟨qw, cw⟩, h⟩ := h.ex
  exact ⟨qw, cw, h.open_⟩
theorem pol_string_cl {qw : Option Addr} {cw : Nat} (h : Own e w (pob_string g r sp md qs qw cw :: slO 22 1 qw qs.length cw (wai_string r qs) :: (qs.map (buf_string r) ++ F))) : Own e w (pol_string g r sp md qs :: F) := by
  have h : Own e w ((pob_string g r sp md qs qw cw :: slO 22 1 qw qs.length cw (wai_string r qs) :: qs.map (buf_string r)) ++ F) := h
  exact Own.mkEx (P := fun (p : Option Addr × Nat) => allH (pob_string g r sp md qs p.1 p.2 :: slO 22 1 p.1 qs.length p.2 (wai_string r qs) :: qs.map (buf_string r))) (qw, cw) h.close_
theorem plNew_string {room spare : Int} (h : Own e w F) : Rets Try.prog 21 #[.int .i64 room, .int .i64 spare] w fun v w' => ∃ g, v = .pointer (some ⟨g, 0, none⟩) ∧ Own e w' (pol_string g (maxI 1 (minI room 1024)).toNat (maxI 0 (minI spare 1024)).toNat 0 [] :: F) := by
  refine pool_New_string_go _ _ (h.newR fun g w h => ⟨g, rfl, ?_⟩)
  have e1 : maxI 1 (minI room 1024) = ((maxI 1 (minI room 1024)).toNat : Int) := by unfold maxI minI; split <;> split <;> omega
  have e2 : maxI 0 (minI spare 1024) = ((maxI 0 (minI spare 1024)).toNat : Int) := by unfold maxI minI; split <;> split <;> omega
  generalize (maxI 1 (minI room 1024)).toNat = a at e1 ⊢
  generalize (maxI 0 (minI spare 1024)).toNat = b at e2 ⊢
  rw [e1, e2] at h
  exact pol_string_cl ((Own.slNil (T := 22) (s := 1) h).swap)
theorem plTake_string (hr : r ≤ 1024) (hmd : md ≤ 1000) (h : Own e w (pol_string g r sp md qs :: F)) : Rets Try.prog 23 #[.pointer (some ⟨g, 0, none⟩)] w fun v w' => ∃ q qs' md', v = .slice q 0 r ∧ ((qs = qs' ++ [q] ∧ md' = md) ∨ (qs = [] ∧ qs' = [] ∧ md' = md + 1)) ∧ Own e w' (buf_string r q :: pol_string g r sp md' qs' :: F) := by
  obtain ⟨qw, cw, h⟩ := pol_string_op h
  have h : Own e w (blk g 59 [.slice qw qs.length cw, .int .i64 (r : Int), .int .i64 (sp : Int), .int .i64 (md : Int)] :: slO 22 1 qw qs.length cw (wai_string r qs) :: (qs.map (buf_string r) ++ F)) := h
  obtain ⟨hf1, hf2, hf3⟩ := (h.drop).slFacts
  refine pool_Pool_string_Take_go _ ⟨fun hc => (by cases hc), fun _ => ⟨_, _, _, Own.ld (g := g) (k := 0) h (by repeat (first | with_reducible exact Pick.here | apply Pick.there)) rfl, fun hc => ?_, fun hc => ?_⟩⟩
  · have hc := dec_t hc
    obtain ⟨qs', q, rfl⟩ : ∃ qs' q, qs = qs' ++ [q] := by
      have hne : qs ≠ [] := by intro e; rw [e] at hc; simp at hc
      exact ⟨qs.dropLast, qs.getLast hne, (List.dropLast_concat_getLast hne).symm⟩
    have hw : (wai_string r (qs' ++ [q]))[qs'.length]? = some (.slice q 0 r) := by simp
    obtain ⟨aw, rfl, hcell⟩ := h.drop.slRd.addr hw
    have hlen : (qs' ++ [q]).length = qs'.length + 1 := by simp
    rw [hlen] at h hf2 hc ⊢
    unfold maxLen at hf3
    have e1 : IntKind.wrap .i64 (((qs'.length + 1 : Nat) : Int) - 1) = (qs'.length : Int) := by rw [wI64 (by omega) (by omega)]; omega
    rw [e1, Int.toNat_natCast, Nat.mul_one]
    refine ⟨_, _, _, Own.ld (g := g) (k := 0) h (by repeat (first | with_reducible exact Pick.here | apply Pick.there)) rfl, by omega, by omega, smR ⟨_, _, _, hcell _ _ hw, _, _, _, Own.ld (g := g) (k := 0) h (by repeat (first | with_reducible exact Pick.here | apply Pick.there)) rfl, by omega, by omega, ?_⟩⟩
    have h : Own e w (slO 22 1 (some aw) (qs'.length + 1) cw (wai_string r (qs' ++ [q])) :: blk g 59 [.slice (some aw) (qs'.length + 1) cw, .int .i64 (r : Int), .int .i64 (sp : Int), .int .i64 (md : Int)] :: ((qs' ++ [q]).map (buf_string r) ++ F)) := h.swap
    refine Own.slStore (i := qs'.length) (us := [.slice none 0 0]) h (by simp) (by simp) (by simp [Value.oneCell']) fun w h => ?_
    have ez : setFrom (wai_string r (qs' ++ [q])) qs'.length [.slice none 0 0] = wai_string r qs' ++ [.slice none 0 0] := by
      simp [setFrom, wai_string]
    rw [ez] at h
    have h := Own.shrink (m := qs'.length) h (by simp) (by omega)
    refine ⟨_, _, _, Own.ld (g := g) (k := 0) h (by repeat (first | with_reducible exact Pick.here | apply Pick.there)) rfl, by omega, by omega, ?_⟩
    refine Own.stP (g := g) (k := 0) h (by repeat (first | with_reducible exact Pick.here | apply Pick.there)) (by simp) (by simp [Value.oneCell']) fun w h => ?_
    simp only [setFrom, List.set_cons_zero, List.set_cons_succ, List.set_nil] at h
    rw [slcA0, Nat.sub_zero, Nat.sub_zero] at h
    refine ⟨q, qs', md, rfl, .inl ⟨rfl, rfl⟩, ?_⟩
    rw [List.map_append, List.append_assoc] at h
    have h : Own e w (([pob_string g r sp md qs' (some aw) cw, slO 22 1 (some aw) qs'.length cw (wai_string r qs')] ++ qs'.map (buf_string r)) ++ buf_string r q :: F) := h
    have h := h.mid
    have h : Own e w (buf_string r q :: pob_string g r sp md qs' (some aw) cw :: slO 22 1 (some aw) qs'.length cw (wai_string r qs') :: (qs'.map (buf_string r) ++ F)) := h
    have h : Own e w (pob_string g r sp md qs' (some aw) cw :: slO 22 1 (some aw) qs'.length cw (wai_string r qs') :: (qs'.map (buf_string r) ++ buf_string r q :: F)) := by
      have h2 : Own e w (([pob_string g r sp md qs' (some aw) cw, slO 22 1 (some aw) qs'.length cw (wai_string r qs')] ++ qs'.map (buf_string r)) ++ buf_string r q :: F) := Own.midBack h
      exact h2
    exact (pol_string_cl h).swap
  · have hc := dec_f hc
    obtain rfl : qs = [] := List.eq_nil_of_length_eq_zero (by omega)
    refine ⟨_, Own.ld (g := g) (k := 3) h (by repeat (first | with_reducible exact Pick.here | apply Pick.there)) rfl, Own.stP (g := g) (k := 3) h (by repeat (first | with_reducible exact Pick.here | apply Pick.there)) (by simp) (by simp [Value.oneCell']) fun w h => ?_⟩
    simp only [setFrom, List.set_cons_zero, List.set_cons_succ, List.set_nil] at h
    rw [wI64 (by omega) (by omega)] at h
    refine ⟨_, Own.ld (g := g) (k := 1) h (by repeat (first | with_reducible exact Pick.here | apply Pick.there)) rfl, h.makeR ⟨by omega, by omega, by omega, by omega⟩ fun g3 w h => ?_⟩
    rw [Int.toNat_natCast] at h ⊢
    have h := mk0 (by unfold maxLen; omega) h
    refine ⟨_, [], md + 1, rfl, .inr ⟨rfl, rfl, rfl⟩, ?_⟩
    have h : Own e w (buf_string r (some ⟨g3, 0, none⟩) :: pob_string g r sp (md + 1) [] qw cw :: slO 22 1 qw ([] : List (Option Addr)).length cw (wai_string r []) :: F) := h
    have h : Own e w (pob_string g r sp (md + 1) [] qw cw :: slO 22 1 qw ([] : List (Option Addr)).length cw (wai_string r []) :: buf_string r (some ⟨g3, 0, none⟩) :: F) := (Own.sub (h) (by repeat (first | with_reducible exact Sub.nil _ | with_reducible exact Sub.rfl _ | (apply Sub.cons; focus ((repeat (first | with_reducible exact Pick.here | apply Pick.there)); done)) | apply Sub.drop)))
    exact (pol_string_cl h).swap
theorem plGive_string {q : Option Addr} {n c : Nat} {xs : List Value} (hsp : sp ≤ 1024) (hr : 1 ≤ r ∧ r ≤ 1024) (h : Own e w (slO 9 1 q n c xs :: pol_string g r sp md qs :: F)) : Rets Try.prog 25 #[.pointer (some ⟨g, 0, none⟩), .slice q n c] w fun v w' => v = .bool (decide (qs.length < sp ∧ c = r)) ∧ Own e w' (pol_string g r sp md (if qs.length < sp ∧ c = r then qs ++ [q] else qs) :: F) := by
  obtain ⟨qw, cw, h⟩ := pol_string_op h.swap
  refine pool_Pool_string_Give_go _ _ _ _ (h.drw fun w h => ⟨fun _ => ⟨_, _, _, Own.ld (g := g) (k := 0) h (by repeat (first | with_reducible exact Pick.here | apply Pick.there)) rfl, _, Own.ld (g := g) (k := 2) h (by repeat (first | with_reducible exact Pick.here | apply Pick.there)) rfl, fun hc => ?_, fun hc => ?_⟩, fun hc => (by cases hc)⟩)
  · have hc := dec_f hc
    refine ⟨_, Own.ld (g := g) (k := 1) h (by repeat (first | with_reducible exact Pick.here | apply Pick.there)) rfl, fun hq => ?_, fun hq => ?_⟩
    · have hq := bool_ne hq
      have hn : ¬ (qs.length < sp ∧ c = r) := by omega
      rw [if_neg hn, decide_eq_false hn]
      refine ⟨rfl, pol_string_cl (qw := qw) (cw := cw) ?_⟩
      have h : Own e w (([pob_string g r sp md qs qw cw, slO 22 1 qw qs.length cw (wai_string r qs)] ++ qs.map (buf_string r)) ++ slO 9 1 q n c xs :: F) := h
      exact h.mid.drop
    · have hq := bool_eq hq
      obtain rfl : c = r := by omega
      have hn : qs.length < sp ∧ c = c := by omega
      rw [if_pos hn, decide_eq_true hn]
      refine ⟨_, Own.ld (g := g) (k := 1) h (by repeat (first | with_reducible exact Pick.here | apply Pick.there)) rfl, by omega, by omega, ?_⟩
      rw [slcA0, Int.toNat_natCast, Nat.sub_zero]
      have h : Own e w (([pob_string g c sp md qs qw cw, slO 22 1 qw qs.length cw (wai_string c qs)] ++ qs.map (buf_string c)) ++ slO 9 1 q n c xs :: F) := h
      obtain ⟨ys, h⟩ := h.mid.extend
      refine Own.clear (z := .string ⟨#[]⟩) h (by kernel_rfl) (by kernel_rfl) rfl fun w h => ⟨rfl, ?_⟩
      have h := Own.shrink (m := 0) (xs := []) h (by simp) (by omega)
      have h : Own e w (slO 22 1 qw qs.length cw (wai_string c qs) :: pob_string g c sp md qs qw cw :: (qs.map (buf_string c) ++ buf_string c q :: F)) := by
        have h2 : Own e w (([pob_string g c sp md qs qw cw, slO 22 1 qw qs.length cw (wai_string c qs)] ++ qs.map (buf_string c)) ++ buf_string c q :: F) := Own.midBack h
        have h2 : Own e w (pob_string g c sp md qs qw cw :: slO 22 1 qw qs.length cw (wai_string c qs) :: (qs.map (buf_string c) ++ buf_string c q :: F)) := h2
        exact h2.swap
      refine h.drw fun w h => ⟨fun w => Own e w (slO 22 1 qw qs.length cw (wai_string c qs) :: pob_string g c sp md qs qw cw :: (qs.map (buf_string c) ++ buf_string c q :: F)), h, by omega, by omega, _, _, _, fun w h => Own.ld (g := g) (k := 0) h (by repeat (first | with_reducible exact Pick.here | apply Pick.there)) rfl, h.newR fun g4 w h => ⟨h.drop, ?_⟩⟩
      rw [slcA0] at h
      have hsrc : RdC w (some ⟨g4, 0, none⟩) [.slice q 0 c] := h.blkRd
      have h := h.drop
      refine Own.append (z := [.slice none 0 0]) (b := 24) (m := 1) h (by kernel_rfl) (by kernel_rfl) (by kernel_rfl) (by kernel_rfl) (by kernel_rfl) (by omega) hsrc rfl (fun v hv => by rw [List.mem_singleton.1 hv]; rfl) (by unfold maxLen; omega) (by omega) fun q3 c3 w h _ => ⟨_, _, _, rfl, ?_⟩
      refine Own.stP (g := g) (k := 0) h (by repeat (first | with_reducible exact Pick.here | apply Pick.there)) (by simp) (by simp [Value.oneCell']) fun w h => ?_
      simp only [setFrom, List.set_cons_zero, List.set_cons_succ, List.set_nil] at h
      refine ⟨rfl, pol_string_cl (qw := q3) (cw := c3) ?_⟩
      have e3 : wai_string c (qs ++ [q]) = wai_string c qs ++ [.slice q 0 c] := by simp [wai_string]
      have e4 : (qs ++ [q]).length = qs.length + 1 := by simp
      show Own e w (blk g 59 [.slice q3 (qs ++ [q]).length c3, .int .i64 (c : Int), .int .i64 (sp : Int), .int .i64 (md : Int)] :: slO 22 1 q3 (qs ++ [q]).length c3 (wai_string c (qs ++ [q])) :: ((qs ++ [q]).map (buf_string c) ++ F))
      rw [List.map_append, List.append_assoc, e3, e4]
      exact h
  · have hc := dec_t hc
    have hn : ¬ (qs.length < sp ∧ c = r) := by omega
    rw [if_neg hn, decide_eq_false hn]
    refine ⟨rfl, pol_string_cl (qw := qw) (cw := cw) ?_⟩
    have h : Own e w (([pob_string g r sp md qs qw cw, slO 22 1 qw qs.length cw (wai_string r qs)] ++ qs.map (buf_string r)) ++ slO 9 1 q n c xs :: F) := h
    exact h.mid.drop
end
section
variable {e w : World} {F : List HP} {g r sp md : Nat} {qs : List (Option Addr)}
theorem plMade (h : Own e w (pol_string g r sp md qs :: F)) : Rets Try.prog 28 #[.pointer (some ⟨g, 0, none⟩)] w fun v w' => v = .int .i64 (md : Int) ∧ Own e w' (pol_string g r sp md qs :: F) := by
  obtain ⟨qw, cw, h⟩ := pol_string_op h
  exact pool_Pool_string_Made_go _ ⟨fun hc => (by cases hc), fun _ => ⟨_, Own.ld (g := g) (k := 3) h (by repeat (first | with_reducible exact Pick.here | apply Pick.there)) rfl, rfl, pol_string_cl h⟩⟩
end
end Go.Proofs.Ytppkeemdbhmkgaa.Eng
