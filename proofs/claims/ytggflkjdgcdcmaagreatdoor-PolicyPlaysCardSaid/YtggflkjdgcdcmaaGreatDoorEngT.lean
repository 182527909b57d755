/- Small helps for the proofs over what code asks for. -/
import Derived.Test.YtggflkjdgcdcmaaGreatDoorEngR
namespace Go.Proofs.YtggflkjdgcdcmaaGreatDoor.Eng
open Go Go.RowKit Go.Proofs.YtggflkjdgcdcmaaGreatDoorW.PrintWords Go.Proofs.YtggflkjdgcdcmaaGreatDoorW.PrintLast
set_option linter.unusedVariables false
set_option linter.unusedSimpArgs false
theorem smR {a : Addr} {k : Addr → Prop} (h : k a) : someR (some a) k := h
theorem Drw.mk {w : World} {k : World → Prop} (h : k w.drew) : Drw w k := h
theorem Own.drw {e w : World} {F : List HP} {k : World → Prop} (h : Own e w F) (hk : ∀ w', Own e w' F → k w') : Drw w k := hk _ h.drew
theorem wI64 {n : Int} (h0 : -9223372036854775808 ≤ n) (h1 : n ≤ 9223372036854775807) : IntKind.wrap IntKind.i64 n = n := wrap_i64_of h0 h1
theorem wU64 (n : Int) : IntKind.wrap IntKind.u64 n = n % 18446744073709551616 := by simp [IntKind.wrap, IntKind.signed, IntKind.bits]
theorem wU8 (n : Int) : IntKind.wrap IntKind.u8 n = n % 256 := by simp [IntKind.wrap, IntKind.signed, IntKind.bits]
theorem wU64' {n : Int} (h0 : 0 ≤ n) (h1 : n < 18446744073709551616) : IntKind.wrap IntKind.u64 n = n := by rw [wU64]; omega
theorem wU8' {n : Int} (h0 : 0 ≤ n) (h1 : n < 256) : IntKind.wrap IntKind.u8 n = n := by rw [wU8]; omega
/-- Whole numbers, as cells. -/
def cs (kd : IntKind) (l : List Int) : List Value := l.map (Value.int kd)
theorem cs_len (kd : IntKind) (l : List Int) : (cs kd l).length = l.length := by simp [cs]
theorem cs_at {kd : IntKind} {l : List Int} {i : Nat} (h : i < l.length) : (cs kd l)[i]? = some (.int kd l[i]) := by simp [cs, h]
theorem cs_one (kd : IntKind) (l : List Int) : ∀ u ∈ cs kd l, u.oneCell' = true := by
  intro u hu
  unfold cs at hu
  obtain ⟨x, _, rfl⟩ := List.mem_map.1 hu
  rfl
theorem cs_app (kd : IntKind) (a b : List Int) : cs kd (a ++ b) = cs kd a ++ cs kd b := by simp [cs]
theorem cs_set (kd : IntKind) (l : List Int) (i : Nat) (x : Int) : setFrom (cs kd l) i [.int kd x] = cs kd (l.set i x) := by simp [cs, setFrom]
theorem RdC.int {w : World} {q : Option Addr} {kd : IntKind} {l : List Int} (h : RdC w q (cs kd l)) {i : Nat} (hi : i < l.length) {k : Addr → Prop} (hk : ∀ a, cellAt w (a.add (i * 1)) (.int kd l[i]) → k a) : someR q k :=
  h.elem (cs_at hi) hk
theorem bool_ne {a b : Int} (h : (a != b) = true) : a ≠ b := by simpa using h
theorem bool_eq {a b : Int} (h : (a != b) = false) : a = b := by simpa using h
theorem beq_t {a b : Int} (h : (a == b) = true) : a = b := by simpa using h
theorem beq_f {a b : Int} (h : (a == b) = false) : a ≠ b := by simpa using h
theorem dec_t {p : Prop} [Decidable p] (h : decide p = true) : p := of_decide_eq_true h
theorem dec_f {p : Prop} [Decidable p] (h : decide p = false) : ¬ p := of_decide_eq_false h
theorem Own.blkRd {e w : World} {F : List HP} {g : Nat} {T : TypeId} {vs : List Value} (h : Own e w (blk g T vs :: F)) : RdC w (some ⟨g, 0, none⟩) vs := .inr ⟨_, rfl, fun j u hj => h.cellAdd j hj⟩
theorem Own.snapRd {W w : World} {e : World} {F : List HP} (h : Own e w (snap W :: F)) {q : Option Addr} {us : List Value} (hr : RdC W q us) : RdC w q us := by
  rcases hr with rfl | ⟨a, rfl, hr⟩
  · exact .inl rfl
  · exact .inr ⟨a, rfl, fun j u hj => h.snapCell (hr j u hj)⟩
theorem RdC.cut {w : World} {q : Option Addr} {us : List Value} {l c : Nat} (h : RdC w q us) (hl : l ≤ us.length) (hc : us.length ≤ c) : RdC w (slcA q l c 1) (us.drop l) := by
  rcases h.slice (l := l) (m := c) (z := 1) (by omega) with h | h
  · rw [Nat.mul_one] at h; exact h
  · left; rw [List.drop_eq_nil_iff]; omega
theorem of_reads {w : World} {q : Option Addr} {kd : IntKind} {ns : List Int} {n : Nat} (h : ReadsInt w kd q n ns) : RdC w q (cs kd ns) := by
  rcases Nat.eq_zero_or_pos n with h0 | h0
  · left; rw [List.eq_nil_of_length_eq_zero (show ns.length = 0 by rw [h.1, h0])]; rfl
  · obtain ⟨a, ha, hc⟩ := h.2.2 h0
    refine .inr ⟨a, ha, fun j u hj => ?_⟩
    have hj' : j < ns.length := by have := (List.getElem?_eq_some_iff.1 hj).1; rw [cs_len] at this; exact this
    rw [cs_at hj'] at hj
    cases hj
    have := hc j (by rw [← h.1]; exact hj')
    rw [List.getD_eq_getElem?_getD, List.getElem?_eq_getElem hj'] at this
    exact this
theorem wfU64 {x : Int} (h : (Lit.int IntKind.u64 x).wf = true) : 0 ≤ x ∧ x < 18446744073709551616 := by simp [Lit.wf, IntKind.min, IntKind.max, IntKind.signed, IntKind.bits] at h; omega
end Go.Proofs.YtggflkjdgcdcmaaGreatDoor.Eng
