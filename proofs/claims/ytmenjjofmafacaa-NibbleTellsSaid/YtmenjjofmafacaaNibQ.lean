/- Rows of nibbles: halved, cleared, told, summed; a new one; none. -/
import Derived.Test.YtmenjjofmafacaaNibP
import Derived.Test.YtmenjjofmafacaaBytP
namespace Go.Proofs.Ytmenjjofmafacaa.Eng
open Go Go.RowKit Go.Proofs
set_option linter.unusedVariables false
set_option linter.unusedSimpArgs false
set_option maxRecDepth 1000000

/-! ### Lists that are turned from the front -/
def upto {α : Type} (f : α → α) (l : List α) (i : Nat) : List α := (l.take i).map f ++ l.drop i
theorem upto_len {α : Type} (f : α → α) (l : List α) (i : Nat) : (upto f l i).length = l.length := by simp [upto]; omega
theorem upto_zero {α : Type} (f : α → α) (l : List α) : upto f l 0 = l := by simp [upto]
theorem upto_all {α : Type} (f : α → α) (l : List α) : upto f l l.length = l.map f := by simp [upto]
theorem upto_at {α : Type} (f : α → α) (l : List α) (i : Nat) (h : i < l.length) : (upto f l i)[i]'(by rw [upto_len]; exact h) = l[i] := by
  unfold upto
  rw [List.getElem_append_right (by simp; omega)]
  simp [Nat.min_eq_left (Nat.le_of_lt h)]
theorem upto_set {α : Type} (f : α → α) (l : List α) (i : Nat) (h : i < l.length) : (upto f l i).set i (f l[i]) = upto f l (i + 1) := by
  unfold upto
  have e : i - ((l.take i).map f).length = 0 := by simp; omega
  rw [List.set_append_right _ _ (by simp; omega), e, List.drop_eq_getElem_cons h, List.set_cons_zero, List.take_succ_eq_append_getElem h, List.map_append, List.append_assoc]
  rfl
def nbHv (b : Int) : Int := Go.bits BinOp.and IntKind.u8 (shrI IntKind.u8 b 1) 119
def ngHalve (ns : List Nat) : List Nat := ns.map (· / 2)
theorem getD_map_half (ns : List Nat) (i : Nat) : (ngHalve ns).getD i 0 = ns.getD i 0 / 2 := by
  unfold ngHalve
  rw [List.getD_eq_getElem?_getD, List.getD_eq_getElem?_getD, List.getElem?_map]
  cases ns[i]? <;> simp
theorem pk_halve {ns : List Nat} (h : nbOk ns) : (pk ns).map nbHv = pk (ngHalve ns) := by
  unfold pk
  rw [List.map_map, show (ngHalve ns).length = ns.length by simp [ngHalve]]
  refine List.map_congr_left fun j _ => ?_
  rw [getD_map_half, getD_map_half]
  exact nb_halve _ (h.at _) _ (h.at _)
theorem pk_zero (n : Nat) : pk (List.replicate n 0) = List.replicate ((n + 1) / 2) 0 := by
  have hz : ∀ i, (List.replicate n 0).getD i 0 = 0 := fun i => by
    rw [List.getD_eq_getElem?_getD]
    rcases Nat.lt_or_ge i n with h | h
    · rw [List.getElem?_replicate, if_pos h]; rfl
    · rw [List.getElem?_replicate, if_neg (by omega)]; rfl
  unfold pk
  simp only [hz, List.length_replicate]
  rw [List.map_const']
  simp
theorem cs_rep (kd : IntKind) (n : Nat) (x : Int) : cs kd (List.replicate n x) = List.replicate n (.int kd x) := by simp [cs]
section
variable {e w : World} {F : List HP} {g : Nat} {ns : List Nat}
theorem nBytes_spec (h : Own e w (rowO g ns :: F)) (hl : ns.length ≤ 65536) : Rets Try.prog 76 #[.pointer (some ⟨g, 0, none⟩)] w fun v w' => ∃ q' c', v = .slice q' (pk ns).length c' ∧ Own e w' (byB q' (pk ns).length c' (pk ns) :: rowO g ns :: F) := by
  refine nibble_Row_Bytes_go _ ⟨fun hc => (by cases hc), fun _ => ?_⟩
  obtain ⟨q, c, h⟩ := rowO.op h
  refine ⟨_, _, _, h.cellAdd 0 rfl, ?_⟩
  rw [← pk_len]
  refine Rets.mono (Clone_spec (bs := pk ns) h (fun w h => h.drop.slRd) (by rw [pk_len]; omega)) ?_
  rintro v w1 ⟨q', c', rfl, h⟩
  exact ⟨_, _, _, rfl, _, _, rfl, (rowO.cl ((h.at 2).at 2)).swap⟩
/-! ### What is not 0, in order -/
theorem nAll_spec {q : Option Addr} (h : Own e w F) : Rets Try.prog 54 #[.pointer q] w fun v w' => ∃ b, v = .func (.func 79) #[] #[.pointer (some ⟨b, 0, none⟩)] ∧ Own e w' (blk b 75 [.pointer q] :: F) :=
  nibble_Row_All_go _ (h.newR fun b w1 h => ⟨b, rfl, h⟩)
/-- The rounds: state i: what is ahead of i has been told. -/
theorem nAll1_spec {l b : Nat} {Fr : Nat → List HP} {Fin : World → Prop} (hok : nbOk ns) (hl : ns.length ≤ 65536)
    (hr : ∀ (i : Nat) w, i < ns.length → 0 < ns.getD i 0 → Own e w (blk b 75 [.pointer (some ⟨g, 0, none⟩)] :: rowO g ns :: Fr i) →
      RoundR Try.prog l #[.int .i64 (i : Int), .int .i64 (ns.getD i 0 : Nat)] w fun v w' => (v = .bool true ∧ Own e w' (blk b 75 [.pointer (some ⟨g, 0, none⟩)] :: rowO g ns :: Fr (i + 1))) ∨ (v = .bool false ∧ Fin w'))
    (hs : ∀ (i : Nat) w, i < ns.length → ns.getD i 0 = 0 → Own e w (blk b 75 [.pointer (some ⟨g, 0, none⟩)] :: rowO g ns :: Fr i) → Own e w (blk b 75 [.pointer (some ⟨g, 0, none⟩)] :: rowO g ns :: Fr (i + 1)))
    (h : Own e w (blk b 75 [.pointer (some ⟨g, 0, none⟩)] :: rowO g ns :: Fr 0)) :
    Rets Try.prog 79 #[.func (.yield l) #[] #[], .pointer (some ⟨b, 0, none⟩)] w fun v w' => Own e w' (blk b 75 [.pointer (some ⟨g, 0, none⟩)] :: rowO g ns :: Fr ns.length) ∨ Fin w' := by
  refine nibble_Row_All_1_go _ _ ⟨_, h.cellAdd 0 rfl, ?_⟩
  refine Rets.mono (nLen_spec h.swap) ?_
  rintro v w1 ⟨rfl, h⟩
  refine ⟨_, rfl, fun m vs w => ∃ i : Nat, vs = [.int .i64 (i : Int)] ∧ m + i = ns.length ∧ Own e w (blk b 75 [.pointer (some ⟨g, 0, none⟩)] :: rowO g ns :: Fr i), ⟨ns.length, 0, rfl, rfl, h.swap⟩, ?_⟩
  rintro m w2 v2 v3 n2
  intros
  rename_i hI
  obtain ⟨i, hvs, hm, h⟩ := hI
  obtain rfl : n2 = (i : Int) := by simpa using hvs
  refine ⟨fun hc => ?_, fun hc => ?_⟩
  · have hc := dec_t hc
    have hi : i < ns.length := by omega
    have eg : ngGet ns (i : Int) = ns.getD i 0 := by unfold ngGet; rw [if_pos (by omega)]; simp
    refine ⟨_, h.cellAdd 0 rfl, ?_⟩
    refine Rets.mono (nGet_spec (i := (i : Int)) h.swap hok hl) ?_
    rintro v w3 ⟨rfl, h⟩
    rw [eg]
    refine ⟨_, rfl, fun hp => ?_, fun hp => ?_⟩
    · have hp := dec_t hp
      refine RoundR.mono (hr i w3 hi (by omega) h.swap) ?_
      rintro v w4 (⟨rfl, h⟩ | ⟨rfl, h⟩)
      · refine ⟨_, rfl, fun hx => (by cases hx), fun _ => ⟨m - 1, by omega, i + 1, ?_, by omega, h⟩⟩
        rw [wI64 (by omega) (by omega)]; simp
      · exact ⟨_, rfl, fun _ => .inr h, fun hx => (by cases hx)⟩
    · have hp := dec_f hp
      refine ⟨m - 1, by omega, i + 1, ?_, by omega, hs i w3 hi (by omega) h.swap⟩
      rw [wI64 (by omega) (by omega)]; simp
  · have hc := dec_f hc
    obtain rfl : i = ns.length := by omega
    exact .inl h
end
end Go.Proofs.Ytmenjjofmafacaa.Eng
