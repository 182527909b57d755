/- Rows of nibbles: halved, cleared, told, summed; a new one; none. -/
import Derived.Test.YtjdbeopgmpbikaaDoorNibP
import Derived.Test.YtjdbeopgmpbikaaDoorBytP
namespace Go.Proofs.YtjdbeopgmpbikaaDoor.Eng
open Go Go.RowKit Go.Proofs
set_option linter.unusedVariables false
set_option linter.unusedSimpArgs false
set_option maxRecDepth 1000000

/-! ### Lists that are turned from the front -/
def upto {α : Type} (f : α → α) (l : List α) (i : Nat) : List α := (l.take i).map f ++ l.drop i
theorem upto_len {α : Type} (f : α → α) (l : List α) (i : Nat) : (upto f l i).length = l.length := by simp [upto]; omega
theorem upto_zero {α : Type} (f : α → α) (l : List α) : upto f l 0 = l := by simp [upto]
theorem upto_all {α : Type} (f : α → α) (l : List α) : upto f l l.length = l.map f := by simp [upto]
theorem upto_at {α : Type} (f : α → α) (l : List α) (i : Nat) (h : i < l.length) : (upto f l i)[i]'(by rw [upto_len]; exact h) = l[i] := by
  unfold upto
  rw [List.getElem_append_right (by simp; omega)]
  simp [Nat.min_eq_left (Nat.le_of_lt h)]
theorem upto_set {α : Type} (f : α → α) (l : List α) (i : Nat) (h : i < l.length) : (upto f l i).set i (f l[i]) = upto f l (i + 1) := by
  unfold upto
  have e : i - ((l.take i).map f).length = 0 := by simp; omega
  rw [List.set_append_right _ _ (by simp; omega), e, List.drop_eq_getElem_cons h, List.set_cons_zero, List.take_succ_eq_append_getElem h, List.map_append, List.append_assoc]
  rfl
def nbHv (b : Int) : Int := Go.bits BinOp.and IntKind.u8 (shrI IntKind.u8 b 1) 119
def ngHalve (ns : List Nat) : List Nat := ns.map (· / 2)
theorem getD_map_half (ns : List Nat) (i : Nat) : (ngHalve ns).getD i 0 = ns.getD i 0 / 2 := by
  unfold ngHalve
  rw [List.getD_eq_getElem?_getD, List.getD_eq_getElem?_getD, List.getElem?_map]
  cases ns[i]? <;> simp
theorem pk_halve {ns : List Nat} (h : nbOk ns) : (pk ns).map nbHv = pk (ngHalve ns) := by
  unfold pk
  rw [List.map_map, show (ngHalve ns).length = ns.length by simp [ngHalve]]
  refine List.map_congr_left fun j _ => ?_
  rw [getD_map_half, getD_map_half]
  exact nb_halve _ (h.at _) _ (h.at _)
theorem pk_zero (n : Nat) : pk (List.replicate n 0) = List.replicate ((n + 1) / 2) 0 := by
  have hz : ∀ i, (List.replicate n 0).getD i 0 = 0 := fun i => by
    rw [List.getD_eq_getElem?_getD]
    rcases Nat.lt_or_ge i n with h | h
    · rw [List.getElem?_replicate, if_pos h]; rfl
    · rw [List.getElem?_replicate, if_neg (by omega)]; rfl
  unfold pk
  simp only [hz, List.length_replicate]
  rw [List.map_const']
  simp
theorem cs_rep (kd : IntKind) (n : Nat) (x : Int) : cs kd (List.replicate n x) = List.replicate n (.int kd x) := by simp [cs]
section
variable {e w : World} {F : List HP} {g : Nat} {ns : List Nat}
theorem nHalve_spec (h : Own e w (rowO g ns :: F)) (hok : nbOk ns) (hl : ns.length ≤ 65536) : Rets Tryd.prog 65 #[.pointer (some ⟨g, 0, none⟩)] w fun v w' => v = .tuple #[] ∧ Own e w' (rowO g (ngHalve ns) :: F) := by
  refine nibble_Row_Halve_go _ ⟨fun hc => (by cases hc), fun _ => ?_⟩
  obtain ⟨q, c, h⟩ := rowO.op h
  have ell : (pk ns).length = (ns.length + 1) / 2 := pk_len ns
  refine ⟨_, _, _, h.cellAdd 0 rfl, fun m vs w => ∃ i : Nat, vs = [.int .i64 (i : Int)] ∧ m + i = (pk ns).length ∧ Own e w (blk g 105 [.slice q ((ns.length + 1) / 2) c, .int .i64 (ns.length : Int)] :: slO 5 1 q ((ns.length + 1) / 2) c (cs .u8 (upto nbHv (pk ns) i)) :: F), ⟨(pk ns).length, 0, rfl, rfl, by rw [upto_zero]; exact h⟩, ?_⟩
  rintro m w1 v1 v2 n1
  intros
  rename_i hI
  obtain ⟨i, hvs, hm, h⟩ := hI
  obtain rfl : n1 = (i : Int) := by simpa using hvs
  refine ⟨fun hc => ?_, fun hc => ?_⟩
  · have hc := dec_t hc
    have hi : i < (pk ns).length := by omega
    have hi' : i < (upto nbHv (pk ns) i).length := by rw [upto_len]; exact hi
    obtain ⟨a, rfl, ha⟩ := h.drop.slRd.addr (cs_at hi')
    refine ⟨by omega, by omega, (pk ns)[i], ?_, _, _, _, h.cellAdd 0 rfl, by omega, by omega, by omega, ?_⟩
    · have := ha i _ (cs_at hi')
      rw [upto_at _ _ _ hi] at this
      rw [Int.toNat_natCast, Nat.mul_one]; exact this
    · have hst := h.swap.slStore (i := i) (us := [.int .u8 (nbHv (pk ns)[i])]) (K := fun w2 => ∃ k7 : Nat, k7 < m ∧ ∃ i' : Nat, [Value.int .i64 (IntKind.wrap IntKind.i64 ((i : Int) + 1))] = [.int .i64 (i' : Int)] ∧ k7 + i' = (pk ns).length ∧ Own e w2 (blk g 105 [.slice (some a) ((ns.length + 1) / 2) c, .int .i64 (ns.length : Int)] :: slO 5 1 (some a) ((ns.length + 1) / 2) c (cs .u8 (upto nbHv (pk ns) i')) :: F))
        (by rw [cs_len, upto_len]; simp; omega) (by simp) (by simp [Value.oneCell']) (fun w2 h => by
          rw [cs_set, upto_set _ _ _ hi] at h
          refine ⟨m - 1, by omega, i + 1, ?_, by omega, h.swap⟩
          rw [wI64 (by omega) (by omega)]; simp)
      rw [Int.toNat_natCast, Nat.mul_one]
      exact hst
  · have hc := dec_f hc
    obtain rfl : i = (pk ns).length := by omega
    rw [upto_all, pk_halve hok] at h
    refine ⟨rfl, rowO.cl (q := q) (c := c) ?_⟩
    rw [show (ngHalve ns).length = ns.length by simp [ngHalve]]
    exact h
/-! ### What is not 0, in order -/
end
end Go.Proofs.YtjdbeopgmpbikaaDoor.Eng
