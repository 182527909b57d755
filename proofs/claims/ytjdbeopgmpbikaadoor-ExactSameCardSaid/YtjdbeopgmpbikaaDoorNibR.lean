/- Rows of nibbles: sums, a new one, none; what one counter is to another. -/
import Derived.Test.YtjdbeopgmpbikaaDoorNibQ
import Derived.Test.YtjdbeopgmpbikaaDoorEngU
namespace Go.Proofs.YtjdbeopgmpbikaaDoor.Eng
open Go Go.RowKit Go.Proofs
set_option linter.unusedVariables false
set_option linter.unusedSimpArgs false
set_option maxRecDepth 1000000

theorem ngAdd_len (ns : List Nat) (i : Int) : (ngAdd ns i).length = ns.length := by unfold ngAdd; split <;> simp
theorem ngGet_lt {ns : List Nat} (h : nbOk ns) (i : Int) : ngGet ns i < 16 := by
  unfold ngGet
  split
  · exact h.at _
  · omega
theorem ngAdd_ok {ns : List Nat} (h : nbOk ns) (i : Int) : nbOk (ngAdd ns i) := by
  unfold ngAdd
  split
  · rename_i hc
    have := ngGet_lt h i
    exact h.set (by omega)
  · exact h
theorem ngGet_ne {ns : List Nat} {i k : Int} (h : i ≠ k) : ngGet (ngAdd ns i) k = ngGet ns k := by
  unfold ngGet
  rw [ngAdd_len]
  split
  · rename_i hk
    unfold ngAdd
    split
    · rename_i hi
      rw [getD_set _ _ _ _ (by omega), if_neg (by omega)]
    · rfl
  · rfl
theorem ngGet_eq {ns : List Nat} (h : nbOk ns) (i : Int) : ngGet (ngAdd ns i) i = if 0 ≤ i ∧ i < ns.length then min 15 (ngGet ns i + 1) else 0 := by
  have hlt := ngGet_lt h i
  by_cases hi : 0 ≤ i ∧ i < ns.length
  · rw [if_pos hi]
    unfold ngAdd
    by_cases hf : ngGet ns i = 15
    · rw [if_neg (by omega), hf]; rfl
    · rw [if_pos ⟨hi.1, hi.2, hf⟩]
      have e1 : ngGet (ns.set i.toNat (ngGet ns i + 1)) i = ngGet ns i + 1 := by
        generalize hx : ngGet ns i + 1 = x
        unfold ngGet
        rw [List.length_set, if_pos hi, getD_set _ _ _ _ (by omega), if_pos rfl]
      rw [e1]; omega
  · rw [if_neg hi]
    unfold ngGet
    rw [ngAdd_len, if_neg hi]
theorem nbOk_zero (n : Nat) : nbOk (List.replicate n 0) := fun x hx => by rw [List.eq_of_mem_replicate hx]; omega
theorem ngGet_zero (n : Nat) (i : Int) : ngGet (List.replicate n 0) i = 0 := by
  unfold ngGet
  split
  · rw [List.getD_eq_getElem?_getD, List.getElem?_replicate]; split <;> rfl
  · rfl
theorem maxmin {n : Int} : maxI (0 : Int) (minI n (65536 : Int)) = ((max 0 (min n 65536)).toNat : Int) := by
  unfold maxI minI
  split <;> split <;> omega
section
variable {e w : World} {F : List HP} {g : Nat} {ns : List Nat}
theorem nNew_spec {n : Int} {N : Nat} (h : Own e w F) (hN : (max 0 (min n 65536)).toNat = N) : Rets Tryd.prog 39 #[.int .i64 n] w fun v w' => ∃ g, v = .pointer (some ⟨g, 0, none⟩) ∧ Own e w' (rowO g (List.replicate N 0) :: F) := by
  refine nibble_New_go _ ⟨by omega, ?_⟩
  rw [maxmin, hN]
  have hN2 : N ≤ 65536 := by omega
  have e1 : IntKind.wrap IntKind.i64 (Int.tdiv (IntKind.wrap IntKind.i64 ((N : Int) + 1)) 2) = (((N + 1) / 2 : Nat) : Int) := by
    rw [wI64 (n := (N : Int) + 1) (by omega) (by omega), Int.tdiv_eq_ediv_of_nonneg (by omega), wI64 (by omega) (by omega)]; omega
  rw [e1]
  refine h.makeR ⟨by omega, by omega, by omega, by omega⟩ fun g w1 h => h.newR fun g2 w2 h => ⟨g2, rfl, ?_⟩
  simp only [Int.toNat_natCast] at h ⊢
  rw [zrep_one, ← cs_rep, ← pk_zero] at h
  refine rowO.cl (q := some ⟨g, 0, none⟩) (c := (N + 1) / 2) ?_
  rw [List.length_replicate]
  refine Own.swap (Own.slMk (rest := []) ?_ (Nat.le_refl _) (by unfold maxLen; omega) ?_ ?_)
  · rw [cs_len, pk_len]; simp
  · rw [List.append_nil, cs_len, pk_len]; simp
  · rw [List.append_nil]; exact h.swap
def ngSum (ns : List Nat) : Nat := ns.sum
theorem sum_take (ns : List Nat) (i : Nat) (h : i < ns.length) : (ns.take (i + 1)).sum = (ns.take i).sum + ns.getD i 0 := by
  rw [List.take_succ_eq_append_getElem h, List.sum_append, List.getD_eq_getElem?_getD, List.getElem?_eq_getElem h]; simp
theorem sum_bound : ∀ {ns : List Nat}, nbOk ns → ns.sum ≤ 15 * ns.length
  | [], _ => by simp
  | x :: r, h => by
    have h1 := sum_bound (ns := r) (fun y hy => h y (List.mem_cons_of_mem _ hy))
    have h2 := h x (List.mem_cons_self ..)
    simp; omega
end
end Go.Proofs.YtjdbeopgmpbikaaDoor.Eng
