/- Nibbles: the document's answer. -/
import Derived.Test.YtmenjjofmafacaaNibA
import Derived.Test.YtmenjjofmafacaaNibH
import Derived.Test.YtmenjjofmafacaaIntP
namespace Go.Proofs.Ytmenjjofmafacaa.Eng
open Go Go.RowKit Go.Proofs
set_option linter.unusedVariables false
set_option linter.unusedSimpArgs false
set_option maxRecDepth 1000000
def toI (ns : List Nat) : List Int := ns.map Int.ofNat
theorem toI_len (ns : List Nat) : (toI ns).length = ns.length := by simp [toI]
theorem toI_at (ns : List Nat) {i : Nat} (h : i < (toI ns).length) : (toI ns)[i] = ((ns.getD i 0 : Nat) : Int) := by
  have h' : i < ns.length := by rw [toI_len] at h; exact h
  simp [toI, List.getD_eq_getElem?_getD, List.getElem?_eq_getElem h']
abbrev rfO (q : Option Addr) (c : Nat) (ns : List Nat) : HP := inB q ns.length c (toI ns)
theorem make64 {e w : World} {F : List HP} {g N : Nat} (h : Own e w (blk g 3 (zrep [.int .i64 0] N) :: F)) (hN : N ≤ 1000000) : Own e w (rfO (some ⟨g, 0, none⟩) N (List.replicate N 0) :: F) := by
  have e1 : cs .i64 (toI (List.replicate N 0)) = List.replicate N (.int .i64 0) := by simp [cs, toI]
  show Own e w (slO 3 1 _ (List.replicate N 0).length N (cs .i64 (toI (List.replicate N 0))) :: F)
  rw [List.length_replicate, e1]
  refine Own.slMk (rest := []) (by simp) (Nat.le_refl _) (by unfold maxLen; omega) (by simp) ?_
  rw [zrep_one] at h
  rw [List.append_nil]; exact h
section
variable {e w : World} {F : List HP} {q : Option Addr} {c : Nat} {ns : List Nat}
theorem rfAdd_spec {i : Int} (h : Own e w (rfO q c ns :: F)) (hok : nbOk ns) (hl : ns.length ≤ 1000) : Rets Try.prog 53 #[.slice q ns.length c, .int .i64 i] w fun v w' => ∃ q' c', v = .tuple #[.slice q' (ngAdd ns i).length c', .bool (ngMay ns i)] ∧ Own e w' (rfO q' c' (ngAdd ns i) :: F) := by
  have no : ¬ (0 ≤ i ∧ i < ns.length ∧ ngGet ns i ≠ 15) → ngAdd ns i = ns ∧ ngMay ns i = false := fun hx => ⟨by unfold ngAdd; rw [if_neg hx], by unfold ngMay; exact decide_eq_false hx⟩
  refine cortadoref10_Add_go _ _ _ _ ⟨fun h0 => ⟨fun h1 => ?_, fun h1 => ?_⟩, fun h0 => ?_⟩
  · have h0 := dec_f h0; have h1 := dec_f h1
    obtain ⟨k, rfl⟩ := Int.eq_ofNat_of_zero_le (show 0 ≤ i by omega)
    have hk : k < (toI ns).length := by rw [toI_len]; omega
    have eg : ngGet ns (k : Int) = ns.getD k 0 := by unfold ngGet; rw [if_pos (by omega)]; simp
    refine ⟨by omega, by omega, h.slRd.int hk fun a ha => ⟨_, ha, fun h2 => ?_, fun h2 => ?_⟩⟩
    · have h2 := dec_t h2
      rw [toI_at ns hk] at h2
      have hlt := hok.at k
      obtain ⟨e1, e2⟩ := no (by rw [eg]; omega)
      rw [e1, e2]; exact ⟨_, _, rfl, h⟩
    · have h2 := dec_f h2
      rw [toI_at ns hk] at h2
      have hlt := hok.at k
      refine h.newR fun g w1 h => ?_
      refine app64 (empty64 h) h.drop.slRd (toI_len ns) (by omega) fun q' c' w2 h => ?_
      rw [List.nil_append] at h
      simp only [Nat.zero_add] at h ⊢
      have h : Own e w2 (inB q' ns.length c' (toI ns) :: F) := (Own.sub (h) (by repeat (first | exact Sub.nil _ | exact Sub.rfl _ | (apply Sub.cons; focus ((repeat (first | with_reducible exact Pick.here | apply Pick.there)); done)) | apply Sub.drop)))
      obtain ⟨a', rfl, hcell⟩ := h.slRd.addr (cs_at hk)
      refine ⟨_, _, _, rfl, by omega, by omega, (toI ns)[k], ?_, by omega, by omega, ?_⟩
      · rw [Int.toNat_natCast, Nat.mul_one]; exact hcell _ _ (cs_at hk)
      · have yes : 0 ≤ (k : Int) ∧ (k : Int) < ns.length ∧ ngGet ns (k : Int) ≠ 15 := by rw [eg]; omega
        have eadd : ngAdd ns (k : Int) = ns.set k (ngGet ns k + 1) := by unfold ngAdd; rw [if_pos yes]; simp
        have emay : ngMay ns (k : Int) = true := by unfold ngMay; exact decide_eq_true yes
        have hst := h.slStore (i := k) (us := [.int .i64 (IntKind.wrap IntKind.i64 ((toI ns)[k] + 1))]) (K := fun w3 => ∃ q'' c'', Value.tuple #[.slice (some a') ns.length c', .bool true] = .tuple #[.slice q'' (ngAdd ns (k : Int)).length c'', .bool (ngMay ns (k : Int))] ∧ Own e w3 (rfO q'' c'' (ngAdd ns (k : Int)) :: F))
          (by rw [cs_len]; simp; omega) (by simp) (by simp [Value.oneCell']) (fun w3 h => by
            refine ⟨some a', c', by rw [ngAdd_len, emay], ?_⟩
            rw [cs_set] at h
            have e3 : (toI ns).set k (IntKind.wrap IntKind.i64 ((toI ns)[k] + 1)) = toI (ngAdd ns (k : Int)) := by
              rw [toI_at ns hk, wI64 (by omega) (by omega), eadd, eg]
              unfold toI
              rw [List.map_set]
              rfl
            rw [e3] at h
            show Own e w3 (inB (some a') (ngAdd ns (k : Int)).length c' (toI (ngAdd ns (k : Int))) :: F)
            rw [ngAdd_len]; exact h)
        rw [Int.toNat_natCast, Nat.mul_one]
        exact hst
  · have h0 := dec_f h0; have h1 := dec_t h1
    obtain ⟨e1, e2⟩ := no (by omega)
    rw [e1, e2]; exact ⟨_, _, rfl, h⟩
  · have h0 := dec_t h0
    obtain ⟨e1, e2⟩ := no (by omega)
    rw [e1, e2]; exact ⟨_, _, rfl, h⟩
theorem ofIntSum (ns : List Nat) (i : Nat) (h : i < ns.length) : ((ns.take (i + 1)).sum : Int) = ((ns.take i).sum : Int) + (ns.getD i 0 : Nat) := by
  rw [sum_take ns i h]; omega
end
end Go.Proofs.Ytmenjjofmafacaa.Eng
