/- Nibbles: the document's answer. -/
import Derived.Test.YtfcddffcjmgpkaaNibA
import Derived.Test.YtfcddffcjmgpkaaNibH
import Derived.Test.YtfcddffcjmgpkaaIntP
namespace Go.Proofs.Ytfcddffcjmgpkaa.Eng
open Go Go.RowKit Go.Proofs
set_option linter.unusedVariables false
set_option linter.unusedSimpArgs false
set_option maxRecDepth 1000000
def toI (ns : List Nat) : List Int := ns.map Int.ofNat
theorem toI_len (ns : List Nat) : (toI ns).length = ns.length := by simp [toI]
theorem toI_at (ns : List Nat) {i : Nat} (h : i < (toI ns).length) : (toI ns)[i] = ((ns.getD i 0 : Nat) : Int) := by
  have h' : i < ns.length := by rw [toI_len] at h; exact h
  simp [toI, List.getD_eq_getElem?_getD, List.getElem?_eq_getElem h']
abbrev rfO (q : Option Addr) (c : Nat) (ns : List Nat) : HP := inB q ns.length c (toI ns)
section
variable {e w : World} {F : List HP} {q : Option Addr} {c : Nat} {ns : List Nat}
theorem rfAdd_spec {i : Int} (h : Own e w (rfO q c ns :: F)) (hok : nbOk ns) (hl : ns.length ≤ 1000) : Rets Try.prog 37 #[.slice q ns.length c, .int .i64 i] w fun v w' => ∃ q' c', v = .tuple #[.slice q' (ngAdd ns i).length c', .bool (ngMay ns i)] ∧ Own e w' (rfO q' c' (ngAdd ns i) :: F) := by
  have no : ¬ (0 ≤ i ∧ i < ns.length ∧ ngGet ns i ≠ 15) → ngAdd ns i = ns ∧ ngMay ns i = false := fun hx => ⟨by unfold ngAdd; rw [if_neg hx], by unfold ngMay; exact decide_eq_false hx⟩
  refine cortadoref10_Add_go _ _ _ _ ⟨fun h0 => ⟨fun h1 => ?_, fun h1 => ?_⟩, fun h0 => ?_⟩
  · have h0 := dec_f h0; have h1 := dec_f h1
    obtain ⟨k, rfl⟩ := Int.eq_ofNat_of_zero_le (show 0 ≤ i by omega)
    have hk : k < (toI ns).length := by rw [toI_len]; omega
    have eg : ngGet ns (k : Int) = ns.getD k 0 := by unfold ngGet; rw [if_pos (by omega)]; simp
    refine ⟨by omega, by omega, h.slRd.int hk fun a ha => ⟨_, ha, fun h2 => ?_, fun h2 => ?_⟩⟩
    · have h2 := dec_t h2
      rw [toI_at ns hk] at h2
      have hlt := hok.at k
      obtain ⟨e1, e2⟩ := no (by rw [eg]; omega)
      rw [e1, e2]; exact ⟨_, _, rfl, h⟩
    · have h2 := dec_f h2
      rw [toI_at ns hk] at h2
      have hlt := hok.at k
      refine h.newR fun g w1 h => ?_
      refine app64 (empty64 h) h.drop.slRd (toI_len ns) (by omega) fun q' c' w2 h => ?_
      rw [List.nil_append] at h
      simp only [Nat.zero_add] at h ⊢
      have h : Own e w2 (inB q' ns.length c' (toI ns) :: F) := (Own.sub (h) (by repeat (first | exact Sub.nil _ | exact Sub.rfl _ | (apply Sub.cons; focus ((repeat (first | with_reducible exact Pick.here | apply Pick.there)); done)) | apply Sub.drop)))
      obtain ⟨a', rfl, hcell⟩ := h.slRd.addr (cs_at hk)
      refine ⟨_, _, _, rfl, by omega, by omega, (toI ns)[k], ?_, by omega, by omega, ?_⟩
      · rw [Int.toNat_natCast, Nat.mul_one]; exact hcell _ _ (cs_at hk)
      · have yes : 0 ≤ (k : Int) ∧ (k : Int) < ns.length ∧ ngGet ns (k : Int) ≠ 15 := by rw [eg]; omega
        have eadd : ngAdd ns (k : Int) = ns.set k (ngGet ns k + 1) := by unfold ngAdd; rw [if_pos yes]; simp
        have emay : ngMay ns (k : Int) = true := by unfold ngMay; exact decide_eq_true yes
        have hst := h.slStore (i := k) (us := [.int .i64 (IntKind.wrap IntKind.i64 ((toI ns)[k] + 1))]) (K := fun w3 => ∃ q'' c'', Value.tuple #[.slice (some a') ns.length c', .bool true] = .tuple #[.slice q'' (ngAdd ns (k : Int)).length c'', .bool (ngMay ns (k : Int))] ∧ Own e w3 (rfO q'' c'' (ngAdd ns (k : Int)) :: F))
          (by rw [cs_len]; simp; omega) (by simp) (by simp [Value.oneCell']) (fun w3 h => by
            refine ⟨some a', c', by rw [ngAdd_len, emay], ?_⟩
            rw [cs_set] at h
            have e3 : (toI ns).set k (IntKind.wrap IntKind.i64 ((toI ns)[k] + 1)) = toI (ngAdd ns (k : Int)) := by
              rw [toI_at ns hk, wI64 (by omega) (by omega), eadd, eg]
              unfold toI
              rw [List.map_set]
              rfl
            rw [e3] at h
            show Own e w3 (inB (some a') (ngAdd ns (k : Int)).length c' (toI (ngAdd ns (k : Int))) :: F)
            rw [ngAdd_len]; exact h)
        rw [Int.toNat_natCast, Nat.mul_one]
        exact hst
  · have h0 := dec_f h0; have h1 := dec_t h1
    obtain ⟨e1, e2⟩ := no (by omega)
    rw [e1, e2]; exact ⟨_, _, rfl, h⟩
  · have h0 := dec_t h0
    obtain ⟨e1, e2⟩ := no (by omega)
    rw [e1, e2]; exact ⟨_, _, rfl, h⟩
theorem rfGet_spec {i : Int} (h : Own e w F) (hr : RdC w q (cs .i64 (toI ns))) : Rets Try.prog 36 #[.slice q ns.length c, .int .i64 i] w fun v w' => v = .int .i64 (ngGet ns i : Int) ∧ Own e w' F := by
  refine cortadoref10_Get_go _ _ _ _ ⟨fun h0 => ⟨fun h1 => ?_, fun h1 => ?_⟩, fun h0 => ?_⟩
  · have h0 := dec_f h0; have h1 := dec_t h1
    unfold ngGet; rw [if_neg (by omega)]; exact ⟨rfl, h⟩
  · have h0 := dec_f h0; have h1 := dec_f h1
    obtain ⟨k, rfl⟩ := Int.eq_ofNat_of_zero_le (show 0 ≤ i by omega)
    have hk : k < (toI ns).length := by rw [toI_len]; omega
    refine ⟨by omega, by omega, hr.int hk fun a ha => ⟨_, ha, ?_, h⟩⟩
    rw [toI_at ns hk]; unfold ngGet; rw [if_pos (by omega)]; simp
  · have h0 := dec_t h0
    unfold ngGet; rw [if_neg (by omega)]; exact ⟨rfl, h⟩
theorem rfHalve_spec (h : Own e w F) (hr : ∀ w, Own e w F → RdC w q (cs .i64 (toI ns))) (hok : nbOk ns) (hl : ns.length ≤ 1000) : Rets Try.prog 33 #[.slice q ns.length c] w fun v w' => ∃ q' c', v = .slice q' (ngHalve ns).length c' ∧ Own e w' (rfO q' c' (ngHalve ns) :: F) := by
  refine cortadoref10_Halve_go _ _ _ ?_
  refine ⟨fun m vs w => ∃ (i : Nat) (q' : Option Addr) (c' : Nat), vs = [.slice q' i c', .int .i64 (i : Int)] ∧ m + i = ns.length ∧ Own e w (inB q' i c' (toI (ngHalve (ns.take i))) :: F), ⟨ns.length, 0, none, 0, rfl, rfl, h.slNil⟩, ?_⟩
  rintro m w1 q1 k3 k4 n1
  intros
  rename_i hI
  obtain ⟨i, q', c', hvs, hm, h⟩ := hI
  obtain ⟨⟨rfl, rfl, rfl⟩, rfl⟩ : (q1 = q' ∧ k3 = i ∧ k4 = c') ∧ n1 = (i : Int) := by simpa using hvs
  refine ⟨fun hc => ?_, fun hc => ?_⟩
  · have hc := dec_t hc
    have hi : k3 < ns.length := by omega
    have hi' : k3 < (toI ns).length := by rw [toI_len]; exact hi
    refine ⟨by omega, by omega, (hr _ h.drop).int hi' fun a ha => ⟨_, ha, by omega, h.newR fun g w2 h => ?_⟩⟩
    have hlt := hok.at k3
    rw [toI_at ns hi', Int.tdiv_eq_ediv_of_nonneg (by omega), wI64 (by omega) (by omega)] at h
    refine put64 (ys := [((ns.getD k3 0 : Nat) : Int) / 2]) h rfl (by omega) fun q' c' w3 h => ⟨_, _, _, rfl, m - 1, by omega, k3 + 1, q', c', ?_, by omega, ?_⟩
    · rw [wI64 (by omega) (by omega)]; rfl
    · have e1 : toI (ngHalve (ns.take (k3 + 1))) = toI (ngHalve (ns.take k3)) ++ [((ns.getD k3 0 : Nat) : Int) / 2] := by
        rw [List.take_succ_eq_append_getElem hi, List.getD_eq_getElem?_getD, List.getElem?_eq_getElem hi]
        unfold toI ngHalve
        rw [List.map_append, List.map_append]
        rfl
      rw [e1]; exact h
  · have hc := dec_f hc
    obtain rfl : k3 = ns.length := by omega
    rw [List.take_length] at h
    have e1 : (ngHalve ns).length = ns.length := by simp [ngHalve]
    refine ⟨_, _, by rw [e1], ?_⟩
    show Own e w1 (inB q1 (ngHalve ns).length k4 (toI (ngHalve ns)) :: F)
    rw [e1]; exact h
theorem rfBytes_spec (h : Own e w F) (hr : ∀ w, Own e w F → RdC w q (cs .i64 (toI ns))) (hok : nbOk ns) (hl : ns.length ≤ 1000) : Rets Try.prog 98 #[.slice q ns.length c] w fun v w' => ∃ q' c', v = .slice q' (pk ns).length c' ∧ Own e w' (byB q' (pk ns).length c' (pk ns) :: F) := by
  refine cortadoref10_Bytes_go _ _ _ ?_
  have ell : (pk ns).length = (ns.length + 1) / 2 := pk_len ns
  refine ⟨fun m vs w => ∃ (i : Nat) (q' : Option Addr) (c' : Nat), vs = [.slice q' i c', .int .i64 ((2 * i : Nat) : Int)] ∧ m + i = (pk ns).length ∧ Own e w (byB q' i c' ((pk ns).take i) :: F), ⟨(pk ns).length, 0, none, 0, rfl, rfl, h.slNil⟩, ?_⟩
  rintro m w1 q1 k3 k4 n1
  intros
  rename_i hI
  obtain ⟨i, q', c', hvs, hm, h⟩ := hI
  obtain ⟨⟨rfl, rfl, rfl⟩, rfl⟩ : (q1 = q' ∧ k3 = i ∧ k4 = c') ∧ n1 = ((2 * i : Nat) : Int) := by simpa using hvs
  refine ⟨fun hc => ?_, fun hc => ?_⟩
  · have hc := dec_t hc
    have hi : 2 * k3 < ns.length := by omega
    have hi' : 2 * k3 < (toI ns).length := by rw [toI_len]; exact hi
    have hp : k3 < (pk ns).length := by omega
    refine h.drw fun w2 h => ?_
    obtain ⟨a, rfl, hW⟩ := (hr _ h.drop).addr (cs_at hi')
    refine ⟨fun w => Own e w F, h.drop, by omega, by omega, (toI ns)[2 * k3], fun w hS => ?_, ?_⟩
    · obtain ⟨a', ha', hc'⟩ := (hr _ hS).addr (cs_at hi')
      cases ha'
      rw [Int.toNat_natCast, Nat.mul_one]; exact hc' _ _ (cs_at hi')
    have hlo := hok.at (2 * k3)
    have hhi := hok.at (2 * k3 + 1)
    rw [wI64 (n := ((2 * k3 : Nat) : Int) + 1) (by omega) (by omega)]
    refine Rets.mono (rfGet_spec (ns := ns) (i := ((2 * k3 : Nat) : Int) + 1) h (hr _ h.drop)) ?_
    rintro v w4 ⟨rfl, h⟩
    have eg : ngGet ns (((2 * k3 : Nat) : Int) + 1) = ns.getD (2 * k3 + 1) 0 := by
      unfold ngGet
      split
      · congr 1
      · rw [List.getD_eq_getElem?_getD, List.getElem?_eq_none (by omega)]; rfl
    refine ⟨_, rfl, h.drop, h.newR fun g w5 h => ?_⟩
    rw [toI_at ns hi', eg, wI64 (n := 16 * ((ns.getD (2 * k3 + 1) 0 : Nat) : Int)) (by omega) (by omega), wI64 (by omega) (by omega), wU8' (by omega) (by omega)] at h
    refine put8 (a := ⟨g, 0, none⟩) (ys := [((ns.getD (2 * k3) 0 : Nat) : Int) + 16 * ((ns.getD (2 * k3 + 1) 0 : Nat) : Int)]) h rfl (by omega) fun q' c' w6 h => ⟨_, _, _, rfl, m - 1, by omega, k3 + 1, q', c', ?_, by omega, ?_⟩
    · rw [wI64 (by omega) (by omega)]
      simp; omega
    · rw [List.take_succ_eq_append_getElem hp, pk_at ns hp]
      have e2 : ((ns.getD (2 * k3) 0 + 16 * ns.getD (2 * k3 + 1) 0 : Nat) : Int) = ((ns.getD (2 * k3) 0 : Nat) : Int) + 16 * ((ns.getD (2 * k3 + 1) 0 : Nat) : Int) := by omega
      rw [e2]; exact h
  · have hc := dec_f hc
    obtain rfl : k3 = (pk ns).length := by omega
    rw [List.take_length] at h
    exact ⟨_, _, rfl, h⟩
theorem ofIntSum (ns : List Nat) (i : Nat) (h : i < ns.length) : ((ns.take (i + 1)).sum : Int) = ((ns.take i).sum : Int) + (ns.getD i 0 : Nat) := by
  rw [sum_take ns i h]; omega
theorem stands_spec {g : Nat} (h : Own e w (rowO g ns :: rfO q c ns :: F)) (hok : nbOk ns) (hl : ns.length ≤ 1000) : Rets Try.prog 39 #[.pointer (some ⟨g, 0, none⟩), .slice q ns.length c] w fun v w' => v = .bool true ∧ Own e w' (rowO g ns :: rfO q c ns :: F) := by
  refine cortadolaw10_stands_go _ _ _ _ ?_
  have hb : ∀ i, (ns.take i).sum ≤ 15 * 1000 := fun i => by
    have h1 := sum_bound (ns := ns.take i) (fun x hx => hok x (List.mem_of_mem_take hx))
    have : (ns.take i).length ≤ ns.length := by simp; omega
    omega
  refine ⟨fun m vs w => ∃ i : Nat, vs = [.int .i64 ((ns.take i).sum : Nat), .int .i64 (i : Int)] ∧ m + i = ns.length ∧ Own e w (rowO g ns :: rfO q c ns :: F), ⟨ns.length, 0, rfl, rfl, h⟩, ?_⟩
  rintro m w1 v1 n1 n2
  intros
  rename_i hI
  obtain ⟨i, hvs, hm, h⟩ := hI
  obtain ⟨rfl, rfl⟩ : n1 = ((ns.take i).sum : Nat) ∧ n2 = (i : Int) := by simpa using hvs
  refine ⟨fun hc => ?_, fun hc => ?_⟩
  · have hc := dec_t hc
    have hi : i < ns.length := by omega
    have hi' : i < (toI ns).length := by rw [toI_len]; exact hi
    refine h.drw fun w2 h => ?_
    obtain ⟨a, rfl, hW⟩ := h.drop.slRd.addr (cs_at hi')
    refine ⟨fun w => Own e w (rowO g ns :: rfO (some a) c ns :: F), h, by omega, by omega, (toI ns)[i], fun w hS => ?_, ?_⟩
    · obtain ⟨a', ha', hc'⟩ := (Own.drop hS).slRd.addr (cs_at hi')
      cases ha'
      rw [Int.toNat_natCast, Nat.mul_one]; exact hc' _ _ (cs_at hi')
    refine Rets.mono (nGet_spec (i := (i : Int)) h hok (by omega)) ?_
    rintro v w4 ⟨rfl, h⟩
    have eg : ngGet ns (i : Int) = ns.getD i 0 := by unfold ngGet; rw [if_pos (by omega)]; simp
    rw [eg, toI_at ns hi']
    refine ⟨_, rfl, h, fun hx => (by simp at hx), fun _ => ⟨by omega, by omega, h.drop.slRd.int hi' fun a2 ha2 => ⟨_, ha2, m - 1, by omega, i + 1, ?_, by omega, h⟩⟩⟩
    have := hb (i + 1)
    have e1 := ofIntSum ns i hi
    rw [toI_at ns hi', wI64 (n := ((ns.take i).sum : Nat) + ((ns.getD i 0 : Nat) : Int)) (by omega) (by omega), wI64 (by omega) (by omega), ← e1]
    simp
  · have hc := dec_f hc
    obtain rfl : i = ns.length := by omega
    rw [List.take_length]
    refine h.drw fun w5 h => ⟨fun w => Own e w (rowO g ns :: rfO q c ns :: F), h, ?_⟩
    refine Rets.mono (nLen_spec h) ?_
    rintro v w6 ⟨rfl, h⟩
    refine ⟨_, rfl, h, fun _ => ?_, fun hx => (by simp at hx)⟩
    refine Rets.mono (nSum_spec h hok (by omega)) ?_
    rintro v w7 ⟨rfl, h⟩
    refine ⟨_, rfl, h, fun _ => ?_, fun hx => (by simp at hx)⟩
    refine Rets.mono (nBytes_spec h (by omega)) ?_
    rintro v w8 ⟨q1, c1, rfl, h⟩
    have hpl : (pk ns).length ≤ 1000 := by rw [pk_len]; omega
    refine ⟨_, _, _, rfl, fun w => Own e w (byB q1 (pk ns).length c1 (pk ns) :: rowO g ns :: rfO q c ns :: F), fun w hS => Own.drop hS, h, _, strSame (ns := pk ns) (e := 5) (by kernel_rfl) (by kernel_rfl) (by kernel_rfl) rfl (by omega) (fun w hS => Own.slRd hS), _, rfl, ?_⟩
    refine Rets.mono (rfBytes_spec (ns := ns) h (fun w h => h.drop.drop.slRd) hok hl) ?_
    rintro v w10 ⟨q2, c2, rfl, h⟩
    refine ⟨_, _, _, rfl, fun w => Own e w (byB q2 (pk ns).length c2 (pk ns) :: byB q1 (pk ns).length c1 (pk ns) :: rowO g ns :: rfO q c ns :: F), fun w hS => Own.drop hS, h, _, strSame (ns := pk ns) (e := 5) (by kernel_rfl) (by kernel_rfl) (by kernel_rfl) rfl (by omega) (fun w hS => Own.slRd hS), _, rfl, ?_, h.drop.drop⟩
    simp
end
end Go.Proofs.Ytfcddffcjmgpkaa.Eng
