/- Rows of nibbles: what each function of the program does. -/
import Derived.Test.YtjdbeopgmpbikaaDoorEngT
import Derived.Test.YtjdbeopgmpbikaaDoorNibG
namespace Go.Proofs.YtjdbeopgmpbikaaDoor.Eng
open Go Go.RowKit Go.Proofs
set_option linter.unusedVariables false
set_option linter.unusedSimpArgs false
set_option maxRecDepth 1000000

/-! ### Bytes of two counters -/
/-- The bytes of counters. -/
def pk (ns : List Nat) : List Int := (List.range ((ns.length + 1) / 2)).map fun j => ((ns.getD (2 * j) 0 + 16 * ns.getD (2 * j + 1) 0 : Nat) : Int)
theorem pk_len (ns : List Nat) : (pk ns).length = (ns.length + 1) / 2 := by simp [pk]
theorem pk_at (ns : List Nat) {j : Nat} (h : j < (pk ns).length) : (pk ns)[j] = ((ns.getD (2 * j) 0 + 16 * ns.getD (2 * j + 1) 0 : Nat) : Int) := by simp [pk]
theorem nb_get : ∀ lo < 16, ∀ hi < 16, Go.bits BinOp.and IntKind.u8 (shrI IntKind.u8 ((lo + 16 * hi : Nat) : Int) 0) 15 = (lo : Int) ∧ Go.bits BinOp.and IntKind.u8 (shrI IntKind.u8 ((lo + 16 * hi : Nat) : Int) 4) 15 = (hi : Int) := by decide +kernel
theorem nb_halve : ∀ lo < 16, ∀ hi < 16, Go.bits BinOp.and IntKind.u8 (shrI IntKind.u8 ((lo + 16 * hi : Nat) : Int) 1) 119 = ((lo / 2 + 16 * (hi / 2) : Nat) : Int) := by decide +kernel
theorem nb_one : shlI IntKind.u8 1 0 = 1 ∧ shlI IntKind.u8 1 4 = 16 := by decide +kernel
/-- All are counters. -/
def nbOk (ns : List Nat) : Prop := ∀ x ∈ ns, x < 16
theorem nbOk.at {ns : List Nat} (h : nbOk ns) (i : Nat) : ns.getD i 0 < 16 := by
  rw [List.getD_eq_getElem?_getD]
  rcases Nat.lt_or_ge i ns.length with hi | hi
  · rw [List.getElem?_eq_getElem hi]; exact h _ (List.getElem_mem hi)
  · rw [List.getElem?_eq_none hi]; simp
theorem nbOk.set {ns : List Nat} (h : nbOk ns) {i x : Nat} (hx : x < 16) : nbOk (ns.set i x) := fun y hy => by
  rcases List.mem_or_eq_of_mem_set hy with hy | rfl
  · exact h y hy
  · exact hx
def ngGet (ns : List Nat) (i : Int) : Nat := if 0 ≤ i ∧ i < ns.length then ns.getD i.toNat 0 else 0
def ngAdd (ns : List Nat) (i : Int) : List Nat := if 0 ≤ i ∧ i < ns.length ∧ ngGet ns i ≠ 15 then ns.set i.toNat (ngGet ns i + 1) else ns
def ngMay (ns : List Nat) (i : Int) : Bool := decide (0 ≤ i ∧ i < ns.length ∧ ngGet ns i ≠ 15)
theorem getD_set (ns : List Nat) (i j x : Nat) (hi : i < ns.length) : (ns.set i x).getD j 0 = if i = j then x else ns.getD j 0 := by
  rw [List.getD_eq_getElem?_getD, List.getD_eq_getElem?_getD, List.getElem?_set]
  by_cases h : i = j
  · subst h; simp [hi]
  · simp [h]
theorem pk_set (ns : List Nat) (i x : Nat) (hi : i < ns.length) : pk (ns.set i x) = (pk ns).set (i / 2) (((ns.set i x).getD (2 * (i / 2)) 0 + 16 * (ns.set i x).getD (2 * (i / 2) + 1) 0 : Nat) : Int) := by
  apply List.ext_getElem?
  intro j
  unfold pk
  rw [List.length_set, List.getElem?_set]
  simp only [List.getElem?_map, List.length_map, List.length_range]
  rcases Nat.lt_or_ge j ((ns.length + 1) / 2) with hj | hj
  · rw [List.getElem?_range hj]
    by_cases hij : i / 2 = j
    · rw [if_pos hij, if_pos (by omega), hij]; rfl
    · rw [if_neg hij]
      simp only [Option.map_some]
      rw [getD_set ns i (2 * j) x hi, getD_set ns i (2 * j + 1) x hi, if_neg (by omega), if_neg (by omega)]
  · rw [List.getElem?_eq_none (l := List.range _) (by simpa using hj), if_neg (by omega)]; simp
/-! ### The program -/
def rowO (g : Nat) (ns : List Nat) : HP := exH fun q => exH fun c => allH [blk g 105 [.slice q ((ns.length + 1) / 2) c, .int .i64 (ns.length : Int)], slO 5 1 q ((ns.length + 1) / 2) c (cs .u8 (pk ns))]
section
variable {e w : World} {F : List HP} {g : Nat} {ns : List Nat}
theorem rowO.op (h : Own e w (rowO g ns :: F)) : ∃ q c, Own e w (blk g 105 [.slice q ((ns.length + 1) / 2) c, .int .i64 (ns.length : Int)] :: slO 5 1 q ((ns.length + 1) / 2) c (cs .u8 (pk ns)) :: F) := by
  obtain ⟨q, h⟩ := h.ex
  obtain ⟨c, h⟩ := h.ex
  exact ⟨q, c, h.open_⟩
theorem rowO.cl {q : Option Addr} {c : Nat} (h : Own e w (blk g 105 [.slice q ((ns.length + 1) / 2) c, .int .i64 (ns.length : Int)] :: slO 5 1 q ((ns.length + 1) / 2) c (cs .u8 (pk ns)) :: F)) : Own e w (rowO g ns :: F) :=
  (Own.close_ (l := [_, _]) h |>.mkEx c).mkEx q
theorem nLen_spec (h : Own e w (rowO g ns :: F)) : Rets Tryd.prog 74 #[.pointer (some ⟨g, 0, none⟩)] w fun v w' => v = .int .i64 (ns.length : Int) ∧ Own e w' (rowO g ns :: F) := by
  obtain ⟨q, c, h⟩ := rowO.op h
  exact nibble_Row_Len_go _ ⟨fun hc => (by cases hc), fun _ => ⟨_, h.cellAdd 1 rfl, rfl, rowO.cl h⟩⟩
theorem nIn_spec {i : Int} (h : Own e w (rowO g ns :: F)) : Rets Tryd.prog 63 #[.pointer (some ⟨g, 0, none⟩), .int .i64 i] w fun v w' => v = .bool (decide (0 ≤ i ∧ i < ns.length)) ∧ Own e w' (rowO g ns :: F) := by
  refine nibble_Row_in_go _ _ ⟨fun hc => ?_, fun hc => ?_⟩
  · refine Rets.mono (nLen_spec h) ?_
    rintro v w1 ⟨rfl, h⟩
    have := dec_t hc
    refine ⟨_, rfl, ?_, h⟩
    congr 1
    exact decide_eq_decide.2 ⟨fun x => ⟨this, x⟩, fun x => x.2⟩
  · have := dec_f hc
    refine ⟨?_, h⟩
    rw [decide_eq_false (fun x => this x.1)]
theorem nBits_spec {i : Int} {F : List HP} (h : Own e w F) (h0 : 0 ≤ i) : Rets Tryd.prog 64 #[.int .i64 i] w fun v w' => v = .int .u64 (if i.toNat % 2 = 0 then 0 else 4) ∧ Own e w' F := by
  refine nibble_bits_go _ ⟨by omega, fun hc => ?_, fun hc => ?_⟩
  · have := beq_t hc
    rw [Int.tmod_eq_emod_of_nonneg h0] at this
    rw [if_pos (by omega)]; exact ⟨rfl, h⟩
  · have := beq_f hc
    rw [Int.tmod_eq_emod_of_nonneg h0] at this
    rw [if_neg (by omega)]; exact ⟨rfl, h⟩
theorem nGet_spec {i : Int} (h : Own e w (rowO g ns :: F)) (hok : nbOk ns) (hl : ns.length ≤ 65536) : Rets Tryd.prog 51 #[.pointer (some ⟨g, 0, none⟩), .int .i64 i] w fun v w' => v = .int .i64 (ngGet ns i : Int) ∧ Own e w' (rowO g ns :: F) := by
  refine nibble_Row_Get_go _ _ ?_
  refine Rets.mono (nIn_spec h) ?_
  rintro v w1 ⟨rfl, h⟩
  refine ⟨_, rfl, fun hc => ?_, fun hc => ?_⟩
  · have hc : ¬ (0 ≤ i ∧ i < ns.length) := by have := hc; simp at this; omega
    unfold ngGet; rw [if_neg hc]; exact ⟨rfl, h⟩
  · have hc : 0 ≤ i ∧ i < ns.length := by simpa using hc
    obtain ⟨k, rfl⟩ := Int.eq_ofNat_of_zero_le hc.1
    have hk : k < ns.length := by omega
    obtain ⟨q, c, h⟩ := rowO.op h
    refine h.drw fun w2 h => ⟨fun w => Own e w (blk g 105 [.slice q ((ns.length + 1) / 2) c, .int .i64 (ns.length : Int)] :: slO 5 1 q ((ns.length + 1) / 2) c (cs .u8 (pk ns)) :: F), h, by omega, _, _, _, fun w hS => Own.cellAdd hS 0 rfl, ?_⟩
    have e1 : IntKind.wrap IntKind.i64 (Int.tdiv (k : Int) 2) = ((k / 2 : Nat) : Int) := by rw [Int.tdiv_eq_ediv_of_nonneg (by omega), wI64 (by omega) (by omega)]; omega
    rw [e1]
    have hj : k / 2 < (pk ns).length := by rw [pk_len]; omega
    obtain ⟨a, rfl, ha⟩ := h.drop.slRd.addr (cs_at hj)
    refine ⟨by omega, by omega, (pk ns)[k / 2], fun w hS => ?_, ?_⟩
    · have := (Own.drop hS).slRd.addr (cs_at hj)
      obtain ⟨a', ha', hc'⟩ := this
      cases ha'
      have := hc' (k / 2) _ (cs_at hj)
      rw [Nat.mul_one]; exact this
    · refine Rets.mono (nBits_spec h (by omega)) ?_
      rintro v w5 ⟨rfl, h⟩
      refine ⟨_, rfl, h, by split <;> omega, ?_, rowO.cl h⟩
      have h1 := nb_get _ (hok.at (2 * (k / 2))) _ (hok.at (2 * (k / 2) + 1))
      rw [pk_at ns hj]
      unfold ngGet
      rw [if_pos hc]
      have hv := hok.at k
      simp only [Int.toNat_natCast]
      by_cases hp : k % 2 = 0
      · rw [if_pos hp, h1.1, show 2 * (k / 2) = k by omega, wI64 (by omega) (by omega)]
      · rw [if_neg hp, h1.2, show 2 * (k / 2) + 1 = k by omega, wI64 (by omega) (by omega)]
theorem nAdd_spec {i : Int} (h : Own e w (rowO g ns :: F)) (hok : nbOk ns) (hl : ns.length ≤ 65536) : Rets Tryd.prog 44 #[.pointer (some ⟨g, 0, none⟩), .int .i64 i] w fun v w' => v = .bool (ngMay ns i) ∧ Own e w' (rowO g (ngAdd ns i) :: F) := by
  refine nibble_Row_Add_go _ _ ?_
  refine Rets.mono (nIn_spec h) ?_
  rintro v w1 ⟨rfl, h⟩
  refine ⟨_, rfl, fun hc => ?_, fun hc => ?_⟩
  · have hc : 0 ≤ i ∧ i < ns.length := by simpa using hc
    refine Rets.mono (nGet_spec h hok hl) ?_
    rintro v w2 ⟨rfl, h⟩
    refine ⟨_, rfl, fun hc2 => ?_, fun hc2 => ?_⟩
    · have hc2 := beq_t hc2
      have hno : ¬ (0 ≤ i ∧ i < ns.length ∧ ngGet ns i ≠ 15) := by omega
      unfold ngMay ngAdd
      rw [if_neg hno, decide_eq_false hno]; exact ⟨rfl, h⟩
    · have hc2 := beq_f hc2
      have hyes : 0 ≤ i ∧ i < ns.length ∧ ngGet ns i ≠ 15 := ⟨hc.1, hc.2, by omega⟩
      obtain ⟨k, rfl⟩ := Int.eq_ofNat_of_zero_le hc.1
      have hk : k < ns.length := by omega
      have ev : ngGet ns (k : Int) = ns.getD k 0 := by unfold ngGet; rw [if_pos hc]; simp
      obtain ⟨q, c, h⟩ := rowO.op h
      refine h.drw fun w2 h => ⟨fun w => Own e w (blk g 105 [.slice q ((ns.length + 1) / 2) c, .int .i64 (ns.length : Int)] :: slO 5 1 q ((ns.length + 1) / 2) c (cs .u8 (pk ns)) :: F), h, by omega, _, _, _, fun w hS => Own.cellAdd hS 0 rfl, ?_⟩
      have e1 : IntKind.wrap IntKind.i64 (Int.tdiv (k : Int) 2) = ((k / 2 : Nat) : Int) := by rw [Int.tdiv_eq_ediv_of_nonneg (by omega), wI64 (by omega) (by omega)]; omega
      rw [e1]
      have hj : k / 2 < (pk ns).length := by rw [pk_len]; omega
      obtain ⟨a, rfl, ha⟩ := h.drop.slRd.addr (cs_at hj)
      refine ⟨by omega, by omega, (pk ns)[k / 2], fun w hS => ?_, ?_⟩
      · have := (Own.drop hS).slRd.addr (cs_at hj)
        obtain ⟨a', ha', hc'⟩ := this
        cases ha'
        have := hc' (k / 2) _ (cs_at hj)
        rw [Nat.mul_one]; exact this
      · refine Rets.mono (nBits_spec h (by omega)) ?_
        rintro v w5 ⟨rfl, h⟩
        refine ⟨_, rfl, h, by split <;> omega, by omega, by omega, ?_⟩
        have hlo := hok.at (2 * (k / 2))
        have hhi := hok.at (2 * (k / 2) + 1)
        have enew : IntKind.wrap IntKind.u8 ((pk ns)[k / 2] + shlI IntKind.u8 1 (if (k : Int).toNat % 2 = 0 then 0 else 4)) = (((ns.set k (ngGet ns k + 1)).getD (2 * (k / 2)) 0 + 16 * (ns.set k (ngGet ns k + 1)).getD (2 * (k / 2) + 1) 0 : Nat) : Int) := by
          rw [pk_at ns hj, getD_set _ _ _ _ hk, getD_set _ _ _ _ hk, ev]
          rw [ev] at hyes
          simp only [Int.toNat_natCast]
          by_cases hp : k % 2 = 0
          · rw [if_pos hp, nb_one.1, if_pos (by omega), if_neg (by omega)]
            rw [show 2 * (k / 2) = k by omega] at hlo hhi ⊢
            have := hyes.2.2
            rw [wU8' (by omega) (by omega)]; omega
          · rw [if_neg hp, nb_one.2, if_neg (by omega), if_pos (by omega)]
            rw [show 2 * (k / 2) + 1 = k by omega] at hhi ⊢
            have := hyes.2.2
            rw [wU8' (by omega) (by omega)]; omega
        rw [enew]
        have hst := h.swap.slStore (i := k / 2) (us := [.int .u8 (((ns.set k (ngGet ns k + 1)).getD (2 * (k / 2)) 0 + 16 * (ns.set k (ngGet ns k + 1)).getD (2 * (k / 2) + 1) 0 : Nat) : Int)]) (K := fun w7 => Value.bool true = .bool (ngMay ns k) ∧ Own e w7 (rowO g (ngAdd ns k) :: F))
          (by rw [cs_len]; simp; omega) (by simp) (by simp [Value.oneCell']) (fun w7 h => by
            rw [cs_set, ← pk_set ns k _ hk] at h
            refine ⟨by unfold ngMay; rw [decide_eq_true hyes], ?_⟩
            unfold ngAdd
            rw [if_pos hyes]
            refine rowO.cl (q := some a) (c := c) ?_
            simp only [Int.toNat_natCast, List.length_set]
            exact h.swap)
        rw [Int.toNat_natCast, Nat.mul_one]
        exact hst
  · have hc : ¬ (0 ≤ i ∧ i < ns.length) := by have := hc; simp at this; omega
    have hno : ¬ (0 ≤ i ∧ i < ns.length ∧ ngGet ns i ≠ 15) := fun x => hc ⟨x.1, x.2.1⟩
    unfold ngMay ngAdd
    rw [if_neg hno, decide_eq_false hno]; exact ⟨rfl, h⟩
end
end Go.Proofs.YtjdbeopgmpbikaaDoor.Eng
