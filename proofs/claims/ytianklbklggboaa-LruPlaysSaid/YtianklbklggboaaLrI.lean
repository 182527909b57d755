/- Caches: more room, no less. -/
import Derived.Test.YtianklbklggboaaLrP
import Derived.Test.YtianklbklggboaaLrlG
namespace Go.Proofs.Ytianklbklggboaa.Eng
open Go Go.RowKit Go.Proofs
set_option linter.unusedVariables false
set_option linter.unusedSimpArgs false
set_option linter.unusedSectionVars false
set_option maxRecDepth 1000000
/-! ### awake -/
theorem evt_le {κ : Type} {xs : List (Row κ)} {lim : Int} {j : Nat} (h : Evt xs lim j) {i : Nat} (h1 : i ≤ xs.length) (h2 : us (xs.take i) ≤ lim) (h3 : ∀ k, i < k → k ≤ xs.length → lim < us (xs.take k)) : j = i := h.uniq ⟨h1, h2, h3⟩
section
variable {e w : World} {F : List HP}
abbrev bA : ByteArray := ⟨#[97]⟩
abbrev bB : ByteArray := ⟨#[98]⟩
abbrev bC : ByteArray := ⟨#[99]⟩
theorem lrAwake (h : Own e w F) : Rets Try.prog 5 #[] w fun v w' => v = .bool true ∧ Own e w' F := by
  refine cortadolaw49_awake_go (Rets.mono (lrNew_string h) ?_)
  rintro _ w ⟨g, rfl, h⟩
  have e0 : lcut 2 = 2 := by decide
  rw [e0] at h
  refine ⟨_, rfl, Rets.mono (lrPutOk_string (k := bA) ⟨by omega, by omega, by omega⟩ (by simp) h) ?_⟩
  rintro _ w ⟨q, c, j, hj, rfl, h⟩
  have d1 : drp ([] : List (Row ByteArray)) bA = [] := rfl
  rw [d1] at h hj
  have ej := evt_le hj (i := 0) (by simp) (by simp [us]) (fun k h1 h2 => absurd h1 (by simp at h2; omega))
  subst ej
  have h := h.drop
  refine ⟨_, _, _, _, rfl, Rets.mono (lrPutOk_string (k := bB) ⟨by omega, by omega, by omega⟩ (by simp) h) ?_⟩
  rintro _ w ⟨q, c, j, hj, rfl, h⟩
  have d2 : drp ((bA, (1 : Int), (1 : Int)) :: ([] : List (Row ByteArray)).take 0) bB = [(bA, 1, 1)] := by decide
  rw [d2] at h hj
  have ej := evt_le hj (i := 1) (by simp) (by simp [us]) (fun k h1 h2 => absurd h1 (by simp at h2; omega))
  subst ej
  have h := h.drop
  refine ⟨_, _, _, _, rfl, Rets.mono (lrGet_string (k := bA) h) ?_⟩
  rintro _ w ⟨rfl, h⟩
  have d3 : fst1 ((bB, (2 : Int), (1 : Int)) :: [(bA, (1 : Int), (1 : Int))].take 1) bA = [(bA, 1, 1), (bB, 2, 1)] := by decide
  rw [d3] at h
  refine ⟨_, _, rfl, Rets.mono (lrPutOk_string (k := bC) ⟨by omega, by omega, by omega⟩ (by simp) h) ?_⟩
  rintro _ w ⟨q, c, j, hj, rfl, h⟩
  have d4 : drp [(bA, (1 : Int), (1 : Int)), (bB, (2 : Int), (1 : Int))] bC = [(bA, 1, 1), (bB, 2, 1)] := by decide
  rw [d4] at h hj
  have ej := evt_le hj (i := 1) (by simp) (by simp [us]) (fun k h1 h2 => by
    have : k = 2 := by simp at h2; omega
    subst this; simp [us])
  subst ej
  rw [d4]
  obtain ⟨a, rfl, hc⟩ := (h.slRd).addr (j := 0) (u := .string bB) rfl
  have hc0 := hc 0 (.string bB) rfl
  refine ⟨_, _, _, _, rfl, fun _ => ⟨fun _ => ⟨by omega, by decide, smR ⟨_, hc0, fun _ => ?_, fun hh => ?_⟩⟩, fun hh => ?_⟩, fun hh => (by cases hh)⟩
  · refine Rets.mono (lrUsed_string h.drop) ?_
    rintro _ w ⟨rfl, rfl⟩
    exact ⟨_, rfl, rfl, h.drop.drop⟩
  · exact absurd (hh.symm.trans (beq_self_eq_true (ByteArray.toList bB))) Bool.false_ne_true
  · exact absurd hh (by decide)
end
/-! ### The plain law -/
def R1 (R : List Int) (k : Int) : List Int := k :: R.filter fun x => decide (x ≠ k)
theorem R1_nodup {R : List Int} {k : Int} (h : R.Nodup) : (R1 R k).Nodup := List.nodup_cons.2 ⟨fun hh => by simp at hh, h.filter _⟩
theorem R1_in {R : List Int} {k : Int} {m : Nat} (hn : R.Nodup) (h : k ∈ R.take (m + 1)) : (R1 R k).take (m + 1) = k :: (R.take (m + 1)).filter fun x => decide (x ≠ k) := by
  obtain ⟨l, r, e1⟩ := List.append_of_mem h
  have e2 : R = l ++ k :: (r ++ R.drop (m + 1)) := by
    have := List.take_append_drop (m + 1) R
    rw [e1] at this
    simpa using this.symm
  have hlen : l.length + 1 + r.length ≤ m + 1 := by
    have : (R.take (m + 1)).length ≤ m + 1 := by rw [List.length_take]; omega
    rw [e1] at this; simp at this; omega
  have hn2 := hn; rw [e2] at hn2
  have hl : ∀ x ∈ l, x ≠ k := fun x hx => (List.nodup_append.1 hn2).2.2 x hx k (by simp)
  have hr : ∀ x ∈ r ++ R.drop (m + 1), x ≠ k := fun x hx e => by
    subst e; exact (List.nodup_cons.1 (List.nodup_append.1 hn2).2.1).1 hx
  have f1 : R.filter (fun x => decide (x ≠ k)) = l ++ (r ++ R.drop (m + 1)) := by
    conv => lhs; rw [e2]
    rw [List.filter_append, List.filter_cons, if_neg (by simp), List.filter_eq_self.2 (fun x hx => by simpa using hl x hx), List.filter_eq_self.2 (fun x hx => by simpa using hr x hx)]
  have f2 : (R.take (m + 1)).filter (fun x => decide (x ≠ k)) = l ++ r := by
    rw [e1, List.filter_append, List.filter_cons, if_neg (by simp), List.filter_eq_self.2 (fun x hx => by simpa using hl x hx), List.filter_eq_self.2 (fun x hx => by simpa using hr x (by simp [hx]))]
  unfold R1
  rw [f1, f2, List.take_succ_cons]
  congr 1
  rw [← List.append_assoc]
  have e4 : R.length ≤ m + 1 ∧ R.drop (m + 1) = [] ∨ (l ++ r).length = m := by
    by_cases h5 : R.length ≤ m + 1
    · exact .inl ⟨h5, List.drop_eq_nil_of_le h5⟩
    · have : (R.take (m + 1)).length = m + 1 := by rw [List.length_take]; omega
      rw [e1] at this; simp at this
      right; simp; omega
  rcases e4 with ⟨_, e4⟩ | e4
  · rw [e4, List.append_nil, List.take_of_length_le (by simp; omega)]
  · rw [List.take_append_of_le_length (by omega), List.take_of_length_le (by omega)]
theorem R1_out {R : List Int} {k : Int} {m : Nat} (h : k ∉ R.take (m + 1)) : (R1 R k).take (m + 1) = k :: R.take m := by
  unfold R1
  rw [List.take_succ_cons]
  congr 1
  have h2 : ∀ x ∈ R.take m, x ≠ k := fun x hx e => h (by
    subst e
    exact List.take_subset_take_left R (by omega) hx)
  have e1 : R.filter (fun x => decide (x ≠ k)) = R.take m ++ (R.drop m).filter (fun x => decide (x ≠ k)) := by
    conv => lhs; rw [← List.take_append_drop m R]
    rw [List.filter_append, List.filter_eq_self.2 (fun x hx => by simpa using h2 x hx)]
  rw [e1]
  by_cases h5 : R.length ≤ m
  · rw [List.drop_eq_nil_of_le h5]; simp [List.take_take]
  · have : (R.take m).length = m := by rw [List.length_take]; omega
    rw [List.take_append_of_le_length (by omega), List.take_of_length_le (by omega)]
def IncR (a : Nat) (R : List Int) (xs : List (Row Int)) : Prop := xs.map Prod.fst = R.take a ∧ ∀ x ∈ xs, x.2.2 = 1
theorem lkp_mem {xs : List (Row Int)} {k : Int} : (lkp xs k).isSome = true ↔ k ∈ xs.map Prod.fst := by
  unfold lkp
  rw [List.find?_isSome]
  simp only [decide_eq_true_eq, List.mem_map]
theorem drp_keys {xs : List (Row Int)} {k : Int} : (drp xs k).map Prod.fst = (xs.map Prod.fst).filter fun x => decide (x ≠ k) := by
  unfold drp
  rw [List.filter_map]
  rfl
theorem us_ones : ∀ {xs : List (Row Int)}, (∀ x ∈ xs, x.2.2 = 1) → us xs = xs.length
  | [], _ => rfl
  | x :: xs, h => by
    have h1 := h x (by simp)
    have h2 := us_ones (xs := xs) fun y hy => h y (by simp [hy])
    simp only [us, List.length_cons]; omega
variable {a : Nat} {R : List Int} {xs : List (Row Int)} {k v : Int}
theorem IncR.get (h : IncR a R xs) (hn : R.Nodup) (hk : (lkp xs k).isSome = true) : IncR a (R1 R k) (fst1 xs k) := by
  obtain ⟨h1, h2⟩ := h
  have hm := lkp_mem.1 hk
  rw [h1] at hm
  obtain ⟨m, rfl⟩ : ∃ m, a = m + 1 := by
    cases a with
    | zero => simp at hm
    | succ m => exact ⟨m, rfl⟩
  cases hl : lkp xs k with
  | none => rw [hl] at hk; cases hk
  | some x =>
    have hx : x ∈ xs ∧ x.1 = k := by
      unfold lkp at hl
      exact ⟨List.mem_of_find?_eq_some hl, by simpa using List.find?_some hl⟩
    have e1 : fst1 xs k = x :: drp xs k := by unfold fst1; rw [hl]
    rw [e1]
    refine ⟨?_, fun y hy => ?_⟩
    · rw [List.map_cons, drp_keys, h1, hx.2, R1_in hn hm]
    · rcases List.mem_cons.1 hy with rfl | hy
      · exact h2 _ hx.1
      · exact h2 y (List.mem_filter.1 hy).1
theorem IncR.put (h : IncR a R xs) (ha : 1 ≤ a) (hk : (lkp xs k).isSome = false) {j : Nat} (hj : Evt (drp xs k) ((a : Int) - 1) j) : IncR a (R1 R k) ((k, v, 1) :: (drp xs k).take j) := by
  obtain ⟨h1, h2⟩ := h
  have hm : k ∉ xs.map Prod.fst := fun hh => by rw [lkp_mem.2 hh] at hk; cases hk
  have hd : drp xs k = xs := List.filter_eq_self.2 fun x hx => by
    have : x.1 ≠ k := fun e => hm (by rw [← e]; exact List.mem_map.2 ⟨x, hx, rfl⟩)
    simpa using this
  rw [hd] at hj ⊢
  obtain ⟨m, rfl⟩ : ∃ m, a = m + 1 := ⟨a - 1, by omega⟩
  have hu : ∀ i, i ≤ xs.length → us (xs.take i) = i := fun i hi => by
    rw [us_ones (fun x hx => h2 x (List.mem_of_mem_take hx)), List.length_take]; omega
  have hlen : xs.length ≤ m + 1 := by
    have : (xs.map Prod.fst).length ≤ m + 1 := by rw [h1, List.length_take]; omega
    simpa using this
  have ej : j = min xs.length m := by
    refine evt_le hj (by omega) ?_ fun i h3 h4 => ?_
    · rw [hu _ (by omega)]; omega
    · rw [hu _ h4]; omega
  refine ⟨?_, fun y hy => ?_⟩
  · rw [List.map_cons, List.map_take, h1]
    rw [h1] at hm
    rw [R1_out hm, ej, List.take_take]
    congr 1
    have hRl : xs.length = min (m + 1) R.length := by
      have := congrArg List.length h1
      rw [List.length_take] at this; simpa using this
    by_cases h5 : R.length ≤ m
    · rw [List.take_of_length_le (by omega), List.take_of_length_le (by omega)]
    · congr 1; omega
  · rcases List.mem_cons.1 hy with rfl | hy
    · rfl
    · exact h2 y (List.mem_of_mem_take hy)
theorem IncR.le {b : Nat} {ys : List (Row Int)} (h : IncR a R xs) (g : IncR b R ys) (hab : a ≤ b) (hk : (lkp xs k).isSome = true) : (lkp ys k).isSome = true := by
  rw [lkp_mem] at hk ⊢
  rw [h.1] at hk; rw [g.1]
  exact List.take_subset_take_left R hab hk
theorem IncR.len (h : IncR a R xs) : xs.length ≤ a := by
  have : (xs.map Prod.fst).length ≤ a := by rw [h.1, List.length_take]; omega
  simpa using this
theorem lrStep {e w : World} {F : List HP} {g : Nat} (h : IncR a R xs) (ha : a ≤ 24) (hk : (lkp xs k).isSome = false) (ho : Own e w (lru_int g a xs :: F)) : Rets Try.prog 8 #[.pointer (some ⟨g, 0, none⟩), .int .i64 k, .int .i64 v, .int .i64 1] w fun o w' => ∃ q k1 k2 b, o = .tuple #[.slice q k1 k2, .bool b] ∧ ∃ xs', IncR a (R1 R k) xs' ∧ Own e w' (lru_int g a xs' :: F) := by
  have hl := h.len
  by_cases h0 : 1 ≤ a
  · refine Rets.mono (lrPutOk_int ⟨by omega, by omega, by omega⟩ (by omega) ho) ?_
    rintro _ w ⟨q, c, j, hj, rfl, ho⟩
    exact ⟨_, _, _, _, rfl, _, h.put h0 hk hj, ho.drop⟩
  · obtain rfl : a = 0 := by omega
    refine Rets.mono (lrPutBad_int (by omega) ho) ?_
    rintro _ w ⟨rfl, rfl⟩
    have : xs = [] := List.length_eq_zero_iff.1 (by omega)
    subst this
    exact ⟨_, _, _, _, rfl, [], ⟨by simp, by simp⟩, ho⟩
theorem fst1_no (hk : (lkp xs k).isSome = false) : fst1 xs k = xs := by
  unfold fst1
  cases h : lkp xs k with
  | none => rfl
  | some x => rw [h] at hk; cases hk
/-! ### The law -/
theorem LruIncludes_spec {W : World} {q : Option Addr} {c : Nat} {L : List Int} {room more : Int} (hb : RdC W q (cs .i64 L)) (hm : L.length ≤ maxLen) (hc : L.length ≤ c) (hw : ∀ x ∈ L, (Lit.int .i64 x).wf = true) (hrw : (Lit.int .u64 room).wf = true) (hmw : (Lit.int .u64 more).wf = true) :
    Rets Try.prog 3 #[.slice q L.length c, .int .u64 room, .int .u64 more] W fun v w' => v = .bool true ∧ Below W.heap.size W w' := by
  refine Rets.mono (k := fun v w' => v = .bool true ∧ Own W w' [snap W]) ?_ (fun v w' h => ⟨h.1, h.2.below⟩)
  have h := Own.begin W
  have hrw := wfU64 hrw
  have hmw := wfU64 hmw
  have aw : ∀ {w}, Own W w [snap W] → Rets Try.prog 5 #[] w fun v w' => ∃ b, v = .bool b ∧ (Value.bool b = .bool true ∧ Own W w' [snap W]) := fun h => by
    refine Rets.mono (lrAwake h) ?_
    rintro _ w ⟨rfl, h⟩
    exact ⟨_, rfl, rfl, h⟩
  refine cortadolaw49_LruIncludes_go _ _ _ _ _ ⟨fun hx => aw h, fun hx => ⟨by decide, by decide, ?_⟩⟩
  have hx := dec_f hx
  have ea : IntKind.wrap .i64 (Int.tmod room 12) = ((room % 12).toNat : Int) := by
    rw [Int.tmod_eq_emod_of_nonneg (by omega), wI64 (by omega) (by omega)]; omega
  have eb : IntKind.wrap .i64 (((room % 12).toNat : Int) + IntKind.wrap .i64 (Int.tmod more 12)) = (((room % 12).toNat + (more % 12).toNat : Nat) : Int) := by
    rw [Int.tmod_eq_emod_of_nonneg (by omega), wI64 (n := more % 12) (by omega) (by omega), wI64 (by omega) (by omega)]; omega
  rw [ea, eb]
  have ha12 : (room % 12).toNat < 12 := by omega
  have hb12 : (room % 12).toNat + (more % 12).toNat < 24 := by omega
  have hab : (room % 12).toNat ≤ (room % 12).toNat + (more % 12).toNat := by omega
  generalize (room % 12).toNat + (more % 12).toNat = b at hb12 hab ⊢
  generalize (room % 12).toNat = a at ha12 hab ⊢
  have ca : lcut (a : Int) = a := by unfold lcut maxI minI; split <;> split <;> omega
  have cb : lcut (b : Int) = b := by unfold lcut maxI minI; split <;> split <;> omega
  refine Rets.mono (lrNew_int h) ?_
  rintro _ w ⟨g1, rfl, h⟩
  refine ⟨_, rfl, Rets.mono (lrNew_int h) ?_⟩
  rintro _ w ⟨g2, rfl, h⟩
  rw [ca, cb] at h
  have hR : ∀ {w : World} {xs ys : List (Row Int)}, Own W w (lru_int g1 a xs :: lru_int g2 b ys :: [snap W]) → RdC w q (cs .i64 L) := fun h => Own.snapRd (h.drop.drop) hb
  refine ⟨_, rfl, fun K vs w => ∃ (i : Nat) (R : List Int) (xs ys : List (Row Int)), vs = [.int .i64 (i : Int)] ∧ K + i = L.length ∧ R.Nodup ∧ IncR a R xs ∧ IncR b R ys ∧ Own W w (lru_int g1 a xs :: lru_int g2 b ys :: [snap W]), ⟨L.length, 0, [], [], [], rfl, rfl, List.nodup_nil, ⟨by simp, by simp⟩, ⟨by simp, by simp⟩, h.swap⟩, ?_⟩
  intro K w v1 n1
  intros
  rename_i hI
  obtain ⟨i, R, xs, ys, hvs, hKi, hn, hA, hB, h⟩ := hI
  obtain rfl : n1 = (i : Int) := by simpa using hvs
  refine ⟨fun hy => ?_, fun hy => ?_⟩
  · have hy := dec_t hy
    have hi : i < L.length := by omega
    obtain ⟨k, rdk⟩ : ∃ k : Int, ∀ {w : World} {xs ys : List (Row Int)}, Own W w (lru_int g1 a xs :: lru_int g2 b ys :: [snap W]) → ∀ {kk : Addr → Prop}, (∀ p, cellAt w (p.add ((i : Int).toNat * 1)) (.int .i64 k) → kk p) → someR q kk := ⟨L[i], fun h kk hk => RdC.int (hR h) hi fun p hp => hk p (by rw [Int.toNat_natCast]; exact hp)⟩
    have hla := hA.len
    have hlb := hB.len
    have hn1 := R1_nodup (k := k) hn
    refine ⟨by omega, hy, rdk h fun p hp => ⟨_, hp, Rets.mono (lrGet_int (k := k) h) ?_⟩⟩
    rintro _ w1 ⟨rfl, h⟩
    have hle := hA.le (k := k) hB hab
    refine ⟨_, _, rfl, by omega, hy, rdk h fun p hp => ⟨_, hp, Rets.mono (lrGet_int (k := k) h.swap) ?_⟩⟩
    rintro _ w2 ⟨rfl, h⟩
    have h := h.swap
    refine ⟨_, _, rfl, fun vs w' => vs = [.bool false] ∧ w' = w2, ⟨fun hs => ⟨by rw [hle hs]; rfl, rfl⟩, fun hs => ⟨rfl, rfl⟩⟩, ?_⟩
    intro w7 v101 v102 v103 v104 b4 hI
    obtain ⟨hv, rfl⟩ := hI
    obtain rfl : b4 = false := by simpa using hv
    refine ⟨fun _ w' => w' = w7, ⟨fun hc => (by cases hc), fun _ => rfl⟩, ?_⟩
    rintro w8 v105 rfl
    refine ⟨fun _ w' => ∃ xs', IncR a (R1 R k) xs' ∧ Own W w' (lru_int g1 a xs' :: lru_int g2 b (fst1 ys k) :: [snap W]), ⟨fun hs => ⟨by omega, hy, rdk h fun p hp => ⟨_, hp, ?_⟩⟩, fun hs => ⟨_, hA.get hn (by simpa using hs), h⟩⟩, ?_⟩
    · have hs : (lkp xs k).isSome = false := by simpa using hs
      rw [fst1_no hs] at h
      refine Rets.mono (lrStep hA (by omega) hs h) ?_
      rintro _ w ⟨q1, k1, k2, bb, rfl, xs', hA', h⟩
      exact ⟨_, _, _, _, rfl, xs', hA', h⟩
    intro w10
    intros
    rename_i hI
    obtain ⟨xs', hA', h⟩ := hI
    refine ⟨fun _ w' => ∃ ys', IncR b (R1 R k) ys' ∧ Own W w' (lru_int g1 a xs' :: lru_int g2 b ys' :: [snap W]), ⟨fun hs => ⟨by omega, hy, rdk h fun p hp => ⟨_, hp, ?_⟩⟩, fun hs => ⟨_, hB.get hn (by simpa using hs), h⟩⟩, ?_⟩
    · have hs : (lkp ys k).isSome = false := by simpa using hs
      rw [fst1_no hs] at h
      refine Rets.mono (lrStep hB (by omega) hs h.swap) ?_
      rintro _ w ⟨q1, k1, k2, bb, rfl, ys', hB', h⟩
      exact ⟨_, _, _, _, rfl, ys', hB', h.swap⟩
    intro w12
    intros
    rename_i hI
    obtain ⟨ys', hB', h⟩ := hI
    refine ⟨fun K vs w' => ∃ j : Nat, vs = [.int .i64 (j : Int)] ∧ K + j = i + 1 ∧ w' = w12, ⟨i + 1, 0, rfl, rfl, rfl⟩, ?_⟩
    intro K2 w13 v122 n8
    intros
    rename_i hI
    obtain ⟨j, hvs, hKj, rfl⟩ := hI
    obtain rfl : n8 = (j : Int) := by simpa using hvs
    refine ⟨fun hz => ?_, fun hz => ?_⟩
    · have hz := dec_t hz
      have hj : j < L.length := by omega
      refine ⟨by omega, by omega, RdC.int (hR h) hj fun p hp => ⟨_, by rw [Int.toNat_natCast]; exact hp, ?_⟩⟩
      refine Rets.mono (lrPeek_int (k := L[j]) h) ?_
      rintro _ w14 ⟨rfl, rfl⟩
      refine ⟨_, _, rfl, by omega, by omega, RdC.int (hR h) hj fun p hp => ⟨_, by rw [Int.toNat_natCast]; exact hp, ?_⟩⟩
      refine Rets.mono (lrPeek_int (k := L[j]) h.swap) ?_
      rintro _ w15 ⟨rfl, rfl⟩
      refine ⟨_, _, rfl, fun vs w' => vs = [.bool false] ∧ w' = w15, ⟨fun hs => ⟨by rw [hA'.le hB' hab hs]; rfl, rfl⟩, fun hs => ⟨rfl, rfl⟩⟩, ?_⟩
      intro w16
      intros
      rename_i b9 hI
      obtain ⟨hv, rfl⟩ := hI
      obtain rfl : b9 = false := by simpa using hv
      refine ⟨fun hc => (by cases hc), fun _ => ⟨K2 - 1, by omega, j + 1, ?_, by omega, rfl⟩⟩
      rw [wI64 (by omega) (by omega)]; rfl
    · have hz := dec_f hz
      have hBa : us xs' ≤ (a : Int) := by
        obtain ⟨_, _, _, _, _, _, _, _, hB, _⟩ := lru_int_op h
        exact hB.2.1
      have hBb : us ys' ≤ (b : Int) := by
        obtain ⟨_, _, _, _, _, _, _, _, hB, _⟩ := lru_int_op h.swap
        exact hB.2.1
      refine ⟨fun vs w' => vs = [.bool false] ∧ w' = w13, Rets.mono (lrUsed_int h) ?_, ?_⟩
      · rintro _ w17 ⟨rfl, rfl⟩
        refine ⟨_, rfl, fun _ => Rets.mono (lrUsed_int h.swap) ?_, fun hc => ?_⟩
        · rintro _ w18 ⟨rfl, rfl⟩
          refine ⟨_, rfl, ?_, rfl⟩
          rw [decide_eq_false (by omega)]
        · have hc := dec_t hc; omega
      · intro w19
        intros
        rename_i b10 hI
        obtain ⟨hv, rfl⟩ := hI
        obtain rfl : b10 = false := by simpa using hv
        refine ⟨fun hc => (by cases hc), fun _ => ⟨K - 1, by omega, i + 1, R1 R k, xs', ys', ?_, by omega, hn1, hA', hB', h⟩⟩
        rw [wI64 (by omega) (by omega)]; rfl
  · exact aw h.drop.drop
end Go.Proofs.Ytianklbklggboaa.Eng
