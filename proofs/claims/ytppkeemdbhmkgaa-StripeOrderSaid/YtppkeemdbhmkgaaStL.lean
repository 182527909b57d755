/- StripeOrder: for any batch and texts the law answers true. -/
import Derived.Test.YtppkeemdbhmkgaaStQ
import Derived.Test.YtppkeemdbhmkgaaEngA
namespace Go.Proofs.Ytppkeemdbhmkgaa.Eng
open Go Go.RowKit Go.Proofs
set_option linter.unusedVariables false
set_option linter.unusedSimpArgs false
set_option maxRecDepth 1000000
theorem flat_lenN {α : Type} {N : Nat} : ∀ {cs : List (List α)}, (∀ c ∈ cs, c.length = N) → cs.flatten.length = cs.length * N
  | [], _ => by simp
  | c :: r, h => by
    rw [List.flatten_cons, List.length_append, h c (by simp), flat_lenN (fun x hx => h x (by simp [hx])), List.length_cons, Nat.add_mul]; omega
theorem div_of {a k N r : Nat} (h : a = k * N + r) (hr : r < N) : a / N = k ∧ a % N = r := by
  have hN : 0 < N := by omega
  constructor
  · rw [h, Nat.add_comm, Nat.add_mul_div_right _ _ hN, Nat.div_eq_of_lt hr, Nat.zero_add]
  · rw [h, Nat.add_comm, Nat.add_mul_mod_self_right, Nat.mod_eq_of_lt hr]
theorem tdivN {a N : Nat} (ha : a ≤ 100000) : IntKind.wrap .i64 (Int.tdiv (a : Int) (N : Int)) = ((a / N : Nat) : Int) := by
  have e : Int.tdiv (a : Int) (N : Int) = ((a / N : Nat) : Int) := by rw [Int.tdiv_eq_ediv_of_nonneg (by omega)]; rfl
  have h2 : a / N ≤ a := Nat.div_le_self _ _
  rw [e]
  generalize a / N = d at h2 ⊢
  rw [wI64 (by omega) (by omega)]
theorem tmodN {a N : Nat} : Int.tmod (a : Int) (N : Int) = ((a % N : Nat) : Int) := by
  rw [Int.tmod_eq_emod_of_nonneg (by omega)]; rfl
theorem idx0 {n : Nat} (hn : n = 2) : Int.tmod (maxI 0 0) (n : Int) = ((0 : Nat) : Int) := by subst hn; rfl
theorem idx1 {n : Nat} (hn : n = 2) : Int.tmod (maxI 1 0) (n : Int) = ((1 : Nat) : Int) := by subst hn; rfl
/-- What stands in a buffer of two lanes. -/
structure StI (N : Nat) (L : List ByteArray) (i : Nat) (p0 p1 : Ln_string) (ws : List Bt_string) : Prop where
  ok0 : LnOk_string N p0
  ok1 : LnOk_string N p1
  flat : (ws.map (·.2)).flatten ++ p0.2.2 = L.take i
  each : ∀ c ∈ ws.map (·.2), c.length = N
theorem StI.cg {N : Nat} {L : List ByteArray} {i : Nat} {p0 p1 p1' : Ln_string} {ws ws' : List Bt_string} (h : StI N L i p0 p1 ws) (ok : LnOk_string N p1') (hw : ws'.map (·.2) = ws.map (·.2)) : StI N L i p0 p1' ws' :=
  ⟨h.ok0, ok, by rw [hw]; exact h.flat, by rw [hw]; exact h.each⟩
theorem LnOk_string.lt {N : Nat} {p : Ln_string} (hN : 1 ≤ N) (h : LnOk_string N p) : p.2.2.length < N := by
  rcases h with ⟨_, _, h⟩ | ⟨_, _, _, h⟩
  · rw [h]; simp; omega
  · exact h
theorem StI.len {N : Nat} {L : List ByteArray} {i : Nat} {p0 p1 : Ln_string} {ws : List Bt_string} (hN : 1 ≤ N) (h : StI N L i p0 p1 ws) (hi : i ≤ L.length) : i = ws.length * N + p0.2.2.length := by
  have h1 := congrArg List.length h.flat
  rw [List.length_append, flat_lenN (N := N) h.each, List.length_map, List.length_take] at h1
  omega
section
variable {W : World} {q : Option Addr} {c : Nat} {L : List ByteArray} {bt : Int}
abbrev stO (g N md : Nat) (p0 p1 : Ln_string) (ws : List Bt_string) (qs : List (Option Addr)) : HP := str_string g N 100 (min (2 + 100) 1024) md [p0, p1] ws qs
theorem push0 {e w : World} {F : List HP} {g N md : Nat} {p0 p1 : Ln_string} {ws : List Bt_string} {qs : List (Option Addr)} {x : ByteArray} (hN : 1 ≤ N ∧ N ≤ 16) (hmd : md ≤ 1000) (hp : LnOk_string N p0) (hw : ws.length < 100) (h : Own e w (stO g N md p0 p1 ws qs :: F)) :
    Rets Try.prog 6 #[.pointer (some ⟨g, 0, none⟩), .int .i64 0, .string x] w fun v w' => ∃ p0' md' ws' qs', v = .int .i64 (if p0.2.2.length + 1 < N then 0 else 1) ∧ LnOk_string N p0' ∧ p0'.2.2 = (if p0.2.2.length + 1 < N then p0.2.2 ++ [x] else []) ∧ ws'.map (·.2) = (if p0.2.2.length + 1 < N then ws.map (·.2) else ws.map (·.2) ++ [p0.2.2 ++ [x]]) ∧ md' ≤ md + 1 ∧ Tk p0.2.2.isEmpty md md' qs qs' ∧ Own e w' (stO g N md' p0' p1 ws' qs' :: F) := by
  refine Rets.mono (spPush_string (A := []) (B := [p1]) (x := x) (i := 0) (idx0 rfl) (by omega) (by omega) (by omega) hmd (by simp) hp h) ?_
  rintro _ w ⟨p', md', ws', qs', rfl, hp', hx, hw', hm, hT, h⟩
  rw [if_pos hw] at hw' ⊢
  exact ⟨p', md', ws', qs', rfl, hp', hx, hw', hm, hT (.inr hw), h⟩
theorem push1 {e w : World} {F : List HP} {g N md : Nat} {p0 p1 : Ln_string} {ws : List Bt_string} {qs : List (Option Addr)} {x : ByteArray} (hN : 1 ≤ N ∧ N ≤ 16) (hmd : md ≤ 1000) (hp : LnOk_string N p1) (hw : ws.length < 100) (h : Own e w (stO g N md p0 p1 ws qs :: F)) :
    Rets Try.prog 6 #[.pointer (some ⟨g, 0, none⟩), .int .i64 1, .string x] w fun v w' => ∃ p1' md' ws' qs', v = .int .i64 (if p1.2.2.length + 1 < N then 0 else 1) ∧ LnOk_string N p1' ∧ p1'.2.2 = (if p1.2.2.length + 1 < N then p1.2.2 ++ [x] else []) ∧ ws'.map (·.2) = (if p1.2.2.length + 1 < N then ws.map (·.2) else ws.map (·.2) ++ [p1.2.2 ++ [x]]) ∧ md' ≤ md + 1 ∧ Tk p1.2.2.isEmpty md md' qs qs' ∧ Own e w' (stO g N md' p0 p1' ws' qs' :: F) := by
  refine Rets.mono (spPush_string (A := [p0]) (B := []) (x := x) (i := 1) (idx1 rfl) (by omega) (by omega) (by omega) hmd (by simp) hp h) ?_
  rintro _ w ⟨p', md', ws', qs', rfl, hp', hx, hw', hm, hT, h⟩
  rw [if_pos hw] at hw' ⊢
  exact ⟨p', md', ws', qs', rfl, hp', hx, hw', hm, hT (.inr hw), h⟩
theorem StripeOrder_spec (hbw : (Lit.int .i64 bt).wf = true) (hb : RdC W q (L.map Value.string)) (hm : L.length ≤ maxLen) (hc : L.length ≤ c) :
    Rets Try.prog 3 #[.int .i64 bt, .slice q L.length c] W fun v w' => v = .bool true ∧ Below W.heap.size W w' := by
  refine Rets.mono (k := fun v w' => v = .bool true ∧ ∃ F, Own W w' (snap W :: F)) ?_ (fun v w' h => ⟨h.1, h.2.elim fun F h => h.below⟩)
  have h := Own.begin W
  have aw : ∀ {w F}, Own W w (snap W :: F) → Rets Try.prog 4 #[] w fun v w' => ∃ b, v = Value.bool b ∧ (Value.bool b) = .bool true ∧ ∃ F, Own W w' (snap W :: F) := fun h => by
    refine Rets.mono (spAwake h) ?_
    rintro _ w ⟨rfl, h⟩
    exact ⟨_, rfl, rfl, _, h⟩
  refine cortadolaw27_StripeOrder_go _ _ _ _ ⟨fun hx => aw h, fun hx => ?_⟩
  have hx := dec_f hx
  have hl : L.length ≤ 80 := by omega
  obtain ⟨N, hN⟩ : ∃ N : Nat, maxI 1 (minI bt 16) = (N : Int) := ⟨(maxI 1 (minI bt 16)).toNat, by unfold maxI minI; split <;> split <;> omega⟩
  have hNb : 1 ≤ N ∧ N ≤ 16 := by revert hN; unfold maxI minI; split <;> split <;> omega
  rw [hN]
  refine Rets.mono (spNew_string (n := 2) (N := N) (r := 100) (by decide) hN (by decide) h) ?_
  clear h
  rintro _ w ⟨g, rfl, h⟩
  have h : Own W w (stO g N 0 (none, 0, []) (none, 0, []) [] [] :: snap W :: []) := h
  have nilOk : LnOk_string N (none, 0, []) := .inl ⟨rfl, rfl, rfl⟩
  have eN1 : IntKind.wrap .i64 ((N : Int) - 1) = ((N - 1 : Nat) : Int) := by rw [wI64 (by omega) (by omega)]; omega
  rw [eN1]
  have rdS : ∀ {w F} {i : Nat} (hi : i < L.length) {k : Addr → Prop}, Own W w (snap W :: F) → (∀ a, cellAt w (a.add (Int.toNat (i : Int) * 1)) (.string L[i]) → k a) → someR q k := fun {w F i} hi {k} h hk => by
    have hat : (L.map Value.string)[i]? = some (.string L[i]) := by simp [hi]
    obtain ⟨a, rfl, hcell⟩ := (Own.snapRd h hb).addr hat
    exact hk a (by rw [Int.toNat_natCast, Nat.mul_one]; exact hcell _ _ hat)
  refine ⟨_, rfl, fun k vs w => ∃ (i o md : Nat) (p0 p1 : Ln_string) (ws : List Bt_string), vs = [.int .i64 (o : Int), .int .i64 (i : Int)] ∧ k + i = L.length ∧ StI N L i p0 p1 ws ∧ p1.2.2.length = o ∧ md ≤ 2 * i ∧ Own W w (stO g N md p0 p1 ws [] :: snap W :: []), ⟨L.length, 0, 0, 0, (none, 0, []), (none, 0, []), [], rfl, rfl, ⟨nilOk, nilOk, rfl, fun b hb => (by cases hb)⟩, rfl, Nat.le_refl _, h⟩, ?_⟩
  clear h
  intro z w v3 n1 n2
  intros
  rename_i hI
  obtain ⟨i, o, md, p0, p1, ws, hvs, hz, hst, ho, hmd, h⟩ := hI
  obtain ⟨rfl, rfl⟩ : n1 = (o : Int) ∧ n2 = (i : Int) := by simpa using hvs
  have hlen := hst.len hNb.1 (by omega)
  have hlt0 := hst.ok0.lt hNb.1
  have hlt1 := hst.ok1.lt hNb.1
  have hwl : ws.length ≤ 80 := by
    have : ws.length * 1 ≤ ws.length * N := Nat.mul_le_mul_left _ hNb.1
    omega
  refine ⟨fun hc1 => ?_, fun hc1 => ?_⟩
  · have hc1 := dec_t hc1
    have hi : i < L.length := by omega
    refine ⟨by omega, hc1, rdS hi h.drop fun a1 ha1 => ⟨_, ha1, ?_⟩⟩
    refine Rets.mono (push0 hNb (by omega) hst.ok0 (by omega) h) ?_
    clear h
    rintro _ w ⟨p0', md', ws', qs', rfl, hok', hx0, hw', hm', hT, h⟩
    have hq0 : qs' = [] := by
      cases hbb : p0.2.2.isEmpty with
      | false => exact (hT.1 hbb).2
      | true => rcases hT.2 hbb with ⟨h1, _⟩ | ⟨_, h1, _⟩
                · simp at h1
                · exact h1
    subst hq0
    have et : L.take (i + 1) = L.take i ++ [L[i]] := List.take_succ_eq_append_getElem hi
    have hst' : StI N L (i + 1) p0' p1 ws' := by
      refine ⟨hok', hst.ok1, ?_, fun b hbm => ?_⟩
      · rw [hw', hx0, et, ← hst.flat]
        split
        · rw [List.append_assoc]
        · rw [List.flatten_append, List.append_nil, List.append_assoc]; simp
      · rw [hw'] at hbm
        split at hbm
        · exact hst.each b hbm
        · rcases List.mem_append.1 hbm with hh | hh
          · exact hst.each b hh
          · rw [List.mem_singleton.1 hh]; simp; omega
    have ei : IntKind.wrap .i64 ((i : Int) + 1) = ((i + 1 : Nat) : Int) := by rw [wI64 (by omega) (by omega)]; rfl
    rw [ei, tmodN]
    have hlen' := hst'.len hNb.1 (by omega)
    have hlt' := hst'.ok0.lt hNb.1
    have hmod : (i + 1) % N = p0'.2.2.length := (div_of hlen' hlt').2
    have hwl' : ws'.length ≤ 80 := by
      have : ws'.length * 1 ≤ ws'.length * N := Nat.mul_le_mul_left _ hNb.1
      omega
    have hothen : (o : Int) < ((N - 1 : Nat) : Int) → Rets Try.prog 6 #[.pointer (some ⟨g, 0, none⟩), .int .i64 1, .string ⟨#[120]⟩] w fun v w' => v = .int .i64 0 ∧ ∃ (md : Nat) (p1' : Ln_string) (ws2 : List Bt_string), StI N L (i + 1) p0' p1' ws2 ∧ p1'.2.2.length = o + 1 ∧ md ≤ 2 * (i + 1) ∧ Own W w' (stO g N md p0' p1' ws2 [] :: snap W :: []) := fun ho2 => by
      refine Rets.mono (push1 hNb (by omega) hst'.ok1 (by omega) h) ?_
      clear h
      rintro _ w ⟨p1', md2, ws2, qs2, rfl, hok1', hx1, hw2, hm2, hT2, h⟩
      have hq0 : qs2 = [] := by
        cases hbb : p1.2.2.isEmpty with
        | false => exact (hT2.1 hbb).2
        | true => rcases hT2.2 hbb with ⟨h1, _⟩ | ⟨_, h1, _⟩
                  · simp at h1
                  · exact h1
      subst hq0
      have hlt2 : p1.2.2.length + 1 < N := by omega
      rw [if_pos hlt2] at hx1 hw2 ⊢
      exact ⟨rfl, md2, p1', ws2, hst'.cg hok1' hw2, by rw [hx1]; simp; omega, by omega, h⟩
    rw [hmod]
    obtain ⟨mm, hmm⟩ : ∃ mm, mm = p0'.2.2.length := ⟨_, rfl⟩
    rw [← hmm]
    by_cases hk : p0.2.2.length + 1 < N
    rw [if_pos hk] at hx0 ⊢
    have hl0 : p0'.2.2.length = p0.2.2.length + 1 := by rw [hx0]; simp
    refine ⟨_, rfl, fun h0 => absurd h0 (by simp), fun _ => ⟨by omega, fun hq => absurd hq (by simp; omega), fun _ => ?_⟩⟩
    rotate_left
    rw [if_neg hk] at hx0 ⊢
    have hl0 : p0'.2.2.length = 0 := by rw [hx0]; rfl
    refine ⟨_, rfl, fun _ => ⟨fun _ => ⟨by omega, fun hq => absurd hq (by simp; omega), fun _ => ?_⟩, fun h1 => absurd h1 (by simp)⟩, fun h0 => absurd h0 (by simp)⟩
    all_goals
      refine ⟨fun ho2 => ?_, fun _ => ⟨z - 1, by omega, i + 1, o, md', p0', p1, ws', rfl, by omega, hst', ho, by omega, h⟩⟩
      refine Rets.mono (hothen (dec_t ho2)) ?_
      rintro _ w ⟨rfl, md2, p1', ws2, hst2, ho3, hm2, h⟩
      exact ⟨_, rfl, fun hc => absurd hc (by simp), fun _ => ⟨z - 1, by omega, i + 1, o + 1, md2, p0', p1', ws2, by rw [wI64 (by omega) (by omega)]; rfl, by omega, hst2, ho3, hm2, h⟩⟩
  · have hc1 := dec_f hc1
    obtain rfl : i = L.length := by omega
    have hdm := div_of hlen hlt0
    have eD : IntKind.wrap .i64 (Int.tdiv ((L.length : Nat) : Int) (N : Int)) = (ws.length : Int) := by rw [tdivN (by omega), hdm.1]
    have eM : Int.tmod ((L.length : Nat) : Int) (N : Int) = (p0.2.2.length : Int) := by rw [tmodN, hdm.2]
    rw [eD, eM]
    refine h.drw fun w h => ⟨by omega, Rets.mono (spWaiting h) ?_⟩
    clear h
    rintro _ w ⟨rfl, h⟩
    refine ⟨_, rfl, fun _ => ⟨by omega, Rets.mono (spLoose (A := []) (B := [p1]) (i := 0) (idx0 rfl) h) ?_⟩, fun hc => absurd hc (by simp)⟩
    clear h
    rintro _ w ⟨rfl, h⟩
    refine ⟨_, rfl, fun _ => Rets.mono (spLoose (A := [p0]) (B := []) (i := 1) (idx1 rfl) h) ?_, fun hc => absurd hc (by simp)⟩
    clear h
    rintro _ w ⟨rfl, h⟩
    refine ⟨_, rfl, fun hc => absurd hc (by simp; omega), fun _ => ?_⟩
    have h : Own W w (stO g N md p0 p1 ws [] :: snap W :: []) := h
    obtain ⟨K, hK⟩ : ∃ K, K = ws.length := ⟨_, rfl⟩
    rw [← hK] at hlen hwl ⊢
    have hflat := hst.flat
    rw [List.take_length] at hflat
    have heach := hst.each
    have hok0 := hst.ok0
    have hok1 := hst.ok1
    refine ⟨fun k vs w => ∃ (i : Nat) (ws : List Bt_string) (qs : List (Option Addr)), vs = [.int .i64 ((i * N : Nat) : Int), .int .i64 (i : Int)] ∧ k + i = K ∧ ws.length + i = K ∧ qs.length = i ∧ (ws.map (·.2)).flatten ++ p0.2.2 = L.drop (i * N) ∧ (∀ c ∈ ws.map (·.2), c.length = N) ∧ Own W w (stO g N md p0 p1 ws qs :: snap W :: []), ⟨K, 0, ws, [], by simp, rfl, by omega, rfl, by rw [Nat.zero_mul]; exact hflat, heach, h⟩, ?_⟩
    clear h hst hflat heach
    intro z2 w v48 n9 n10
    intros
    rename_i hI
    obtain ⟨i, ws, qs, hvs, hz2, hwl2, hql, hflat, heach, h⟩ := hI
    obtain ⟨rfl, rfl⟩ : n9 = ((i * N : Nat) : Int) ∧ n10 = (i : Int) := by simpa using hvs
    refine ⟨by omega, fun hc2 => ?_, fun hc2 => ?_⟩
    · have hc2 := dec_t hc2
      cases ws with
      | nil => simp at hwl2; omega
      | cons b ws =>
      have hbl : b.2.length = N := heach b.2 (by simp)
      have hflat2 : b.2 ++ ((ws.map (·.2)).flatten ++ p0.2.2) = L.drop (i * N) := by
        rw [← hflat]; simp
      have hiN : i * N + N ≤ L.length := by
        have h1 : (i + 1) * N ≤ K * N := Nat.mul_le_mul_right _ (by omega)
        rw [Nat.add_mul, Nat.one_mul] at h1
        omega
      have hget : ∀ k (hk : k < N), b.2[k]'(by omega) = L[i * N + k]'(by omega) := fun k hk => by
        have h1 : (b.2 ++ ((ws.map (·.2)).flatten ++ p0.2.2))[k]? = (L.drop (i * N))[k]? := by rw [hflat2]
        rw [List.getElem?_append_left (by omega), List.getElem?_drop, List.getElem?_eq_getElem (by omega), List.getElem?_eq_getElem (by omega)] at h1
        exact Option.some.inj h1
      refine Rets.mono (spTake h) ?_
      clear h
      rintro _ w ⟨rfl, h⟩
      refine ⟨_, _, _, _, rfl, fun _ => ⟨fun hq => absurd hq (by simp), fun _ => ?_⟩, fun hc => absurd hc (by simp)⟩
      refine ⟨fun z3 vs w => ∃ k : Nat, vs = [.int .i64 ((i * N + k : Nat) : Int), .int .i64 (k : Int)] ∧ z3 + k = N ∧ Own W w (bt_string N b :: stO g N md p0 p1 ws qs :: snap W :: []), ⟨N, 0, by simp, rfl, h⟩, ?_⟩
      clear h
      intro z3 w v94 n11 n12
      intros
      rename_i hI
      obtain ⟨k, hvs, hz3, h⟩ := hI
      obtain ⟨rfl, rfl⟩ : n11 = ((i * N + k : Nat) : Int) ∧ n12 = (k : Int) := by simpa using hvs
      refine ⟨fun hc3 => ?_, fun hc3 => ?_⟩
      · have hc3 := dec_t hc3
        have hk : k < N := by omega
        have hbat : (b.2.map Value.string)[k]? = some (.string (b.2[k]'(by omega))) := by rw [List.getElem?_map, List.getElem?_eq_getElem (by omega)]; rfl
        refine h.drw fun w h => ⟨by omega, by omega, ?_⟩
        obtain ⟨ab, hab, hcell⟩ := (show Own W w (slO 9 1 b.1 N N (b.2.map Value.string) :: _) from h).slRd.addr hbat
        rw [hab]
        refine smR ⟨by omega, by omega, rdS (i := i * N + k) (by omega) h.drop.drop fun a3 ha3 => ⟨b.2[k]'(by omega), ?_, _, ha3, fun hq => ?_, fun _ => ⟨z3 - 1, by omega, k + 1, ?_, by omega, h⟩⟩⟩
        · rw [Int.toNat_natCast, Nat.mul_one]; exact hcell _ _ hbat
        · rw [hget k hk] at hq
          simp at hq
        · rw [wI64 (by omega) (by omega), wI64 (by omega) (by omega)]; rfl
      · refine Rets.mono (spGive (by omega) (by omega) (by omega) h) ?_
        clear h
        rintro _ w ⟨rfl, h⟩
        have hc3 := dec_f hc3
        obtain rfl : k = N := by omega
        refine ⟨_, rfl, fun hc => absurd hc (by simp), fun _ => ⟨z2 - 1, by omega, i + 1, ws, qs ++ [b.1], ?_, by omega, by have : (b :: ws).length = ws.length + 1 := rfl; omega, by rw [List.length_append, hql]; rfl, ?_, fun c hc => heach c (List.mem_cons_of_mem _ hc), h⟩⟩
        · rw [wI64 (by omega) (by omega), Nat.add_mul, Nat.one_mul]; rfl
        · rw [Nat.add_mul, Nat.one_mul, ← List.drop_drop, ← hflat2, List.drop_left' hbl]
    · have hc2 := dec_f hc2
      obtain rfl : K = i := by omega
      obtain rfl : ws = [] := List.eq_nil_of_length_eq_zero (by omega)
      refine Rets.mono (spMade h) ?_
      clear h hflat heach
      rintro _ w ⟨rfl, h⟩
      have hKN : K * N ≤ L.length := by omega
      have eKN : IntKind.wrap .i64 ((K : Int) * (N : Int)) = ((K * N : Nat) : Int) := by
        have e1 : (K : Int) * (N : Int) = ((K * N : Nat) : Int) := by simp
        rw [e1]
        generalize K * N = y at hKN ⊢
        rw [wI64 (by omega) (by omega)]
      rw [eKN]
      have hmd2 : md ≤ 160 := by omega
      have ho2 : o < N := by omega
      refine ⟨_, rfl, fun k vs w => ∃ (j s : Nat) (p1' : Ln_string) (ws' : List Bt_string) (qs' : List (Option Addr)), vs = [.int .i64 (j : Int)] ∧ k + j = K * N ∧ o + j = s * N + p1'.2.2.length ∧ LnOk_string N p1' ∧ ws'.length ≤ s ∧ qs'.length + (s + if p1'.2.2.length = 0 then 0 else 1) = K + (if o = 0 then 0 else 1) ∧ Own W w (stO g N md p0 p1' ws' qs' :: snap W :: []), ⟨K * N, 0, 0, p1, [], qs, rfl, by omega, by omega, hok1, Nat.le_refl _, by rw [ho]; omega, h⟩, ?_⟩
      clear h
      intro z4 w n14
      intros
      rename_i hI
      obtain ⟨j, s, p1', ws', qs', hvs, hz4, hs, hok1', hws', hacc, h⟩ := hI
      obtain rfl : n14 = (j : Int) := by simpa using hvs
      have hlt' := hok1'.lt hNb.1
      have hs80 : s ≤ 96 := by
        have : s * 1 ≤ s * N := Nat.mul_le_mul_left _ hNb.1
        omega
      refine ⟨by omega, fun hc4 => ?_, fun hc4 => ?_⟩
      · have hc4 := dec_t hc4
        have hj : j < K * N := by omega
        refine Rets.mono (push1 hNb (by omega) hok1' (by omega) h) ?_
        clear h
        rintro _ w ⟨p2, md2, ws2, qs2, rfl, hok2, hx2, hw2, hm2, hT, h⟩
        have hlw : ws2.length = (if p1'.2.2.length + 1 < N then ws'.length else ws'.length + 1) := by
          have := congrArg List.length hw2
          rw [List.length_map] at this
          rw [this]
          split <;> simp
        have hpl : p2.2.2.length = (if p1'.2.2.length + 1 < N then p1'.2.2.length + 1 else 0) := by
          rw [hx2]; split <;> simp
        have hq2 : md2 = md ∧ qs2.length + (if p1'.2.2.length = 0 then 1 else 0) = qs'.length := by
          by_cases hl0 : p1'.2.2.length = 0
          · have he : p1'.2.2.isEmpty = true := by
              rw [List.eq_nil_of_length_eq_zero hl0]; rfl
            rw [if_pos hl0] at hacc ⊢
            rcases hT.2 he with ⟨h1, h2⟩ | ⟨h1, _, _⟩
            · exact ⟨h2, by omega⟩
            · exfalso
              rw [h1] at hacc
              have hsK : s < K + (if o = 0 then 0 else 1) := by
                refine Nat.lt_of_mul_lt_mul_right (a := N) ?_
                by_cases ho0 : o = 0
                · rw [if_pos ho0, Nat.add_zero]; omega
                · rw [if_neg ho0, Nat.add_mul, Nat.one_mul]; omega
              simp at hacc
              omega
          · have he : p1'.2.2.isEmpty = false := by
              cases hb : p1'.2.2 with
              | nil => rw [hb] at hl0; exact absurd rfl hl0
              | cons _ _ => rfl
            rw [if_neg hl0]
            obtain ⟨h1, h2⟩ := hT.1 he
            exact ⟨h1, by rw [h2]; omega⟩
        obtain ⟨hmd3, hq2⟩ := hq2
        rw [hmd3] at h
        refine ⟨_, rfl, z4 - 1, by omega, ?_⟩
        by_cases hk : p1'.2.2.length + 1 < N
        · rw [if_pos hk] at hpl hlw
          refine ⟨j + 1, s, p2, ws2, qs2, by rw [wI64 (by omega) (by omega)]; rfl, by omega, by omega, hok2, by omega, ?_, h⟩
          rw [hpl, if_neg (by omega)]
          revert hacc hq2
          split <;> intros <;> omega
        · rw [if_neg hk] at hpl hlw
          refine ⟨j + 1, s + 1, p2, ws2, qs2, by rw [wI64 (by omega) (by omega)]; rfl, by omega, by rw [Nat.add_mul, Nat.one_mul]; omega, hok2, by omega, ?_, h⟩
          rw [hpl, if_pos rfl]
          revert hacc hq2
          split <;> intros <;> omega
      · refine Rets.mono (snTake h) ?_
        clear h
        rintro _ w ⟨rfl, h⟩
        refine ⟨_, _, _, _, rfl, Rets.mono (spMade h) ?_⟩
        clear h
        rintro _ w ⟨rfl, h⟩
        have em : IntKind.wrap .i64 ((md : Int) + 1) = (md : Int) + 1 := wI64 (by omega) (by omega)
        rw [em]
        refine ⟨_, rfl, fun _ => ⟨fun _ => Rets.mono (snPush h) ?_, fun hc => absurd hc (by simp)⟩, fun hc => absurd (dec_f hc) (by omega)⟩
        clear h
        rintro _ w ⟨rfl, h⟩
        refine ⟨_, rfl, fun _ => Rets.mono (snGive h) ?_, fun hc => absurd hc (by simp)⟩
        clear h
        rintro _ w ⟨rfl, h⟩
        refine ⟨_, rfl, fun _ => Rets.mono (snWaiting h) ?_, fun hc => absurd hc (by simp)⟩
        clear h
        rintro _ w ⟨rfl, h⟩
        refine ⟨_, rfl, Rets.mono (snLoose h) ?_⟩
        clear h
        rintro _ w ⟨rfl, h⟩
        refine ⟨_, rfl, Rets.mono (snLanes h) ?_⟩
        clear h
        rintro _ w ⟨rfl, h⟩
        refine ⟨_, rfl, Rets.mono (snMade h) ?_⟩
        clear h
        rintro _ w ⟨rfl, h⟩
        exact ⟨_, rfl, fun _ => aw h.drop, fun hc => absurd hc (by decide)⟩
end
end Go.Proofs.Ytppkeemdbhmkgaa.Eng
