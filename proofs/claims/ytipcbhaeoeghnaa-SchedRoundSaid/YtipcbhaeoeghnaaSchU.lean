/- SchedRound. -/
import Derived.Test.YtipcbhaeoeghnaaSchT
namespace Go.Proofs.Ytipcbhaeoeghnaa.Eng
open Go Go.RowKit Go.Proofs
set_option linter.unusedVariables false
set_option linter.unusedSimpArgs false
set_option maxRecDepth 1000000
/-- All may: each in turn. -/
def wv (n q r j : Nat) : Nat := if j < r then r - 1 - j else if q = 0 then r else n + r - 1 - j
theorem lng_range {W : List Nat} {x : Nat} (h1 : ∀ y, y < x → wt W y < wt W x) : ∀ n, x < n → (∀ y, x < y → y < n → wt W y ≤ wt W x) → lng W (List.range n) = x
  | 0, h, _ => absurd h (by omega)
  | n + 1, h, h2 => by
    have key : ∀ (l : List Nat) (z : Nat), l ≠ [] → lng W (l ++ [z]) = if wt W (lng W l) < wt W z then z else lng W l := by
      intro l z hl
      have := lngI_snoc (W := W) hl z
      rw [lngI_some (by simp)] at this
      split at this
      · rw [if_pos (by assumption)]; omega
      · rw [if_neg (by assumption)]; omega
    rw [List.range_succ]
    by_cases hn : n = 0
    · subst hn
      obtain rfl : x = 0 := by omega
      rfl
    · have hne : List.range n ≠ [] := by simpa using hn
      rw [key _ _ hne]
      by_cases hx : x = n
      · subst hx
        have hm := lng_mem (W := W) hne
        have := h1 _ (by simpa using hm)
        rw [if_pos this]
      · rw [lng_range h1 n (by omega) (fun y hy hyn => h2 y hy (by omega))]
        have := h2 n (by omega) (by omega)
        rw [if_neg (by omega)]
theorem lng_wv {W : List Nat} {n q r : Nat} (hr : r < n) (h : ∀ j, j < n → wt W j = wv n q r j) : lng W (List.range n) = r := by
  refine lng_range (fun y hy => ?_) n hr (fun y hy hyn => ?_)
  · rw [h y (by omega), h r hr]; unfold wv; rw [if_pos hy, if_neg (by omega)]; split <;> omega
  · rw [h y hyn, h r hr]; unfold wv; rw [if_neg (show ¬ y < r by omega), if_neg (show ¬ r < r by omega)]; by_cases hq : q = 0
    · rw [if_pos hq, if_pos hq]; omega
    · rw [if_neg hq, if_neg hq]; omega
/-- All may, of the first ones. -/
def ab (n k : Nat) : List Bool := (List.range n).map fun j => decide (j < k)
theorem ab_len (n k : Nat) : (ab n k).length = n := by simp [ab]
theorem ab_zero (n : Nat) : ab n 0 = List.replicate n false := by
  apply List.ext_getElem
  · simp [ab]
  · intro j h1 h2; simp [ab]
theorem ab_set {n k : Nat} (h : k < n) : (ab n k).set k true = ab n (k + 1) := by
  apply List.ext_getElem
  · simp [ab]
  · intro j h1 h2
    rw [List.getElem_set]
    simp only [ab, List.getElem_map, List.getElem_range]
    by_cases hj : k = j
    · subst hj; simp
    · rw [if_neg hj]
      by_cases hj2 : j < k
      · rw [decide_eq_true hj2, decide_eq_true (show j < k + 1 by omega)]
      · rw [decide_eq_false hj2, decide_eq_false (show ¬ j < k + 1 by omega)]
theorem mayB_ab {n j : Nat} (h : j < n) : mayB (ab n n) j = true := by
  unfold mayB
  rw [List.getD_eq_getElem?_getD, List.getElem?_eq_getElem (by rw [ab_len]; exact h)]
  simp [ab, h]
theorem tho_ab (n : Nat) : tho (ab n n) = List.range n := by
  unfold tho
  rw [ab_len, List.filter_eq_self]
  exact fun j hj => mayB_ab (by simpa using hj)
theorem mb_any {x : Int} {n k : Nat} (h : k < n) : (mb x n k).set k (bitI x k) = mb x n (k + 1) := by
  apply List.ext_getElem
  · simp [mb]
  · intro j h1 h2
    rw [List.getElem_set]
    simp only [mb, List.getElem_map, List.getElem_range]
    by_cases hj : k = j
    · subst hj; simp
    · rw [if_neg hj]
      by_cases hj2 : j < k
      · rw [decide_eq_true hj2, decide_eq_true (show j < k + 1 by omega)]
      · rw [decide_eq_false hj2, decide_eq_false (show ¬ j < k + 1 by omega)]
theorem wv_step {W : List Nat} {n q r : Nat} (hr : r < n) (h : ∀ j, j < n → wt W j = wv n q r j) :
    ∃ q' r', n * q + r + 1 = n * q' + r' ∧ r' < n ∧ ∀ j, j < n → wt (nwt (ab n n) W r) j = wv n q' r' j := by
  have key : ∀ j, j < n → wt (nwt (ab n n) W r) j = if j ≠ r then wv n q r j + 1 else 0 := fun j hj => by
    rw [wt_nwt]; unfold nw1
    rw [mayB_ab hj, h j hj]
    by_cases hjr : j = r
    · rw [if_neg (by simp [hjr]), if_neg (by simp [hjr])]
    · rw [if_pos ⟨rfl, hjr⟩, if_pos hjr]
  by_cases hl : r + 1 < n
  · refine ⟨q, r + 1, by omega, hl, fun j hj => ?_⟩
    rw [key j hj]; unfold wv
    repeat' split
    all_goals omega
  · refine ⟨q + 1, 0, by rw [Nat.mul_add]; omega, by omega, fun j hj => ?_⟩
    rw [key j hj]; unfold wv
    repeat' split
    all_goals omega
theorem wv_lt {n q r j : Nat} (hr : r < n) (hj : j < n) : wv n q r j < 2 * n := by
  unfold wv
  repeat' split
  all_goals omega
theorem pk_fair {M : List Bool} {W : List Nat} {n o : Nat} (hM : M.length = n) (hW : W.length ≤ n) (h : fairI 0 n W) (ho : o < n) : fairI 0 n (pkW [] 0 M W) ∧ pkO [] 0 M W o < n := by
  unfold pkW pkO
  split
  · exact ⟨h, ho⟩
  · rename_i hz
    have hmem := whoP_mem (P := []) (b := 0) (W := W) hz
    have hf : fairI 0 n (nwt M W (whoP [] 0 M W)) := fair_step hM h hmem (fun _ => rfl)
    refine ⟨hf, ?_⟩
    have := wrs_le (L := n - 1) (M := M) (W := W) (who := whoP [] 0 M W) (o := o) (by omega) (fun j => by
      by_cases hj : j < n
      · have := fair_lt hf hj; rw [wt_nwt] at this; omega
      · rw [nw1_over (by omega)]; omega) M.length
    omega
section
variable {e w : World} {F : List HP}
theorem schNil {q : Option Addr} {M : List Bool} {c : Nat} (h : Own e w F) (hr : ∀ w, Own e w F → RdC w q (M.map Value.bool)) (hM : M.length ≤ 1000) : Rets Try.prog 11 #[.pointer none, .slice q M.length c] w fun v w' => v = .tuple #[.int .i64 0, .bool false] ∧ Own e w' F := by
  refine sched_nil_Pick_go _ _ _ ?_
  refine Rets.mono (schThose h hr hM) ?_
  rintro _ w ⟨q1, c1, rfl, h⟩
  exact ⟨_, _, _, rfl, fun hc => (by cases hc), fun _ => ⟨rfl, h.drop⟩⟩
theorem SchedRound_spec {W : World} {q2 : Option Addr} {c2 : Nat} {ts : List Int} {sh : Int} (hsh : (Lit.int .u64 sh).wf = true)
    (hb2 : RdC W q2 (cs .u8 ts)) (hm2 : ts.length ≤ maxLen) (hc2 : ts.length ≤ c2) (hw2 : ∀ x ∈ ts, (Lit.int .u8 x).wf = true) :
    Rets Try.prog 4 #[.int .u64 sh, .slice q2 ts.length c2] W fun v w' => v = .bool true ∧ Below W.heap.size W w' := by
  refine Rets.mono (k := fun v w' => v = .bool true ∧ Own W w' [snap W]) ?_ (fun v w' h => ⟨h.1, h.2.below⟩)
  have h := Own.begin W
  have ra := wfU64 hsh
  refine cortadolaw35_SchedRound_go _ _ _ _ ⟨by omega, fun hx => ?_, fun hx => ?_⟩
  · refine Rets.mono (schAwake h) ?_
    rintro _ w ⟨rfl, h⟩
    exact ⟨_, rfl, rfl, h⟩
  have hx := dec_f hx
  obtain ⟨n, hn⟩ : ∃ n : Nat, n = (sh % 8).toNat + 1 := ⟨_, rfl⟩
  have en : IntKind.wrap .i64 (IntKind.wrap .i64 (Int.tmod sh 8) + 1) = (n : Int) := by
    rw [Int.tmod_eq_emod_of_nonneg (by omega), wI64 (n := sh % 8) (by omega) (by omega), wI64 (by omega) (by omega)]; omega
  rw [en, Int.toNat_natCast]
  clear en
  have hn8 : n ≤ 8 := by omega
  have hn1 : 1 ≤ n := by omega
  have nilR : ∀ w : World, RdC w none (cs .i64 []) := fun w => .inl rfl
  refine Rets.mono (schNew (xs := []) (q := none) (c := 0) (b := 0) h (fun w h => nilR w) (by simp)) ?_
  rintro _ w ⟨g1, rfl, h⟩
  refine ⟨_, rfl, ?_⟩
  refine Rets.mono (schNew (xs := []) (q := none) (c := 0) (b := 0) h (fun w h => nilR w) (by simp)) ?_
  rintro _ w ⟨g2, rfl, h⟩
  have h : Own W w (schO g2 [] 0 0 [] 0 :: schO g1 [] 0 0 [] 0 :: [snap W]) := h
  refine ⟨_, rfl, h.makeR ⟨by omega, by omega, by omega, by omega⟩ fun g3 w h => ?_⟩
  rw [Int.toNat_natCast, zrep_one] at h
  have e0 : List.replicate n (Value.bool false) = (ab n 0).map Value.bool := by rw [ab_zero]; simp
  rw [e0] at h
  have h : Own W w (slO 4 1 (some ⟨g3, 0, none⟩) n n ((ab n 0).map Value.bool) :: _) := Own.slMk (rest := []) (by simp [ab_len]) (Nat.le_refl _) (by unfold maxLen; omega) (by simp [ab_len]) (by rw [List.append_nil]; exact h)
  refine ⟨fun m vs w => ∃ (k : Nat), vs = [.int .i64 (k : Int)] ∧ m + k = n ∧ Own W w (slO 4 1 (some ⟨g3, 0, none⟩) n n ((ab n k).map Value.bool) :: schO g2 [] 0 0 [] 0 :: schO g1 [] 0 0 [] 0 :: [snap W]), ⟨n, 0, rfl, rfl, h⟩, ?_⟩
  rintro m0 w n1
  intros
  rename_i hI
  obtain ⟨k, hvs, hmk, h⟩ := hI
  obtain rfl : n1 = (k : Int) := by simpa using hvs
  refine ⟨fun hy => ?_, fun hy => ?_⟩
  · have hy := dec_t hy
    refine ⟨by omega, by omega, ?_⟩
    have key := h.slStore (i := k) (us := [.bool true]) (K := fun w => ∃ k3 : Nat, k3 < m0 ∧ ∃ k' : Nat, [Value.int .i64 (IntKind.wrap .i64 ((k : Int) + 1))] = [.int .i64 (k' : Int)] ∧ k3 + k' = n ∧ Own W w (slO 4 1 (some ⟨g3, 0, none⟩) n n ((ab n k').map Value.bool) :: schO g2 [] 0 0 [] 0 :: schO g1 [] 0 0 [] 0 :: [snap W])) (by simp [ab_len]; omega) (by simp) (by simp [Value.oneCell']) (fun w h => ⟨m0 - 1, by omega, k + 1, by rw [wI64 (by omega) (by omega)]; rfl, by omega, by
      rw [← ab_set (by omega), List.map_set]; exact h⟩)
    rw [Int.toNat_natCast, Nat.mul_one]
    exact key
  have hy := dec_f hy
  obtain rfl : k = n := by omega
  have rd : ∀ w, Own W w [snap W] → RdC w q2 (cs .u8 ts) := fun w h => h.snapRd hb2
  refine ⟨fun m vs w => ∃ (i t1 o1 t2 o2 q r : Nat) (W1 W2 : List Nat), vs = [.int .i64 (i : Int)] ∧ m + i = ts.length ∧ t1 ≤ i ∧ o1 < k ∧ W1.length ≤ k ∧ fairI 0 k W1 ∧ t2 ≤ i ∧ o2 ≤ 16 ∧ W2.length ≤ k ∧ i = k * q + r ∧ r < k ∧ (∀ j, j < k → wt W2 j = wv k q r j) ∧ Own W w (schO g1 [] 0 t1 W1 o1 :: schO g2 [] 0 t2 W2 o2 :: slO 4 1 (some ⟨g3, 0, none⟩) k k ((ab k k).map Value.bool) :: [snap W]), ⟨ts.length, 0, 0, 0, 0, 0, 0, 0, [], [], rfl, rfl, by omega, by omega, by simp, fair_nil _ _, by omega, by omega, by simp, by omega, by omega, fun j hj => by unfold wv wt; simp, (Own.sub (h) (by repeat (first | exact Sub.nil _ | exact Sub.rfl _ | (apply Sub.cons; focus ((repeat (first | with_reducible exact Pick.here | apply Pick.there)); done)) | apply Sub.drop)))⟩, ?_⟩
  rintro m w v1 n2
  intros
  rename_i hI
  obtain ⟨i, t1, o1, t2, o2, q, r, W1, W2, hvs2, hmi, ht1, ho1, hW1, hf1, ht2, ho2, hW2, hi2, hr, hwv, h⟩ := hI
  obtain rfl : n2 = (i : Int) := by simpa using hvs2
  refine ⟨fun hz => ?_, fun hz => ?_⟩
  · have hz := dec_t hz
    have hi : i < (ts : List Int).length := by omega
    refine h.makeR ⟨by omega, by omega, by omega, by omega⟩ fun g4 w h => ?_
    rw [Int.toNat_natCast, zrep_one] at h
    have e0 : List.replicate k (Value.bool false) = (mb ts[i] k 0).map Value.bool := by rw [mb_zero]; simp
    rw [e0] at h
    have h : Own W w (slO 4 1 (some ⟨g4, 0, none⟩) k k ((mb ts[i] k 0).map Value.bool) :: _) := Own.slMk (rest := []) (by simp [mb_len]) (Nat.le_refl _) (by unfold maxLen; omega) (by simp [mb_len]) (by rw [List.append_nil]; exact h)
    refine ⟨fun m vs w => ∃ (j : Nat), vs = [.int .i64 (j : Int)] ∧ m + j = k ∧ Own W w (slO 4 1 (some ⟨g4, 0, none⟩) k k ((mb ts[i] k j).map Value.bool) :: schO g1 [] 0 t1 W1 o1 :: schO g2 [] 0 t2 W2 o2 :: slO 4 1 (some ⟨g3, 0, none⟩) k k ((ab k k).map Value.bool) :: [snap W]), ⟨k, 0, rfl, rfl, h⟩, ?_⟩
    rintro m2 w n3
    intros
    rename_i hJ
    obtain ⟨j, hvs3, hmj, h⟩ := hJ
    obtain rfl : n3 = (j : Int) := by simpa using hvs3
    refine ⟨fun hy2 => ?_, fun hy2 => ?_⟩
    · have hy2 := dec_t hy2
      have hjk : j < k := by omega
      rw [wU64' (n := (j : Int)) (by omega) (by omega)]
      refine ⟨by omega, by omega, RdC.int (rd _ (Own.sub (h) (by repeat (first | exact Sub.nil _ | exact Sub.rfl _ | (apply Sub.cons; focus ((repeat (first | with_reducible exact Pick.here | apply Pick.there)); done)) | apply Sub.drop)))) hi fun a ha => ⟨_, by rw [Int.toNat_natCast]; exact ha, by omega, by omega, by omega, by omega, ?_⟩⟩
      have key := h.slStore (i := j) (us := [.bool (bitI ts[i] j)]) (K := fun w => ∃ k3 : Nat, k3 < m2 ∧ ∃ j' : Nat, [Value.int .i64 (IntKind.wrap .i64 ((j : Int) + 1))] = [.int .i64 (j' : Int)] ∧ k3 + j' = k ∧ Own W w (slO 4 1 (some ⟨g4, 0, none⟩) k k ((mb ts[i] k j').map Value.bool) :: schO g1 [] 0 t1 W1 o1 :: schO g2 [] 0 t2 W2 o2 :: slO 4 1 (some ⟨g3, 0, none⟩) k k ((ab k k).map Value.bool) :: [snap W])) (by simp [mb_len]; omega) (by simp) (by simp [Value.oneCell']) (fun w h => ⟨m2 - 1, by omega, j + 1, by rw [wI64 (by omega) (by omega)]; rfl, by omega, by
        rw [← mb_any hjk, List.map_set]; exact h⟩)
      rw [Int.toNat_natCast, Nat.mul_one]
      exact key
    · have hy2 := dec_f hy2
      obtain rfl : j = k := by omega
      have hlt1 : ∀ x, wt W1 x < j := fun x => by
        by_cases hj : x < j
        · have := fair_lt hf1 hj; omega
        · unfold wt; rw [List.getD_eq_getElem?_getD, List.getElem?_eq_none (by omega)]; show 0 < j; omega
      have hlt2 : ∀ x, wt W2 x < 16 := fun x => by
        by_cases hj : x < j
        · rw [hwv x hj]; have := wv_lt (q := q) hr hj; omega
        · unfold wt; rw [List.getD_eq_getElem?_getD, List.getElem?_eq_none (by omega)]; show 0 < 16; omega
      have hp1 := schPick' (q := some ⟨g4, 0, none⟩) (M := mb ts[i] j j) (c := j) h.swap (fun w h => h.slRd) (by rw [mb_len]; omega) (by omega) (fun x => by have := hlt1 x; omega) (by omega) (by omega) ⟨by omega, by omega⟩ (by simp)
      rw [mb_len] at hp1
      refine Rets.mono hp1 ?_
      clear hp1
      rintro _ w ⟨rfl, h⟩
      obtain ⟨hf3, ho3⟩ := pk_fair (M := mb ts[i] j j) (mb_len _ _ _) hW1 hf1 ho1
      have hL3 : (pkW [] 0 (mb ts[i] j j) W1).length ≤ j := pkW_len hW1 (by rw [mb_len]; omega)
      have hT3 : pkT (mb ts[i] j j) t1 ≤ i + 1 := by unfold pkT; split <;> omega
      have eP : pkP (mb ts[i] j j) [] = [] := by unfold pkP; split <;> rfl
      rw [eP] at h
      generalize pkW [] 0 (mb ts[i] j j) W1 = W3 at hf3 hL3 h
      generalize pkO [] 0 (mb ts[i] j j) W1 o1 = o3 at ho3 h
      generalize pkT (mb ts[i] j j) t1 = t3 at hT3 h
      refine ⟨_, _, rfl, ?_⟩
      have h : Own W w (schO g2 [] 0 t2 W2 o2 :: slO 4 1 (some ⟨g3, 0, none⟩) j j ((ab j j).map Value.bool) :: schO g1 [] 0 t3 W3 o3 :: [snap W]) := (Own.sub (h) (by repeat (first | exact Sub.nil _ | exact Sub.rfl _ | (apply Sub.cons; focus ((repeat (first | with_reducible exact Pick.here | apply Pick.there)); done)) | apply Sub.drop)))
      have hp2 := schPick (q := some ⟨g3, 0, none⟩) (M := ab j j) (c := j) h (fun w h => h.slRd) (by rw [ab_len]; omega) (by omega) (fun x => by have := hlt2 x; omega) (by omega) (by omega) ⟨by omega, by omega⟩ (by simp)
      rw [ab_len] at hp2
      refine Rets.mono hp2 ?_
      clear hp2
      have ew : whoP [] 0 (ab j j) W2 = r := by
        show lng W2 (tho (ab j j)) = r
        rw [tho_ab]; exact lng_wv hr hwv
      rw [ew]
      rintro _ w (⟨hz0, _⟩ | ⟨_, rfl, h⟩)
      · rw [tho_ab] at hz0; simp at hz0; omega
      obtain ⟨q', r', e1, hr', hwv'⟩ := wv_step hr hwv
      have e2 : Int.tmod (i : Int) (j : Int) = (r : Int) := by
        rw [hi2]
        show ((((j * q + r) % j : Nat)) : Int) = _
        rw [Nat.mul_add_mod, Nat.mod_eq_of_lt hr]
      have h : Own W w (schO g1 [] 0 t3 W3 o3 :: schO g2 [] 0 (t2 + 1) (nwt (ab j j) W2 r) (wrs (ab j j) W2 r o2 j) :: slO 4 1 (some ⟨g3, 0, none⟩) j j ((ab j j).map Value.bool) :: [snap W]) := (Own.sub (h) (by repeat (first | exact Sub.nil _ | exact Sub.rfl _ | (apply Sub.cons; focus ((repeat (first | with_reducible exact Pick.here | apply Pick.there)); done)) | apply Sub.drop)))
      rw [e2]
      refine ⟨_, _, rfl, fun _ => ⟨by omega, fun _ => ?_, fun hc => absurd rfl (bool_ne hc)⟩, fun hc => (by cases hc)⟩
      refine Rets.mono (schWorst h) ?_
      rintro _ w ⟨rfl, h⟩
      refine ⟨_, rfl, fun hc => absurd (dec_t hc) (by omega), fun _ => ⟨m - 1, by omega, i + 1, t3, o3, t2 + 1, wrs (ab j j) W2 r o2 j, q', r', W3, nwt (ab j j) W2 r, by rw [wI64 (by omega) (by omega)]; rfl, by omega, hT3, ho3, hL3, hf3, by omega, ?_, by rw [nwt_len, ab_len]; omega, by omega, hr', hwv', h⟩⟩
      exact wrs_le (L := 16) ho2 (fun x => by have := hlt2 x; unfold nw1; split <;> omega) _
  · have h : Own W w (slO 4 1 (some ⟨g3, 0, none⟩) k k ((ab k k).map Value.bool) :: [snap W]) := (Own.sub (h) (by repeat (first | exact Sub.nil _ | exact Sub.rfl _ | (apply Sub.cons; focus ((repeat (first | with_reducible exact Pick.here | apply Pick.there)); done)) | apply Sub.drop)))
    have hp := schNil (q := some ⟨g3, 0, none⟩) (M := ab k k) (c := k) h (fun w h => h.slRd) (by rw [ab_len]; omega)
    rw [ab_len] at hp
    refine Rets.mono hp ?_
    rintro _ w ⟨rfl, h⟩
    refine ⟨_, _, rfl, fun _ => ?_, fun hc => (by cases hc)⟩
    refine sched_nil_Left_go ⟨fun _ => ⟨_, rfl, ?_⟩, fun hc => (by cases hc)⟩
    refine sched_nil_Turns_go ⟨fun _ => ⟨_, rfl, ?_⟩, fun hc => (by cases hc)⟩
    refine sched_nil_Waited_go _ ⟨fun hc => (by cases hc), fun _ => ⟨_, rfl, ?_⟩⟩
    refine sched_nil_Worst_go ⟨fun _ => ⟨_, rfl, fun _ => ?_, fun hc => (by cases hc)⟩, fun hc => (by cases hc)⟩
    refine Rets.mono (schAwake h) ?_
    rintro _ w ⟨rfl, h⟩
    exact ⟨_, rfl, rfl, (Own.sub (h) (by repeat (first | exact Sub.nil _ | exact Sub.rfl _ | (apply Sub.cons; focus ((repeat (first | with_reducible exact Pick.here | apply Pick.there)); done)) | apply Sub.drop)))⟩
end
end Go.Proofs.Ytipcbhaeoeghnaa.Eng
