import Derived.Test.YtppmdifhoejhjaaWLast
import Derived.Test.YtppmdifhoejhjaaWTab
namespace Go.Proofs.Ytppmdifhoejhjaa.Reg
open Go Go.RowKit Go.Proofs.YtppmdifhoejhjaaW.PrintWords Go.Proofs.YtppmdifhoejhjaaW.PrintLast
set_option linter.unusedVariables false
set_option linter.unusedSimpArgs false

/-- A region's operations in order, each with its kind: 0: yields in every world; 1: yields wherever S holds; 2: comes up alone, S is shown behind it; 3: comes up alone, nothing is shown behind it; 4: as 2, with less of S. Where two come up, both ways are told. -/
inductive OT where
  | nil
  | one (i t : Nat) (N : Option Tmp) (r : OT)
  | two (a b : OT)
def heads : OT → List Nat
  | .nil => []
  | .one i _ _ _ => [i]
  | .two a b => heads a ++ heads b
def deepB : OT → Nat → Bool
  | .nil, n => Nat.beq n 0
  | .one _ _ _ r, n => (match n with
    | 0 => false
    | n + 1 => deepB r n)
  | .two a b, n => deepB a n && deepB b n
def canB (T : Bool × List (List Nat × List Nat)) (B ds : List Nat) : Bool → List Bool → OT → Bool
  | _, l, .nil => readyT T.2 l == []
  | c, l, .one i t _ r =>
    (match t with
      | 0 => c && anyT T l (l.set i true) i
      | 1 => c && takeW T B ds l (l.set i true) i
      | 2 => (!c || readyT T.2 l == [i]) && !ds.contains i
      | 4 => (!c || readyT T.2 l == [i]) && !ds.contains i
      | _ => (!c || readyT T.2 l == [i]) && ds.contains i) && canB T B ds true (l.set i true) r
  | c, l, .two a b => (!c || (readyT T.2 l == heads a ++ heads b && !(heads a).isEmpty)) && (canB T B ds false l a && canB T B ds false l b)

def wpCan (P : Program) (ops : Array Oper) (Q : Exit → Act → World → Prop) : (World → Prop) → OT → Act → World → Prop
  | _, .nil, a, w => Q .normal a w
  | S, .one i t N r, a, w => ∃ oi, ops[i]? = some oi ∧ oi.dst = N ∧
    match t with
    | 0 => ∃ v, Yields P ops oi v a ∧ wpCan P ops Q S r (a.put N v) w
    | 1 => ∃ v, YieldsIf P ops S oi v a ∧ S w ∧ wpCan P ops Q S r (a.put N v) w
    | 2 => ∀ K : Act → World → Prop, Shut (∀ a' w', S w' → (S w' → wpCan P ops Q S r a' w') → K a' w') → if Region.wanted oi (yielded ops a.tmps) = true then Oper.wp P oi a w K Q else K (a.put N undef) w
    | 4 => ∀ K : Act → World → Prop, Shut (∀ a' w' (S' : World → Prop), (∀ x, S' x → S x) → S' w' → wpCan P ops Q S' r a' w' → K a' w') → if Region.wanted oi (yielded ops a.tmps) = true then Oper.wp P oi a w K Q else K (a.put N undef) w
    | _ => ∀ K : Act → World → Prop, Shut (∀ a' w', wpCan P ops Q S r a' w' → K a' w') → if Region.wanted oi (yielded ops a.tmps) = true then Oper.wp P oi a w K Q else K (a.put N undef) w
  | S, .two x y, a, w => wpCan P ops Q S x a w ∧ wpCan P ops Q S y a w

section
variable {P : Program} {ops : Array Oper} {Q : Exit → Act → World → Prop} {md : Region.Mode}
theorem setEq (l : List Bool) (i : Nat) : (⟨l⟩ : Array Bool).toList.set i true = (⟨l.set i true⟩ : Array Bool).toList := rfl
/-- Whatever order is picked, where what is known of the worlds grows on the way (PrintLast's wpAnyLast, with S that may turn to less). -/
def wpV (P : Program) (md : Region.Mode) (ops : Array Oper) (Q : Exit → Act → World → Prop) (ds : List Nat) : Nat → Array Bool → (World → Prop) → Act → World → Prop
  | 0, listed, _, a, w => Region.ready md ops listed = [] ∧ Q .normal a w
  | fuel + 1, listed, S, a, w =>
    (Region.ready md ops listed = [] → Q .normal a w) ∧
    ∀ i ∈ Region.ready md ops listed, wpOp P ops Q i (fun a' w' => ∃ S' : World → Prop, (∀ x, S' x → S x) ∧ (i ∉ ds → S w → S' w') ∧ wpV P md ops Q ds fuel (listed.setIfInBounds i true) S' a' w') a w
theorem wpAny_of_V {ds : List Nat} : ∀ (fuel : Nat) (listed : Array Bool) (S : World → Prop) (a : Act) (w : World), wpV P md ops Q ds fuel listed S a w → wpAny P md ops Q fuel listed a w
  | 0, _, _, _, _, h => h
  | fuel + 1, _, _, _, _, h => ⟨h.1, fun i hi => wpOp_mono (fun a' w' h' => by obtain ⟨S', _, _, h'⟩ := h'; exact wpAny_of_V fuel _ S' a' w' h') (h.2 i hi)⟩
theorem YieldsIf.less {S S' : World → Prop} {o : Oper} {v : Value} {a : Act} (h : YieldsIf P ops S o v a) (hs : ∀ x, S' x → S x) : YieldsIf P ops S' o v a := by
  rcases h with ⟨h1, h2⟩ | h
  · exact .inl ⟨h1, fun w hw => h2 w (hs w hw)⟩
  · exact .inr h
theorem wpV_first {ds : List Nat} {i : Nat} {oi : Oper} {v : Value} (hi : ops[i]? = some oi) (hsel : ∀ (j : Nat) (o : Oper) cs b, ops[j]? = some o → o.op ≠ .select cs b)
    (hQ : ∀ c a w, Q (.panic c) (a.put oi.dst v) w → Q (.panic c) a w) (n : Nat) :
    ∀ (fuel : Nat) (listed : Array Bool) (S : World → Prop) (a : Act) (w : World),
      (∀ j oj, ops[j]? = some oj → j ≠ i → listed.getD j true = false → (∀ e ∈ oj.after, Region.binds md e = true → e.on ≠ i) → oi.apart ops oj = true) →
      ListedClosed md ops listed → (∀ d ∈ ds, listed.getD d true = false → Region.reachB md ops i n d = true) →
      i ∈ Region.ready md ops listed → YieldsIf P ops S oi v a → S w →
      wpV P md ops Q ds fuel (listed.setIfInBounds i true) S (a.put oi.dst v) w → wpV P md ops Q ds (fuel + 1) listed S a w := by
  intro fuel
  induction fuel with
  | zero =>
    intro listed S a w _ _ _ hr hy hS H
    refine ⟨fun h => (by rw [h] at hr; cases hr), fun j hj => ?_⟩
    by_cases hji : j = i
    · subst hji; exact hy.wpOp hi hS ⟨S, fun _ h => h, fun _ h => h, H⟩
    · have := ready_mono hj hji
      rw [H.1] at this
      cases this
  | succ fuel ih =>
    intro listed S a w hfree hc hd hr hy hS H
    refine ⟨fun h => (by rw [h] at hr; cases hr), fun j hj => ?_⟩
    by_cases hji : j = i
    · subst hji; exact hy.wpOp hi hS ⟨S, fun _ h => h, fun _ h => h, H⟩
    · have h1 := H.2 j (ready_mono hj hji)
      obtain ⟨hjun, oj, hoj, hall⟩ := mem_ready.1 hj
      have hiun := (mem_ready.1 hr).1
      have hnot : ∀ e ∈ oj.after, Region.binds md e = true → e.on ≠ i := fun e he hb heq => by
        have h1 := hall e he hb
        rw [heq] at h1
        rcases Nat.lt_or_ge i listed.size with h' | h'
        · simp [h'] at hiun h1; rw [hiun] at h1; cases h1
        · simp [Array.getElem?_eq_none h'] at h1
      have hjd : j ∉ ds := fun hm => Region.reach_not_ready hc (hd j hm hjun) hiun hj
      have h2 := wpOp_putIf hoj (hfree j oj hoj hji hjun hnot) (fun cs b => hsel i oi cs b hi) (fun cs b => hsel j oj cs b hoj) hQ hy h1
      have hfree' : ∀ k ok, ops[k]? = some ok → k ≠ i → (listed.setIfInBounds j true).getD k true = false →
          (∀ e ∈ ok.after, Region.binds md e = true → e.on ≠ i) → oi.apart ops ok = true := fun k ok hk hki hun hno => by
        refine hfree k ok hk hki ?_ hno
        by_cases hjk : j = k
        · subst hjk; exact hjun
        · rw [getD_set_ne true hjk] at hun; exact hun
      have hd' : ∀ d ∈ ds, (listed.setIfInBounds j true).getD d true = false → Region.reachB md ops i n d = true := fun d hm hun => by
        refine hd d hm ?_
        by_cases hjk : j = d
        · subst hjk; exact hjun
        · rw [getD_set_ne true hjk] at hun; exact hun
      refine wpOp_mono (fun a' w' h3 => ?_) h2
      obtain ⟨hy', S', hsub, hS', hW⟩ := h3
      refine ⟨S', hsub, hS', ih (listed.setIfInBounds j true) S' a' w' hfree' (hc.set hj) hd' (ready_mono hr (Ne.symm hji)) (YieldsIf.less hy' hsub) (hS' hjd hS) ?_⟩
      rw [Array.setIfInBounds_comm _ _ hji]
      exact hW
theorem wpV_any {ds : List Nat} {i : Nat} {oi : Oper} {v : Value} (hi : ops[i]? = some oi) (hsel : ∀ (j : Nat) (o : Oper) cs b, ops[j]? = some o → o.op ≠ .select cs b)
    (hQ : ∀ c a w, Q (.panic c) (a.put oi.dst v) w → Q (.panic c) a w) :
    ∀ (fuel : Nat) (listed : Array Bool) (S : World → Prop) (a : Act) (w : World),
      (∀ j oj, ops[j]? = some oj → j ≠ i → listed.getD j true = false → (∀ e ∈ oj.after, Region.binds md e = true → e.on ≠ i) → oi.apart ops oj = true) →
      i ∈ Region.ready md ops listed → Yields P ops oi v a →
      wpV P md ops Q ds fuel (listed.setIfInBounds i true) S (a.put oi.dst v) w → wpV P md ops Q ds (fuel + 1) listed S a w := by
  intro fuel
  induction fuel with
  | zero =>
    intro listed S a w _ hr hy H
    refine ⟨fun h => (by rw [h] at hr; cases hr), fun j hj => ?_⟩
    by_cases hji : j = i
    · subst hji; exact (hy.yieldsIf (S := fun _ => True)).wpOp hi trivial ⟨S, fun _ h => h, fun _ h => h, H⟩
    · have := ready_mono hj hji
      rw [H.1] at this
      cases this
  | succ fuel ih =>
    intro listed S a w hfree hr hy H
    refine ⟨fun h => (by rw [h] at hr; cases hr), fun j hj => ?_⟩
    by_cases hji : j = i
    · subst hji; exact (hy.yieldsIf (S := fun _ => True)).wpOp hi trivial ⟨S, fun _ h => h, fun _ h => h, H⟩
    · have h1 := H.2 j (ready_mono hj hji)
      obtain ⟨hjun, oj, hoj, hall⟩ := mem_ready.1 hj
      have hiun := (mem_ready.1 hr).1
      have hnot : ∀ e ∈ oj.after, Region.binds md e = true → e.on ≠ i := fun e he hb heq => by
        have h1 := hall e he hb
        rw [heq] at h1
        rcases Nat.lt_or_ge i listed.size with h' | h'
        · simp [h'] at hiun h1; rw [hiun] at h1; cases h1
        · simp [Array.getElem?_eq_none h'] at h1
      have h2 := wpOp_put hoj (hfree j oj hoj hji hjun hnot) (fun cs b => hsel i oi cs b hi) (fun cs b => hsel j oj cs b hoj) hQ hy h1
      have hfree' : ∀ k ok, ops[k]? = some ok → k ≠ i → (listed.setIfInBounds j true).getD k true = false →
          (∀ e ∈ ok.after, Region.binds md e = true → e.on ≠ i) → oi.apart ops ok = true := fun k ok hk hki hun hno => by
        refine hfree k ok hk hki ?_ hno
        by_cases hjk : j = k
        · subst hjk; exact hjun
        · rw [getD_set_ne true hjk] at hun; exact hun
      refine wpOp_mono (fun a' w' h3 => ?_) h2
      obtain ⟨hy', S', hsub, hS', hW⟩ := h3
      refine ⟨S', hsub, hS', ih (listed.setIfInBounds j true) S' a' w' hfree' (ready_mono hr (Ne.symm hji)) hy' ?_⟩
      rw [Array.setIfInBounds_comm _ _ hji]
      exact hW
theorem wpV_done {ds : List Nat} {S : World → Prop} {l : Array Bool} {a : Act} {w : World} (hr : (Region.ready md ops l == []) = true) (h : Q .normal a w) : ∀ n, wpV P md ops Q ds n l S a w
  | 0 => ⟨by simpa using hr, h⟩
  | _ + 1 => ⟨fun _ => h, by rw [show Region.ready md ops l = [] by simpa using hr]; simp⟩
theorem wpV_one {ds : List Nat} {S : World → Prop} {i : Nat} {oi : Oper} {fuel : Nat} {l l' : Array Bool} {a : Act} {w : World} (hi : ops[i]? = some oi) (hc : readyB md ops l l' i = true)
    (h : ∀ K : Act → World → Prop, (∀ a' w' (S' : World → Prop), (∀ x, S' x → S x) → (i ∉ ds → S w → S' w') → wpV P md ops Q ds fuel l' S' a' w' → K a' w') → if Region.wanted oi (yielded ops a.tmps) = true then Oper.wp P oi a w K Q else K (a.put oi.dst undef) w) :
    wpV P md ops Q ds (fuel + 1) l S a w := by
  simp only [readyB, Bool.and_eq_true, beq_iff_eq] at hc
  obtain ⟨hr, rfl⟩ := hc
  refine ⟨fun h0 => (by rw [h0] at hr; cases hr), fun j hj => ?_⟩
  rw [hr] at hj
  obtain rfl := List.mem_singleton.1 hj
  exact wpOp_step hi (fun K' hK => h K' (fun a' w' S' h1 h2 h3 => hK a' w' ⟨S', h1, h2, h3⟩))
theorem deep0 : ∀ t : OT, deepB t 0 = true → heads t = []
  | .nil, _ => rfl
  | .one _ _ _ _, h => by simp [deepB] at h
  | .two a b, h => by
    simp only [deepB, Bool.and_eq_true] at h
    simp [heads, deep0 a h.1, deep0 b h.2]
/-- What stands behind an operation that was carried out. -/
abbrev Behind (P : Program) (ops : Array Oper) (Q : Exit → Act → World → Prop) (ds : List Nat) (n : Nat) (l : List Bool) (S : World → Prop) (w : World) (i : Nat) (a' : Act) (w' : World) : Prop :=
  ∃ S' : World → Prop, (∀ x, S' x → S x) ∧ (i ∉ ds → S w → S' w') ∧ wpV P .any ops Q ds n ⟨l.set i true⟩ S' a' w'
theorem can_of {ds : List Nat} {T : Bool × List (List Nat × List Nat)} {B : List Nat} (hT : rtab .any ops = T) (hB : waitsOk T.2 B = true) (hQ : ∀ c (a : Act) N v w, Q (.panic c) (a.put N v) w → Q (.panic c) a w) :
    ∀ (r : OT) (l : List Bool) (S : World → Prop) (a : Act) (w : World) (n : Nat), wpCan P ops Q S r a w →
      (canB T B ds true l r = true → deepB r n = true → wpV P .any ops Q ds n ⟨l⟩ S a w) ∧
      (canB T B ds false l r = true → deepB r (n + 1) = true → ∀ i ∈ heads r, wpOp P ops Q i (Behind P ops Q ds n l S w i) a w)
  | .nil, l, S, a, w, n, h => ⟨fun hc _ => wpV_done (done_of hT (by simpa [canB] using hc)) h _, fun _ _ i hi => by cases hi⟩
  | .two x y, l, S, a, w, n, h => by
    have ihx := fun n => can_of (ds := ds) hT hB hQ x l S a w n h.1
    have ihy := fun n => can_of (ds := ds) hT hB hQ y l S a w n h.2
    refine ⟨fun hc hd => ?_, fun hc hd i hi => ?_⟩
    · simp only [canB, Bool.not_true, Bool.false_or, Bool.and_eq_true, beq_iff_eq, Bool.not_eq_true'] at hc
      obtain ⟨⟨hr, hne⟩, hcx, hcy⟩ := hc
      simp only [deepB, Bool.and_eq_true] at hd
      have hready : Region.ready .any ops ⟨l⟩ = heads x ++ heads y := by rw [ready_eq, hT]; exact hr
      cases n with
      | zero => rw [deep0 x hd.1] at hne; cases hne
      | succ n =>
        refine ⟨fun h0 => ?_, fun i hi => ?_⟩
        · rw [hready, List.append_eq_nil_iff] at h0
          rw [h0.1] at hne; cases hne
        · rw [hready] at hi
          have key : wpOp P ops Q i (Behind P ops Q ds n l S w i) a w := by
            rcases List.mem_append.1 hi with hi | hi
            · exact (ihx n).2 hcx hd.1 i hi
            · exact (ihy n).2 hcy hd.2 i hi
          have el : (⟨l⟩ : Array Bool).setIfInBounds i true = ⟨l.set i true⟩ := by apply Array.ext'; simp
          rw [el]
          exact key
    · simp only [canB, Bool.not_false, Bool.true_or, Bool.true_and, Bool.and_eq_true] at hc
      simp only [deepB, Bool.and_eq_true] at hd
      rcases List.mem_append.1 hi with hi | hi
      · exact (ihx n).2 hc.1 hd.1 i hi
      · exact (ihy n).2 hc.2 hd.2 i hi
  | .one i t N r, l, S, a, w, n, h => by
    obtain ⟨oi, hi, hN, h⟩ := h
    subst hN
    have ih := fun S a w n h => (can_of (ds := ds) hT hB hQ r (l.set i true) S a w n h).1
    refine ⟨fun hc hd => ?_, fun hc hd j hj => ?_⟩
    · cases n with
      | zero => simp [deepB] at hd
      | succ n =>
      have hd : deepB r n = true := hd
      simp only [canB, Bool.not_true, Bool.false_or, Bool.true_and, Bool.and_eq_true] at hc
      obtain ⟨h1, h2⟩ := hc
      match t, h1, h with
      | 0, h1, ⟨v, hy, h⟩ =>
        have hc := any_of (l := ⟨l⟩) (l' := ⟨l.set i true⟩) hT h1
        simp only [anyB, Bool.and_eq_true, beq_iff_eq] at hc
        obtain ⟨⟨⟨c1, c2⟩, c3⟩, c4⟩ := hc
        refine wpV_any hi (Region.noSelect_spec c1) (fun c a w hq => hQ c a _ _ w hq) _ ⟨l⟩ S a w (Region.free_spec hi c2) (by simpa using c3) hy ?_
        rw [c4]; exact ih S _ _ n h h2 hd
      | 1, h1, ⟨v, hy, hS, h⟩ =>
        have hc := take_ofW (l := ⟨l⟩) (l' := ⟨l.set i true⟩) hT hB h1
        simp only [takeB, Bool.and_eq_true, beq_iff_eq] at hc
        obtain ⟨⟨⟨⟨⟨c1, c2⟩, c3⟩, c4⟩, c5⟩, c6⟩ := hc
        refine wpV_first hi (Region.noSelect_spec c1) (fun c a w hq => hQ c a _ _ w hq) ops.size _ ⟨l⟩ S a w (Region.free_spec hi c2) (Region.closedB_spec c4)
          (fun d hm hun => by have := List.all_eq_true.1 c5 d hm; rw [hun] at this; simpa using this) (by simpa using c3) hy hS ?_
        rw [c6]; exact ih S _ _ n h h2 hd
      | 2, h1, h =>
        simp only [Bool.and_eq_true] at h1
        refine wpV_one hi (l' := ⟨l.set i true⟩) (one_of hT (by simp [h1.1])) (fun K hK => ?_)
        exact h K (fun a' w' hS hc => hK a' w' S (fun _ h => h) (fun _ _ => hS) (ih S _ _ n (hc hS) h2 hd))
      | 4, h1, h =>
        simp only [Bool.and_eq_true] at h1
        refine wpV_one hi (l' := ⟨l.set i true⟩) (one_of hT (by simp [h1.1])) (fun K hK => ?_)
        exact h K (fun a' w' S' hs hS' hc => hK a' w' S' hs (fun _ _ => hS') (ih S' _ _ n hc h2 hd))
      | 3, h1, h =>
        simp only [Bool.and_eq_true] at h1
        refine wpV_one hi (l' := ⟨l.set i true⟩) (one_of hT (by simp [h1.1])) (fun K hK => ?_)
        exact h K (fun a' w' hc => hK a' w' S (fun _ h => h) (fun hn => absurd (by simpa using h1.2) hn) (ih S _ _ n hc h2 hd))
      | q + 5, h1, h =>
        simp only [Bool.and_eq_true] at h1
        refine wpV_one hi (l' := ⟨l.set i true⟩) (one_of hT (by simp [h1.1])) (fun K hK => ?_)
        exact h K (fun a' w' hc => hK a' w' S (fun _ h => h) (fun hn => absurd (by simpa using h1.2) hn) (ih S _ _ n hc h2 hd))
    · obtain rfl := List.mem_singleton.1 hj
      have hd : deepB r n = true := hd
      simp only [canB, Bool.not_false, Bool.true_or, Bool.true_and, Bool.false_and, Bool.and_eq_true] at hc
      obtain ⟨h1, h2⟩ := hc
      match t, h1, h with
      | 0, h1, h => cases h1
      | 1, h1, h => cases h1
      | 2, h1, h =>
        refine wpOp_step hi (fun K hK => ?_)
        exact h K (fun a' w' hS hc => hK a' w' ⟨S, fun _ h => h, fun _ _ => hS, ih S _ _ n (hc hS) h2 hd⟩)
      | 4, h1, h =>
        refine wpOp_step hi (fun K hK => ?_)
        exact h K (fun a' w' S' hs hS' hc => hK a' w' ⟨S', hs, fun _ _ => hS', ih S' _ _ n hc h2 hd⟩)
      | 3, h1, h =>
        refine wpOp_step hi (fun K hK => ?_)
        exact h K (fun a' w' hc => hK a' w' ⟨S, fun _ h => h, fun hn => absurd (by simpa using h1) hn, ih S _ _ n hc h2 hd⟩)
      | q + 5, h1, h =>
        refine wpOp_step hi (fun K hK => ?_)
        exact h K (fun a' w' hc => hK a' w' ⟨S, fun _ h => h, fun hn => absurd (by simpa using h1) hn, ih S _ _ n hc h2 hd⟩)

/-- A region that acts: its operations in order. -/
theorem region_can {id n : Nat} {a : Act} {w : World} {T : Bool × List (List Nat × List Nat)} {B : List Nat} (r : OT) (ds : List Nat) (S : World → Prop) (hm : P.follows .mixedOrders = true) (hn : ops.size = n) (hT : rtab .any ops = T) (hB : waitsOk T.2 B = true) (hr : deepB r n = true) (hc : canB T B ds true (List.replicate n false) r = true) (hQ : ∀ c (a : Act) N v w, Q (.panic c) (a.put N v) w → Q (.panic c) a w)
    (hS : S w.drew) (h : S w.drew → wpCan P ops Q S r a w.drew) : (Code.region id ops true).wp P Q a w := by
  refine wp_region_any hm (wpAny_of_V (ds := ds) _ _ S _ _ ?_)
  rw [hn]
  have e1 : Array.replicate n false = ⟨List.replicate n false⟩ := by apply Array.ext'; simp
  rw [e1]
  exact (can_of hT hB hQ r _ S _ _ n (h hS)).1 hc hr
end
end Go.Proofs.Ytppmdifhoejhjaa.Reg
