/- Regions that draw their order, in rounds too. -/
import Derived.Test.YtggflkjdgcdcmaaGreatDoorReg
import Derived.Test.YtggflkjdgcdcmaaGreatDoorEngC
import Derived.OrdersIn
namespace Go.Proofs.YtggflkjdgcdcmaaGreatDoor.Reg
open Go Go.RowKit Go.Proofs.YtggflkjdgcdcmaaGreatDoorW.PrintWords Go.Proofs.YtggflkjdgcdcmaaGreatDoorW.PrintLast Go.Proofs.YtggflkjdgcdcmaaGreatDoor.Eng
set_option linter.unusedVariables false
set_option linter.unusedSimpArgs false
def wpCanI (r : Option Nat) (d : Nat) (P : Program) (ops : Array Oper) (Q : Exit → Act → World → Prop) : (World → Prop) → OT → Act → World → Prop
  | _, .nil, a, w => Q .normal a w
  | S, .one i t N rr, a, w => ∃ oi, ops[i]? = some oi ∧ oi.dst = N ∧
    match t with
    | 0 => ∃ v, Yields P ops oi v a ∧ wpCanI r d P ops Q S rr (a.put N v) w
    | 1 => ∃ v, YieldsIf P ops S oi v a ∧ S w ∧ wpCanI r d P ops Q S rr (a.put N v) w
    | 2 => ∀ K : Act → World → Prop, Shut (∀ a' w', S w' → (S w' → wpCanI r d P ops Q S rr a' w') → K a' w') → if Region.wanted oi (yielded ops a.tmps) = true then Oper.wpIn (FF r) d P oi a w K Q else K (a.put N undef) w
    | 4 => ∀ K : Act → World → Prop, Shut (∀ a' w' (S' : World → Prop), (∀ x, S' x → S x) → S' w' → wpCanI r d P ops Q S' rr a' w' → K a' w') → if Region.wanted oi (yielded ops a.tmps) = true then Oper.wpIn (FF r) d P oi a w K Q else K (a.put N undef) w
    | _ => ∀ K : Act → World → Prop, Shut (∀ a' w', wpCanI r d P ops Q S rr a' w' → K a' w') → if Region.wanted oi (yielded ops a.tmps) = true then Oper.wpIn (FF r) d P oi a w K Q else K (a.put N undef) w
  | S, .two x y, a, w => wpCanI r d P ops Q S x a w ∧ wpCanI r d P ops Q S y a w
section
variable {P : Program} {ops : Array Oper} {Q : Exit → Act → World → Prop} {md : Region.Mode} {r : Option Nat} {d : Nat}
/-- No operation lays a call for later. -/
abbrev NoDef (ops : Array Oper) : Prop := ∀ (j : Nat) (o : Oper), ops[j]? = some o → ∀ c, o.op ≠ .defer c
theorem stepI {i : Nat} {o : Oper} {K : Act → World → Prop} {a : Act} {w : World} (ho : ops[i]? = some o)
    (h : ∀ K' : Act → World → Prop, (∀ a w, K a w → K' a w) → if Region.wanted o (yielded ops a.tmps) = true then Oper.wpIn (FF r) d P o a w K' Q else K' (a.put o.dst undef) w) : wpOpIn (FF r) d P ops Q i K a w :=
  wpOpIn_step ho fun K' hK => by
    have h1 := h K' hK
    split at h1
    · rename_i hw; rw [if_pos hw]; exact h1
    · rename_i hw; rw [if_neg hw]; exact ⟨fun f _ => FF_fn r f, h1⟩
theorem yieldsI {S : World → Prop} {i : Nat} {o : Oper} {v : Value} {a : Act} (hnd : NoDef ops) (hi : ops[i]? = some o) (hy : YieldsIf P ops S o v a) {K : Act → World → Prop} {w : World} (hS : S w) (h : K (a.put o.dst v) w) : wpOpIn (FF r) d P ops Q i K a w := by
  unfold wpOpIn
  simp only [hi]
  rcases hy with ⟨hw, hv⟩ | ⟨hw, rfl⟩
  · simp only [hw, if_true, Oper.wpIn, Oper.semAt_eq _ _ _ (hnd i o hi), hv w hS, Oper.uponIn]
    exact ⟨fun f _ => FF_fn r f, h⟩
  · simp only [hw, Bool.false_eq_true, if_false]
    exact ⟨fun f _ => FF_fn r f, h⟩
theorem putIfI {S : World → Prop} {j : Nat} {oi oj : Oper} {v : Value} (hnd : NoDef ops) (hj : ops[j]? = some oj) (hap : oi.apart ops oj = true)
    (hsi : ∀ cs b, oi.op ≠ .select cs b) (hsj : ∀ cs b, oj.op ≠ .select cs b)
    (hQ : ∀ c a w, Q (.panic c) (a.put oi.dst v) w → Q (.panic c) a w) {K : Act → World → Prop} {a : Act} {w : World}
    (hy : YieldsIf P ops S oi v a) (h : wpOpIn (FF r) d P ops Q j K (a.put oi.dst v) w) :
    wpOpIn (FF r) d P ops Q j (fun a' w' => YieldsIf P ops S oi v a' ∧ K (a'.put oi.dst v) w') a w := by
  obtain ⟨h1, h2, h3⟩ := Oper.apart_spec hap
  have keep : ∀ (a : Act), YieldsIf P ops S oi v a → ∀ u, YieldsIf P ops S oi v (a.put oj.dst u) := fun a hy u =>
    hy.of_same (execOp_put oi hsi a oj.dst u h3) (wanted_put oi a oj.dst u h3)
  have hnj := hnd j oj hj
  have keepD : ∀ d, YieldsIf P ops S oi v { a with defers := d :: a.defers } := fun d => hy.of_same rfl rfl
  unfold wpOpIn at *
  simp only [hj] at *
  rw [wanted_put oj a oi.dst v h1] at h
  split
  · rename_i hw
    simp only [hw, if_true] at h
    unfold Oper.wpIn at *
    refine ⟨fun f _ => FF_fn r f, ?_⟩
    have h := h.2
    rw [Oper.semAt_eq _ _ _ hnj, execOp_put oj hsj a oi.dst v h1] at h
    rw [Oper.semAt_eq _ _ _ hnj]
    generalize (execOp a.eval oj).run P w = r at *
    cases r with
    | ok x w' =>
      cases x <;> simp only [Oper.uponIn] at h ⊢
      case value u => exact ⟨keep a hy u, by rw [← Act.put_comm a v u h2]; exact h⟩
      case skip => exact ⟨keep a hy _, by rw [← Act.put_comm a v undef h2]; exact h⟩
      case defer d =>
        refine ⟨keep _ (keepD d) _, ?_⟩
        rw [← Act.put_comm _ v undef h2, ← Act.put_defers]
        exact h
      case enter f args =>
        refine ⟨h.1, CallsIn.mono h.2 fun e w'' he => ?_⟩
        cases e with
        | returned u => exact ⟨keep a hy u, by rw [← Act.put_comm a v u h2]; exact he⟩
        | panicked c => exact hQ _ _ _ he
        | outgrown => exact he
      case row row args => exact ⟨h.1, RowsIn.mono h.2 fun u w'' he => ⟨keep a hy u, by rw [← Act.put_comm a v u h2]; exact he⟩⟩
      case round l f tmps assign body =>
        refine ⟨h.1, RoundIn.mono h.2 fun e w'' he => ?_⟩
        cases e with
        | returned u => exact ⟨keep a hy u, by rw [← Act.put_comm a v u h2]; exact he⟩
        | panicked c => exact hQ _ _ _ he
        | outgrown => exact he
    | halt x w' =>
      cases x <;> simp only [Oper.uponIn] at h ⊢
      case panic u => exact hQ _ _ _ h
  · rename_i hw
    simp only [hw] at h
    exact ⟨fun f _ => FF_fn r f, keep a hy _, by rw [← Act.put_comm a v undef h2]; exact h.2⟩
theorem putI {j : Nat} {oi oj : Oper} {v : Value} (hnd : NoDef ops) (hj : ops[j]? = some oj) (hap : oi.apart ops oj = true)
    (hsi : ∀ cs b, oi.op ≠ .select cs b) (hsj : ∀ cs b, oj.op ≠ .select cs b)
    (hQ : ∀ c a w, Q (.panic c) (a.put oi.dst v) w → Q (.panic c) a w) {K : Act → World → Prop} {a : Act} {w : World}
    (hy : Yields P ops oi v a) (h : wpOpIn (FF r) d P ops Q j K (a.put oi.dst v) w) :
    wpOpIn (FF r) d P ops Q j (fun a' w' => Yields P ops oi v a' ∧ K (a'.put oi.dst v) w') a w := by
  have tw : ∀ a, YieldsIf P ops (fun _ => True) oi v a → Yields P ops oi v a := fun a hy => by
    rcases hy with ⟨h1, h2⟩ | h
    · exact .inl ⟨h1, fun w => h2 w trivial⟩
    · exact .inr h
  exact wpOpIn_mono (fun a' w' h => ⟨tw _ h.1, h.2⟩) (putIfI (S := fun _ => True) hnd hj hap hsi hsj hQ hy.yieldsIf h)
/-- Whatever order is picked, where what is known of the worlds grows on the way (PrintLast's wpAnyLast, with S that may turn to less). -/
def wpVI (r : Option Nat) (d : Nat) (P : Program) (md : Region.Mode) (ops : Array Oper) (Q : Exit → Act → World → Prop) (ds : List Nat) : Nat → Array Bool → (World → Prop) → Act → World → Prop
  | 0, listed, _, a, w => Region.ready md ops listed = [] ∧ Q .normal a w
  | fuel + 1, listed, S, a, w =>
    (Region.ready md ops listed = [] → Q .normal a w) ∧
    ∀ i ∈ Region.ready md ops listed, wpOpIn (FF r) d P ops Q i (fun a' w' => ∃ S' : World → Prop, (∀ x, S' x → S x) ∧ (i ∉ ds → S w → S' w') ∧ wpVI r d P md ops Q ds fuel (listed.setIfInBounds i true) S' a' w') a w
theorem wpAny_of_VI {ds : List Nat} : ∀ (fuel : Nat) (listed : Array Bool) (S : World → Prop) (a : Act) (w : World), wpVI r d P md ops Q ds fuel listed S a w → wpAnyIn (FF r) d P md ops Q fuel listed a w
  | 0, _, _, _, _, h => h
  | fuel + 1, _, _, _, _, h => ⟨h.1, fun i hi => wpOpIn_mono (fun a' w' h' => by obtain ⟨S', _, _, h'⟩ := h'; exact wpAny_of_VI fuel _ S' a' w' h') (h.2 i hi)⟩
theorem YieldsIf.lessI {S S' : World → Prop} {o : Oper} {v : Value} {a : Act} (h : YieldsIf P ops S o v a) (hs : ∀ x, S' x → S x) : YieldsIf P ops S' o v a := by
  rcases h with ⟨h1, h2⟩ | h
  · exact .inl ⟨h1, fun w hw => h2 w (hs w hw)⟩
  · exact .inr h
theorem wpV_firstI {ds : List Nat} {i : Nat} {oi : Oper} {v : Value} (hnd : NoDef ops) (hi : ops[i]? = some oi) (hsel : ∀ (j : Nat) (o : Oper) cs b, ops[j]? = some o → o.op ≠ .select cs b)
    (hQ : ∀ c a w, Q (.panic c) (a.put oi.dst v) w → Q (.panic c) a w) (n : Nat) :
    ∀ (fuel : Nat) (listed : Array Bool) (S : World → Prop) (a : Act) (w : World),
      (∀ j oj, ops[j]? = some oj → j ≠ i → listed.getD j true = false → (∀ e ∈ oj.after, Region.binds md e = true → e.on ≠ i) → oi.apart ops oj = true) →
      ListedClosed md ops listed → (∀ dd ∈ ds, listed.getD dd true = false → Region.reachB md ops i n dd = true) →
      i ∈ Region.ready md ops listed → YieldsIf P ops S oi v a → S w →
      wpVI r d P md ops Q ds fuel (listed.setIfInBounds i true) S (a.put oi.dst v) w → wpVI r d P md ops Q ds (fuel + 1) listed S a w := by
  intro fuel
  induction fuel with
  | zero =>
    intro listed S a w _ _ _ hr hy hS H
    refine ⟨fun h => (by rw [h] at hr; cases hr), fun j hj => ?_⟩
    by_cases hji : j = i
    · subst hji; exact yieldsI hnd hi hy hS ⟨S, fun _ h => h, fun _ h => h, H⟩
    · have := ready_mono hj hji
      rw [H.1] at this
      cases this
  | succ fuel ih =>
    intro listed S a w hfree hc hd hr hy hS H
    refine ⟨fun h => (by rw [h] at hr; cases hr), fun j hj => ?_⟩
    by_cases hji : j = i
    · subst hji; exact yieldsI hnd hi hy hS ⟨S, fun _ h => h, fun _ h => h, H⟩
    · have h1 := H.2 j (ready_mono hj hji)
      obtain ⟨hjun, oj, hoj, hall⟩ := mem_ready.1 hj
      have hiun := (mem_ready.1 hr).1
      have hnot : ∀ e ∈ oj.after, Region.binds md e = true → e.on ≠ i := fun e he hb heq => by
        have h1 := hall e he hb
        rw [heq] at h1
        rcases Nat.lt_or_ge i listed.size with h' | h'
        · simp [h'] at hiun h1; rw [hiun] at h1; cases h1
        · simp [Array.getElem?_eq_none h'] at h1
      have hjd : j ∉ ds := fun hm => Region.reach_not_ready hc (hd j hm hjun) hiun hj
      have h2 := putIfI hnd hoj (hfree j oj hoj hji hjun hnot) (fun cs b => hsel i oi cs b hi) (fun cs b => hsel j oj cs b hoj) hQ hy h1
      have hfree' : ∀ k ok, ops[k]? = some ok → k ≠ i → (listed.setIfInBounds j true).getD k true = false →
          (∀ e ∈ ok.after, Region.binds md e = true → e.on ≠ i) → oi.apart ops ok = true := fun k ok hk hki hun hno => by
        refine hfree k ok hk hki ?_ hno
        by_cases hjk : j = k
        · subst hjk; exact hjun
        · rw [getD_set_ne true hjk] at hun; exact hun
      have hd' : ∀ dd ∈ ds, (listed.setIfInBounds j true).getD dd true = false → Region.reachB md ops i n dd = true := fun dd hm hun => by
        refine hd dd hm ?_
        by_cases hjk : j = dd
        · subst hjk; exact hjun
        · rw [getD_set_ne true hjk] at hun; exact hun
      refine wpOpIn_mono (fun a' w' h3 => ?_) h2
      obtain ⟨hy', S', hsub, hS', hW⟩ := h3
      refine ⟨S', hsub, hS', ih (listed.setIfInBounds j true) S' a' w' hfree' (hc.set hj) hd' (ready_mono hr (Ne.symm hji)) (YieldsIf.lessI hy' hsub) (hS' hjd hS) ?_⟩
      rw [Array.setIfInBounds_comm _ _ hji]
      exact hW
theorem wpV_anyI {ds : List Nat} {i : Nat} {oi : Oper} {v : Value} (hnd : NoDef ops) (hi : ops[i]? = some oi) (hsel : ∀ (j : Nat) (o : Oper) cs b, ops[j]? = some o → o.op ≠ .select cs b)
    (hQ : ∀ c a w, Q (.panic c) (a.put oi.dst v) w → Q (.panic c) a w) :
    ∀ (fuel : Nat) (listed : Array Bool) (S : World → Prop) (a : Act) (w : World),
      (∀ j oj, ops[j]? = some oj → j ≠ i → listed.getD j true = false → (∀ e ∈ oj.after, Region.binds md e = true → e.on ≠ i) → oi.apart ops oj = true) →
      i ∈ Region.ready md ops listed → Yields P ops oi v a →
      wpVI r d P md ops Q ds fuel (listed.setIfInBounds i true) S (a.put oi.dst v) w → wpVI r d P md ops Q ds (fuel + 1) listed S a w := by
  intro fuel
  induction fuel with
  | zero =>
    intro listed S a w _ hr hy H
    refine ⟨fun h => (by rw [h] at hr; cases hr), fun j hj => ?_⟩
    by_cases hji : j = i
    · subst hji; exact yieldsI hnd hi (hy.yieldsIf (S := fun _ => True)) trivial ⟨S, fun _ h => h, fun _ h => h, H⟩
    · have := ready_mono hj hji
      rw [H.1] at this
      cases this
  | succ fuel ih =>
    intro listed S a w hfree hr hy H
    refine ⟨fun h => (by rw [h] at hr; cases hr), fun j hj => ?_⟩
    by_cases hji : j = i
    · subst hji; exact yieldsI hnd hi (hy.yieldsIf (S := fun _ => True)) trivial ⟨S, fun _ h => h, fun _ h => h, H⟩
    · have h1 := H.2 j (ready_mono hj hji)
      obtain ⟨hjun, oj, hoj, hall⟩ := mem_ready.1 hj
      have hiun := (mem_ready.1 hr).1
      have hnot : ∀ e ∈ oj.after, Region.binds md e = true → e.on ≠ i := fun e he hb heq => by
        have h1 := hall e he hb
        rw [heq] at h1
        rcases Nat.lt_or_ge i listed.size with h' | h'
        · simp [h'] at hiun h1; rw [hiun] at h1; cases h1
        · simp [Array.getElem?_eq_none h'] at h1
      have h2 := putI hnd hoj (hfree j oj hoj hji hjun hnot) (fun cs b => hsel i oi cs b hi) (fun cs b => hsel j oj cs b hoj) hQ hy h1
      have hfree' : ∀ k ok, ops[k]? = some ok → k ≠ i → (listed.setIfInBounds j true).getD k true = false →
          (∀ e ∈ ok.after, Region.binds md e = true → e.on ≠ i) → oi.apart ops ok = true := fun k ok hk hki hun hno => by
        refine hfree k ok hk hki ?_ hno
        by_cases hjk : j = k
        · subst hjk; exact hjun
        · rw [getD_set_ne true hjk] at hun; exact hun
      refine wpOpIn_mono (fun a' w' h3 => ?_) h2
      obtain ⟨hy', S', hsub, hS', hW⟩ := h3
      refine ⟨S', hsub, hS', ih (listed.setIfInBounds j true) S' a' w' hfree' (ready_mono hr (Ne.symm hji)) hy' ?_⟩
      rw [Array.setIfInBounds_comm _ _ hji]
      exact hW
theorem wpV_doneI {ds : List Nat} {S : World → Prop} {l : Array Bool} {a : Act} {w : World} (hr : (Region.ready md ops l == []) = true) (h : Q .normal a w) : ∀ n, wpVI r d P md ops Q ds n l S a w
  | 0 => ⟨by simpa using hr, h⟩
  | _ + 1 => ⟨fun _ => h, by rw [show Region.ready md ops l = [] by simpa using hr]; simp⟩
theorem wpV_oneI {ds : List Nat} {S : World → Prop} {i : Nat} {oi : Oper} {fuel : Nat} {l l' : Array Bool} {a : Act} {w : World} (hi : ops[i]? = some oi) (hc : readyB md ops l l' i = true)
    (h : ∀ K : Act → World → Prop, (∀ a' w' (S' : World → Prop), (∀ x, S' x → S x) → (i ∉ ds → S w → S' w') → wpVI r d P md ops Q ds fuel l' S' a' w' → K a' w') → if Region.wanted oi (yielded ops a.tmps) = true then Oper.wpIn (FF r) d P oi a w K Q else K (a.put oi.dst undef) w) :
    wpVI r d P md ops Q ds (fuel + 1) l S a w := by
  simp only [readyB, Bool.and_eq_true, beq_iff_eq] at hc
  obtain ⟨hr, rfl⟩ := hc
  refine ⟨fun h0 => (by rw [h0] at hr; cases hr), fun j hj => ?_⟩
  rw [hr] at hj
  obtain rfl := List.mem_singleton.1 hj
  exact stepI hi (fun K' hK => h K' (fun a' w' S' h1 h2 h3 => hK a' w' ⟨S', h1, h2, h3⟩))
theorem deep0I : ∀ t : OT, deepB t 0 = true → heads t = []
  | .nil, _ => rfl
  | .one _ _ _ _, h => by simp [deepB] at h
  | .two a b, h => by
    simp only [deepB, Bool.and_eq_true] at h
    simp [heads, deep0I a h.1, deep0I b h.2]
/-- What stands behind an operation that was carried out. -/
abbrev BehindI (r : Option Nat) (d : Nat) (P : Program) (ops : Array Oper) (Q : Exit → Act → World → Prop) (ds : List Nat) (n : Nat) (l : List Bool) (S : World → Prop) (w : World) (i : Nat) (a' : Act) (w' : World) : Prop :=
  ∃ S' : World → Prop, (∀ x, S' x → S x) ∧ (i ∉ ds → S w → S' w') ∧ wpVI r d P .any ops Q ds n ⟨l.set i true⟩ S' a' w'
theorem can_ofI {ds : List Nat} {T : Bool × List (List Nat × List Nat)} {B : List Nat} (hnd : NoDef ops) (hT : rtab .any ops = T) (hB : waitsOk T.2 B = true) (hQ : ∀ c (a : Act) N v w, Q (.panic c) (a.put N v) w → Q (.panic c) a w) :
    ∀ (rr : OT) (l : List Bool) (S : World → Prop) (a : Act) (w : World) (n : Nat), wpCanI r d P ops Q S rr a w →
      (canB T B ds true l rr = true → deepB rr n = true → wpVI r d P .any ops Q ds n ⟨l⟩ S a w) ∧
      (canB T B ds false l rr = true → deepB rr (n + 1) = true → ∀ i ∈ heads rr, wpOpIn (FF r) d P ops Q i (BehindI r d P ops Q ds n l S w i) a w)
  | .nil, l, S, a, w, n, h => ⟨fun hc _ => wpV_doneI (done_of hT (by simpa [canB] using hc)) h _, fun _ _ i hi => by cases hi⟩
  | .two x y, l, S, a, w, n, h => by
    have ihx := fun n => can_ofI (ds := ds) hnd hT hB hQ x l S a w n h.1
    have ihy := fun n => can_ofI (ds := ds) hnd hT hB hQ y l S a w n h.2
    refine ⟨fun hc hd => ?_, fun hc hd i hi => ?_⟩
    · simp only [canB, Bool.not_true, Bool.false_or, Bool.and_eq_true, beq_iff_eq, Bool.not_eq_true'] at hc
      obtain ⟨⟨hr, hne⟩, hcx, hcy⟩ := hc
      simp only [deepB, Bool.and_eq_true] at hd
      have hready : Region.ready .any ops ⟨l⟩ = heads x ++ heads y := by rw [ready_eq, hT]; exact hr
      cases n with
      | zero => rw [deep0I x hd.1] at hne; cases hne
      | succ n =>
        refine ⟨fun h0 => ?_, fun i hi => ?_⟩
        · rw [hready, List.append_eq_nil_iff] at h0
          rw [h0.1] at hne; cases hne
        · rw [hready] at hi
          have key : wpOpIn (FF r) d P ops Q i (BehindI r d P ops Q ds n l S w i) a w := by
            rcases List.mem_append.1 hi with hi | hi
            · exact (ihx n).2 hcx hd.1 i hi
            · exact (ihy n).2 hcy hd.2 i hi
          have el : (⟨l⟩ : Array Bool).setIfInBounds i true = ⟨l.set i true⟩ := by apply Array.ext'; simp
          rw [el]
          exact key
    · simp only [canB, Bool.not_false, Bool.true_or, Bool.true_and, Bool.and_eq_true] at hc
      simp only [deepB, Bool.and_eq_true] at hd
      rcases List.mem_append.1 hi with hi | hi
      · exact (ihx n).2 hc.1 hd.1 i hi
      · exact (ihy n).2 hc.2 hd.2 i hi
  | .one i t N rr, l, S, a, w, n, h => by
    obtain ⟨oi, hi, hN, h⟩ := h
    subst hN
    have ih := fun S a w n h => (can_ofI (ds := ds) hnd hT hB hQ rr (l.set i true) S a w n h).1
    refine ⟨fun hc hd => ?_, fun hc hd j hj => ?_⟩
    · cases n with
      | zero => simp [deepB] at hd
      | succ n =>
      have hd : deepB rr n = true := hd
      simp only [canB, Bool.not_true, Bool.false_or, Bool.true_and, Bool.and_eq_true] at hc
      obtain ⟨h1, h2⟩ := hc
      match t, h1, h with
      | 0, h1, ⟨v, hy, h⟩ =>
        have hc := any_of (l := ⟨l⟩) (l' := ⟨l.set i true⟩) hT h1
        simp only [anyB, Bool.and_eq_true, beq_iff_eq] at hc
        obtain ⟨⟨⟨c1, c2⟩, c3⟩, c4⟩ := hc
        refine wpV_anyI hnd hi (Region.noSelect_spec c1) (fun c a w hq => hQ c a _ _ w hq) _ ⟨l⟩ S a w (Region.free_spec hi c2) (by simpa using c3) hy ?_
        rw [c4]; exact ih S _ _ n h h2 hd
      | 1, h1, ⟨v, hy, hS, h⟩ =>
        have hc := take_ofW (l := ⟨l⟩) (l' := ⟨l.set i true⟩) hT hB h1
        simp only [takeB, Bool.and_eq_true, beq_iff_eq] at hc
        obtain ⟨⟨⟨⟨⟨c1, c2⟩, c3⟩, c4⟩, c5⟩, c6⟩ := hc
        refine wpV_firstI hnd hi (Region.noSelect_spec c1) (fun c a w hq => hQ c a _ _ w hq) ops.size _ ⟨l⟩ S a w (Region.free_spec hi c2) (Region.closedB_spec c4)
          (fun d hm hun => by have := List.all_eq_true.1 c5 d hm; rw [hun] at this; simpa using this) (by simpa using c3) hy hS ?_
        rw [c6]; exact ih S _ _ n h h2 hd
      | 2, h1, h =>
        simp only [Bool.and_eq_true] at h1
        refine wpV_oneI hi (l' := ⟨l.set i true⟩) (one_of hT (by simp [h1.1])) (fun K hK => ?_)
        exact h K (fun a' w' hS hc => hK a' w' S (fun _ h => h) (fun _ _ => hS) (ih S _ _ n (hc hS) h2 hd))
      | 4, h1, h =>
        simp only [Bool.and_eq_true] at h1
        refine wpV_oneI hi (l' := ⟨l.set i true⟩) (one_of hT (by simp [h1.1])) (fun K hK => ?_)
        exact h K (fun a' w' S' hs hS' hc => hK a' w' S' hs (fun _ _ => hS') (ih S' _ _ n hc h2 hd))
      | 3, h1, h =>
        simp only [Bool.and_eq_true] at h1
        refine wpV_oneI hi (l' := ⟨l.set i true⟩) (one_of hT (by simp [h1.1])) (fun K hK => ?_)
        exact h K (fun a' w' hc => hK a' w' S (fun _ h => h) (fun hn => absurd (by simpa using h1.2) hn) (ih S _ _ n hc h2 hd))
      | q + 5, h1, h =>
        simp only [Bool.and_eq_true] at h1
        refine wpV_oneI hi (l' := ⟨l.set i true⟩) (one_of hT (by simp [h1.1])) (fun K hK => ?_)
        exact h K (fun a' w' hc => hK a' w' S (fun _ h => h) (fun hn => absurd (by simpa using h1.2) hn) (ih S _ _ n hc h2 hd))
    · obtain rfl := List.mem_singleton.1 hj
      have hd : deepB rr n = true := hd
      simp only [canB, Bool.not_false, Bool.true_or, Bool.true_and, Bool.false_and, Bool.and_eq_true] at hc
      obtain ⟨h1, h2⟩ := hc
      match t, h1, h with
      | 0, h1, h => cases h1
      | 1, h1, h => cases h1
      | 2, h1, h =>
        refine stepI hi (fun K hK => ?_)
        exact h K (fun a' w' hS hc => hK a' w' ⟨S, fun _ h => h, fun _ _ => hS, ih S _ _ n (hc hS) h2 hd⟩)
      | 4, h1, h =>
        refine stepI hi (fun K hK => ?_)
        exact h K (fun a' w' S' hs hS' hc => hK a' w' ⟨S', hs, fun _ _ => hS', ih S' _ _ n hc h2 hd⟩)
      | 3, h1, h =>
        refine stepI hi (fun K hK => ?_)
        exact h K (fun a' w' hc => hK a' w' ⟨S, fun _ h => h, fun hn => absurd (by simpa using h1) hn, ih S _ _ n hc h2 hd⟩)
      | q + 5, h1, h =>
        refine stepI hi (fun K hK => ?_)
        exact h K (fun a' w' hc => hK a' w' ⟨S, fun _ h => h, fun hn => absurd (by simpa using h1) hn, ih S _ _ n hc h2 hd⟩)
/-- A region that acts: its operations in order. -/
theorem region_canI {id n : Nat} {a : Act} {w : World} {T : Bool × List (List Nat × List Nat)} {B : List Nat} (rr : OT) (ds : List Nat) (S : World → Prop) (hnd : NoDef ops) (hm : P.follows .mixedOrders = true) (hn : ops.size = n) (hT : rtab .any ops = T) (hB : waitsOk T.2 B = true) (hr : deepB rr n = true) (hc : canB T B ds true (List.replicate n false) rr = true) (hQ : ∀ c (a : Act) N v w, Q (.panic c) (a.put N v) w → Q (.panic c) a w)
    (hS : S w.drew) (h : S w.drew → wpCanI r d P ops Q S rr a w.drew) : (Code.region id ops true).wpIn (FF r) d P Q a w := by
  refine wpIn_region_any hm (wpAny_of_VI (ds := ds) _ _ S _ _ ?_)
  rw [hn]
  have e1 : Array.replicate n false = ⟨List.replicate n false⟩ := by apply Array.ext'; simp
  rw [e1]
  exact (can_ofI hnd hT hB hQ rr _ S _ _ n (h hS)).1 hc hr
end
end Go.Proofs.YtggflkjdgcdcmaaGreatDoor.Reg
