/- The engine, eighth text: code; a function. -/
import Derived.Test.YtggflkjdgcdcmaaGreatDoorEngG
import Derived.Scope
import Derived.RangeFuncRecord
namespace Go.Proofs.YtggflkjdgcdcmaaGreatDoor.Eng
open Go Go.RowKit Go.Proofs.YtggflkjdgcdcmaaGreatDoorW.PrintWords Go.Proofs.YtggflkjdgcdcmaaGreatDoorW.PrintLast
set_option linter.unusedVariables false
set_option linter.unusedSimpArgs false
abbrev Chg := List (Nat × Option TypeId)
def cnt : Code → Nat
  | .seq a b => cnt a + cnt b
  | .cond _ a b => cnt a + cnt b + 1
  | .block _ b => cnt b + 1
  | .loop b => cnt b + 1
  | .rangeFunc _ _ a b => cnt a + cnt b + 1
  | .scope b => cnt b
  | _ => 0
def wr : Code → List Nat
  | .region _ ops _ => dsts ops.toList
  | .seq a b => wr a ++ wr b
  | .cond _ a b => wr a ++ wr b
  | .block _ b => wr b
  | .loop b => wr b
  | .scope b => wr b
  | _ => []
def slots : Chg → List Nat
  | [] => []
  | (d, _) :: r => d :: slots r
def memB (a : Nat) : List Nat → Bool
  | [] => false
  | b :: r => match Nat.beq a b with
    | true => true
    | false => memB a r
def subL : List Nat → List Nat → Bool
  | [], _ => true
  | a :: r, l => match memB a l with
    | true => subL r l
    | false => false
theorem memB_spec {a : Nat} : ∀ {l : List Nat}, memB a l = true → a ∈ l
  | [], h => by cases h
  | b :: r, h => by
    unfold memB at h
    split at h
    · rename_i hb; rw [Nat.eq_of_beq_eq_true hb]; simp
    · exact List.mem_cons_of_mem _ (memB_spec h)
theorem subL_spec : ∀ {l l' : List Nat}, subL l l' = true → ∀ i, i ∈ l → i ∈ l'
  | [], l', h, i, hi => by cases hi
  | a :: r, l', h, i, hi => by
    unfold subL at h
    split at h
    · rename_i hm
      rcases List.mem_cons.1 hi with rfl | hi
      · exact memB_spec hm
      · exact subL_spec h i hi
    · cases h
/-! ### Any values of a type -/
def allv (d : TypeDesc) (k : Value → Prop) : Prop :=
  match d with
  | .bool => ∀ b : Bool, k (.bool b)
  | .int kd => ∀ n : Int, k (.int kd n)
  | .string => ∀ s : ByteArray, k (.string s)
  | .pointer _ => ∀ q : Option Addr, k (.pointer q)
  | .slice _ => ∀ (q : Option Addr) (l c : Nat), k (.slice q l c)
  | .map _ _ => ∀ r : Option Nat, k (.map r)
  | _ => ∀ v : Value, k v
def fitv (d : TypeDesc) (v : Value) : Bool :=
  match d with
  | .bool => (match v with | .bool _ => true | _ => false)
  | .int kd => (match v with | .int kd' _ => decide (kd = kd') | _ => false)
  | .string => (match v with | .string _ => true | _ => false)
  | .pointer _ => (match v with | .pointer _ => true | _ => false)
  | .slice _ => (match v with | .slice _ _ _ => true | _ => false)
  | .map _ _ => (match v with | .map _ => true | _ => false)
  | _ => true
theorem allv_at {d : TypeDesc} {k : Value → Prop} {v : Value} (h : allv d k) (hf : fitv d v = true) : k v := by
  cases d <;> first
    | exact h v
    | (unfold fitv at hf
       cases v <;> first
         | exact h _
         | exact h _ _ _
         | (simp only [decide_eq_true_eq] at hf; subst hf; exact h _)
         | cases hf)
def allL : List TypeDesc → (List Value → Prop) → Prop
  | [], k => k []
  | d :: r, k => allv d (fun v => allL r (fun vs => k (v :: vs)))
def fitL : List TypeDesc → List Value → Bool
  | [], [] => true
  | d :: r, v :: vs => match fitv d v with
    | true => fitL r vs
    | false => false
  | _, _ => false
theorem allL_at : ∀ {ds : List TypeDesc} {k : List Value → Prop} {vs : List Value}, allL ds k → fitL ds vs = true → k vs
  | [], k, [], h, hf => h
  | [], k, v :: vs, h, hf => by cases hf
  | d :: r, k, [], h, hf => by cases hf
  | d :: r, k, v :: vs, h, hf => by
    unfold fitL at hf
    split at hf
    · rename_i hv
      exact allL_at (k := fun vs => k (v :: vs)) (allv_at h hv) hf
    · cases hf
def allT (P : Program) (T : TypeId) (k : Value → Prop) : Prop :=
  match P.underlying T with
  | some d => (match aggD (some d) with
    | true => (match flat P 6 T with
      | some ds => allL ds (fun vs => k (.agg vs.toArray))
      | none => ∀ v, k v)
    | false => allv d k)
  | none => ∀ v, k v
def fitT (P : Program) (T : TypeId) (v : Value) : Bool :=
  match P.underlying T with
  | some d => (match aggD (some d) with
    | true => (match flat P 6 T with
      | some ds => (match v with
        | .agg cs => fitL ds cs.toList
        | _ => false)
      | none => true)
    | false => fitv d v)
  | none => true
theorem allT_at {P : Program} {T : TypeId} {k : Value → Prop} {v : Value} (h : allT P T k) (hf : fitT P T v = true) : k v := by
  unfold allT at h
  unfold fitT at hf
  cases hu : P.underlying T with
  | none => rw [hu] at h; exact h v
  | some d =>
    rw [hu] at h hf
    simp only at h hf
    cases ha : aggD (some d) with
    | true =>
      rw [ha] at h hf
      simp only at h hf
      cases hfl : flat P 6 T with
      | none => rw [hfl] at h; exact h v
      | some ds =>
        rw [hfl] at h hf
        cases v <;> try cases hf
        exact allL_at (k := fun vs => k (.agg vs.toArray)) h hf
    | false =>
      rw [ha] at h hf
      exact allv_at h hf
def havoc (P : Program) : Chg → Fr → (Fr → List Value → Prop) → Prop
  | [], t, k => k t []
  | (d, none) :: r, t, k => ∀ v : Value, havoc P r (upd t d v) k
  | (d, some T) :: r, t, k => allT P T (fun v => havoc P r (upd t d v) (fun t' vs => k t' (v :: vs)))
def liveOf : Chg → Fr → List Value
  | [], t => []
  | (d, none) :: r, t => liveOf r t
  | (d, some _) :: r, t => nth t d :: liveOf r t
def fitC (P : Program) : Chg → Fr → Bool
  | [], t => true
  | (d, none) :: r, t => fitC P r t
  | (d, some T) :: r, t => match fitT P T (nth t d) with
    | true => fitC P r t
    | false => false
theorem ext_nth : ∀ (a b : Fr), a.length = b.length → (∀ i, nth a i = nth b i) → a = b
  | [], [], _, _ => rfl
  | [], b :: bs, h, _ => by simp at h
  | a :: as, [], h, _ => by simp at h
  | a :: as, b :: bs, h, hn => by
    have h0 := hn 0
    simp only [nth] at h0
    rw [h0, ext_nth as bs (by simpa using h) (fun i => by have := hn (i + 1); simpa [nth] using this)]
theorem havoc_at {P : Program} : ∀ {chg : Chg} {t t' : Fr} {k : Fr → List Value → Prop}, havoc P chg t k → t'.length = t.length → Agr (slots chg) t t' → fitC P chg t' = true → k t' (liveOf chg t')
  | [], t, t', k, h, hl, ha, hf => by
    have : t' = t := ext_nth _ _ hl (fun i => ha i (by simp [slots]))
    subst this; exact h
  | (d, none) :: r, t, t', k, h, hl, ha, hf => by
    have h1 := h (nth t' d)
    refine havoc_at (chg := r) (t := upd t d (nth t' d)) h1 (by rw [upd_length]; exact hl) (fun i hi => ?_) hf
    by_cases hd : d = i
    · subst hd
      rcases Nat.lt_or_ge d t.length with hlt | hge
      · rw [nth_upd_same _ _ _ hlt]
      · rw [upd_over _ _ _ hge, nth_over t' d (by omega), nth_over t d hge]
    · rw [nth_upd_ne _ _ _ _ hd]
      exact ha i (by simp [slots]; exact ⟨fun e => hd e.symm, hi⟩)
  | (d, some T) :: r, t, t', k, h, hl, ha, hf => by
    unfold fitC at hf
    split at hf
    · rename_i hfT
      have h1 := allT_at h hfT
      refine havoc_at (chg := r) (t := upd t d (nth t' d)) (k := fun t' vs => k t' (nth _ d :: vs)) h1 (by rw [upd_length]; exact hl) (fun i hi => ?_) hf
      by_cases hd : d = i
      · subst hd
        rcases Nat.lt_or_ge d t.length with hlt | hge
        · rw [nth_upd_same _ _ _ hlt]
        · rw [upd_over _ _ _ hge, nth_over t' d (by omega), nth_over t d hge]
      · rw [nth_upd_ne _ _ _ _ hd]
        exact ha i (by simp [slots]; exact ⟨fun e => hd e.symm, hi⟩)
    · cases hf
/-! ### Code -/
abbrev KK := Exit → Fr → Kn → List Nat → World → Prop
def thenK (K : Fr → Kn → List Nat → World → Prop) (Q : KK) : KK := fun e => match e with
  | .normal => K
  | e => Q e
def blockK (id : Nat) (Q : KK) : KK := fun e t kn m w => match e with
  | .exit id' => (match Nat.beq id' id with
    | true => Q .normal t kn m w
    | false => Q (.exit id') t kn m w)
  | e => Q e t kn m w
def noGo (Q : KK) : KK := fun e => match e with
  | .goto _ => fun _ _ _ _ => False
  | e => Q e
def condR (kv : Nat → Option Bool) (N : Nat) (c : Operand) (t : Fr) (kn : Kn) (x z : Fr → Kn → Prop) : Prop :=
  match c with
  | .tmp d => (match Nat.blt d N with
    | false => False
    | true => (match look kn d with
      | some true => x t kn
      | some false => z t kn
      | none => (match kv d with
        | some true => nth t d = .bool true ∧ x t ((d, some true) :: kn)
        | some false => nth t d = .bool false ∧ z t ((d, some false) :: kn)
        | none => (match nth t d with
        | .bool b => (b = true → x (upd t d (.bool true)) ((d, some true) :: kn)) ∧ (b = false → z (upd t d (.bool false)) ((d, some false) :: kn))
        | _ => False))))
  | .const (.bool true) => x t kn
  | .const (.bool false) => z t kn
  | _ => False
/-- No range over a function in here. -/
def noR : Code → Bool
  | .seq a b => (match noR a with | true => noR b | false => false)
  | .cond _ a b => (match noR a with | true => noR b | false => false)
  | .block _ b => noR b
  | .loop b => noR b
  | .scope b => noR b
  | .rangeFunc _ _ _ _ => false
  | _ => true
def mOk (dr : Bool) (c : Code) : Bool := match dr with
  | false => true
  | true => noR c
def joinK (P : Program) (chg : Chg) (t : Fr) (m : List Nat) (X : KK → Prop) (Q : KK) : Prop :=
  ∃ J : List Value → World → Prop, X (thenK (fun t'' kn'' _ w'' => selB (fitC P chg t'') (J (liveOf chg t'') w'')) Q) ∧ ∀ w' : World, havoc P chg t (fun t' vs => J vs w' → Q .normal t' [] m w')
def loopK (P : Program) (chg : Chg) (t : Fr) (m : List Nat) (w : World) (X : KK → Fr → Kn → World → Prop) (Q : KK) : Prop :=
  ∃ I : Nat → List Value → World → Prop, selB (fitC P chg t) (∃ m, I m (liveOf chg t) w) ∧
    ∀ (m : Nat) (w' : World), havoc P chg t (fun t' vs => I m vs w' → X (thenK (fun t'' kn'' _ w'' => selB (fitC P chg t'') (∃ m', m' < m ∧ I m' (liveOf chg t'') w'')) Q) t' [] w')
/-- Likewise, where rounds lay marks of their own. -/
def loopMK (P : Program) (chg : Chg) (t : Fr) (m : List Nat) (w : World) (X : KK → Fr → Kn → List Nat → World → Prop) (Q : KK) : Prop :=
  ∃ I : Nat → List Value → List Nat → World → Prop, selB (fitC P chg t) (∃ m0, I m0 (liveOf chg t) m w) ∧
    ∀ (m : Nat) (ms : List Nat) (w' : World), havoc P chg t (fun t' vs => I m vs ms w' → X (thenK (fun t'' kn'' m'' w'' => selB (fitC P chg t'') (∃ m', m' < m ∧ I m' (liveOf chg t'') m'' w'')) Q) t' [] ms w')
/-! ### A range over a function -/
/-- The record of a loop, in a state. -/
def LoopObj (L : Loop) (s : LoopState) (p : Option Code) : Obj := .loop { L with state := s, pending := p }
/-- The two blocks that are laid: one for deferred calls, one for the record. -/
def LoopR (w : World) (k : Nat → Nat → Loop → World → Prop) : Prop :=
  ∀ L : Loop, k w.heap.size (w.heap.size + 1) L ((w.alloc (.deferred (some []))).alloc (LoopObj L .ready none))
/-- The record stands ready. -/
def RecR (l : Nat) (L : Loop) (w : World) : Prop := w.heap[l]? = some (LoopObj L .ready none)
def BegR (l : Nat) (L : Loop) (w : World) (k : World → Prop) : Prop := w.heap[l]? = some (LoopObj L .ready none) ∧ k (w.putObj l (LoopObj L .busy none))
def FinR (l : Nat) (L : Loop) (p : Option Code) (w : World) (k : World → Prop) : Prop :=
  w.heap[l]? = some (LoopObj L .busy none) ∧ k (w.putObj l (LoopObj L (if p.isNone then .ready else .done) p))
def EndR (l : Nat) (L : Loop) (p : Option Code) (w : World) (k : World → Prop) : Prop :=
  ∃ s, s ≠ LoopState.busy ∧ w.heap[l]? = some (LoopObj L s p) ∧ k (w.putObj l (LoopObj L .exhausted p))
def MarkR (r : Nat) (w : World) (k : World → Prop) : Prop := w.heap[r]? = some (.deferred (some [])) ∧ k (w.putObj r (.deferred none))
def endK (l : Nat) (L : Loop) (k : Value → World → Prop) : KK := fun e t kn m w => match e with
  | .normal => FinR l L none w (fun w' => k (.bool true) w')
  | .ret => FinR l L (some .ret) w (fun w' => k (.bool false) w')
  | .exit id => FinR l L (some (.exit id)) w (fun w' => k (.bool false) w')
  | _ => False
def exitsOf : Code → List Nat
  | .seq a b => exitsOf a ++ exitsOf b
  | .cond _ a b => exitsOf a ++ exitsOf b
  | .block _ b => exitsOf b
  | .loop b => exitsOf b
  | .scope b => exitsOf b
  | .exit id => [id]
  | _ => []
def hasRet : Code → Bool
  | .seq a b => (match hasRet a with | true => true | false => hasRet b)
  | .cond _ a b => (match hasRet a with | true => true | false => hasRet b)
  | .block _ b => hasRet b
  | .loop b => hasRet b
  | .scope b => hasRet b
  | .ret => true
  | _ => false
def endEx (l : Nat) (L : Loop) (w : World) (k : Nat → World → Prop) : List Nat → Prop
  | [] => False
  | [id] => EndR l L (some (.exit id)) w (k id)
  | id :: r => EndR l L (some (.exit id)) w (k id) ∨ endEx l L w k r
def endsR (l : Nat) (L : Loop) (w : World) (b : Code) (kn kr : World → Prop) (ke : Nat → World → Prop) : Prop :=
  match hasRet b, exitsOf b with
  | false, [] => EndR l L none w kn
  | false, e => EndR l L none w kn ∨ endEx l L w ke e
  | true, [] => EndR l L none w kn ∨ EndR l L (some .ret) w kr
  | true, e => EndR l L none w kn ∨ EndR l L (some .ret) w kr ∨ endEx l L w ke e
def eqLn : List Nat → List Nat → Bool
  | [], [] => true
  | a :: r, b :: q => (match Nat.beq a b with | true => eqLn r q | false => false)
  | _, _ => false
def allSm : Chg → Bool
  | [] => true
  | (_, some _) :: r => allSm r
  | _ => false
def isBody (P : Program) (f : FuncId) : Bool := match P.funcs[f]? with
  | some fn => fn.body.isSome
  | none => false
def exV : Nat → (List Value → Prop) → Prop
  | 0, k => k []
  | n + 1, k => ∃ v : Value, exV n (fun vs => k (v :: vs))
theorem exV_of : ∀ {n : Nat} {k : List Value → Prop}, exV n k → ∃ vs, k vs
  | 0, k, h => ⟨[], h⟩
  | n + 1, k, h => by
    obtain ⟨v, h⟩ := h
    obtain ⟨vs, h⟩ := exV_of h
    exact ⟨v :: vs, h⟩
/-- The function that is ranged over is known: f, with so many values caught. -/
def rngR (P : Program) (chg : Chg) (ps : List Nat) (body : Code) (fo : List (Nat × Nat)) (gv : Value) (t : Fr) (w : World) (X : Nat → Loop → (Value → World → Prop) → Fr → World → Prop) (Q : Nat → Exit → World → Prop) : Prop :=
  match fo with
  | (f, nc) :: _ => selB (isBody P f) (selB (eqLn (slots chg) ps) (selB (allSm chg) (exV nc (fun cs => gv = .func (.func f) #[] cs.toArray ∧ LoopR w (fun mk l L w1 =>
      havoc P chg t (fun t' vs => ∀ (w2 : World) (k : Value → World → Prop), RecR l L w2 → X l L k t' w2 → RoundR P l vs.toArray w2 k) →
      Rets P f (Value.func (.yield l) #[] #[] :: cs).toArray w1 (fun _ w3 => endsR l L w3 body (fun w4 => Q mk .normal w4) (fun w4 => Q mk .ret w4) (fun id w4 => Q mk (.exit id) w4)))))))
  | [] => False
/-- Where the ways of a region meet: its own slots, and what of them is looked at behind (0: nothing; n + 1: the type n). -/
def decJ : List (Nat × Nat) → Chg
  | [] => []
  | (d, 0) :: r => (d, none) :: decJ r
  | (d, n + 1) :: r => (d, some n) :: decJ r
def regW (P : Program) (kv : Nat → Option Bool) (N : Nat) (ord : Nat → List (Nat × Nat)) (id : Nat) (ops : List Oper) (draw : Bool) (Q : KK) (t : Fr) (kn : Kn) (m : List Nat) (w : World) : Prop := match draw with
  | false => opsW P kv N true ops (fun t kn w => Q .normal t kn m w) ops t kn w
  | true => drawR P kv N ops (ord id) (fun t kn w => Q .normal t kn m w) t kn w
def cw (P : Program) (kv : Nat → Option Bool) (N : Nat) (dr : Bool) (an : Nat → Option Chg) (ord : Nat → List (Nat × Nat)) : Code → Nat → KK → Fr → Kn → List Nat → World → Prop
  | .skip, o, Q, t, kn, m, w => Q .normal t kn m w
  | .label _, o, Q, t, kn, m, w => Q .normal t kn m w
  | .exit id, o, Q, t, kn, m, w => Q (.exit id) t kn m w
  | .ret, o, Q, t, kn, m, w => Q .ret t kn m w
  | .seq a b, o, Q, t, kn, m, w => cw P kv N dr an ord a o (thenK (fun t kn m w => cw P kv N dr an ord b (o + cnt a) Q t kn m w) Q) t kn m w
  | .cond c a b, o, Q, t, kn, m, w => (match an o with
    | none => condR kv N c t kn (fun t kn => cw P kv N dr an ord a (o + 1) Q t kn m w) (fun t kn => cw P kv N dr an ord b (o + 1 + cnt a) Q t kn m w)
    | some chg => selB (subL (wr a ++ wr b) (slots chg)) (selB (mOk dr (.cond c a b)) (joinK P chg t m (fun Q => condR kv N c t kn (fun t kn => cw P kv N dr an ord a (o + 1) Q t kn m w) (fun t kn => cw P kv N dr an ord b (o + 1 + cnt a) Q t kn m w)) Q)))
  | .block id b, o, Q, t, kn, m, w => (match an o with
    | none => cw P kv N dr an ord b (o + 1) (blockK id Q) t kn m w
    | some chg => selB (subL (wr b) (slots chg)) (selB (mOk dr b) (joinK P chg t m (fun Q => cw P kv N dr an ord b (o + 1) (blockK id Q) t kn m w) Q)))
  | .loop b, o, Q, t, kn, m, w => (match an o with
    | none => False
    | some chg => selB (subL (wr b) (slots chg)) (match mOk dr b with
      | true => loopK P chg t m w (fun Q t kn w => cw P kv N dr an ord b (o + 1) Q t kn m w) Q
      | false => loopMK P chg t m w (fun Q t kn m w => cw P kv N dr an ord b (o + 1) Q t kn m w) Q))
  | .region id ops draw, o, Q, t, kn, m, w => (match ord (2000000 + id) with
    | [] => regW P kv N ord id ops.toList draw Q t kn m w
    | j :: js => selB (subL (dsts ops.toList) (slots (decJ (j :: js)))) (joinK P (decJ (j :: js)) t m (fun Q => regW P kv N ord id ops.toList draw Q t kn m w) Q))
  | .scope b, o, Q, t, kn, m, w => selB dr (cw P kv N dr an ord b o (noGo Q) t kn m w)
  | .rangeFunc g ps asg body, o, Q, t, kn, m, w => selB dr (match an o with
    | none => False
    | some chg => rngR P chg ps.toList body (ord (1000000 + o)) (ev t g) t w
        (fun l L k t' w2 => cw P kv N false an ord asg (o + 1) (thenK (fun t2 kn2 m2 w3 => BegR l L w3 (fun w4 => cw P kv N false an ord body (o + 1 + cnt asg) (endK l L k) t2 kn2 [] w4)) (fun _ _ _ _ _ => False)) t' [] [] w2)
        (fun mk e w4 => Q e t kn (mk :: m) w4))
  | _, o, Q, t, kn, m, w => False
/-- The marks of ranges over functions, as the machine keeps them. -/
def marks (m : List Nat) : List Deferred := m.map (fun r => { target := .collected r, args := #[] })
def post (dr : Bool) (m : List Nat) (N : Nat) (c : Code) (t : Fr) (Q : KK) : Exit → Act → World → Prop :=
  fun e a w => ∃ t' kn' m', a = act t' (marks m') ∧ t'.length = N ∧ KOk kn' t' ∧ Agr (wr c) t t' ∧ (mOk dr c = true → m' = m) ∧ Q e t' kn' m' w
theorem KOk.of_eq {kn : Kn} {t : Fr} (hk : KOk kn t) {d : Nat} {b : Bool} (hv : nth t d = .bool b) : KOk ((d, some b) :: kn) t := by
  intro j b' hl hj
  unfold look at hl
  split at hl
  · rename_i he
    have := Nat.eq_of_beq_eq_true he
    subst this
    injection hl with hl
    rw [hv, hl]
  · exact hk j b' hl hj
theorem condR_sound {kv : Nat → Option Bool} {N : Nat} {c : Operand} {t : Fr} {kn : Kn} {x z : Fr → Kn → Prop} (h : condR kv N c t kn x z) (hN : t.length = N) (hk : KOk kn t) :
    (ev t c = .bool true ∧ ∃ kn', KOk kn' t ∧ x t kn') ∨ (ev t c = .bool false ∧ ∃ kn', KOk kn' t ∧ z t kn') := by
  unfold condR at h
  split at h
  · rename_i d
    split at h <;> try exact h.elim
    rename_i hlt
    have hlt : d < t.length := by rw [hN]; simpa [Nat.blt_eq] using hlt
    split at h
    · rename_i hb; exact .inl ⟨hk d true hb hlt, kn, hk, h⟩
    · rename_i hb; exact .inr ⟨hk d false hb hlt, kn, hk, h⟩
    · split at h
      · exact .inl ⟨h.1, _, hk.of_eq h.1, h.2⟩
      · exact .inr ⟨h.1, _, hk.of_eq h.1, h.2⟩
      split at h <;> try exact h.elim
      rename_i b hv
      cases b with
      | true =>
        have h1 := h.1 rfl
        rw [← hv, upd_same _ _ hlt] at h1
        exact .inl ⟨hv, _, hk.of_eq hv, h1⟩
      | false =>
        have h1 := h.2 rfl
        rw [← hv, upd_same _ _ hlt] at h1
        exact .inr ⟨hv, _, hk.of_eq hv, h1⟩
  · exact .inl ⟨rfl, kn, hk, h⟩
  · exact .inr ⟨rfl, kn, hk, h⟩
  · exact h.elim
theorem mOk_seq {dr : Bool} {a b : Code} (h : mOk dr (.seq a b) = true) : mOk dr a = true ∧ mOk dr b = true := by
  unfold mOk at h ⊢
  split at h
  · simp
  · unfold noR at h
    split at h
    · rename_i h1; exact ⟨h1, h⟩
    · cases h
theorem mOk_cond {dr : Bool} {c : Operand} {a b : Code} (h : mOk dr (.cond c a b) = true) : mOk dr a = true ∧ mOk dr b = true := by
  unfold mOk at h ⊢
  split at h
  · simp
  · unfold noR at h
    split at h
    · rename_i h1; exact ⟨h1, h⟩
    · cases h
theorem allT_intro {P : Program} {T : TypeId} {k : Value → Prop} (h : ∀ v, k v) : allT P T k := by
  have h1 : ∀ (d : TypeDesc) (k : Value → Prop), (∀ v, k v) → allv d k := by
    intro d k h
    unfold allv
    split <;> intros <;> exact h _
  have h2 : ∀ (ds : List TypeDesc) (k : List Value → Prop), (∀ vs, k vs) → allL ds k := by
    intro ds
    induction ds with
    | nil => intro k h; exact h []
    | cons d r ih => intro k h; exact h1 _ _ fun v => ih _ fun vs => h (v :: vs)
  unfold allT
  split
  · split
    · split
      · exact h2 _ _ fun vs => h _
      · exact h
    · exact h1 _ _ h
  · exact h
def setsL : List Nat → List Value → Fr → Fr
  | d :: r, v :: vs, t => setsL r vs (upd t d v)
  | _, _, t => t
theorem havoc_intro {P : Program} : ∀ {chg : Chg} {t : Fr} {k : Fr → List Value → Prop}, allSm chg = true → (∀ vs : List Value, vs.length = chg.length → k (setsL (slots chg) vs t) vs) → havoc P chg t k
  | [], t, k, _, h => h [] rfl
  | (d, none) :: r, t, k, ha, h => by cases ha
  | (d, some T) :: r, t, k, ha, h => allT_intro fun v => havoc_intro (chg := r) ha fun vs hl => h (v :: vs) (by simp [hl])
theorem setsL_length : ∀ (ds : List Nat) (vs : List Value) (t : Fr), (setsL ds vs t).length = t.length
  | [], vs, t => by cases vs <;> rfl
  | d :: r, [], t => rfl
  | d :: r, v :: vs, t => by rw [setsL, setsL_length r vs, upd_length]
theorem setsL_arr : ∀ (ds : List Nat) (vs : List Value) (t : Fr), (ds.zip vs).foldl (fun (tmps : Array Value) (x : Nat × Value) => tmps.setIfInBounds x.1 x.2) t.toArray = (setsL ds vs t).toArray
  | [], vs, t => by simp [setsL]
  | d :: r, [], t => by simp [setsL]
  | d :: r, v :: vs, t => by
    rw [List.zip_cons_cons, List.foldl_cons, setsL, ← setsL_arr r vs]
    congr 1
    apply Array.ext'
    simp [upd_eq]
theorem eqLn_spec : ∀ {a b : List Nat}, eqLn a b = true → a = b
  | [], [], _ => rfl
  | a :: r, b :: q, h => by
    unfold eqLn at h
    split at h
    · rename_i hb; rw [Nat.eq_of_beq_eq_true hb, eqLn_spec h]
    · cases h
  | [], b :: q, h => by cases h
  | a :: r, [], h => by cases h
theorem slots_length : ∀ chg : Chg, (slots chg).length = chg.length
  | [] => rfl
  | (d, _) :: r => by simp [slots, slots_length r]
theorem endEx_spec {l : Nat} {L : Loop} {w : World} {k : Nat → World → Prop} : ∀ {ids : List Nat}, endEx l L w k ids → ∃ id, EndR l L (some (.exit id)) w (k id)
  | [], h => h.elim
  | [id], h => ⟨id, h⟩
  | id :: id2 :: r, h => by
    rcases h with h | h
    · exact ⟨id, h⟩
    · exact endEx_spec h
section
variable {P : Program} {kv : Nat → Option Bool} {r : Option Nat} {n N : Nat} {dr : Bool} {an : Nat → Option Chg} {ord : Nat → List (Nat × Nat)}
def NoPan (Q : KK) : Prop := ∀ c t kn m w, ¬ Q (.panic c) t kn m w
theorem NoPan.then {K : Fr → Kn → List Nat → World → Prop} {Q : KK} (h : NoPan Q) : NoPan (thenK K Q) := h
theorem NoPan.block {id : Nat} {Q : KK} (h : NoPan Q) : NoPan (blockK id Q) := h
theorem endsR_spec {l : Nat} {L : Loop} {w : World} {b : Code} {kn kr : World → Prop} {ke : Nat → World → Prop} (h : endsR l L w b kn kr ke) :
    EndR l L none w kn ∨ EndR l L (some .ret) w kr ∨ ∃ id, EndR l L (some (.exit id)) w (ke id) := by
  unfold endsR at h
  split at h
  · exact .inl h
  · rcases h with h | h
    · exact .inl h
    · exact .inr (.inr (endEx_spec h))
  · rcases h with h | h
    · exact .inl h
    · exact .inr (.inl h)
  · rcases h with h | h | h
    · exact .inl h
    · exact .inr (.inl h)
    · exact .inr (.inr (endEx_spec h))
theorem cw_sound (hP : Plain P) (hm : P.follows .mixedOrders = true) : ∀ (c : Code) (o : Nat) (dr : Bool) (r : Option Nat) (n : Nat) (hr : dr = true → r = none) (Q : KK) (t : Fr) (kn : Kn) (m : List Nat) (w : World), cw P kv N dr an ord c o Q t kn m w → t.length = N → KOk kn t → NoPan Q →
    c.wpIn (FF r) n P (post dr m N c t Q) (act t (marks m)) w
  | .skip, o, dr, r, n, hr, Q, t, kn, m, w, h, hN, hk, hQ => wpIn_skip ⟨t, kn, m, rfl, hN, hk, Agr.refl _ _, fun _ => rfl, h⟩
  | .label _, o, dr, r, n, hr, Q, t, kn, m, w, h, hN, hk, hQ => wpIn_label ⟨t, kn, m, rfl, hN, hk, Agr.refl _ _, fun _ => rfl, h⟩
  | .exit id, o, dr, r, n, hr, Q, t, kn, m, w, h, hN, hk, hQ => wpIn_exit ⟨t, kn, m, rfl, hN, hk, Agr.refl _ _, fun _ => rfl, h⟩
  | .ret, o, dr, r, n, hr, Q, t, kn, m, w, h, hN, hk, hQ => wpIn_ret ⟨t, kn, m, rfl, hN, hk, Agr.refl _ _, fun _ => rfl, h⟩
  | .seq a b, o, dr, r, n, hr, Q, t, kn, m, w, h, hN, hk, hQ => by
    refine wpIn_seq (wpIn_mono (cw_sound hP hm a o dr r n hr _ t kn m w h hN hk hQ.then) fun e act' w' hp => ?_)
    obtain ⟨t1, kn1, m1, rfl, hN1, hk1, hA1, hm1, h1⟩ := hp
    cases e with
    | normal =>
      refine wpIn_mono (cw_sound hP hm b _ dr r n hr Q t1 kn1 m1 w' h1 hN1 hk1 hQ) fun e act' w' hp => ?_
      obtain ⟨t2, kn2, m2, rfl, hN2, hk2, hA2, hm2, h2⟩ := hp
      exact ⟨t2, kn2, m2, rfl, hN2, hk2, hA1.trans hA2, fun hb => (hm2 (mOk_seq hb).2).trans (hm1 (mOk_seq hb).1), h2⟩
    | _ => exact ⟨t1, kn1, m1, rfl, hN1, hk1, hA1.mono (fun i hi => List.mem_append.2 (.inl hi)), fun hb => hm1 (mOk_seq hb).1, h1⟩
  | .cond c a b, o, dr, r, n, hr, Q, t, kn, m, w, h, hN, hk, hQ => by
    have key : ∀ (Q : KK), NoPan Q → condR kv N c t kn (fun t kn => cw P kv N dr an ord a (o + 1) Q t kn m w) (fun t kn => cw P kv N dr an ord b (o + 1 + cnt a) Q t kn m w) → (Code.cond c a b).wpIn (FF r) n P (post dr m N (.cond c a b) t Q) (act t (marks m)) w := by
      intro Q hQ h
      rcases condR_sound h hN hk with ⟨hc, kn1, hk1, h1⟩ | ⟨hc, kn1, hk1, h1⟩
      · refine wpIn_cond_true (by rw [act_eval]; exact hc) (wpIn_mono (cw_sound hP hm a _ dr r n hr Q t kn1 m w h1 hN hk1 hQ) fun e act' w' hp => ?_)
        obtain ⟨t2, kn2, m2, rfl, hN2, hk2, hA2, hm2, h2⟩ := hp
        exact ⟨t2, kn2, m2, rfl, hN2, hk2, hA2.mono (fun i hi => List.mem_append.2 (.inl hi)), fun hb => hm2 (mOk_cond hb).1, h2⟩
      · refine wpIn_cond_false (by rw [act_eval]; exact hc) (wpIn_mono (cw_sound hP hm b _ dr r n hr Q t kn1 m w h1 hN hk1 hQ) fun e act' w' hp => ?_)
        obtain ⟨t2, kn2, m2, rfl, hN2, hk2, hA2, hm2, h2⟩ := hp
        exact ⟨t2, kn2, m2, rfl, hN2, hk2, hA2.mono (fun i hi => List.mem_append.2 (.inr hi)), fun hb => hm2 (mOk_cond hb).2, h2⟩
    unfold cw at h
    split at h
    · exact key Q hQ h
    · rename_i chg _
      obtain ⟨hs, h⟩ := selB_of h
      obtain ⟨hmk, J, h1, h2⟩ := selB_of h
      refine wpIn_mono (key _ hQ.then h1) fun e act' w' hp => ?_
      obtain ⟨t2, kn2, m2, rfl, hN2, hk2, hA2, hm2, h3⟩ := hp
      obtain rfl := hm2 hmk
      cases e with
      | normal =>
        obtain ⟨hf, h3⟩ := selB_of h3
        exact ⟨t2, [], m2, rfl, hN2, KOk.nil _, hA2, fun _ => rfl, havoc_at (h2 w') (by rw [hN2, hN]) (hA2.mono (subL_spec hs)) hf h3⟩
      | _ => exact ⟨t2, kn2, m2, rfl, hN2, hk2, hA2, fun _ => rfl, h3⟩
  | .block id b, o, dr, r, n, hr, Q, t, kn, m, w, h, hN, hk, hQ => by
    have key : ∀ (Q : KK), NoPan Q → cw P kv N dr an ord b (o + 1) (blockK id Q) t kn m w → (Code.block id b).wpIn (FF r) n P (post dr m N b t Q) (act t (marks m)) w := by
      intro Q hQ h
      refine wpIn_block (wpIn_mono (cw_sound hP hm b _ dr r n hr _ t kn m w h hN hk hQ.block) fun e act' w' hp => ?_)
      obtain ⟨t2, kn2, m2, rfl, hN2, hk2, hA2, hm2, h2⟩ := hp
      cases e with
      | exit id' =>
        have h2' : (match Nat.beq id' id with | true => Q .normal t2 kn2 m2 w' | false => Q (.exit id') t2 kn2 m2 w') := h2
        show (if id' = id then post dr m N b t Q .normal (act t2 (marks m2)) w' else post dr m N b t Q (.exit id') (act t2 (marks m2)) w')
        split at h2'
        · rename_i hb
          rw [if_pos (Nat.eq_of_beq_eq_true hb)]
          exact ⟨t2, kn2, m2, rfl, hN2, hk2, hA2, hm2, h2'⟩
        · rename_i hb
          rw [if_neg (fun e => by subst e; simp at hb)]
          exact ⟨t2, kn2, m2, rfl, hN2, hk2, hA2, hm2, h2'⟩
      | _ => exact ⟨t2, kn2, m2, rfl, hN2, hk2, hA2, hm2, h2⟩
    have up : ∀ e a w', post dr m N b t Q e a w' → post dr m N (.block id b) t Q e a w' := fun e a w' ⟨t2, kn2, m2, h1, h2, h3, h4, h5, h6⟩ => ⟨t2, kn2, m2, h1, h2, h3, h4, fun hb => h5 (by unfold mOk at hb ⊢; split at hb <;> first | rfl | exact hb), h6⟩
    unfold cw at h
    split at h
    · exact wpIn_mono (key Q hQ h) up
    · rename_i chg _
      obtain ⟨hs, h⟩ := selB_of h
      obtain ⟨hmk, J, h1, h2⟩ := selB_of h
      refine wpIn_mono (key _ hQ.then h1) fun e act' w' hp => ?_
      obtain ⟨t2, kn2, m2, rfl, hN2, hk2, hA2, hm2, h3⟩ := hp
      obtain rfl := hm2 hmk
      cases e with
      | normal =>
        obtain ⟨hf, h3⟩ := selB_of h3
        exact ⟨t2, [], m2, rfl, hN2, KOk.nil _, hA2, fun _ => rfl, havoc_at (h2 w') (by rw [hN2, hN]) (hA2.mono (subL_spec hs)) hf h3⟩
      | _ => exact ⟨t2, kn2, m2, rfl, hN2, hk2, hA2, fun _ => rfl, h3⟩
  | .loop b, o, dr, r, n, hr, Q, t, kn, m, w, h, hN, hk, hQ => by
    unfold cw at h
    split at h <;> try exact h.elim
    rename_i chg _
    obtain ⟨hs, h⟩ := selB_of h
    split at h
    · rename_i hmk
      obtain ⟨I, h0, h1⟩ := h
      obtain ⟨hf0, m0, h0⟩ := selB_of h0
      let J : Nat → Act → World → Prop := fun k a w => ∃ t', a = act t' (marks m) ∧ t'.length = N ∧ Agr (wr b) t t' ∧ fitC P chg t' = true ∧ I k (liveOf chg t') w
      refine wpIn_loop (fun a w => ∃ k, J k a w) (fun a w => leastOf (fun k => J k a w)) ⟨m0, t, rfl, hN, Agr.refl _ _, hf0, h0⟩ fun a w' hJ => ?_
      obtain ⟨hl, hmin⟩ := leastOf_spec hJ
      obtain ⟨t1, rfl, hN1, hA1, hf1, hI1⟩ := hl
      have h2 := havoc_at (h1 _ w') (by rw [hN1, hN]) (hA1.mono (subL_spec hs)) hf1 hI1
      refine wpIn_mono (cw_sound hP hm b _ dr r n hr _ t1 [] m w' h2 hN1 (KOk.nil t1) hQ.then) fun e act' w2 hp => ?_
      obtain ⟨t2, kn2, m2, rfl, hN2, hk2, hA2, hm2, h3⟩ := hp
      obtain rfl := hm2 hmk
      have hA : Agr (wr b) t t2 := fun i hi => by rw [hA2 i hi, hA1 i hi]
      cases e with
      | normal =>
        obtain ⟨hf, m', hlt, h3⟩ := selB_of h3
        have hJ' : J m' (act t2 (marks m2)) w2 := ⟨t2, rfl, hN2, hA, hf, h3⟩
        exact ⟨⟨m', hJ'⟩, Nat.lt_of_le_of_lt ((leastOf_spec ⟨m', hJ'⟩).2 m' hJ') hlt⟩
      | _ => exact ⟨t2, kn2, m2, rfl, hN2, hk2, hA, fun _ => rfl, h3⟩
    · rename_i hmk
      obtain ⟨I, h0, h1⟩ := h
      obtain ⟨hf0, m0, h0⟩ := selB_of h0
      let J : Nat → Act → World → Prop := fun k a w => ∃ t' ms, a = act t' (marks ms) ∧ t'.length = N ∧ Agr (wr b) t t' ∧ fitC P chg t' = true ∧ I k (liveOf chg t') ms w
      refine wpIn_loop (fun a w => ∃ k, J k a w) (fun a w => leastOf (fun k => J k a w)) ⟨m0, t, m, rfl, hN, Agr.refl _ _, hf0, h0⟩ fun a w' hJ => ?_
      obtain ⟨hl, hmin⟩ := leastOf_spec hJ
      obtain ⟨t1, ms1, rfl, hN1, hA1, hf1, hI1⟩ := hl
      have h2 := havoc_at (h1 _ ms1 w') (by rw [hN1, hN]) (hA1.mono (subL_spec hs)) hf1 hI1
      refine wpIn_mono (cw_sound hP hm b _ dr r n hr _ t1 [] ms1 w' h2 hN1 (KOk.nil t1) hQ.then) fun e act' w2 hp => ?_
      obtain ⟨t2, kn2, m2, rfl, hN2, hk2, hA2, hm2, h3⟩ := hp
      have hA : Agr (wr b) t t2 := fun i hi => by rw [hA2 i hi, hA1 i hi]
      cases e with
      | normal =>
        obtain ⟨hf, m', hlt, h3⟩ := selB_of h3
        have hJ' : J m' (act t2 (marks m2)) w2 := ⟨t2, m2, rfl, hN2, hA, hf, h3⟩
        exact ⟨⟨m', hJ'⟩, Nat.lt_of_le_of_lt ((leastOf_spec ⟨m', hJ'⟩).2 m' hJ') hlt⟩
      | _ => exact ⟨t2, kn2, m2, rfl, hN2, hk2, hA, fun hx => absurd (show mOk dr b = true from hx) (by rw [hmk]; simp), h3⟩
  | .region id ops draw, o, dr, r, n, hr, Q, t, kn, m, w, h, hN, hk, hQ => by
    have key : ∀ (Q : KK), NoPan Q → regW P kv N ord id ops.toList draw Q t kn m w → (Code.region id ops draw).wpIn (FF r) n P (post dr m N (.region id ops draw) t Q) (act t (marks m)) w := by
      intro Q hQ h
      unfold regW at h
      split at h
      · refine wpIn_region ?_
        have h1 := opsW_sound (r := r) (n := n) (D := marks m) (Q := post dr m N (.region id ops false) t Q) hP ops.toList 0 t kn w rfl h hN hk (fun t' kn' w' hK hN' hk' hA => ⟨t', kn', m, rfl, hN', hk', hA, fun _ => rfl, hK⟩)
        rw [List.range_eq_range']
        simpa using h1
      · have h1 := drawR_sound (r := r) (n := n) (D := marks m) (id := id) (Q := post dr m N (.region id ops true) t Q) hP hm (fun c a w hq => by obtain ⟨t', kn', m', _, _, _, _, _, hq⟩ := hq; exact hQ c _ _ _ _ hq) h hN hk (fun t' kn' w' hK hN' hk' hA => ⟨t', kn', m, rfl, hN', hk', hA, fun _ => rfl, hK⟩)
        simpa using h1
    unfold cw at h
    split at h
    · exact key Q hQ h
    · rename_i j js _
      obtain ⟨hs, J, h1, h2⟩ := selB_of h
      refine wpIn_mono (key _ hQ.then h1) fun e act' w' hp => ?_
      obtain ⟨t2, kn2, m2, rfl, hN2, hk2, hA2, hm2, h3⟩ := hp
      obtain rfl := hm2 (by cases dr <;> rfl)
      cases e with
      | normal =>
        obtain ⟨hf, h3⟩ := selB_of h3
        exact ⟨t2, [], m2, rfl, hN2, KOk.nil _, hA2, fun _ => rfl, havoc_at (h2 w') (by rw [hN2, hN]) (hA2.mono (subL_spec hs)) hf h3⟩
      | _ => exact ⟨t2, kn2, m2, rfl, hN2, hk2, hA2, fun _ => rfl, h3⟩
  | .scope b, o, dr, r, n, hr, Q, t, kn, m, w, h, hN, hk, hQ => by
    unfold cw at h
    obtain ⟨hd, h⟩ := selB_of h
    have hQ' : NoPan (noGo Q) := hQ
    have h1 := cw_sound hP hm b o dr r n hr (noGo Q) t kn m w h hN hk hQ'
    rw [hr hd] at h1 ⊢
    have h1 := wpIn_wide.1 h1
    refine wpIn_wide.2 (wp_scope_straight (wp_mono h1 fun e act' w' hp => ?_))
    obtain ⟨t2, kn2, m2, rfl, hN2, hk2, hA2, hm2, h2⟩ := hp
    have hm2' : mOk dr (.scope b) = true → m2 = m := fun hb => hm2 (by unfold mOk at hb ⊢; split at hb <;> first | rfl | exact hb)
    cases e with
    | goto l => exact h2.elim
    | _ => exact ⟨t2, kn2, m2, rfl, hN2, hk2, hA2, hm2', h2⟩
  | .goto _, o, dr, r, n, hr, Q, t, kn, m, w, h, hN, hk, hQ => h.elim
  | .refuse _, o, dr, r, n, hr, Q, t, kn, m, w, h, hN, hk, hQ => h.elim
  | .rangeFunc g ps asg body, o, dr, r, n, hr, Q, t, kn, m, w, h, hN, hk, hQ => by
    unfold cw at h
    obtain ⟨hd, h⟩ := selB_of h
    obtain rfl := hr hd
    subst hd
    split at h <;> try exact h.elim
    rename_i chg _
    unfold rngR at h
    split at h <;> try exact h.elim
    rename_i f nc rest hg0
    obtain ⟨_, h⟩ := selB_of h
    obtain ⟨hb, h⟩ := selB_of h
    obtain ⟨hps, h⟩ := selB_of h
    obtain ⟨hsm, h⟩ := selB_of h
    obtain ⟨cs, hg, h⟩ := exV_of h
    have hps := eqLn_spec hps
    unfold isBody at hb
    split at hb <;> try cases hb
    rename_i fn hfn
    refine wpIn_rangeFunc fun fn' hfn' => ?_
    let L : Loop := { state := .ready, pending := none, fn := fn', tmps := t.toArray, params := ps, assign := asg, body, defers := w.heap.size }
    have h1 := h L
    have hres : (resolve (act t (marks m)).eval (rangeCall g (w.heap.size + 1)) 0).run P ((w.alloc (.deferred (some []))).alloc (LoopObj L .ready none)) = .ok { target := .fn (.func f) cs.toArray, args := #[] ++ #[Value.func (.yield (w.heap.size + 1)) #[] #[]] } ((w.alloc (.deferred (some []))).alloc (LoopObj L .ready none)) := by
      have e0 : (act t (marks m)).eval = ev t := by funext x; exact act_eval _ _ _
      rw [e0]
      unfold resolve rangeCall
      simp only [hg, Deferred.ofValue]
      simp [ev]
    have e1 : (#[] ++ #[Value.func (.yield (w.heap.size + 1)) #[] #[]]) ++ cs.toArray = (Value.func (.yield (w.heap.size + 1)) #[] #[] :: cs).toArray := by apply Array.ext'; simp
    have hinv : (invoke (.fn (.func f) cs.toArray) (#[] ++ #[Value.func (.yield (w.heap.size + 1)) #[] #[]])).run P ((w.alloc (.deferred (some []))).alloc (LoopObj L .ready none)) = .ok (.enter f (Value.func (.yield (w.heap.size + 1)) #[] #[] :: cs).toArray) ((w.alloc (.deferred (some []))).alloc (LoopObj L .ready none)) := by
      rw [← e1]
      unfold invoke
      exact enters hP hfn hb _ _
    refine ⟨w.heap.size + 1, [{ target := .collected w.heap.size, args := #[] }], (w.alloc (.deferred (some []))).alloc (LoopObj L .ready none), { target := .fn (.func f) cs.toArray, args := #[] ++ #[Value.func (.yield (w.heap.size + 1)) #[] #[]] }, (w.alloc (.deferred (some []))).alloc (LoopObj L .ready none), f, (Value.func (.yield (w.heap.size + 1)) #[] #[] :: cs).toArray, (w.alloc (.deferred (some []))).alloc (LoopObj L .ready none), run_enterLoop_outer _ _ _ _ _, hres, fun f' _ => FF_fn none f', hinv, fun hx => (by rw [FF_depth] at hx; cases hx), ?_⟩
    refine Calls.toIn (Calls.mono (h1 (havoc_intro hsm fun vs hvs => ?_)) fun e w3 he => ?_)
    · intro w2 k hrec hX
      have hrec' : w2.heap[w.heap.size + 1]? = some (.loop L) := hrec
      refine ⟨fn', (setsL (slots chg) vs t).toArray, asg, body, ?_, ?_⟩
      · rw [run_yield hrec' (by show vs.toArray.size = ps.size; rw [← Array.length_toList (xs := ps), ← hps, slots_length]; simpa using hvs)]
        congr 2
        show (ps.zip vs.toArray).foldl _ t.toArray = _
        rw [← setsL_arr, hps, ← Array.foldl_toList, Array.toList_zip]
      · refine roundIn_of_wpIn (F := Fence.wide) trivial ?_
        have hX' := cw_sound hP hm asg (o + 1) false (some (w.heap.size + 1)) 0 (fun hx => by cases hx) _ (setsL (slots chg) vs t) [] [] w2 hX (by rw [setsL_length]; exact hN) (KOk.nil _) (fun _ _ _ _ _ hx => hx)
        refine wpIn_mono hX' fun e act' w' hp => ?_
        obtain ⟨t2, kn2, m2, rfl, hN2, hk2, hA2, hm2, h2⟩ := hp
        obtain rfl := hm2 rfl
        cases e with
        | normal =>
          obtain ⟨hr1, h2⟩ := h2
          refine ⟨_, run_beginRound (r := L) hr1 rfl, ?_⟩
          refine wpIn_mono (cw_sound hP hm body _ false (some (w.heap.size + 1)) 0 (fun hx => by cases hx) _ t2 kn2 [] _ h2 hN2 hk2 (fun _ _ _ _ _ hx => hx)) fun e act' w'' hp => ?_
          obtain ⟨t3, kn3, m3, rfl, hN3, hk3, hA3, hm3, h3⟩ := hp
          cases e with
          | normal => exact ⟨_, _, run_endRound none h3.1, h3.2⟩
          | ret => exact ⟨_, _, run_endRound (some .ret) h3.1, h3.2⟩
          | exit id => exact ⟨_, _, run_endRound (some (.exit id)) h3.1, h3.2⟩
          | goto l => exact h3.elim
          | panic c => exact h3.elim
          | outgrown => exact h3.elim
        | exit id => exact h2.elim
        | goto l => exact h2.elim
        | ret => exact h2.elim
        | panic c => exact h2.elim
        | outgrown => exact h2.elim
    · cases e with
      | panicked c => exact he.elim
      | outgrown => exact he.elim
      | returned v =>
        have fin : ∀ (e : Exit) (w4 : World), Q e t kn (w.heap.size :: m) w4 → post true m N (.rangeFunc g ps asg body) t Q e { act t (marks m) with defers := [{ target := .collected w.heap.size, args := #[] }] ++ (act t (marks m)).defers } w4 :=
          fun e w4 hq => ⟨t, kn, w.heap.size :: m, rfl, hN, hk, Agr.refl _ _, fun hx => (by cases hx), hq⟩
        rcases endsR_spec he with ⟨s, hs, hrec, hk4⟩ | ⟨s, hs, hrec, hk4⟩ | ⟨id, s, hs, hrec, hk4⟩
        · exact ⟨_, _, run_endLoop hrec hs, fin _ _ hk4⟩
        · exact ⟨_, _, run_endLoop hrec hs, wpIn_ret (fin _ _ hk4)⟩
        · exact ⟨_, _, run_endLoop hrec hs, wpIn_exit (fin _ _ hk4)⟩
end
/-! ### A function -/
def resR (P : Program) (w : World) (t : Fr) : List ResultVar → (List Value → Prop) → Prop
  | [], k => k []
  | .tmp i :: r, k => resR P w t r (fun vs => k (nth t i :: vs))
  | .cell a T :: r, k => loadW P (cellAt w) T (nth t a) (fun v => resR P w t r (fun vs => k (v :: vs)))
def oneOf : List Value → Value
  | [v] => v
  | vs => .tuple vs.toArray
def retR (P : Program) (rs : List ResultVar) (K : Value → World → Prop) (t : Fr) (w : World) : Prop := resR P w t rs (fun vs => K (oneOf vs) w)
def marksR : List Nat → World → (World → Prop) → Prop
  | [], w, k => k w
  | r :: ms, w, k => MarkR r w (fun w' => marksR ms w' k)
def retK (P : Program) (rs : List ResultVar) (K : Value → World → Prop) : KK := fun e t kn m w => match e with
  | .normal => marksR m w (fun w => retR P rs K t w)
  | .ret => marksR m w (fun w => retR P rs K t w)
  | _ => False
theorem retK_noPan (P : Program) (rs : List ResultVar) (K : Value → World → Prop) : NoPan (retK P rs K) := fun _ _ _ _ _ h => h
def resM (t : Fr) (x : ResultVar) : Sem Value := match x with
  | .tmp i => pure (t.toArray.getD i undef)
  | .cell a T => do loadVar T (← asAddr (t.toArray.getD a undef))
theorem getD_nth (t : Fr) (i : Nat) : t.toArray.getD i undef = nth t i := by rw [← nth_eq]; simp [Array.getD_eq_getD_getElem?]
theorem resR_run {P : Program} (t : Fr) (w : World) : ∀ (rs : List ResultVar) (k : List Value → Prop), resR P w t rs k → ∃ vs, (rs.mapM (resM t)).run P w = Result.ok vs w ∧ k vs
  | [], k, h => ⟨[], rfl, h⟩
  | .tmp i :: r, k, h => by
    obtain ⟨vs, ih, hk⟩ := resR_run t w r _ h
    refine ⟨_, ?_, hk⟩
    rw [List.mapM_cons, Sem.run_bind]
    show (Sem.run P (pure (t.toArray.getD i undef)) w).andThen _ = _
    rw [getD_nth]
    show Sem.run P (do let bs ← r.mapM (resM t); pure (nth t i :: bs)) w = _
    rw [Sem.run_bind, ih]
    rfl
  | .cell a T :: r, k, h => by
    have h' : loadW P (cellAt w) T (nth t a) (fun v => resR P w t r (fun vs => k (v :: vs))) := h
    obtain ⟨v, hv, h2⟩ := loadW_sound h'
    obtain ⟨vs, ih, hk⟩ := resR_run t w r _ h2
    have hv := hv w (fun p u hu => hu)
    refine ⟨_, ?_, hk⟩
    have e1 : (resM t (.cell a T)).run P w = Result.ok v w := by
      show (do loadVar T (← asAddr (t.toArray.getD a undef))).run P w = _
      rw [getD_nth]
      unfold loadW at h'
      split at h' <;> try exact h'.elim
      rename_i q hq
      unfold someR at h'
      split at h' <;> try exact h'.elim
      rename_i p
      rw [hq] at hv ⊢
      exact hv
    rw [List.mapM_cons, Sem.run_bind, e1]
    show Sem.run P (do let bs ← r.mapM (resM t); pure (v :: bs)) w = _
    rw [Sem.run_bind, ih]
    rfl
theorem oneOf_eq (vs : List Value) : (if h : vs.toArray.size = 1 then vs.toArray[0] else Value.tuple vs.toArray) = oneOf vs := by
  match vs with
  | [] => rfl
  | [v] => rfl
  | a :: b :: r => simp [oneOf]
theorem retR_run {P : Program} {fn : Func} {K : Value → World → Prop} {t : Fr} {w : World} (h : retR P fn.results.toList K t w) : ∃ v, (results fn t.toArray).run P w = .ok v w ∧ K v w := by
  unfold retR at h
  obtain ⟨vs, hr, hk⟩ := resR_run t w _ _ h
  refine ⟨_, ?_, hk⟩
  unfold results
  have e : Array.mapM (resM t) fn.results = (do let l ← fn.results.toList.mapM (resM t); pure l.toArray : Sem (Array Value)) := by
    rw [Array.mapM_eq_mapM_toList]
    simp only [map_eq_pure_bind]
  show Sem.run P (do let vs ← Array.mapM (resM t) fn.results; pure (if h : vs.size = 1 then vs[0] else Value.tuple vs)) w = _
  rw [e, Sem.run_bind, Sem.run_bind, hr]
  show Result.ok (if h : vs.toArray.size = 1 then vs.toArray[0] else Value.tuple vs.toArray) w = _
  rw [oneOf_eq]
/-- A function, out of its code. -/
theorem calls_of_cw {P : Program} (hP : Plain P) (hm : P.follows .mixedOrders = true) {f : FuncId} {fn : Func} {c : Code} {args : List Value} {w : World} {K : Value → World → Prop} {kv : Nat → Option Bool} (an : Nat → Option Chg) (ord : Nat → List (Nat × Nat))
    (hf : P.funcs[f]? = some fn) (hb : fn.body = some c) (N : Nat) (hN : (args ++ List.replicate (fn.ntmps - args.length) undef).length = N)
    (h : cw P kv N true an ord c 0 (retK P fn.results.toList K) (args ++ List.replicate (fn.ntmps - args.length) undef) [] [] w) : Rets P f args.toArray w K := by
  unfold Rets
  refine callsIn_wide.1 (callsIn_of_wp_marks (F := Fence.wide) (n := 0) hf hb trivial ?_)
  have e : ({ tmps := args.toArray ++ Array.replicate (fn.ntmps - args.toArray.size) undef, defers := [] } : Act) = act (args ++ List.replicate (fn.ntmps - args.length) undef) (marks []) := by
    unfold act
    congr 1
    apply Array.ext'
    simp
  rw [e]
  refine wpIn_mono (cw_sound hP hm c 0 true none 0 (fun _ => rfl) _ _ [] [] w h hN (KOk.nil _) (retK_noPan _ _ _)) fun e a w' hp => ?_
  obtain ⟨t', kn', m', rfl, hN', hk', hA', _, hq⟩ := hp
  have lv : ∀ (m' : List Nat) (w' : World), marksR m' w' (fun w => retR P fn.results.toList K t' w) → LeavesInM Fence.wide 0 P fn t'.toArray (fun e w' => match e with | .returned v => K v w' | _ => False) (marks m') .returning w' := by
    intro m'
    induction m' with
    | nil => intro w' hq; exact retR_run hq
    | cons r ms ih =>
      intro w' hq
      exact ⟨by simp, .inl ⟨r, _, rfl, run_takeDeferred hq.1, ih _ hq.2⟩⟩
  cases e with
  | normal => exact lv _ _ hq
  | ret => exact lv _ _ hq
  | _ => exact hq.elim
/-- A function's code, told. -/
def fw (P : Program) (fn : Func) (an : Nat → Option Chg) (ord : Nat → List (Nat × Nat)) (args : List Value) (w : World) (K : Value → World → Prop) (kv : Nat → Option Bool := fun _ => none) : Prop :=
  match fn.body with
  | some c => cw P kv fn.ntmps true an ord c 0 (retK P fn.results.toList K) (args ++ List.replicate (fn.ntmps - args.length) undef) [] [] w
  | none => False
theorem calls_of_fw {P : Program} (hP : Plain P) (hm : P.follows .mixedOrders = true) {f : FuncId} {fn : Func} {args : List Value} {w : World} {K : Value → World → Prop} {an : Nat → Option Chg} {ord : Nat → List (Nat × Nat)} {kv : Nat → Option Bool}
    (hf : P.funcs[f]? = some fn) (hN : Nat.ble args.length fn.ntmps = true) (h : fw P fn an ord args w K kv) : Rets P f args.toArray w K := by
  unfold fw at h
  split at h <;> try exact h.elim
  rename_i c hb
  rw [Nat.ble_eq] at hN
  exact calls_of_cw hP hm an ord hf hb _ (by simp; omega) h
/-- Annotations by their numbers. -/
def annL : List (Nat × Chg) → Nat → Option Chg
  | [], _ => none
  | (i, c) :: r, j => match Nat.beq i j with
    | true => some c
    | false => annL r j
def ordL : List (Nat × List (Nat × Nat)) → Nat → List (Nat × Nat)
  | [], _ => []
  | (i, c) :: r, j => match Nat.beq i j with
    | true => c
    | false => ordL r j
end Go.Proofs.YtggflkjdgcdcmaaGreatDoor.Eng
