/- The engine, eighth text: code; a function. -/
import Derived.Test.YtfcddffcjmgpkaaEngG
import Derived.Scope
namespace Go.Proofs.Ytfcddffcjmgpkaa.Eng
open Go Go.RowKit Go.Proofs.YtfcddffcjmgpkaaW.PrintWords Go.Proofs.YtfcddffcjmgpkaaW.PrintLast
set_option linter.unusedVariables false
set_option linter.unusedSimpArgs false

abbrev Chg := List (Nat × Option TypeId)
def cnt : Code → Nat
  | .seq a b => cnt a + cnt b
  | .cond _ a b => cnt a + cnt b + 1
  | .block _ b => cnt b + 1
  | .loop b => cnt b + 1
  | .rangeFunc _ _ a b => cnt a + cnt b + 1
  | .scope b => cnt b
  | _ => 0
def wr : Code → List Nat
  | .region _ ops _ => dsts ops.toList
  | .seq a b => wr a ++ wr b
  | .cond _ a b => wr a ++ wr b
  | .block _ b => wr b
  | .loop b => wr b
  | .scope b => wr b
  | _ => []
def slots : Chg → List Nat
  | [] => []
  | (d, _) :: r => d :: slots r
def memB (a : Nat) : List Nat → Bool
  | [] => false
  | b :: r => match Nat.beq a b with
    | true => true
    | false => memB a r
def subL : List Nat → List Nat → Bool
  | [], _ => true
  | a :: r, l => match memB a l with
    | true => subL r l
    | false => false
theorem memB_spec {a : Nat} : ∀ {l : List Nat}, memB a l = true → a ∈ l
  | [], h => by cases h
  | b :: r, h => by
    unfold memB at h
    split at h
    · rename_i hb; rw [Nat.eq_of_beq_eq_true hb]; simp
    · exact List.mem_cons_of_mem _ (memB_spec h)
theorem subL_spec : ∀ {l l' : List Nat}, subL l l' = true → ∀ i, i ∈ l → i ∈ l'
  | [], l', h, i, hi => by cases hi
  | a :: r, l', h, i, hi => by
    unfold subL at h
    split at h
    · rename_i hm
      rcases List.mem_cons.1 hi with rfl | hi
      · exact memB_spec hm
      · exact subL_spec h i hi
    · cases h
/-! ### Any values of a type -/
def allv (d : TypeDesc) (k : Value → Prop) : Prop :=
  match d with
  | .bool => ∀ b : Bool, k (.bool b)
  | .int kd => ∀ n : Int, k (.int kd n)
  | .string => ∀ s : ByteArray, k (.string s)
  | .pointer _ => ∀ q : Option Addr, k (.pointer q)
  | .slice _ => ∀ (q : Option Addr) (l c : Nat), k (.slice q l c)
  | .map _ _ => ∀ r : Option Nat, k (.map r)
  | _ => ∀ v : Value, k v
def fitv (d : TypeDesc) (v : Value) : Bool :=
  match d with
  | .bool => (match v with | .bool _ => true | _ => false)
  | .int kd => (match v with | .int kd' _ => decide (kd = kd') | _ => false)
  | .string => (match v with | .string _ => true | _ => false)
  | .pointer _ => (match v with | .pointer _ => true | _ => false)
  | .slice _ => (match v with | .slice _ _ _ => true | _ => false)
  | .map _ _ => (match v with | .map _ => true | _ => false)
  | _ => true
theorem allv_at {d : TypeDesc} {k : Value → Prop} {v : Value} (h : allv d k) (hf : fitv d v = true) : k v := by
  cases d <;> first
    | exact h v
    | (unfold fitv at hf
       cases v <;> first
         | exact h _
         | exact h _ _ _
         | (simp only [decide_eq_true_eq] at hf; subst hf; exact h _)
         | cases hf)
def allL : List TypeDesc → (List Value → Prop) → Prop
  | [], k => k []
  | d :: r, k => allv d (fun v => allL r (fun vs => k (v :: vs)))
def fitL : List TypeDesc → List Value → Bool
  | [], [] => true
  | d :: r, v :: vs => match fitv d v with
    | true => fitL r vs
    | false => false
  | _, _ => false
theorem allL_at : ∀ {ds : List TypeDesc} {k : List Value → Prop} {vs : List Value}, allL ds k → fitL ds vs = true → k vs
  | [], k, [], h, hf => h
  | [], k, v :: vs, h, hf => by cases hf
  | d :: r, k, [], h, hf => by cases hf
  | d :: r, k, v :: vs, h, hf => by
    unfold fitL at hf
    split at hf
    · rename_i hv
      exact allL_at (k := fun vs => k (v :: vs)) (allv_at h hv) hf
    · cases hf
def allT (P : Program) (T : TypeId) (k : Value → Prop) : Prop :=
  match P.underlying T with
  | some d => (match aggD (some d) with
    | true => (match flat P 6 T with
      | some ds => allL ds (fun vs => k (.agg vs.toArray))
      | none => ∀ v, k v)
    | false => allv d k)
  | none => ∀ v, k v
def fitT (P : Program) (T : TypeId) (v : Value) : Bool :=
  match P.underlying T with
  | some d => (match aggD (some d) with
    | true => (match flat P 6 T with
      | some ds => (match v with
        | .agg cs => fitL ds cs.toList
        | _ => false)
      | none => true)
    | false => fitv d v)
  | none => true
theorem allT_at {P : Program} {T : TypeId} {k : Value → Prop} {v : Value} (h : allT P T k) (hf : fitT P T v = true) : k v := by
  unfold allT at h
  unfold fitT at hf
  cases hu : P.underlying T with
  | none => rw [hu] at h; exact h v
  | some d =>
    rw [hu] at h hf
    simp only at h hf
    cases ha : aggD (some d) with
    | true =>
      rw [ha] at h hf
      simp only at h hf
      cases hfl : flat P 6 T with
      | none => rw [hfl] at h; exact h v
      | some ds =>
        rw [hfl] at h hf
        cases v <;> try cases hf
        exact allL_at (k := fun vs => k (.agg vs.toArray)) h hf
    | false =>
      rw [ha] at h hf
      exact allv_at h hf
def havoc (P : Program) : Chg → Fr → (Fr → List Value → Prop) → Prop
  | [], t, k => k t []
  | (d, none) :: r, t, k => ∀ v : Value, havoc P r (upd t d v) k
  | (d, some T) :: r, t, k => allT P T (fun v => havoc P r (upd t d v) (fun t' vs => k t' (v :: vs)))
def liveOf : Chg → Fr → List Value
  | [], t => []
  | (d, none) :: r, t => liveOf r t
  | (d, some _) :: r, t => nth t d :: liveOf r t
def fitC (P : Program) : Chg → Fr → Bool
  | [], t => true
  | (d, none) :: r, t => fitC P r t
  | (d, some T) :: r, t => match fitT P T (nth t d) with
    | true => fitC P r t
    | false => false
theorem ext_nth : ∀ (a b : Fr), a.length = b.length → (∀ i, nth a i = nth b i) → a = b
  | [], [], _, _ => rfl
  | [], b :: bs, h, _ => by simp at h
  | a :: as, [], h, _ => by simp at h
  | a :: as, b :: bs, h, hn => by
    have h0 := hn 0
    simp only [nth] at h0
    rw [h0, ext_nth as bs (by simpa using h) (fun i => by have := hn (i + 1); simpa [nth] using this)]
theorem havoc_at {P : Program} : ∀ {chg : Chg} {t t' : Fr} {k : Fr → List Value → Prop}, havoc P chg t k → t'.length = t.length → Agr (slots chg) t t' → fitC P chg t' = true → k t' (liveOf chg t')
  | [], t, t', k, h, hl, ha, hf => by
    have : t' = t := ext_nth _ _ hl (fun i => ha i (by simp [slots]))
    subst this; exact h
  | (d, none) :: r, t, t', k, h, hl, ha, hf => by
    have h1 := h (nth t' d)
    refine havoc_at (chg := r) (t := upd t d (nth t' d)) h1 (by rw [upd_length]; exact hl) (fun i hi => ?_) hf
    by_cases hd : d = i
    · subst hd
      rcases Nat.lt_or_ge d t.length with hlt | hge
      · rw [nth_upd_same _ _ _ hlt]
      · rw [upd_over _ _ _ hge, nth_over t' d (by omega), nth_over t d hge]
    · rw [nth_upd_ne _ _ _ _ hd]
      exact ha i (by simp [slots]; exact ⟨fun e => hd e.symm, hi⟩)
  | (d, some T) :: r, t, t', k, h, hl, ha, hf => by
    unfold fitC at hf
    split at hf
    · rename_i hfT
      have h1 := allT_at h hfT
      refine havoc_at (chg := r) (t := upd t d (nth t' d)) (k := fun t' vs => k t' (nth _ d :: vs)) h1 (by rw [upd_length]; exact hl) (fun i hi => ?_) hf
      by_cases hd : d = i
      · subst hd
        rcases Nat.lt_or_ge d t.length with hlt | hge
        · rw [nth_upd_same _ _ _ hlt]
        · rw [upd_over _ _ _ hge, nth_over t' d (by omega), nth_over t d hge]
      · rw [nth_upd_ne _ _ _ _ hd]
        exact ha i (by simp [slots]; exact ⟨fun e => hd e.symm, hi⟩)
    · cases hf
/-! ### Code -/
abbrev KK := Exit → Fr → Kn → World → Prop
def thenK (K : Fr → Kn → World → Prop) (Q : KK) : KK := fun e => match e with
  | .normal => K
  | e => Q e
def blockK (id : Nat) (Q : KK) : KK := fun e t kn w => match e with
  | .exit id' => (match Nat.beq id' id with
    | true => Q .normal t kn w
    | false => Q (.exit id') t kn w)
  | e => Q e t kn w
def noGo (Q : KK) : KK := fun e => match e with
  | .goto _ => fun _ _ _ => False
  | e => Q e
def condR (kv : Nat → Option Bool) (N : Nat) (c : Operand) (t : Fr) (kn : Kn) (x z : Fr → Kn → Prop) : Prop :=
  match c with
  | .tmp d => (match Nat.blt d N with
    | false => False
    | true => (match look kn d with
      | some true => x t kn
      | some false => z t kn
      | none => (match kv d with
        | some true => nth t d = .bool true ∧ x t ((d, some true) :: kn)
        | some false => nth t d = .bool false ∧ z t ((d, some false) :: kn)
        | none => (match nth t d with
        | .bool b => (b = true → x (upd t d (.bool true)) ((d, some true) :: kn)) ∧ (b = false → z (upd t d (.bool false)) ((d, some false) :: kn))
        | _ => False))))
  | .const (.bool true) => x t kn
  | .const (.bool false) => z t kn
  | _ => False
def joinK (P : Program) (chg : Chg) (t : Fr) (X : KK → Prop) (Q : KK) : Prop :=
  ∃ J : List Value → World → Prop, X (thenK (fun t'' kn'' w'' => selB (fitC P chg t'') (J (liveOf chg t'') w'')) Q) ∧ ∀ w' : World, havoc P chg t (fun t' vs => J vs w' → Q .normal t' [] w')
def loopK (P : Program) (chg : Chg) (t : Fr) (w : World) (X : KK → Fr → Kn → World → Prop) (Q : KK) : Prop :=
  ∃ I : Nat → List Value → World → Prop, selB (fitC P chg t) (∃ m, I m (liveOf chg t) w) ∧
    ∀ (m : Nat) (w' : World), havoc P chg t (fun t' vs => I m vs w' → X (thenK (fun t'' kn'' w'' => selB (fitC P chg t'') (∃ m', m' < m ∧ I m' (liveOf chg t'') w'')) Q) t' [] w')
def cw (P : Program) (kv : Nat → Option Bool) (N : Nat) (dr : Bool) (an : Nat → Option Chg) (ord : Nat → List (Nat × Nat)) : Code → Nat → KK → Fr → Kn → World → Prop
  | .skip, o, Q, t, kn, w => Q .normal t kn w
  | .label _, o, Q, t, kn, w => Q .normal t kn w
  | .exit id, o, Q, t, kn, w => Q (.exit id) t kn w
  | .ret, o, Q, t, kn, w => Q .ret t kn w
  | .seq a b, o, Q, t, kn, w => cw P kv N dr an ord a o (thenK (fun t kn w => cw P kv N dr an ord b (o + cnt a) Q t kn w) Q) t kn w
  | .cond c a b, o, Q, t, kn, w => (match an o with
    | none => condR kv N c t kn (fun t kn => cw P kv N dr an ord a (o + 1) Q t kn w) (fun t kn => cw P kv N dr an ord b (o + 1 + cnt a) Q t kn w)
    | some chg => selB (subL (wr a ++ wr b) (slots chg)) (joinK P chg t (fun Q => condR kv N c t kn (fun t kn => cw P kv N dr an ord a (o + 1) Q t kn w) (fun t kn => cw P kv N dr an ord b (o + 1 + cnt a) Q t kn w)) Q))
  | .block id b, o, Q, t, kn, w => (match an o with
    | none => cw P kv N dr an ord b (o + 1) (blockK id Q) t kn w
    | some chg => selB (subL (wr b) (slots chg)) (joinK P chg t (fun Q => cw P kv N dr an ord b (o + 1) (blockK id Q) t kn w) Q))
  | .loop b, o, Q, t, kn, w => (match an o with
    | none => False
    | some chg => selB (subL (wr b) (slots chg)) (loopK P chg t w (fun Q t kn w => cw P kv N dr an ord b (o + 1) Q t kn w) Q))
  | .region id ops draw, o, Q, t, kn, w => (match draw with
    | false => opsW P kv N true ops.toList (fun t kn w => Q .normal t kn w) ops.toList t kn w
    | true => (match dr with
      | true => drawR P kv N ops.toList (ord id) (fun t kn w => Q .normal t kn w) t kn w
      | false => False))
  | .scope b, o, Q, t, kn, w => selB dr (cw P kv N dr an ord b o (noGo Q) t kn w)
  | _, o, Q, t, kn, w => False
def post (D : List Deferred) (N : Nat) (ws : List Nat) (t : Fr) (Q : KK) : Exit → Act → World → Prop :=
  fun e a w => ∃ t' kn', a = act t' D ∧ t'.length = N ∧ KOk kn' t' ∧ Agr ws t t' ∧ Q e t' kn' w
theorem KOk.of_eq {kn : Kn} {t : Fr} (hk : KOk kn t) {d : Nat} {b : Bool} (hv : nth t d = .bool b) : KOk ((d, some b) :: kn) t := by
  intro j b' hl hj
  unfold look at hl
  split at hl
  · rename_i he
    have := Nat.eq_of_beq_eq_true he
    subst this
    injection hl with hl
    rw [hv, hl]
  · exact hk j b' hl hj
theorem condR_sound {kv : Nat → Option Bool} {N : Nat} {c : Operand} {t : Fr} {kn : Kn} {x z : Fr → Kn → Prop} (h : condR kv N c t kn x z) (hN : t.length = N) (hk : KOk kn t) :
    (ev t c = .bool true ∧ ∃ kn', KOk kn' t ∧ x t kn') ∨ (ev t c = .bool false ∧ ∃ kn', KOk kn' t ∧ z t kn') := by
  unfold condR at h
  split at h
  · rename_i d
    split at h <;> try exact h.elim
    rename_i hlt
    have hlt : d < t.length := by rw [hN]; simpa [Nat.blt_eq] using hlt
    split at h
    · rename_i hb; exact .inl ⟨hk d true hb hlt, kn, hk, h⟩
    · rename_i hb; exact .inr ⟨hk d false hb hlt, kn, hk, h⟩
    · split at h
      · exact .inl ⟨h.1, _, hk.of_eq h.1, h.2⟩
      · exact .inr ⟨h.1, _, hk.of_eq h.1, h.2⟩
      split at h <;> try exact h.elim
      rename_i b hv
      cases b with
      | true =>
        have h1 := h.1 rfl
        rw [← hv, upd_same _ _ hlt] at h1
        exact .inl ⟨hv, _, hk.of_eq hv, h1⟩
      | false =>
        have h1 := h.2 rfl
        rw [← hv, upd_same _ _ hlt] at h1
        exact .inr ⟨hv, _, hk.of_eq hv, h1⟩
  · exact .inl ⟨rfl, kn, hk, h⟩
  · exact .inr ⟨rfl, kn, hk, h⟩
  · exact h.elim
section
variable {P : Program} {D : List Deferred} {kv : Nat → Option Bool} {r : Option Nat} {n N : Nat} {dr : Bool} {an : Nat → Option Chg} {ord : Nat → List (Nat × Nat)}
def NoPan (Q : KK) : Prop := ∀ c t kn w, ¬ Q (.panic c) t kn w
theorem NoPan.then {K : Fr → Kn → World → Prop} {Q : KK} (h : NoPan Q) : NoPan (thenK K Q) := h
theorem NoPan.block {id : Nat} {Q : KK} (h : NoPan Q) : NoPan (blockK id Q) := h
theorem cw_sound (hP : Plain P) (hm : P.follows .mixedOrders = true) (hr : dr = true → r = none) : ∀ (c : Code) (o : Nat) (Q : KK) (t : Fr) (kn : Kn) (w : World), cw P kv N dr an ord c o Q t kn w → t.length = N → KOk kn t → NoPan Q →
    c.wpIn (FF r) n P (post D N (wr c) t Q) (act t D) w
  | .skip, o, Q, t, kn, w, h, hN, hk, hQ => wpIn_skip ⟨t, kn, rfl, hN, hk, Agr.refl _ _, h⟩
  | .label _, o, Q, t, kn, w, h, hN, hk, hQ => wpIn_label ⟨t, kn, rfl, hN, hk, Agr.refl _ _, h⟩
  | .exit id, o, Q, t, kn, w, h, hN, hk, hQ => wpIn_exit ⟨t, kn, rfl, hN, hk, Agr.refl _ _, h⟩
  | .ret, o, Q, t, kn, w, h, hN, hk, hQ => wpIn_ret ⟨t, kn, rfl, hN, hk, Agr.refl _ _, h⟩
  | .seq a b, o, Q, t, kn, w, h, hN, hk, hQ => by
    refine wpIn_seq (wpIn_mono (cw_sound hP hm hr a o _ t kn w h hN hk hQ.then) fun e act' w' hp => ?_)
    obtain ⟨t1, kn1, rfl, hN1, hk1, hA1, h1⟩ := hp
    cases e with
    | normal =>
      refine wpIn_mono (cw_sound hP hm hr b _ Q t1 kn1 w' h1 hN1 hk1 hQ) fun e act' w' hp => ?_
      obtain ⟨t2, kn2, rfl, hN2, hk2, hA2, h2⟩ := hp
      exact ⟨t2, kn2, rfl, hN2, hk2, hA1.trans hA2, h2⟩
    | _ => exact ⟨t1, kn1, rfl, hN1, hk1, hA1.mono (fun i hi => List.mem_append.2 (.inl hi)), h1⟩
  | .cond c a b, o, Q, t, kn, w, h, hN, hk, hQ => by
    have key : ∀ (Q : KK), NoPan Q → condR kv N c t kn (fun t kn => cw P kv N dr an ord a (o + 1) Q t kn w) (fun t kn => cw P kv N dr an ord b (o + 1 + cnt a) Q t kn w) → (Code.cond c a b).wpIn (FF r) n P (post D N (wr a ++ wr b) t Q) (act t D) w := by
      intro Q hQ h
      rcases condR_sound h hN hk with ⟨hc, kn1, hk1, h1⟩ | ⟨hc, kn1, hk1, h1⟩
      · refine wpIn_cond_true (by rw [act_eval]; exact hc) (wpIn_mono (cw_sound hP hm hr a _ Q t kn1 w h1 hN hk1 hQ) fun e act' w' hp => ?_)
        obtain ⟨t2, kn2, rfl, hN2, hk2, hA2, h2⟩ := hp
        exact ⟨t2, kn2, rfl, hN2, hk2, hA2.mono (fun i hi => List.mem_append.2 (.inl hi)), h2⟩
      · refine wpIn_cond_false (by rw [act_eval]; exact hc) (wpIn_mono (cw_sound hP hm hr b _ Q t kn1 w h1 hN hk1 hQ) fun e act' w' hp => ?_)
        obtain ⟨t2, kn2, rfl, hN2, hk2, hA2, h2⟩ := hp
        exact ⟨t2, kn2, rfl, hN2, hk2, hA2.mono (fun i hi => List.mem_append.2 (.inr hi)), h2⟩
    unfold cw at h
    split at h
    · exact key Q hQ h
    · rename_i chg _
      obtain ⟨hs, J, h1, h2⟩ := selB_of h
      refine wpIn_mono (key _ hQ.then h1) fun e act' w' hp => ?_
      obtain ⟨t2, kn2, rfl, hN2, hk2, hA2, h3⟩ := hp
      cases e with
      | normal =>
        obtain ⟨hf, h3⟩ := selB_of h3
        exact ⟨t2, [], rfl, hN2, KOk.nil _, hA2, havoc_at (h2 w') (by rw [hN2, hN]) (hA2.mono (subL_spec hs)) hf h3⟩
      | _ => exact ⟨t2, kn2, rfl, hN2, hk2, hA2, h3⟩
  | .block id b, o, Q, t, kn, w, h, hN, hk, hQ => by
    have key : ∀ (Q : KK), NoPan Q → cw P kv N dr an ord b (o + 1) (blockK id Q) t kn w → (Code.block id b).wpIn (FF r) n P (post D N (wr b) t Q) (act t D) w := by
      intro Q hQ h
      refine wpIn_block (wpIn_mono (cw_sound hP hm hr b _ _ t kn w h hN hk hQ.block) fun e act' w' hp => ?_)
      obtain ⟨t2, kn2, rfl, hN2, hk2, hA2, h2⟩ := hp
      cases e with
      | exit id' =>
        have h2' : (match Nat.beq id' id with | true => Q .normal t2 kn2 w' | false => Q (.exit id') t2 kn2 w') := h2
        show (if id' = id then post D N (wr b) t Q .normal (act t2 D) w' else post D N (wr b) t Q (.exit id') (act t2 D) w')
        split at h2'
        · rename_i hb
          rw [if_pos (Nat.eq_of_beq_eq_true hb)]
          exact ⟨t2, kn2, rfl, hN2, hk2, hA2, h2'⟩
        · rename_i hb
          rw [if_neg (fun e => by subst e; simp at hb)]
          exact ⟨t2, kn2, rfl, hN2, hk2, hA2, h2'⟩
      | _ => exact ⟨t2, kn2, rfl, hN2, hk2, hA2, h2⟩
    unfold cw at h
    split at h
    · exact key Q hQ h
    · rename_i chg _
      obtain ⟨hs, J, h1, h2⟩ := selB_of h
      refine wpIn_mono (key _ hQ.then h1) fun e act' w' hp => ?_
      obtain ⟨t2, kn2, rfl, hN2, hk2, hA2, h3⟩ := hp
      cases e with
      | normal =>
        obtain ⟨hf, h3⟩ := selB_of h3
        exact ⟨t2, [], rfl, hN2, KOk.nil _, hA2, havoc_at (h2 w') (by rw [hN2, hN]) (hA2.mono (subL_spec hs)) hf h3⟩
      | _ => exact ⟨t2, kn2, rfl, hN2, hk2, hA2, h3⟩
  | .loop b, o, Q, t, kn, w, h, hN, hk, hQ => by
    unfold cw at h
    split at h <;> try exact h.elim
    rename_i chg _
    obtain ⟨hs, I, h0, h1⟩ := selB_of h
    obtain ⟨hf0, m0, h0⟩ := selB_of h0
    let J : Nat → Act → World → Prop := fun m a w => ∃ t', a = act t' D ∧ t'.length = N ∧ Agr (wr b) t t' ∧ fitC P chg t' = true ∧ I m (liveOf chg t') w
    refine wpIn_loop (fun a w => ∃ m, J m a w) (fun a w => leastOf (fun m => J m a w)) ⟨m0, t, rfl, hN, Agr.refl _ _, hf0, h0⟩ fun a w' hJ => ?_
    obtain ⟨hl, hmin⟩ := leastOf_spec hJ
    obtain ⟨t1, rfl, hN1, hA1, hf1, hI1⟩ := hl
    have h2 := havoc_at (h1 _ w') (by rw [hN1, hN]) (hA1.mono (subL_spec hs)) hf1 hI1
    refine wpIn_mono (cw_sound hP hm hr b _ _ t1 [] w' h2 hN1 (KOk.nil _) hQ.then) fun e act' w2 hp => ?_
    obtain ⟨t2, kn2, rfl, hN2, hk2, hA2, h3⟩ := hp
    have hA : Agr (wr b) t t2 := fun i hi => by rw [hA2 i hi, hA1 i hi]
    cases e with
    | normal =>
      obtain ⟨hf, m', hlt, h3⟩ := selB_of h3
      have hJ' : J m' (act t2 D) w2 := ⟨t2, rfl, hN2, hA, hf, h3⟩
      exact ⟨⟨m', hJ'⟩, Nat.lt_of_le_of_lt ((leastOf_spec ⟨m', hJ'⟩).2 m' hJ') hlt⟩
    | _ => exact ⟨t2, kn2, rfl, hN2, hk2, hA, h3⟩
  | .region id ops draw, o, Q, t, kn, w, h, hN, hk, hQ => by
    unfold cw at h
    split at h
    · refine wpIn_region ?_
      have h1 := opsW_sound (r := r) (n := n) (D := D) (Q := post D N (wr (.region id ops false)) t Q) hP ops.toList 0 t kn w rfl h hN hk (fun t' kn' w' hK hN' hk' hA => ⟨t', kn', rfl, hN', hk', hA, hK⟩)
      rw [List.range_eq_range']
      simpa using h1
    · split at h <;> try exact h.elim
      have hr' := hr rfl
      subst hr'
      refine wpIn_wide.2 ?_
      have h1 := drawR_sound (D := D) (id := id) (Q := post D N (wr (.region id ops true)) t Q) hP hm (fun c a w hq => by obtain ⟨t', kn', _, _, _, _, hq⟩ := hq; exact hQ c _ _ _ hq) h hN hk (fun t' kn' w' hK hN' hk' hA => ⟨t', kn', rfl, hN', hk', hA, hK⟩)
      simpa using h1
  | .scope b, o, Q, t, kn, w, h, hN, hk, hQ => by
    unfold cw at h
    obtain ⟨hd, h⟩ := selB_of h
    have hQ' : NoPan (noGo Q) := hQ
    have h1 := cw_sound hP hm hr b o (noGo Q) t kn w h hN hk hQ'
    rw [hr hd] at h1 ⊢
    have h1 := wpIn_wide.1 h1
    refine wpIn_wide.2 (wp_scope_straight (wp_mono h1 fun e act' w' hp => ?_))
    obtain ⟨t2, kn2, rfl, hN2, hk2, hA2, h2⟩ := hp
    cases e with
    | goto l => exact h2.elim
    | _ => exact ⟨t2, kn2, rfl, hN2, hk2, hA2, h2⟩
  | .goto _, o, Q, t, kn, w, h, hN, hk, hQ => h.elim
  | .refuse _, o, Q, t, kn, w, h, hN, hk, hQ => h.elim
  | .rangeFunc _ _ _ _, o, Q, t, kn, w, h, hN, hk, hQ => h.elim
end
/-! ### A function -/
def resR (P : Program) (w : World) (t : Fr) : List ResultVar → (List Value → Prop) → Prop
  | [], k => k []
  | .tmp i :: r, k => resR P w t r (fun vs => k (nth t i :: vs))
  | .cell a T :: r, k => loadW P (cellAt w) T (nth t a) (fun v => resR P w t r (fun vs => k (v :: vs)))
def oneOf : List Value → Value
  | [v] => v
  | vs => .tuple vs.toArray
def retR (P : Program) (rs : List ResultVar) (K : Value → World → Prop) (t : Fr) (w : World) : Prop := resR P w t rs (fun vs => K (oneOf vs) w)
def retK (P : Program) (rs : List ResultVar) (K : Value → World → Prop) : KK := fun e t kn w => match e with
  | .normal => retR P rs K t w
  | .ret => retR P rs K t w
  | _ => False
theorem retK_noPan (P : Program) (rs : List ResultVar) (K : Value → World → Prop) : NoPan (retK P rs K) := fun _ _ _ _ h => h
def resM (t : Fr) (x : ResultVar) : Sem Value := match x with
  | .tmp i => pure (t.toArray.getD i undef)
  | .cell a T => do loadVar T (← asAddr (t.toArray.getD a undef))
theorem getD_nth (t : Fr) (i : Nat) : t.toArray.getD i undef = nth t i := by rw [← nth_eq]; simp [Array.getD_eq_getD_getElem?]
theorem resR_run {P : Program} (t : Fr) (w : World) : ∀ (rs : List ResultVar) (k : List Value → Prop), resR P w t rs k → ∃ vs, (rs.mapM (resM t)).run P w = Result.ok vs w ∧ k vs
  | [], k, h => ⟨[], rfl, h⟩
  | .tmp i :: r, k, h => by
    obtain ⟨vs, ih, hk⟩ := resR_run t w r _ h
    refine ⟨_, ?_, hk⟩
    rw [List.mapM_cons, Sem.run_bind]
    show (Sem.run P (pure (t.toArray.getD i undef)) w).andThen _ = _
    rw [getD_nth]
    show Sem.run P (do let bs ← r.mapM (resM t); pure (nth t i :: bs)) w = _
    rw [Sem.run_bind, ih]
    rfl
  | .cell a T :: r, k, h => by
    have h' : loadW P (cellAt w) T (nth t a) (fun v => resR P w t r (fun vs => k (v :: vs))) := h
    obtain ⟨v, hv, h2⟩ := loadW_sound h'
    obtain ⟨vs, ih, hk⟩ := resR_run t w r _ h2
    have hv := hv w (fun p u hu => hu)
    refine ⟨_, ?_, hk⟩
    have e1 : (resM t (.cell a T)).run P w = Result.ok v w := by
      show (do loadVar T (← asAddr (t.toArray.getD a undef))).run P w = _
      rw [getD_nth]
      unfold loadW at h'
      split at h' <;> try exact h'.elim
      rename_i q hq
      unfold someR at h'
      split at h' <;> try exact h'.elim
      rename_i p
      rw [hq] at hv ⊢
      exact hv
    rw [List.mapM_cons, Sem.run_bind, e1]
    show Sem.run P (do let bs ← r.mapM (resM t); pure (v :: bs)) w = _
    rw [Sem.run_bind, ih]
    rfl
theorem oneOf_eq (vs : List Value) : (if h : vs.toArray.size = 1 then vs.toArray[0] else Value.tuple vs.toArray) = oneOf vs := by
  match vs with
  | [] => rfl
  | [v] => rfl
  | a :: b :: r => simp [oneOf]
theorem retR_run {P : Program} {fn : Func} {K : Value → World → Prop} {t : Fr} {w : World} (h : retR P fn.results.toList K t w) : ∃ v, (results fn t.toArray).run P w = .ok v w ∧ K v w := by
  unfold retR at h
  obtain ⟨vs, hr, hk⟩ := resR_run t w _ _ h
  refine ⟨_, ?_, hk⟩
  unfold results
  have e : Array.mapM (resM t) fn.results = (do let l ← fn.results.toList.mapM (resM t); pure l.toArray : Sem (Array Value)) := by
    rw [Array.mapM_eq_mapM_toList]
    simp only [map_eq_pure_bind]
  show Sem.run P (do let vs ← Array.mapM (resM t) fn.results; pure (if h : vs.size = 1 then vs[0] else Value.tuple vs)) w = _
  rw [e, Sem.run_bind, Sem.run_bind, hr]
  show Result.ok (if h : vs.toArray.size = 1 then vs.toArray[0] else Value.tuple vs.toArray) w = _
  rw [oneOf_eq]
/-- A function, out of its code. -/
theorem calls_of_cw {P : Program} (hP : Plain P) (hm : P.follows .mixedOrders = true) {f : FuncId} {fn : Func} {c : Code} {args : List Value} {w : World} {K : Value → World → Prop} {kv : Nat → Option Bool} (an : Nat → Option Chg) (ord : Nat → List (Nat × Nat))
    (hf : P.funcs[f]? = some fn) (hb : fn.body = some c) (N : Nat) (hN : (args ++ List.replicate (fn.ntmps - args.length) undef).length = N)
    (h : cw P kv N true an ord c 0 (retK P fn.results.toList K) (args ++ List.replicate (fn.ntmps - args.length) undef) [] w) : Rets P f args.toArray w K := by
  unfold Rets
  refine calls_of_wp hf hb ?_
  have e : ({ tmps := args.toArray ++ Array.replicate (fn.ntmps - args.toArray.size) undef, defers := [] } : Act) = act (args ++ List.replicate (fn.ntmps - args.length) undef) [] := by
    unfold act
    congr 1
    apply Array.ext'
    simp
  rw [e]
  refine (wpIn_wide (n := 0)).1 (wpIn_mono (cw_sound (r := none) hP hm (fun _ => rfl) c 0 _ _ [] w h hN (KOk.nil _) (retK_noPan _ _ _)) fun e a w' hp => ?_)
  obtain ⟨t', kn', rfl, hN', hk', hA', hq⟩ := hp
  cases e with
  | normal => exact ⟨rfl, retR_run hq⟩
  | ret => exact ⟨rfl, retR_run hq⟩
  | _ => exact hq.elim
/-- A function's code, told. -/
def fw (P : Program) (fn : Func) (an : Nat → Option Chg) (ord : Nat → List (Nat × Nat)) (args : List Value) (w : World) (K : Value → World → Prop) (kv : Nat → Option Bool := fun _ => none) : Prop :=
  match fn.body with
  | some c => cw P kv fn.ntmps true an ord c 0 (retK P fn.results.toList K) (args ++ List.replicate (fn.ntmps - args.length) undef) [] w
  | none => False
theorem calls_of_fw {P : Program} (hP : Plain P) (hm : P.follows .mixedOrders = true) {f : FuncId} {fn : Func} {args : List Value} {w : World} {K : Value → World → Prop} {an : Nat → Option Chg} {ord : Nat → List (Nat × Nat)} {kv : Nat → Option Bool}
    (hf : P.funcs[f]? = some fn) (hN : Nat.ble args.length fn.ntmps = true) (h : fw P fn an ord args w K kv) : Rets P f args.toArray w K := by
  unfold fw at h
  split at h <;> try exact h.elim
  rename_i c hb
  rw [Nat.ble_eq] at hN
  exact calls_of_cw hP hm an ord hf hb _ (by simp; omega) h
/-- Annotations by their numbers. -/
def annL : List (Nat × Chg) → Nat → Option Chg
  | [], _ => none
  | (i, c) :: r, j => match Nat.beq i j with
    | true => some c
    | false => annL r j
def ordL : List (Nat × List (Nat × Nat)) → Nat → List (Nat × Nat)
  | [], _ => []
  | (i, c) :: r, j => match Nat.beq i j with
    | true => c
    | false => ordL r j
end Go.Proofs.Ytfcddffcjmgpkaa.Eng
