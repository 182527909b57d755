/- The engine, sixth text: regions, and code. -/
import Derived.Test.YtggflkjdgcdcmaaGreatDoorEngD
import Derived.Test.YtggflkjdgcdcmaaGreatDoorReg
import Derived.Deep.LoopGhost
import Derived.RangeFuncCalls
import Derived.RangeFuncWrites
namespace Go.Proofs.YtggflkjdgcdcmaaGreatDoor.Eng
open Go Go.RowKit Go.Proofs.YtggflkjdgcdcmaaGreatDoorW.PrintWords Go.Proofs.YtggflkjdgcdcmaaGreatDoorW.PrintLast
set_option linter.unusedVariables false
set_option linter.unusedSimpArgs false
section
variable {P : Program} {D : List Deferred} {y : Bool} {r : Option Nat} {n : Nat} {Q : Exit → Act → World → Prop} {next : Act → World → Prop}
theorem Calls.toIn {f : FuncId} {args : Array Value} {w : World} {R : Ending → World → Prop} (h : Calls P f args w R) : CallsIn (FF r) n P f args w R := by
  cases r with
  | none => exact callsIn_wide.2 h
  | some l => exact CallsIn.inRound l (callsIn_wide.2 h)
theorem opW_out (hP : Plain P) {o : Oper} {t : Fr} {w : World} {k : Value → World → Prop} (h : opW P y o t w k) : Out P y (execOp (ev t) o) w k ∧ ∀ c, o.op ≠ .defer c := by
  unfold opW at h
  split at h
  · rename_i hq
    obtain ⟨v, hv, hk⟩ := quiet_sound h
    refine ⟨.value v w (hv w) hk, fun c e => ?_⟩
    rw [e] at hq; cases hq
  · split at h
    · rename_i T x ho
      obtain ⟨v, hv, hk⟩ := loadW_sound h
      refine ⟨?_, fun c e => by rw [e] at ho; cases ho⟩
      obtain ⟨dst, op, type, pos, after, guard⟩ := o
      simp only at ho
      subst ho
      unfold execOp
      exact Out.ofV (hv w (fun p u hu => hu)) hk
    · refine ⟨actW_out hP h, fun c e => ?_⟩
      rw [e] at h; exact h
end
/-! ### What is known of slots that hold a Bool -/
abbrev Kn := List (Nat × Option Bool)
def look : Kn → Nat → Option Bool
  | [], _ => none
  | (i, b) :: r, j => match Nat.beq i j with
    | true => b
    | false => look r j
def opnB (kn : Kn) : Operand → Option Bool
  | .tmp i => look kn i
  | .const (.bool b) => some b
  | _ => none
def knOf (kn : Kn) : Op → Option Bool
  | .move x | .assign x => opnB kn x
  | .pick c a b => match opnB kn c with
    | some true => opnB kn a
    | some false => opnB kn b
    | none => none
  | .unOp .not _ x => match opnB kn x with
    | some b => some (!b)
    | none => none
  | _ => none
def pushK (kn : Kn) : Option Nat → Option Bool → Kn
  | none, _ => kn
  | some d, b => (d, b) :: kn
def KOk (kn : Kn) (t : Fr) : Prop := ∀ d b, look kn d = some b → d < t.length → nth t d = .bool b
theorem nth_over : ∀ (t : Fr) (i : Nat), t.length ≤ i → nth t i = undef
  | [], i, h => rfl
  | a :: l, 0, h => by simp at h
  | a :: l, n + 1, h => by simpa [nth] using nth_over l n (by simpa using h)
theorem KOk.push {kn : Kn} {t : Fr} (h : KOk kn t) (d : Option Nat) (kb : Option Bool) (v : Value) (hv : ∀ b, kb = some b → v = .bool b) : KOk (pushK kn d kb) (putd t d v) := by
  cases d with
  | none => exact h
  | some d =>
    intro j b hl hj
    unfold pushK look at hl
    simp only [putd] at hj ⊢
    rw [upd_length] at hj
    split at hl
    · rename_i he
      have := Nat.eq_of_beq_eq_true he
      subst this
      rw [nth_upd_same _ _ _ hj]; exact hv b hl
    · rename_i he
      have hne : d ≠ j := fun e => by subst e; simp at he
      rw [nth_upd_ne _ _ _ _ hne]
      exact h j b hl hj
theorem KOk.nil (t : Fr) : KOk [] t := fun d b h => by simp [look] at h
/-- What is known of an operand is so. -/
theorem opnB_ok {kn : Kn} {t : Fr} {N : Nat} (hk : KOk kn t) {x : Operand} {b : Bool} (h : opnB kn x = some b) : ev t x = .bool b ∨ ∃ i, x = .tmp i ∧ t.length ≤ i := by
  cases x with
  | tmp i =>
    rcases Nat.lt_or_ge i t.length with hi | hi
    · exact .inl (hk i b h hi)
    · exact .inr ⟨i, rfl, hi⟩
  | const v =>
    cases v <;> try cases h
    exact .inl rfl
  | global g => cases h
  | func f => cases h
/-- No operand lies beyond the frame. -/
def inFr (N : Nat) : Operand → Bool
  | .tmp i => Nat.blt i N
  | _ => true
def knSafe (N : Nat) (op : Op) : Bool :=
  match op with
  | .move x | .assign x => inFr N x
  | .pick c a b => inFr N c && inFr N a && inFr N b
  | .unOp .not _ x => inFr N x
  | _ => true
def knOf' (N : Nat) (kn : Kn) (op : Op) : Option Bool :=
  match knSafe N op with
  | true => knOf kn op
  | false => none
theorem opnB_in {kn : Kn} {t : Fr} (hk : KOk kn t) {x : Operand} {b : Bool} (hs : inFr t.length x = true) (h : opnB kn x = some b) : ev t x = .bool b := by
  rcases opnB_ok (N := 0) hk h with h | ⟨i, rfl, hi⟩
  · exact h
  · unfold inFr at hs
    rw [Nat.blt_eq] at hs
    omega
theorem kn_run {P : Program} {N : Nat} {kn : Kn} {t : Fr} (hN : t.length = N) (hk : KOk kn t) {o : Oper} {b : Bool} (h : knOf' N kn o.op = some b) (w : World) : (execOp (ev t) o).run P w = .ok (.value (.bool b)) w := by
  subst hN
  unfold knOf' at h
  split at h
  · rename_i hs
    obtain ⟨dst, op, type, pos, after, guard⟩ := o
    simp only at h hs
    unfold execOp
    cases op with
    | move x =>
      show Result.ok (Next.value (ev t x)) w = _
      rw [opnB_in hk hs h]
    | assign x =>
      show Result.ok (Next.value (ev t x)) w = _
      rw [opnB_in hk hs h]
    | pick c x z =>
      unfold knSafe at hs
      simp only [Bool.and_eq_true] at hs
      unfold knOf at h
      simp only at h
      split at h
      · rename_i hq
        have hc := opnB_in hk hs.1.1 hq
        have hx := opnB_in hk hs.1.2 h
        simp only [hc, hx, asBool, pure_bind, if_true]
        rfl
      · rename_i hq
        have hc := opnB_in hk hs.1.1 hq
        have hx := opnB_in hk hs.2 h
        simp only [hc, hx, asBool, pure_bind]
        rfl
      · cases h
    | unOp u T x =>
      cases u <;> try cases h
      unfold knOf at h
      simp only at h
      split at h
      · rename_i b2 hq
        have hx := opnB_in hk hs hq
        injection h with h
        subst h
        simp only [hx]
        rfl
      · cases h
    | _ => cases h
  · cases h
section
variable {P : Program} {D : List Deferred} {y : Bool} {r : Option Nat} {n : Nat} {Q : Exit → Act → World → Prop} {next : Act → World → Prop}
theorem opW_in (hP : Plain P) {o : Oper} {t : Fr} {w : World} {k : Value → World → Prop} (h : opW P y o t w k) {N : Nat} {kn : Kn} (hN : t.length = N) (hK : KOk kn t) (hk : ∀ v w', k v w' → (∀ b, knOf' N kn o.op = some b → v = .bool b) → next (act (putd t o.dst v) D) w') :
    o.wpIn (FF r) n P (act t D) w next Q := by
  obtain ⟨h, hd⟩ := opW_out hP h
  have hrun := fun b e => kn_run (P := P) hN hK (o := o) (b := b) e w
  refine ⟨fun f _ => FF_fn r f, ?_⟩
  rw [Oper.semAt_eq _ _ _ hd, act_evalF]
  cases h with
  | value v w' hr hv => rw [hr, Oper.uponIn_value, act_put]; exact hk _ _ hv (fun b e => by have := hrun b e; rw [hr] at this; cases this; rfl)
  | skip w' hr hv => rw [hr, Oper.uponIn_skip, act_put]; exact hk _ _ hv (fun b e => by have := hrun b e; rw [hr] at this; cases this)
  | enter f args hr hv =>
    rw [hr, Oper.uponIn_enter]
    refine ⟨fun e => (by rw [FF_depth] at e; cases e), Calls.toIn (Calls.mono hv fun e w' he => ?_)⟩
    cases e with
    | returned v =>
      show next ((act t D).put o.dst v) w'
      rw [act_put]; exact hk _ _ he (fun b e => by have := hrun b e; rw [hr] at this; cases this)
    | panicked c => exact he.elim
    | outgrown => exact he.elim
  | round hy l fn tmps assign body hr hv =>
    rw [hr, Oper.uponIn_round]
    refine ⟨fun e => (by rw [FF_depth] at e; cases e), FF_fn r fn, fun c cs _ => ?_⟩
    obtain ⟨e, w', he, hs⟩ := hv.2 c cs (room_wide _)
    have hF : Machine.fenced P (FF r) = Machine.fenced P Fence.wide := by cases r <;> rfl
    refine ⟨e, w', ?_, by rw [hF]; exact hs⟩
    cases e with
    | returned v =>
      show next ((act t D).put o.dst v) w'
      rw [act_put]; exact hk _ _ he (fun b e => by have := hrun b e; rw [hr] at this; cases this)
    | panicked c => exact he.elim
    | outgrown => exact he.elim
end
/-! ### Regions -/
def gslot (all : List Oper) (j : Nat) : Option Nat :=
  match all[j]? with
  | some o => o.dst
  | none => none
def sameB : Bool → Bool → Bool
  | true, true => true
  | false, false => true
  | _, _ => false
def guardR (kv : Nat → Option Bool) (all : List Oper) (N : Nat) (o : Oper) (t : Fr) (kn : Kn) (yes no : Fr → Kn → Prop) : Prop :=
  match o.guard with
  | none => yes t kn
  | some (j, want) => (match gslot all j with
    | none => False
    | some d => (match Nat.blt d N with
      | false => False
      | true => (match look kn d with
        | some b => (match sameB b want with
          | true => yes t kn
          | false => no t kn)
        | none => (match kv d with
          | some b => nth t d = .bool b ∧ (match sameB b want with
            | true => yes t ((d, some b) :: kn)
            | false => no t ((d, some b) :: kn))
          | none => (match nth t d with
          | .bool b => (b = want → yes (upd t d (.bool want)) ((d, some want) :: kn)) ∧ (b = !want → no (upd t d (.bool (!want))) ((d, some (!want)) :: kn))
          | .tuple _ => no t kn
          | _ => False)))))
theorem sameB_true {a b : Bool} (h : sameB a b = true) : a = b := by cases a <;> cases b <;> first | rfl | cases h
theorem sameB_false {a b : Bool} (h : sameB a b = false) : a ≠ b := by cases a <;> cases b <;> first | (intro e; cases e; done) | cases h
theorem yielded_eq {all : List Oper} {t : Fr} {j d : Nat} (hg : gslot all j = some d) (hd : d < t.length) : yielded all.toArray t.toArray j = match nth t d with | .bool b => some b | _ => none := by
  unfold gslot at hg
  unfold yielded
  split at hg
  · rename_i o ho
    have e : (all.toArray[j]?) = some o := by simpa using ho
    rw [e]
    simp only [Option.bind_some, hg]
    have e2 : t.toArray[d]? = some (nth t d) := by
      rw [← nth_eq]
      simp [List.getElem?_eq_getElem hd]
    rw [e2]
    cases nth t d <;> rfl
  · cases hg
theorem guardR_sound {kv : Nat → Option Bool} {all : List Oper} {N : Nat} {o : Oper} {t : Fr} {kn : Kn} {yes no : Fr → Kn → Prop} (h : guardR kv all N o t kn yes no) (hN : t.length = N) (hk : KOk kn t) :
    (Region.wanted o (yielded all.toArray t.toArray) = true ∧ ∃ kn', KOk kn' t ∧ yes t kn') ∨ (Region.wanted o (yielded all.toArray t.toArray) = false ∧ ∃ kn', KOk kn' t ∧ no t kn') := by
  unfold guardR at h
  unfold Region.wanted
  split at h
  · rename_i hg
    rw [hg]
    exact .inl ⟨rfl, kn, hk, h⟩
  · rename_i j want hg
    rw [hg]
    split at h <;> try exact h.elim
    rename_i d hd
    split at h <;> try exact h.elim
    rename_i hlt
    have hlt : d < t.length := by rw [hN]; simpa [Nat.blt_eq] using hlt
    simp only [yielded_eq hd hlt]
    split at h
    · rename_i b hb
      have hv := hk d b hb hlt
      rw [hv]
      split at h
      · rename_i hs
        have := sameB_true hs
        subst this
        exact .inl ⟨by simp, kn, hk, h⟩
      · rename_i hs
        have := sameB_false hs
        exact .inr ⟨by simpa using this, kn, hk, h⟩
    · split at h
      · rename_i b _
        obtain ⟨hv, h⟩ := h
        have hkk : KOk ((d, some b) :: kn) t := by
          intro j' b' hl hj'
          unfold look at hl
          split at hl
          · rename_i he
            have := Nat.eq_of_beq_eq_true he
            subst this
            injection hl with hl
            rw [hv, hl]
          · exact hk j' b' hl hj'
        rw [hv]
        split at h
        · rename_i hs
          have := sameB_true hs
          subst this
          exact .inl ⟨by simp, _, hkk, h⟩
        · rename_i hs
          have := sameB_false hs
          exact .inr ⟨by simpa using this, _, hkk, h⟩
      split at h <;> try exact h.elim
      · rename_i b hv
        rw [hv]
        by_cases hb : b = want
        · subst hb
          have h1 := h.1 rfl
          rw [← hv, upd_same _ _ hlt] at h1
          refine .inl ⟨by simp, _, ?_, h1⟩
          intro j' b' hl hj'
          unfold look at hl
          split at hl
          · rename_i he
            have := Nat.eq_of_beq_eq_true he
            subst this
            injection hl with hl
            rw [hv, hl]
          · exact hk j' b' hl hj'
        · have hb' : b = !want := by cases b <;> cases want <;> simp_all
          subst hb'
          have h1 := h.2 rfl
          rw [← hv, upd_same _ _ hlt] at h1
          refine .inr ⟨by cases want <;> simp, _, ?_, h1⟩
          intro j' b' hl hj'
          unfold look at hl
          split at hl
          · rename_i he
            have := Nat.eq_of_beq_eq_true he
            subst this
            injection hl with hl
            rw [hv, hl]
          · exact hk j' b' hl hj'
      · rename_i hv
        rw [hv]
        exact .inr ⟨by simp, kn, hk, h⟩
end Go.Proofs.YtggflkjdgcdcmaaGreatDoor.Eng
