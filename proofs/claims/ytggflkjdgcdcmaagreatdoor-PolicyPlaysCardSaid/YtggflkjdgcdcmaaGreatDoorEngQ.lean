/- The engine, first text: what Go's quiet operations yield, in a form that Lean's kernel reckons. -/
import Derived.WalkKit
import Derived.KernelRfl
namespace Go.Proofs.YtggflkjdgcdcmaaGreatDoor.Eng
open Go Go.RowKit
set_option linter.unusedVariables false
set_option linter.unusedSimpArgs false
abbrev Fr := List Value
def nth : List Value → Nat → Value
  | [], _ => undef
  | a :: _, 0 => a
  | _ :: l, n + 1 => nth l n
def upd : List Value → Nat → Value → List Value
  | [], _, _ => []
  | _ :: l, 0, v => v :: l
  | a :: l, n + 1, v => a :: upd l n v
def putd (t : Fr) : Option Nat → Value → Fr
  | none, _ => t
  | some d, v => upd t d v
def ev (t : Fr) : Operand → Value
  | .tmp i => nth t i
  | .const v => v
  | .global g => .pointer (some ⟨g, 0, none⟩)
  | .func f => .func (.func f) #[] #[]
theorem nth_eq : ∀ (t : Fr) (i : Nat), t[i]?.getD undef = nth t i
  | [], i => by simp [nth]
  | a :: l, 0 => rfl
  | a :: l, n + 1 => by simpa [nth] using nth_eq l n
theorem upd_eq : ∀ (t : Fr) (i : Nat) (v : Value), t.set i v = upd t i v
  | [], i, v => by simp [upd]
  | a :: l, 0, v => rfl
  | a :: l, n + 1, v => by simp [upd, upd_eq l n v]
theorem nth_upd_same : ∀ (t : Fr) (i : Nat) (v : Value), i < t.length → nth (upd t i v) i = v
  | [], i, v, h => by simp at h
  | a :: l, 0, v, h => rfl
  | a :: l, n + 1, v, h => by simpa [nth, upd] using nth_upd_same l n v (by simpa using h)
theorem upd_over : ∀ (t : Fr) (i : Nat) (v : Value), t.length ≤ i → upd t i v = t
  | [], i, v, h => rfl
  | a :: l, 0, v, h => by simp at h
  | a :: l, n + 1, v, h => by simp [upd, upd_over l n v (by simpa using h)]
theorem nth_upd_ne : ∀ (t : Fr) (i j : Nat) (v : Value), i ≠ j → nth (upd t i v) j = nth t j
  | [], i, j, v, h => rfl
  | a :: l, 0, 0, v, h => absurd rfl h
  | a :: l, 0, j + 1, v, h => rfl
  | a :: l, n + 1, 0, v, h => rfl
  | a :: l, n + 1, j + 1, v, h => by simpa [nth, upd] using nth_upd_ne l n j v (by omega)
/-- A slot that holds this value already: written with it nothing turns. -/
theorem upd_same : ∀ (t : Fr) (i : Nat), i < t.length → upd t i (nth t i) = t
  | [], i, h => rfl
  | a :: l, 0, h => rfl
  | a :: l, n + 1, h => by simp [nth, upd, upd_same l n (by simpa using h)]
def act (t : Fr) (D : List Deferred) : Act := { tmps := t.toArray, defers := D }
theorem act_eval (t : Fr) (D : List Deferred) (x : Operand) : (act t D).eval x = ev t x := by
  cases x with
  | tmp i => simp [Act.eval, act, ev, ← nth_eq, Array.getD_eq_getD_getElem?]
  | const v => rfl
  | global g => rfl
  | func f => rfl
theorem act_evalF (t : Fr) (D : List Deferred) : (act t D).eval = ev t := funext (act_eval t D)
theorem act_put (t : Fr) (D : List Deferred) (d : Option Nat) (v : Value) : (act t D).put d v = act (putd t d v) D := by
  cases d with
  | none => rfl
  | some d => simp [Act.put, act, putd, ← upd_eq]
/-! ### What is run yields a value and leaves the world -/
def SV {α : Type} (P : Program) (s : Sem α) (v : α) : Prop := ∀ w, s.run P w = .ok v w
section
variable {P : Program} {α β : Type}
theorem SV.pure (v : α) : SV P (Pure.pure v : Sem α) v := fun _ => rfl
theorem SV.bind {s : Sem α} {v : α} {f : α → Sem β} {u : β} (h : SV P s v) (k : SV P (f v) u) : SV P (s >>= f) u := fun w => by
  rw [Sem.run_bind, h w]; exact k w
theorem SV.program : SV P program P := fun _ => rfl
theorem SV.underlying {t : TypeId} {d : TypeDesc} (h : P.underlying t = some d) : SV P (underlying t) d := fun w => by
  unfold Go.underlying
  rw [Sem.run_bind, SV.program w]
  simp [Result.andThen, h]
theorem SV.typeInfo {t : TypeId} {d : TypeInfo} (h : P.info? t = some d) : SV P (typeInfo t) d := fun w => by
  unfold Go.typeInfo
  rw [Sem.run_bind, SV.program w]
  simp [Result.andThen, h]
theorem SV.sizeOf {t : TypeId} {d : TypeInfo} (h : P.info? t = some d) : SV P (sizeOf t) d.size := SV.bind (SV.typeInfo h) (SV.pure _)
end
/-! ### Binary operations -/
def shlI (kd : IntKind) (a b : Int) : Int := kd.wrap (a * 2 ^ min b.toNat kd.bits)
def shrI (kd : IntKind) (a b : Int) : Int := a.fdiv (2 ^ min b.toNat kd.bits)
def intR (op : BinOp) (kd : IntKind) (a : Int) (b : Int) (k : Value → Prop) : Prop :=
  match op with
  | .add => k (.int kd (kd.wrap (a + b)))
  | .sub => k (.int kd (kd.wrap (a - b)))
  | .mul => k (.int kd (kd.wrap (a * b)))
  | .quo => b ≠ 0 ∧ k (.int kd (kd.wrap (a.tdiv b)))
  | .rem => b ≠ 0 ∧ k (.int kd (a.tmod b))
  | .and => k (.int kd (Go.bits .and kd a b))
  | .or => k (.int kd (Go.bits .or kd a b))
  | .xor => k (.int kd (Go.bits .xor kd a b))
  | .andNot => k (.int kd (Go.bits .andNot kd a b))
  | .eql => k (.bool (a == b))
  | .neq => k (.bool (a != b))
  | .lss => k (.bool (decide (a < b)))
  | .leq => k (.bool (decide (a ≤ b)))
  | .gtr => k (.bool (decide (a > b)))
  | .geq => k (.bool (decide (a ≥ b)))
  | _ => False
def strR (op : BinOp) (a b : ByteArray) (k : Value → Prop) : Prop :=
  match op with
  | .add => ((a.size + b.size : Nat) : Int) ≤ 9223372036854775807 ∧ k (.string (a ++ b))
  | .eql => k (.bool (a.toList == b.toList))
  | .neq => k (.bool !(a.toList == b.toList))
  | .lss => k (.bool (Op.bytesLess a.toList b.toList))
  | .leq => k (.bool (Op.bytesLess a.toList b.toList || a.toList == b.toList))
  | .gtr => k (.bool !(Op.bytesLess a.toList b.toList || a.toList == b.toList))
  | .geq => k (.bool !Op.bytesLess a.toList b.toList)
  | _ => False
def eqR (op : BinOp) (b : Bool) (k : Value → Prop) : Prop :=
  match op with
  | .eql => k (.bool b)
  | .neq => k (.bool !b)
  | _ => False
/-- x against the literal nil y. -/
def nilR (op : BinOp) (d : Option TypeDesc) (x y : Value) (k : Value → Prop) : Prop :=
  match d with
  | some (.pointer _) => (match y with | .pointer none => (match x with | .pointer a => eqR op a.isNone k | _ => False) | _ => False)
  | some (.slice _) => (match y with | .slice none _ _ => (match x with | .slice a _ _ => eqR op a.isNone k | _ => False) | _ => False)
  | some (.map _ _) => (match y with | .map none => (match x with | .map a => eqR op a.isNone k | _ => False) | _ => False)
  | some (.func _ _ _) => (match y with | .nilFunc => (match x with | .nilFunc => eqR op true k | .func _ _ _ => eqR op false k | _ => False) | _ => False)
  | _ => False
def isNil : Value → Bool
  | .pointer none => true
  | .slice none _ _ => true
  | .map none => true
  | .nilFunc => true
  | _ => false
def isNilO : Operand → Bool
  | .const v => isNil v
  | _ => false
def binR (P : Program) (op : BinOp) (T : TypeId) (xo yo : Operand) (x y : Value) (k : Value → Prop) : Prop :=
  match isNilO xo, isNilO yo with
  | _, true => nilR op (P.underlying T) x y k
  | true, false => nilR op (P.underlying T) y x k
  | false, false =>
    match x, y with
    | .int kd a, .int kd' b =>
      match op with
      | .shl => 0 ≤ b ∧ k (.int kd (shlI kd a b))
      | .shr => 0 ≤ b ∧ k (.int kd (shrI kd a b))
      | _ => (match decide (kd = kd') with
        | true => intR op kd a b k
        | false => False)
    | .string a, .string b => strR op a b k
    | .bool a, .bool b => match P.underlying T with | some .bool => eqR op (a == b) k | _ => False
    | _, _ => False
theorem SV.ok {P : Program} {α : Type} {s : Sem α} {v : α} (h : s = Pure.pure v) : SV P s v := by subst h; exact SV.pure v
def Yld (P : Program) (s : Sem Value) (k : Value → Prop) : Prop := ∃ v, SV P s v ∧ k v
theorem Yld.pure {P : Program} {k : Value → Prop} {s : Sem Value} (v : Value) (h : s = Pure.pure v) (hk : k v) : Yld P s k := ⟨v, SV.ok h, hk⟩
theorem intR_sound {P : Program} {op : BinOp} {kd : IntKind} {a b : Int} {T : TypeId} {k : Value → Prop} (h : intR op kd a b k) : Yld P (binOp op T (.int kd a) (.int kd b)) k := by
  cases op <;> first
    | exact h.elim
    | exact Yld.pure _ (by first | (simp [binOp, Op.intArith]; done) | (simp [binOp, Op.intBits, Go.bits]; done) | (simp [binOp, Op.intCmp]; done)) h
    | exact Yld.pure _ (by simp [binOp, Op.intDiv, h.1]) h.2
theorem strR_sound {P : Program} {op : BinOp} {a b : ByteArray} {T : TypeId} {k : Value → Prop} (h : strR op a b k) : Yld P (binOp op T (.string a) (.string b)) k := by
  cases op <;> first
    | exact h.elim
    | exact Yld.pure _ (by simp [binOp, Op.stringOp]) h
    | (refine Yld.pure _ ?_ h.2
       have h1 := h.1
       have e : IntKind.i64.max = 9223372036854775807 := rfl
       simp only [binOp, Op.stringOp, e]
       rw [if_neg (by omega)])
theorem eqR_sound {P : Program} {op : BinOp} {x y : Value} {T : TypeId} {b : Bool} {k : Value → Prop} (hb : binOp .eql T x y = (do Pure.pure (.bool (← Op.equal T x y)))) (hn : binOp .neq T x y = (do Pure.pure (.bool (!(← Op.equal T x y))))) (he : SV P (Op.equal T x y) b) (h : eqR op b k) : Yld P (binOp op T x y) k := by
  cases op <;> first
    | exact h.elim
    | exact ⟨_, by rw [hb]; exact SV.bind he (SV.pure _), h⟩
    | exact ⟨_, by rw [hn]; exact SV.bind he (SV.pure _), h⟩
theorem equal_nil {P : Program} {T : TypeId} {d : TypeDesc} (hd : P.underlying T = some d) :
    (∀ a e, d = .pointer e → SV P (Op.equal T (.pointer a) (.pointer none)) a.isNone ∧ SV P (Op.equal T (.pointer none) (.pointer a)) a.isNone) ∧
    (∀ a l c l' c' e, d = .slice e → SV P (Op.equal T (.slice a l c) (.slice none l' c')) a.isNone ∧ SV P (Op.equal T (.slice none l' c') (.slice a l c)) a.isNone) ∧
    (∀ a x y, d = .map x y → SV P (Op.equal T (.map a) (.map none)) a.isNone ∧ SV P (Op.equal T (.map none) (.map a)) a.isNone) ∧
    (∀ x y z, d = .func x y z → SV P (Op.equal T .nilFunc .nilFunc) true) ∧
    (∀ x y z f p q, d = .func x y z → SV P (Op.equal T (.func f p q) .nilFunc) false ∧ SV P (Op.equal T .nilFunc (.func f p q)) false) := by
  refine ⟨fun a e hde => ?_, fun a l c l' c' e hde => ?_, fun a x y hde => ?_, fun x y z hde => ?_, fun x y z f p q hde => ?_⟩ <;> subst hde
  · constructor <;> cases a <;> (unfold Op.equal Op.equalIn Op.maxDepth; exact SV.bind (SV.underlying hd) (SV.ok rfl))
  · constructor <;> cases a <;> (unfold Op.equal Op.equalIn Op.maxDepth; exact SV.bind (SV.underlying hd) (SV.ok rfl))
  · constructor <;> cases a <;> (unfold Op.equal Op.equalIn Op.maxDepth; exact SV.bind (SV.underlying hd) (SV.ok rfl))
  · (unfold Op.equal Op.equalIn Op.maxDepth; exact SV.bind (SV.underlying hd) (SV.ok rfl))
  · constructor <;> (unfold Op.equal Op.equalIn Op.maxDepth; exact SV.bind (SV.underlying hd) (SV.ok rfl))
theorem equal_bool {P : Program} {T : TypeId} (hd : P.underlying T = some .bool) (a b : Bool) : SV P (Op.equal T (.bool a) (.bool b)) (a == b) := by
  unfold Op.equal Op.equalIn Op.maxDepth; exact SV.bind (SV.underlying hd) (SV.ok rfl)
theorem nilR_sound {P : Program} {op : BinOp} {T : TypeId} {x y : Value} {k : Value → Prop} (h : nilR op (P.underlying T) x y k) :
    (Yld P (binOp op T x y) k ∧ Yld P (binOp op T y x) k) ∧ (x ≠ .nilIface ∧ y ≠ .nilIface) ∧ (∀ c, x ≠ .agg c) ∧ (∀ c, y ≠ .agg c) := by
  cases hd : P.underlying T with
  | none => rw [hd] at h; exact h.elim
  | some d =>
    rw [hd] at h
    have E := equal_nil hd
    cases d <;> first
      | exact h.elim
      | (simp only [nilR] at h
         split at h <;> first
          | exact h.elim
          | (split at h <;> first
              | exact h.elim
              | (refine ⟨⟨?_, ?_⟩, ⟨by simp, by simp⟩, by simp, by simp⟩
                 · first
                   | exact eqR_sound rfl rfl ((E.1 _ _ rfl).1) h
                   | exact eqR_sound rfl rfl ((E.2.1 _ _ _ _ _ _ rfl).1) h
                   | exact eqR_sound rfl rfl ((E.2.2.1 _ _ _ rfl).1) h
                   | exact eqR_sound rfl rfl (E.2.2.2.1 _ _ _ rfl) h
                   | exact eqR_sound rfl rfl ((E.2.2.2.2 _ _ _ _ _ _ rfl).1) h
                 · first
                   | exact eqR_sound rfl rfl ((E.1 _ _ rfl).2) h
                   | exact eqR_sound rfl rfl ((E.2.1 _ _ _ _ _ _ rfl).2) h
                   | exact eqR_sound rfl rfl ((E.2.2.1 _ _ _ rfl).2) h
                   | exact eqR_sound rfl rfl (E.2.2.2.1 _ _ _ rfl) h
                   | exact eqR_sound rfl rfl ((E.2.2.2.2 _ _ _ _ _ _ rfl).2) h)))
theorem guardS {P : Program} {op : BinOp} {T : TypeId} {xo yo : Operand} {x y : Value} (h : x ≠ .nilIface) (h2 : ∀ c, x ≠ .agg c) : SV P (eqGuard op T xo yo x y) () := by
  unfold eqGuard
  cases op <;> first
    | exact SV.pure ()
    | (cases x <;> first
        | exact SV.pure ()
        | exact absurd rfl (h2 _)
        | exact absurd rfl h)
theorem Yld.guard {P : Program} {op : BinOp} {T : TypeId} {xo yo : Operand} {x y : Value} {k : Value → Prop} (h : x ≠ .nilIface) (h2 : ∀ c, x ≠ .agg c) (hb : Yld P (binOp op T x y) k) : Yld P (do eqGuard op T xo yo x y; binOp op T x y) k := by
  obtain ⟨v, hv, hk⟩ := hb
  exact ⟨v, SV.bind (guardS h h2) hv, hk⟩
theorem binR_sound {P : Program} {op : BinOp} {T : TypeId} {xo yo : Operand} {x y : Value} {k : Value → Prop} (h : binR P op T xo yo x y k) : Yld P (do eqGuard op T xo yo x y; binOp op T x y) k := by
  unfold binR at h
  split at h
  · obtain ⟨⟨h1, _⟩, ⟨h2, _⟩, h3, _⟩ := nilR_sound h
    exact Yld.guard h2 h3 h1
  · obtain ⟨⟨_, h1⟩, ⟨_, h2⟩, _, h3⟩ := nilR_sound h
    exact Yld.guard h2 h3 h1
  · split at h
    · refine Yld.guard (by simp) (by simp) ?_
      split at h
      · exact Yld.pure _ (by simp only [binOp, Op.shift, shlI]; rw [if_neg (Int.not_lt.2 h.1)]) h.2
      · exact Yld.pure _ (by simp only [binOp, Op.shift, shrI]; rw [if_neg (Int.not_lt.2 h.1)]) h.2
      · split at h <;> try exact h.elim
        rename_i hd
        have hd := of_decide_eq_true hd
        subst hd
        exact intR_sound h
    · exact Yld.guard (by simp) (by simp) (strR_sound h)
    · split at h
      · rename_i hd
        exact Yld.guard (by simp) (by simp) (eqR_sound rfl rfl (equal_bool hd _ _) h)
      · exact h.elim
    · exact h.elim
end Go.Proofs.YtggflkjdgcdcmaaGreatDoor.Eng
