/- The engine, fourth text: an operation, whichever it is; a region in its own order. -/
import Derived.Test.YtggflkjdgcdcmaaGreatDoorEngB
namespace Go.Proofs.YtggflkjdgcdcmaaGreatDoor.Eng
open Go Go.RowKit
set_option linter.unusedVariables false
set_option linter.unusedSimpArgs false
/-! ### Values of a type, told by their parts -/
def tyv (d : TypeDesc) (k : Value → Prop) : Prop :=
  match d with
  | .bool => ∃ b : Bool, k (.bool b)
  | .int kd => ∃ n : Int, k (.int kd n)
  | .string => ∃ s : ByteArray, k (.string s)
  | .pointer _ => ∃ q : Option Addr, k (.pointer q)
  | .slice _ => ∃ (q : Option Addr) (l c : Nat), k (.slice q l c)
  | .map _ _ => ∃ r : Option Nat, k (.map r)
  | .func _ _ _ => ∃ (g : Nat) (a c : Array Value), k (.func (.func g) a c)
  | _ => ∃ v : Value, k v
theorem tyv_ex {d : TypeDesc} {k : Value → Prop} (h : tyv d k) : ∃ v, k v := by
  cases d <;> first
    | (obtain ⟨x, h⟩ := h; exact ⟨_, h⟩)
    | (obtain ⟨q, l, c, h⟩ := h; exact ⟨_, h⟩)
def flatFs (f : TypeId → Option (List TypeDesc)) : List Field → Option (List TypeDesc)
  | [] => some []
  | x :: r => match f x.type with
    | some l => (match flatFs f r with | some l' => some (l ++ l') | none => none)
    | none => none
def flat (P : Program) : Nat → TypeId → Option (List TypeDesc)
  | 0, _ => none
  | n + 1, T => match P.underlying T with
    | some (.struct fs) => flatFs (flat P n) fs.toList
    | some (.array m e) => (match flat P n e with | some l => some (List.replicate m l).flatten | none => none)
    | some d => some [d]
    | none => none
def tyL : List TypeDesc → (List Value → Prop) → Prop
  | [], k => k []
  | d :: r, k => tyv d (fun v => tyL r (fun vs => k (v :: vs)))
theorem tyL_ex : ∀ {ds : List TypeDesc} {k : List Value → Prop}, tyL ds k → ∃ vs, vs.length = ds.length ∧ k vs
  | [], k, h => ⟨[], rfl, h⟩
  | d :: r, k, h => by
    obtain ⟨v, h⟩ := tyv_ex h
    obtain ⟨vs, hl, h⟩ := tyL_ex h
    exact ⟨v :: vs, by simp [hl], h⟩
def tyT1 (P : Program) (T : TypeId) (k : Value → Prop) : Prop :=
  match P.underlying T with
  | some d => (match aggD (some d) with
    | true => (match flat P 6 T with
      | some ds => tyL ds (fun vs => k (.agg vs.toArray))
      | none => False)
    | false => tyv d k)
  | none => False
theorem tyT1_ex {P : Program} {T : TypeId} {k : Value → Prop} (h : tyT1 P T k) : ∃ v, k v := by
  unfold tyT1 at h
  split at h <;> try exact h.elim
  split at h
  · split at h <;> try exact h.elim
    obtain ⟨vs, _, h⟩ := tyL_ex h
    exact ⟨_, h⟩
  · exact tyv_ex h
def tyTs (P : Program) : List TypeId → (List Value → Prop) → Prop
  | [], k => k []
  | T :: r, k => tyT1 P T (fun v => tyTs P r (fun vs => k (v :: vs)))
theorem tyTs_ex {P : Program} : ∀ {Ts : List TypeId} {k : List Value → Prop}, tyTs P Ts k → ∃ vs, k vs
  | [], k, h => ⟨[], h⟩
  | d :: r, k, h => by
    obtain ⟨v, h⟩ := tyT1_ex h
    obtain ⟨vs, h⟩ := tyTs_ex h
    exact ⟨_, h⟩
def tyT (P : Program) (T : TypeId) (k : Value → Prop) : Prop :=
  match P.underlying T with
  | some (.tuple ts) => tyTs P ts.toList (fun vs => k (.tuple vs.toArray))
  | _ => tyT1 P T k
theorem tyT_ex {P : Program} {T : TypeId} {k : Value → Prop} (h : tyT P T k) : ∃ v, k v := by
  unfold tyT at h
  split at h
  · obtain ⟨vs, h⟩ := tyTs_ex h
    exact ⟨_, h⟩
  · exact tyT1_ex h
def TyR (P : Program) (T : TypeId) (v : Value) (k : Value → Prop) : Prop := tyT P T (fun u => v = u ∧ k u)
theorem TyR.out {P : Program} {T : TypeId} {v : Value} {k : Value → Prop} (h : TyR P T v k) : k v := by
  obtain ⟨u, rfl, h⟩ := tyT_ex h
  exact h
/-! ### Loads -/
def rdAll (rd : Addr → Value → Prop) (a : Addr) (i : Nat) : List Value → Prop
  | [] => True
  | [v] => rd (a.add i) v
  | v :: r => rd (a.add i) v ∧ rdAll rd a (i + 1) r
theorem rdAll_at {rd : Addr → Value → Prop} {a : Addr} : ∀ {vs : List Value} {i : Nat}, rdAll rd a i vs → ∀ j v, vs[j]? = some v → rd (a.add (i + j)) v
  | [], i, h, j, v, hj => by simp at hj
  | [u], i, h, 0, v, hj => by simp at hj; subst hj; exact h
  | [u], i, h, j + 1, v, hj => by simp at hj
  | u :: u' :: r, i, h, 0, v, hj => by simp at hj; subst hj; exact h.1
  | u :: u' :: r, i, h, j + 1, v, hj => by
    have := rdAll_at (vs := u' :: r) h.2 j v (by simpa using hj)
    rw [show i + (j + 1) = i + 1 + j by omega]; exact this
def ldR (P : Program) (rd : Addr → Value → Prop) (T : TypeId) (a : Addr) (k : Value → Prop) : Prop :=
  match P.underlying T with
  | some d => (match aggD (some d) with
    | true => (match flat P 6 T, szOf P T with
      | some ds, some n => (match Nat.beq ds.length n with
        | true => tyL ds (fun vs => rdAll rd a 0 vs ∧ k (.agg vs.toArray))
        | false => False)
      | _, _ => False)
    | false => tyv d (fun v => rd a v ∧ k v))
  | none => False
def cellAt (w : World) : Addr → Value → Prop := fun p v => w.cell? p = some v
theorem load_run {P : Program} {w : World} {a : Addr} {v : Value} (h : w.cell? a = some v) : (load a).run P w = .ok v w := by
  simp [load, Sem.run, h]
theorem ldR_sound {P : Program} {rd : Addr → Value → Prop} {T : TypeId} {a : Addr} {k : Value → Prop} (h : ldR P rd T a k) :
    ∃ v, (∀ w, (∀ p u, rd p u → w.cell? p = some u) → (Instr.loadAt T (.pointer (some a))).run P w = .ok v w) ∧ k v := by
  unfold ldR at h
  split at h <;> try exact h.elim
  rename_i d hd
  split at h
  · rename_i ha
    split at h <;> try exact h.elim
    rename_i ds n hf hn
    split at h <;> try exact h.elim
    rename_i hb
    have hb := Nat.eq_of_beq_eq_true hb
    obtain ⟨vs, hl, hr, h⟩ := tyL_ex h
    refine ⟨_, fun w hw => ?_, h⟩
    have h1 := run_loadCells_list (P := P) (w := w) a vs (fun j v hj => hw _ _ (by simpa using rdAll_at hr j v hj))
    unfold Instr.loadAt
    rw [Sem.run_bind]
    show (loadVar T a).run P w = _
    unfold loadVar
    rw [Sem.run_bind, isAgg_SV hd w, ha]
    simp only [Result.andThen, if_true]
    rw [Sem.run_bind, szOf_SV hn w]
    simp only [Result.andThen]
    rw [Sem.run_bind, ← hb, ← hl, h1]
    rfl
  · rename_i ha
    obtain ⟨v, hr, h⟩ := tyv_ex h
    refine ⟨v, fun w hw => ?_, h⟩
    unfold Instr.loadAt
    rw [Sem.run_bind]
    show (loadVar T a).run P w = _
    unfold loadVar
    rw [Sem.run_bind, isAgg_SV hd w, ha]
    exact load_run (hw _ _ hr)
/-! ### What acts -/
def RunR (P : Program) (s : Sem Value) (w : World) (k : Value → World → Prop) : Prop := ∃ v w', s.run P w = .ok v w' ∧ k v w'
def RunU (P : Program) (s : Sem Unit) (w : World) (k : World → Prop) : Prop := ∃ w', s.run P w = .ok () w' ∧ k w'
def NewR (T : TypeId) (cs : List Value) (w : World) (k : Addr → World → Prop) : Prop := k ⟨w.heap.size, 0, none⟩ (w.alloc (.cells cs.toArray T))
def NewMapR (w : World) (k : Nat → World → Prop) : Prop := k w.heap.size (w.alloc (.map #[] 0))
def setCells (w : World) (a : Addr) (i : Nat) : List Value → World
  | [] => w
  | v :: r => setCells (w.setCell (a.add i) v) a (i + 1) r
def StoreR (a : Addr) (vs : List Value) (w : World) (k : World → Prop) : Prop :=
  (∀ i, i < vs.length → (∃ u, w.cell? (a.add i) = some u) ∧ w.frozen? (a.add i) = false) ∧ (∀ v ∈ vs, v.oneCell' = true) ∧ k (setCells w a 0 vs)
def Rets (P : Program) (f : FuncId) (args : Array Value) (w : World) (k : Value → World → Prop) : Prop :=
  Calls P f args w fun e w' => match e with
    | .returned v => k v w'
    | _ => False
def RoundR (P : Program) (l : Nat) (args : Array Value) (w : World) (k : Value → World → Prop) : Prop :=
  ∃ fn tmps assign body, (Instr.yield l args).run P w = .ok (.round l fn tmps assign body) w ∧ RoundIn Fence.wide 0 P l fn tmps assign body w fun e w' => match e with
    | .returned v => k v w'
    | _ => False
/-- Zero values, one behind the other. -/
def zrep (z : List Value) (n : Nat) : List Value := (List.range (n * z.length)).map (fun i => nth z (i % z.length))
def MakeR (e : TypeId) (z : List Value) (bytes : Nat) (l c : Int) (w : World) (k : Addr → World → Prop) : Prop :=
  (0 ≤ l ∧ l ≤ c ∧ c ≤ 9223372036854775807 ∧ bytes * c ≤ 281474976710656) ∧ NewR e (zrep z c.toNat) w k
def bytesOf (P : Program) (T : TypeId) : Option Nat := (P.info? T).map (fun i => i.bytes)
def builtinV (b : Builtin) (ats : Array TypeId) (ty : TypeId) (args : Array Value) : Sem Value :=
  match b with
  | .append => Builtin.append_ ats ty args
  | .copy => Builtin.copy_ ats ty args
  | .clear => Builtin.clear_ ats ty args
  | .delete => Builtin.delete_ ats ty args
  | .len => Builtin.len_ ats ty args
  | .cap => Builtin.cap_ ats ty args
  | _ => stuck "no such builtin here"
def binV (o : BinOp) (T : TypeId) (xo zo : Operand) (x z : Value) : Sem Value := do eqGuard o T xo zo x z; binOp o T x z
def storeW (P : Program) (T : TypeId) (x y : Value) (w : World) (k : Value → World → Prop) : Prop :=
  match x with
  | .pointer q => someR q (fun a => match szOf P T with
    | some n => (match Nat.beq (cellsL y).length n with
      | true => StoreR a (cellsL y) w (fun w' => k undef w')
      | false => False)
    | none => False)
  | _ => False
def bslW (P : Program) (S : TypeId) (len : Nat) (parts : List (Nat × Value)) (w : World) (k : Value → World → Prop) : Prop :=
  match P.underlying S with
  | some (.slice e) => (match zeroL P e, szOf P e with
    | some z, some n => (match Nat.beq z.length n && Nat.ble (len * n) 16777216 with
      | true => (match fillL (fun i => some (i * n, n)) (zrep z len) parts with
        | some cs => NewR e cs w (fun a w' => k (.slice (some a) len len) w')
        | none => False)
      | false => False)
    | _, _ => False)
  | _ => False
def mksW (P : Program) (S : TypeId) (l c : Value) (w : World) (k : Value → World → Prop) : Prop :=
  match P.underlying S with
  | some (.slice e) => (match zeroL P e, szOf P e, bytesOf P e with
    | some z, some n, some b => (match Nat.beq z.length n with
      | true => (match l, c with
        | .int _ l, .int _ c => MakeR e z b l c w (fun a w' => k (.slice (some a) l.toNat c.toNat) w')
        | _, _ => False)
      | false => False)
    | _, _, _ => False)
  | _ => False
def callG (P : Program) (g : Nat) (a args c : List Value) (w : World) (k : Value → World → Prop) : Prop :=
  match P.funcs[g]? with
  | some fn => (match fn.body.isSome with
    | true => Rets P g (a ++ args ++ c).toArray w k
    | false => False)
  | none => False
theorem callG.mk {P : Program} {g : Nat} {fn : Func} {a args c : List Value} {w : World} {k : Value → World → Prop} (hf : P.funcs[g]? = some fn) (hb : fn.body.isSome = true) (h : Rets P g (a ++ args ++ c).toArray w k) : callG P g a args c w k := by
  unfold callG; rw [hf]; simp only [hb]; exact h
def callW (P : Program) (y : Bool) (T : TypeId) (f : Value) (args : List Value) (w : World) (k : Value → World → Prop) : Prop :=
  match f with
  | .func (.func g) a c => callG P g a.toList args c.toList w (fun v w' => TyR P T v (fun u => k u w'))
  | .func (.yield l) a _ => (match y with
    | true => RoundR P l (a.toList ++ args).toArray w (fun v w' => ∃ b : Bool, v = .bool b ∧ k (.bool b) w')
    | false => False)
  | _ => False
def actW (P : Program) (y : Bool) (T : TypeId) (op : Op) (t : Fr) (w : World) (k : Value → World → Prop) : Prop :=
  match op with
  | .store T' x z => storeW P T' (ev t x) (ev t z) w k
  | .alloc e => (match zeroL P e with | some z => NewR e z w (fun a w' => k (.pointer (some a)) w') | none => False)
  | .box e x => NewR e (cellsL (ev t x)) w (fun a w' => k (.pointer (some a)) w')
  | .buildSlice S len parts => bslW P S len (partsL t parts.toList) w k
  | .makeSlice S l c => mksW P S (ev t l) (ev t c) w k
  | .makeMap _ none => NewMapR w (fun r w' => k (.map (some r)) w')
  | .call { callee := .value f, args, .. } => callW P y T (ev t f) (argsL t args.toList) w k
  | .call { callee := .builtin b, args, argTypes } => RunR P (builtinV b argTypes T (argsL t args.toList).toArray) w (fun v w' => TyR P T v (fun u => k u w'))
  | .lookup M x i ok => RunR P (Instr.lookup M (ev t x) (ev t i) ok) w (fun v w' => TyR P T v (fun u => k u w'))
  | .mapUpdate M m i x => RunU P (Instr.mapUpdate M (ev t m) (ev t i) (ev t x)) w (fun w' => k undef w')
  | .insert M m i x => RunU P (Instr.mapUpdate M (ev t m) (ev t i) (ev t x)) w (fun w' => k undef w')
  | .binOp o T' x z _ => RunR P (binV o T' x z (ev t x) (ev t z)) w (fun v w' => TyR P T v (fun u => k u w'))
  | .convert a b x => RunR P (convert a b (ev t x)) w (fun v w' => TyR P T v (fun u => k u w'))
  | _ => False
def loadW (P : Program) (rd : Addr → Value → Prop) (T : TypeId) (x : Value) (k : Value → Prop) : Prop :=
  match x with
  | .pointer q => someR q (fun a => ldR P rd T a k)
  | _ => False
theorem loadW_sound {P : Program} {rd : Addr → Value → Prop} {T : TypeId} {x : Value} {k : Value → Prop} (h : loadW P rd T x k) :
    ∃ v, (∀ w, (∀ p u, rd p u → w.cell? p = some u) → (Instr.loadAt T x).run P w = .ok v w) ∧ k v := by
  unfold loadW at h
  split at h <;> try exact h.elim
  unfold someR at h
  split at h <;> try exact h.elim
  exact ldR_sound h
/-- One operation. -/
def opW (P : Program) (y : Bool) (o : Oper) (t : Fr) (w : World) (k : Value → World → Prop) : Prop :=
  match quietB P o.op with
  | true => quietR P t o.op (fun v => k v w)
  | false => (match o.op with
    | .load T x => loadW P (cellAt w) T (ev t x) (fun v => k v w)
    | op => actW P y o.type op t w k)
/-- The fence: outside of rounds, or in the round of loop l. -/
def FF : Option Nat → Fence
  | none => Fence.wide
  | some l => Fence.wide.inRound l
theorem FF_fn (r : Option Nat) (f : FuncId) : (FF r).fn f := by cases r <;> trivial
theorem FF_depth (r : Option Nat) : (FF r).depth = none := by cases r <;> rfl
/-- No function is a mark of the run-time's. -/
def Plain (P : Program) : Prop := ∀ (f : Nat) (fn : Func), P.funcs[f]? = some fn → (fn.name == "runtime.NumGoroutine") = false
theorem enters {P : Program} (hP : Plain P) {f : FuncId} {fn : Func} (hf : P.funcs[f]? = some fn) (hb : fn.body.isSome = true) (args : Array Value) (w : World) : (callFunc f args).run P w = .ok (.enter f args) w := by
  have h1 : fn.name ≠ "runtime.NumGoroutine" := by simpa using hP f fn hf
  obtain ⟨c, hc⟩ := Option.isSome_iff_exists.1 hb
  simp [callFunc, hf, h1, hc]
end Go.Proofs.YtggflkjdgcdcmaaGreatDoor.Eng
