/- The engine, third text: an operation, whichever it is; a region in its own order. -/
import Derived.Test.YtggflkjdgcdcmaaGreatDoorEngP
import Derived.RangeFuncIn
import Derived.Laws.Tables
import Derived.Great.BuildSlice
namespace Go.Proofs.YtggflkjdgcdcmaaGreatDoor.Eng
open Go Go.RowKit
set_option linter.unusedVariables false
set_option linter.unusedSimpArgs false
/-! ### Values built out of parts -/
def setL (t : List Value) (off : Nat) : List Value → List Value
  | [] => t
  | v :: r => setL (upd t off v) (off + 1) r
def cellsL : Value → List Value
  | .agg cs => cs.toList
  | v => [v]
theorem cellsL_eq (v : Value) : v.cells.toList = cellsL v := by cases v <;> rfl
def fillL (place : Nat → Option (Nat × Nat)) (cells : List Value) : List (Nat × Value) → Option (List Value)
  | [] => some cells
  | (i, v) :: rest => match place i with
    | none => none
    | some (off, size) => match (cellsL v).length == size && Nat.ble (off + (cellsL v).length) cells.length with
      | true => fillL place (setL cells off (cellsL v)) rest
      | false => none
theorem upd_length : ∀ (t : List Value) (i : Nat) (v : Value), (upd t i v).length = t.length
  | [], i, v => rfl
  | a :: l, 0, v => rfl
  | a :: l, n + 1, v => by simp [upd, upd_length l n v]
theorem zip_fold (off : Nat) : ∀ (vs : List Value) (t : List Value) (j : Nat),
    (vs.zipIdx j).foldl (fun (cs : Array Value) (p : Value × Nat) => cs.setIfInBounds (off + p.2) p.1) t.toArray = (setL t (off + j) vs).toArray
  | [], t, j => rfl
  | v :: r, t, j => by
    simp only [List.zipIdx_cons, List.foldl_cons, List.setIfInBounds_toArray, setL, upd_eq]
    rw [zip_fold off r (upd t (off + j) v) (j + 1)]
    rfl
theorem fillL_sound (place : Nat → Option (Nat × Nat)) : ∀ (parts : List (Nat × Value)) (cells out : List Value), fillL place cells parts = some out → Instr.fill place cells.toArray parts = some out.toArray
  | [], cells, out, h => by simp [fillL] at h; subst h; rfl
  | (i, v) :: rest, cells, out, h => by
    unfold fillL at h
    unfold Instr.fill
    split at h
    · cases h
    · rename_i off size hp
      split at h
      · rename_i hc
        rw [Bool.and_eq_true, beq_iff_eq, Nat.ble_eq] at hc
        have e : v.cells.size = (cellsL v).length := by rw [← cellsL_eq]; simp
        simp only [hp]
        rw [if_neg (by rw [e]; simp; omega)]
        have h2 := fillL_sound place rest _ out h
        rw [← h2]
        congr 1
        rw [← Array.foldl_toList, Array.toList_zipIdx, cellsL_eq]
        exact zip_fold off (cellsL v) cells 0
      · cases h
def placesL (P : Program) : List Field → Option (List (Nat × Nat))
  | [] => some []
  | f :: r => match szOf P f.type with
    | some n => (match placesL P r with | some l => some ((f.offset, n) :: l) | none => none)
    | none => none
theorem placesL_eq {P : Program} : ∀ {fs : List Field} {l : List (Nat × Nat)}, placesL P fs = some l → fs.mapM (fun f => (P.info? f.type).map fun i => (f.offset, i.size)) = some l
  | [], l, h => by simp [placesL] at h; subst h; rfl
  | f :: r, l, h => by
    unfold placesL at h
    split at h
    · rename_i n hn
      split at h
      · rename_i l' hl
        injection h with h
        subst h
        have := placesL_eq hl
        unfold szOf at hn
        cases hi : P.info? f.type with
        | none => rw [hi] at hn; cases hn
        | some d => rw [hi] at hn; simp at hn; simp [List.mapM_cons, this, hi, hn]
      · cases h
    · cases h
def zeroL (P : Program) (T : TypeId) : Option (List Value) := match P.info? T with
  | some i => (match i.zero with | some z => some (cellsL z) | none => none)
  | none => none
def listAt (l : List (Nat × Nat)) (i : Nat) : Option (Nat × Nat) := l[i]?
def builtL (P : Program) (T : TypeId) (parts : List (Nat × Value)) : Option (List Value) :=
  match zeroL P T with
  | some z => (match P.underlying T with
    | some (.struct fs) => (match placesL P fs.toList with
      | some l => fillL (listAt l) z parts
      | none => none)
    | some (.array _ e) => (match szOf P e with
      | some n => fillL (fun i => some (i * n, n)) z parts
      | none => none)
    | _ => none)
  | none => none
theorem zeroL_eq {P : Program} {T : TypeId} {z : List Value} (h : zeroL P T = some z) : ∃ i zv, P.info? T = some i ∧ i.zero = some zv ∧ cellsL zv = z := by
  unfold zeroL at h
  split at h
  · split at h
    · injection h with h; exact ⟨_, _, by assumption, by assumption, h⟩
    · cases h
  · cases h
theorem builtL_sound {P : Program} {T : TypeId} {parts : List (Nat × Value)} {out : List Value} (h : builtL P T parts = some out) : P.built T parts = some out.toArray := by
  unfold builtL at h
  split at h
  · rename_i z hz
    obtain ⟨it, zv, hit, hzv, rfl⟩ := zeroL_eq hz
    unfold Program.built
    have ec : zv.cells = (cellsL zv).toArray := by rw [← cellsL_eq]
    split at h
    · rename_i fs hu
      split at h
      · rename_i l hl
        simp only [hit, hu, hzv, placesL_eq hl]
        have := fillL_sound _ _ _ _ h
        rw [ec, ← this]
        congr 1
        funext i
        simp [listAt]
      · cases h
    · rename_i n e hu
      split at h
      · rename_i sz hsz
        unfold szOf at hsz
        cases hi : P.info? e with
        | none => rw [hi] at hsz; cases hsz
        | some d =>
          rw [hi] at hsz
          simp at hsz
          subst hsz
          simp only [hit, hu, hzv, hi]
          rw [ec]
          exact fillL_sound _ _ _ _ h
      · cases h
    · cases h
  · cases h
def partsL (t : Fr) : List (Nat × Operand) → List (Nat × Value)
  | [] => []
  | (i, x) :: r => (i, ev t x) :: partsL t r
theorem partsL_eq (t : Fr) : ∀ l : List (Nat × Operand), l.map (fun p => (p.1, ev t p.2)) = partsL t l
  | [] => rfl
  | (i, x) :: r => by simp [partsL, partsL_eq t r]
def buildR (P : Program) (T : TypeId) (parts : List (Nat × Value)) (k : Value → Prop) : Prop :=
  match builtL P T parts with
  | some cs => k (.agg cs.toArray)
  | none => False
theorem buildR_sound {P : Program} {T : TypeId} {parts : Array (Nat × Value)} {k : Value → Prop} (h : buildR P T parts.toList k) : Yld P (Instr.build T parts) k := by
  unfold buildR at h
  split at h <;> try exact h.elim
  rename_i cs hc
  exact ⟨_, fun w => run_build w T parts _ (builtL_sound hc), h⟩
def argsL (t : Fr) : List Operand → List Value
  | [] => []
  | x :: r => ev t x :: argsL t r
theorem argsL_eq (t : Fr) : ∀ l : List Operand, l.map (ev t) = argsL t l
  | [] => rfl
  | x :: r => by simp [argsL, argsL_eq t r]
theorem args_eq (t : Fr) (xs : Array Operand) : xs.map (ev t) = (argsL t xs.toList).toArray := by
  rw [← argsL_eq]; apply Array.toList_inj.1; simp
def optV (t : Fr) : Option Operand → Option Value
  | none => none
  | some x => some (ev t x)
theorem optV_eq (t : Fr) (x : Option Operand) : x.map (ev t) = optV t x := by cases x <;> rfl
/-! ### The quiet operations -/
def quietB (P : Program) : Op → Bool
  | .move _ | .assign _ | .pick .. | .unOp .. | .nilCheck _ | .fieldAddr .. | .field .. | .indexAddr .. | .index .. | .slice .. | .extract .. | .makeFunc .. | .makeInterface .. | .build .. => true
  | .binOp _ T x y _ => isNilO x || isNilO y || (match P.underlying T with
    | some (.struct _) => eqB P 8 T
    | some (.array _ _) | some (.interface _) | some (.pointer _) => false
    | _ => true)
  | .convert src dst _ => (match P.underlying src, P.underlying dst with
    | some (.int _), some (.int _) => true
    | some .string, some .string => true
    | _, _ => false)
  | .call { callee := .builtin b, argTypes, .. } => (match b with
    | .len | .cap => (match argTypes.toList with
      | [T] => (match P.underlying T with
        | some (.map _ _) => false
        | _ => true)
      | _ => false)
    | .max | .min => true
    | _ => false)
  | _ => false
/-- One or the other. -/
def pickB (b : Bool) (p q : Prop) : Prop := match b with
  | true => p
  | false => q
def pickR (c : Value) (a b : Value) (k : Value → Prop) : Prop :=
  match c with
  | .bool x => pickB x (k a) (k b)
  | _ => False
def mkiR (P : Program) (T : TypeId) (x : Value) (k : Value → Prop) : Prop :=
  match P.underlying T with
  | some (.interface _) => False
  | some _ => k (.iface T x)
  | none => False
def quietR (P : Program) (t : Fr) (op : Op) (k : Value → Prop) : Prop :=
  match op with
  | .move x => k (ev t x)
  | .assign x => k (ev t x)
  | .pick c a b => pickR (ev t c) (ev t a) (ev t b) k
  | .unOp o _ x => unR o (ev t x) k
  | .binOp o T x y _ => binS P o T x y (ev t x) (ev t y) k
  | .nilCheck x => nilckR (ev t x) k
  | .fieldAddr s x f => fldR P s (ev t x) f k
  | .field s x f => fieldR P s (ev t x) f k
  | .indexAddr T x i => ixaR P T (ev t x) (ev t i) k
  | .index T x i => ixR P T (ev t x) (ev t i) k
  | .slice T x lo hi mx => sliR P T (ev t x) (optV t lo) (optV t hi) (optV t mx) k
  | .extract x i => extR (ev t x) i k
  | .convert src dst x => cvtR P src dst (ev t x) k
  | .makeFunc fn a b => k (.func fn (argsL t a.toList).toArray (argsL t b.toList).toArray)
  | .makeInterface T x => mkiR P T (ev t x) k
  | .build T parts => buildR P T (partsL t parts.toList) k
  | .call { callee := .builtin b, args, argTypes } => (match b with
    | .len => (match argTypes.toList, args.toList with
      | [T], [x] => lenR P T (ev t x) k
      | _, _ => False)
    | .cap => (match argTypes.toList, args.toList with
      | [T], [x] => capR P T (ev t x) k
      | _, _ => False)
    | .max => mmR maxI (argsL t args.toList) k
    | .min => mmR minI (argsL t args.toList) k
    | _ => False)
  | _ => False
/-- What is carried out yields a value and leaves the world. -/
def YldN (P : Program) (s : Sem Next) (k : Value → Prop) : Prop := ∃ v, SV P s (Next.value v) ∧ k v
theorem Yld.next {P : Program} {s : Sem Value} {k : Value → Prop} (h : Yld P s k) : YldN P (s >>= fun x => (Pure.pure (Next.value x) : Sem Next)) k := by
  obtain ⟨v, hv, hk⟩ := h
  exact ⟨v, SV.bind hv (SV.pure _), hk⟩
theorem singleton_of_toList {α : Type} {a : Array α} {x : α} (h : a.toList = [x]) : a = #[x] := by
  cases a; simp_all
theorem quiet_sound {P : Program} {t : Fr} {o : Oper} {k : Value → Prop} (h : quietR P t o.op k) : YldN P (execOp (ev t) o) k := by
  obtain ⟨dst, op, type, pos, after, guard⟩ := o
  unfold execOp
  cases op with
  | move x => exact ⟨_, SV.pure _, h⟩
  | assign x => exact ⟨_, SV.pure _, h⟩
  | pick c a b =>
    have h' : pickR (ev t c) (ev t a) (ev t b) k := h
    unfold pickR at h'
    simp only
    split at h' <;> try exact h'.elim
    rename_i x hc
    cases x with
    | true => exact ⟨_, by rw [hc]; exact SV.ok rfl, h'⟩
    | false => exact ⟨_, by rw [hc]; exact SV.ok rfl, h'⟩
  | unOp o _ x => exact (unR_sound h).next
  | binOp o T x y _ => exact (binS_sound h).next
  | nilCheck x =>
    have h' : nilckR (ev t x) k := h
    unfold nilckR at h'
    simp only
    split at h' <;> try exact h'.elim
    · rename_i q hx
      unfold someR at h'
      split at h' <;> try exact h'.elim
      rw [hx]; exact ⟨_, SV.ok rfl, h'⟩
    · rename_i hx; rw [hx]; exact ⟨_, SV.ok rfl, h'⟩
    · rename_i hx; rw [hx]; exact ⟨_, SV.ok rfl, h'⟩
  | fieldAddr s x f => exact (fldR_sound h).next
  | field s x f => exact (fieldR_sound h).next
  | indexAddr T x i => exact (ixaR_sound h).next
  | index T x i => exact (ixR_sound h).next
  | slice T x lo hi mx => simp only [optV_eq]; exact (sliR_sound h).next
  | extract x i => exact (extR_sound h).next
  | convert src dst x => exact (cvtR_sound h).next
  | makeFunc fn a b => simp only [args_eq]; exact ⟨_, SV.bind (SV.ok rfl) (SV.pure _), h⟩
  | makeInterface T x =>
    have h' : mkiR P T (ev t x) k := h
    unfold mkiR at h'
    split at h' <;> try exact h'.elim
    rename_i d hd hu
    refine ⟨_, SV.bind (v := .iface T (ev t x)) ?_ (SV.pure _), h'⟩
    unfold Instr.makeInterface
    refine SV.bind (SV.underlying hu) ?_
    cases d <;> first | exact SV.ok rfl | exact absurd rfl (hd _)
  | build T parts =>
    have h' : buildR P T (partsL t parts.toList) k := h
    refine (buildR_sound (P := P) (parts := parts.map fun p => (p.1, ev t p.2)) ?_).next
    rw [Array.toList_map, partsL_eq]; exact h'
  | call c =>
    obtain ⟨callee, args, argTypes⟩ := c
    cases callee with
    | builtin b =>
      cases b with
      | len =>
        simp only [quietR] at h
        split at h <;> try exact h.elim
        rename_i T x hT hx
        rw [singleton_of_toList hT, singleton_of_toList hx]
        have e : (#[x] : Array Operand).map (ev t) = #[ev t x] := by simp
        refine Yld.next (?_ : Yld P (Builtin.len_ #[T] type ((#[x] : Array Operand).map (ev t))) k)
        rw [e]; exact lenR_sound h
      | cap =>
        simp only [quietR] at h
        split at h <;> try exact h.elim
        rename_i T x hT hx
        rw [singleton_of_toList hT, singleton_of_toList hx]
        have e : (#[x] : Array Operand).map (ev t) = #[ev t x] := by simp
        refine Yld.next (?_ : Yld P (Builtin.cap_ #[T] type ((#[x] : Array Operand).map (ev t))) k)
        rw [e]; exact capR_sound h
      | max =>
        refine Yld.next (?_ : Yld P (Builtin.max_ _ _ (args.map (ev t))) _)
        rw [args_eq]; exact maxR_sound h
      | min =>
        refine Yld.next (?_ : Yld P (Builtin.min_ _ _ (args.map (ev t))) _)
        rw [args_eq]; exact minR_sound h
      | _ => exact h.elim
    | _ => exact h.elim
  | _ => exact h.elim
end Go.Proofs.YtggflkjdgcdcmaaGreatDoor.Eng
