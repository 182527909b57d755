/- The engine, second text: the other quiet operations. -/
import Derived.Test.YtggflkjdgcdcmaaGreatDoorEngQ
import Derived.Laws.StructEq
namespace Go.Proofs.YtggflkjdgcdcmaaGreatDoor.Eng
open Go Go.RowKit
set_option linter.unusedVariables false
set_option linter.unusedSimpArgs false
def someR (q : Option Addr) (k : Addr → Prop) : Prop :=
  match q with
  | some a => k a
  | none => False
def szOf (P : Program) (T : TypeId) : Option Nat := (P.info? T).map (fun i => i.size)
theorem szOf_SV {P : Program} {T : TypeId} {n : Nat} (h : szOf P T = some n) : SV P (sizeOf T) n := by
  unfold szOf at h
  cases hi : P.info? T with
  | none => rw [hi] at h; cases h
  | some d => rw [hi] at h; simp at h; subst h; exact SV.sizeOf hi
def aggD : Option TypeDesc → Bool
  | some (.struct _) => true
  | some (.array _ _) => true
  | _ => false
theorem isAgg_SV {P : Program} {T : TypeId} {d : TypeDesc} (h : P.underlying T = some d) : SV P (isAgg T) (aggD (some d)) := by
  unfold isAgg
  refine SV.bind (SV.underlying h) ?_
  cases d <;> exact SV.pure _
def unR (op : UnOp) (x : Value) (k : Value → Prop) : Prop :=
  match op, x with
  | .neg, .int kd n => k (.int kd (kd.wrap (0 - n)))
  | .xor, .int kd n => k (.int kd (Go.bits .xor kd (if kd.signed then -1 else kd.max) n))
  | .not, .bool b => k (.bool (!b))
  | _, _ => False
theorem unR_sound {P : Program} {op : UnOp} {x : Value} {k : Value → Prop} (h : unR op x k) : Yld P (Op.unary op x) k := by
  unfold unR at h
  split at h
  · exact Yld.pure _ (by simp [Op.unary, Op.intArith]) h
  · exact Yld.pure _ (by simp [Op.unary, Op.intBits, Go.bits]) h
  · exact Yld.pure _ (by simp [Op.unary]) h
  · exact h.elim
def nilckR (x : Value) (k : Value → Prop) : Prop :=
  match x with
  | .pointer q => someR q (fun a => k (.pointer (some a)))
  | .func (.func f) a b => k (.func (.func f) a b)
  | .func (.yield l) a b => k (.func (.yield l) a b)
  | _ => False
def fldR (P : Program) (s : TypeId) (x : Value) (f : Nat) (k : Value → Prop) : Prop :=
  match P.underlying s with
  | some (.struct fs) => (match fs.toList[f]? with
    | some fd => (match szOf P fd.type with
      | some (n + 1) => (match x with
        | .pointer q => someR q (fun a => k (.pointer (some (a.add fd.offset))))
        | _ => False)
      | _ => False)
    | none => False)
  | _ => False
theorem fldR_sound {P : Program} {s : TypeId} {x : Value} {f : Nat} {k : Value → Prop} (h : fldR P s x f k) : Yld P (Instr.fieldAt s x f) k := by
  unfold fldR at h
  split at h <;> try exact h.elim
  rename_i fs hs
  split at h <;> try exact h.elim
  rename_i fd hf
  split at h <;> try exact h.elim
  rename_i n hz
  split at h <;> try exact h.elim
  rename_i q
  unfold someR at h
  split at h <;> try exact h.elim
  rename_i a
  refine ⟨_, ?_, h⟩
  unfold Instr.fieldAt
  refine SV.bind (SV.underlying hs) ?_
  simp only [Array.getElem?_toList] at hf
  simp only [hf, Instr.sureAddr]
  refine SV.bind (SV.pure a) ?_
  refine SV.bind (v := a.add fd.offset) ?_ (SV.pure _)
  unfold fieldPlace
  refine SV.bind (szOf_SV hz) ?_
  exact SV.ok rfl
/-- A part of a value of several cells. -/
def partR (P : Program) (T : TypeId) (cs : List Value) (off : Nat) (k : Value → Prop) : Prop :=
  match P.underlying T with
  | some d => (match aggD (some d) with
    | true => (match szOf P T with
      | some n => k (.agg ((cs.drop off).take n).toArray)
      | none => False)
    | false => (match cs[off]? with
      | some v => k v
      | none => False))
  | none => False
theorem partR_sound {P : Program} {T : TypeId} {cs : Array Value} {off : Nat} {k : Value → Prop} (h : partR P T cs.toList off k) : Yld P (part T cs off) k := by
  unfold partR at h
  split at h <;> try exact h.elim
  rename_i d hd
  split at h
  · rename_i ha
    split at h <;> try exact h.elim
    rename_i n hn
    refine ⟨_, ?_, h⟩
    unfold part
    refine SV.bind (isAgg_SV hd) ?_
    simp only [ha, if_true]
    refine SV.bind (szOf_SV hn) (SV.ok ?_)
    congr 2
    apply Array.toList_inj.1
    simp [List.take_drop]
  · rename_i ha
    split at h <;> try exact h.elim
    rename_i v hv
    refine ⟨_, ?_, h⟩
    unfold part
    refine SV.bind (isAgg_SV hd) ?_
    simp only [Array.getElem?_toList] at hv
    simp only [ha, hv]
    exact SV.ok rfl
def fieldR (P : Program) (s : TypeId) (x : Value) (f : Nat) (k : Value → Prop) : Prop :=
  match P.underlying s with
  | some (.struct fs) => (match fs.toList[f]? with
    | some fd => (match x with
      | .agg cs => partR P fd.type cs.toList fd.offset k
      | _ => False)
    | none => False)
  | _ => False
theorem fieldR_sound {P : Program} {s : TypeId} {x : Value} {f : Nat} {k : Value → Prop} (h : fieldR P s x f k) : Yld P (Instr.field s x f) k := by
  unfold fieldR at h
  split at h <;> try exact h.elim
  rename_i fs hs
  split at h <;> try exact h.elim
  rename_i fd hf
  split at h <;> try exact h.elim
  rename_i cs
  obtain ⟨v, hv, hk⟩ := partR_sound h
  refine ⟨v, ?_, hk⟩
  unfold Instr.field
  refine SV.bind (SV.underlying hs) ?_
  simp only [Array.getElem?_toList] at hf
  simp only [hf, asAgg]
  exact SV.bind (SV.pure cs) hv
/-- The address of an element: of a slice, or of an array. -/
def ixaR (P : Program) (T : TypeId) (x i : Value) (k : Value → Prop) : Prop :=
  match i with
  | .int kd n => (match P.underlying T with
    | some (.slice e) => (match szOf P e with
      | some z => (match x with
        | .slice q len cap => 0 ≤ n ∧ n < len ∧ someR q (fun a => k (.pointer (some (a.add (n.toNat * z)))))
        | _ => False)
      | none => False)
    | some (.array len e) => (match szOf P e with
      | some z => (match x with
        | .pointer q => 0 ≤ n ∧ n < len ∧ someR q (fun a => k (.pointer (some (a.add (n.toNat * z)))))
        | _ => False)
      | none => False)
    | _ => False)
  | _ => False
theorem ixaR_sound {P : Program} {T : TypeId} {x i : Value} {k : Value → Prop} (h : ixaR P T x i k) : Yld P (Instr.indexAt T x i) k := by
  unfold ixaR at h
  split at h <;> try exact h.elim
  rename_i kd n
  split at h <;> try exact h.elim
  · rename_i e hT
    split at h <;> try exact h.elim
    rename_i z hz
    split at h <;> try exact h.elim
    rename_i q len cap
    obtain ⟨h0, h1, h⟩ := h
    unfold someR at h
    split at h <;> try exact h.elim
    rename_i a
    refine ⟨_, ?_, h⟩
    unfold Instr.indexAt
    refine SV.bind (v := (kd, n)) (SV.ok rfl) ?_
    refine SV.bind (SV.underlying hT) ?_
    refine SV.bind (v := (some a, len, e)) (SV.pure _) ?_
    refine SV.bind (SV.underlying hT) ?_
    simp only [h0, h1, and_self, if_true]
    exact SV.bind (szOf_SV hz) (SV.pure _)
  · rename_i len e hT
    split at h <;> try exact h.elim
    rename_i z hz
    split at h <;> try exact h.elim
    rename_i q
    obtain ⟨h0, h1, h⟩ := h
    unfold someR at h
    split at h <;> try exact h.elim
    rename_i a
    refine ⟨_, ?_, h⟩
    unfold Instr.indexAt
    refine SV.bind (v := (kd, n)) (SV.ok rfl) ?_
    refine SV.bind (SV.underlying hT) ?_
    refine SV.bind (v := a) (SV.pure a) ?_
    refine SV.bind (v := (some a, len, e)) (SV.pure _) ?_
    refine SV.bind (SV.underlying hT) ?_
    simp only [h0, h1, and_self, if_true]
    exact SV.bind (szOf_SV hz) (SV.pure _)
/-- Each place by itself. -/
def allIx (f : Nat → Prop) : Nat → Prop
  | 0 => True
  | m + 1 => allIx f m ∧ f m
theorem allIx_get {f : Nat → Prop} : ∀ {m j : Nat}, allIx f m → j < m → f j
  | 0, j, _, hj => absurd hj (Nat.not_lt_zero _)
  | m + 1, j, h, hj => by
    rcases Nat.lt_or_ge j m with h1 | h1
    · exact allIx_get h.1 h1
    · obtain rfl : j = m := by omega
      exact h.2
/-- An element of a string, or of an array by value (of one of several cells: place by place). -/
def ixR (P : Program) (T : TypeId) (x i : Value) (k : Value → Prop) : Prop :=
  match i with
  | .int kd n => (match P.underlying T with
    | some .string => (match x with
      | .string s => 0 ≤ n ∧ ∃ b, s.data.toList[n.toNat]? = some b ∧ k (.int .u8 b.toNat)
      | _ => False)
    | some (.array len e) => (match szOf P e with
      | some z => (match x with
        | .agg cs => 0 ≤ n ∧ n < len ∧ (match Nat.beq z 1 with
          | true => (match P.underlying e with
            | some (.int kd2) => ∃ m : Int, cs.toList[n.toNat]? = some (.int kd2 m) ∧ k (.int kd2 m)
            | some (.pointer _) => ∃ p : Option Addr, cs.toList[n.toNat]? = some (.pointer p) ∧ k (.pointer p)
            | _ => partR P e cs.toList (n.toNat * z) k)
          | false => allIx (fun j => n = (j : Int) → partR P e cs.toList (j * z) k) len)
        | _ => False)
      | none => False)
    | _ => False)
  | _ => False
theorem getElem?_str (s : ByteArray) (i : Nat) : s[i]? = s.data.toList[i]? := by
  simp only [Array.getElem?_toList]
  rcases Nat.lt_or_ge i s.size with h | h
  · rw [getElem?_pos s i h, getElem?_pos s.data i h]; rfl
  · rw [getElem?_neg s i (by omega), getElem?_neg s.data i (by simpa using h)]
theorem ixR_sound {P : Program} {T : TypeId} {x i : Value} {k : Value → Prop} (h : ixR P T x i k) : Yld P (Instr.index T x i) k := by
  unfold ixR at h
  split at h <;> try exact h.elim
  rename_i kd n
  split at h <;> try exact h.elim
  · rename_i hT
    split at h <;> try exact h.elim
    rename_i s
    obtain ⟨h0, b, hb, h⟩ := h
    refine ⟨_, ?_, h⟩
    unfold Instr.index
    refine SV.bind (v := (kd, n)) (SV.ok rfl) ?_
    refine SV.bind (SV.underlying hT) ?_
    rw [← getElem?_str] at hb
    simp only [h0, if_true, hb]
    exact SV.pure _
  · rename_i len e hT
    split at h <;> try exact h.elim
    rename_i z hz
    split at h <;> try exact h.elim
    rename_i cs
    obtain ⟨h0, h1, h⟩ := h
    have h : partR P e cs.toList (n.toNat * z) k := by
      split at h
      · rename_i hz1
        obtain rfl := Nat.eq_of_beq_eq_true hz1
        split at h
        · rename_i kd2 hd2
          obtain ⟨m, hm, hk⟩ := h
          unfold partR
          rw [hd2]
          show (match aggD (some (.int kd2)) with
            | true => (match szOf P e with
              | some n2 => k (.agg ((cs.toList.drop (n.toNat * 1)).take n2).toArray)
              | none => False)
            | false => (match cs.toList[n.toNat * 1]? with
              | some v => k v
              | none => False))
          rw [Nat.mul_one, hm]
          exact hk
        · rename_i e2 hd2
          obtain ⟨m, hm, hk⟩ := h
          unfold partR
          rw [hd2]
          show (match aggD (some (.pointer e2)) with
            | true => (match szOf P e with
              | some n2 => k (.agg ((cs.toList.drop (n.toNat * 1)).take n2).toArray)
              | none => False)
            | false => (match cs.toList[n.toNat * 1]? with
              | some v => k v
              | none => False))
          rw [Nat.mul_one, hm]
          exact hk
        · exact h
      · exact allIx_get h (j := n.toNat) (by omega) (by omega)
    obtain ⟨v, hv, hk⟩ := partR_sound h
    refine ⟨v, ?_, hk⟩
    unfold Instr.index
    refine SV.bind (v := (kd, n)) (SV.ok rfl) ?_
    refine SV.bind (SV.underlying hT) ?_
    simp only [h0, h1, and_self, if_true]
    exact SV.bind (szOf_SV hz) hv
/-- A piece of a slice: where it begins. -/
def slcA (q : Option Addr) (l m z : Nat) : Option Addr := if m = l then q else q.map (fun a => a.add (l * z))
def bndR (v : Option Value) (dflt y : Nat) (k : Nat → Prop) : Prop :=
  match v with
  | none => k dflt
  | some (.int _ i) => 0 ≤ i ∧ i ≤ y ∧ k i.toNat
  | _ => False
def bndsR (len cap : Nat) (lo hi mx : Option Value) (k : Nat → Nat → Nat → Prop) : Prop :=
  match mx, hi with
  | some _, none => False
  | _, _ => bndR mx cap cap (fun m => bndR hi len m (fun h => bndR lo 0 h (fun l => k l h m)))
def sliR (P : Program) (T : TypeId) (x : Value) (lo hi mx : Option Value) (k : Value → Prop) : Prop :=
  match P.underlying T with
  | some (.slice e) => (match szOf P e with
    | some z => (match x with
      | .slice q len cap => bndsR len cap lo hi mx (fun l h m => k (.slice (slcA q l m z) (h - l) (m - l)))
      | _ => False)
    | none => False)
  | some (.array n e) => (match szOf P e with
    | some z => (match x with
      | .pointer q => someR q (fun a => bndsR n n lo hi mx (fun l h m => k (.slice (slcA (some a) l m z) (h - l) (m - l))))
      | _ => False)
    | none => False)
  | some .string => (match x, mx with
    | .string s, none => bndsR s.size s.size lo hi none (fun l h _ => k (.string (s.extract l h)))
    | _, _ => False)
  | _ => False
theorem bound_SV {P : Program} {kd : IntKind} {i : Int} {y : Nat} {code : BoundsCode} (h0 : 0 ≤ i) (h1 : i ≤ y) : SV P (Instr.sliceBound (.int kd i) y code) i.toNat := by
  unfold Instr.sliceBound
  refine SV.bind (v := (kd, i)) (SV.ok rfl) ?_
  simp only [h0, h1, and_self, if_true]
  exact SV.pure _
theorem bnds_SV {P : Program} {isS : Bool} {len cap : Nat} {lo hi mx : Option Value} {k : Nat → Nat → Nat → Prop} (h : bndsR len cap lo hi mx k) :
    ∃ l h m, SV P (Instr.sliceBounds isS len cap lo hi mx) (l, h, m) ∧ k l h m := by
  have key : ∀ (v : Value) (d y : Nat) (code : BoundsCode) (k : Nat → Prop), bndR (some v) d y k → ∃ n, SV P (Instr.sliceBound v y code) n ∧ k n := by
    intro v d y code k h
    match v, h with
    | .int kd i, ⟨h0, h1, h⟩ => exact ⟨_, bound_SV h0 h1, h⟩
  unfold Instr.sliceBounds
  unfold bndsR at h
  cases mx with
  | none =>
    cases hi with
    | none =>
      cases lo with
      | none => exact ⟨0, len, cap, SV.bind (SV.pure cap) (SV.bind (SV.pure len) (SV.bind (SV.pure 0) (SV.pure _))), h⟩
      | some u =>
        have h' : bndR (some u) 0 len (fun l => k l len cap) := h
        obtain ⟨l, hl, h⟩ := key u 0 len .sliceB _ h'
        exact ⟨l, len, cap, SV.bind (SV.pure cap) (SV.bind (SV.pure len) (SV.bind hl (SV.pure _))), h⟩
    | some v =>
      have h' : bndR (some v) len cap (fun h => bndR lo 0 h fun l => k l h cap) := h
      obtain ⟨hh, hh', h⟩ := key v len cap (if isS then .sliceAcap else .sliceAlen) _ h'
      cases lo with
      | none => exact ⟨0, hh, cap, SV.bind (SV.pure cap) (SV.bind hh' (SV.bind (SV.pure 0) (SV.pure _))), h⟩
      | some u =>
        obtain ⟨l, hl, h⟩ := key u 0 hh .sliceB _ h
        exact ⟨l, hh, cap, SV.bind (SV.pure cap) (SV.bind hh' (SV.bind hl (SV.pure _))), h⟩
  | some x =>
    cases hi with
    | none => exact h.elim
    | some v =>
      have h' : bndR (some x) cap cap (fun m => bndR (some v) len m fun h => bndR lo 0 h fun l => k l h m) := h
      obtain ⟨m, hm, h⟩ := key x cap cap (if isS then .slice3Acap else .slice3Alen) _ h'
      obtain ⟨hh, hh', h⟩ := key v len m .slice3B _ h
      cases lo with
      | none => exact ⟨0, hh, m, SV.bind hm (SV.bind hh' (SV.bind (SV.pure 0) (SV.pure _))), h⟩
      | some u =>
        obtain ⟨l, hl, h⟩ := key u 0 hh .slice3C _ h
        exact ⟨l, hh, m, SV.bind hm (SV.bind hh' (SV.bind hl (SV.pure _))), h⟩
theorem sliR_sound {P : Program} {T : TypeId} {x : Value} {lo hi mx : Option Value} {k : Value → Prop} (h : sliR P T x lo hi mx k) : Yld P (Instr.sliceAt T x lo hi mx) k := by
  unfold sliR at h
  split at h <;> try exact h.elim
  · rename_i e hT
    split at h <;> try exact h.elim
    rename_i z hz
    split at h <;> try exact h.elim
    rename_i q len cap
    obtain ⟨l, hh, m, hb, h⟩ := bnds_SV (P := P) (isS := true) h
    refine ⟨_, ?_, h⟩
    unfold Instr.sliceAt
    refine SV.bind (SV.underlying hT) ?_
    show SV P (Instr.slice T _ lo hi mx) _
    unfold Instr.slice
    refine SV.bind (SV.underlying hT) ?_
    exact SV.bind hb (SV.bind (szOf_SV hz) (SV.ok rfl))
  · rename_i n e hT
    split at h <;> try exact h.elim
    rename_i z hz
    split at h <;> try exact h.elim
    rename_i q
    unfold someR at h
    split at h <;> try exact h.elim
    rename_i a
    obtain ⟨l, hh, m, hb, h⟩ := bnds_SV (P := P) (isS := false) h
    refine ⟨_, ?_, h⟩
    unfold Instr.sliceAt
    refine SV.bind (SV.underlying hT) ?_
    refine SV.bind (v := a) (SV.pure a) ?_
    refine SV.bind hb (SV.bind (szOf_SV hz) (SV.ok ?_))
    unfold slcA
    split <;> rfl
  · rename_i hT
    split at h <;> try exact h.elim
    rename_i s
    obtain ⟨l, hh, m, hb, h⟩ := bnds_SV (P := P) (isS := false) h
    refine ⟨_, ?_, h⟩
    unfold Instr.sliceAt
    refine SV.bind (SV.underlying hT) ?_
    show SV P (Instr.slice T _ lo hi none) _
    unfold Instr.slice
    refine SV.bind (SV.underlying hT) ?_
    exact SV.bind hb (SV.ok rfl)
def cvtR (P : Program) (src dst : TypeId) (x : Value) (k : Value → Prop) : Prop :=
  match P.underlying src with
  | some _ => (match P.underlying dst with
    | some (.int kd) => (match x with | .int _ n => k (.int kd (kd.wrap n)) | _ => False)
    | some .string => (match x with | .string s => k (.string s) | _ => False)
    | _ => False)
  | none => False
theorem cvtR_sound {P : Program} {src dst : TypeId} {x : Value} {k : Value → Prop} (h : cvtR P src dst x k) : Yld P (convert src dst x) k := by
  unfold cvtR at h
  split at h <;> try exact h.elim
  rename_i d hs
  split at h <;> try exact h.elim
  · rename_i kd hd
    split at h <;> try exact h.elim
    refine ⟨_, ?_, h⟩
    unfold convert
    refine SV.bind (SV.underlying hs) (SV.bind (SV.underlying hd) ?_)
    exact SV.ok rfl
  · rename_i hd
    split at h <;> try exact h.elim
    refine ⟨_, ?_, h⟩
    unfold convert
    refine SV.bind (SV.underlying hs) (SV.bind (SV.underlying hd) ?_)
    exact SV.ok rfl
def extR (x : Value) (i : Nat) (k : Value → Prop) : Prop :=
  match x with
  | .tuple vs => (match vs.toList[i]? with | some v => k v | none => False)
  | _ => False
theorem extR_sound {P : Program} {x : Value} {i : Nat} {k : Value → Prop} (h : extR x i k) : Yld P (Instr.extract x i) k := by
  unfold extR at h
  split at h <;> try exact h.elim
  split at h <;> try exact h.elim
  rename_i v hv
  simp only [Array.getElem?_toList] at hv
  exact Yld.pure v (by simp [Instr.extract, hv]) h
def lenR (P : Program) (T : TypeId) (x : Value) (k : Value → Prop) : Prop :=
  match P.underlying T with
  | some .string => (match x with | .string s => k (.int .i64 s.size) | _ => False)
  | some (.slice _) => (match x with | .slice _ n _ => k (.int .i64 n) | _ => False)
  | some (.array n _) => k (.int .i64 n)
  | _ => False
theorem lenR_sound {P : Program} {T T' : TypeId} {x : Value} {k : Value → Prop} (h : lenR P T x k) : Yld P (Builtin.len_ #[T] T' #[x]) k := by
  unfold lenR at h
  split at h <;> try exact h.elim
  · rename_i hT
    split at h <;> try exact h.elim
    refine ⟨_, ?_, h⟩
    unfold Builtin.len_
    exact SV.bind (SV.underlying hT) (SV.ok rfl)
  · rename_i hT
    split at h <;> try exact h.elim
    refine ⟨_, ?_, h⟩
    unfold Builtin.len_
    exact SV.bind (SV.underlying hT) (SV.ok rfl)
  · rename_i hT
    refine ⟨_, ?_, h⟩
    unfold Builtin.len_
    exact SV.bind (SV.underlying hT) (SV.ok (by cases x <;> rfl))
def capR (P : Program) (T : TypeId) (x : Value) (k : Value → Prop) : Prop :=
  match P.underlying T with
  | some (.slice _) => (match x with | .slice _ _ n => k (.int .i64 n) | _ => False)
  | _ => False
theorem capR_sound {P : Program} {T T' : TypeId} {x : Value} {k : Value → Prop} (h : capR P T x k) : Yld P (Builtin.cap_ #[T] T' #[x]) k := by
  unfold capR at h
  split at h <;> try exact h.elim
  · rename_i hT
    split at h <;> try exact h.elim
    refine ⟨_, ?_, h⟩
    unfold Builtin.cap_
    exact SV.bind (SV.underlying hT) (SV.ok rfl)
def maxI (a b : Int) : Int := if b > a then b else a
def minI (a b : Int) : Int := if b < a then b else a
def foldR (f : Int → Int → Int) : List Value → Value → (Value → Prop) → Prop
  | [], x, k => k x
  | .int _ b :: r, .int kd a, k => foldR f r (.int kd (f a b)) k
  | _, _, _ => False
def mmR (f : Int → Int → Int) (xs : List Value) (k : Value → Prop) : Prop :=
  match xs with
  | x :: r => foldR f r x k
  | [] => False
theorem max_fold {P : Program} : ∀ (r : List Value) (x : Value) (k : Value → Prop), foldR maxI r x k → Yld P (r.foldlM Builtin.max2 x) k
  | [], x, k, h => ⟨x, SV.pure x, h⟩
  | .int _ b :: r, .int kd a, k, h => by
    obtain ⟨v, hv, hk⟩ := max_fold r _ k h
    exact ⟨v, SV.bind (v := .int kd (maxI a b)) (SV.ok rfl) hv, hk⟩
theorem min_fold {P : Program} : ∀ (r : List Value) (x : Value) (k : Value → Prop), foldR minI r x k → Yld P (r.foldlM Builtin.min2 x) k
  | [], x, k, h => ⟨x, SV.pure x, h⟩
  | .int _ b :: r, .int kd a, k, h => by
    obtain ⟨v, hv, hk⟩ := min_fold r _ k h
    exact ⟨v, SV.bind (v := .int kd (minI a b)) (SV.ok rfl) hv, hk⟩
theorem maxR_sound {P : Program} {Ts : Array TypeId} {T' : TypeId} {xs : List Value} {k : Value → Prop} (h : mmR maxI xs k) : Yld P (Builtin.max_ Ts T' xs.toArray) k := by
  match xs, h with
  | x :: r, h => exact max_fold r x k h
theorem minR_sound {P : Program} {Ts : Array TypeId} {T' : TypeId} {xs : List Value} {k : Value → Prop} (h : mmR minI xs k) : Yld P (Builtin.min_ Ts T' xs.toArray) k := by
  match xs, h with
  | x :: r, h => exact min_fold r x k h
/-! ### Records held against each other -/
def scalE : TypeDesc → List Value → List Value → Option Bool
  | .int k, [.int k1 a], [.int k2 b] => (match decide (k1 = k), decide (k2 = k) with
    | true, true => some (a == b)
    | _, _ => none)
  | .string, [.string a], [.string b] => some (a.toList == b.toList)
  | .bool, [.bool a], [.bool b] => some (a == b)
  | _, _, _ => none
def eqFs (P : Program) (f : TypeId → List Value → List Value → Option Bool) : List Field → List Value → List Value → Option Bool
  | [], _, _ => some true
  | x :: r, xs, ys => match decide (x.name ≠ "_"), szOf P x.type with
    | true, some n => (match f x.type ((xs.drop x.offset).take n) ((ys.drop x.offset).take n) with
      | some a => (match r with
        | [] => some a
        | _ :: _ => (match eqFs P f r xs ys with
          | some b => some (a && b)
          | none => none))
      | none => none)
    | _, _ => none
def eqT (P : Program) : Nat → TypeId → List Value → List Value → Option Bool
  | 0, _, _, _ => none
  | d + 1, t, xs, ys => match P.underlying t with
    | some (.struct fs) => (match P.stoodInHeld t with
      | false => eqFs P (eqT P d) fs.toList xs ys
      | true => none)
    | some ds => scalE ds xs ys
    | none => none
/-- Cells, as a value of a type. -/
def RepV (P : Program) (t : TypeId) (xs : List Value) (x : Value) : Prop := ∃ d, P.underlying t = some d ∧ ((aggD (some d) = true ∧ x = .agg xs.toArray) ∨ (aggD (some d) = false ∧ xs = [x]))
theorem part_rep {P : Program} {t : TypeId} {d : TypeDesc} {cs : Array Value} {off n : Nat} {xs : List Value} {x : Value} (hd : P.underlying t = some d) (hn : szOf P t = some n) (hxs : (cs.toList.drop off).take n = xs) (hr : RepV P t xs x) : SV P (part t cs off) x := by
  obtain ⟨d', hd', hr⟩ := hr
  rw [hd] at hd'; cases hd'
  unfold part
  refine SV.bind (isAgg_SV hd) ?_
  rcases hr with ⟨ha, rfl⟩ | ⟨ha, rfl⟩
  · rw [ha]
    simp only [if_true]
    refine SV.bind (szOf_SV hn) (SV.ok ?_)
    congr 2
    subst hxs
    apply Array.toList_inj.1
    simp [Array.toList_extract]
  · rw [ha]
    have h0 : (cs.toList.drop off)[0]? = some x := by
      have h1 := congrArg (·[0]?) hxs
      simp only [List.getElem?_take, List.getElem?_cons_zero] at h1
      split at h1
      · exact h1
      · cases h1
    have h2 : cs[off]? = some x := by
      rw [List.getElem?_drop] at h0
      simpa using h0
    simp only [Bool.false_eq_true, if_false, h2]
    exact SV.pure _
theorem scalE_sound {P : Program} {d : Nat} {t : TypeId} {ds : TypeDesc} {xs ys : List Value} {x y : Value} {b : Bool} (hd : P.underlying t = some ds) (h : scalE ds xs ys = some b) (hx : RepV P t xs x) (hy : RepV P t ys y) : SV P (Op.equalIn (d + 1) t x y) b := by
  obtain ⟨d1, e1, hx⟩ := hx
  obtain ⟨d2, e2, hy⟩ := hy
  rw [hd] at e1 e2; cases e1; cases e2
  unfold scalE at h
  split at h
  · split at h <;> try cases h
    rename_i h1 h2
    have h1 := of_decide_eq_true h1
    have h2 := of_decide_eq_true h2
    subst h1 h2
    rcases hx with ⟨ha, _⟩ | ⟨_, hx⟩
    · cases ha
    rcases hy with ⟨ha, _⟩ | ⟨_, hy⟩
    · cases ha
    cases hx; cases hy
    exact fun w => run_equalIn_int w d t _ _ _ _ hd
  · cases h
    rcases hx with ⟨ha, _⟩ | ⟨_, hx⟩
    · cases ha
    rcases hy with ⟨ha, _⟩ | ⟨_, hy⟩
    · cases ha
    cases hx; cases hy
    exact fun w => run_equalIn_string w d t _ _ hd
  · cases h
    rcases hx with ⟨ha, _⟩ | ⟨_, hx⟩
    · cases ha
    rcases hy with ⟨ha, _⟩ | ⟨_, hy⟩
    · cases ha
    cases hx; cases hy
    exact fun w => run_equalIn_bool' w d t _ _ hd
  · cases h
def EqOk (P : Program) (d : Nat) (f : TypeId → List Value → List Value → Option Bool) : Prop :=
  ∀ (t : TypeId) (xs ys : List Value) (b : Bool), f t xs ys = some b → ∀ x y, RepV P t xs x → RepV P t ys y → SV P (Op.equalIn d t x y) b
theorem eqT_under {P : Program} {d : Nat} {t : TypeId} {xs ys : List Value} {b : Bool} (h : eqT P d t xs ys = some b) : ∃ ds, P.underlying t = some ds ∧ (aggD (some ds) = false → ∃ x y, xs = [x] ∧ ys = [y]) := by
  cases d with
  | zero => cases h
  | succ d =>
    unfold eqT at h
    split at h
    · rename_i fs hu; exact ⟨_, hu, fun ha => (by cases ha)⟩
    · rename_i ds hn hu
      refine ⟨_, hu, fun _ => ?_⟩
      unfold scalE at h
      split at h <;> first | exact ⟨_, _, rfl, rfl⟩ | cases h
    · cases h
theorem eqFs_sound {P : Program} {d n : Nat} (hok : EqOk P d (eqT P n)) {xs ys : Array Value} : ∀ (fs : List Field) (b : Bool), eqFs P (eqT P n) fs xs.toList ys.toList = some b → SV P (Op.eqFields d xs ys fs) b
  | [], b, h => by cases h; exact SV.pure _
  | x :: r, b, h => by
    unfold eqFs at h
    split at h
    · rename_i m hnm hm
      have hnm := of_decide_eq_true hnm
      split at h
      · rename_i a ha
        obtain ⟨ds, hds, hsc⟩ := eqT_under ha
        have key : ∀ (cs : Array Value) (us : List Value), us = (cs.toList.drop x.offset).take m → (aggD (some ds) = false → ∃ v, us = [v]) → ∃ v, RepV P x.type us v ∧ SV P (part x.type cs x.offset) v := by
          intro cs us hus hs
          cases hag : aggD (some ds) with
          | true => exact ⟨_, ⟨ds, hds, .inl ⟨hag, rfl⟩⟩, part_rep hds hm hus.symm ⟨ds, hds, .inl ⟨hag, rfl⟩⟩⟩
          | false =>
            obtain ⟨v, hv⟩ := hs hag
            exact ⟨v, ⟨ds, hds, .inr ⟨hag, hv⟩⟩, part_rep hds hm hus.symm ⟨ds, hds, .inr ⟨hag, hv⟩⟩⟩
        obtain ⟨u, hu, pu⟩ := key xs _ rfl (fun hag => by obtain ⟨p, q, hp, _⟩ := hsc hag; exact ⟨p, hp⟩)
        obtain ⟨v, hv, pv⟩ := key ys _ rfl (fun hag => by obtain ⟨p, q, _, hq⟩ := hsc hag; exact ⟨q, hq⟩)
        have he := hok _ _ _ _ ha u v hu hv
        unfold Op.eqFields
        rw [if_pos hnm]
        refine SV.bind pu (SV.bind pv (SV.bind he ?_))
        split at h
        · injection h with h
          subst h
          cases a with
          | true => exact SV.pure _
          | false => exact SV.pure _
        · split at h
          · rename_i z zs c hc
            cases h
            have ih := eqFs_sound hok _ c hc
            cases a with
            | true => simpa using ih
            | false => exact SV.pure _
          · cases h
      · cases h
    · cases h
theorem eqT_ok {P : Program} (k : Nat) : ∀ d : Nat, EqOk P (d + k) (eqT P d)
  | 0 => fun t xs ys b h => by cases h
  | d + 1 => fun t xs ys b h x y hx hy => by
    have e1 : d + 1 + k = (d + k) + 1 := by omega
    rw [e1]
    unfold eqT at h
    split at h
    · rename_i fs hu
      split at h
      · rename_i hs
        obtain ⟨d1, h1, hx⟩ := hx
        obtain ⟨d2, h2, hy⟩ := hy
        rw [hu] at h1 h2; cases h1; cases h2
        rcases hx with ⟨_, rfl⟩ | ⟨ha, _⟩
        · rcases hy with ⟨_, rfl⟩ | ⟨ha, _⟩
          · have hf : P.fieldsOf t = fs := by unfold Program.fieldsOf; rw [hu]
            intro w
            rw [run_equalIn_struct w (d + k) t _ _ (by rw [hf]; exact hu) hs, hf]
            exact eqFs_sound (eqT_ok k d) fs.toList b (by simpa using h) w
          · cases ha
        · cases ha
      · cases h
    · rename_i ds hns hu
      exact scalE_sound hu h hx hy
    · cases h
/-- Records of scalars, which are held against each other here. -/
def eqFsB (f : TypeId → Bool) : List Field → Bool
  | [] => true
  | x :: r => (match f x.type with
    | true => eqFsB f r
    | false => false)
def eqB (P : Program) : Nat → TypeId → Bool
  | 0, _ => false
  | d + 1, t => match P.underlying t with
    | some (.struct fs) => eqFsB (eqB P d) fs.toList
    | some (.int _) => true
    | some .string => true
    | some .bool => true
    | _ => false
def binS (P : Program) (op : BinOp) (T : TypeId) (xo yo : Operand) (x y : Value) (k : Value → Prop) : Prop :=
  match P.underlying T with
  | some (.struct _) => (match x with
    | .agg xs => (match y with
      | .agg ys => (match P.eqGuardType P.depth T with
        | false => (match eqT P 8 T xs.toList ys.toList with
          | some b => eqR op b k
          | none => False)
        | true => False)
      | _ => False)
    | _ => False)
  | _ => binR P op T xo yo x y k
theorem binS_sound {P : Program} {op : BinOp} {T : TypeId} {xo yo : Operand} {x y : Value} {k : Value → Prop} (h : binS P op T xo yo x y k) : Yld P (do eqGuard op T xo yo x y; binOp op T x y) k := by
  unfold binS at h
  split at h
  · rename_i fs hu
    split at h <;> try exact h.elim
    rename_i xs
    split at h <;> try exact h.elim
    rename_i ys
    split at h <;> try exact h.elim
    rename_i hg
    split at h <;> try exact h.elim
    rename_i b hb
    have he : SV P (Op.equal T (.agg xs) (.agg ys)) b := by
      have := eqT_ok (P := P) 9992 8 T xs.toList ys.toList b hb (.agg xs) (.agg ys) ⟨_, hu, .inl ⟨rfl, rfl⟩⟩ ⟨_, hu, .inl ⟨rfl, rfl⟩⟩
      exact this
    obtain ⟨v, hv, hk⟩ := eqR_sound (op := op) rfl rfl he h
    exact ⟨v, SV.bind (fun w => run_eqGuard_agg w op T xo yo xs ys hg) hv, hk⟩
  · exact binR_sound h
end Go.Proofs.YtggflkjdgcdcmaaGreatDoor.Eng
