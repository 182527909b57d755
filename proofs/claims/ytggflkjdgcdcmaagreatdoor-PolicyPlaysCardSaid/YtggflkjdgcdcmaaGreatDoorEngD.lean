/- The engine, fifth text: what acts is carried out by the machine. -/
import Derived.Test.YtggflkjdgcdcmaaGreatDoorEngC
namespace Go.Proofs.YtggflkjdgcdcmaaGreatDoor.Eng
open Go Go.RowKit
set_option linter.unusedVariables false
set_option linter.unusedSimpArgs false
section
variable {P : Program} {D : List Deferred} {y : Bool} {r : Option Nat} {n : Nat} {Q : Exit → Act → World → Prop} {next : Act → World → Prop}
theorem store_run {w : World} {a : Addr} {v : Value} (h1 : v.oneCell' = true) (h2 : ∃ u, w.cell? a = some u) (h3 : w.frozen? a = false) : (store a v).run P w = .ok () (w.setCell a v) := by
  obtain ⟨u, h2⟩ := h2
  rw [run_store P w a v _ h1, h2]
  simp [h3]
theorem cell_set_ex {w : World} {a b : Addr} {v : Value} (h : ∃ u, w.cell? a = some u) : ∃ u, (w.setCell b v).cell? a = some u := by
  obtain ⟨u, hu⟩ := h
  unfold World.cell? World.setCell at *
  simp only [Array.getElem?_modify]
  by_cases hb : b.block = a.block
  · rw [if_pos hb]
    cases ho : w.heap[a.block]? with
    | none => rw [ho] at hu; cases hu
    | some o =>
      rw [ho] at hu
      cases o with
      | cells c e f =>
        simp only [Option.map_some] at hu ⊢
        by_cases hs : a.spot.isSome = true
        · rw [if_pos hs] at hu; cases hu
        · rw [if_neg hs] at hu ⊢
          have hlt : a.off < c.size := (Array.getElem?_eq_some_iff.1 hu).1
          have hl2 : a.off < (if b.spot.isSome = true then c else c.setIfInBounds b.off v).size := by split <;> simpa using hlt
          exact ⟨_, Array.getElem?_eq_getElem hl2⟩
      | _ => cases hu
  · rw [if_neg hb]; exact ⟨u, hu⟩
theorem frozen_set {w : World} {a b : Addr} {v : Value} : (w.setCell b v).frozen? a = w.frozen? a := World.frozen?_setCell _ _ _ _
theorem setCells_run : ∀ (vs : List Value) (a : Addr) (i : Nat) (w : World), (∀ j, j < vs.length → (∃ u, w.cell? (a.add (i + j)) = some u) ∧ w.frozen? (a.add (i + j)) = false) → (∀ v ∈ vs, v.oneCell' = true) →
    (storeCells a vs i).run P w = .ok () (setCells w a i vs)
  | [], a, i, w, _, _ => rfl
  | v :: rest, a, i, w, h, h1 => by
    unfold storeCells setCells
    have h0 := h 0 (by simp)
    rw [Nat.add_zero] at h0
    rw [Sem.run_bind, store_run (h1 v (by simp)) h0.1 h0.2]
    simp only [Result.andThen]
    refine setCells_run rest a (i + 1) _ (fun j hj => ?_) (fun x hx => h1 x (by simp [hx]))
    have := h (j + 1) (by simp; omega)
    rw [show i + 1 + j = i + (j + 1) by omega]
    exact ⟨cell_set_ex this.1, by rw [frozen_set]; exact this.2⟩
theorem StoreR_run {T : TypeId} {m : Nat} {a : Addr} {y : Value} {w : World} {k : World → Prop} (hm : szOf P T = some m) (hl : (cellsL y).length = m) (h : StoreR a (cellsL y) w k) :
    ∃ w', (Instr.storeAt T (.pointer (some a)) y).run P w = .ok () w' ∧ k w' := by
  obtain ⟨h1, h2, h3⟩ := h
  refine ⟨_, ?_, h3⟩
  unfold Instr.storeAt
  rw [Sem.run_bind]
  show (storeVar T a y).run P w = _
  unfold storeVar
  rw [Sem.run_bind, szOf_SV hm w]
  simp only [Result.andThen]
  have e : y.cells.size = m := by rw [← hl, ← cellsL_eq]; simp
  rw [if_neg (by rw [e]; simp), cellsL_eq]
  exact setCells_run _ a 0 w (fun j hj => by simpa using h1 j hj) h2
theorem zero_SV {T : TypeId} {z : List Value} (h : zeroL P T = some z) : ∃ zv, SV P (zeroValue T) zv ∧ cellsL zv = z := by
  obtain ⟨i, zv, hi, hz, he⟩ := zeroL_eq h
  refine ⟨zv, ?_, he⟩
  unfold zeroValue
  refine SV.bind (SV.typeInfo hi) ?_
  rw [hz]
  exact SV.pure _
theorem info_SV {T : TypeId} {b : Nat} (h : bytesOf P T = some b) : ∃ i, SV P (typeInfo T) i ∧ i.bytes = b := by
  unfold bytesOf at h
  cases hi : P.info? T with
  | none => rw [hi] at h; cases h
  | some d => rw [hi] at h; simp at h; exact ⟨d, SV.typeInfo hi, h⟩
theorem nth_getD : ∀ (l : List Value) (i : Nat), i < l.length → nth l i = l[i]!
  | [], i, h => by simp at h
  | a :: l, 0, h => rfl
  | a :: l, n + 1, h => by
    have := nth_getD l n (by simpa using h)
    simp only [nth, this]
    rfl
theorem zrep_eq (z : Array Value) (m : Nat) : (Array.range (m * z.size)).map (fun i => z[i % z.size]!) = (zrep z.toList m).toArray := by
  apply Array.ext'
  simp only [Array.toList_map, Array.toList_range, zrep, Array.length_toList]
  apply List.map_congr_left
  intro i hi
  rw [List.mem_range] at hi
  have hpos : 0 < z.size := by
    rcases Nat.eq_zero_or_pos z.size with h | h
    · rw [h] at hi; simp at hi
    · exact h
  have hlt := Nat.mod_lt i hpos
  rw [nth_getD z.toList _ (by simpa using hlt)]
  simp [hlt]
/-- Zero cells for so many elements, as the machine makes them. -/
theorem zrep_mach {z : List Value} {zv : Value} (h : cellsL zv = z) (m : Nat) : (Array.range (m * z.length)).map (fun i => zv.cells[i % zv.cells.size]!) = (zrep z m).toArray := by
  have e : zv.cells.toList = z := by rw [cellsL_eq, h]
  have e2 : zv.cells.size = z.length := by rw [← e]; simp
  rw [← e2, zrep_eq, e]
theorem wrap_i64_of {n : Int} (h0 : -9223372036854775808 ≤ n) (h1 : n ≤ 9223372036854775807) : IntKind.i64.wrap n = n := by
  rw [IntKind.wrap_i64]; omega
theorem MakeR_run {S e : TypeId} {z : List Value} {m b : Nat} {l c : Int} {kl kc : IntKind} {w : World} {k : Value → World → Prop} (hS : P.underlying S = some (.slice e)) (hz : zeroL P e = some z) (hm : szOf P e = some m) (hb : bytesOf P e = some b) (hl : z.length = m)
    (h : MakeR e z b l c w (fun a w' => k (.slice (some a) l.toNat c.toNat) w')) : ∃ v w', (Instr.makeSlice S (.int kl l) (.int kc c)).run P w = .ok v w' ∧ k v w' := by
  obtain ⟨⟨h0, h1, h2, h3⟩, h4⟩ := h
  obtain ⟨i, hi, rfl⟩ := info_SV hb
  obtain ⟨zv, hzv, hze⟩ := zero_SV hz
  refine ⟨_, _, ?_, h4⟩
  unfold Instr.makeSlice
  rw [Sem.run_bind, SV.underlying hS w]
  simp only [Result.andThen]
  rw [Sem.run_bind]
  show ((do _ : Sem Value)).run P w = _
  simp only [asInt, asIntOf, pure_bind]
  rw [Sem.run_bind, hi w]
  simp only [Result.andThen, wrap_i64_of (n := c) (by omega) h2, wrap_i64_of (n := l) (by omega) (by omega)]
  rw [if_neg (by simp; omega)]
  rw [Sem.run_bind]
  have hask : (askRoom (c.toNat * i.bytes)).run P w = .ok () w := by unfold askRoom; split <;> rfl
  rw [hask]
  simp only [Result.andThen]
  rw [Sem.run_bind, szOf_SV hm w]
  simp only [Result.andThen]
  subst hl
  by_cases hn : c.toNat * z.length = 0
  · simp only [hn, if_true]
    have e0 : zrep z c.toNat = [] := by simp [zrep, hn]
    rw [e0, show Array.range 0 = #[] from rfl, Array.map_empty]
    rfl
  · simp only [hn, if_false]
    rw [Sem.run_bind, hzv w]
    simp only [Result.andThen]
    have e := zrep_mach hze c.toNat
    rw [← e]
    rfl
/-- What an operation that acts comes to. -/
inductive Out (P : Program) (y : Bool) (s : Sem Next) (w : World) (k : Value → World → Prop) : Prop
  | value (v : Value) (w' : World) (h : s.run P w = .ok (.value v) w') (hk : k v w')
  | skip (w' : World) (h : s.run P w = .ok .skip w') (hk : k undef w')
  | enter (f : FuncId) (args : Array Value) (h : s.run P w = .ok (.enter f args) w) (hk : Rets P f args w k)
  | round (hy : y = true) (l fn : Nat) (tmps : Array Value) (assign body : Code) (h : s.run P w = .ok (.round l fn tmps assign body) w) (hk : RoundIn Fence.wide 0 P l fn tmps assign body w fun e w' => match e with
    | .returned v => k v w'
    | _ => False)
theorem Out.ofV {s : Sem Value} {w : World} {k : Value → World → Prop} {v : Value} {w' : World} (h : s.run P w = .ok v w') (hk : k v w') : Out P y (s >>= fun x => (Pure.pure (Next.value x) : Sem Next)) w k :=
  .value v w' (by rw [Sem.run_bind, h]; rfl) hk
theorem Out.ofU {s : Sem Unit} {w : World} {k : Value → World → Prop} {w' : World} (h : s.run P w = .ok () w') (hk : k undef w') : Out P y (s >>= fun _ => (Pure.pure Next.skip : Sem Next)) w k :=
  .skip w' (by rw [Sem.run_bind, h]; rfl) hk
theorem Out.ofR {s : Sem Value} {w : World} {k : Value → World → Prop} {T : TypeId} (h : RunR P s w (fun v w' => TyR P T v (fun u => k u w'))) : Out P y (s >>= fun x => (Pure.pure (Next.value x) : Sem Next)) w k := by
  obtain ⟨v, w', h, hk⟩ := h
  exact .ofV h hk.out
theorem Out.ofRU {s : Sem Unit} {w : World} {k : Value → World → Prop} (h : RunU P s w (fun w' => k undef w')) : Out P y (s >>= fun _ => (Pure.pure Next.skip : Sem Next)) w k := by
  obtain ⟨w', h, hk⟩ := h
  exact .ofU h hk
theorem Rets.mono {f : FuncId} {args : Array Value} {w : World} {k k' : Value → World → Prop} (h : Rets P f args w k) (hk : ∀ v w', k v w' → k' v w') : Rets P f args w k' :=
  Calls.mono h fun e w' he => by
    cases e with
    | returned v => exact hk v w' he
    | panicked c => exact he
    | outgrown => exact he
theorem callW_out (hP : Plain P) {T : TypeId} {fo : Operand} {argOs : Array Operand} {ats : Array TypeId} {t : Fr} {o : Oper} {w : World} {k : Value → World → Prop} (ho : o.op = .call { callee := .value fo, args := argOs, argTypes := ats })
    (h : callW P y T (ev t fo) (argsL t argOs.toList) w k) : Out P y (execOp (ev t) o) w k := by
  unfold callW at h
  have hex : execOp (ev t) o = (do let d ← Deferred.ofValue (ev t fo) (argsL t argOs.toList).toArray; invoke d.target d.args) := by
    unfold execOp
    rw [ho]
    simp only [resolve, args_eq]
  rw [hex]
  split at h <;> try exact h.elim
  · rename_i g a c hf
    unfold callG at h
    split at h <;> try exact h.elim
    rename_i fn hfn
    split at h <;> try exact h.elim
    rename_i hb
    refine .enter g _ ?_ (Rets.mono h fun v w' hv => hv.out)
    rw [hf, Sem.run_bind]
    show (invoke (.fn (.func g) c) _).run P w = _
    have := enters hP hfn hb ((a ++ (argsL t argOs.toList).toArray) ++ c) w
    unfold invoke
    rw [this]
    congr 2
    apply Array.ext'
    simp
  · rename_i l a c hf
    split at h <;> try exact h.elim
    obtain ⟨fn, tmps, assign, body, hy, hR⟩ := h
    refine .round rfl l fn tmps assign body ?_ (hR.mono fun e w' he => ?_)
    · rw [hf, Sem.run_bind]
      show (invoke (.fn (.yield l) c) _).run P w = _
      unfold invoke
      show (Instr.yield l (a ++ (argsL t argOs.toList).toArray)).run P w = _
      rw [← hy]
      congr 2
      apply Array.ext'
      simp
    · cases e with
      | returned v => obtain ⟨b, rfl, hk⟩ := he; exact hk
      | panicked c => exact he
      | outgrown => exact he
theorem partsL_eq' (t : Fr) : ∀ l : List (Nat × Operand), l.map (fun x => match x with | (i, x) => (i, ev t x)) = partsL t l
  | [] => rfl
  | (i, x) :: r => by simp [partsL, ← partsL_eq' t r]
theorem actW_out (hP : Plain P) {o : Oper} {t : Fr} {w : World} {k : Value → World → Prop} (h : actW P y o.type o.op t w k) : Out P y (execOp (ev t) o) w k := by
  obtain ⟨dst, op, type, pos, after, guard⟩ := o
  simp only at h
  unfold execOp
  cases op with
  | store T x y =>
    have h' : storeW P T (ev t x) (ev t y) w k := h
    unfold storeW at h'
    split at h' <;> try exact h'.elim
    rename_i q hx
    unfold someR at h'
    split at h' <;> try exact h'.elim
    rename_i a
    split at h' <;> try exact h'.elim
    rename_i m hm
    split at h' <;> try exact h'.elim
    rename_i hb
    obtain ⟨w', hr, hk⟩ := StoreR_run hm (Nat.eq_of_beq_eq_true hb) h'
    refine Out.ofU ?_ hk
    rw [hx]; exact hr
  | alloc e =>
    have h' : (match zeroL P e with | some z => NewR e z w (fun a w' => k (.pointer (some a)) w') | none => False) := h
    split at h' <;> try exact h'.elim
    rename_i z hz
    obtain ⟨zv, hzv, rfl⟩ := zero_SV hz
    refine Out.ofV (v := .pointer (some ⟨w.heap.size, 0, none⟩)) (w' := w.alloc (.cells (cellsL zv).toArray e)) ?_ h'
    unfold Instr.alloc
    rw [Sem.run_bind, hzv w, ← cellsL_eq]
    rfl
  | box e x =>
    have h' : NewR e (cellsL (ev t x)) w (fun a w' => k (.pointer (some a)) w') := h
    refine Out.ofV (v := .pointer (some ⟨w.heap.size, 0, none⟩)) (w' := w.alloc (.cells (cellsL (ev t x)).toArray e)) ?_ h'
    rw [← cellsL_eq]
    rfl
  | buildSlice S len parts =>
    have h' : bslW P S len (partsL t parts.toList) w k := h
    unfold bslW at h'
    split at h' <;> try exact h'.elim
    rename_i e hS
    split at h' <;> try exact h'.elim
    rename_i z m hz hm
    split at h' <;> try exact h'.elim
    rename_i hb
    rw [Bool.and_eq_true, Nat.ble_eq] at hb
    split at h' <;> try exact h'.elim
    rename_i cs hc
    obtain ⟨zv, hzv, hze⟩ := zero_SV hz
    have hl := Nat.eq_of_beq_eq_true hb.1
    refine Out.ofV (v := .slice (some ⟨w.heap.size, 0, none⟩) len len) (w' := w.alloc (.cells cs.toArray e)) ?_ h'
    unfold Instr.buildSlice
    rw [Sem.run_bind, SV.underlying hS w]
    simp only [Result.andThen]
    rw [Sem.run_bind, szOf_SV hm w]
    simp only [Result.andThen]
    rw [if_neg (by omega)]
    rw [Array.toList_map, partsL_eq']
    subst hl
    have hfill := fillL_sound _ _ _ _ hc
    by_cases hn : len * z.length = 0
    · simp only [hn, if_true]
      have e0 : zrep z len = [] := by simp [zrep, hn]
      rw [e0] at hfill
      rw [Sem.run_bind]
      simp only [pure_bind, show Array.range 0 = #[] from rfl, Array.map_empty, hfill]
      rfl
    · simp only [hn, if_false]
      rw [Sem.run_bind, hzv w]
      simp only [Result.andThen]
      simp only [pure_bind]
      rw [zrep_mach hze len]
      simp only [hfill]
      rfl
  | makeSlice S l c =>
    have h' : mksW P S (ev t l) (ev t c) w k := h
    unfold mksW at h'
    split at h' <;> try exact h'.elim
    rename_i e hS
    split at h' <;> try exact h'.elim
    rename_i z m b hz hm hb
    split at h' <;> try exact h'.elim
    rename_i hq
    split at h' <;> try exact h'.elim
    rename_i kl l' kc c' hl hc
    obtain ⟨v, w', hr, hk⟩ := MakeR_run (kl := kl) (kc := kc) hS hz hm hb (Nat.eq_of_beq_eq_true hq) h'
    refine Out.ofV (v := v) (w' := w') ?_ hk
    rw [hl, hc]; exact hr
  | makeMap T rs =>
    cases rs with
    | none => exact Out.ofV (v := .map (some w.heap.size)) (w' := w.alloc (.map #[] 0)) rfl h
    | some x => exact h.elim
  | lookup M x i ok => exact Out.ofR h
  | mapUpdate M m i x => exact Out.ofRU h
  | insert M m i x => exact Out.ofRU h
  | binOp o T' x y yT => exact Out.ofR h
  | convert a b x => exact Out.ofR h
  | call c =>
    obtain ⟨callee, args, argTypes⟩ := c
    cases callee with
    | value f =>
      have := callW_out (y := y) hP (o := ⟨dst, .call ⟨.value f, args, argTypes⟩, type, pos, after, guard⟩) rfl h
      unfold execOp at this
      exact this
    | invoke x m => exact h.elim
    | builtin b =>
      have h' : RunR P (builtinV b argTypes type (argsL t args.toList).toArray) w (fun v w' => TyR P type v (fun u => k u w')) := h
      rw [← args_eq] at h'
      cases b <;> first
        | exact Out.ofR (s := Builtin.append_ _ _ _) h'
        | exact Out.ofR (s := Builtin.copy_ _ _ _) h'
        | exact Out.ofR (s := Builtin.clear_ _ _ _) h'
        | exact Out.ofR (s := Builtin.delete_ _ _ _) h'
        | exact Out.ofR (s := Builtin.len_ _ _ _) h'
        | exact Out.ofR (s := Builtin.cap_ _ _ _) h'
        | (obtain ⟨v, w', hr, _⟩ := h'; cases hr)
  | _ => exact h.elim
end
end Go.Proofs.YtggflkjdgcdcmaaGreatDoor.Eng
