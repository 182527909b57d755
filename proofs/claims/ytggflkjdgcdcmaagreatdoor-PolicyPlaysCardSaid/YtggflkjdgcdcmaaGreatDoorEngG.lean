/- The engine, seventh text: regions in order, and regions that draw their order. -/
import Derived.Test.YtggflkjdgcdcmaaGreatDoorEngE
import Derived.Test.YtggflkjdgcdcmaaGreatDoorRegI
namespace Go.Proofs.YtggflkjdgcdcmaaGreatDoor.Eng
open Go Go.RowKit Go.Proofs.YtggflkjdgcdcmaaGreatDoorW.PrintWords Go.Proofs.YtggflkjdgcdcmaaGreatDoorW.PrintLast
set_option linter.unusedVariables false
set_option linter.unusedSimpArgs false
/-- A region in the order of its text. -/
def opsW (P : Program) (kv : Nat → Option Bool) (N : Nat) (y : Bool) (all : List Oper) (K : Fr → Kn → World → Prop) : List Oper → Fr → Kn → World → Prop
  | [], t, kn, w => K t kn w
  | o :: r, t, kn, w => guardR kv all N o t kn
      (fun t kn => opW P y o t w (fun v w' => opsW P kv N y all K r (putd t o.dst v) (pushK kn o.dst (knOf' N kn o.op)) w'))
      (fun t kn => opsW P kv N y all K r (putd t o.dst undef) (pushK kn o.dst none) w)
/-- Slots beside these are as they were. -/
def Agr (ws : List Nat) (t t' : Fr) : Prop := ∀ i, i ∉ ws → nth t' i = nth t i
theorem Agr.refl (ws : List Nat) (t : Fr) : Agr ws t t := fun _ _ => rfl
theorem Agr.mono {ws ws' : List Nat} {t t' : Fr} (h : Agr ws t t') (hs : ∀ i, i ∈ ws → i ∈ ws') : Agr ws' t t' := fun i hi => h i (fun h' => hi (hs i h'))
theorem Agr.trans {ws ws' : List Nat} {a b c : Fr} (h : Agr ws a b) (k : Agr ws' b c) : Agr (ws ++ ws') a c := fun i hi => by
  rw [k i (fun h' => hi (List.mem_append.2 (.inr h'))), h i (fun h' => hi (List.mem_append.2 (.inl h')))]
theorem Agr.put {t : Fr} {d : Option Nat} {v : Value} : Agr d.toList t (putd t d v) := by
  cases d with
  | none => exact Agr.refl _ _
  | some d =>
    intro i hi
    simp at hi
    exact nth_upd_ne _ _ _ _ (fun e => hi e.symm)
def dsts : List Oper → List Nat
  | [] => []
  | o :: r => o.dst.toList ++ dsts r
theorem putd_length (t : Fr) (d : Option Nat) (v : Value) : (putd t d v).length = t.length := by cases d <;> simp [putd, upd_length]
section
variable {P : Program} {D : List Deferred} {kv : Nat → Option Bool} {y : Bool} {r : Option Nat} {n : Nat} {N : Nat} {Q : Exit → Act → World → Prop}
theorem range'_cons (i m : Nat) : List.range' i (m + 1) = i :: List.range' (i + 1) m := rfl
theorem opsW_sound (hP : Plain P) {all : List Oper} {K : Fr → Kn → World → Prop} : ∀ (l : List Oper) (i : Nat) (t : Fr) (kn : Kn) (w : World), all.drop i = l → opsW P kv N y all K l t kn w → t.length = N → KOk kn t →
    (∀ t' kn' w', K t' kn' w' → t'.length = N → KOk kn' t' → Agr (dsts l) t t' → Q .normal (act t' D) w') →
    wpOpsIn (FF r) n P all.toArray Q (List.range' i l.length) (act t D) w
  | [], i, t, kn, w, hl, h, hN, hk, hQ => hQ t kn w h hN hk (Agr.refl _ _)
  | o :: rest, i, t, kn, w, hl, h, hN, hk, hQ => by
    have hi : all[i]? = some o := by
      have := congrArg (·[0]?) hl
      simpa using this
    have hd : all.drop (i + 1) = rest := by
      have := congrArg (List.drop 1) hl
      simpa [List.drop_drop, Nat.add_comm] using this
    have hia : all.toArray[i]? = some o := by simpa using hi
    rw [List.length_cons, range'_cons]
    unfold wpOpsIn
    simp only [hia]
    have hyl : (act t D).tmps = t.toArray := rfl
    rw [hyl]
    rcases guardR_sound h hN hk with ⟨hw, kn1, hk1, h1⟩ | ⟨hw, kn1, hk1, h1⟩
    · rw [hw]
      simp only [if_true]
      refine opW_in hP h1 hN hk1 fun v w' hv hkv => ?_
      refine opsW_sound hP rest (i + 1) _ _ _ hd hv (by rw [putd_length]; exact hN) (hk1.push _ _ _ hkv) fun t' kn' w'' hK hN' hk' hA => ?_
      refine hQ t' kn' w'' hK hN' hk' ?_
      exact Agr.put.trans hA
    · rw [hw]
      simp only [Bool.false_eq_true, if_false]
      refine ⟨fun f _ => FF_fn r f, ?_⟩
      rw [act_put]
      refine opsW_sound hP rest (i + 1) _ _ _ hd h1 (by rw [putd_length]; exact hN) (hk1.push _ none _ (fun b hb => by cases hb)) fun t' kn' w'' hK hN' hk' hA => ?_
      exact hQ t' kn' w'' hK hN' hk' (Agr.put.trans hA)
end
/-! ### Regions that draw their order -/
def selB : Bool → Prop → Prop
  | true, p => p
  | false, _ => False
theorem selB_of {b : Bool} {p : Prop} (h : selB b p) : b = true ∧ p := by cases b with | true => exact ⟨rfl, h⟩ | false => exact h.elim
def Drw (w : World) (k : World → Prop) : Prop := k w.drew
def orL (B : List Nat) : List Nat → Nat
  | [] => 0
  | q :: r => (2 ^ q ||| B.getD q 0) ||| orL B r
def bitsT : List (List Nat × List Nat) → List Nat → List Nat
  | [], B => B
  | (ns, _) :: r, B => bitsT r (B ++ [orL B ns])
/-- An order: one behind the other; where several come up, all ways (6 opens two ways, 7 ends one). -/
inductive OTr where
  | nil
  | one (i k : Nat) (r : OTr)
  | two (a b : OTr)
def decO : Nat → List (Nat × Nat) → OTr × List (Nat × Nat)
  | 0, l => (.nil, l)
  | _ + 1, [] => (.nil, [])
  | n + 1, (i, k) :: r => match k with
    | 6 => (match decO n r with
      | (a, r1) => (match decO n r1 with
        | (b, r2) => (.two a b, r2)))
    | 7 => (.nil, r)
    | _ => (match decO n r with
      | (a, r1) => (.one i k a, r1))
def treeO (l : List (Nat × Nat)) : OTr := (decO (l.length + 1) l).1
def lastsOf : OTr → List Nat
  | .nil => []
  | .one i k r => (match k with
    | 3 => i :: lastsOf r
    | _ => lastsOf r)
  | .two a b => lastsOf a ++ lastsOf b
def canL (all : List Oper) : OTr → Reg.OT
  | .nil => .nil
  | .one i k r => .one i k (gslot all i) (canL all r)
  | .two a b => .two (canL all a) (canL all b)
def ndB : List Oper → Bool
  | [] => true
  | o :: r => (match o.op with
    | .defer _ => false
    | _ => ndB r)
theorem ndB_spec : ∀ {l : List Oper}, ndB l = true → ∀ o ∈ l, ∀ c, o.op ≠ .defer c
  | [], _, o, ho, c => by cases ho
  | x :: r, h, o, ho, c => by
    unfold ndB at h
    split at h
    · cases h
    · rename_i hn
      rcases List.mem_cons.1 ho with rfl | ho
      · exact hn c
      · exact ndB_spec h o ho c
def drawOkT (T : Bool × List (List Nat × List Nat)) (B : List Nat) (all : List Oper) (ord : OTr) : Bool :=
  ndB all && (waitsOk T.2 B && Reg.canB T B (lastsOf ord) true (List.replicate all.length false) (canL all ord) && Reg.deepB (canL all ord) all.length)
def drawOk (all : List Oper) (ord : OTr) : Bool :=
  match rtab .any all.toArray with
  | T => drawOkT T (bitsT T.2 []) all ord
def simpleO : OTr → Bool
  | .nil => true
  | .one _ k r => (match k with
    | 2 => false
    | 4 => false
    | _ => simpleO r)
  | .two a b => simpleO a && simpleO b
def SameRun (P : Program) (S : World → Prop) (s : Sem Value) (v : Value) : Prop := ∀ w, S w → s.run P w = .ok v w
/-- What reads: the same in every world that may come between. -/
def SameR (P : Program) (S : World → Prop) (s : Sem Value) (T : TypeId) (k : Value → Prop) : Prop := ∃ v, SameRun P S s v ∧ TyR P T v k
theorem SameR.mk {P : Program} {S : World → Prop} {s : Sem Value} {T : TypeId} {k : Value → Prop} (v : Value) (h : ∀ w, S w → s.run P w = .ok v w) (hk : TyR P T v k) : SameR P S s T k := ⟨v, h, hk⟩
def loadO (P : Program) (S : World → Prop) (rd : Addr → Value → Prop) (t : Fr) (T : TypeId) (op : Op) (k : Value → Prop) : Prop :=
  match op with
  | .load T x => loadW P rd T (ev t x) k
  | .convert a b x => SameR P S (convert a b (ev t x)) T k
  | .lookup M x i ok => SameR P S (Instr.lookup M (ev t x) (ev t i) ok) T k
  | .binOp o T' x z _ => SameR P S (binV o T' x z (ev t x) (ev t z)) T k
  | .call { callee := .builtin b, args, argTypes } => (match b with
    | .len => SameR P S (builtinV .len argTypes T (argsL t args.toList).toArray) T k
    | _ => False)
  | _ => False
theorem loadO_sound {P : Program} {S : World → Prop} {rd : Addr → Value → Prop} (hrd : ∀ p v, rd p v → ∀ w', S w' → w'.cell? p = some v) {t : Fr} {o : Oper} {k : Value → Prop} (h : loadO P S rd t o.type o.op k) :
    ∃ v, (∀ w, S w → (execOp (ev t) o).run P w = .ok (.value v) w) ∧ k v := by
  obtain ⟨dst, op, type, pos, after, guard⟩ := o
  cases op with
  | load T x =>
    obtain ⟨v, hv, hk⟩ := loadW_sound (show loadW P rd T (ev t x) k from h)
    refine ⟨v, fun w hS => ?_, hk⟩
    have := hv w (fun p u hu => hrd p u hu w hS)
    unfold execOp
    simp only
    rw [Sem.run_bind, this]
    rfl
  | convert a b x =>
    obtain ⟨v, hv, hk⟩ := (show SameR P S (convert a b (ev t x)) type k from h)
    refine ⟨v, fun w hS => ?_, hk.out⟩
    unfold execOp
    simp only
    rw [Sem.run_bind, hv w hS]
    rfl
  | lookup M x i ok =>
    obtain ⟨v, hv, hk⟩ := (show SameR P S (Instr.lookup M (ev t x) (ev t i) ok) type k from h)
    refine ⟨v, fun w hS => ?_, hk.out⟩
    unfold execOp
    simp only
    rw [Sem.run_bind, hv w hS]
    rfl
  | binOp o T' x z yT =>
    obtain ⟨v, hv, hk⟩ := (show SameR P S (binV o T' x z (ev t x) (ev t z)) type k from h)
    refine ⟨v, fun w hS => ?_, hk.out⟩
    show Sem.run P (binV o T' x z (ev t x) (ev t z) >>= fun r => (pure (Next.value r) : Sem Next)) w = Result.ok (Next.value v) w
    rw [Sem.run_bind, hv w hS]; rfl
  | call c =>
    obtain ⟨callee, args, argTypes⟩ := c
    cases callee with
    | builtin b =>
      cases b with
      | len =>
        obtain ⟨v, hv, hk⟩ := (show SameR P S (builtinV .len argTypes type (argsL t args.toList).toArray) type k from h)
        refine ⟨v, fun w hS => ?_, hk.out⟩
        have := hv w hS
        rw [← args_eq] at this
        show Sem.run P (do let r ← builtinV .len argTypes type (args.map (ev t)); pure (Next.value r)) w = _
        rw [Sem.run_bind, this]; rfl
      | _ => exact h.elim
    | _ => exact h.elim
  | _ => exact h.elim
def rdS (S : World → Prop) (p : Addr) (v : Value) : Prop := ∀ w', S w' → w'.cell? p = some v
def canW (P : Program) (kv : Nat → Option Bool) (N : Nat) (all : List Oper) (K : Fr → Kn → World → Prop) : (World → Prop) → (Addr → Value → Prop) → OTr → Bool → Fr → Kn → World → Prop
  | _, _, .nil, f, t, kn, w => K t kn w
  | S, rd, .two a b, f, t, kn, w => canW P kv N all K S rd a f t kn w ∧ canW P kv N all K S rd b f t kn w
  | S, rd, .one i k r, f, t, kn, w => (match all[i]? with
    | none => False
    | some o => (match k with
      | 0 => guardR kv all N o t kn
        (fun t kn => match quietB P o.op with
          | true => quietR P t o.op (fun v => canW P kv N all K S rd r f (putd t o.dst v) (pushK kn o.dst (knOf' N kn o.op)) w)
          | false => False)
        (fun t kn => canW P kv N all K S rd r f (putd t o.dst undef) (pushK kn o.dst none) w)
      | 1 => (match f with
        | true => guardR kv all N o t kn
          (fun t kn => loadO P S rd t o.type o.op (fun v => canW P kv N all K S rd r f (putd t o.dst v) (pushK kn o.dst none) w))
          (fun t kn => canW P kv N all K S rd r f (putd t o.dst undef) (pushK kn o.dst none) w)
        | false => False)
      | 2 => (match f with
        | true => guardR kv all N o t kn
          (fun t kn => opW P true o t w (fun v w' => S w' ∧ canW P kv N all K S rd r f (putd t o.dst v) (pushK kn o.dst none) w'))
          (fun t kn => canW P kv N all K S rd r f (putd t o.dst undef) (pushK kn o.dst none) w)
        | false => False)
      | 4 => (match f with
        | true => guardR kv all N o t kn
          (fun t kn => opW P true o t w (fun v w' => ∃ S' : World → Prop, (∀ x, S' x → S x) ∧ S' w' ∧ canW P kv N all K S' (rdS S') r f (putd t o.dst v) (pushK kn o.dst none) w'))
          (fun t kn => canW P kv N all K S rd r f (putd t o.dst undef) (pushK kn o.dst none) w)
        | false => False)
      | _ => guardR kv all N o t kn
        (fun t kn => opW P true o t w (fun v w' => canW P kv N all K S rd r false (putd t o.dst v) (pushK kn o.dst none) w'))
        (fun t kn => canW P kv N all K S rd r false (putd t o.dst undef) (pushK kn o.dst none) w)))
def drawR (P : Program) (kv : Nat → Option Bool) (N : Nat) (all : List Oper) (ord : List (Nat × Nat)) (K : Fr → Kn → World → Prop) (t : Fr) (kn : Kn) (w : World) : Prop :=
  selB (drawOk all (treeO ord)) (Drw w (fun w1 => match simpleO (treeO ord) with
    | true => canW P kv N all K (fun w' => w' = w1) (cellAt w1) (treeO ord) true t kn w1
    | false => ∃ S : World → Prop, S w1 ∧ canW P kv N all K S (rdS S) (treeO ord) true t kn w1))
section
variable {P : Program} {D : List Deferred} {kv : Nat → Option Bool} {N : Nat} {r : Option Nat} {n : Nat} {Q : Exit → Act → World → Prop}
def idsts (all : List Oper) : OTr → List Nat
  | .nil => []
  | .one i _ r => (gslot all i).toList ++ idsts all r
  | .two a b => idsts all a ++ idsts all b
theorem canW_sound (hP : Plain P) {all : List Oper} {K : Fr → Kn → World → Prop} :
    ∀ (l : OTr) (S : World → Prop) (rd : Addr → Value → Prop) (hrd : ∀ p v, rd p v → ∀ w', S w' → w'.cell? p = some v) (f : Bool) (t : Fr) (kn : Kn) (w : World), canW P kv N all K S rd l f t kn w → (f = true → S w) → t.length = N → KOk kn t →
    (∀ t' kn' w', K t' kn' w' → t'.length = N → KOk kn' t' → Agr (idsts all l) t t' → Q .normal (act t' D) w') →
    Reg.wpCanI r n P all.toArray Q S (canL all l) (act t D) w
  | .nil, S, rd, hrd, f, t, kn, w, h, hf, hN, hk, hQ => hQ t kn w h hN hk (Agr.refl _ _)
  | .two x y, S, rd, hrd, f, t, kn, w, h, hf, hN, hk, hQ =>
    ⟨canW_sound hP x S rd hrd f t kn w h.1 hf hN hk (fun t' kn' w' hK hN' hk' hA => hQ t' kn' w' hK hN' hk' (hA.mono fun i hi => List.mem_append.2 (.inl hi))),
      canW_sound hP y S rd hrd f t kn w h.2 hf hN hk (fun t' kn' w' hK hN' hk' hA => hQ t' kn' w' hK hN' hk' (hA.mono fun i hi => List.mem_append.2 (.inr hi)))⟩
  | .one i k rest, S, rd, hrd, f, t, kn, w, h, hf, hN, hk, hQ => by
    unfold canW at h
    split at h <;> try exact h.elim
    rename_i o hi
    have hia : all.toArray[i]? = some o := by simpa using hi
    have hg : gslot all i = o.dst := by unfold gslot; rw [hi]
    have ihS := fun (S : World → Prop) (rd : Addr → Value → Prop) (hrd : ∀ p v, rd p v → ∀ w', S w' → w'.cell? p = some v) (f : Bool) t' kn' w' (h1 : canW P kv N all K S rd rest f t' kn' w') (h2 : f = true → S w') (h3 : t'.length = N) (h4 : KOk kn' t') (h5 : Agr o.dst.toList t t') =>
      canW_sound hP rest S rd hrd f t' kn' w' h1 h2 h3 h4 (fun t'' kn'' w'' hK hN' hk' hA => hQ t'' kn'' w'' hK hN' hk' (by
        show Agr ((gslot all i).toList ++ idsts all rest) t t''
        rw [hg]; exact h5.trans hA))
    have ih := ihS S rd hrd
    show Reg.wpCanI r n P all.toArray Q S (.one i k (gslot all i) (canL all rest)) (act t D) w
    rw [hg]
    have hyl : (act t D).tmps = t.toArray := rfl
    split at h
    · refine ⟨o, hia, rfl, ?_⟩
      rcases guardR_sound h hN hk with ⟨hw, kn1, hk1, h1⟩ | ⟨hw, kn1, hk1, h1⟩
      · split at h1 <;> try exact h1.elim
        obtain ⟨v, hv, h1⟩ := quiet_sound h1
        refine ⟨v, .inl ⟨by rw [hyl]; exact hw, fun w' => by rw [act_evalF]; exact hv w'⟩, ?_⟩
        rw [act_put]
        refine ih f _ _ _ h1 hf (by rw [putd_length]; exact hN) (hk1.push _ _ _ (fun b hb => ?_)) Agr.put
        have := kn_run (P := P) hN hk1 hb w
        rw [hv w] at this
        cases this
        rfl
      · refine ⟨undef, .inr ⟨by rw [hyl]; exact hw, rfl⟩, ?_⟩
        rw [act_put]
        exact ih f _ _ _ h1 hf (by rw [putd_length]; exact hN) (hk1.push _ none _ (fun b hb => by cases hb)) Agr.put
    · split at h <;> try exact h.elim
      refine ⟨o, hia, rfl, ?_⟩
      rcases guardR_sound h hN hk with ⟨hw, kn1, hk1, h1⟩ | ⟨hw, kn1, hk1, h1⟩
      · obtain ⟨v, hv, h1⟩ := loadO_sound hrd h1
        refine ⟨v, .inl ⟨by rw [hyl]; exact hw, fun w' hS' => by rw [act_evalF]; exact hv w' hS'⟩, hf rfl, ?_⟩
        · rw [act_put]
          exact ih true _ _ _ h1 hf (by rw [putd_length]; exact hN) (hk1.push _ none _ (fun b hb => by cases hb)) Agr.put
      · refine ⟨undef, .inr ⟨by rw [hyl]; exact hw, rfl⟩, hf rfl, ?_⟩
        rw [act_put]
        exact ih true _ _ _ h1 hf (by rw [putd_length]; exact hN) (hk1.push _ none _ (fun b hb => by cases hb)) Agr.put
    · split at h <;> try exact h.elim
      refine ⟨o, hia, rfl, fun K' hK' => ?_⟩
      rw [hyl]
      rcases guardR_sound h hN hk with ⟨hw, kn1, hk1, h1⟩ | ⟨hw, kn1, hk1, h1⟩
      · rw [hw, if_pos rfl]
        refine opW_in (r := r) (n := n) (N := N) (kn := []) hP h1 hN (KOk.nil t) fun v w' hv _ => ?_
        refine hK'.out _ _ hv.1 (fun hS => ?_)
        exact ih true _ _ _ hv.2 (fun _ => hS) (by rw [putd_length]; exact hN) (hk1.push _ none _ (fun b hb => by cases hb)) Agr.put
      · rw [hw, if_neg (by simp), act_put]
        refine hK'.out _ _ (hf rfl) (fun hS => ?_)
        exact ih true _ _ _ h1 (fun _ => hS) (by rw [putd_length]; exact hN) (hk1.push _ none _ (fun b hb => by cases hb)) Agr.put
    · split at h <;> try exact h.elim
      refine ⟨o, hia, rfl, fun K' hK' => ?_⟩
      rw [hyl]
      rcases guardR_sound h hN hk with ⟨hw, kn1, hk1, h1⟩ | ⟨hw, kn1, hk1, h1⟩
      · rw [hw, if_pos rfl]
        refine opW_in (r := r) (n := n) (N := N) (kn := []) hP h1 hN (KOk.nil t) fun v w' hv _ => ?_
        obtain ⟨S', hs, hS', hv⟩ := hv
        refine hK'.out _ _ S' hs hS' ?_
        exact ihS S' (rdS S') (fun p v h => h) true _ _ _ hv (fun _ => hS') (by rw [putd_length]; exact hN) (hk1.push _ none _ (fun b hb => by cases hb)) Agr.put
      · rw [hw, if_neg (by simp), act_put]
        refine hK'.out _ _ S (fun _ h => h) (hf rfl) ?_
        exact ih true _ _ _ h1 hf (by rw [putd_length]; exact hN) (hk1.push _ none _ (fun b hb => by cases hb)) Agr.put
    · rename_i h0 h1' h2' h4'
      have hk3 : k = 3 ∨ ∃ q, k = q + 5 := by
        match k, h0, h1', h2', h4' with
        | 0, h0, _, _, _ => exact absurd rfl h0
        | 1, _, h1, _, _ => exact absurd rfl h1
        | 2, _, _, h2, _ => exact absurd rfl h2
        | 4, _, _, _, h4 => exact absurd rfl h4
        | 3, _, _, _, _ => exact .inl rfl
        | q + 5, _, _, _, _ => exact .inr ⟨q, rfl⟩
      rcases hk3 with rfl | ⟨q, rfl⟩
      all_goals
        refine ⟨o, hia, rfl, fun K' hK' => ?_⟩
        rw [hyl]
        rcases guardR_sound h hN hk with ⟨hw, kn1, hk1, h1⟩ | ⟨hw, kn1, hk1, h1⟩
        · rw [hw, if_pos rfl]
          refine opW_in (r := r) (n := n) (N := N) (kn := []) hP h1 hN (KOk.nil t) fun v w' hv _ => ?_
          refine hK'.out _ _ ?_
          exact ih false _ _ _ hv (fun e => by cases e) (by rw [putd_length]; exact hN) (hk1.push _ none _ (fun b hb => by cases hb)) Agr.put
        · rw [hw, if_neg (by simp), act_put]
          refine hK'.out _ _ ?_
          exact ih false _ _ _ h1 (fun e => by cases e) (by rw [putd_length]; exact hN) (hk1.push _ none _ (fun b hb => by cases hb)) Agr.put
theorem gslot_mem {all : List Oper} {i d : Nat} (h : gslot all i = some d) : d ∈ dsts all := by
  unfold gslot at h
  split at h
  · rename_i o ho
    have hm : o ∈ all := List.mem_of_getElem? ho
    clear ho
    induction all with
    | nil => cases hm
    | cons x r ih =>
      unfold dsts
      rw [List.mem_append]
      rcases List.mem_cons.1 hm with rfl | hm
      · left; rw [h]; simp
      · right; exact ih hm
  · cases h
theorem idsts_sub {all : List Oper} : ∀ (l : OTr) (i : Nat), i ∈ idsts all l → i ∈ dsts all
  | .nil, i, h => by cases h
  | .one j k r, i, h => by
    unfold idsts at h
    rcases List.mem_append.1 h with h | h
    · exact gslot_mem (i := j) (by simpa using h)
    · exact idsts_sub r i h
  | .two a b, i, h => by
    unfold idsts at h
    rcases List.mem_append.1 h with h | h
    · exact idsts_sub a i h
    · exact idsts_sub b i h
theorem drawR_sound (hP : Plain P) (hm : P.follows .mixedOrders = true) (hQp : ∀ c a w, ¬ Q (.panic c) a w) {id : Nat} {all : List Oper} {ord : List (Nat × Nat)} {K : Fr → Kn → World → Prop} {t : Fr} {kn : Kn} {w : World} (h : drawR P kv N all ord K t kn w) (hN : t.length = N) (hk : KOk kn t)
    (hQ : ∀ t' kn' w', K t' kn' w' → t'.length = N → KOk kn' t' → Agr (dsts all) t t' → Q .normal (act t' D) w') : (Code.region id all.toArray true).wpIn (FF r) n P Q (act t D) w := by
  unfold drawR at h
  obtain ⟨hok, h⟩ := selB_of h
  unfold drawOk at hok
  generalize hT : rtab .any all.toArray = T at hok
  simp only at hok
  generalize hB : bitsT T.2 [] = B at hok
  unfold drawOkT at hok
  simp only [Bool.and_eq_true] at hok
  obtain ⟨h0, ⟨h1, h2⟩, h3⟩ := hok
  have hnd : Reg.NoDef all.toArray := fun j o hj c => ndB_spec h0 o (List.mem_of_getElem? (by simpa using hj)) c
  generalize treeO ord = ord at h h2 h3
  have key : ∀ (S : World → Prop) (rd : Addr → Value → Prop), (∀ p v, rd p v → ∀ w', S w' → w'.cell? p = some v) → S w.drew → canW P kv N all K S rd ord true t kn w.drew → (Code.region id all.toArray true).wpIn (FF r) n P Q (act t D) w := by
    intro S rd hrd hS hc
    refine Reg.region_canI (n := all.length) (T := T) (B := B) (canL all ord) (lastsOf ord) S hnd hm (by simp) hT h1 h3 h2 (fun c a N v w hq => absurd hq (hQp _ _ _)) hS (fun hS' => ?_)
    exact canW_sound hP ord S rd hrd true t kn _ hc (fun _ => hS') hN hk (fun t' kn' w' hK hN' hk' hA => hQ t' kn' w' hK hN' hk' (hA.mono (idsts_sub ord)))
  unfold Drw at h
  split at h
  · refine key (fun w' => w' = w.drew) (cellAt w.drew) (fun p v hv w' hS => ?_) rfl h
    subst hS; exact hv
  · obtain ⟨S, hS, h⟩ := h
    exact key S _ (fun p v hv w' hS' => hv w' hS') hS h
end
end Go.Proofs.YtggflkjdgcdcmaaGreatDoor.Eng
