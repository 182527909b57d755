/- Caches: all that is there, in the order of use; a step on both. -/
import Derived.Test.YtianklbklggboaaLrQ
import Derived.Test.YtianklbklggboaaLrI
import Derived.LaidEql
namespace Go.Proofs.Ytianklbklggboaa.Eng
open Go Go.RowKit Go.Proofs
set_option linter.unusedVariables false
set_option linter.unusedSimpArgs false
set_option linter.unusedSectionVars false
set_option maxRecDepth 1000000
theorem ptrNeq {P : Program} {w : World} {tp te : TypeId} {xo yo : Operand} {a b : Nat} {ca cb : Array Value} {ta tb : TypeId} {n : Nat} {K : Value → World → Prop} (hp : P.underlying tp = some (.pointer te)) (hs : ((P.info? te).map (·.size)) = some (n + 1))
    (ha : w.heap[a]? = some (.cells ca ta (0, 0))) (hb : w.heap[b]? = some (.cells cb tb (0, 0))) (hk : K (.bool (decide (a ≠ b))) w) : RunR P (binV .neq tp xo yo (ptr a) (ptr b)) w K := by
  obtain ⟨j, hj, hjs⟩ : ∃ j, P.info? te = some j ∧ j.size = n + 1 := by
    cases hi : P.info? te with
    | none => rw [hi] at hs; cases hs
    | some j => rw [hi] at hs; exact ⟨j, rfl, Option.some.inj hs⟩
  refine ⟨_, _, ?_, hk⟩
  have hg := guardS (P := P) (op := .neq) (T := tp) (xo := xo) (yo := yo) (x := ptr a) (y := ptr b) (fun hc => (by cases hc)) (fun c hc => (by cases hc)) w
  unfold binV
  rw [Sem.run_bind, hg, Result.andThen_ok]
  by_cases e1 : a = b
  · subst e1
    have h : ∀ d : Nat, (Op.equalIn (d + 1) tp (ptr a) (ptr a)).run P w = .ok true w := fun d => by
      simp [Op.equalIn, run_underlying hp, sizeOf, typeInfo, hj, run_sameAddr_same]
    simp only [binOp]
    simp [Op.equal, Op.maxDepth, h 9999]
  · have hne : (⟨a, 0, none⟩ : Addr) ≠ ⟨b, 0, none⟩ := fun hh => e1 (congrArg Addr.block hh)
    have h : ∀ d : Nat, (Op.equalIn (d + 1) tp (ptr a) (ptr b)).run P w = .ok false w := fun d => by
      simp [Op.equalIn, run_underlying hp, sizeOf, typeInfo, hj, hjs, run_sameAddr_other w hne ha hb]
    simp only [binOp]
    simp [Op.equal, Op.maxDepth, h 9999, e1]
section
variable {e w : World} {F : List HP} {h0 : Nat → Option Obj} {g : Nat} {most : Int} {xs : List R3} {q : Option Addr} {c : Nat}
theorem lrLen (h : Own e w (lru_int g most xs :: F)) : Rets Try.prog 13 #[.pointer (some ⟨g, 0, none⟩)] w fun v w' => v = .int .i64 (xs.length : Int) ∧ w' = w := by
  obtain ⟨r, root, D, ah, be, ns, f, hF, hB, h⟩ := lru_int_op h
  refine lru_Cache_int_int_Len_go _ ⟨fun hc => (by cases hc), fun _ => ⟨_, (Own.ld h (by repeat (first | with_reducible exact Pick.here | apply Pick.there)) (by rfl)), ?_⟩⟩
  refine Own.mapLen (d := TypeDesc.int .i64) (kt := 3) (et := 55) (n := ns.length) (f := f) (r := r) (h := (Own.pk h (by repeat (first | with_reducible exact Pick.here | apply Pick.there)))) (by kernel_rfl) ?_
  rw [hF.2.2.2.2, List.length_map]
  first
    | exact ⟨rfl, rfl⟩
    | exact ⟨_, rfl, rfl, rfl⟩
theorem lrMost (h : Own e w (lru_int g most xs :: F)) : Rets Try.prog 15 #[.pointer (some ⟨g, 0, none⟩)] w fun v w' => v = .int .i64 most ∧ w' = w := by
  obtain ⟨r, root, D, ah, be, ns, f, hF, hB, h⟩ := lru_int_op h
  exact lru_Cache_int_int_Most_go _ ⟨fun hc => (by cases hc), fun _ => ⟨_, (Own.ld h (by repeat (first | with_reducible exact Pick.here | apply Pick.there)) (by rfl)), rfl, rfl⟩⟩
theorem lrAll {p : Option Addr} (h : Own e w F) : Rets Try.prog 16 #[.pointer p] w fun v w' => ∃ b, v = .func (.func 32) #[] #[.pointer (some ⟨b, 0, none⟩)] ∧ Own e w' (blk b 25 [.pointer p] :: F) :=
  lru_Cache_int_int_All_go _ (h.newR fun b w h => ⟨b, rfl, h⟩)
theorem lrNilPeek {k : Int} {K : Value → World → Prop} (h : K (.tuple #[.int .i64 0, .bool false]) w) : Rets Try.prog 9 #[.pointer none, .int .i64 k] w K := lru_nil_Peek_go _ ⟨fun _ => h, fun hc => (by cases hc)⟩
theorem lrNilGet {k : Int} {K : Value → World → Prop} (h : K (.tuple #[.int .i64 0, .bool false]) w) : Rets Try.prog 7 #[.pointer none, .int .i64 k] w K := lru_nil_Get_go _ (lrNilPeek ⟨_, _, rfl, fun hc => (by cases hc), fun _ => h⟩)
theorem lrNilDrop {k : Int} {K : Value → World → Prop} (h : K (.bool false) w) : Rets Try.prog 17 #[.pointer none, .int .i64 k] w K := lru_nil_Drop_go _ (lrNilPeek ⟨_, _, rfl, fun _ => h, fun hc => (by cases hc)⟩)
theorem lrNilPut {k v n : Int} {K : Value → World → Prop} (h : K (.tuple #[.slice none 0 0, .bool false]) w) : Rets Try.prog 8 #[.pointer none, .int .i64 k, .int .i64 v, .int .i64 n] w K := lru_nil_Put_go _ _ _ ⟨fun hc => (by cases hc), fun _ => h⟩
theorem lrNilLen {K : Value → World → Prop} (h : K (.int .i64 0) w) : Rets Try.prog 13 #[.pointer none] w K := lru_nil_Len_go ⟨fun _ => h, fun hc => (by cases hc)⟩
theorem lrNilUsed {K : Value → World → Prop} (h : K (.int .i64 0) w) : Rets Try.prog 10 #[.pointer none] w K := lru_nil_Used_go ⟨fun _ => h, fun hc => (by cases hc)⟩
theorem lrNilMost {K : Value → World → Prop} (h : K (.int .i64 0) w) : Rets Try.prog 15 #[.pointer none] w K := lru_nil_Most_go ⟨fun _ => h, fun hc => (by cases hc)⟩
def nxt (root : Nat) : List Nat → Nat
  | [] => root
  | p :: _ => p
theorem Lk.nxt {ah be : Nat → Nat} {root : Nat} : ∀ {a : Nat} {l : List Nat}, Lk ah be a l root → be a = Eng.nxt root l
  | a, [], h => h.1
  | a, x :: l, h => h.1
theorem Lk.nxt2 {ah be : Nat → Nat} {root p : Nat} {a : Nat} {l r : List Nat} (h : Lk ah be a (l ++ p :: r) root) : be p = Eng.nxt root r := (Lk.app.1 h).2.nxt
abbrev cpV (x : R3) : List Value := [.int .i64 x.1, .int .i64 x.2.1, .int .i64 0, .pointer none, .pointer none]
theorem ex0 {D : Nat → R3} {j : Nat} {x : R3} {p : Prop} (h : (([] : List Nat).map D)[j]? = some x) : p := by
  rw [List.map_nil, List.getElem?_nil] at h; cases h
theorem lrAll1 {lp b : Nat} {Fr : Nat → List HP} {Fin : World → Prop} (hx : xs.length ≤ 1000) (hb : h0 b = some (.cells #[.pointer (some ⟨g, 0, none⟩)] 25 (0, 0)))
    (hround : ∀ (h1 : Nat → Option Obj) (i : Nat) w (hi : i < xs.length), LeH h0 h1 → Own e w (imm h1 :: lru_int g most xs :: Fr i) →
      RoundR Try.prog lp #[.int .i64 xs[i].1, .int .i64 xs[i].2.1] w fun v w' => (v = .bool true ∧ Own e w' (imm h1 :: lru_int g most xs :: Fr (i + 1))) ∨ (v = .bool false ∧ Fin w'))
    (h : Own e w (imm h0 :: lru_int g most xs :: Fr 0)) :
    Rets Try.prog 32 #[.func (.yield lp) #[] #[], .pointer (some ⟨b, 0, none⟩)] w fun v w' => (∃ h1, LeH h0 h1 ∧ Own e w' (imm h1 :: lru_int g most xs :: Fr xs.length)) ∨ Fin w' := by
  obtain ⟨r, root, D, ah, be, ns, f, hF, hB, h⟩ := lru_int_op h.swap
  have hns : ns.length = xs.length := by rw [hF.2.2.2.2, List.length_map]
  have hrn : ∀ p ∈ ns, p ≠ root := fun p hp hh => (List.nodup_cons.1 hF.1).1 (by rw [← hh]; exact hp)
  have h : Own e w (famH (node 57 (Value.int .i64) D ah be) (root :: ns) :: imm h0 :: blk g 59 [.map (some r), .pointer (some ⟨root, 0, none⟩), .int .i64 (us xs), .int .i64 most] :: mpO (TypeDesc.int .i64) r f ns.length :: Fr 0) := (Own.sub (h) (by repeat (first | exact Sub.nil _ | exact Sub.rfl _ | (apply Sub.cons; focus ((repeat (first | with_reducible exact Pick.here | apply Pick.there)); done)) | apply Sub.drop)))
  have hi0 : Own e w (imm h0 :: famH (node 57 (Value.int .i64) D ah be) (root :: ns) :: blk g 59 [.map (some r), .pointer (some ⟨root, 0, none⟩), .int .i64 (us xs), .int .i64 most] :: mpO (TypeDesc.int .i64) r f ns.length :: Fr 0) := h.swap
  refine lru_Cache_int_int_All_1_go _ _ ⟨_, hi0.immCell hb (i := 0) rfl, fun hc => (by cases hc), fun _ => ⟨_, hi0.immCell hb (i := 0) rfl, smR ⟨_, (Own.ld h (by repeat (first | with_reducible exact Pick.here | apply Pick.there)) (by rfl)), smR ⟨_, h.ndRd (a := root) (k := 4) (by simp) rfl, ?_⟩⟩⟩⟩
  rw [hF.2.1.nxt]
  refine ⟨fun K vs w => ∃ (pre suf : List Nat) (ps : List Nat) (h1 : Nat → Option Obj) (q' : Option Addr) (c' : Nat), vs = [.slice q' ps.length c', ptr (nxt root suf)] ∧ ns = pre ++ suf ∧ K = suf.length ∧ ps.length = pre.length ∧ LeH h0 h1 ∧ (∀ j x, (pre.map D)[j]? = some x → ∃ a, ps[j]? = some a ∧ h1 a = some (.cells (cpV x).toArray 57 (0, 0))) ∧
    Own e w (famH (node 57 (Value.int .i64) D ah be) (root :: ns) :: imm h1 :: slO 55 1 q' ps.length c' (ps.map ptr) :: blk g 59 [.map (some r), .pointer (some ⟨root, 0, none⟩), .int .i64 (us xs), .int .i64 most] :: mpO (TypeDesc.int .i64) r f ns.length :: Fr 0),
    ⟨ns.length, [], ns, [], h0, none, 0, rfl, rfl, rfl, rfl, LeH.refl _, fun (j : Nat) (x : R3) hj => ex0 hj, ?_⟩, ?_⟩
  · have h : Own e w (slO 55 1 none ([] : List Nat).length 0 (([] : List Nat).map ptr) :: famH (node 57 (Value.int .i64) D ah be) (root :: ns) :: imm h0 :: blk g 59 [.map (some r), .pointer (some ⟨root, 0, none⟩), .int .i64 (us xs), .int .i64 most] :: mpO (TypeDesc.int .i64) r f ns.length :: Fr 0) := Own.slNil h
    exact (Own.sub (h) (by repeat (first | exact Sub.nil _ | exact Sub.rfl _ | (apply Sub.cons; focus ((repeat (first | with_reducible exact Pick.here | apply Pick.there)); done)) | apply Sub.drop)))
  clear h hi0
  intro K w q5 k3 k4 q6
  intros
  rename_i hI
  obtain ⟨pre, suf, ps, h1, q', c', hvs, ens, hK, hpl, le1, hps, h⟩ := hI
  simp at hvs
  obtain ⟨⟨rfl, rfl, rfl⟩, rfl⟩ := hvs
  have hb1 := le1 _ _ hb
  have hrt : ∀ {w : World} {G : List HP}, Own e w (famH (node 57 (Value.int .i64) D ah be) (root :: ns) :: G) → ∀ a, a ∈ root :: ns → ∃ ca, w.heap[a]? = some (.cells ca 57 (0, 0)) := fun h a ha => ⟨_, (h.famOpen ha).get⟩
  refine ⟨_, h.swap.immCell hb1 (i := 0) rfl, smR ⟨_, (Own.ld h (by repeat (first | with_reducible exact Pick.here | apply Pick.there)) (by rfl)), ?_⟩⟩
  cases suf with
  | nil =>
    obtain ⟨ca, hca⟩ := hrt h root (by simp)
    refine ptrNeq (a := root) (b := root) (n := 4) (te := 57) (by kernel_rfl) (by kernel_rfl) hca hca ⟨_, rfl, fun hc => absurd (dec_t hc) (fun hh => hh rfl), fun _ => ?_⟩
    have epre : pre = ns := by rw [ens, List.append_nil]
    subst epre
    have h : Own e w (slO 55 1 q5 ps.length k4 (ps.map ptr) :: imm h1 :: famH (node 57 (Value.int .i64) D ah be) (root :: pre) :: blk g 59 [.map (some r), .pointer (some ⟨root, 0, none⟩), .int .i64 (us xs), .int .i64 most] :: mpO (TypeDesc.int .i64) r f pre.length :: Fr 0) := (Own.sub (h) (by repeat (first | exact Sub.nil _ | exact Sub.rfl _ | (apply Sub.cons; focus ((repeat (first | with_reducible exact Pick.here | apply Pick.there)); done)) | apply Sub.drop)))
    obtain ⟨h2, le2, hR, _, h⟩ := h.slImm
    have h : Own e w (blk g 59 [.map (some r), .pointer (some ⟨root, 0, none⟩), .int .i64 (us xs), .int .i64 most] :: mpO (TypeDesc.int .i64) r f pre.length :: famH (node 57 (Value.int .i64) D ah be) (root :: pre) :: imm h2 :: Fr 0) := (Own.sub (h) (by repeat (first | exact Sub.nil _ | exact Sub.rfl _ | (apply Sub.cons; focus ((repeat (first | with_reducible exact Pick.here | apply Pick.there)); done)) | apply Sub.drop)))
    have h := (lru_int_cl hF hB h).swap
    have elen : ps.length = xs.length := by omega
    rw [elen]
    refine ⟨fun K vs w => ∃ i : Nat, vs = [.int .i64 (i : Int)] ∧ K + i = xs.length ∧ Own e w (imm h2 :: lru_int g most xs :: Fr i), ⟨xs.length, 0, rfl, rfl, h⟩, ?_⟩
    clear h
    intro K w v26 n3
    intros
    rename_i hI
    obtain ⟨i, hvs, hKi, h⟩ := hI
    obtain rfl : n3 = (i : Int) := by simpa using hvs
    refine ⟨fun hc => ?_, fun hc => ?_⟩
    · have hc := dec_t hc
      have hi : i < xs.length := by omega
      have hi2 : (pre.map D)[i]? = some xs[i] := by rw [← hF.2.2.2.2]; exact List.getElem?_eq_getElem hi
      obtain ⟨a, hpa, hca⟩ := hps i _ hi2
      have hca := le2 _ _ hca
      have hpa2 : (ps.map ptr)[i]? = some (ptr a) := by rw [List.getElem?_map, hpa]; rfl
      refine ⟨by omega, hc, (hR _ _ _ h).elem hpa2 fun ad hcell => ⟨_, by rw [Int.toNat_natCast]; exact hcell, h.drw fun w h => smR (smR ⟨_, h.immCell (vs := cpV xs[i]) hca (i := 0) rfl, _, h.immCell (vs := cpV xs[i]) hca (i := 1) rfl, ?_⟩)⟩⟩
      refine RoundR.mono (hround h2 i w hi (LeH.trans le1 le2) h) ?_
      rintro v w (⟨rfl, h⟩ | ⟨rfl, h⟩)
      · exact ⟨_, rfl, fun hx => (by cases hx), fun _ => ⟨K - 1, by omega, i + 1, by rw [wI64 (by omega) (by omega)]; rfl, by omega, h⟩⟩
      · exact ⟨_, rfl, fun _ => .inr h, fun hx => (by cases hx)⟩
    · have hc := dec_f hc
      obtain rfl : i = xs.length := by omega
      exact .inl ⟨h2, LeH.trans le1 le2, h⟩
  | cons p suf =>
    have hpm : p ∈ ns := by rw [ens]; simp
    obtain ⟨ca, hca⟩ := hrt h root (by simp)
    obtain ⟨cb, hcb⟩ := hrt h p (List.mem_cons_of_mem _ hpm)
    refine ptrNeq (a := p) (b := root) (n := 4) (te := 57) (by kernel_rfl) (by kernel_rfl) hcb hca ⟨_, rfl, fun _ => ?_, fun hc => absurd (hrn p hpm) (dec_f hc)⟩
    have hpl2 : pre.length + (suf.length + 1) = xs.length := by rw [← hns, ens]; simp
    refine h.drw fun w h => smR (smR ⟨_, h.ndRd (a := p) (k := 0) (List.mem_cons_of_mem _ hpm) rfl, _, h.ndRd (a := p) (k := 1) (List.mem_cons_of_mem _ hpm) rfl, h.newR fun a6 w h => ?_⟩)
    have h : Own e w (blk a6 57 (cpV (D p)) :: imm h1 :: famH (node 57 (Value.int .i64) D ah be) (root :: ns) :: slO 55 1 q5 ps.length k4 (ps.map ptr) :: blk g 59 [.map (some r), .pointer (some ⟨root, 0, none⟩), .int .i64 (us xs), .int .i64 most] :: mpO (TypeDesc.int .i64) r f ns.length :: Fr 0) := (Own.sub (h) (by repeat (first | exact Sub.nil _ | exact Sub.rfl _ | (apply Sub.cons; focus ((repeat (first | with_reducible exact Pick.here | apply Pick.there)); done)) | apply Sub.drop)))
    obtain ⟨h2, le2, hg6, h⟩ := Own.absorb h
    refine h.newR fun a7 w h => ?_
    refine Own.append (z := [.pointer none]) (b := 8) (news := [ptr a6]) (h := Own.pk (A := slO 55 1 q5 ps.length k4 (ps.map ptr)) h (by repeat (first | with_reducible exact Pick.here | apply Pick.there))) (by kernel_rfl) (by kernel_rfl) (by kernel_rfl) (by kernel_rfl) (by kernel_rfl) (by omega) (Own.blkRd h) rfl (by simp [Value.oneCell']) (by unfold maxLen; omega) (by omega) fun q3 c3 w h _ => ?_
    have e1 : ps.length + 1 = (ps ++ [a6]).length := by simp
    have e2 : ps.map ptr ++ [ptr a6] = (ps ++ [a6]).map ptr := by simp
    rw [e1, e2] at h
    rw [e1]
    have h : Own e w (famH (node 57 (Value.int .i64) D ah be) (root :: ns) :: imm h2 :: slO 55 1 q3 (ps ++ [a6]).length c3 ((ps ++ [a6]).map ptr) :: blk g 59 [.map (some r), .pointer (some ⟨root, 0, none⟩), .int .i64 (us xs), .int .i64 most] :: mpO (TypeDesc.int .i64) r f ns.length :: Fr 0) := (Own.sub (h) (by repeat (first | exact Sub.nil _ | exact Sub.rfl _ | (apply Sub.cons; focus ((repeat (first | with_reducible exact Pick.here | apply Pick.there)); done)) | apply Sub.drop)))
    refine ⟨_, _, _, rfl, smR ⟨_, h.ndRd (a := p) (k := 4) (List.mem_cons_of_mem _ hpm) rfl, K - 1, ?_, pre ++ [p], suf, ps ++ [a6], h2, q3, c3, ?_, by rw [ens]; simp, ?_, by simp [hpl], LeH.trans le1 le2, fun j x hj => ?_, h⟩⟩
    · rw [hK, List.length_cons]; omega
    · have e5 : be p = nxt root suf := by
        have := hF.2.1
        rw [ens] at this
        exact this.nxt2
      rw [e5]
    · rw [hK, List.length_cons]; omega
    · rcases Nat.lt_or_ge j pre.length with hjl | hjl
      · rw [List.map_append, List.getElem?_append_left (by simpa using hjl)] at hj
        obtain ⟨a, g1, g2⟩ := hps j x hj
        exact ⟨a, by rw [List.getElem?_append_left (by omega)]; exact g1, le2 _ _ g2⟩
      · have hj2 := (List.getElem?_eq_some_iff.1 hj).1
        simp at hj2
        obtain rfl : j = pre.length := by omega
        have : x = D p := by simpa using hj.symm
        subst this
        exact ⟨a6, by rw [← hpl]; simp, hg6⟩
theorem fst1_len {k : Int} (L : List R3) : (fst1 L k).length ≤ L.length + 1 := by
  unfold fst1
  split
  · have := drp_len (xs := L) (k := k); simp; omega
  · omega
theorem lrDo {kind k v n : Int} (hx : xs.length ≤ 500) (hxc : xs.length ≤ c) (hI : ImR h0 q (E3 xs)) (h : Own e w (imm h0 :: lru_int g most xs :: F)) : Rets Try.prog 12 #[.pointer (some ⟨g, 0, none⟩), .slice q xs.length c, .int .i64 most, .agg #[.int .u64 kind, .int .i64 k, .int .i64 v, .int .i64 n]] w fun o w' => ∃ h1 q' c' xs', o = .tuple #[.slice q' xs'.length c', .bool true] ∧ LeH h0 h1 ∧ ImR h1 q' (E3 xs') ∧ xs'.length ≤ c' ∧ xs'.length ≤ xs.length + 1 ∧ Own e w' (imm h1 :: lru_int g most xs' :: F) := by
  refine cortadolaw49_do_go _ _ _ _ _ _ _ _ _ (h.newR fun ga w h => ?_)
  obtain ⟨ha0, le0, ha, hh⟩ := Own.absorb h
  clear h
  have h := hh
  clear hh
  have hI := hI.mono le0
  have c0 : ∀ {w : World} {G : List HP} {h1 : Nat → Option Obj}, LeH ha0 h1 → Own e w (imm h1 :: G) → cellAt w ((⟨ga, 0, none⟩ : Addr).add 0) (.int .u64 kind) := fun le h => h.immCell (le _ _ ha) (i := 0) rfl
  have c1 : ∀ {w : World} {G : List HP} {h1 : Nat → Option Obj}, LeH ha0 h1 → Own e w (imm h1 :: G) → cellAt w (((⟨ga, 0, none⟩ : Addr).add 1).add 0) (.int .i64 k) := fun le h => by rw [addr_add_add]; exact h.immCell (le _ _ ha) (i := 1) rfl
  have c2 : ∀ {w : World} {G : List HP} {h1 : Nat → Option Obj}, LeH ha0 h1 → Own e w (imm h1 :: G) → cellAt w (((⟨ga, 0, none⟩ : Addr).add 1).add 1) (.int .i64 v) := fun le h => by rw [addr_add_add]; exact h.immCell (le _ _ ha) (i := 2) rfl
  have c3 : ∀ {w : World} {G : List HP} {h1 : Nat → Option Obj}, LeH ha0 h1 → Own e w (imm h1 :: G) → cellAt w (((⟨ga, 0, none⟩ : Addr).add 1).add 2) (.int .i64 n) := fun le h => by rw [addr_add_add]; exact h.immCell (le _ _ ha) (i := 3) rfl
  have rf := LeH.refl ha0
  refine ⟨_, c1 rf h, Rets.mono (r49Get (by omega) hI h) ?_⟩
  rintro _ w1 ⟨rfl, rfl⟩
  refine ⟨_, _, rfl, _, c0 rf h, by decide, fun _ => ⟨_, c1 rf h, Rets.mono (lrGet_int (k := k) h.swap) ?_⟩, fun _ => ⟨fun _ => ⟨_, c1 rf h, Rets.mono (lrPeek_int (k := k) h.swap) ?_⟩, fun _ => ⟨fun _ => ?_, fun _ => ?_⟩⟩⟩
  · rintro _ w2 ⟨rfl, h⟩
    refine ⟨_, _, rfl, _, c1 rf h.swap, Rets.mono (r49First (k := k) (by omega) hxc hI h.swap) ?_⟩
    rintro _ w3 ⟨h1, q1, c1', rfl, le1, hR1, hc1, h⟩
    refine ⟨_, _, _, rfl, fun _ => ?_, fun hc => absurd rfl (beq_f hc)⟩
    rw [beq_self_eq_true]
    exact ⟨h1, q1, c1', _, rfl, LeH.trans le0 le1, hR1, hc1, fst1_len xs, h⟩
  · rintro _ w2 ⟨rfl, rfl⟩
    refine ⟨_, _, rfl, fun _ => ?_, fun hc => absurd rfl (beq_f hc)⟩
    rw [beq_self_eq_true]
    exact ⟨ha0, _, _, _, rfl, le0, hI, hxc, by omega, h⟩
  · refine h.drw fun w h => ⟨fun w => ∃ h1 G, LeH ha0 h1 ∧ Own e w (imm h1 :: G), ⟨_, _, rf, h⟩, _, fun w ⟨h1, G, le, h⟩ => c1 le h, _, fun w ⟨h1, G, le, h⟩ => c1 le h, Rets.mono (r49Drop (k := k) (by omega) hI h) ?_⟩
    rintro _ w3 ⟨h1, q1, c1', rfl, le1, hR1, hc1, h⟩
    refine ⟨_, _, _, rfl, ⟨_, _, le1, h⟩, Rets.mono (lrDrop_int (k := k) h.swap) ?_⟩
    rintro _ w4 ⟨rfl, h⟩
    refine ⟨_, rfl, ?_⟩
    rw [beq_self_eq_true]
    exact ⟨h1, q1, c1', _, rfl, LeH.trans le0 le1, hR1, hc1, Nat.le_trans drp_len (by omega), h.swap⟩
  · refine ⟨_, _, _, ⟨c1 rf h, c2 rf h, c3 rf h⟩, ?_⟩
    by_cases hb : 0 ≤ n ∧ n ≤ 4611686018427387904 ∧ n ≤ most
    · have hB0 : LrB xs most := by obtain ⟨_, _, _, _, _, _, _, _, hB, _⟩ := lru_int_op h.swap; exact hB
      refine Rets.mono (r49PutOk (v := v) hb hB0 (by omega) hI h) ?_
      rintro _ w3 ⟨h1, j, q1, c1', q2, c2', hj, rfl, le1, hR1, hc1, hR2, h⟩
      refine ⟨_, _, _, _, _, _, _, rfl, _, c1 le1 h, _, c2 le1 h, _, c3 le1 h, Rets.mono (lrPutOk_int hb (by omega) h.swap) ?_⟩
      rintro _ w4 ⟨q3, c3', j2, hj2, rfl, h⟩
      obtain rfl := hj.uniq hj2
      refine ⟨_, _, _, _, rfl, fun _ => ?_, fun hc => absurd hc (by decide)⟩
      rw [gonV_cs] at hR2 h
      have hGl : (((drp xs k).drop j).reverse.map Prod.fst).length = (drp xs k).length - j := by simp
      have hdl : (drp xs k).length ≤ xs.length := drp_len
      have hs := r7Same (F := slO 3 1 q3 ((drp xs k).length - j) c3' (cs .i64 (((drp xs k).drop j).reverse.map Prod.fst)) :: imm h1 :: lru_int g most ((k, v, n) :: (drp xs k).take j) :: F) (G := ((drp xs k).drop j).reverse.map Prod.fst) (q := q3) (c := c3') (q2 := q2) (c2 := c2') (by omega) (fun w h => h.slRd) (fun w h => hR2 _ _ _ (h.drop)) (Own.sub (h) (by repeat (first | exact Sub.nil _ | exact Sub.rfl _ | (apply Sub.cons; focus ((repeat (first | with_reducible exact Pick.here | apply Pick.there)); done)) | apply Sub.drop)))
      rw [hGl] at hs
      refine Rets.mono hs ?_
      rintro _ w5 ⟨rfl, h⟩
      refine ⟨_, rfl, h1, q1, c1', _, rfl, LeH.trans le0 le1, hR1, hc1, ?_, h.drop⟩
      simp only [List.length_cons, List.length_take]; omega
    · refine Rets.mono (r49PutBad (v := v) hb h) ?_
      rintro _ w3 ⟨rfl, h⟩
      refine ⟨_, _, _, _, _, _, _, rfl, _, c1 rf h, _, c2 rf h, _, c3 rf h, Rets.mono (lrPutBad_int hb h.swap) ?_⟩
      rintro _ w4 ⟨rfl, rfl⟩
      refine ⟨_, _, _, _, rfl, fun _ => ?_, fun hc => absurd hc (by decide)⟩
      have hs := r7Same (F := imm ha0 :: lru_int g most xs :: F) (G := []) (q := none) (c := 0) (q2 := none) (c2 := 0) (by simp) (fun w h => .inl rfl) (fun w h => .inl rfl) h
      refine Rets.mono hs ?_
      rintro _ w5 ⟨rfl, h⟩
      exact ⟨_, rfl, ha0, _, _, _, rfl, le0, hI, hxc, by omega, h⟩
end
end Go.Proofs.Ytianklbklggboaa.Eng
