/- Samples: what each function does. -/
import Derived.Test.YtajckpjlliiekaaDoorSamW
import Derived.Test.YtajckpjlliiekaaDoorLgS
import Derived.Test.YtajckpjlliiekaaDoorDiceQ
import Derived.Test.YtajckpjlliiekaaDoorSmaG
namespace Go.Proofs.YtajckpjlliiekaaDoor.Eng
open Go Go.RowKit Go.Proofs
set_option linter.unusedVariables false
set_option linter.unusedSimpArgs false
set_option maxRecDepth 1000000
abbrev sl64 (q : Option Addr) (n c : Nat) (xs : List Int) : HP := slO 32 1 q n c (cs .u64 xs)
abbrev keysL (l : LE2) : List Int := l.map (·.1)
section
variable {e w : World} {F : List HP} {h0 : Nat → Option Obj} {q q2 : Option Addr} {c c2 n m g gt : Nat} {xs ys ins : List Int} {k x : Int} {t : Tr} {used most : Int}
theorem uapp {K : Value → World → Prop} (h : Own e w (sl64 q n c xs :: F)) (hr : RdC w q2 (cs .u64 ys)) (hl : ys.length = m) (hn : n + m ≤ 1000000)
    (hk : ∀ q' c' w', Own e w' (sl64 q' (n + m) c' (xs ++ ys) :: F) → K (.slice q' (n + m) c') w') :
    RunR Tryd.prog (builtinV .append #[22, 22] 22 #[.slice q n c, .slice q2 m c2]) w K := by
  refine Own.append (z := [.int .u64 0]) (b := 8) (news := cs .u64 ys) h (by kernel_rfl) (by kernel_rfl) (by kernel_rfl) (by kernel_rfl) (by kernel_rfl) (by omega) hr ?_ (cs_one _ _) ?_ (by omega) ?_
  · rw [cs_len, hl]; omega
  · unfold maxLen; omega
  · intro q' c' w' h _
    rw [← cs_app] at h
    exact hk q' c' w' h
theorem uput {K : Value → World → Prop} {g : Nat} (h : Own e w (blk g 32 [.int .u64 x] :: sl64 q xs.length c xs :: F)) (hn : xs.length ≤ 100000)
    (hk : ∀ q' c' w', Own e w' (sl64 q' (xs ++ [x]).length c' (xs ++ [x]) :: F) → K (.slice q' (xs ++ [x]).length c') w') :
    RunR Tryd.prog (builtinV .append #[22, 22] 22 #[.slice q xs.length c, .slice (some ⟨g, 0, none⟩) 1 c2]) w K := by
  have h1 : Own e w (blk g 32 (cs .u64 [x]) :: sl64 q xs.length c xs :: F) := h
  refine uapp (ys := [x]) h.swap h1.blkRd rfl (by omega) fun q' c' w' h => ?_
  have el : (xs ++ [x]).length = xs.length + 1 := by simp
  have := hk q' c' w' (by rw [el]; exact h.swap.drop)
  rwa [el] at this
theorem uempty {g : Nat} (h : Own e w (blk g 32 [] :: F)) : Own e w (sl64 (some ⟨g, 0, none⟩) 0 0 [] :: F) := Own.slMk (rest := []) (by rfl) (by omega) (by omega) (by rfl) h
theorem uClone (h : Own e w F) (hr : ∀ w, Own e w F → RdC w q (cs .u64 xs)) (hn : xs.length ≤ 1000) :
    Rets Tryd.prog 43 #[.slice q xs.length c] w fun v w' => ∃ q' c', v = .slice q' xs.length c' ∧ Own e w' (sl64 q' xs.length c' xs :: F) := by
  refine clone64_go _ _ _ ⟨fun hc => ?_, fun hc => ?_⟩
  · cases q with
    | some a => cases hc
    | none =>
      have hb : xs = [] := by
        rcases hr w h with hr | ⟨a, ha, _⟩
        · simpa [cs] using hr
        · cases ha
      subst hb
      exact ⟨_, _, rfl, h.slNil⟩
  · refine h.newR fun g w1 h => ?_
    refine uapp (uempty h) (hr _ h.drop) rfl (by omega) fun q' c' w' h => ?_
    rw [List.nil_append] at h
    simp only [Nat.zero_add] at h ⊢
    exact ⟨_, _, _, rfl, _, _, rfl, h⟩
theorem uContains (h : Own e w F) (hr : ∀ w, Own e w F → RdC w q (cs .u64 ins)) (hn : ins.length ≤ 1000) :
    Rets Tryd.prog 67 #[.slice q ins.length c, .int .u64 k] w fun v w' => v = .bool (decide (k ∈ ins)) ∧ Own e w' F := by
  have hI : Rets Tryd.prog 86 #[.slice q ins.length c, .int .u64 k] w fun v w' => ∃ r : Int, v = .int .i64 r ∧ (0 ≤ r ↔ k ∈ ins) ∧ Own e w' F := by
    refine index64_go _ _ _ _ ⟨fun z vs w => ∃ i : Nat, vs = [.int .i64 (i : Int)] ∧ z + i = ins.length ∧ k ∉ ins.take i ∧ Own e w F, ⟨ins.length, 0, rfl, rfl, by simp, h⟩, ?_⟩
    clear h
    intro z w
    intros
    rename_i hI2
    obtain ⟨i, hvs, hz, hno, h⟩ := hI2
    simp at hvs
    subst hvs
    refine ⟨fun hc => ?_, fun hc => ?_⟩
    · have hc := dec_t hc
      have hi : i < ins.length := by omega
      have et : ins.take (i + 1) = ins.take i ++ [ins[i]] := List.take_succ_eq_append_getElem hi
      refine ⟨by omega, by omega, (hr w h).int hi fun a ha => ⟨_, by rw [Int.toNat_natCast]; exact ha, fun hq => ?_, fun hq => ?_⟩⟩
      · have hq := beq_t hq
        exact ⟨_, rfl, ⟨fun _ => by rw [hq]; exact List.getElem_mem hi, fun _ => by omega⟩, h⟩
      · have hq := beq_f hq
        refine ⟨z - 1, by omega, i + 1, by rw [wI64 (by omega) (by omega)]; rfl, by omega, ?_, h⟩
        rw [et, List.mem_append, List.mem_singleton]
        exact fun hh => hh.elim hno hq
    · have hc := dec_f hc
      obtain rfl : i = ins.length := by omega
      rw [List.take_length] at hno
      exact ⟨_, rfl, ⟨fun hh => absurd hh (by decide), fun hh => absurd hh hno⟩, h⟩
  refine contains64_go _ _ _ _ ?_
  refine Rets.mono hI ?_
  rintro _ w ⟨r, rfl, hr2, h⟩
  refine ⟨_, rfl, ?_, h⟩
  have : decide (r ≥ 0) = decide (k ∈ ins) := decide_eq_decide.2 hr2
  rw [this]
theorem uAmong (h : Own e w F) (hr : ∀ w, Own e w F → RdC w q (cs .u64 ins)) (hn : ins.length ≤ 1000) :
    Rets Tryd.prog 13 #[.slice q ins.length c, .int .u64 k] w fun v w' => v = .bool (decide (k ∈ ins)) ∧ Own e w' F := by
  refine cortadoref25_Among_go _ _ _ _ ⟨fun z vs w => ∃ i : Nat, vs = [.int .i64 (i : Int)] ∧ z + i = ins.length ∧ k ∉ ins.take i ∧ Own e w F, ⟨ins.length, 0, rfl, rfl, by simp, h⟩, ?_⟩
  clear h
  intro z w
  intros
  rename_i hI2
  obtain ⟨i, hvs, hz, hno, h⟩ := hI2
  simp at hvs
  subst hvs
  refine ⟨fun hc => ?_, fun hc => ?_⟩
  · have hc := dec_t hc
    have hi : i < ins.length := by omega
    have et : ins.take (i + 1) = ins.take i ++ [ins[i]] := List.take_succ_eq_append_getElem hi
    refine ⟨by omega, by omega, (hr w h).int hi fun a ha => ⟨_, by rw [Int.toNat_natCast]; exact ha, fun hq => ?_, fun hq => ?_⟩⟩
    · have hq := beq_t hq
      exact ⟨by rw [decide_eq_true (by rw [← hq]; exact List.getElem_mem hi)], h⟩
    · have hq := beq_f hq
      refine ⟨z - 1, by omega, i + 1, by rw [wI64 (by omega) (by omega)]; rfl, by omega, ?_, h⟩
      rw [et, List.mem_append, List.mem_singleton]
      exact fun hh => hh.elim hno (fun e => hq e.symm)
  · have hc := dec_f hc
    obtain rfl : i = ins.length := by omega
    rw [List.take_length] at hno
    exact ⟨by rw [decide_eq_false hno], h⟩
theorem uSame (h : Own e w F) (hr : ∀ w, Own e w F → RdC w q (cs .u64 xs)) (hr2 : ∀ w, Own e w F → RdC w q2 (cs .u64 xs)) (hn : xs.length ≤ 1000) :
    Rets Tryd.prog 14 #[.slice q xs.length c, .slice q2 xs.length c2] w fun v w' => v = .bool true ∧ Own e w' F := by
  refine cortadoref25_Same_go _ _ _ _ _ _ ⟨fun hc => (by simp at hc), fun _ => ⟨fun z vs w => ∃ i : Nat, vs = [.int .i64 (i : Int)] ∧ z + i = xs.length ∧ Own e w F, ⟨xs.length, 0, rfl, rfl, h⟩, ?_⟩⟩
  clear h
  intro z w
  intros
  rename_i hI2
  obtain ⟨i, hvs, hz, h⟩ := hI2
  simp at hvs
  subst hvs
  refine ⟨fun hc => ?_, fun hc => ⟨rfl, h⟩⟩
  have hc := dec_t hc
  have hi : i < xs.length := by omega
  refine h.drw fun w h => ⟨by omega, by omega, (hr w h).int hi fun a ha => ⟨by omega, by omega, (hr2 w h).int hi fun a2 ha2 => ⟨_, by rw [Int.toNat_natCast]; exact ha, _, by rw [Int.toNat_natCast]; exact ha2, fun hq => (by simp at hq), fun _ => ⟨z - 1, by omega, i + 1, by rw [wI64 (by omega) (by omega)]; rfl, by omega, h⟩⟩⟩⟩
theorem snx {f : Nat} (hT : TreeA h0 t gt) (hs : t.size ≤ 700) (hf : f ≤ 1000) (hn : ins.length ≤ 1000) (hr : ∀ w, Own e w (imm h0 :: ldB g gt used most :: F) → RdC w q (cs .u64 ins)) (h : Own e w (imm h0 :: ldB g gt used most :: F)) :
    Rets Tryd.prog 44 #[.pointer (some ⟨g, 0, none⟩), .int .i64 (f : Int), .slice q ins.length c] w fun v w' => v = .tuple #[.int .u64 ((nxtK (keysL t.toL) f ins).getD 0), .bool (nxtK (keysL t.toL) f ins).isSome] ∧ Own e w' (imm h0 :: ldB g gt used most :: F) := by
  have hsz := Tr.size_toL t
  have hkl : (keysL t.toL).length = t.size := by rw [List.length_map, hsz]
  refine sample_next_go _ _ _ _ _ ?_
  refine Rets.mono (ldLen hT h) ?_
  clear h
  rintro _ w ⟨rfl, h⟩
  refine ⟨_, rfl, fun z vs w => ∃ i : Nat, vs = [.int .i64 (i : Int)] ∧ z + i = t.size ∧ (∀ j, j < i → rndK (keysL t.toL) f j ∈ ins) ∧ Own e w (imm h0 :: ldB g gt used most :: F), ⟨t.size, 0, rfl, rfl, fun j hj => absurd hj (by omega), h⟩, ?_⟩
  clear h
  intro z w
  intros
  rename_i hI2
  obtain ⟨i, hvs, hz, hno, h⟩ := hI2
  simp at hvs
  subst hvs
  refine ⟨fun hc => ?_, fun hc => ?_⟩
  · have hc := dec_t hc
    have hi : i < t.size := by omega
    have em : Int.tmod (IntKind.wrap .i64 ((f : Int) + (i : Int))) (t.size : Int) = (((f + i) % t.size : Nat) : Int) := by
      rw [wI64 (by omega) (by omega), show (f : Int) + (i : Int) = ((f + i : Nat) : Int) by omega, Int.tmod_eq_emod_of_nonneg (by omega), Int.natCast_emod]
    have hlt : (f + i) % t.size < t.size := Nat.mod_lt _ (by omega)
    have eK : ((t.toL[(f + i) % t.size]?).getD (0, 0)).1 = rndK (keysL t.toL) f i := by
      unfold rndK
      rw [hkl, List.getD_eq_getElem?_getD, List.getElem?_map]
      rw [List.getElem?_eq_getElem (by omega)]; rfl
    refine ⟨by omega, ?_⟩
    rw [em]
    refine Rets.mono (ldAt hT hs (by omega) h) ?_
    clear h
    rintro _ w ⟨rfl, h⟩
    rw [eK]
    refine ⟨_, _, rfl, ?_⟩
    refine Rets.mono (uContains h hr hn) ?_
    clear h
    rintro _ w ⟨rfl, h⟩
    refine ⟨_, rfl, fun hq => ?_, fun hq => ?_⟩
    · have hq : rndK (keysL t.toL) f i ∉ ins := by simpa using hq
      rw [nxtK_at (by omega) hq hno]
      exact ⟨rfl, h⟩
    · have hq : rndK (keysL t.toL) f i ∈ ins := by simpa using hq
      refine ⟨z - 1, by omega, i + 1, by rw [wI64 (by omega) (by omega)]; rfl, by omega, fun j hj => ?_, h⟩
      by_cases e1 : j = i
      · rw [e1]; exact hq
      · exact hno j (by omega)
  · have hc := dec_f hc
    rw [nxtK_none (fun j hj => hno j (by omega))]
    exact ⟨rfl, h⟩
/-- The rank that a draw tells. -/
def belN (D : List Int) (s : Int) (n u : Nat) : Nat := (belI (drawI D s u) (n : Int)).toNat
theorem belN_int (D : List Int) (s : Int) (n u : Nat) : ((belN D s n u : Nat) : Int) = belI (drawI D s u) (n : Int) := by
  have := (belI_bd (v := drawI D s u) (n := (n : Int)) (drawI_M64 D s u).1).1
  unfold belN; omega
theorem belN_lt (D : List Int) (s : Int) {n : Nat} (u : Nat) (h : 1 ≤ n) : belN D s n u < n := by
  have h1 := belN_int D s n u
  have h2 := (belI_bd (v := drawI D s u) (n := (n : Int)) (drawI_M64 D s u).1).2 (by omega)
  omega
abbrev outS (D : List Int) (s : Int) (ks ins : List Int) (u : Nat) : List Int × Nat := filS ks (belN D s ks.length) 5 ins u
theorem smFill {D : List Int} {s : Int} {gd u : Nat} (hT : TreeA h0 t gt) (hs : t.size ≤ 700) (hn : ins.length ≤ 900) (hu : u ≤ 9000) (hD : D.length * 8 ≤ 140737488351232)
    (hm : ∀ w F, Own e w (imm h0 :: F) → RdC w mixQ mixC) (hr : ∀ w F, Own e w (imm h0 :: F) → RdC w q (cs .u64 ins)) (h : Own e w (imm h0 :: ldB g gt used most :: dicO gd D s u :: F)) :
    Rets Tryd.prog 10 #[.pointer (some ⟨g, 0, none⟩), .slice q ins.length c, .pointer (some ⟨gd, 0, none⟩)] w fun v w' => ∃ q' c', v = .slice q' (outS D s (keysL t.toL) ins u).1.length c' ∧ Own e w' (sl64 q' (outS D s (keysL t.toL) ins u).1.length c' (outS D s (keysL t.toL) ins u).1 :: imm h0 :: ldB g gt used most :: dicO gd D s (outS D s (keysL t.toL) ins u).2 :: F) := by
  have hsz := Tr.size_toL t
  have hkl : (keysL t.toL).length = t.size := by rw [List.length_map, hsz]
  obtain ⟨R, hR⟩ : ∃ R, R = outS D s (keysL t.toL) ins u := ⟨_, rfl⟩
  rw [← hR]
  refine sample_Fill_go _ _ _ _ _ ?_
  refine Rets.mono (uClone h (fun w h => hr w _ h) (by omega)) ?_
  clear h
  rintro _ w ⟨q0, c0, rfl, h⟩
  refine ⟨_, _, _, rfl, fun z vs w => ∃ (out : List Int) (v : Nat) (q' : Option Addr) (c' : Nat), vs = [.slice q' out.length c'] ∧ filS (keysL t.toL) (belN D s (keysL t.toL).length) z out v = R ∧ 5 ≤ out.length + z ∧ out.length ≤ 905 ∧ v + z ≤ 9005 ∧ Own e w (sl64 q' out.length c' out :: imm h0 :: ldB g gt used most :: dicO gd D s v :: F), ⟨5, ins, u, q0, c0, rfl, hR.symm, by omega, by omega, by omega, h⟩, ?_⟩
  clear h
  rintro z w qz k5 k6
  intros
  rename_i hI2
  obtain ⟨out, v, q1, c1, hvs, hfil, h5, hol, hv, h⟩ := hI2
  obtain ⟨rfl, rfl, rfl⟩ : qz = q1 ∧ k5 = out.length ∧ k6 = c1 := by simpa using hvs
  have nx := fun (w : World) (f : Nat) (hf : f ≤ 1000) (h : Own e w (sl64 qz out.length k6 out :: imm h0 :: ldB g gt used most :: dicO gd D s v :: F)) =>
    snx (c := k6) (f := f) (F := sl64 qz out.length k6 out :: dicO gd D s v :: F) hT hs hf (show out.length ≤ 1000 by omega) (fun w (h : Own e w _) => Own.rdP (T := 32) h (by repeat (first | with_reducible exact Pick.here | apply Pick.there))) ((Own.sub (h) (by repeat (first | with_reducible exact Sub.nil _ | with_reducible exact Sub.rfl _ | (apply Sub.cons; focus ((repeat (first | with_reducible exact Pick.here | apply Pick.there)); done)) | apply Sub.drop))))
  refine ⟨fun hc => ?_, fun hc => ?_⟩
  · have hc := dec_t hc
    refine Rets.mono (nx w 0 (by omega) h) ?_
    clear h
    rintro _ w ⟨rfl, h⟩
    refine ⟨_, _, rfl, fun hq => ?_, fun hq => ?_⟩
    · have hq : (nxtK (keysL t.toL) 0 out) = none := by simpa using hq
      have hm2 := moreK_none hq
      rw [filS_stop (by rw [hm2]; simp)] at hfil
      rw [← hfil]
      exact ⟨_, _, rfl, (Own.sub (h) (by repeat (first | with_reducible exact Sub.nil _ | with_reducible exact Sub.rfl _ | (apply Sub.cons; focus ((repeat (first | with_reducible exact Pick.here | apply Pick.there)); done)) | apply Sub.drop)))⟩
    · have hq : (nxtK (keysL t.toL) 0 out).isSome = true := by simpa using hq
      have hm2 := moreK_some hq
      have hne : 1 ≤ t.size := by
        obtain ⟨x, hx, _⟩ := List.any_eq_true.1 hm2
        have := List.length_pos_of_mem hx
        omega
      refine Rets.mono (ldLen hT h) ?_
      clear h
      rintro _ w ⟨rfl, h⟩
      have h : Own e w (dicO gd D s v :: imm h0 :: ldB g gt used most :: sl64 qz out.length k6 out :: F) := (Own.sub (h) (by repeat (first | with_reducible exact Sub.nil _ | with_reducible exact Sub.rfl _ | (apply Sub.cons; focus ((repeat (first | with_reducible exact Pick.here | apply Pick.there)); done)) | apply Sub.drop)))
      refine ⟨_, rfl, ?_⟩
      refine Rets.mono (dcBelow (n := (t.size : Int)) h (fun w h => hm w _ h) hD (by omega) (by omega)) ?_
      clear h
      rintro _ w ⟨rfl, h⟩
      rw [if_neg (by omega)] at h
      have eb := belN_int D s t.size v
      have elt := belN_lt D s (n := t.size) v hne
      obtain ⟨B, hB⟩ : ∃ B, B = belN D s t.size v := ⟨_, rfl⟩
      rw [← hB] at eb elt
      rw [← eb]
      refine ⟨_, rfl, ?_⟩
      refine Rets.mono (snx (c := k6) (f := B) (F := sl64 qz out.length k6 out :: dicO gd D s (v + 1) :: F) hT hs (by omega) (show out.length ≤ 1000 by omega) (fun w (h : Own e w _) => Own.rdP (T := 32) h (by repeat (first | with_reducible exact Pick.here | apply Pick.there))) ((Own.sub (h) (by repeat (first | with_reducible exact Sub.nil _ | with_reducible exact Sub.rfl _ | (apply Sub.cons; focus ((repeat (first | with_reducible exact Pick.here | apply Pick.there)); done)) | apply Sub.drop))))) ?_
      clear h
      rintro _ w ⟨rfl, h⟩
      obtain ⟨z', rfl⟩ : ∃ z', z = z' + 1 := ⟨z - 1, by omega⟩
      rw [filS_step ⟨by omega, hm2⟩, hkl, ← hB] at hfil
      obtain ⟨X, hX⟩ : ∃ X, X = (nxtK (keysL t.toL) B out).getD 0 := ⟨_, rfl⟩
      rw [← hX] at hfil ⊢
      refine ⟨_, _, rfl, h.newR fun ge w h => ?_⟩
      have h : Own e w (blk ge 32 [.int .u64 X] :: sl64 qz out.length k6 out :: imm h0 :: ldB g gt used most :: dicO gd D s (v + 1) :: F) := (Own.sub (h) (by repeat (first | with_reducible exact Sub.nil _ | with_reducible exact Sub.rfl _ | (apply Sub.cons; focus ((repeat (first | with_reducible exact Pick.here | apply Pick.there)); done)) | apply Sub.drop)))
      refine uput h (by omega) fun q3 c3 w h => ⟨_, _, _, rfl, z', by omega, out ++ [X], v + 1, q3, c3, rfl, by rw [hkl]; exact hfil, by simp; omega, by simp; omega, by omega, h⟩
  · have hc := dec_f hc
    rw [filS_stop (by omega)] at hfil
    rw [← hfil]
    exact ⟨_, _, rfl, h⟩
end
end Go.Proofs.YtajckpjlliiekaaDoor.Eng
