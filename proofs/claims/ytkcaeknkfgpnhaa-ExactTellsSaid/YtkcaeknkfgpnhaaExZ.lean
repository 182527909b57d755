/- ExactTells: the law. -/
import Derived.Test.YtkcaeknkfgpnhaaExY
namespace Go.Proofs.Ytkcaeknkfgpnhaa.Eng
open Go Go.RowKit Go.Proofs
set_option linter.unusedVariables false
set_option linter.unusedSimpArgs false
set_option maxRecDepth 1000000
theorem slcA0 (q : Option Addr) (c z : Nat) : slcA q 0 c z = q := by
  unfold slcA
  split
  · rfl
  · cases q with
    | none => rfl
    | some a =>
      show some (a.add (0 * z)) = some a
      rw [Nat.zero_mul]; rfl
theorem nin1 {T : List Int} (a b : Int) (h : b ∉ T) : decide (b ∉ T ++ [a]) = (a != b) := by
  by_cases e : a = b
  · subst e; simp
  · have e' : ¬ b = a := fun hh => e hh.symm
    simp [h, e, e']
theorem nin2 {T : List Int} (a b : Int) (h : b ∈ T) : decide (b ∉ T ++ [a]) = false := by simp [h]
section
variable {e w : World} {F : List HP} {h0 : Nat → Option Obj} {t : Tr} {g gt : Nat} {y ct lim : Int} {l : List Int}
theorem exAddN (R : Rl lim t l) (hl : 1 ≤ lim ∧ lim ≤ 4096) (hs : t.size ≤ 200) (hT : TreeA h0 t gt) (h : Own e w (imm h0 :: exB g gt (Int.tmod (l.length : Int) lim) lim :: F)) : Rets Try.prog 59 #[.pointer (some ⟨g, 0, none⟩), .int .u64 y] w fun v w' => v = .tuple #[] ∧ EX e F h0 g (nxE lim l.length y t) (Int.tmod ((l.length : Int) + 1) lim) lim w' := by
  obtain ⟨c0, c1, c2⟩ := tmod_step (i := (l.length : Int)) (by omega) hl.1 rfl
  refine Rets.mono (exAdd (x := y) hT hs R.1 (R.bd (y := y)).1 (R.bd (y := y)).2 ⟨c0, c1, hl.2⟩ h) ?_
  clear h
  rintro _ w ⟨rfl, ⟨hc, h⟩ | ⟨hc, h⟩⟩
  · rw [if_pos hc] at c2
    unfold nxE
    rw [c2, if_pos rfl]; exact ⟨rfl, h⟩
  · rw [if_neg (by omega)] at c2
    unfold nxE
    rw [c2, if_neg (by omega)]; exact ⟨rfl, h⟩
theorem exEstN {x : Int} (R : Rl lim t l) (hs : t.size ≤ 700) (hT : TreeA h0 t gt) (h : Own e w (imm h0 :: exB g gt ct lim :: F)) : Rets Try.prog 62 #[.pointer (some ⟨g, 0, none⟩), .int .u64 x] w fun v w' => v = .int .i64 (knE (kn lim x l)) ∧ Own e w' (imm h0 :: exB g gt ct lim :: F) := by
  have hb := (R.bd (y := x)).1
  have := exEst (x := x) hT hs ⟨hb.1, by omega⟩ h
  rw [R.val, k2v_N, k2v_B] at this
  exact this
theorem exAwake (h : Own e w (imm h0 :: F)) : Rets Try.prog 57 #[] w fun v w' => v = .bool true ∧ Own e w' (imm h0 :: F) := by
  refine cortadolaw14_awake_go ?_
  refine Rets.mono (exNew (n := 4) h) ?_
  clear h
  rintro _ w ⟨g, rfl, h1, gu, le1, hU, h⟩
  rw [show maxI 1 (minI 4 4096) = (4 : Int) by decide] at h
  refine ⟨_, rfl, h.newR fun ga w h => ?_⟩
  let S : Nat → World → Prop := fun i w => ∃ (t : Tr) (h1 : Nat → Option Obj) (gu : Nat), Rl 4 t (([7, 7, 7] : List Int).take i) ∧ t.size ≤ i ∧ LeH h0 h1 ∧ TreeA h1 t gu ∧ Own e w (imm h1 :: exB g gu (Int.tmod (i : Int) 4) 4 :: blk ga 53 [.int .u64 7, .int .u64 7, .int .u64 7] :: F)
  have h : Own e w (imm h1 :: exB g gu 0 4 :: blk ga 53 [.int .u64 7, .int .u64 7, .int .u64 7] :: F) := (Own.sub (h) (by repeat (first | with_reducible exact Sub.nil _ | with_reducible exact Sub.rfl _ | (apply Sub.cons; focus ((repeat (first | with_reducible exact Pick.here | apply Pick.there)); done)) | apply Sub.drop)))
  have hS : S 0 w := ⟨.nil, h1, gu, Rl.nil 4, Nat.le_refl _, le1, hU, h⟩
  clear h
  refine Rets.mono (exPush (g := g) (L := [7, 7, 7]) (q := some ⟨ga, 0, none⟩) (c := 3) S (by decide) (fun i w hS => ?_) (fun i w hi hS => ?_) hS) ?_
  · obtain ⟨_, _, _, _, _, _, _, h⟩ := hS
    have h : Own e w (blk ga 53 [.int .u64 7, .int .u64 7, .int .u64 7] :: _) := h.drop.drop
    exact h.blkRd
  · obtain ⟨t, h2, gv, R, hs, le2, hT, h⟩ := hS
    have hi : i < 3 := hi
    have hti : (([7, 7, 7] : List Int).take i).length = i := by simp; omega
    have R2 := R.next (y := ([7, 7, 7] : List Int)[i])
    have ha := exAddN (y := ([7, 7, 7] : List Int)[i]) R ⟨by decide, by decide⟩ (by omega) hT (by rw [hti]; exact h)
    rw [hti] at ha R2
    refine Rets.mono ha ?_
    clear h ha
    rintro _ w ⟨rfl, h3, gw, le3, hT3, h⟩
    exact ⟨rfl, _, h3, gw, by rw [List.take_succ_eq_append_getElem hi]; exact R2, nxE_size hs, LeH.trans le2 le3, hT3, h⟩
  · rintro _ w ⟨rfl, t, h2, gv, R, hs, le2, hT, h⟩
    have R : Rl 4 t [7, 7, 7] := R
    have hs : t.size ≤ 3 := hs
    refine ⟨rfl, ?_⟩
    refine Rets.mono (exEstN (x := 7) R (by omega) hT h) ?_
    clear h
    rintro _ w ⟨rfl, h⟩
    refine ⟨_, rfl, fun _ => ?_, fun hc => absurd hc (by decide)⟩
    refine Rets.mono (exCount h) ?_
    clear h
    rintro _ w ⟨rfl, h⟩
    refine ⟨_, rfl, fun _ => ?_, fun hc => absurd hc (by decide)⟩
    refine Rets.mono (exLen hT h) ?_
    rintro _ w ⟨rfl, h⟩
    have e1 := R.all (L := [] ++ [7]) (by simp)
    rw [cnt_step [] 7 R.1, if_pos ⟨by simp, R.some.2 (by decide)⟩] at e1
    have e2 : t.size = 1 := by rw [← e1]; simp
    rw [e2]
    have h : Own e w (imm h2 :: F) := (Own.sub (h) (by repeat (first | exact Sub.nil _ | exact Sub.rfl _ | (apply Sub.cons; focus ((repeat (first | with_reducible exact Pick.here | apply Pick.there)); done)) | apply Sub.drop)))
    exact ⟨_, rfl, rfl, h.immLe le2⟩
end
section
variable {W : World} {q : Option Addr} {c : Nat} {L : List Int} {n : Int}
theorem ExactTells_spec (hnw : (Lit.int .i64 n).wf = true) (hb : RdC W q (cs .u64 L)) (hm : L.length ≤ maxLen) (hc : L.length ≤ c) (hw : ∀ x ∈ L, (Lit.int .u64 x).wf = true) :
    Rets Try.prog 9 #[.int .i64 n, .slice q L.length c] W fun v w' => v = .bool true ∧ Below W.heap.size W w' := by
  refine Rets.mono (k := fun v w' => v = .bool true ∧ Own W w' [snap W]) ?_ (fun v w' h => ⟨h.1, h.2.below⟩)
  have h := Own.begin W
  rw [snap_imm] at h ⊢
  have hrd : ∀ {h1 : Nat → Option Obj} {w F}, LeH (fun b => W.heap[b]?) h1 → Own W w (imm h1 :: F) → RdC w q (cs .u64 L) := fun le h => Own.snapRd (W := W) (h.immLe le) hb
  have aw : ∀ {h1 : Nat → Option Obj} {w}, LeH (fun b => W.heap[b]?) h1 → Own W w [imm h1] → Rets Try.prog 57 #[] w fun v w' => ∃ b, v = Value.bool b ∧ (Value.bool b) = .bool true ∧ Own W w' [imm (fun b => W.heap[b]?)] := fun le h => by
    refine Rets.mono (exAwake h) ?_
    rintro _ w ⟨rfl, h⟩
    exact ⟨_, rfl, rfl, h.immLe le⟩
  refine cortadolaw14_ExactTells_go _ _ _ _ ⟨fun hx => aw (LeH.refl _) h, fun hx => ?_⟩
  have hx := dec_f hx
  refine Rets.mono (exNew (n := n) h) ?_
  clear h
  rintro _ w ⟨g, rfl, h1, gu, le1, hU, h⟩
  have hlim : 1 ≤ maxI 1 (minI n 4096) ∧ maxI 1 (minI n 4096) ≤ 4096 := by unfold maxI minI; split <;> split <;> omega
  have hest := fun (M : List Int) (x : Int) (cc : Nat) (F : List HP) (w : World) => rxEst (e := W) (w := w) (F := F) (q := q) (L := M) (c := cc) (n := n) (x := x)
  generalize maxI 1 (minI n 4096) = lim at hlim hest h ⊢
  refine ⟨_, rfl, fun k vs w => ∃ (i : Nat) (t : Tr) (h1 : Nat → Option Obj) (gu : Nat), vs = [.int .i64 (i : Int)] ∧ k + i = L.length ∧ Rl lim t (L.take i) ∧ t.size ≤ i ∧ LeH (fun b => W.heap[b]?) h1 ∧ TreeA h1 t gu ∧ Own W w [imm h1, exB g gu (Int.tmod (i : Int) lim) lim], ⟨L.length, 0, .nil, h1, gu, rfl, rfl, Rl.nil lim, Nat.le_refl _, le1, hU, by rw [show Int.tmod ((0 : Nat) : Int) lim = 0 from Int.zero_tmod lim]; exact h⟩, ?_⟩
  clear h hU le1
  rintro z w v3 n1
  intros
  rename_i hI
  obtain ⟨i, t, h2, gv, hvs, hz, R, hs, le2, hT, h⟩ := hI
  obtain rfl : n1 = (i : Int) := by simpa using hvs
  refine ⟨fun hc1 => ?_, fun hc1 => ?_⟩
  · have hc1 := dec_t hc1
    have hi : i < L.length := by omega
    have hti : (L.take i).length = i := by simp; omega
    have et : L.take (i + 1) = L.take i ++ [L[i]] := List.take_succ_eq_append_getElem hi
    have R2 := R.next (y := L[i])
    rw [← et] at R2
    refine ⟨by omega, by omega, (hrd le2 h).int hi fun a ha => ⟨_, by rw [Int.toNat_natCast]; exact ha, ?_⟩⟩
    have hadd := exAddN (y := L[i]) R hlim (by omega) hT (by rw [hti]; exact h)
    rw [hti] at hadd R2
    refine Rets.mono hadd ?_
    clear h hadd
    rintro _ w ⟨rfl, h3, gw, le3, hT3, h⟩
    have hs3 : (nxE lim i L[i] t).size ≤ i + 1 := nxE_size hs
    obtain ⟨u, hu⟩ : ∃ u, u = nxE lim i L[i] t := ⟨_, rfl⟩
    rw [← hu] at R2 hT3 hs3
    have le4 : LeH (fun b => W.heap[b]?) h3 := LeH.trans le2 le3
    have ei : IntKind.wrap .i64 ((i : Int) + 1) = ((i + 1 : Nat) : Int) := by rw [wI64 (by omega) (by omega)]; rfl
    have hRl : (L.take (i + 1)).length = i + 1 := by simp; omega
    rw [ei]
    clear hu
    let S : World → Prop := fun w => Own W w [imm h3, exB g gw (Int.tmod ((i + 1 : Nat) : Int) lim) lim]
    have h : S w := h
    refine ⟨rfl, Own.drw (show Own W w _ from h) fun w h => ⟨by omega, ?_⟩⟩
    refine Rets.mono (exCount h) ?_
    clear h
    rintro _ w ⟨rfl, h⟩
    refine ⟨_, rfl, fun hq => (by simp at hq), fun _ => ?_⟩
    refine ⟨fun k vs w => ∃ x : Nat, vs = [.int .i64 ((u.toL.countP (fun e => decide (e.1 ∈ L.take x)) : Nat) : Int), .int .i64 (x : Int)] ∧ k + x = L.length ∧ S w, ⟨L.length, 0, by simp, rfl, h⟩, ?_⟩
    clear h
    rintro z2 w v82 n4 n5
    intros
    rename_i hI
    obtain ⟨x, hvs, hz2, h⟩ := hI
    obtain ⟨rfl, rfl⟩ : n4 = ((u.toL.countP (fun e => decide (e.1 ∈ L.take x)) : Nat) : Int) ∧ n5 = (x : Int) := by simpa using hvs
    have hcl : u.toL.countP (fun e => decide (e.1 ∈ L.take x)) ≤ 41 := by
      have := List.countP_le_length (p := fun e : Int × Int => decide (e.1 ∈ L.take x)) (l := u.toL)
      rw [Tr.size_toL] at this
      omega
    refine ⟨fun hc2 => ?_, fun hc2 => ?_⟩
    · have hc2 := dec_t hc2
      have hxl : x < L.length := by omega
      have ex : L.take (x + 1) = L.take x ++ [L[x]] := List.take_succ_eq_append_getElem hxl
      have hcs := cnt_step (L.take x) L[x] R2.1
      rw [← ex] at hcs
      refine Own.drw (show Own W w _ from h) fun w h => ⟨by omega, by omega, by omega, by omega, (hrd le4 h).int hxl fun a ha => ⟨_, by rw [Int.toNat_natCast]; exact ha, ?_⟩⟩
      rw [slcA0, Int.toNat_natCast, Nat.sub_zero, Nat.sub_zero]
      have hE := hest (L.take (i + 1)) L[x] c [imm h3, exB g gw (Int.tmod ((i + 1 : Nat) : Int) lim) lim] w (fun w h => by
        have h1 := (hrd le4 h).take (i + 1)
        rwa [show (cs .u64 L).take (i + 1) = cs .u64 (L.take (i + 1)) by simp [cs]] at h1) (by omega) h
      rw [hRl] at hE
      refine Rets.mono hE ?_
      clear h hE
      rintro _ w ⟨rfl, h⟩
      refine ⟨_, rfl, by omega, by omega, (hrd le4 h).int hxl fun a ha => ⟨_, by rw [Int.toNat_natCast]; exact ha, ?_⟩⟩
      refine Rets.mono (exEstN (x := L[x]) R2 (by omega) hT3 h) ?_
      clear h
      rintro _ w ⟨rfl, h⟩
      have hsome := R2.some (x := L[x])
      generalize knE (kn lim L[x] (L.take (i + 1))) = E at hsome ⊢
      refine ⟨_, rfl, fun hq => (by simp at hq), fun _ => ?_⟩
      refine ⟨fun k vs w => ∃ j : Nat, vs = [.bool (decide (L[x] ∉ L.take j)), .int .i64 (j : Int)] ∧ k + j = x ∧ S w, ⟨x, 0, by simp, rfl, h⟩, ?_⟩
      clear h
      rintro z3 w b2 n10
      intros
      rename_i hI
      obtain ⟨j, hvs, hz3, h⟩ := hI
      obtain ⟨rfl, rfl⟩ : b2 = decide (L[x] ∉ L.take j) ∧ n10 = (j : Int) := by simpa using hvs
      refine ⟨fun hc3 => ?_, fun hc3 => ?_⟩
      · have hc3 := dec_t hc3
        have hjl : j < L.length := by omega
        have ej : L.take (j + 1) = L.take j ++ [L[j]] := List.take_succ_eq_append_getElem hjl
        refine ⟨fun vs w => vs = [.bool (decide (L[x] ∉ L.take (j + 1)))] ∧ S w, Own.drw (show Own W w _ from h) fun w h => ⟨fun hq => ⟨by omega, by omega, (hrd le4 h).int hjl fun a ha => ⟨by omega, by omega, (hrd le4 h).int hxl fun a2 ha2 => ⟨L[j], by rw [Int.toNat_natCast]; exact ha, L[x], by rw [Int.toNat_natCast]; exact ha2, ?_, h⟩⟩⟩, fun hq => ⟨?_, h⟩⟩, ?_⟩
        · have hq : L[x] ∉ L.take j := by simpa using hq
          rw [ej, nin1 _ _ hq]
        · have hq : L[x] ∈ L.take j := by simpa using hq
          rw [ej, nin2 _ _ hq]
        clear h
        rintro w b3
        intros
        rename_i hI
        obtain ⟨hvs, h⟩ := hI
        obtain rfl : b3 = decide (L[x] ∉ L.take (j + 1)) := by simpa using hvs
        exact ⟨z3 - 1, by omega, j + 1, by rw [wI64 (by omega) (by omega)]; rfl, by omega, h⟩
      · have hc3 := dec_f hc3
        obtain rfl : j = x := by omega
        refine ⟨fun vs w => vs = [.bool (decide (L[j] ∉ L.take j ∧ 0 < E))] ∧ S w, ⟨fun hq => ⟨?_, h⟩, fun hq => ⟨?_, h⟩⟩, ?_⟩
        · have hq := dec_t hq
          have hq : 0 < E := hq
          simp [hq]
        · have hq := dec_f hq
          have hq : ¬ 0 < E := hq
          simp [hq]
        clear h
        rintro w
        intros
        rename_i b4 hI
        obtain ⟨hvs, h⟩ := hI
        obtain rfl : b4 = decide (L[j] ∉ L.take j ∧ 0 < E) := by simpa using hvs
        refine ⟨fun vs w => vs = [.int .i64 ((u.toL.countP (fun e => decide (e.1 ∈ L.take (j + 1))) : Nat) : Int)] ∧ S w, ⟨fun hq => ⟨?_, h⟩, fun hq => ⟨?_, h⟩⟩, ?_⟩
        · have hq := of_decide_eq_true hq
          rw [hcs, if_pos ⟨hq.1, hsome.2 hq.2⟩, wI64 (by omega) (by omega)]; rfl
        · have hq := of_decide_eq_false hq
          rw [hcs, if_neg (fun hh => hq ⟨hh.1, hsome.1 hh.2⟩)]; rfl
        clear h
        rintro w n13
        intros
        rename_i hI
        obtain ⟨hvs, h⟩ := hI
        obtain rfl : n13 = ((u.toL.countP (fun e => decide (e.1 ∈ L.take (j + 1))) : Nat) : Int) := by simpa using hvs
        exact ⟨z2 - 1, by omega, j + 1, by rw [wI64 (by omega) (by omega)]; rfl, by omega, h⟩
    · have hc2 := dec_f hc2
      obtain rfl : x = L.length := by omega
      refine Rets.mono (exLen hT3 h) ?_
      clear h
      rintro _ w ⟨rfl, h⟩
      rw [List.take_length, R2.all (L := L) (fun y hy => List.mem_of_mem_take hy)]
      exact ⟨_, rfl, fun hq => (by simp at hq), fun _ => ⟨z - 1, by omega, i + 1, u, h3, gw, rfl, by omega, R2, hs3, le4, hT3, h⟩⟩
  · have hL : L.length ≤ 1000 := by omega
    refine Rets.mono (exClear h) ?_
    clear h
    rintro _ w ⟨rfl, h3, gw, le3, hT3, h⟩
    have le4 : LeH (fun b => W.heap[b]?) h3 := LeH.trans le2 le3
    refine ⟨rfl, ?_⟩
    refine Rets.mono (xnAdd h) ?_
    clear h
    rintro _ w ⟨rfl, h⟩
    refine ⟨rfl, ?_⟩
    refine Rets.mono (xnPush (q := q) (c := c) hL (fun w h => hrd le4 h) h) ?_
    clear h
    rintro _ w ⟨rfl, h⟩
    refine ⟨rfl, ?_⟩
    refine Rets.mono (xnClear h) ?_
    clear h
    rintro _ w ⟨rfl, h⟩
    refine ⟨rfl, fun vs w => vs = [.bool true] ∧ Own W w [imm (fun b => W.heap[b]?)], ?_, ?_⟩
    · refine Rets.mono (exCount h) ?_
      clear h
      rintro _ w ⟨rfl, h⟩
      refine ⟨_, rfl, ?_⟩
      refine Rets.mono (exLen hT3 h) ?_
      clear h
      rintro _ w ⟨rfl, h⟩
      refine ⟨_, rfl, fun _ => ?_, fun hq => absurd hq (by decide)⟩
      refine Rets.mono (xnEst h) ?_
      clear h
      rintro _ w ⟨rfl, h⟩
      refine ⟨_, rfl, ?_⟩
      refine Rets.mono (xnCount h) ?_
      clear h
      rintro _ w ⟨rfl, h⟩
      refine ⟨_, rfl, ?_⟩
      refine Rets.mono (xnLen h) ?_
      clear h
      rintro _ w ⟨rfl, h⟩
      refine ⟨_, rfl, fun _ => ?_, fun hq => absurd hq (by decide)⟩
      have h : Own W w [imm h3] := (Own.sub (h) (by repeat (first | exact Sub.nil _ | exact Sub.rfl _ | (apply Sub.cons; focus ((repeat (first | with_reducible exact Pick.here | apply Pick.there)); done)) | apply Sub.drop)))
      refine Rets.mono (aw le4 h) ?_
      rintro _ w ⟨b, rfl, hb, h⟩
      exact ⟨_, rfl, by rw [hb], h⟩
    · clear h
      rintro w b6
      intros
      rename_i hI
      obtain ⟨hvs, h⟩ := hI
      obtain rfl : b6 = true := by simpa using hvs
      exact ⟨rfl, h⟩
end
end Go.Proofs.Ytkcaeknkfgpnhaa.Eng
