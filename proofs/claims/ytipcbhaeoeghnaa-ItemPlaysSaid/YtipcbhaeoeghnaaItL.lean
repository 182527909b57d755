/- ItemPlays. -/
import Derived.Test.YtipcbhaeoeghnaaItR
import Derived.Test.YtipcbhaeoeghnaaItO
import Derived.Test.YtipcbhaeoeghnaaItemPG
namespace Go.Proofs.Ytipcbhaeoeghnaa.Eng
open Go Go.RowKit Go.Proofs
set_option linter.unusedVariables false
set_option linter.unusedSimpArgs false
set_option maxRecDepth 1000000
set_option maxHeartbeats 2000000
theorem icnt_un {V : Type} {xs : List (Itm V)} {k : Int} (h : ∀ x ∈ xs, kwn x.k) (hk : ¬ kwn k) : icnt xs k = 0 := by
  unfold icnt
  rw [List.length_eq_zero_iff, List.filter_eq_nil_iff]
  intro x hx he
  have he : x.k = k := by simpa using he
  exact hk (he ▸ h x hx)
theorem quAll {e w : World} {F : List HP} {g room sent full : Nat} {xs : List (Itm Int)} (h : Own e w (quO_int g xs room sent full :: F)) : Rets Try.prog 53 #[.pointer (some ⟨g, 0, none⟩)] w fun v w' => ∃ b gr, v = .func (.func 115) #[] #[.pointer (some ⟨b, 0, none⟩)] ∧ Own e w' (blk b 137 [.pointer (some ⟨gr, 0, none⟩)] :: rng_int gr xs room :: F) := by
  obtain ⟨gr, h1, h⟩ := quO_int.op h
  refine iq_int_All_go _ ⟨fun hc => (by cases hc), fun _ => ⟨_, Own.ld (g := g) (k := 0) h (by repeat (first | with_reducible exact Pick.here | apply Pick.there)) rfl, ?_⟩⟩
  refine Rets.mono (rnAll_int h.drop) ?_
  rintro _ w ⟨b, rfl, h⟩
  exact ⟨_, _, _, rfl, b, gr, rfl, h⟩
section
variable {W : World} {q : Option Addr} {c : Nat} {L : List (Itm Int)} {r kind : Int}
theorem ItemPlays_spec (hrw : (Lit.int .i64 r).wf = true) (hb : RdC W q (L.flatMap (itC (Value.int .i64)))) (hm : L.length ≤ maxLen) (hc : L.length ≤ c) (hw : ∀ s ∈ L, (Lit.int .i64 s.k).wf = true ∧ (Lit.int .u64 s.p).wf = true ∧ (Lit.int .u64 s.c).wf = true ∧ (Lit.int .i64 s.v).wf = true ∧ (Lit.int .i64 s.n).wf = true ∧ (Lit.int .i64 s.e).wf = true ∧ (Lit.int .i64 s.o).wf = true ∧ (Lit.int .i64 s.u).wf = true ∧ (Lit.int .i64 s.d).wf = true) (hkw : (Lit.int .i64 kind).wf = true) :
    Rets Try.prog 7 #[.int .i64 r, .slice q L.length c, .int .i64 kind] W fun v w' => v = .bool true ∧ Below W.heap.size W w' := by
  refine Rets.mono (k := fun v w' => v = .bool true ∧ Own W w' [snap W]) ?_ (fun v w' h => ⟨h.1, h.2.below⟩)
  have h := Own.begin W
  rw [snap_imm] at h ⊢
  refine cortadolaw28_ItemPlays_go _ _ _ _ _ (h.newR fun g1 w h => ⟨fun hx => ?_, fun hx => ?_⟩)
  · refine Rets.mono (itAwake h) ?_
    clear h
    rintro _ w ⟨rfl, h⟩
    refine ⟨_, rfl, Own.stP' (g := g1) h (by repeat (first | with_reducible exact Pick.here | apply Pick.there)) (by simp) (by simp [Value.oneCell']) fun w h => ?_⟩
    simp only [setFrom, List.set_cons_zero, List.set_cons_succ, List.set_nil] at h
    exact ⟨_, Own.ld' (g := g1) h (by repeat (first | with_reducible exact Pick.here | apply Pick.there)) rfl, rfl, h.drop⟩
  have hx := dec_f hx
  refine Rets.mono (quNew_int h) ?_
  clear h
  rintro _ w ⟨g, rfl, h⟩
  refine ⟨_, rfl, ?_⟩
  refine Rets.mono (rdNew (r := r) h) ?_
  clear h
  rintro _ w ⟨rfl, h⟩
  generalize (maxI 1 (minI r 64)).toNat = room at h ⊢
  refine ⟨_, _, _, _, _, _, rfl, h.newR fun g2 w h => Own.stP' (g := g2) h (by repeat (first | with_reducible exact Pick.here | apply Pick.there)) (by simp) (by simp [Value.oneCell']) fun w h => ?_⟩
  simp only [setFrom, List.set_cons_zero, List.set_cons_succ, List.set_nil] at h
  let St : List (Itm Int) → Nat → Nat → (Nat → Option Obj) → Option Addr → Nat → World → Prop := fun xs sent full h0 qx cx w => Own W w (quO_int g xs room sent full :: blk g2 74 [.slice qx (xs).length cx, .int .i64 (room : Int), .int .i64 (sent : Int), .int .i64 (full : Int)] :: imm h0 :: [blk g1 4 [.bool false]])
  refine ⟨fun z vs w => ∃ (i : Nat) (xs : List (Itm Int)) (sent full : Nat) (h0 : Nat → Option Obj) (qx : Option Addr) (cx : Nat), vs = [.int .i64 (i : Int)] ∧ z + i = L.length ∧ LeH (fun b => W.heap[b]?) h0 ∧ sent ≤ i ∧ full ≤ i ∧ ImR h0 qx (xs.flatMap itI) ∧ xs.length ≤ cx ∧ St xs sent full h0 qx cx w, ⟨L.length, 0, [], 0, 0, _, none, 0, rfl, rfl, LeH.refl _, Nat.le_refl _, Nat.le_refl _, fun e w F h => .inl rfl, Nat.le_refl _, ?_⟩, ?_⟩
  · have h : Own W w (blk g2 74 [.slice none (([] : List (Itm Int))).length 0, .int .i64 (room : Int), .int .i64 (((0 : Nat) : Int) : Int), .int .i64 (((0 : Nat) : Int) : Int)] :: quO_int g [] room 0 0 :: blk g1 4 [.bool false] :: [imm (fun b => W.heap[b]?)]) := h
    exact (Own.sub (h) (by repeat (first | with_reducible exact Sub.nil _ | with_reducible exact Sub.rfl _ | (apply Sub.cons; focus ((repeat (first | with_reducible exact Pick.here | apply Pick.there)); done)) | apply Sub.drop)))
  clear h
  intro z w
  intros
  rename_i hJ
  obtain ⟨i, xs, sent, full, h0, qx, cx, hvs, hz, hle0, hsent, hfull, hI, hcx, h⟩ := hJ
  simp at hvs
  subst hvs
  obtain ⟨_, hfac, _⟩ := quO_int.op h
  refine ⟨fun hc1 => ?_, fun hc1 => ?_⟩
  · have hc1 := dec_t hc1
    have hi : i < L.length := by omega
    have ei : IntKind.wrap .i64 ((i : Int) + 1) = ((i + 1 : Nat) : Int) := by rw [wI64 (by omega) (by omega)]; rfl
    rw [ei]
    obtain ⟨x, hxe⟩ : ∃ x, x = L[i] := ⟨_, rfl⟩
    obtain ⟨ad, rfl, hW⟩ := hb.rec (itC_len _) hi (by omega)
    have rdx : ∀ {hq : Nat → Option Obj} {R : List HP} w, LeH (fun b => W.heap[b]?) hq → Own W w (imm hq :: R) → ∀ j u, (itI x)[j]? = some u → cellAt w ((ad.add (Int.toNat (i : Int) * 9)).add j) u := fun w hle h j u hj => by
      have h : Own W w (snap W :: _) := h.immLe hle
      rw [Int.toNat_natCast]
      exact h.snapCell (hW i hi j u (by rw [← hxe]; exact hj))
    refine ⟨by omega, by omega, smR ⟨_, rdx w hle0 (Own.pk (A := imm h0) h (by repeat (first | with_reducible exact Pick.here | apply Pick.there))) 8 _ rfl, fun vs w => vs = [] ∧ ∃ (xs : List (Itm Int)) (sent full : Nat) (h0 : Nat → Option Obj) (qx : Option Addr) (cx : Nat), LeH (fun b => W.heap[b]?) h0 ∧ sent ≤ i + 1 ∧ full ≤ i + 1 ∧ ImR h0 qx (xs.flatMap itI) ∧ xs.length ≤ cx ∧ St xs sent full h0 qx cx w, ⟨fun hd => ?_, fun hd => ?_⟩, ?_⟩⟩
    · have h : Own W w (quO_int g xs room sent full :: blk g2 74 [.slice qx (xs).length cx, .int .i64 (room : Int), .int .i64 (sent : Int), .int .i64 (full : Int)] :: imm h0 :: [blk g1 4 [.bool false]]) := h
      refine ⟨_, _, _, _, _, _, ⟨Own.ld (g := g2) h (by repeat (first | with_reducible exact Pick.here | apply Pick.there)) rfl, Own.ld (g := g2) h (by repeat (first | with_reducible exact Pick.here | apply Pick.there)) rfl, Own.ld (g := g2) h (by repeat (first | with_reducible exact Pick.here | apply Pick.there)) rfl, Own.ld (g := g2) h (by repeat (first | with_reducible exact Pick.here | apply Pick.there)) rfl⟩, ?_⟩
      refine Rets.mono (rdTake hI hcx (Own.pk (A := imm h0) h (by repeat (first | with_reducible exact Pick.here | apply Pick.there)))) ?_
      clear h
      rintro _ w ⟨⟨q', c', rfl, hR, hcc⟩, h⟩
      obtain ⟨y, hy⟩ : ∃ y, y = xs.head?.getD (itZ (0 : Int)) := ⟨_, rfl⟩
      rw [← hy]
      refine ⟨_, _, _, _, _, _, _, _, _, _, _, _, _, _, _, _, rfl, h.newR fun a4 w h => h.newR fun a5 w h => Own.stP' (g := a4) h (by repeat (first | with_reducible exact Pick.here | apply Pick.there)) (by simp) (by simp [Value.oneCell']) fun w h => ?_⟩
      simp only [setFrom, List.set_cons_zero, List.set_cons_succ, List.set_nil] at h
      refine Own.stP' (g := a5) h (by repeat (first | with_reducible exact Pick.here | apply Pick.there)) (by simp) (by simp [Value.oneCell']) fun w h => ?_
      have h : Own W w (blk a5 80 (itI y) :: blk a4 74 [.slice q' (xs.tail).length c', .int .i64 (room : Int), .int .i64 (sent : Int), .int .i64 (full : Int)] :: imm h0 :: quO_int g xs room sent full :: blk g2 74 [.slice qx (xs).length cx, .int .i64 (room : Int), .int .i64 (sent : Int), .int .i64 (full : Int)] :: [blk g1 4 [.bool false]]) := h
      refine Rets.mono (quTake_int (Own.pk (A := quO_int g xs room sent full) h (by repeat (first | with_reducible exact Pick.here | apply Pick.there)))) ?_
      clear h
      rintro _ w ⟨rfl, h⟩
      rw [← hy]
      refine ⟨_, _, _, _, _, _, _, _, _, _, rfl, h.newR fun a6 w h => Own.stP' (g := a6) h (by repeat (first | with_reducible exact Pick.here | apply Pick.there)) (by simp) (by simp [Value.oneCell']) fun w h => ?_⟩
      have h : Own W w (blk a6 83 (itI y) :: quO_int g xs.tail room sent full :: blk a5 80 (itI y) :: blk a4 74 [.slice q' (xs.tail).length c', .int .i64 (room : Int), .int .i64 (sent : Int), .int .i64 (full : Int)] :: imm h0 :: blk g2 74 [.slice qx (xs).length cx, .int .i64 (room : Int), .int .i64 (sent : Int), .int .i64 (full : Int)] :: [blk g1 4 [.bool false]]) := h
      refine ⟨_, _, _, _, _, _, ⟨Own.ld (g := a4) h (by repeat (first | with_reducible exact Pick.here | apply Pick.there)) rfl, Own.ld (g := a4) h (by repeat (first | with_reducible exact Pick.here | apply Pick.there)) rfl, Own.ld (g := a4) h (by repeat (first | with_reducible exact Pick.here | apply Pick.there)) rfl, Own.ld (g := a4) h (by repeat (first | with_reducible exact Pick.here | apply Pick.there)) rfl⟩, Own.stP' (g := g2) h (by repeat (first | with_reducible exact Pick.here | apply Pick.there)) (by simp) (by simp [Value.oneCell']) fun w h => ?_⟩
      have h : Own W w (blk g2 74 [.slice q' (xs.tail).length c', .int .i64 (room : Int), .int .i64 (sent : Int), .int .i64 (full : Int)] :: blk a6 83 (itI y) :: quO_int g xs.tail room sent full :: blk a5 80 (itI y) :: blk a4 74 [.slice q' (xs.tail).length c', .int .i64 (room : Int), .int .i64 (sent : Int), .int .i64 (full : Int)] :: imm h0 :: [blk g1 4 [.bool false]]) := h
      refine ⟨fun vs w => vs = [.bool false] ∧ Own W w (quO_int g xs.tail room sent full :: blk g2 74 [.slice q' (xs.tail).length c', .int .i64 (room : Int), .int .i64 (sent : Int), .int .i64 (full : Int)] :: imm h0 :: [blk g1 4 [.bool false]]), ⟨fun _ => ⟨_, _, _, _, _, _, _, _, _, ⟨Own.ld (g := a6) h (by repeat (first | with_reducible exact Pick.here | apply Pick.there)) rfl, Own.ld (g := a6) h (by repeat (first | with_reducible exact Pick.here | apply Pick.there)) rfl, Own.ld (g := a6) h (by repeat (first | with_reducible exact Pick.here | apply Pick.there)) rfl, Own.ld (g := a6) h (by repeat (first | with_reducible exact Pick.here | apply Pick.there)) rfl, Own.ld (g := a6) h (by repeat (first | with_reducible exact Pick.here | apply Pick.there)) rfl, Own.ld (g := a6) h (by repeat (first | with_reducible exact Pick.here | apply Pick.there)) rfl, Own.ld (g := a6) h (by repeat (first | with_reducible exact Pick.here | apply Pick.there)) rfl, Own.ld (g := a6) h (by repeat (first | with_reducible exact Pick.here | apply Pick.there)) rfl, Own.ld (g := a6) h (by repeat (first | with_reducible exact Pick.here | apply Pick.there)) rfl⟩, _, _, _, _, _, _, _, _, _, ⟨Own.ld (g := a5) h (by repeat (first | with_reducible exact Pick.here | apply Pick.there)) rfl, Own.ld (g := a5) h (by repeat (first | with_reducible exact Pick.here | apply Pick.there)) rfl, Own.ld (g := a5) h (by repeat (first | with_reducible exact Pick.here | apply Pick.there)) rfl, Own.ld (g := a5) h (by repeat (first | with_reducible exact Pick.here | apply Pick.there)) rfl, Own.ld (g := a5) h (by repeat (first | with_reducible exact Pick.here | apply Pick.there)) rfl, Own.ld (g := a5) h (by repeat (first | with_reducible exact Pick.here | apply Pick.there)) rfl, Own.ld (g := a5) h (by repeat (first | with_reducible exact Pick.here | apply Pick.there)) rfl, Own.ld (g := a5) h (by repeat (first | with_reducible exact Pick.here | apply Pick.there)) rfl, Own.ld (g := a5) h (by repeat (first | with_reducible exact Pick.here | apply Pick.there)) rfl⟩, (by simp), (Own.sub (h) (by repeat (first | with_reducible exact Sub.nil _ | with_reducible exact Sub.rfl _ | (apply Sub.cons; focus ((repeat (first | with_reducible exact Pick.here | apply Pick.there)); done)) | apply Sub.drop)))⟩, fun hc => absurd hc (by simp)⟩, ?_⟩
      clear h
      intro w
      intros
      rename_i hJ
      obtain ⟨hvs, h⟩ := hJ
      simp at hvs
      subst hvs
      exact ⟨fun hc => absurd hc (by simp), fun _ => ⟨rfl, xs.tail, sent, full, h0, q', c', hle0, by omega, by omega, hR, hcc, h⟩⟩
    · obtain ⟨xs1, hx1⟩ : ∃ xs1, xs1 = (if kwn x.k ∧ xs.length < room then xs ++ [x] else xs) := ⟨_, rfl⟩
      obtain ⟨sent1, hs1⟩ : ∃ sent1 : Nat, sent1 = (if kwn x.k ∧ xs.length < room then sent + 1 else sent : Nat) := ⟨_, rfl⟩
      obtain ⟨full1, hf1⟩ : ∃ full1 : Nat, full1 = (if kwn x.k ∧ ¬ xs.length < room then full + 1 else full : Nat) := ⟨_, rfl⟩
      have hsent1 : sent1 ≤ i + 1 := by rw [hs1]; split <;> omega
      have hfull1 : full1 ≤ i + 1 := by rw [hf1]; split <;> omega
      have ofr : ∀ {F : List HP} w, Own W w (imm h0 :: F) → Rets Try.prog 44 #[.agg #[.slice qx xs.length cx, .int .i64 (room : Int), .int .i64 (sent : Int), .int .i64 (full : Int)], itV (Value.int .i64) x] w fun v w' => ∃ h1 q' c', v = .tuple #[.agg #[.slice q' xs1.length c', .int .i64 (room : Int), .int .i64 (sent1 : Int), .int .i64 (full1 : Int)], .bool (decide (kwn x.k ∧ xs.length < room))] ∧ LeH h0 h1 ∧ ImR h1 q' (xs1.flatMap itI) ∧ xs1.length ≤ c' ∧ Own W w' (imm h1 :: F) := fun w h => by
        rw [hx1, hs1, hf1]
        exact rdOffer (room := room) (x := x) hI hcx hfac.2.1 (by omega) h
      refine ⟨fun vs w => ∃ (g8 : Nat) (h1 : Nat → Option Obj) (q' : Option Addr) (c' : Nat), vs = [.pointer (some ⟨g8, 0, none⟩), .bool (decide (kwn x.k ∧ xs.length < room))] ∧ LeH h0 h1 ∧ ImR h1 q' (xs1.flatMap itI) ∧ xs1.length ≤ c' ∧ Own W w (blk g8 74 [.slice q' (xs1).length c', .int .i64 (room : Int), .int .i64 (sent1 : Int), .int .i64 (full1 : Int)] :: imm h1 :: quO_int g xs room sent full :: blk g2 74 [.slice qx (xs).length cx, .int .i64 (room : Int), .int .i64 (sent : Int), .int .i64 (full : Int)] :: [blk g1 4 [.bool false]]), ?_, ?_⟩
      · have h : Own W w (imm h0 :: quO_int g xs room sent full :: blk g2 74 [.slice qx (xs).length cx, .int .i64 (room : Int), .int .i64 (sent : Int), .int .i64 (full : Int)] :: [blk g1 4 [.bool false]]) := Own.pk (A := imm h0) h (by repeat (first | with_reducible exact Pick.here | apply Pick.there))
        have sS : ∀ {h1 : Nat → Option Obj} {A : HP} w, LeH h0 h1 → Own W w (A :: imm h1 :: quO_int g xs room sent full :: blk g2 74 [.slice qx (xs).length cx, .int .i64 (room : Int), .int .i64 (sent : Int), .int .i64 (full : Int)] :: [blk g1 4 [.bool false]]) → Own W w (imm h0 :: blk g2 74 [.slice qx (xs).length cx, .int .i64 (room : Int), .int .i64 (sent : Int), .int .i64 (full : Int)] :: []) := fun {h1 A} w le h => by
          have h : Own W w (imm h1 :: blk g2 74 [.slice qx (xs).length cx, .int .i64 (room : Int), .int .i64 (sent : Int), .int .i64 (full : Int)] :: []) := (Own.sub (h) (by repeat (first | with_reducible exact Sub.nil _ | with_reducible exact Sub.rfl _ | (apply Sub.cons; focus ((repeat (first | with_reducible exact Pick.here | apply Pick.there)); done)) | apply Sub.drop)))
          exact h.immLe le
        have sT : ∀ {h1 : Nat → Option Obj} w, LeH h0 h1 → Own W w (imm h1 :: quO_int g xs room sent full :: blk g2 74 [.slice qx (xs).length cx, .int .i64 (room : Int), .int .i64 (sent : Int), .int .i64 (full : Int)] :: [blk g1 4 [.bool false]]) → Own W w (imm h0 :: blk g2 74 [.slice qx (xs).length cx, .int .i64 (room : Int), .int .i64 (sent : Int), .int .i64 (full : Int)] :: []) := fun {h1} w le h => by
          have h : Own W w (imm h1 :: blk g2 74 [.slice qx (xs).length cx, .int .i64 (room : Int), .int .i64 (sent : Int), .int .i64 (full : Int)] :: []) := (Own.sub (h) (by repeat (first | with_reducible exact Sub.nil _ | with_reducible exact Sub.rfl _ | (apply Sub.cons; focus ((repeat (first | with_reducible exact Pick.here | apply Pick.there)); done)) | apply Sub.drop)))
          exact h.immLe le
        refine h.drw fun w h => ⟨fun w => Own W w (imm h0 :: blk g2 74 [.slice qx (xs).length cx, .int .i64 (room : Int), .int .i64 (sent : Int), .int .i64 (full : Int)] :: []), sT w (LeH.refl _) h, by omega, by omega, smR ⟨_, _, _, _, _, _, ⟨fun w h => Own.ld (g := g2) h (by repeat (first | with_reducible exact Pick.here | apply Pick.there)) rfl, fun w h => Own.ld (g := g2) h (by repeat (first | with_reducible exact Pick.here | apply Pick.there)) rfl, fun w h => Own.ld (g := g2) h (by repeat (first | with_reducible exact Pick.here | apply Pick.there)) rfl, fun w h => Own.ld (g := g2) h (by repeat (first | with_reducible exact Pick.here | apply Pick.there)) rfl⟩, _, _, _, _, _, _, _, _, _, ⟨fun w h => rdx w hle0 h 0 _ rfl, fun w h => rdx w hle0 h 1 _ rfl, fun w h => rdx w hle0 h 2 _ rfl, fun w h => rdx w hle0 h 3 _ rfl, fun w h => rdx w hle0 h 4 _ rfl, fun w h => rdx w hle0 h 5 _ rfl, fun w h => rdx w hle0 h 6 _ rfl, fun w h => rdx w hle0 h 7 _ rfl, fun w h => rdx w hle0 h 8 _ rfl⟩, ?_, h.newR fun g8 w h => ?_⟩⟩
        · refine Rets.mono (ofr w h) ?_
          clear h
          rintro _ w ⟨h1, q', c', rfl, le1, hR, hcc, h⟩
          refine ⟨_, _, _, _, _, _, _, rfl, sT w le1 h, h.newR fun g8 w h => ⟨sS w le1 h, Own.stP' (g := g8) h (by repeat (first | with_reducible exact Pick.here | apply Pick.there)) (by simp) (by simp [Value.oneCell']) fun w h => ?_⟩⟩
          simp only [setFrom, List.set_cons_zero, List.set_cons_succ, List.set_nil] at h
          exact ⟨sS w le1 h, g8, h1, q', c', rfl, le1, hR, hcc, h⟩
        · refine ⟨sS w (LeH.refl _) h, ?_⟩
          refine Rets.mono (ofr w h.swap) ?_
          clear h
          rintro _ w ⟨h1, q', c', rfl, le1, hR, hcc, h⟩
          have h := h.swap
          refine ⟨_, _, _, _, _, _, _, rfl, sS w le1 h, Own.stP' (g := g8) h (by repeat (first | with_reducible exact Pick.here | apply Pick.there)) (by simp) (by simp [Value.oneCell']) fun w h => ?_⟩
          simp only [setFrom, List.set_cons_zero, List.set_cons_succ, List.set_nil] at h
          exact ⟨sS w le1 h, g8, h1, q', c', rfl, le1, hR, hcc, h⟩
      clear h ofr
      intro w
      intros
      rename_i hJ
      obtain ⟨g8, h1, q', c', hvs, le1, hR, hcc, h⟩ := hJ
      simp only [List.cons.injEq, Value.bool.injEq, Value.pointer.injEq, and_true] at hvs
      obtain ⟨rfl, rfl⟩ := hvs
      refine smR ⟨_, _, _, _, _, _, ⟨Own.ld (g := g8) h (by repeat (first | with_reducible exact Pick.here | apply Pick.there)) rfl, Own.ld (g := g8) h (by repeat (first | with_reducible exact Pick.here | apply Pick.there)) rfl, Own.ld (g := g8) h (by repeat (first | with_reducible exact Pick.here | apply Pick.there)) rfl, Own.ld (g := g8) h (by repeat (first | with_reducible exact Pick.here | apply Pick.there)) rfl⟩, Own.stP' (g := g2) h (by repeat (first | with_reducible exact Pick.here | apply Pick.there)) (by simp) (by simp [Value.oneCell']) fun w h => ?_⟩
      simp only [setFrom, List.set_cons_zero, List.set_cons_succ, List.set_nil] at h
      have hle1 := LeH.trans hle0 le1
      have h : Own W w (quO_int g xs room sent full :: blk g2 74 [.slice q' (xs1).length c', .int .i64 (room : Int), .int .i64 (sent1 : Int), .int .i64 (full1 : Int)] :: imm h1 :: [blk g1 4 [.bool false]]) := (Own.sub (h) (by repeat (first | with_reducible exact Sub.nil _ | with_reducible exact Sub.rfl _ | (apply Sub.cons; focus ((repeat (first | with_reducible exact Pick.here | apply Pick.there)); done)) | apply Sub.drop)))
      refine ⟨by omega, by omega, smR ⟨_, _, _, _, _, _, _, _, _, ⟨rdx w hle1 (Own.pk (A := imm h1) h (by repeat (first | with_reducible exact Pick.here | apply Pick.there))) 0 _ rfl, rdx w hle1 (Own.pk (A := imm h1) h (by repeat (first | with_reducible exact Pick.here | apply Pick.there))) 1 _ rfl, rdx w hle1 (Own.pk (A := imm h1) h (by repeat (first | with_reducible exact Pick.here | apply Pick.there))) 2 _ rfl, rdx w hle1 (Own.pk (A := imm h1) h (by repeat (first | with_reducible exact Pick.here | apply Pick.there))) 3 _ rfl, rdx w hle1 (Own.pk (A := imm h1) h (by repeat (first | with_reducible exact Pick.here | apply Pick.there))) 4 _ rfl, rdx w hle1 (Own.pk (A := imm h1) h (by repeat (first | with_reducible exact Pick.here | apply Pick.there))) 5 _ rfl, rdx w hle1 (Own.pk (A := imm h1) h (by repeat (first | with_reducible exact Pick.here | apply Pick.there))) 6 _ rfl, rdx w hle1 (Own.pk (A := imm h1) h (by repeat (first | with_reducible exact Pick.here | apply Pick.there))) 7 _ rfl, rdx w hle1 (Own.pk (A := imm h1) h (by repeat (first | with_reducible exact Pick.here | apply Pick.there))) 8 _ rfl⟩, ?_⟩⟩
      refine Rets.mono (quOffer_int (x := x) (by omega) h) ?_
      clear h
      rintro _ w ⟨rfl, h⟩
      rw [← hx1, ← hs1, ← hf1] at h
      exact ⟨_, rfl, fun hc => absurd hc (by simp), fun _ => ⟨rfl, xs1, sent1, full1, h1, q', c', hle1, hsent1, hfull1, hR, hcc, h⟩⟩
    clear h hI hcx hsent hfull hfac
    intro w
    intros
    rename_i hJ
    obtain ⟨_, xs, sent, full, h0, qx, cx, hle0, hsent, hfull, hI, hcx, h⟩ := hJ
    obtain ⟨_, hfac, _⟩ := quO_int.op h
    have eC : ∀ k : Int, (if kwn k then (icnt xs k : Int) else 0) = (icnt xs k : Int) := fun k => by
      by_cases hk : kwn k
      · rw [if_pos hk]
      · rw [if_neg hk, icnt_un hfac.1 hk]; rfl
    refine ⟨fun vs w => vs = [.bool false] ∧ St xs sent full h0 qx cx w, ?_, ?_⟩
    · have h : Own W w (quO_int g xs room sent full :: blk g2 74 [.slice qx (xs).length cx, .int .i64 (room : Int), .int .i64 (sent : Int), .int .i64 (full : Int)] :: imm h0 :: [blk g1 4 [.bool false]]) := h
      have ld0 : ∀ w, St xs sent full h0 qx cx w → World.cell? w ((⟨g2, 0, none⟩ : Addr).add 0) = some (.slice qx xs.length cx) := fun w h => Own.ld (g := g2) (k := 0) (T := 74) (vs := [.slice qx (xs).length cx, .int .i64 (room : Int), .int .i64 (sent : Int), .int .i64 (full : Int)]) h (by repeat (first | with_reducible exact Pick.here | apply Pick.there)) rfl
      have ld1 : ∀ w, St xs sent full h0 qx cx w → World.cell? w ((⟨g2, 0, none⟩ : Addr).add 1) = some (.int .i64 (room : Int)) := fun w h => Own.ld (g := g2) (k := 1) (T := 74) (vs := [.slice qx (xs).length cx, .int .i64 (room : Int), .int .i64 (sent : Int), .int .i64 (full : Int)]) h (by repeat (first | with_reducible exact Pick.here | apply Pick.there)) rfl
      have ld2 : ∀ w, St xs sent full h0 qx cx w → World.cell? w ((⟨g2, 0, none⟩ : Addr).add 2) = some (.int .i64 (sent : Int)) := fun w h => Own.ld (g := g2) (k := 2) (T := 74) (vs := [.slice qx (xs).length cx, .int .i64 (room : Int), .int .i64 (sent : Int), .int .i64 (full : Int)]) h (by repeat (first | with_reducible exact Pick.here | apply Pick.there)) rfl
      have ld3 : ∀ w, St xs sent full h0 qx cx w → World.cell? w ((⟨g2, 0, none⟩ : Addr).add 3) = some (.int .i64 (full : Int)) := fun w h => Own.ld (g := g2) (k := 3) (T := 74) (vs := [.slice qx (xs).length cx, .int .i64 (room : Int), .int .i64 (sent : Int), .int .i64 (full : Int)]) h (by repeat (first | with_reducible exact Pick.here | apply Pick.there)) rfl
      have ldx : ∀ w, St xs sent full h0 qx cx w → World.cell? w ((ad.add (Int.toNat (i : Int) * 9)).add 0) = some (.int .i64 x.k) := fun w h => rdx w hle0 (Own.pk (A := imm h0) (show Own W w (quO_int g xs room sent full :: blk g2 74 [.slice qx (xs).length cx, .int .i64 (room : Int), .int .i64 (sent : Int), .int .i64 (full : Int)] :: imm h0 :: [blk g1 4 [.bool false]]) from h) (by repeat (first | with_reducible exact Pick.here | apply Pick.there))) 0 _ rfl
      have rfc : ∀ (k : Int) w, St xs sent full h0 qx cx w → Rets Try.prog 52 #[.agg #[.slice qx xs.length cx, .int .i64 (room : Int), .int .i64 (sent : Int), .int .i64 (full : Int)], .int .i64 k] w fun v w' => v = .int .i64 (icnt xs k : Int) ∧ St xs sent full h0 qx cx w' := fun k w h => by
        have h : Own W w (quO_int g xs room sent full :: blk g2 74 [.slice qx (xs).length cx, .int .i64 (room : Int), .int .i64 (sent : Int), .int .i64 (full : Int)] :: imm h0 :: [blk g1 4 [.bool false]]) := h
        refine Rets.mono (rdCount (k := k) hI hfac.2.1 (Own.pk (A := imm h0) h (by repeat (first | with_reducible exact Pick.here | apply Pick.there)))) ?_
        clear h
        rintro _ w ⟨rfl, h⟩
        refine ⟨rfl, ?_⟩
        show Own W w (quO_int g xs room sent full :: blk g2 74 [.slice qx (xs).length cx, .int .i64 (room : Int), .int .i64 (sent : Int), .int .i64 (full : Int)] :: imm h0 :: [blk g1 4 [.bool false]])
        exact (Own.sub (h) (by repeat (first | with_reducible exact Sub.nil _ | with_reducible exact Sub.rfl _ | (apply Sub.cons; focus ((repeat (first | with_reducible exact Pick.here | apply Pick.there)); done)) | apply Sub.drop)))
      have may : decide (xs.length < room) = decide (((xs.length : Nat) : Int) < (room : Int)) := by rw [decide_eq_decide]; omega
      refine h.drw fun w h => ⟨St xs sent full h0 qx cx, h, _, _, _, ld0, ?_⟩
      refine Rets.mono (quLen_int h) ?_
      clear h
      rintro _ w ⟨rfl, h⟩
      refine ⟨_, rfl, h, fun _ => ⟨_, ld1, ?_⟩, fun hc => absurd hc (by simp)⟩
      refine Rets.mono (quRoom_int h) ?_
      clear h
      rintro _ w ⟨rfl, h⟩
      refine ⟨_, rfl, h, fun _ => ⟨_, _, _, ld0, _, ld1, ?_⟩, fun hc => absurd hc (by simp)⟩
      refine Rets.mono (quMay_int h) ?_
      clear h
      rintro _ w ⟨rfl, h⟩
      rw [may]
      refine ⟨_, rfl, h, fun _ => ⟨_, ld2, ?_⟩, fun hc => absurd hc (by simp)⟩
      refine Rets.mono (quSent_int h) ?_
      clear h
      rintro _ w ⟨rfl, h⟩
      refine ⟨_, rfl, h, fun _ => ⟨_, ld3, ?_⟩, fun hc => absurd hc (by simp)⟩
      refine Rets.mono (quFull_int h) ?_
      clear h
      rintro _ w ⟨rfl, h⟩
      refine ⟨_, rfl, h, fun _ => ⟨_, _, _, _, _, _, ⟨ld0, ld1, ld2, ld3⟩, ?_⟩, fun hc => absurd hc (by simp)⟩
      refine Rets.mono (quCount_int (x := kind) h) ?_
      clear h
      rintro _ w ⟨rfl, h⟩
      rw [eC]
      refine ⟨_, rfl, h, ?_⟩
      refine Rets.mono (rfc kind w h) ?_
      clear h
      rintro _ w ⟨rfl, h⟩
      refine ⟨_, rfl, h, fun _ => ⟨by omega, by omega, smR ⟨by omega, by omega, smR ⟨_, ldx, _, _, _, _, _, _, ⟨ld0, ld1, ld2, ld3⟩, _, ldx, ?_⟩⟩⟩, fun hc => absurd hc (by simp)⟩
      refine Rets.mono (quCount_int (x := x.k) h) ?_
      clear h
      rintro _ w ⟨rfl, h⟩
      rw [eC]
      refine ⟨_, rfl, h, ?_⟩
      refine Rets.mono (rfc x.k w h) ?_
      clear h
      rintro _ w ⟨rfl, h⟩
      exact ⟨_, rfl, by simp, h⟩
    clear h
    intro w
    intros
    rename_i hJ
    obtain ⟨hvs, h⟩ := hJ
    simp at hvs
    subst hvs
    exact ⟨fun hc => absurd hc (by simp), fun _ => ⟨z - 1, by omega, i + 1, xs, sent, full, h0, qx, cx, rfl, by omega, hle0, hsent, hfull, hI, hcx, h⟩⟩
  · have h : Own W w (quO_int g xs room sent full :: blk g2 74 [.slice qx (xs).length cx, .int .i64 (room : Int), .int .i64 (sent : Int), .int .i64 (full : Int)] :: imm h0 :: [blk g1 4 [.bool false]]) := h
    refine Rets.mono (quAll h) ?_
    clear h
    rintro _ w ⟨b, gr, rfl, h⟩
    refine ⟨_, _, _, rfl, fun hc => (by cases hc), fun _ => h.newR fun gn w h => Own.stP' (g := gn) h (by repeat (first | with_reducible exact Pick.here | apply Pick.there)) (by simp) (by simp [Value.oneCell']) fun w h => ?_⟩
    simp only [setFrom, List.set_cons_zero, List.set_cons_succ, List.set_nil] at h
    refine ⟨_, rfl, h.loopR fun mk lp L' w h hround => ?_⟩
    let Fr : Nat → List HP := fun i => blk gn 3 [.int .i64 (i : Int)] :: pt lp (LoopObj L' .ready none) :: pt mk (.deferred (some [])) :: blk g2 74 [.slice qx (xs).length cx, .int .i64 (room : Int), .int .i64 (sent : Int), .int .i64 (full : Int)] :: imm h0 :: [blk g1 4 [.bool false]]
    have h : Own W w (pt lp (LoopObj L' .ready none) :: pt mk (.deferred (some [])) :: blk gn 3 [.int .i64 ((0 : Nat) : Int)] :: blk b 137 [.pointer (some ⟨gr, 0, none⟩)] :: rng_int gr xs room :: blk g2 74 [.slice qx (xs).length cx, .int .i64 (room : Int), .int .i64 (sent : Int), .int .i64 (full : Int)] :: imm h0 :: [blk g1 4 [.bool false]]) := h
    have h : Own W w (blk b 137 [.pointer (some ⟨gr, 0, none⟩)] :: rng_int gr xs room :: Fr 0) := (Own.sub (h) (by repeat (first | with_reducible exact Sub.nil _ | with_reducible exact Sub.rfl _ | (apply Sub.cons; focus ((repeat (first | with_reducible exact Pick.here | apply Pick.there)); done)) | apply Sub.drop)))
    have hr64 : room ≤ 65536 := by omega
    have hr2 : ∀ (R : HP) (i : Nat) w (hi : i < xs.length), Own W w (R :: blk b 137 [.pointer (some ⟨gr, 0, none⟩)] :: rng_int gr xs room :: Fr i) → RoundR Try.prog lp #[.int .i64 (i : Int), itV (Value.int .i64) xs[i]] w fun v w' => (v = .bool true ∧ Own W w' (R :: blk b 137 [.pointer (some ⟨gr, 0, none⟩)] :: rng_int gr xs room :: Fr (i + 1))) ∨ (v = .bool false ∧ False) := fun R i w hi h => by
      have h : Own W w (R :: blk b 137 [.pointer (some ⟨gr, 0, none⟩)] :: rng_int gr xs room :: blk gn 3 [.int .i64 (i : Int)] :: pt lp (LoopObj L' .ready none) :: pt mk (.deferred (some [])) :: blk g2 74 [.slice qx (xs).length cx, .int .i64 (room : Int), .int .i64 (sent : Int), .int .i64 (full : Int)] :: imm h0 :: [blk g1 4 [.bool false]]) := h
      obtain ⟨x, hxe⟩ : ∃ x, x = xs[i] := ⟨_, rfl⟩
      rw [← hxe]
      refine hround _ _ _ _ _ _ _ _ _ _ w _ (Own.recR (l := lp) (L := L') (Own.pk h (by repeat (first | with_reducible exact Pick.here | apply Pick.there)))) ?_
      refine h.newR fun a w h => Own.stP' (g := a) h (by repeat (first | with_reducible exact Pick.here | apply Pick.there)) (by simp) (by simp [Value.oneCell']) fun w h => ?_
      refine Own.begR (l := lp) (L := L') (Own.pk h (by repeat (first | with_reducible exact Pick.here | apply Pick.there))) fun w h => ?_
      have h : Own W w (pt lp (LoopObj L' .busy none) :: blk a 83 (itI x) :: R :: blk b 137 [.pointer (some ⟨gr, 0, none⟩)] :: rng_int gr xs room :: blk gn 3 [.int .i64 (i : Int)] :: pt mk (.deferred (some [])) :: blk g2 74 [.slice qx (xs).length cx, .int .i64 (room : Int), .int .i64 (sent : Int), .int .i64 (full : Int)] :: imm h0 :: [blk g1 4 [.bool false]]) := h
      refine ⟨fun vs w => vs = [.bool false] ∧ Own W w (pt lp (LoopObj L' .busy none) :: blk a 83 (itI x) :: R :: blk b 137 [.pointer (some ⟨gr, 0, none⟩)] :: rng_int gr xs room :: blk gn 3 [.int .i64 (i : Int)] :: pt mk (.deferred (some [])) :: blk g2 74 [.slice qx (xs).length cx, .int .i64 (room : Int), .int .i64 (sent : Int), .int .i64 (full : Int)] :: imm h0 :: [blk g1 4 [.bool false]]), ?_, ?_⟩
      · obtain ⟨ad, rfl, rd⟩ := hI.iad hi (Own.pk (A := imm h0) h (by repeat (first | with_reducible exact Pick.here | apply Pick.there)))
        rw [← hxe] at rd
        exact h.drw fun w h => ⟨_, Own.ld' (g := gn) h (by repeat (first | with_reducible exact Pick.here | apply Pick.there)) rfl, fun _ => ⟨_, Own.ld' (g := gn) h (by repeat (first | with_reducible exact Pick.here | apply Pick.there)) rfl, _, _, _, Own.ld (g := g2) (k := 0) h (by repeat (first | with_reducible exact Pick.here | apply Pick.there)) rfl, fun _ => ⟨_, _, _, _, _, _, _, _, _, ⟨Own.ld (g := a) h (by repeat (first | with_reducible exact Pick.here | apply Pick.there)) rfl, Own.ld (g := a) h (by repeat (first | with_reducible exact Pick.here | apply Pick.there)) rfl, Own.ld (g := a) h (by repeat (first | with_reducible exact Pick.here | apply Pick.there)) rfl, Own.ld (g := a) h (by repeat (first | with_reducible exact Pick.here | apply Pick.there)) rfl, Own.ld (g := a) h (by repeat (first | with_reducible exact Pick.here | apply Pick.there)) rfl, Own.ld (g := a) h (by repeat (first | with_reducible exact Pick.here | apply Pick.there)) rfl, Own.ld (g := a) h (by repeat (first | with_reducible exact Pick.here | apply Pick.there)) rfl, Own.ld (g := a) h (by repeat (first | with_reducible exact Pick.here | apply Pick.there)) rfl, Own.ld (g := a) h (by repeat (first | with_reducible exact Pick.here | apply Pick.there)) rfl⟩, _, _, _, Own.ld (g := g2) (k := 0) h (by repeat (first | with_reducible exact Pick.here | apply Pick.there)) rfl, _, Own.ld' (g := gn) h (by repeat (first | with_reducible exact Pick.here | apply Pick.there)) rfl, by omega, by omega, smR ⟨_, _, _, _, _, _, _, _, _, ⟨rd _ _ _ (Own.pk (A := imm h0) h (by repeat (first | with_reducible exact Pick.here | apply Pick.there))) 0 _ rfl, rd _ _ _ (Own.pk (A := imm h0) h (by repeat (first | with_reducible exact Pick.here | apply Pick.there))) 1 _ rfl, rd _ _ _ (Own.pk (A := imm h0) h (by repeat (first | with_reducible exact Pick.here | apply Pick.there))) 2 _ rfl, rd _ _ _ (Own.pk (A := imm h0) h (by repeat (first | with_reducible exact Pick.here | apply Pick.there))) 3 _ rfl, rd _ _ _ (Own.pk (A := imm h0) h (by repeat (first | with_reducible exact Pick.here | apply Pick.there))) 4 _ rfl, rd _ _ _ (Own.pk (A := imm h0) h (by repeat (first | with_reducible exact Pick.here | apply Pick.there))) 5 _ rfl, rd _ _ _ (Own.pk (A := imm h0) h (by repeat (first | with_reducible exact Pick.here | apply Pick.there))) 6 _ rfl, rd _ _ _ (Own.pk (A := imm h0) h (by repeat (first | with_reducible exact Pick.here | apply Pick.there))) 7 _ rfl, rd _ _ _ (Own.pk (A := imm h0) h (by repeat (first | with_reducible exact Pick.here | apply Pick.there))) 8 _ rfl⟩, (by simp), h⟩⟩, fun hc => (by have := dec_t hc; omega)⟩, fun hc => absurd hc (by simp)⟩
      clear h
      intro w
      intros
      rename_i hJ
      obtain ⟨hvs, h⟩ := hJ
      simp at hvs
      subst hvs
      refine ⟨fun hc => absurd hc (by simp), fun _ => ⟨_, Own.ld' (g := gn) h (by repeat (first | with_reducible exact Pick.here | apply Pick.there)) rfl, Own.stP' (g := gn) h (by repeat (first | with_reducible exact Pick.here | apply Pick.there)) (by simp) (by simp [Value.oneCell']) fun w h => ?_⟩⟩
      have hf64 := hfac.2.1
      have ei : IntKind.wrap .i64 ((i : Int) + 1) = ((i + 1 : Nat) : Int) := by rw [wI64 (by omega) (by omega)]; rfl
      rw [ei] at h
      simp only [setFrom, List.set_cons_zero, List.set_cons_succ, List.set_nil] at h
      refine Own.finT (l := lp) (L := L') (Own.pk h (by repeat (first | with_reducible exact Pick.here | apply Pick.there))) fun w h => .inl ⟨rfl, ?_⟩
      have h : Own W w (R :: blk b 137 [.pointer (some ⟨gr, 0, none⟩)] :: rng_int gr xs room :: blk gn 3 [.int .i64 ((i + 1 : Nat) : Int)] :: pt lp (LoopObj L' .ready none) :: pt mk (.deferred (some [])) :: blk g2 74 [.slice qx (xs).length cx, .int .i64 (room : Int), .int .i64 (sent : Int), .int .i64 (full : Int)] :: imm h0 :: [blk g1 4 [.bool false]]) := (Own.sub (h) (by repeat (first | with_reducible exact Sub.nil _ | with_reducible exact Sub.rfl _ | (apply Sub.cons; focus ((repeat (first | with_reducible exact Pick.here | apply Pick.there)); done)) | apply Sub.drop)))
      exact h
    refine Rets.mono (rnAll1_int (g := gr) (b := b) (room := room) (xs := xs) (Fr := Fr) (Fin := fun _ => False) hr64 hr2 h) ?_
    clear h hr2
    rintro v w (h | h)
    · left
      have h : Own W w (blk b 137 [.pointer (some ⟨gr, 0, none⟩)] :: rng_int gr xs room :: blk gn 3 [.int .i64 ((xs.length : Nat) : Int)] :: pt lp (LoopObj L' .ready none) :: pt mk (.deferred (some [])) :: blk g2 74 [.slice qx (xs).length cx, .int .i64 (room : Int), .int .i64 (sent : Int), .int .i64 (full : Int)] :: imm h0 :: [blk g1 4 [.bool false]]) := h
      refine Own.endR (l := lp) (L := L') (Own.pk h (by repeat (first | with_reducible exact Pick.here | apply Pick.there))) (by simp) fun w h => ?_
      have h : Own W w (blk g1 4 [.bool false] :: blk gn 3 [.int .i64 ((xs.length : Nat) : Int)] :: blk g2 74 [.slice qx (xs).length cx, .int .i64 (room : Int), .int .i64 (sent : Int), .int .i64 (full : Int)] :: pt mk (.deferred (some [])) :: imm h0 :: []) := (Own.sub (h) (by repeat (first | with_reducible exact Sub.nil _ | with_reducible exact Sub.rfl _ | (apply Sub.cons; focus ((repeat (first | with_reducible exact Pick.here | apply Pick.there)); done)) | apply Sub.drop)))
      refine ⟨fun vs w => vs = [] ∧ Own W w (blk g1 4 [.bool true] :: pt mk (.deferred (some [])) :: imm h0 :: []), ⟨_, Own.ld' (g := gn) h (by repeat (first | with_reducible exact Pick.here | apply Pick.there)) rfl, _, _, _, Own.ld (g := g2) (k := 0) h (by repeat (first | with_reducible exact Pick.here | apply Pick.there)) rfl, fun _ => ?_, fun hc => absurd hc (by simp)⟩, ?_⟩
      · refine Rets.mono (itAwake h) ?_
        clear h
        rintro _ w ⟨rfl, h⟩
        refine ⟨_, rfl, Own.stP' (g := g1) h (by repeat (first | with_reducible exact Pick.here | apply Pick.there)) (by simp) (by simp [Value.oneCell']) fun w h => ?_⟩
        simp only [setFrom, List.set_cons_zero, List.set_cons_succ, List.set_nil] at h
        exact ⟨rfl, (Own.sub (h) (by repeat (first | with_reducible exact Sub.nil _ | with_reducible exact Sub.rfl _ | (apply Sub.cons; focus ((repeat (first | with_reducible exact Pick.here | apply Pick.there)); done)) | apply Sub.drop)))⟩
      clear h
      intro w
      intros
      rename_i hJ
      obtain ⟨_, h⟩ := hJ
      refine Own.markR (g := mk) (Own.pk h (by repeat (first | with_reducible exact Pick.here | apply Pick.there))) fun w h => ⟨_, Own.ld' (g := g1) h (by repeat (first | with_reducible exact Pick.here | apply Pick.there)) rfl, rfl, ?_⟩
      exact (Own.drop h).immLe hle0
    · exact h.elim
end
end Go.Proofs.Ytipcbhaeoeghnaa.Eng
