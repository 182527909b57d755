/- RankAlike. -/
import Derived.Test.YtkcaeknkfgpnhaaRkQ
import Derived.Test.YtkcaeknkfgpnhaaRankAG
namespace Go.Proofs.Ytkcaeknkfgpnhaa.Eng
open Go Go.RowKit Go.Proofs
set_option linter.unusedVariables false
set_option linter.unusedSimpArgs false
set_option maxRecDepth 1000000
set_option maxHeartbeats 1000000
theorem Srt_ext : ∀ {l l' : LE2}, Srt l → Srt l' → (∀ e, e ∈ l ↔ e ∈ l') → l = l'
  | [], [], _, _, _ => rfl
  | [], b :: l', _, _, h => absurd ((h b).2 List.mem_cons_self) (by simp)
  | a :: l, [], _, _, h => absurd ((h a).1 List.mem_cons_self) (by simp)
  | a :: l, b :: l', h1, h2, h => by
    obtain ⟨a1, a2⟩ := List.pairwise_cons.1 h1
    obtain ⟨b1, b2⟩ := List.pairwise_cons.1 h2
    have hab : a = b := by
      rcases List.mem_cons.1 ((h a).1 List.mem_cons_self) with e | e
      · exact e
      · rcases List.mem_cons.1 ((h b).2 List.mem_cons_self) with e' | e'
        · exact e'.symm
        · have := b1 a e; have := a1 b e'; omega
    subst hab
    congr 1
    refine Srt_ext a2 b2 fun e => ⟨fun he => ?_, fun he => ?_⟩
    · rcases List.mem_cons.1 ((h e).1 (List.mem_cons_of_mem _ he)) with rfl | e'
      · have := a1 e he; omega
      · exact e'
    · rcases List.mem_cons.1 ((h e).2 (List.mem_cons_of_mem _ he)) with rfl | e'
      · have := b1 e he; omega
      · exact e'
theorem lput_mem {k v : Int} {l : LE2} {e : Int × Int} : e ∈ lput k v l ↔ (e ∈ l ∧ e.1 ≠ k) ∨ e = (k, v) := by
  unfold lput
  rw [List.mem_append, List.mem_cons, List.mem_filter, List.mem_filter]
  constructor
  · rintro (⟨h1, h2⟩ | rfl | ⟨h1, h2⟩)
    · exact .inl ⟨h1, by have : e.1 < k := by simpa using h2
                         omega⟩
    · exact .inr rfl
    · exact .inl ⟨h1, by have : k < e.1 := by simpa using h2
                         omega⟩
  · rintro (⟨h1, h2⟩ | rfl)
    · by_cases hlt : e.1 < k
      · exact .inl ⟨h1, by simpa using hlt⟩
      · exact .inr (.inr ⟨h1, by simp; omega⟩)
    · exact .inr (.inl rfl)
theorem ldrop_mem {k : Int} {l : LE2} {e : Int × Int} : e ∈ ldrop k l ↔ e ∈ l ∧ e.1 ≠ k := by
  unfold ldrop
  rw [List.mem_filter]; simp
theorem ldrop_lput {k v : Int} {l : LE2} (hs : Srt l) (hn : ∀ e ∈ l, e.1 ≠ k) : ldrop k (lput k v l) = l := by
  refine Srt_ext (ldrop_srt (lput_srt hs)) hs fun e => ?_
  rw [ldrop_mem, lput_mem]
  constructor
  · rintro ⟨h1 | rfl, h2⟩
    · exact h1.1
    · exact absurd rfl h2
  · intro h
    exact ⟨.inl ⟨h, hn e h⟩, hn e h⟩
/-- Just these keys stand there, each with itself. -/
def Kys (l : LE2) (S : Int → Prop) : Prop := Srt l ∧ ∀ e, e ∈ l ↔ (e.2 = e.1 ∧ S e.1)
theorem Kys.put {l : LE2} {S S' : Int → Prop} {x : Int} (h : Kys l S) (hS : ∀ a, S' a ↔ S a ∨ a = x) : Kys (lput x x l) S' := by
  refine ⟨lput_srt h.1, fun e => ?_⟩
  rw [lput_mem, h.2, hS]
  constructor
  · rintro (⟨⟨h1, h2⟩, h3⟩ | rfl)
    · exact ⟨h1, .inl h2⟩
    · exact ⟨rfl, .inr rfl⟩
  · rintro ⟨h1, h2⟩
    by_cases hx : e.1 = x
    · right
      obtain ⟨a, b⟩ := e
      simp only at h1 hx
      subst hx; subst h1; rfl
    · rcases h2 with h2 | h2
      · exact .inl ⟨⟨h1, h2⟩, hx⟩
      · exact absurd h2 hx
theorem Kys.same {l l' : LE2} {S S' : Int → Prop} (h : Kys l S) (h' : Kys l' S') (hS : ∀ a, S a ↔ S' a) : l = l' :=
  Srt_ext h.1 h'.1 fun e => by rw [h.2, h'.2, hS]
/-- The places from the end, turned by k. -/
def rvi (n k i : Nat) : Nat := n - 1 - (i + k) % n
theorem rvi_lt {n k i : Nat} (hn : 0 < n) : rvi n k i < n := by unfold rvi; omega
theorem rvi_on {n k j : Nat} (hk : k < n) (hj : j < n) : ∃ i, i < n ∧ rvi n k i = j := by
  by_cases h : k ≤ n - 1 - j
  · refine ⟨n - 1 - j - k, by omega, ?_⟩
    unfold rvi
    rw [show n - 1 - j - k + k = n - 1 - j by omega, Nat.mod_eq_of_lt (by omega)]; omega
  · refine ⟨n - 1 - j + n - k, by omega, ?_⟩
    unfold rvi
    rw [show n - 1 - j + n - k + k = n - 1 - j + n by omega, Nat.add_mod_right, Nat.mod_eq_of_lt (by omega)]; omega
section
variable {e w : World} {F : List HP} {h0 : Nat → Option Obj} {k v : Int}
theorem nilFind (h : Own e w F) : Rets Try.prog 89 #[.pointer none, .int .i64 k] w fun v w' => v = .tuple #[.pointer none, .int .i64 0] ∧ Own e w' F := rank_nil_find_go _ ⟨fun _ => ⟨rfl, h⟩, fun hc => (by cases hc)⟩
theorem nilGet (h : Own e w F) : Rets Try.prog 24 #[.pointer none, .int .i64 k] w fun v w' => v = .tuple #[.int .i64 0, .bool false] ∧ Own e w' F := by
  refine rank_Tree_int_int_Get_go _ _ ?_
  refine Rets.mono (nilFind h) ?_
  rintro _ w ⟨rfl, h⟩
  exact ⟨_, _, rfl, fun _ => ⟨rfl, h⟩, fun hc => (by cases hc)⟩
theorem nilRank (h : Own e w F) : Rets Try.prog 26 #[.pointer none, .int .i64 k] w fun v w' => v = .tuple #[.int .i64 0, .bool false] ∧ Own e w' F := by
  refine rank_Tree_int_int_Rank_go _ _ ?_
  refine Rets.mono (nilFind h) ?_
  rintro _ w ⟨rfl, h⟩
  exact ⟨_, _, rfl, rfl, h⟩
theorem nilAt (h : Own e w F) : Rets Try.prog 46 #[.pointer none, .int .i64 k] w fun v w' => v = .tuple #[.int .i64 0, .int .i64 0, .bool false] ∧ Own e w' F := rank_nil_At_go _ ⟨fun hc => (by cases hc), fun _ => ⟨rfl, h⟩⟩
theorem nilPut (h : Own e w F) : Rets Try.prog 20 #[.pointer none, .int .i64 k, .int .i64 v] w fun v w' => v = .pointer none ∧ Own e w' F := rank_nil_Put_go _ _ ⟨fun _ => ⟨rfl, h⟩, fun hc => (by cases hc)⟩
theorem nilDrop (h : Own e w F) : Rets Try.prog 22 #[.pointer none, .int .i64 k] w fun v w' => v = .pointer none ∧ Own e w' F := rank_nil_Drop_go _ ⟨fun _ => ⟨rfl, h⟩, fun hc => (by cases hc)⟩
theorem nilLen (h : Own e w F) : Rets Try.prog 47 #[.pointer none] w fun v w' => v = .int .i64 0 ∧ Own e w' F := rank_nil_Len_go ⟨fun _ => ⟨rfl, h⟩, fun hc => (by cases hc)⟩
theorem nilDeep (h : Own e w F) : Rets Try.prog 29 #[.pointer none] w fun v w' => v = .int .i64 0 ∧ Own e w' F := rank_nil_Deep_go ⟨fun _ => ⟨rfl, h⟩, fun hc => (by cases hc)⟩
theorem nilNew (h : Own e w F) : Rets Try.prog 18 #[.nilFunc] w fun v w' => v = .pointer none ∧ Own e w' F := rank_nil_New_go ⟨fun _ => ⟨rfl, h⟩, fun hc => (by cases hc)⟩
theorem nilTold (h : Own e w F) : Rets Try.prog 49 #[.pointer none] w fun v w' => ∃ b, v = .func (.func 109) #[] #[.pointer (some ⟨b, 0, none⟩)] ∧ Own e w' (blk b 37 [.pointer none] :: F) := rank_Tree_int_int_All_go _ (h.newR fun b w h => ⟨b, rfl, h⟩)
theorem nilFrom (h : Own e w F) : Rets Try.prog 50 #[.pointer none, .int .i64 k] w fun v w' => ∃ a b, v = .func (.func 112) #[] #[.pointer (some ⟨a, 0, none⟩), .pointer (some ⟨b, 0, none⟩)] ∧ Own e w' (blk a 37 [.pointer none] :: F) := rank_Tree_int_int_From_go _ _ (h.newR fun a w h => h.newR fun b w h => ⟨a, b, rfl, h.drop⟩)
theorem nilToldAll {b : Nat} (h : Own e w (blk b 37 [.pointer none] :: F)) : Rets Try.prog 48 #[.func (.func 109) #[] #[.pointer (some ⟨b, 0, none⟩)], .int .i64 1] w fun v w' => v = .slice none 0 0 ∧ Own e w' F := by
  refine told_all_go _ _ (h.newR fun g1 w h => h.newR fun g2 w h => ⟨fun hc => (by cases hc), fun _ => ⟨_, rfl, h.loopR fun mk lp L w h _ => ?_⟩⟩)
  refine Rets.mono (k := fun v w' => Own e w' (pt lp (LoopObj L .ready none) :: pt mk (.deferred (some [])) :: blk g2 40 [.slice none 0 0] :: F)) (rank_Tree_int_int_All_1_go _ _ ⟨_, Own.ld' (g := b) h (by repeat (first | with_reducible exact Pick.here | apply Pick.there)) rfl, fun hc => (by cases hc), fun _ => (Own.sub (h) (by repeat (first | with_reducible exact Sub.nil _ | with_reducible exact Sub.rfl _ | (apply Sub.cons; focus ((repeat (first | with_reducible exact Pick.here | apply Pick.there)); done)) | apply Sub.drop)))⟩) ?_
  clear h
  rintro _ w h
  left
  refine Own.endR (l := lp) (L := L) h (by simp) fun w h => ?_
  exact ⟨_, _, _, Own.ld' (g := g2) h (by repeat (first | with_reducible exact Pick.here | apply Pick.there)) rfl, Own.markR (g := mk) (Own.pk h (by repeat (first | with_reducible exact Pick.here | apply Pick.there))) fun w h => ⟨rfl, h.drop⟩⟩
theorem nilToldFrom {a b : Nat} (h : Own e w (blk a 37 [.pointer none] :: F)) : Rets Try.prog 48 #[.func (.func 112) #[] #[.pointer (some ⟨a, 0, none⟩), .pointer (some ⟨b, 0, none⟩)], .int .i64 1] w fun v w' => v = .slice none 0 0 ∧ Own e w' F := by
  refine told_from_go _ _ _ (h.newR fun g1 w h => h.newR fun g2 w h => ⟨fun hc => (by cases hc), fun _ => ⟨_, _, rfl, h.loopR fun mk lp L w h _ => ?_⟩⟩)
  refine Rets.mono (k := fun v w' => Own e w' (pt lp (LoopObj L .ready none) :: pt mk (.deferred (some [])) :: blk g2 40 [.slice none 0 0] :: F)) (rank_Tree_int_int_From_1_go _ _ _ ⟨_, Own.ld' (g := a) h (by repeat (first | with_reducible exact Pick.here | apply Pick.there)) rfl, fun hc => (by cases hc), fun _ => (Own.sub (h) (by repeat (first | with_reducible exact Sub.nil _ | with_reducible exact Sub.rfl _ | (apply Sub.cons; focus ((repeat (first | with_reducible exact Pick.here | apply Pick.there)); done)) | apply Sub.drop)))⟩) ?_
  clear h
  rintro _ w h
  left
  refine Own.endR (l := lp) (L := L) h (by simp) fun w h => ?_
  exact ⟨_, _, _, Own.ld' (g := g2) h (by repeat (first | with_reducible exact Pick.here | apply Pick.there)) rfl, Own.markR (g := mk) (Own.pk h (by repeat (first | with_reducible exact Pick.here | apply Pick.there))) fun w h => ⟨rfl, h.drop⟩⟩
end
section
variable {W : World} {q : Option Addr} {c : Nat} {L : List Int} {turn : Int}
theorem RankAlike_spec (hb : RdC W q (cs .i64 L)) (hm : L.length ≤ maxLen) (hc : L.length ≤ c) (hw : ∀ x ∈ L, (Lit.int .i64 x).wf = true) (htw : (Lit.int .u64 turn).wf = true) :
    Rets Try.prog 7 #[.slice q L.length c, .int .u64 turn] W fun v w' => v = .bool true ∧ Below W.heap.size W w' := by
  refine Rets.mono (k := fun v w' => v = .bool true ∧ Own W w' [snap W]) ?_ (fun v w' h => ⟨h.1, h.2.below⟩)
  have h := Own.begin W
  have htw := wfU64 htw
  rw [snap_imm] at h ⊢
  have aw : ∀ {h0 : Nat → Option Obj} w, LeH (fun b => W.heap[b]?) h0 → Own W w [imm h0] → Rets Try.prog 17 #[] w fun v w' => ∃ b, v = Value.bool b ∧ (Value.bool b) = .bool true ∧ Own W w' [imm (fun b => W.heap[b]?)] := fun w hle h => by
    refine Rets.mono (rkAwake h) ?_
    rintro _ w ⟨rfl, h⟩
    exact ⟨_, rfl, rfl, h.immLe hle⟩
  refine cortadolaw08_RankAlike_go _ _ _ _ ⟨fun hx => aw W (LeH.refl _) h, fun hx => ?_⟩
  have hx := dec_f hx
  refine Rets.mono (rkNew h) ?_
  clear h
  rintro _ w ⟨h1, ga, rfl, le1, Ta, h⟩
  refine ⟨_, rfl, ?_⟩
  refine Rets.mono (rkNew h) ?_
  clear h
  rintro _ w ⟨h2, gb, rfl, le2, Tb, h⟩
  have Ta := Ta.mono le2
  have hle2 := LeH.trans le1 le2
  have eu : IntKind.wrap .u64 (L.length : Int) = (L.length : Int) := wU64' (by omega) (by omega)
  rw [eu]
  refine ⟨_, rfl, fun vs w => ∃ K : Nat, vs = [.int .i64 (K : Int)] ∧ (K < L.length ∨ (L.length = 0 ∧ K = 0)) ∧ Own W w [imm h2], ⟨fun hc => ?_, fun hc => ?_⟩, ?_⟩
  · have hc := dec_t hc
    obtain ⟨K, hK⟩ := Int.eq_ofNat_of_zero_le (a := Int.tmod turn (L.length : Int)) (Int.tmod_nonneg _ htw.1)
    have hlt : Int.tmod turn (L.length : Int) < L.length := Int.tmod_lt_of_pos _ (by omega)
    refine ⟨by omega, K, ?_, .inl (by omega), h⟩
    rw [hK, wI64 (by omega) (by omega)]
  · have hc := dec_f hc
    exact ⟨0, rfl, .inr ⟨by omega, rfl⟩, h⟩
  clear h
  rintro w n1
  intros
  rename_i hI
  obtain ⟨K, hvs, hK, h⟩ := hI
  obtain rfl : n1 = (K : Int) := by simpa using hvs
  refine ⟨fun z vs w => ∃ (i : Nat) (ta tb : Tr) (h0 : Nat → Option Obj) (ga gb : Nat) (qx : Option Addr) (cx : Nat), vs = [.pointer (some ⟨ga, 0, none⟩), .pointer (some ⟨gb, 0, none⟩), .slice qx ta.toL.length cx, .int .i64 (i : Int)] ∧ z + i = L.length ∧ LeH (fun b => W.heap[b]?) h0 ∧ ta.size ≤ i ∧ tb.size ≤ i ∧ Kys ta.toL (fun a => a ∈ L.take i) ∧ Kys tb.toL (fun a => ∃ j, j < i ∧ L[rvi L.length K j]? = some a) ∧ TreeA h0 ta ga ∧ TreeA h0 tb gb ∧ ImR h0 qx (E2 ta.toL) ∧ Own W w [imm h0], ⟨L.length, 0, .nil, .nil, h2, ga, gb, none, 0, rfl, rfl, hle2, Nat.le_refl _, Nat.le_refl _, ⟨List.Pairwise.nil, fun e => by simp [Tr.toL]⟩, ⟨List.Pairwise.nil, fun e => by simp [Tr.toL]⟩, Ta, Tb, fun e w F h => .inl rfl, h⟩, ?_⟩
  clear h Ta Tb hle2 le1 le2
  intro z w
  intros
  rename_i hI
  obtain ⟨i, ta, tb, h0, ga, gb, q0, c0, hvs, hz, hle0, hsa, hsb, Ka, Kb, Ta, Tb, I0, h⟩ := hI
  simp at hvs
  obtain ⟨rfl, rfl, ⟨a1, rfl, a2⟩, rfl⟩ := hvs
  have a1 := a1.symm
  have a2 := a2.symm
  subst a1
  subst a2
  have hla := Tr.size_toL ta
  have rdL : ∀ {hx : Nat → Option Obj} {j : Nat} (hj : j < L.length), LeH (fun b => W.heap[b]?) hx → ∃ ad, q = some ad ∧ ∀ w, Own W w [imm hx] → cellAt w (ad.add (Int.toNat (j : Int) * 1)) (.int .i64 L[j]) := fun {hx j} hj hle => by
    obtain ⟨ad, rfl, hcell⟩ := hb.addr (cs_at hj)
    refine ⟨ad, rfl, fun w h => ?_⟩
    have h : Own W w [snap W] := h.immLe hle
    rw [Int.toNat_natCast, Nat.mul_one]
    exact h.snapCell (hcell _ _ (cs_at hj))
  refine ⟨fun hc1 => ?_, fun hc1 => ?_⟩
  · have hc1 := dec_t hc1
    have hi : i < L.length := by omega
    have ei : IntKind.wrap .i64 ((i : Int) + 1) = ((i + 1 : Nat) : Int) := by rw [wI64 (by omega) (by omega)]; rfl
    have hKl : K < L.length := by omega
    have er : IntKind.wrap .i64 (IntKind.wrap .i64 ((L.length : Int) - 1) - Int.tmod (IntKind.wrap .i64 ((i : Int) + (K : Int))) (L.length : Int)) = ((rvi L.length K i : Nat) : Int) := by
      rw [wI64 (n := (L.length : Int) - 1) (by omega) (by omega), wI64 (n := (i : Int) + (K : Int)) (by omega) (by omega), Int.tmod_eq_emod_of_nonneg (by omega)]
      have e1 : ((i : Int) + (K : Int)) % (L.length : Int) = (((i + K) % L.length : Nat) : Int) := by rw [Int.natCast_emod]; rfl
      have e2 : (i + K) % L.length < L.length := Nat.mod_lt _ (by omega)
      rw [e1, wI64 (by omega) (by omega)]
      unfold rvi; omega
    rw [er, ei]
    have hrl := rvi_lt (n := L.length) (k := K) (i := i) (by omega)
    obtain ⟨ad, rfl, rd1⟩ := rdL hi hle0
    obtain ⟨ad2, ea, rd2⟩ := rdL hrl hle0
    cases ea
    obtain ⟨x, hxe⟩ : ∃ x, x = L[i] := ⟨_, rfl⟩
    obtain ⟨y, hye⟩ : ∃ y, y = L[rvi L.length K i] := ⟨_, rfl⟩
    rw [← hxe] at rd1
    rw [← hye] at rd2
    have et : L.take (i + 1) = L.take i ++ [x] := by rw [hxe]; exact List.take_succ_eq_append_getElem hi
    have hpa := size_put x x ta
    have hpb := size_put y y tb
    refine ⟨by omega, h.drw fun w h => ⟨fun w => Own W w [imm h0], h, by omega, by omega, smR ⟨by omega, by omega, smR ⟨by omega, by omega, smR ⟨by omega, by omega, smR ⟨_, rd1, _, rd1, _, rd2, _, rd2, ?_⟩⟩⟩⟩⟩⟩
    refine Rets.mono (rkPut (k := x) (v := x) Ta (by omega) h) ?_
    clear h
    rintro _ w ⟨h1, ga1, rfl, le1, Ta1, h⟩
    refine ⟨_, rfl, h.immLe le1, ?_⟩
    refine Rets.mono (rkPut (k := y) (v := y) (Tb.mono le1) (by omega) h) ?_
    clear h
    rintro _ w ⟨h2, gb1, rfl, le2, Tb1, h⟩
    have hle2 := LeH.trans hle0 (LeH.trans le1 le2)
    obtain ⟨ad2, ea, rd1⟩ := rdL hi hle2
    cases ea
    rw [← hxe] at rd1
    refine ⟨_, rfl, h.drw fun w h => ⟨by omega, by omega, smR ⟨by omega, by omega, smR ⟨_, rd1 w h, _, rd1 w h, ?_⟩⟩⟩⟩
    refine Rets.mono (rlPut (k := x) (v := x) (I0.mono (LeH.trans le1 le2)) Ka.1 (by omega) h) ?_
    clear h
    rintro _ w ⟨h3, q1, c1, rfl, le3, I1, _, h⟩
    refine ⟨_, _, _, rfl, ?_⟩
    have eL := tput_toL x x ta Ka.1
    have eLb := tput_toL y y tb Kb.1
    have Ka1 := Ka.put (x := x) (S' := fun a => a ∈ L.take (i + 1)) (fun a => by rw [et, List.mem_append, List.mem_singleton])
    have Kb1 := Kb.put (x := y) (S' := fun a => ∃ j, j < i + 1 ∧ L[rvi L.length K j]? = some a) (fun a => by
      have hy : L[rvi L.length K i]? = some y := by rw [hye]; exact List.getElem?_eq_getElem hrl
      constructor
      · rintro ⟨j, hj, hja⟩
        by_cases hji : j = i
        · subst hji
          rw [hy] at hja
          right; injection hja with e; exact e.symm
        · exact .inl ⟨j, by omega, hja⟩
      · rintro (⟨j, hj, hja⟩ | rfl)
        · exact ⟨j, by omega, hja⟩
        · exact ⟨i, by omega, hy⟩)
    rw [← eL] at I1 Ka1 ⊢
    rw [← eLb] at Kb1
    exact ⟨z - 1, by omega, i + 1, _, _, h3, ga1, gb1, q1, c1, rfl, by omega, LeH.trans hle2 le3, by omega, by omega, Ka1, Kb1, Ta1.mono (LeH.trans le2 le3), Tb1.mono le3, I1, h⟩
  · have hc1 := dec_f hc1
    obtain rfl : i = L.length := by omega
    rw [List.take_length] at Ka
    have eX : tb.toL = ta.toL := Kb.same Ka fun a => by
      constructor
      · rintro ⟨j, hj, hja⟩
        exact List.mem_of_getElem? hja
      · intro ha
        obtain ⟨j, hj, rfl⟩ := List.mem_iff_getElem.1 ha
        obtain ⟨i, hi, hri⟩ := rvi_on (k := K) (n := L.length) (by omega) hj
        exact ⟨i, hi, by rw [hri]; exact List.getElem?_eq_getElem hj⟩
    have Sa := Ka.1
    clear Ka Kb hz
    refine ⟨fun z vs w => ∃ (i : Nat) (t : Tr) (hx : Nat → Option Obj) (g : Nat), vs = [.pointer (some ⟨g, 0, none⟩), .int .i64 (i : Int)] ∧ z + i = L.length ∧ LeH h0 hx ∧ t.toL = ta.toL ∧ TreeA hx t g ∧ Own W w [imm hx], ⟨L.length, 0, tb, h0, _, rfl, rfl, LeH.refl _, eX, Tb, h⟩, ?_⟩
    clear h Tb eX
    intro z w
    intros
    rename_i hI
    obtain ⟨i, t, hx', g, hvs, hz, hlx, eX, T, h⟩ := hI
    simp at hvs
    obtain ⟨rfl, rfl⟩ := hvs
    have htl := Tr.size_toL t
    have hts : t.size ≤ 40 := by rw [← htl, eX, hla]; omega
    have hle := LeH.trans hle0 hlx
    refine ⟨fun hc2 => ?_, fun hc2 => ?_⟩
    · have hc2 := dec_t hc2
      have hi : i < L.length := by omega
      have ei : IntKind.wrap .i64 ((i : Int) + 1) = ((i + 1 : Nat) : Int) := by rw [wI64 (by omega) (by omega)]; rfl
      rw [ei]
      obtain ⟨ad, rfl, rd1⟩ := rdL hi hle
      obtain ⟨x, hxe⟩ : ∃ x, x = L[i] := ⟨_, rfl⟩
      rw [← hxe] at rd1
      refine ⟨by omega, by omega, smR ⟨_, rd1 w h, ?_⟩⟩
      obtain ⟨y, hy⟩ : ∃ y, y = IntKind.wrap .i64 (x - 1) := ⟨_, rfl⟩
      rw [← hy]
      refine Rets.mono (rlGet (k := y) (I0.mono hlx) (by omega) h) ?_
      clear h
      rintro _ w ⟨rfl, h⟩
      refine ⟨_, _, rfl, fun hn => ?_, fun hn => ⟨z - 1, by omega, i + 1, t, hx', g, rfl, by omega, hlx, eX, T, h⟩⟩
      have hno : ∀ e ∈ t.toL, e.1 ≠ y := fun e he => by
        rw [eX] at he
        have hn2 : lfind y ta.toL = none := by
          cases hq : lfind y ta.toL with
          | none => rfl
          | some _ => rw [hq] at hn; simp at hn
        have := (List.find?_eq_none.1 hn2) e he
        simpa using this
      have St : Srt t.toL := by rw [eX]; exact Sa
      have hp := size_put y 0 t
      refine h.drw fun w h => ⟨fun w => Own W w [imm hx'], h, by omega, by omega, smR ⟨by omega, by omega, smR ⟨_, rd1, _, rd1, ?_⟩⟩⟩
      rw [← hy]
      refine Rets.mono (rkPut (k := y) (v := 0) T (by omega) h) ?_
      clear h
      rintro _ w ⟨h1, g1, rfl, le1, T1, h⟩
      refine ⟨_, rfl, h.immLe le1, ?_⟩
      refine Rets.mono (rkDrop (k := y) T1 (by omega) h) ?_
      clear h
      rintro _ w ⟨h2, g2, rfl, le2, T2, h⟩
      have eP := tput_toL y 0 t St
      have eD := tdrop_toL y (tput y 0 t) (by rw [eP]; exact lput_srt St)
      rw [eP, ldrop_lput St hno, eX] at eD
      exact ⟨_, rfl, z - 1, by omega, i + 1, _, h2, g2, rfl, by omega, LeH.trans hlx (LeH.trans le1 le2), eD, T2, h⟩
    · refine Rets.mono (nilGet h) ?_
      clear h
      rintro _ w ⟨rfl, h⟩
      refine ⟨_, _, rfl, ?_⟩
      refine Rets.mono (nilAt h) ?_
      clear h
      rintro _ w ⟨rfl, h⟩
      refine ⟨_, _, _, rfl, ?_⟩
      refine Rets.mono (nilRank h) ?_
      clear h
      rintro _ w ⟨rfl, h⟩
      refine ⟨_, _, rfl, ?_⟩
      refine Rets.mono (tkStands (Ta.mono hlx) (I0.mono hlx) (by omega) Sa h) ?_
      clear h
      rintro _ w ⟨rfl, h⟩
      refine ⟨_, rfl, fun _ => ?_, fun hc => (by cases hc)⟩
      have I1 := I0.mono hlx
      rw [← eX] at I1 ⊢
      refine Rets.mono (tkStands T I1 (by omega) (by rw [eX]; exact Sa) h) ?_
      clear h
      rintro _ w ⟨rfl, h⟩
      refine ⟨_, rfl, fun _ => ⟨fun _ => ⟨fun _ => ⟨fun _ => ⟨fun _ => ?_, fun hc => (by cases hc)⟩, fun hc => absurd hc (by decide)⟩, fun hc => (by cases hc)⟩, fun hc => (by cases hc)⟩, fun hc => (by cases hc)⟩
      refine Rets.mono (nilPut h) ?_
      clear h
      rintro _ w ⟨rfl, h⟩
      refine ⟨_, rfl, fun _ => ?_, fun hc => (by cases hc)⟩
      refine Rets.mono (nilDrop h) ?_
      clear h
      rintro _ w ⟨rfl, h⟩
      refine ⟨_, rfl, fun _ => ?_, fun hc => (by cases hc)⟩
      refine Rets.mono (nilLen h) ?_
      clear h
      rintro _ w ⟨rfl, h⟩
      refine ⟨_, rfl, ?_⟩
      refine Rets.mono (nilDeep h) ?_
      clear h
      rintro _ w ⟨rfl, h⟩
      refine ⟨_, rfl, fun _ => ?_, fun hc => absurd hc (by decide)⟩
      refine Rets.mono (nilTold h) ?_
      clear h
      rintro _ w ⟨b, rfl, h⟩
      refine ⟨_, _, _, rfl, ?_⟩
      refine Rets.mono (nilToldAll h) ?_
      clear h
      rintro _ w ⟨rfl, h⟩
      refine ⟨_, _, _, rfl, ?_⟩
      refine Rets.mono (nilFrom h) ?_
      clear h
      rintro _ w ⟨a, b, rfl, h⟩
      refine ⟨_, _, _, rfl, ?_⟩
      refine Rets.mono (nilToldFrom h) ?_
      clear h
      rintro _ w ⟨rfl, h⟩
      refine ⟨_, _, _, rfl, fun _ => ?_, fun hc => absurd hc (by decide)⟩
      refine Rets.mono (nilNew h) ?_
      clear h
      rintro _ w ⟨rfl, h⟩
      exact ⟨_, rfl, fun _ => aw w hle h, fun hc => (by cases hc)⟩
end
end Go.Proofs.Ytkcaeknkfgpnhaa.Eng
