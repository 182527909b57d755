/- The document's queues of items. -/
import Derived.Test.YtipcbhaeoeghnaaItP
import Derived.Test.YtipcbhaeoeghnaaItemRG
namespace Go.Proofs.Ytipcbhaeoeghnaa.Eng
open Go Go.RowKit Go.Proofs
set_option linter.unusedVariables false
set_option linter.unusedSimpArgs false
set_option maxRecDepth 1000000
set_option maxHeartbeats 2000000
/-- What may be read for ever. -/
def ImR (h0 : Nat → Option Obj) (q : Option Addr) (us : List Value) : Prop := ∀ e w F, Own e w (imm h0 :: F) → RdC w q us
theorem ImR.mono {h0 h1 : Nat → Option Obj} {q : Option Addr} {us : List Value} (hle : LeH h0 h1) (h : ImR h0 q us) : ImR h1 q us := fun e w F ho => h e w F (ho.immLe hle)
theorem Own.slImm {e w : World} {F : List HP} {h0 : Nat → Option Obj} {T : TypeId} {s n c : Nat} {q : Option Addr} {xs : List Value} (h : Own e w (slO T s q n c xs :: imm h0 :: F)) : ∃ h1, LeH h0 h1 ∧ ImR h1 q xs ∧ n ≤ c ∧ Own e w (imm h1 :: F) := by
  have hnc := h.slFacts.2.1
  rcases h.slCases with ⟨rfl, rfl, rfl, rfl⟩ | ⟨g, rest, rfl, hl, h⟩
  · exact ⟨h0, LeH.refl _, fun e w F ho => .inl rfl, hnc, h.drop⟩
  · obtain ⟨h1, le1, hg, h⟩ := Own.absorb h
    refine ⟨h1, le1, fun e w F ho => .inr ⟨_, rfl, fun j u hj => ?_⟩, hnc, h⟩
    exact ho.immCell (vs := xs ++ rest) hg (by rw [List.getElem?_append_left (List.getElem?_eq_some_iff.1 hj).1]; exact hj)
abbrev itI : Itm Int → List Value := itC (Value.int .i64)
theorem itI_len (x : Itm Int) : (itI x).length = 9 := rfl
section
variable {e w : World} {F : List HP} {h0 : Nat → Option Obj} {q : Option Addr} {c room sent full : Nat} {xs ys : List (Itm Int)} {x : Itm Int}
theorem ImR.iad (hI : ImR h0 q (xs.flatMap itI)) {i : Nat} (hi : i < xs.length) (h : Own e w (imm h0 :: F)) : ∃ ad, q = some ad ∧ ∀ e w F, Own e w (imm h0 :: F) → ∀ j u, (itI xs[i])[j]? = some u → cellAt w ((ad.add (Int.toNat (i : Int) * 9)).add j) u := by
  obtain ⟨ad, rfl, _⟩ := (hI e w F h).rec itI_len hi (by omega)
  refine ⟨ad, rfl, fun e w F h j u hj => ?_⟩
  obtain ⟨ad', ea, hc⟩ := (hI e w F h).rec itI_len hi (by omega)
  cases ea
  rw [Int.toNat_natCast]
  exact hc i hi j u hj
theorem apR {K : Value → World → Prop} {q2 : Option Addr} {c2 : Nat} (h : Own e w (slO 80 9 q xs.length c (xs.flatMap itI) :: F)) (hr : RdC w q2 (ys.flatMap itI)) (hn : xs.length + ys.length ≤ 200000)
    (hk : ∀ q' c' w', Own e w' (slO 80 9 q' (xs ++ ys).length c' ((xs ++ ys).flatMap itI) :: F) → K (.slice q' (xs ++ ys).length c') w') :
    RunR Try.prog (builtinV .append #[70, 70] 70 #[.slice q xs.length c, .slice q2 ys.length c2]) w K := by
  refine Own.append (z := itI (itZ (0 : Int))) (b := 72) (m := ys.length) (news := ys.flatMap itI) h (by kernel_rfl) (by kernel_rfl) (by kernel_rfl) (by kernel_rfl) (by kernel_rfl) (by omega) hr (flat_len itI_len ys) (itC_one (fun _ => rfl) ys) (by unfold maxLen; omega) (by omega) fun q' c' w' h _ => ?_
  rw [← List.flatMap_append, ← List.length_append] at h
  rw [← List.length_append]
  exact hk q' c' w' h
theorem rdNew {r : Int} (h : Own e w F) : Rets Try.prog 41 #[.int .i64 r] w fun v w' => v = .agg #[.slice none 0 0, .int .i64 ((maxI 1 (minI r 64)).toNat : Int), .int .i64 0, .int .i64 0] ∧ Own e w' F := by
  refine cortadoref28_New_go _ (h.newR fun g w h => Own.stP' (g := g) h (by repeat (first | with_reducible exact Pick.here | apply Pick.there)) (by simp) (by simp [Value.oneCell']) fun w h => ?_)
  have e1 : maxI 1 (minI r 64) = ((maxI 1 (minI r 64)).toNat : Int) := by unfold maxI minI; split <;> split <;> omega
  rw [e1] at h
  simp only [setFrom, List.set_cons_zero, List.set_cons_succ, List.set_nil] at h
  exact ⟨_, _, _, _, _, _, ⟨Own.ld (g := g) h (by repeat (first | with_reducible exact Pick.here | apply Pick.there)) rfl, Own.ld (g := g) h (by repeat (first | with_reducible exact Pick.here | apply Pick.there)) rfl, Own.ld (g := g) h (by repeat (first | with_reducible exact Pick.here | apply Pick.there)) rfl, Own.ld (g := g) h (by repeat (first | with_reducible exact Pick.here | apply Pick.there)) rfl⟩, rfl, h.drop⟩
theorem rdTake (hI : ImR h0 q (xs.flatMap itI)) (hc : xs.length ≤ c) (h : Own e w (imm h0 :: F)) : Rets Try.prog 42 #[.agg #[.slice q xs.length c, .int .i64 (room : Int), .int .i64 (sent : Int), .int .i64 (full : Int)]] w fun v w' => (∃ q' c', v = .tuple #[.agg #[.slice q' xs.tail.length c', .int .i64 (room : Int), .int .i64 (sent : Int), .int .i64 (full : Int)], itV (Value.int .i64) (xs.head?.getD (itZ (0 : Int))), .bool (decide (0 < xs.length))] ∧ ImR h0 q' (xs.tail.flatMap itI) ∧ xs.tail.length ≤ c') ∧ Own e w' (imm h0 :: F) := by
  refine cortadoref28_Take_go _ _ _ _ _ _ (h.newR fun g1 w h => h.newR fun g2 w h => h.newR fun g3 w h => ⟨_, _, _, Own.ld (g := g1) (k := 0) h (by repeat (first | with_reducible exact Pick.here | apply Pick.there)) rfl, fun hn => ?_, fun hn => ?_⟩)
  · obtain rfl : xs = [] := by
      cases xs with
      | nil => rfl
      | cons x r => simp at hn; omega
    refine ⟨_, _, _, _, _, _, ⟨Own.ld (g := g1) h (by repeat (first | with_reducible exact Pick.here | apply Pick.there)) rfl, Own.ld (g := g1) h (by repeat (first | with_reducible exact Pick.here | apply Pick.there)) rfl, Own.ld (g := g1) h (by repeat (first | with_reducible exact Pick.here | apply Pick.there)) rfl, Own.ld (g := g1) h (by repeat (first | with_reducible exact Pick.here | apply Pick.there)) rfl⟩, Own.stP' (g := g2) h (by repeat (first | with_reducible exact Pick.here | apply Pick.there)) (by simp) (by simp [Value.oneCell']) fun w h => ?_⟩
    simp only [setFrom, List.set_cons_zero, List.set_cons_succ, List.set_nil] at h
    refine Own.stP' (g := g3) h (by repeat (first | with_reducible exact Pick.here | apply Pick.there)) (by simp) (by simp [Value.oneCell']) fun w h => ?_
    simp only [setFrom, List.set_cons_zero, List.set_cons_succ, List.set_nil] at h
    have ho := Own.pk (A := imm h0) h (by repeat (first | with_reducible exact Pick.here | apply Pick.there))
    exact ⟨_, _, _, _, _, _, ⟨Own.ld (g := g2) h (by repeat (first | with_reducible exact Pick.here | apply Pick.there)) rfl, Own.ld (g := g2) h (by repeat (first | with_reducible exact Pick.here | apply Pick.there)) rfl, Own.ld (g := g2) h (by repeat (first | with_reducible exact Pick.here | apply Pick.there)) rfl, Own.ld (g := g2) h (by repeat (first | with_reducible exact Pick.here | apply Pick.there)) rfl⟩, _, _, _, _, _, _, _, _, _, ⟨Own.ld (g := g3) h (by repeat (first | with_reducible exact Pick.here | apply Pick.there)) rfl, Own.ld (g := g3) h (by repeat (first | with_reducible exact Pick.here | apply Pick.there)) rfl, Own.ld (g := g3) h (by repeat (first | with_reducible exact Pick.here | apply Pick.there)) rfl, Own.ld (g := g3) h (by repeat (first | with_reducible exact Pick.here | apply Pick.there)) rfl, Own.ld (g := g3) h (by repeat (first | with_reducible exact Pick.here | apply Pick.there)) rfl, Own.ld (g := g3) h (by repeat (first | with_reducible exact Pick.here | apply Pick.there)) rfl, Own.ld (g := g3) h (by repeat (first | with_reducible exact Pick.here | apply Pick.there)) rfl, Own.ld (g := g3) h (by repeat (first | with_reducible exact Pick.here | apply Pick.there)) rfl, Own.ld (g := g3) h (by repeat (first | with_reducible exact Pick.here | apply Pick.there)) rfl⟩, ⟨q, c, rfl, hI, hc⟩, Own.sub h (by repeat (first | with_reducible exact Sub.rfl _ | (apply Sub.cons; focus ((repeat (first | with_reducible exact Pick.here | apply Pick.there)); done)) | apply Sub.drop))⟩
  · cases xs with
    | nil => simp at hn
    | cons x r =>
      obtain ⟨ad, rfl, rd⟩ := hI.iad (i := 0) (by simp) (Own.pk (A := imm h0) h (by repeat (first | with_reducible exact Pick.here | apply Pick.there)))
      have rd : ∀ e w F, Own e w (imm h0 :: F) → ∀ j u, (itI x)[j]? = some u → cellAt w ((ad.add 0).add j) u := rd
      refine ⟨_, _, _, Own.ld (g := g1) (k := 0) h (by repeat (first | with_reducible exact Pick.here | apply Pick.there)) rfl, by omega, (by simp), smR ⟨_, _, _, _, _, _, _, _, _, ⟨rd _ _ _ (Own.pk (A := imm h0) h (by repeat (first | with_reducible exact Pick.here | apply Pick.there))) 0 _ rfl, rd _ _ _ (Own.pk (A := imm h0) h (by repeat (first | with_reducible exact Pick.here | apply Pick.there))) 1 _ rfl, rd _ _ _ (Own.pk (A := imm h0) h (by repeat (first | with_reducible exact Pick.here | apply Pick.there))) 2 _ rfl, rd _ _ _ (Own.pk (A := imm h0) h (by repeat (first | with_reducible exact Pick.here | apply Pick.there))) 3 _ rfl, rd _ _ _ (Own.pk (A := imm h0) h (by repeat (first | with_reducible exact Pick.here | apply Pick.there))) 4 _ rfl, rd _ _ _ (Own.pk (A := imm h0) h (by repeat (first | with_reducible exact Pick.here | apply Pick.there))) 5 _ rfl, rd _ _ _ (Own.pk (A := imm h0) h (by repeat (first | with_reducible exact Pick.here | apply Pick.there))) 6 _ rfl, rd _ _ _ (Own.pk (A := imm h0) h (by repeat (first | with_reducible exact Pick.here | apply Pick.there))) 7 _ rfl, rd _ _ _ (Own.pk (A := imm h0) h (by repeat (first | with_reducible exact Pick.here | apply Pick.there))) 8 _ rfl⟩, h.newR fun g5 w h => Own.stP' (g := g5) h (by repeat (first | with_reducible exact Pick.here | apply Pick.there)) (by simp) (by simp [Value.oneCell']) fun w h => ?_⟩⟩
      have h : Own e w (blk g5 80 (itI x) :: _) := h
      refine ⟨_, _, _, Own.ld (g := g1) (k := 0) h (by repeat (first | with_reducible exact Pick.here | apply Pick.there)) rfl, by omega, (by rw [List.length_cons]; omega), Own.stP (g := g1) (k := 0) h (by repeat (first | with_reducible exact Pick.here | apply Pick.there)) (by simp) (by simp [Value.oneCell']) fun w h => ?_⟩
      simp only [setFrom, List.set_cons_zero, List.set_cons_succ, List.set_nil] at h
      have el : (x :: r).length - 1 = r.length := by simp
      rw [el] at h
      have h : Own e w (blk g1 74 [.slice (slcA (some ad) 1 c 9) r.length (c - 1), .int .i64 (room : Int), .int .i64 (sent : Int), .int .i64 (full : Int)] :: blk g5 80 (itI x) :: blk g2 74 [.slice none 0 0, .int .i64 0, .int .i64 0, .int .i64 0] :: blk g3 80 (itI (itZ (0 : Int))) :: imm h0 :: F) := by
        have h : Own e w (blk g1 74 [.slice (slcA (some ad) 1 c 9) r.length (c - 1), .int .i64 (room : Int), .int .i64 (sent : Int), .int .i64 (full : Int)] :: blk g5 80 (itI x) :: blk g3 80 (itI (itZ (0 : Int))) :: blk g2 74 [.slice none 0 0, .int .i64 0, .int .i64 0, .int .i64 0] :: imm h0 :: F) := h
        exact (Own.sub (h) (by repeat (first | with_reducible exact Sub.nil _ | with_reducible exact Sub.rfl _ | (apply Sub.cons; focus ((repeat (first | with_reducible exact Pick.here | apply Pick.there)); done)) | apply Sub.drop)))
      refine h.drw fun w h => ⟨fun w => Own e w (blk g1 74 [.slice (slcA (some ad) 1 c 9) r.length (c - 1), .int .i64 (room : Int), .int .i64 (sent : Int), .int .i64 (full : Int)] :: blk g5 80 (itI x) :: imm h0 :: F), (Own.sub (h) (by repeat (first | with_reducible exact Sub.nil _ | with_reducible exact Sub.rfl _ | (apply Sub.cons; focus ((repeat (first | with_reducible exact Pick.here | apply Pick.there)); done)) | apply Sub.drop))), _, _, _, _, _, _, ⟨fun w h => Own.ld (g := g1) h (by repeat (first | with_reducible exact Pick.here | apply Pick.there)) rfl, fun w h => Own.ld (g := g1) h (by repeat (first | with_reducible exact Pick.here | apply Pick.there)) rfl, fun w h => Own.ld (g := g1) h (by repeat (first | with_reducible exact Pick.here | apply Pick.there)) rfl, fun w h => Own.ld (g := g1) h (by repeat (first | with_reducible exact Pick.here | apply Pick.there)) rfl⟩, _, _, _, _, _, _, _, _, _, ⟨fun w h => Own.ld (g := g5) h (by repeat (first | with_reducible exact Pick.here | apply Pick.there)) rfl, fun w h => Own.ld (g := g5) h (by repeat (first | with_reducible exact Pick.here | apply Pick.there)) rfl, fun w h => Own.ld (g := g5) h (by repeat (first | with_reducible exact Pick.here | apply Pick.there)) rfl, fun w h => Own.ld (g := g5) h (by repeat (first | with_reducible exact Pick.here | apply Pick.there)) rfl, fun w h => Own.ld (g := g5) h (by repeat (first | with_reducible exact Pick.here | apply Pick.there)) rfl, fun w h => Own.ld (g := g5) h (by repeat (first | with_reducible exact Pick.here | apply Pick.there)) rfl, fun w h => Own.ld (g := g5) h (by repeat (first | with_reducible exact Pick.here | apply Pick.there)) rfl, fun w h => Own.ld (g := g5) h (by repeat (first | with_reducible exact Pick.here | apply Pick.there)) rfl, fun w h => Own.ld (g := g5) h (by repeat (first | with_reducible exact Pick.here | apply Pick.there)) rfl⟩, Own.stP' (g := g2) h (by repeat (first | with_reducible exact Pick.here | apply Pick.there)) (by simp) (by simp [Value.oneCell']) fun w h => ?_⟩
      simp only [setFrom, List.set_cons_zero, List.set_cons_succ, List.set_nil] at h
      refine ⟨(Own.sub (h) (by repeat (first | with_reducible exact Sub.nil _ | with_reducible exact Sub.rfl _ | (apply Sub.cons; focus ((repeat (first | with_reducible exact Pick.here | apply Pick.there)); done)) | apply Sub.drop))), Own.stP' (g := g3) h (by repeat (first | with_reducible exact Pick.here | apply Pick.there)) (by simp) (by simp [Value.oneCell']) fun w h => ?_⟩
      have h : Own e w (blk g3 80 (itI x) :: blk g2 74 [.slice (slcA (some ad) 1 c 9) r.length (c - 1), .int .i64 (room : Int), .int .i64 (sent : Int), .int .i64 (full : Int)] :: blk g1 74 [.slice (slcA (some ad) 1 c 9) r.length (c - 1), .int .i64 (room : Int), .int .i64 (sent : Int), .int .i64 (full : Int)] :: blk g5 80 (itI x) :: imm h0 :: F) := h
      refine ⟨_, _, _, _, _, _, ⟨Own.ld (g := g2) h (by repeat (first | with_reducible exact Pick.here | apply Pick.there)) rfl, Own.ld (g := g2) h (by repeat (first | with_reducible exact Pick.here | apply Pick.there)) rfl, Own.ld (g := g2) h (by repeat (first | with_reducible exact Pick.here | apply Pick.there)) rfl, Own.ld (g := g2) h (by repeat (first | with_reducible exact Pick.here | apply Pick.there)) rfl⟩, _, _, _, _, _, _, _, _, _, ⟨Own.ld (g := g3) h (by repeat (first | with_reducible exact Pick.here | apply Pick.there)) rfl, Own.ld (g := g3) h (by repeat (first | with_reducible exact Pick.here | apply Pick.there)) rfl, Own.ld (g := g3) h (by repeat (first | with_reducible exact Pick.here | apply Pick.there)) rfl, Own.ld (g := g3) h (by repeat (first | with_reducible exact Pick.here | apply Pick.there)) rfl, Own.ld (g := g3) h (by repeat (first | with_reducible exact Pick.here | apply Pick.there)) rfl, Own.ld (g := g3) h (by repeat (first | with_reducible exact Pick.here | apply Pick.there)) rfl, Own.ld (g := g3) h (by repeat (first | with_reducible exact Pick.here | apply Pick.there)) rfl, Own.ld (g := g3) h (by repeat (first | with_reducible exact Pick.here | apply Pick.there)) rfl, Own.ld (g := g3) h (by repeat (first | with_reducible exact Pick.here | apply Pick.there)) rfl⟩, ⟨slcA (some ad) 1 c 9, c - 1, ?_, fun e w F ho => ?_, by simp at hc ⊢; omega⟩, (Own.sub (h) (by repeat (first | with_reducible exact Sub.nil _ | with_reducible exact Sub.rfl _ | (apply Sub.cons; focus ((repeat (first | with_reducible exact Pick.here | apply Pick.there)); done)) | apply Sub.drop)))⟩
      · rw [decide_eq_true (by simp)]; rfl
      · have hcl : 1 * 9 ≤ ((x :: r).flatMap itI).length := by rw [flat_len itI_len, List.length_cons]; omega
        rcases (hI e w F ho).slice (l := 1) (m := c) (z := 9) hcl with hs | hs
        · have e2 : ((x :: r).flatMap itI).drop (1 * 9) = r.flatMap itI := by
            rw [List.flatMap_cons, List.drop_left' (by rw [itI_len])]
          rw [e2] at hs; exact hs
        · left
          have : r = [] := by
            cases r with
            | nil => rfl
            | cons _ _ => simp at hc; omega
          subst this; rfl
theorem rdOffer (hI : ImR h0 q (xs.flatMap itI)) (hc : xs.length ≤ c) (hl : xs.length ≤ 64) (hs : sent ≤ 1000 ∧ full ≤ 1000) (h : Own e w (imm h0 :: F)) :
    Rets Try.prog 44 #[.agg #[.slice q xs.length c, .int .i64 (room : Int), .int .i64 (sent : Int), .int .i64 (full : Int)], itV (Value.int .i64) x] w fun v w' => ∃ h1 q' c', v = .tuple #[.agg #[.slice q' (if kwn x.k ∧ xs.length < room then xs ++ [x] else xs).length c', .int .i64 (room : Int), .int .i64 ((if kwn x.k ∧ xs.length < room then sent + 1 else sent : Nat) : Int), .int .i64 ((if kwn x.k ∧ ¬ xs.length < room then full + 1 else full : Nat) : Int)], .bool (decide (kwn x.k ∧ xs.length < room))] ∧ LeH h0 h1 ∧ ImR h1 q' ((if kwn x.k ∧ xs.length < room then xs ++ [x] else xs).flatMap itI) ∧ (if kwn x.k ∧ xs.length < room then xs ++ [x] else xs).length ≤ c' ∧ Own e w' (imm h1 :: F) := by
  refine rfOffer_go _ _ _ _ _ _ _ _ _ _ _ _ _ _ _ (h.newR fun g1 w h => h.newR fun g2 w h => h.newR fun g3 w h => ?_)
  have h : Own e w (blk g3 74 [.slice none 0 0, .int .i64 0, .int .i64 0, .int .i64 0] :: blk g2 80 (itC (Value.int .i64) x) :: blk g1 74 [.slice q xs.length c, .int .i64 (room : Int), .int .i64 (sent : Int), .int .i64 (full : Int)] :: imm h0 :: F) := h
  refine ⟨fun vs w => vs = [.bool (decide (¬ kwn x.k))] ∧ Own e w (blk g3 74 [.slice none 0 0, .int .i64 0, .int .i64 0, .int .i64 0] :: blk g2 80 (itC (Value.int .i64) x) :: blk g1 74 [.slice q xs.length c, .int .i64 (room : Int), .int .i64 (sent : Int), .int .i64 (full : Int)] :: imm h0 :: F), ⟨_, Own.ld (g := g2) (k := 0) h (by repeat (first | with_reducible exact Pick.here | apply Pick.there)) rfl, fun hn => ⟨_, Own.ld (g := g2) (k := 0) h (by repeat (first | with_reducible exact Pick.here | apply Pick.there)) rfl, ?_, h⟩, fun hn => ⟨?_, h⟩⟩, ?_⟩
  · have hn := dec_f hn
    congr 2; rw [decide_eq_decide]; unfold kwn; omega
  · have hn := dec_t hn
    rw [decide_eq_true (show ¬ kwn x.k by unfold kwn; omega)]
  clear h
  intro w
  intros
  rename_i hJ
  obtain ⟨hvs, h⟩ := hJ
  simp only [List.cons.injEq, Value.bool.injEq, and_true] at hvs
  subst hvs
  refine ⟨fun hk => ?_, fun hk => ?_⟩
  · have hk := dec_t hk
    refine ⟨_, _, _, _, _, _, ⟨Own.ld (g := g1) h (by repeat (first | with_reducible exact Pick.here | apply Pick.there)) rfl, Own.ld (g := g1) h (by repeat (first | with_reducible exact Pick.here | apply Pick.there)) rfl, Own.ld (g := g1) h (by repeat (first | with_reducible exact Pick.here | apply Pick.there)) rfl, Own.ld (g := g1) h (by repeat (first | with_reducible exact Pick.here | apply Pick.there)) rfl⟩, Own.stP' (g := g3) h (by repeat (first | with_reducible exact Pick.here | apply Pick.there)) (by simp) (by simp [Value.oneCell']) fun w h => ?_⟩
    simp only [setFrom, List.set_cons_zero, List.set_cons_succ, List.set_nil] at h
    refine ⟨_, _, _, _, _, _, ⟨Own.ld (g := g3) h (by repeat (first | with_reducible exact Pick.here | apply Pick.there)) rfl, Own.ld (g := g3) h (by repeat (first | with_reducible exact Pick.here | apply Pick.there)) rfl, Own.ld (g := g3) h (by repeat (first | with_reducible exact Pick.here | apply Pick.there)) rfl, Own.ld (g := g3) h (by repeat (first | with_reducible exact Pick.here | apply Pick.there)) rfl⟩, h0, q, c, ?_, LeH.refl _, ?_⟩
    · rw [if_neg (fun z => hk z.1), if_neg (fun z => hk z.1), if_neg (fun z => hk z.1), decide_eq_false (fun z => hk z.1)]
    · rw [if_neg (fun z => hk z.1)]
      exact ⟨hI, hc, (Own.sub (h) (by repeat (first | with_reducible exact Sub.nil _ | with_reducible exact Sub.rfl _ | (apply Sub.cons; focus ((repeat (first | with_reducible exact Pick.here | apply Pick.there)); done)) | apply Sub.drop)))⟩
  · have hk : kwn x.k := by simpa using hk
    refine ⟨_, _, _, Own.ld (g := g1) (k := 0) h (by repeat (first | with_reducible exact Pick.here | apply Pick.there)) rfl, _, Own.ld (g := g1) (k := 1) h (by repeat (first | with_reducible exact Pick.here | apply Pick.there)) rfl, fun hn => ?_, fun hn => ?_⟩
    · have hn := dec_t hn
      have hno : ¬ xs.length < room := by omega
      refine ⟨_, Own.ld (g := g1) (k := 3) h (by repeat (first | with_reducible exact Pick.here | apply Pick.there)) rfl, Own.stP (g := g1) (k := 3) h (by repeat (first | with_reducible exact Pick.here | apply Pick.there)) (by simp) (by simp [Value.oneCell']) fun w h => ?_⟩
      simp only [setFrom, List.set_cons_zero, List.set_cons_succ, List.set_nil] at h
      rw [wI64 (by omega) (by omega)] at h
      refine ⟨_, _, _, _, _, _, ⟨Own.ld (g := g1) h (by repeat (first | with_reducible exact Pick.here | apply Pick.there)) rfl, Own.ld (g := g1) h (by repeat (first | with_reducible exact Pick.here | apply Pick.there)) rfl, Own.ld (g := g1) h (by repeat (first | with_reducible exact Pick.here | apply Pick.there)) rfl, Own.ld (g := g1) h (by repeat (first | with_reducible exact Pick.here | apply Pick.there)) rfl⟩, Own.stP' (g := g3) h (by repeat (first | with_reducible exact Pick.here | apply Pick.there)) (by simp) (by simp [Value.oneCell']) fun w h => ?_⟩
      simp only [setFrom, List.set_cons_zero, List.set_cons_succ, List.set_nil] at h
      refine ⟨_, _, _, _, _, _, ⟨Own.ld (g := g3) h (by repeat (first | with_reducible exact Pick.here | apply Pick.there)) rfl, Own.ld (g := g3) h (by repeat (first | with_reducible exact Pick.here | apply Pick.there)) rfl, Own.ld (g := g3) h (by repeat (first | with_reducible exact Pick.here | apply Pick.there)) rfl, Own.ld (g := g3) h (by repeat (first | with_reducible exact Pick.here | apply Pick.there)) rfl⟩, h0, q, c, ?_, LeH.refl _, ?_⟩
      · rw [if_neg (fun z => hno z.2), if_neg (fun z => hno z.2), if_pos ⟨hk, hno⟩, decide_eq_false (fun z => hno z.2)]; rfl
      · rw [if_neg (fun z => hno z.2)]
        exact ⟨hI, hc, (Own.sub (h) (by repeat (first | with_reducible exact Sub.nil _ | with_reducible exact Sub.rfl _ | (apply Sub.cons; focus ((repeat (first | with_reducible exact Pick.here | apply Pick.there)); done)) | apply Sub.drop)))⟩
    · have hn := dec_f hn
      have hyes : xs.length < room := by omega
      have hx1 : ([x] : List (Itm Int)).flatMap itI = itI x := by simp
      refine ⟨fun vs w => vs = [.bool true] ∧ ∃ q8 c8, Own e w (blk g3 74 [.slice q8 (xs ++ [x]).length c8, .int .i64 (room : Int), .int .i64 ((sent : Int) + 1), .int .i64 (full : Int)] :: slO 80 9 q8 (xs ++ [x]).length c8 ((xs ++ [x]).flatMap itI) :: imm h0 :: F), ?_, ?_⟩
      · have sh : ∀ {R : List HP} w, Own e w (blk g1 74 [.slice q xs.length c, .int .i64 (room : Int), .int .i64 (sent : Int), .int .i64 (full : Int)] :: blk g2 80 (itC (Value.int .i64) x) :: blk g3 74 [.slice none 0 0, .int .i64 0, .int .i64 0, .int .i64 0] :: imm h0 :: F) → Own e w (blk g1 74 [.slice q xs.length c, .int .i64 (room : Int), .int .i64 (sent : Int), .int .i64 (full : Int)] :: blk g2 80 (itC (Value.int .i64) x) :: imm h0 :: F) := fun w h => (Own.sub (h) (by repeat (first | with_reducible exact Sub.nil _ | with_reducible exact Sub.rfl _ | (apply Sub.cons; focus ((repeat (first | with_reducible exact Pick.here | apply Pick.there)); done)) | apply Sub.drop)))
        have rdq : ∀ {R : List HP} w, Own e w (imm h0 :: R) → RdC w q (xs.flatMap itI) := fun w h => hI _ _ _ h
        have mk0 : ∀ {R : List HP} {g : Nat} w, Own e w (blk g 80 [] :: R) → Own e w (slO 80 9 (some ⟨g, 0, none⟩) ([] : List (Itm Int)).length 0 (([] : List (Itm Int)).flatMap itI) :: R) := fun {R g} w h => Own.slMk (T := 80) (s := 9) (n := 0) (c := 0) (xs := []) (rest := []) (by rfl) (by omega) (by omega) (by rfl) h
        have mkx : ∀ {R : List HP} {g : Nat} w, Own e w (blk g 80 (itI x) :: R) → RdC w (some ⟨g, 0, none⟩) (([x] : List (Itm Int)).flatMap itI) := fun w h => by rw [hx1]; exact h.blkRd
        refine h.drw fun w h => ⟨fun w => Own e w (blk g1 74 [.slice q xs.length c, .int .i64 (room : Int), .int .i64 (sent : Int), .int .i64 (full : Int)] :: blk g2 80 (itC (Value.int .i64) x) :: imm h0 :: F), (Own.sub (h) (by repeat (first | with_reducible exact Sub.nil _ | with_reducible exact Sub.rfl _ | (apply Sub.cons; focus ((repeat (first | with_reducible exact Pick.here | apply Pick.there)); done)) | apply Sub.drop))), _, _, _, fun w h => Own.ld (g := g1) (k := 0) h (by repeat (first | with_reducible exact Pick.here | apply Pick.there)) rfl, _, _, _, _, _, _, _, _, _, ⟨fun w h => Own.ld (g := g2) h (by repeat (first | with_reducible exact Pick.here | apply Pick.there)) rfl, fun w h => Own.ld (g := g2) h (by repeat (first | with_reducible exact Pick.here | apply Pick.there)) rfl, fun w h => Own.ld (g := g2) h (by repeat (first | with_reducible exact Pick.here | apply Pick.there)) rfl, fun w h => Own.ld (g := g2) h (by repeat (first | with_reducible exact Pick.here | apply Pick.there)) rfl, fun w h => Own.ld (g := g2) h (by repeat (first | with_reducible exact Pick.here | apply Pick.there)) rfl, fun w h => Own.ld (g := g2) h (by repeat (first | with_reducible exact Pick.here | apply Pick.there)) rfl, fun w h => Own.ld (g := g2) h (by repeat (first | with_reducible exact Pick.here | apply Pick.there)) rfl, fun w h => Own.ld (g := g2) h (by repeat (first | with_reducible exact Pick.here | apply Pick.there)) rfl, fun w h => Own.ld (g := g2) h (by repeat (first | with_reducible exact Pick.here | apply Pick.there)) rfl⟩, _, fun w h => Own.ld (g := g1) (k := 1) h (by repeat (first | with_reducible exact Pick.here | apply Pick.there)) rfl, _, fun w h => Own.ld (g := g1) (k := 2) h (by repeat (first | with_reducible exact Pick.here | apply Pick.there)) rfl, _, fun w h => Own.ld (g := g1) (k := 3) h (by repeat (first | with_reducible exact Pick.here | apply Pick.there)) rfl, h.newR fun ga w h => ?_, h.newR fun gx w h => ?_⟩
        · refine ⟨(Own.sub (h) (by repeat (first | with_reducible exact Sub.nil _ | with_reducible exact Sub.rfl _ | (apply Sub.cons; focus ((repeat (first | with_reducible exact Pick.here | apply Pick.there)); done)) | apply Sub.drop))), ?_, h.newR fun gx w h => ?_⟩
          · have h := mk0 w h
            refine apR (xs := ([] : List (Itm Int))) (ys := xs) h (rdq w (Own.pk (A := imm h0) h (by repeat (first | with_reducible exact Pick.here | apply Pick.there)))) (by simp; omega) fun q7 c7 w h => ⟨_, _, _, rfl, (Own.sub (h) (by repeat (first | with_reducible exact Sub.nil _ | with_reducible exact Sub.rfl _ | (apply Sub.cons; focus ((repeat (first | with_reducible exact Pick.here | apply Pick.there)); done)) | apply Sub.drop))), h.newR fun gx w h => ?_⟩
            rw [List.nil_append] at h ⊢
            have hsrc := mkx w h
            have h : Own e w (slO 80 9 q7 xs.length c7 (xs.flatMap itI) :: blk g3 74 [.slice none 0 0, .int .i64 0, .int .i64 0, .int .i64 0] :: blk g2 80 (itC (Value.int .i64) x) :: blk g1 74 [.slice q xs.length c, .int .i64 (room : Int), .int .i64 (sent : Int), .int .i64 (full : Int)] :: imm h0 :: F) := h.drop
            refine ⟨(Own.sub (h) (by repeat (first | with_reducible exact Sub.nil _ | with_reducible exact Sub.rfl _ | (apply Sub.cons; focus ((repeat (first | with_reducible exact Pick.here | apply Pick.there)); done)) | apply Sub.drop))), apR (xs := xs) (ys := [x]) h hsrc (by simp; omega) fun q8 c8 w h => ⟨_, _, _, rfl, (Own.sub (h) (by repeat (first | with_reducible exact Sub.nil _ | with_reducible exact Sub.rfl _ | (apply Sub.cons; focus ((repeat (first | with_reducible exact Pick.here | apply Pick.there)); done)) | apply Sub.drop))), Own.stP' (g := g3) h (by repeat (first | with_reducible exact Pick.here | apply Pick.there)) (by simp) (by simp [Value.oneCell']) fun w h => ⟨rfl, q8, c8, ?_⟩⟩⟩
            simp only [setFrom, List.set_cons_zero, List.set_cons_succ, List.set_nil] at h
            rw [wI64 (by omega) (by omega)] at h
            exact (Own.sub (h) (by repeat (first | with_reducible exact Sub.nil _ | with_reducible exact Sub.rfl _ | (apply Sub.cons; focus ((repeat (first | with_reducible exact Pick.here | apply Pick.there)); done)) | apply Sub.drop)))
          · have hsrc := mkx w h
            have h : Own e w (blk ga 80 [] :: blk gx 80 (itI x) :: blk g3 74 [.slice none 0 0, .int .i64 0, .int .i64 0, .int .i64 0] :: blk g2 80 (itC (Value.int .i64) x) :: blk g1 74 [.slice q xs.length c, .int .i64 (room : Int), .int .i64 (sent : Int), .int .i64 (full : Int)] :: imm h0 :: F) := h.swap
            have h := mk0 w h
            refine ⟨(Own.sub (h) (by repeat (first | with_reducible exact Sub.nil _ | with_reducible exact Sub.rfl _ | (apply Sub.cons; focus ((repeat (first | with_reducible exact Pick.here | apply Pick.there)); done)) | apply Sub.drop))), apR (xs := ([] : List (Itm Int))) (ys := xs) h (rdq w (Own.pk (A := imm h0) h (by repeat (first | with_reducible exact Pick.here | apply Pick.there)))) (by simp; omega) fun q7 c7 w h => ⟨_, _, _, rfl, (Own.sub (h) (by repeat (first | with_reducible exact Sub.nil _ | with_reducible exact Sub.rfl _ | (apply Sub.cons; focus ((repeat (first | with_reducible exact Pick.here | apply Pick.there)); done)) | apply Sub.drop))), ?_⟩⟩
            rw [List.nil_append] at h ⊢
            have hsrc := mkx (g := gx) w (Own.pk (A := blk gx 80 (itI x)) h (by repeat (first | with_reducible exact Pick.here | apply Pick.there)))
            refine apR (xs := xs) (ys := [x]) h hsrc (by simp; omega) fun q8 c8 w h => ⟨_, _, _, rfl, (Own.sub (h) (by repeat (first | with_reducible exact Sub.nil _ | with_reducible exact Sub.rfl _ | (apply Sub.cons; focus ((repeat (first | with_reducible exact Pick.here | apply Pick.there)); done)) | apply Sub.drop))), Own.stP' (g := g3) h (by repeat (first | with_reducible exact Pick.here | apply Pick.there)) (by simp) (by simp [Value.oneCell']) fun w h => ⟨rfl, q8, c8, ?_⟩⟩
            simp only [setFrom, List.set_cons_zero, List.set_cons_succ, List.set_nil] at h
            rw [wI64 (by omega) (by omega)] at h
            exact (Own.sub (h) (by repeat (first | with_reducible exact Sub.nil _ | with_reducible exact Sub.rfl _ | (apply Sub.cons; focus ((repeat (first | with_reducible exact Pick.here | apply Pick.there)); done)) | apply Sub.drop)))
        · have h : Own e w (blk gx 80 (itI x) :: blk g3 74 [.slice none 0 0, .int .i64 0, .int .i64 0, .int .i64 0] :: blk g2 80 (itC (Value.int .i64) x) :: blk g1 74 [.slice q xs.length c, .int .i64 (room : Int), .int .i64 (sent : Int), .int .i64 (full : Int)] :: imm h0 :: F) := h
          refine ⟨(Own.sub (h) (by repeat (first | with_reducible exact Sub.nil _ | with_reducible exact Sub.rfl _ | (apply Sub.cons; focus ((repeat (first | with_reducible exact Pick.here | apply Pick.there)); done)) | apply Sub.drop))), h.newR fun ga w h => ?_⟩
          have h := mk0 w h
          refine ⟨(Own.sub (h) (by repeat (first | with_reducible exact Sub.nil _ | with_reducible exact Sub.rfl _ | (apply Sub.cons; focus ((repeat (first | with_reducible exact Pick.here | apply Pick.there)); done)) | apply Sub.drop))), apR (xs := ([] : List (Itm Int))) (ys := xs) h (rdq w (Own.pk (A := imm h0) h (by repeat (first | with_reducible exact Pick.here | apply Pick.there)))) (by simp; omega) fun q7 c7 w h => ⟨_, _, _, rfl, (Own.sub (h) (by repeat (first | with_reducible exact Sub.nil _ | with_reducible exact Sub.rfl _ | (apply Sub.cons; focus ((repeat (first | with_reducible exact Pick.here | apply Pick.there)); done)) | apply Sub.drop))), ?_⟩⟩
          rw [List.nil_append] at h ⊢
          have hsrc := mkx (g := gx) w (Own.pk (A := blk gx 80 (itI x)) h (by repeat (first | with_reducible exact Pick.here | apply Pick.there)))
          refine apR (xs := xs) (ys := [x]) h hsrc (by simp; omega) fun q8 c8 w h => ⟨_, _, _, rfl, (Own.sub (h) (by repeat (first | with_reducible exact Sub.nil _ | with_reducible exact Sub.rfl _ | (apply Sub.cons; focus ((repeat (first | with_reducible exact Pick.here | apply Pick.there)); done)) | apply Sub.drop))), Own.stP' (g := g3) h (by repeat (first | with_reducible exact Pick.here | apply Pick.there)) (by simp) (by simp [Value.oneCell']) fun w h => ⟨rfl, q8, c8, ?_⟩⟩
          simp only [setFrom, List.set_cons_zero, List.set_cons_succ, List.set_nil] at h
          rw [wI64 (by omega) (by omega)] at h
          exact (Own.sub (h) (by repeat (first | with_reducible exact Sub.nil _ | with_reducible exact Sub.rfl _ | (apply Sub.cons; focus ((repeat (first | with_reducible exact Pick.here | apply Pick.there)); done)) | apply Sub.drop)))
      clear h
      intro w
      intros
      rename_i hJ
      obtain ⟨hvs, q8, c8, h⟩ := hJ
      simp only [List.cons.injEq, Value.bool.injEq, and_true] at hvs
      subst hvs
      refine ⟨_, _, _, _, _, _, ⟨Own.ld (g := g3) h (by repeat (first | with_reducible exact Pick.here | apply Pick.there)) rfl, Own.ld (g := g3) h (by repeat (first | with_reducible exact Pick.here | apply Pick.there)) rfl, Own.ld (g := g3) h (by repeat (first | with_reducible exact Pick.here | apply Pick.there)) rfl, Own.ld (g := g3) h (by repeat (first | with_reducible exact Pick.here | apply Pick.there)) rfl⟩, ?_⟩
      obtain ⟨h1, le1, hR, hnc, h⟩ := (Own.drop h).slImm
      refine ⟨h1, q8, c8, ?_, le1, ?_⟩
      · rw [if_pos ⟨hk, hyes⟩, if_pos ⟨hk, hyes⟩, if_neg (fun z => z.2 hyes), decide_eq_true ⟨hk, hyes⟩]; rfl
      · rw [if_pos ⟨hk, hyes⟩]
        exact ⟨hR, hnc, h⟩
theorem rdCount {k : Int} (hI : ImR h0 q (xs.flatMap itI)) (hl : xs.length ≤ 64) (h : Own e w (imm h0 :: F)) : Rets Try.prog 52 #[.agg #[.slice q xs.length c, .int .i64 (room : Int), .int .i64 (sent : Int), .int .i64 (full : Int)], .int .i64 k] w fun v w' => v = .int .i64 (icnt xs k : Int) ∧ Own e w' (imm h0 :: F) := by
  refine cortadoref28_Count_go _ _ _ _ _ _ _ (h.newR fun g1 w h => ?_)
  refine ⟨fun m vs w => ∃ i : Nat, vs = [.int .i64 (icnt (xs.take i) k : Int), .int .i64 (i : Int)] ∧ m + i = xs.length ∧ Own e w (blk g1 74 [.slice q xs.length c, .int .i64 (room : Int), .int .i64 (sent : Int), .int .i64 (full : Int)] :: imm h0 :: F), ⟨xs.length, 0, rfl, rfl, h⟩, ?_⟩
  clear h
  intro m w
  intros
  rename_i hJ
  obtain ⟨i, hvs, hm, h⟩ := hJ
  simp at hvs
  obtain ⟨rfl, rfl⟩ := hvs
  refine ⟨_, _, _, Own.ld (g := g1) (k := 0) h (by repeat (first | with_reducible exact Pick.here | apply Pick.there)) rfl, fun hc => ?_, fun hc => ?_⟩
  · have hc := dec_t hc
    have hi : i < xs.length := by omega
    obtain ⟨ad, rfl, rd⟩ := hI.iad hi h.drop
    have et : xs.take (i + 1) = xs.take i ++ [xs[i]] := List.take_succ_eq_append_getElem hi
    have hle := icnt_le (xs.take i) k
    have htl : (xs.take i).length ≤ 64 := by rw [List.length_take]; omega
    have ec := icnt_app (xs.take i) xs[i] k
    rw [← et] at ec
    refine ⟨_, _, _, Own.ld (g := g1) (k := 0) h (by repeat (first | with_reducible exact Pick.here | apply Pick.there)) rfl, by omega, by omega, smR ⟨_, rd _ _ _ h.drop 0 _ rfl, fun hn => ?_, fun hn => ?_⟩⟩
    · have hn := beq_t hn
      rw [if_pos hn] at ec
      exact ⟨m - 1, by omega, i + 1, by rw [ec, wI64 (by omega) (by omega), wI64 (by omega) (by omega)]; rfl, by omega, h⟩
    · have hn := beq_f hn
      rw [if_neg hn] at ec
      exact ⟨m - 1, by omega, i + 1, by rw [ec, wI64 (by omega) (by omega)]; rfl, by omega, h⟩
  · have hc := dec_f hc
    obtain rfl : i = xs.length := by omega
    rw [List.take_length]
    exact ⟨rfl, h.drop⟩
end
end Go.Proofs.Ytipcbhaeoeghnaa.Eng
