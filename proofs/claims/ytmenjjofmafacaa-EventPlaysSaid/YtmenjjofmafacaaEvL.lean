/- EventPlays. -/
import Derived.Test.YtmenjjofmafacaaEvQ
namespace Go.Proofs.Ytmenjjofmafacaa.Eng
open Go Go.RowKit Go.Proofs
set_option linter.unusedVariables false
set_option linter.unusedSimpArgs false
set_option maxRecDepth 1000000
/-! ### The document's answer -/
abbrev vsO (q : Option Addr) (c : Nat) (l : List (Ev Int)) : HP := slO 87 5 q l.length c (l.flatMap (encE (Value.int .i64)))
theorem ev_eq {x y : Ev Int} : (x.c == y.c && (x.h == y.h && (x.cf == y.cf && (x.v == y.v && x.i == y.i)))) = true ↔ x = y := by
  cases x; cases y; simp
section
variable {e w : World} {F : List HP} {q q2 : Option Addr} {k k2 c : Nat} {l ys : List (Ev Int)}
theorem vsPut {kk : Value → World → Prop} {g : Nat} {y : Ev Int} (h : Own e w (blk g 87 (encE (Value.int .i64) y) :: vsO q k l :: F)) (hn : l.length ≤ 1000)
    (hk : ∀ q' c' w', Own e w' (vsO q' c' (l ++ [y]) :: F) → kk (.slice q' (l.length + 1) c') w') :
    RunR Try.prog (builtinV .append #[83, 83] 83 #[.slice q l.length k, .slice (some ⟨g, 0, none⟩) 1 c]) w kk := by
  refine Own.append (z := [.int .i64 0, .int .u64 0, .int .u64 0, .int .i64 0, .int .i64 0]) (b := 40) (news := encE (Value.int .i64) y) h.swap (by kernel_rfl) (by kernel_rfl) (by kernel_rfl) (by kernel_rfl) (by kernel_rfl) (by omega) h.blkRd rfl (by simp [Value.oneCell']) (by unfold maxLen; omega) (by omega) fun q' c' w h _ => hk q' c' w ?_
  have h : Own e w (slO 87 5 q' (l.length + 1) c' (l.flatMap (encE (Value.int .i64)) ++ encE (Value.int .i64) y) :: F) := h.swap.drop
  show Own e w (slO 87 5 q' (l ++ [y]).length c' ((l ++ [y]).flatMap (encE (Value.int .i64))) :: F)
  simpa using h
theorem vsApp {kk : Value → World → Prop} (h : Own e w (vsO q k l :: F)) (hr : RdC w q2 (ys.flatMap (encE (Value.int .i64)))) (hn : l.length + ys.length ≤ 1000)
    (hk : ∀ q' c' w', Own e w' (vsO q' c' (l ++ ys) :: F) → kk (.slice q' (l.length + ys.length) c') w') :
    RunR Try.prog (builtinV .append #[83, 83] 83 #[.slice q l.length k, .slice q2 ys.length k2]) w kk := by
  refine Own.append (z := [.int .i64 0, .int .u64 0, .int .u64 0, .int .i64 0, .int .i64 0]) (b := 40) (news := ys.flatMap (encE (Value.int .i64))) h (by kernel_rfl) (by kernel_rfl) (by kernel_rfl) (by kernel_rfl) (by kernel_rfl) (by omega) hr (flat_len (encE_len _) ys) (fun u hu => ?_) (by unfold maxLen; omega) (by omega) fun q' c' w h _ => hk q' c' w ?_
  · obtain ⟨x, _, hu⟩ := List.mem_flatMap.1 hu
    simp only [List.mem_cons, List.mem_nil_iff, or_false] at hu
    rcases hu with rfl | rfl | rfl | rfl | rfl <;> rfl
  · show Own e w (slO 87 5 q' (l ++ ys).length c' ((l ++ ys).flatMap (encE (Value.int .i64))) :: F)
    rw [List.length_append, List.flatMap_append]; exact h
theorem rAdd_spec {x : Ev Int} (h : Own e w (vsO q k l :: F)) (hl : l.length ≤ 500) : Rets Try.prog 56 #[.slice q l.length k, .agg (encE (Value.int .i64) x).toArray] w fun v w' =>
    ∃ q' k', v = .tuple #[.slice q' (if evKn x.c then l ++ [x] else l).length k', .bool (evKn x.c)] ∧ Own e w' (vsO q' k' (if evKn x.c then l ++ [x] else l) :: F) := by
  refine cortadoref31_Add_go _ _ _ _ _ _ _ _ ?_
  refine h.newR fun g w h => ⟨_, (Own.ld h (by repeat (first | with_reducible exact Pick.here | apply Pick.there)) (by rfl)), ?_⟩
  refine ⟨fun h1 => ⟨_, (Own.ld h (by repeat (first | with_reducible exact Pick.here | apply Pick.there)) (by rfl)), ?_⟩, fun h1 => ?_⟩
  · have h1 := dec_f h1
    refine ⟨fun h2 => ?_, fun h2 => ?_⟩
    · have h2 := dec_t h2
      have hk : evKn x.c = false := by unfold evKn; rw [decide_eq_false]; omega
      rw [hk]; exact ⟨_, _, rfl, h.drop⟩
    · have h2 := dec_f h2
      have hk : evKn x.c = true := by unfold evKn; rw [decide_eq_true]; omega
      rw [hk]
      refine h.drw fun w h => ⟨fun w => Own _ w _, h, ?_⟩
      (refine ⟨_, _, _, _, _, ⟨(fun w h => (Own.ld h (by repeat (first | with_reducible exact Pick.here | apply Pick.there)) (by rfl))), (fun w h => (Own.ld h (by repeat (first | with_reducible exact Pick.here | apply Pick.there)) (by rfl))), (fun w h => (Own.ld h (by repeat (first | with_reducible exact Pick.here | apply Pick.there)) (by rfl))), (fun w h => (Own.ld h (by repeat (first | with_reducible exact Pick.here | apply Pick.there)) (by rfl))), (fun w h => (Own.ld h (by repeat (first | with_reducible exact Pick.here | apply Pick.there)) (by rfl)))⟩, ?_⟩)
      have fin : ∀ q' c' w, Own e w (vsO q' c' (([] ++ l) ++ [x]) :: F) → ∃ q1 k1, Value.tuple #[.slice q' (([] ++ l).length + 1) c', .bool true] = .tuple #[.slice q1 (l ++ [x]).length k1, .bool true] ∧ Own e w (vsO q1 k1 (l ++ [x]) :: F) := fun q' c' w h => ⟨q', c', by simp, h⟩
      have e0 : ∀ g', blk g' 87 [] = blk g' 87 (([] : List (Ev Int)).flatMap (encE (Value.int .i64))) := fun _ => rfl
      have app1 : ∀ {kk : Value → World → Prop} {g' : Nat} {R : List HP} {w : World}, Own e w (blk g' 87 [] :: vsO q k l :: R) → (∀ q' c' w', Own e w' (vsO q' c' ([] ++ l) :: vsO q k l :: R) → kk (.slice q' ([] ++ l).length c') w') →
          RunR Try.prog (builtinV .append #[83, 83] 83 #[.slice (some ⟨g', 0, none⟩) 0 0, .slice q l.length k]) w kk := by
        intro kk g' R w h hk
        have h : Own e w (vsO (some ⟨g', 0, none⟩) 0 [] :: vsO q k l :: R) := Own.slMk (rest := []) rfl (Nat.le_refl _) (by unfold maxLen; omega) rfl h
        refine vsApp (l := []) h h.drop.slRd (by simp; omega) fun q' c' w' h => ?_
        have := hk q' c' w' h
        simpa using this
      refine ⟨h.newR fun g2 w h => ⟨(Own.sub (h) (by repeat (first | exact Sub.nil _ | exact Sub.rfl _ | (apply Sub.cons; focus ((repeat (first | with_reducible exact Pick.here | apply Pick.there)); done)) | apply Sub.drop))), ?_, ?_⟩, h.newR fun g2 w h => ⟨(Own.sub (h) (by repeat (first | exact Sub.nil _ | exact Sub.rfl _ | (apply Sub.cons; focus ((repeat (first | with_reducible exact Pick.here | apply Pick.there)); done)) | apply Sub.drop))), h.newR fun g3 w h => ⟨(Own.sub (h) (by repeat (first | exact Sub.nil _ | exact Sub.rfl _ | (apply Sub.cons; focus ((repeat (first | with_reducible exact Pick.here | apply Pick.there)); done)) | apply Sub.drop))), ?_⟩⟩⟩
      · refine app1 (Own.pk2 h (by repeat (first | with_reducible exact Pick.here | apply Pick.there)) (by repeat (first | with_reducible exact Pick.here | apply Pick.there))) fun q' c' w h => ⟨_, _, _, rfl, (Own.sub (h) (by repeat (first | exact Sub.nil _ | exact Sub.rfl _ | (apply Sub.cons; focus ((repeat (first | with_reducible exact Pick.here | apply Pick.there)); done)) | apply Sub.drop))), h.newR fun g3 w h => ⟨(Own.sub (h) (by repeat (first | exact Sub.nil _ | exact Sub.rfl _ | (apply Sub.cons; focus ((repeat (first | with_reducible exact Pick.here | apply Pick.there)); done)) | apply Sub.drop))), ?_⟩⟩
        refine vsPut (l := [] ++ l) h (by simp; omega) fun q' c' w h => ⟨_, _, _, rfl, (Own.sub (h) (by repeat (first | exact Sub.nil _ | exact Sub.rfl _ | (apply Sub.cons; focus ((repeat (first | with_reducible exact Pick.here | apply Pick.there)); done)) | apply Sub.drop))), fin _ _ _ (Own.sub (h) (by repeat (first | exact Sub.nil _ | exact Sub.rfl _ | (apply Sub.cons; focus ((repeat (first | with_reducible exact Pick.here | apply Pick.there)); done)) | apply Sub.drop)))⟩
      · refine h.newR fun g3 w h => ⟨(Own.sub (h) (by repeat (first | exact Sub.nil _ | exact Sub.rfl _ | (apply Sub.cons; focus ((repeat (first | with_reducible exact Pick.here | apply Pick.there)); done)) | apply Sub.drop))), ?_⟩
        refine app1 (g' := g2) (Own.pk2 h (by repeat (first | with_reducible exact Pick.here | apply Pick.there)) (by repeat (first | with_reducible exact Pick.here | apply Pick.there))) fun q' c' w h => ⟨_, _, _, rfl, (Own.sub (h) (by repeat (first | exact Sub.nil _ | exact Sub.rfl _ | (apply Sub.cons; focus ((repeat (first | with_reducible exact Pick.here | apply Pick.there)); done)) | apply Sub.drop))), ?_⟩
        have h : Own e w (blk g3 87 (encE (Value.int .i64) x) :: vsO q' c' ([] ++ l) :: _) := (Own.pk2 h (by repeat (first | with_reducible exact Pick.here | apply Pick.there)) (by repeat (first | with_reducible exact Pick.here | apply Pick.there)))
        refine vsPut (l := [] ++ l) h (by simp; omega) fun q' c' w h => ⟨_, _, _, rfl, (Own.sub (h) (by repeat (first | exact Sub.nil _ | exact Sub.rfl _ | (apply Sub.cons; focus ((repeat (first | with_reducible exact Pick.here | apply Pick.there)); done)) | apply Sub.drop))), fin _ _ _ (Own.sub (h) (by repeat (first | exact Sub.nil _ | exact Sub.rfl _ | (apply Sub.cons; focus ((repeat (first | with_reducible exact Pick.here | apply Pick.there)); done)) | apply Sub.drop)))⟩
      · refine app1 (g' := g3) (Own.pk2 h (by repeat (first | with_reducible exact Pick.here | apply Pick.there)) (by repeat (first | with_reducible exact Pick.here | apply Pick.there))) fun q' c' w h => ⟨_, _, _, rfl, (Own.sub (h) (by repeat (first | exact Sub.nil _ | exact Sub.rfl _ | (apply Sub.cons; focus ((repeat (first | with_reducible exact Pick.here | apply Pick.there)); done)) | apply Sub.drop))), ?_⟩
        have h : Own e w (blk g2 87 (encE (Value.int .i64) x) :: vsO q' c' ([] ++ l) :: _) := (Own.pk2 h (by repeat (first | with_reducible exact Pick.here | apply Pick.there)) (by repeat (first | with_reducible exact Pick.here | apply Pick.there)))
        refine vsPut (l := [] ++ l) h (by simp; omega) fun q' c' w h => ⟨_, _, _, rfl, (Own.sub (h) (by repeat (first | exact Sub.nil _ | exact Sub.rfl _ | (apply Sub.cons; focus ((repeat (first | with_reducible exact Pick.here | apply Pick.there)); done)) | apply Sub.drop))), fin _ _ _ (Own.sub (h) (by repeat (first | exact Sub.nil _ | exact Sub.rfl _ | (apply Sub.cons; focus ((repeat (first | with_reducible exact Pick.here | apply Pick.there)); done)) | apply Sub.drop)))⟩
  · have h1 := dec_t h1
    have hk : evKn x.c = false := by unfold evKn; rw [decide_eq_false]; omega
    rw [hk]; exact ⟨_, _, rfl, h.drop⟩
theorem evCnt_take {l : List (Ev Int)} {i : Nat} {c : Int} (hi : i < l.length) : evCnt (l.take (i + 1)) c = evCnt (l.take i) c + if l[i].c = c then 1 else 0 := by
  rw [List.take_succ_eq_append_getElem hi, evCnt_app]
theorem rCount_spec {c : Int} (h : Own e w F) (hr : RdC w q (l.flatMap (encE (Value.int .i64)))) (hl : l.length ≤ 1000) : Rets Try.prog 57 #[.slice q l.length k, .int .i64 c] w fun v w' => v = .int .i64 (evCnt l c : Nat) ∧ w' = w := by
  refine cortadoref31_Count_go _ _ _ _ ?_
  refine ⟨fun m vs w' => ∃ i : Nat, vs = [.int .i64 (evCnt (l.take i) c : Nat), .int .i64 (i : Int)] ∧ m + i = l.length ∧ w' = w, ⟨l.length, 0, rfl, rfl, rfl⟩, ?_⟩
  rintro m w1 n1 n2
  intros
  rename_i hI
  obtain ⟨i, hvs, hm, rfl⟩ := hI
  obtain ⟨rfl, rfl⟩ : n1 = ((evCnt (l.take i) c : Nat) : Int) ∧ n2 = (i : Int) := by simpa using hvs
  refine ⟨fun hc => ?_, fun hc => ?_⟩
  · have hc := dec_t hc
    have hi : i < l.length := by omega
    obtain ⟨ad, rfl, hcell⟩ := RdC.rec (encE_len _) hr hi (by omega)
    have hb := evCnt_le (l.take i) c
    have hb2 : (l.take i).length ≤ l.length := by simp; omega
    have e1 := evCnt_take (c := c) hi
    refine ⟨by omega, by omega, _, hcell i hi 0 _ rfl, fun hx => ?_, fun hx => ?_⟩
    · have hx := beq_t hx
      refine ⟨m - 1, by omega, i + 1, ?_, by omega, rfl⟩
      rw [wI64 (by omega) (by omega), wI64 (by omega) (by omega), e1, if_pos hx]; simp
    · have hx := beq_f hx
      refine ⟨m - 1, by omega, i + 1, ?_, by omega, rfl⟩
      rw [wI64 (by omega) (by omega), e1, if_neg hx]; simp
  · have hc := dec_f hc
    obtain rfl : i = l.length := by omega
    rw [List.take_length]; exact ⟨rfl, rfl⟩
theorem rSame_spec (h : Own e w F) (hr : ∀ w, Own e w F → RdC w q (l.flatMap (encE (Value.int .i64)))) (hr2 : ∀ w, Own e w F → RdC w q2 (l.flatMap (encE (Value.int .i64)))) (hl : l.length ≤ 1000) : Rets Try.prog 61 #[.slice q l.length k, .slice q2 l.length k2] w fun v w' => v = .bool true ∧ Own e w' F := by
  refine cortadoref31_Same_go _ _ _ _ _ _ ⟨fun hx => absurd rfl (bool_ne hx), fun _ => ?_⟩
  refine ⟨fun m vs w => ∃ i : Nat, vs = [.int .i64 (i : Int)] ∧ m + i = l.length ∧ Own e w F, ⟨l.length, 0, rfl, rfl, h⟩, ?_⟩
  rintro m w v1 n1
  intros
  rename_i hI
  obtain ⟨i, hvs, hm, h⟩ := hI
  obtain rfl : n1 = (i : Int) := by simpa using hvs
  refine ⟨fun hc => ?_, fun hc => ⟨rfl, h⟩⟩
  have hc := dec_t hc
  have hi : i < l.length := by omega
  refine h.drw fun w h => ?_
  obtain ⟨a1, rfl, hc1⟩ := RdC.rec (encE_len _) (hr w h) hi (by omega)
  obtain ⟨a2, rfl, hc2⟩ := RdC.rec (encE_len _) (hr2 w h) hi (by omega)
  have c1 := fun j u hj => hc1 i hi j u hj
  have c2 := fun j u hj => hc2 i hi j u hj
  refine ⟨by omega, by omega, by omega, by omega, _, _, _, _, _, ⟨c1 0 _ rfl, c1 1 _ rfl, c1 2 _ rfl, c1 3 _ rfl, c1 4 _ rfl⟩, _, _, _, _, _, ⟨c2 0 _ rfl, c2 1 _ rfl, c2 2 _ rfl, c2 3 _ rfl, c2 4 _ rfl⟩, fun hx => ?_, fun hx => ?_⟩
  · simp at hx
  · exact ⟨m - 1, by omega, i + 1, by rw [wI64 (by omega) (by omega)]; rfl, by omega, h⟩
/-! ### Names -/
def evNames : List ByteArray := [⟨#[101, 118, 105, 99, 116]⟩, ⟨#[101, 120, 112, 105, 114, 101]⟩, ⟨#[100, 101, 108]⟩, ⟨#[99, 108, 101, 97, 114]⟩, ⟨#[99, 108, 111, 115, 101]⟩, ⟨#[114, 101, 106, 101, 99, 116]⟩]
def evName (c : Int) : ByteArray := if evKn c then (evNames[(c - 1).toNat]?).getD ⟨#[]⟩ else ⟨#[]⟩
theorem evName_spec {c : Int} (h : Own e w F) (hb : -10 ≤ c ∧ c ≤ 10) : Rets Try.prog 58 #[.int .i64 c] w fun v w' => v = .string (evName c) ∧ Own e w' F := by
  refine event_Name_go _ ?_
  refine Rets.mono (evKnown_spec h) ?_
  rintro _ w ⟨rfl, h⟩
  refine ⟨_, rfl, fun hx => ?_, fun hx => ?_⟩
  · have hx : evKn c = false := by simpa using hx
    unfold evName; rw [hx]; exact ⟨rfl, h⟩
  · have hx : evKn c = true := by simpa using hx
    have hkn : 1 ≤ c ∧ c ≤ 6 := by simpa [evKn] using hx
    rw [wI64 (by omega) (by omega)]
    refine ⟨by omega, by omega, ?_⟩
    have hcs : c = 1 ∨ c = 2 ∨ c = 3 ∨ c = 4 ∨ c = 5 ∨ c = 6 := by omega
    rcases hcs with rfl | rfl | rfl | rfl | rfl | rfl
    all_goals exact ⟨rfl, h⟩
theorem evName_ne (c : Int) : (!(evName c).toList == (⟨#[]⟩ : ByteArray).toList) = evKn c := by
  cases hk : evKn c with
  | false => unfold evName; rw [hk]; simp
  | true =>
    have hkn : 1 ≤ c ∧ c ≤ 6 := by simpa [evKn] using hk
    have hcs : c = 1 ∨ c = 2 ∨ c = 3 ∨ c = 4 ∨ c = 5 ∨ c = 6 := by omega
    rcases hcs with rfl | rfl | rfl | rfl | rfl | rfl
    all_goals
      simp only [ByteArray.toList_eq]
      decide +kernel
end
end Go.Proofs.Ytmenjjofmafacaa.Eng
