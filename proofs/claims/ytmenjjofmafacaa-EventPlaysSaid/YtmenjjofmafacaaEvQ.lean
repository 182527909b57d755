/- Logs of events: what is told; no log. -/
import Derived.Test.YtmenjjofmafacaaEvP
namespace Go.Proofs.Ytmenjjofmafacaa.Eng
open Go Go.RowKit Go.Proofs
set_option linter.unusedVariables false
set_option linter.unusedSimpArgs false
set_option maxRecDepth 1000000
section
variable {e w : World} {F : List HP} {g : Nat} {l : List (Ev Int)}
def evZero : Ev Int := ⟨0, 0, 0, 0, 0⟩
theorem evAt_spec {i : Int} (h : Own e w (logO_int g l :: F)) : Rets Try.prog 34 #[.pointer (some ⟨g, 0, none⟩), .int .i64 i] w fun v w' => v = .tuple #[.agg (encE (Value.int .i64) (if 0 ≤ i then (l[i.toNat]?).getD evZero else evZero)).toArray, .bool (decide (0 ≤ i ∧ i < l.length))] ∧ Own e w' (logO_int g l :: F) := by
  refine event_Log_int_At_go _ _ ?_
  refine h.newR fun g1 w h => ⟨fun hi => ?_, fun hi => ?_⟩
  · have hi := dec_f hi
    refine Rets.mono (evLen_int (Own.pk h (by repeat (first | with_reducible exact Pick.here | apply Pick.there)))) ?_
    rintro _ w ⟨rfl, h⟩
    refine ⟨_, rfl, fun hj => ?_, fun hj => ?_⟩
    · have hj := dec_t hj
      (refine ⟨_, _, _, _, _, ⟨(Own.ld h (by repeat (first | with_reducible exact Pick.here | apply Pick.there)) (by rfl)), (Own.ld h (by repeat (first | with_reducible exact Pick.here | apply Pick.there)) (by rfl)), (Own.ld h (by repeat (first | with_reducible exact Pick.here | apply Pick.there)) (by rfl)), (Own.ld h (by repeat (first | with_reducible exact Pick.here | apply Pick.there)) (by rfl)), (Own.ld h (by repeat (first | with_reducible exact Pick.here | apply Pick.there)) (by rfl))⟩, ?_⟩)
      refine Own.stP' h (by repeat (first | with_reducible exact Pick.here | apply Pick.there)) (by simp) (by simp [Value.oneCell']) fun w h => ?_
      simp only [setFrom, List.set_cons_zero, List.set_cons_succ, List.set_nil] at h
      (refine ⟨_, _, _, _, _, ⟨(Own.ld h (by repeat (first | with_reducible exact Pick.here | apply Pick.there)) (by rfl)), (Own.ld h (by repeat (first | with_reducible exact Pick.here | apply Pick.there)) (by rfl)), (Own.ld h (by repeat (first | with_reducible exact Pick.here | apply Pick.there)) (by rfl)), (Own.ld h (by repeat (first | with_reducible exact Pick.here | apply Pick.there)) (by rfl)), (Own.ld h (by repeat (first | with_reducible exact Pick.here | apply Pick.there)) (by rfl))⟩, ?_⟩)
      rw [if_pos (by omega), List.getElem?_eq_none (by omega), decide_eq_false (by omega)]
      exact ⟨rfl, (Own.sub (h) (by repeat (first | exact Sub.nil _ | exact Sub.rfl _ | (apply Sub.cons; focus ((repeat (first | with_reducible exact Pick.here | apply Pick.there)); done)) | apply Sub.drop)))⟩
    · have hj := dec_f hj
      obtain ⟨k, rfl⟩ := Int.eq_ofNat_of_zero_le (show 0 ≤ i by omega)
      have hk : k < l.length := by omega
      have h : Own e w (logO_int g l :: _) := (Own.pk h (by repeat (first | with_reducible exact Pick.here | apply Pick.there)))
      obtain ⟨q, c, h⟩ := logO.op h
      refine ⟨_, _, _, (Own.ld h (by repeat (first | with_reducible exact Pick.here | apply Pick.there)) (by rfl)), by omega, by omega, ?_⟩
      obtain ⟨ad, rfl, hcell⟩ := RdC.rec (encE_len _) (Own.rdP h (by repeat (first | with_reducible exact Pick.here | apply Pick.there))) hk (by omega)
      have hc := fun j u hj => hcell k hk j u hj
      refine ⟨_, _, _, _, _, ⟨hc 0 _ rfl, hc 1 _ rfl, hc 2 _ rfl, hc 3 _ rfl, hc 4 _ rfl⟩, ?_⟩
      refine Own.stP' h (by repeat (first | with_reducible exact Pick.here | apply Pick.there)) (by simp) (by simp [Value.oneCell']) fun w h => ?_
      simp only [setFrom, List.set_cons_zero, List.set_cons_succ, List.set_nil] at h
      (refine ⟨_, _, _, _, _, ⟨(Own.ld h (by repeat (first | with_reducible exact Pick.here | apply Pick.there)) (by rfl)), (Own.ld h (by repeat (first | with_reducible exact Pick.here | apply Pick.there)) (by rfl)), (Own.ld h (by repeat (first | with_reducible exact Pick.here | apply Pick.there)) (by rfl)), (Own.ld h (by repeat (first | with_reducible exact Pick.here | apply Pick.there)) (by rfl)), (Own.ld h (by repeat (first | with_reducible exact Pick.here | apply Pick.there)) (by rfl))⟩, ?_⟩)
      rw [if_pos (by omega), decide_eq_true (show 0 ≤ (k : Int) ∧ (k : Int) < l.length by omega)]
      have e1 : l[(k : Int).toNat]? = some l[k] := by rw [Int.toNat_natCast, List.getElem?_eq_getElem hk]
      rw [e1]
      exact ⟨rfl, logO.cl (Own.sub (h) (by repeat (first | exact Sub.nil _ | exact Sub.rfl _ | (apply Sub.cons; focus ((repeat (first | with_reducible exact Pick.here | apply Pick.there)); done)) | apply Sub.drop)))⟩
  · have hi := dec_t hi
    (refine ⟨_, _, _, _, _, ⟨(Own.ld h (by repeat (first | with_reducible exact Pick.here | apply Pick.there)) (by rfl)), (Own.ld h (by repeat (first | with_reducible exact Pick.here | apply Pick.there)) (by rfl)), (Own.ld h (by repeat (first | with_reducible exact Pick.here | apply Pick.there)) (by rfl)), (Own.ld h (by repeat (first | with_reducible exact Pick.here | apply Pick.there)) (by rfl)), (Own.ld h (by repeat (first | with_reducible exact Pick.here | apply Pick.there)) (by rfl))⟩, ?_⟩)
    refine Own.stP' h (by repeat (first | with_reducible exact Pick.here | apply Pick.there)) (by simp) (by simp [Value.oneCell']) fun w h => ?_
    simp only [setFrom, List.set_cons_zero, List.set_cons_succ, List.set_nil] at h
    (refine ⟨_, _, _, _, _, ⟨(Own.ld h (by repeat (first | with_reducible exact Pick.here | apply Pick.there)) (by rfl)), (Own.ld h (by repeat (first | with_reducible exact Pick.here | apply Pick.there)) (by rfl)), (Own.ld h (by repeat (first | with_reducible exact Pick.here | apply Pick.there)) (by rfl)), (Own.ld h (by repeat (first | with_reducible exact Pick.here | apply Pick.there)) (by rfl)), (Own.ld h (by repeat (first | with_reducible exact Pick.here | apply Pick.there)) (by rfl))⟩, ?_⟩)
    rw [if_neg (by omega), decide_eq_false (by omega)]
    exact ⟨rfl, (Own.sub (h) (by repeat (first | exact Sub.nil _ | exact Sub.rfl _ | (apply Sub.cons; focus ((repeat (first | with_reducible exact Pick.here | apply Pick.there)); done)) | apply Sub.drop)))⟩
theorem evNLen (h : Own e w F) : Rets Try.prog 36 #[.pointer none] w fun v w' => v = .int .i64 0 ∧ Own e w' F :=
  event_nil_int_Len_go ⟨fun _ => ⟨rfl, h⟩, fun hc => (by cases hc)⟩
theorem evNCount {c : Int} (h : Own e w F) : Rets Try.prog 37 #[.pointer none, .int .i64 c] w fun v w' => v = .int .i64 0 ∧ Own e w' F :=
  event_nil_int_Count_go _ ⟨fun hc => (by cases hc), fun _ => ⟨rfl, h⟩⟩
theorem evNRemoved (h : Own e w F) : Rets Try.prog 38 #[.pointer none] w fun v w' => v = .int .i64 0 ∧ Own e w' F := by
  refine event_Log_int_Removed_go _ ?_
  refine Rets.mono (evNLen h) ?_
  rintro _ w ⟨rfl, h⟩
  refine ⟨_, rfl, ?_⟩
  refine Rets.mono (evNCount h) ?_
  rintro _ w ⟨rfl, h⟩
  exact ⟨_, rfl, rfl, h⟩
theorem evNAdd {x : Ev Int} (h : Own e w F) : Rets Try.prog 35 #[.pointer none, .agg (encE (Value.int .i64) x).toArray] w fun v w' => v = .bool false ∧ Own e w' F :=
  event_nil_int_Add_go _ _ _ _ _ (h.newR fun g1 w h => ⟨fun hc => (by cases hc), fun _ => ⟨rfl, h.drop⟩⟩)
theorem evNAt {i : Int} (h : Own e w F) : Rets Try.prog 34 #[.pointer none, .int .i64 i] w fun v w' => v = .tuple #[.agg (encE (Value.int .i64) evZero).toArray, .bool false] ∧ Own e w' F := by
  refine event_nil_int_At_go _ (h.newR fun g1 w h => ⟨fun hi => ?_, fun hi => ?_⟩)
  · refine Rets.mono (evNLen h) ?_
    rintro _ w ⟨rfl, h⟩
    refine ⟨_, rfl, fun hj => ?_, fun hj => ?_⟩
    · (refine ⟨_, _, _, _, _, ⟨(Own.ld h (by repeat (first | with_reducible exact Pick.here | apply Pick.there)) (by rfl)), (Own.ld h (by repeat (first | with_reducible exact Pick.here | apply Pick.there)) (by rfl)), (Own.ld h (by repeat (first | with_reducible exact Pick.here | apply Pick.there)) (by rfl)), (Own.ld h (by repeat (first | with_reducible exact Pick.here | apply Pick.there)) (by rfl)), (Own.ld h (by repeat (first | with_reducible exact Pick.here | apply Pick.there)) (by rfl))⟩, ?_⟩)
      refine Own.stP' h (by repeat (first | with_reducible exact Pick.here | apply Pick.there)) (by simp) (by simp [Value.oneCell']) fun w h => ?_
      simp only [setFrom, List.set_cons_zero, List.set_cons_succ, List.set_nil] at h
      (refine ⟨_, _, _, _, _, ⟨(Own.ld h (by repeat (first | with_reducible exact Pick.here | apply Pick.there)) (by rfl)), (Own.ld h (by repeat (first | with_reducible exact Pick.here | apply Pick.there)) (by rfl)), (Own.ld h (by repeat (first | with_reducible exact Pick.here | apply Pick.there)) (by rfl)), (Own.ld h (by repeat (first | with_reducible exact Pick.here | apply Pick.there)) (by rfl)), (Own.ld h (by repeat (first | with_reducible exact Pick.here | apply Pick.there)) (by rfl))⟩, ?_⟩)
      exact ⟨rfl, h.drop⟩
    · exact absurd (dec_f hj) (by have := dec_f hi; omega)
  · (refine ⟨_, _, _, _, _, ⟨(Own.ld h (by repeat (first | with_reducible exact Pick.here | apply Pick.there)) (by rfl)), (Own.ld h (by repeat (first | with_reducible exact Pick.here | apply Pick.there)) (by rfl)), (Own.ld h (by repeat (first | with_reducible exact Pick.here | apply Pick.there)) (by rfl)), (Own.ld h (by repeat (first | with_reducible exact Pick.here | apply Pick.there)) (by rfl)), (Own.ld h (by repeat (first | with_reducible exact Pick.here | apply Pick.there)) (by rfl))⟩, ?_⟩)
    refine Own.stP' h (by repeat (first | with_reducible exact Pick.here | apply Pick.there)) (by simp) (by simp [Value.oneCell']) fun w h => ?_
    simp only [setFrom, List.set_cons_zero, List.set_cons_succ, List.set_nil] at h
    (refine ⟨_, _, _, _, _, ⟨(Own.ld h (by repeat (first | with_reducible exact Pick.here | apply Pick.there)) (by rfl)), (Own.ld h (by repeat (first | with_reducible exact Pick.here | apply Pick.there)) (by rfl)), (Own.ld h (by repeat (first | with_reducible exact Pick.here | apply Pick.there)) (by rfl)), (Own.ld h (by repeat (first | with_reducible exact Pick.here | apply Pick.there)) (by rfl)), (Own.ld h (by repeat (first | with_reducible exact Pick.here | apply Pick.there)) (by rfl))⟩, ?_⟩)
    exact ⟨rfl, h.drop⟩
theorem evRemoved_spec (h : Own e w (logO_int g l :: F)) (hl : l.length ≤ 1000) : Rets Try.prog 38 #[.pointer (some ⟨g, 0, none⟩)] w fun v w' => v = .int .i64 ((l.length : Int) - (evCnt l 6 : Nat)) ∧ Own e w' (logO_int g l :: F) := by
  refine event_Log_int_Removed_go _ ?_
  refine Rets.mono (evLen_int h) ?_
  rintro _ w ⟨rfl, h⟩
  refine ⟨_, rfl, ?_⟩
  refine Rets.mono (evCount_int h) ?_
  rintro _ w ⟨rfl, h⟩
  have := evCnt_le l 6
  refine ⟨_, rfl, ?_, h⟩
  have e1 : (if evKn 6 then evCnt l 6 else 0 : Nat) = evCnt l 6 := by rfl
  rw [e1, wI64 (by omega) (by omega)]
theorem evAwake (h : Own e w F) : Rets Try.prog 29 #[] w fun v w' => v = .bool true ∧ Own e w' F := by
  refine cortadolaw31_awake_go ?_
  refine Rets.mono (evNew_int h) ?_
  rintro _ w ⟨g, rfl, h⟩
  refine ⟨_, rfl, ?_⟩
  refine Rets.mono (evAdd_int (x := ⟨3, 0, 0, 0, 0⟩) h (by simp)) ?_
  rintro _ w ⟨rfl, h⟩
  refine ⟨_, rfl, fun _ => ?_, fun hc => (by cases hc)⟩
  have h : Own e w (logO_int g [⟨3, 0, 0, 0, 0⟩] :: F) := h
  refine Rets.mono (evRemoved_spec h (by simp)) ?_
  rintro _ w ⟨rfl, h⟩
  refine ⟨_, rfl, fun _ => ?_, fun hc => (by cases hc)⟩
  refine Rets.mono (evAdd_int (x := ⟨0, 0, 0, 0, 0⟩) h (by simp)) ?_
  rintro _ w ⟨rfl, h⟩
  exact ⟨_, rfl, rfl, h.drop⟩
end
def evWant {α : Type} (cl : List Int) (x : Ev α) : Prop := cl = [] ∨ x.c ∈ cl
instance {α : Type} (cl : List Int) (x : Ev α) : Decidable (evWant cl x) := by unfold evWant; infer_instance
section
variable {e w : World} {F : List HP} {g : Nat} {l : List (Ev Int)}
theorem evAll_int {q q2 : Option Addr} {n c : Nat} (h : Own e w F) : Rets Try.prog 60 #[.pointer q, .slice q2 n c] w fun v w' => ∃ a b, v = .func (.func 81) #[] #[.pointer (some ⟨a, 0, none⟩), .pointer (some ⟨b, 0, none⟩)] ∧ Own e w' (blk b 26 [.slice q2 n c] :: blk a 59 [.pointer q] :: F) :=
  event_Log_int_All_go _ _ _ _ (h.newR fun a w h => h.newR fun b w h => ⟨a, b, rfl, h⟩)
/-- What a log's telling holds. -/
abbrev evB_int (a b g : Nat) (q2 : Option Addr) (m k2 : Nat) (q : Option Addr) (c : Nat) (l : List (Ev Int)) (F : List HP) : List HP :=
  blk b 26 [.slice q2 m k2] :: blk a 59 [.pointer (some ⟨g, 0, none⟩)] :: blk g 113 (.slice q l.length c :: evCs l) :: slO 61 5 q l.length c (l.flatMap (encE (Value.int .i64))) :: F
theorem evAll1_int {lp a b k2 c : Nat} {q q2 : Option Addr} {cl : List Int} {Fr : Nat → List HP} {Fin : World → Prop} (hl : l.length ≤ 1000) (hcl : cl.length ≤ 1000)
    (hrd : ∀ w i, Own e w (Fr i) → RdC w q2 (cs .i64 cl))
    (hr : ∀ (i : Nat) w (hi : i < l.length), evWant cl l[i] → Own e w (evB_int a b g q2 cl.length k2 q c l (Fr i)) →
      RoundR Try.prog lp #[.int .i64 (i : Int), .agg (encE (Value.int .i64) l[i]).toArray] w fun v w' => (v = .bool true ∧ Own e w' (evB_int a b g q2 cl.length k2 q c l (Fr (i + 1)))) ∨ (v = .bool false ∧ Fin w'))
    (hs : ∀ (i : Nat) w (hi : i < l.length), ¬ evWant cl l[i] → Own e w (evB_int a b g q2 cl.length k2 q c l (Fr i)) → Own e w (evB_int a b g q2 cl.length k2 q c l (Fr (i + 1))))
    (h : Own e w (evB_int a b g q2 cl.length k2 q c l (Fr 0))) :
    Rets Try.prog 81 #[.func (.yield lp) #[] #[], .pointer (some ⟨a, 0, none⟩), .pointer (some ⟨b, 0, none⟩)] w fun v w' => Own e w' (evB_int a b g q2 cl.length k2 q c l (Fr l.length)) ∨ Fin w' := by
  refine event_Log_int_All_1_go _ _ _ ?_
  refine ⟨_, (Own.ld' h (by repeat (first | with_reducible exact Pick.here | apply Pick.there)) (by rfl)), ?_⟩
  refine ⟨fun hc => (by cases hc), fun _ => ?_⟩
  refine ⟨_, (Own.ld' h (by repeat (first | with_reducible exact Pick.here | apply Pick.there)) (by rfl)), ?_⟩
  refine ⟨_, _, _, (Own.ld h (by repeat (first | with_reducible exact Pick.here | apply Pick.there)) (by rfl)), fun m vs w => ∃ i : Nat, vs = [.int .i64 (i : Int)] ∧ m + i = l.length ∧ Own e w (evB_int a b g q2 cl.length k2 q c l (Fr i)), ⟨l.length, 0, rfl, rfl, h⟩, ?_⟩
  rintro m w v1 v2 n1
  intros
  rename_i hI
  obtain ⟨i, hvs, hm, h⟩ := hI
  obtain rfl : n1 = (i : Int) := by simpa using hvs
  refine ⟨fun hc => ?_, fun hc => ?_⟩
  · have hc := dec_t hc
    have hi : i < l.length := by omega
    have h' : Own e w (slO 61 5 q l.length c (l.flatMap (encE (Value.int .i64))) :: _) := (Own.pk h (by repeat (first | with_reducible exact Pick.here | apply Pick.there)))
    obtain ⟨ad, rfl, hcell⟩ := RdC.rec (encE_len _) h'.slRd hi (by omega)
    have hcc := fun j u hj => hcell i hi j u hj
    refine ⟨by omega, by omega, _, _, _, _, _, ⟨hcc 0 _ rfl, hcc 1 _ rfl, hcc 2 _ rfl, hcc 3 _ rfl, hcc 4 _ rfl⟩, ?_⟩
    refine h.newR fun g3 w h => Own.stP' h (by repeat (first | with_reducible exact Pick.here | apply Pick.there)) (by simp) (by simp [Value.oneCell']) fun w h => ?_
    simp only [setFrom, List.set_cons_zero, List.set_cons_succ, List.set_nil] at h
    have hB : Own e w (evB_int a b g q2 cl.length k2 (some ad) c l (Fr i)) := h.drop
    refine ⟨_, _, _, (Own.ld' h (by repeat (first | with_reducible exact Pick.here | apply Pick.there)) (by rfl)), ?_⟩
    refine ⟨fun hz => ?_, fun hz => ?_⟩
    · have hz := beq_f hz
      refine ⟨_, _, _, (Own.ld' h (by repeat (first | with_reducible exact Pick.here | apply Pick.there)) (by rfl)), _, (Own.ld h (by repeat (first | with_reducible exact Pick.here | apply Pick.there)) (by rfl)), ?_⟩
      refine Rets.mono (evContains_spec h (hrd _ _ hB.drop.drop.drop.drop) hcl) ?_
      rintro _ _ ⟨rfl, rfl⟩
      refine ⟨_, rfl, fun hb => ?_, fun hb => ?_⟩
      · have hb := dec_t hb
        (refine ⟨_, _, _, _, _, ⟨(Own.ld h (by repeat (first | with_reducible exact Pick.here | apply Pick.there)) (by rfl)), (Own.ld h (by repeat (first | with_reducible exact Pick.here | apply Pick.there)) (by rfl)), (Own.ld h (by repeat (first | with_reducible exact Pick.here | apply Pick.there)) (by rfl)), (Own.ld h (by repeat (first | with_reducible exact Pick.here | apply Pick.there)) (by rfl)), (Own.ld h (by repeat (first | with_reducible exact Pick.here | apply Pick.there)) (by rfl))⟩, ?_⟩)
        refine RoundR.mono (hr i _ hi (.inr hb) hB) ?_
        rintro v w (⟨rfl, h⟩ | ⟨rfl, h⟩)
        · exact ⟨_, rfl, fun hx => (by cases hx), fun _ => ⟨m - 1, by omega, i + 1, by rw [wI64 (by omega) (by omega)]; rfl, by omega, h⟩⟩
        · exact ⟨_, rfl, fun _ => .inr h, fun hx => (by cases hx)⟩
      · have hb := dec_f hb
        refine ⟨m - 1, by omega, i + 1, by rw [wI64 (by omega) (by omega)]; rfl, by omega, hs i _ hi ?_ hB⟩
        rintro (h0 | h0)
        · rw [h0] at hz; exact hz rfl
        · exact hb h0
    · have hz := beq_t hz
      (refine ⟨_, _, _, _, _, ⟨(Own.ld h (by repeat (first | with_reducible exact Pick.here | apply Pick.there)) (by rfl)), (Own.ld h (by repeat (first | with_reducible exact Pick.here | apply Pick.there)) (by rfl)), (Own.ld h (by repeat (first | with_reducible exact Pick.here | apply Pick.there)) (by rfl)), (Own.ld h (by repeat (first | with_reducible exact Pick.here | apply Pick.there)) (by rfl)), (Own.ld h (by repeat (first | with_reducible exact Pick.here | apply Pick.there)) (by rfl))⟩, ?_⟩)
      refine RoundR.mono (hr i _ hi (.inl (List.eq_nil_of_length_eq_zero (by omega))) hB) ?_
      rintro v w (⟨rfl, h⟩ | ⟨rfl, h⟩)
      · exact ⟨_, rfl, fun hx => (by cases hx), fun _ => ⟨m - 1, by omega, i + 1, by rw [wI64 (by omega) (by omega)]; rfl, by omega, h⟩⟩
      · exact ⟨_, rfl, fun _ => .inr h, fun hx => (by cases hx)⟩
  · have hc := dec_f hc
    obtain rfl : i = l.length := by omega
    exact .inl h
end
section
variable {e w : World} {F : List HP} {g : Nat} {l : List (Ev ByteArray)}
theorem evAll_string {q q2 : Option Addr} {n c : Nat} (h : Own e w F) : Rets Try.prog 32 #[.pointer q, .slice q2 n c] w fun v w' => ∃ a b, v = .func (.func 70) #[] #[.pointer (some ⟨a, 0, none⟩), .pointer (some ⟨b, 0, none⟩)] ∧ Own e w' (blk b 26 [.slice q2 n c] :: blk a 49 [.pointer q] :: F) :=
  event_Log_string_All_go _ _ _ _ (h.newR fun a w h => h.newR fun b w h => ⟨a, b, rfl, h⟩)
/-- What a log's telling holds. -/
abbrev evB_string (a b g : Nat) (q2 : Option Addr) (m k2 : Nat) (q : Option Addr) (c : Nat) (l : List (Ev ByteArray)) (F : List HP) : List HP :=
  blk b 26 [.slice q2 m k2] :: blk a 49 [.pointer (some ⟨g, 0, none⟩)] :: blk g 108 (.slice q l.length c :: evCs l) :: slO 54 5 q l.length c (l.flatMap (encE Value.string)) :: F
theorem evAll1_string {lp a b k2 c : Nat} {q q2 : Option Addr} {cl : List Int} {Fr : Nat → List HP} {Fin : World → Prop} (hl : l.length ≤ 1000) (hcl : cl.length ≤ 1000)
    (hrd : ∀ w i, Own e w (Fr i) → RdC w q2 (cs .i64 cl))
    (hr : ∀ (i : Nat) w (hi : i < l.length), evWant cl l[i] → Own e w (evB_string a b g q2 cl.length k2 q c l (Fr i)) →
      RoundR Try.prog lp #[.int .i64 (i : Int), .agg (encE Value.string l[i]).toArray] w fun v w' => (v = .bool true ∧ Own e w' (evB_string a b g q2 cl.length k2 q c l (Fr (i + 1)))) ∨ (v = .bool false ∧ Fin w'))
    (hs : ∀ (i : Nat) w (hi : i < l.length), ¬ evWant cl l[i] → Own e w (evB_string a b g q2 cl.length k2 q c l (Fr i)) → Own e w (evB_string a b g q2 cl.length k2 q c l (Fr (i + 1))))
    (h : Own e w (evB_string a b g q2 cl.length k2 q c l (Fr 0))) :
    Rets Try.prog 70 #[.func (.yield lp) #[] #[], .pointer (some ⟨a, 0, none⟩), .pointer (some ⟨b, 0, none⟩)] w fun v w' => Own e w' (evB_string a b g q2 cl.length k2 q c l (Fr l.length)) ∨ Fin w' := by
  refine event_Log_string_All_1_go _ _ _ ?_
  refine ⟨_, (Own.ld' h (by repeat (first | with_reducible exact Pick.here | apply Pick.there)) (by rfl)), ?_⟩
  refine ⟨fun hc => (by cases hc), fun _ => ?_⟩
  refine ⟨_, (Own.ld' h (by repeat (first | with_reducible exact Pick.here | apply Pick.there)) (by rfl)), ?_⟩
  refine ⟨_, _, _, (Own.ld h (by repeat (first | with_reducible exact Pick.here | apply Pick.there)) (by rfl)), fun m vs w => ∃ i : Nat, vs = [.int .i64 (i : Int)] ∧ m + i = l.length ∧ Own e w (evB_string a b g q2 cl.length k2 q c l (Fr i)), ⟨l.length, 0, rfl, rfl, h⟩, ?_⟩
  rintro m w v1 v2 n1
  intros
  rename_i hI
  obtain ⟨i, hvs, hm, h⟩ := hI
  obtain rfl : n1 = (i : Int) := by simpa using hvs
  refine ⟨fun hc => ?_, fun hc => ?_⟩
  · have hc := dec_t hc
    have hi : i < l.length := by omega
    have h' : Own e w (slO 54 5 q l.length c (l.flatMap (encE Value.string)) :: _) := (Own.pk h (by repeat (first | with_reducible exact Pick.here | apply Pick.there)))
    obtain ⟨ad, rfl, hcell⟩ := RdC.rec (encE_len _) h'.slRd hi (by omega)
    have hcc := fun j u hj => hcell i hi j u hj
    refine ⟨by omega, by omega, _, _, _, _, _, ⟨hcc 0 _ rfl, hcc 1 _ rfl, hcc 2 _ rfl, hcc 3 _ rfl, hcc 4 _ rfl⟩, ?_⟩
    refine h.newR fun g3 w h => Own.stP' h (by repeat (first | with_reducible exact Pick.here | apply Pick.there)) (by simp) (by simp [Value.oneCell']) fun w h => ?_
    simp only [setFrom, List.set_cons_zero, List.set_cons_succ, List.set_nil] at h
    have hB : Own e w (evB_string a b g q2 cl.length k2 (some ad) c l (Fr i)) := h.drop
    refine ⟨_, _, _, (Own.ld' h (by repeat (first | with_reducible exact Pick.here | apply Pick.there)) (by rfl)), ?_⟩
    refine ⟨fun hz => ?_, fun hz => ?_⟩
    · have hz := beq_f hz
      refine ⟨_, _, _, (Own.ld' h (by repeat (first | with_reducible exact Pick.here | apply Pick.there)) (by rfl)), _, (Own.ld h (by repeat (first | with_reducible exact Pick.here | apply Pick.there)) (by rfl)), ?_⟩
      refine Rets.mono (evContains_spec h (hrd _ _ hB.drop.drop.drop.drop) hcl) ?_
      rintro _ _ ⟨rfl, rfl⟩
      refine ⟨_, rfl, fun hb => ?_, fun hb => ?_⟩
      · have hb := dec_t hb
        (refine ⟨_, _, _, _, _, ⟨(Own.ld h (by repeat (first | with_reducible exact Pick.here | apply Pick.there)) (by rfl)), (Own.ld h (by repeat (first | with_reducible exact Pick.here | apply Pick.there)) (by rfl)), (Own.ld h (by repeat (first | with_reducible exact Pick.here | apply Pick.there)) (by rfl)), (Own.ld h (by repeat (first | with_reducible exact Pick.here | apply Pick.there)) (by rfl)), (Own.ld h (by repeat (first | with_reducible exact Pick.here | apply Pick.there)) (by rfl))⟩, ?_⟩)
        refine RoundR.mono (hr i _ hi (.inr hb) hB) ?_
        rintro v w (⟨rfl, h⟩ | ⟨rfl, h⟩)
        · exact ⟨_, rfl, fun hx => (by cases hx), fun _ => ⟨m - 1, by omega, i + 1, by rw [wI64 (by omega) (by omega)]; rfl, by omega, h⟩⟩
        · exact ⟨_, rfl, fun _ => .inr h, fun hx => (by cases hx)⟩
      · have hb := dec_f hb
        refine ⟨m - 1, by omega, i + 1, by rw [wI64 (by omega) (by omega)]; rfl, by omega, hs i _ hi ?_ hB⟩
        rintro (h0 | h0)
        · rw [h0] at hz; exact hz rfl
        · exact hb h0
    · have hz := beq_t hz
      (refine ⟨_, _, _, _, _, ⟨(Own.ld h (by repeat (first | with_reducible exact Pick.here | apply Pick.there)) (by rfl)), (Own.ld h (by repeat (first | with_reducible exact Pick.here | apply Pick.there)) (by rfl)), (Own.ld h (by repeat (first | with_reducible exact Pick.here | apply Pick.there)) (by rfl)), (Own.ld h (by repeat (first | with_reducible exact Pick.here | apply Pick.there)) (by rfl)), (Own.ld h (by repeat (first | with_reducible exact Pick.here | apply Pick.there)) (by rfl))⟩, ?_⟩)
      refine RoundR.mono (hr i _ hi (.inl (List.eq_nil_of_length_eq_zero (by omega))) hB) ?_
      rintro v w (⟨rfl, h⟩ | ⟨rfl, h⟩)
      · exact ⟨_, rfl, fun hx => (by cases hx), fun _ => ⟨m - 1, by omega, i + 1, by rw [wI64 (by omega) (by omega)]; rfl, by omega, h⟩⟩
      · exact ⟨_, rfl, fun _ => .inr h, fun hx => (by cases hx)⟩
  · have hc := dec_f hc
    obtain rfl : i = l.length := by omega
    exact .inl h
end
end Go.Proofs.Ytmenjjofmafacaa.Eng
