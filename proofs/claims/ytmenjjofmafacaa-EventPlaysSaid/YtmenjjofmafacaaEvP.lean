/- Logs of events: what each function of the program does. -/
import Derived.Test.YtmenjjofmafacaaEngU
import Derived.Test.YtmenjjofmafacaaEngA
import Derived.Test.YtmenjjofmafacaaIntP
import Derived.Test.YtmenjjofmafacaaEvG
namespace Go.Proofs.Ytmenjjofmafacaa.Eng
open Go Go.RowKit Go.Proofs
set_option linter.unusedVariables false
set_option linter.unusedSimpArgs false
set_option maxRecDepth 1000000

/-- An event. -/
structure Ev (α : Type) where
  c : Int
  h : Int
  cf : Int
  v : α
  i : Int
abbrev encE {α : Type} (f : α → Value) (x : Ev α) : List Value := [.int .i64 x.c, .int .u64 x.h, .int .u64 x.cf, f x.v, .int .i64 x.i]
theorem encE_len {α : Type} (f : α → Value) (x : Ev α) : (encE f x).length = 5 := rfl
def evKn (c : Int) : Bool := decide (1 ≤ c ∧ c ≤ 6)
def evCnt {α : Type} (l : List (Ev α)) (c : Int) : Nat := l.countP fun x => decide (x.c = c)
theorem evCnt_app {α : Type} (l : List (Ev α)) (x : Ev α) (c : Int) : evCnt (l ++ [x]) c = evCnt l c + if x.c = c then 1 else 0 := by
  unfold evCnt
  rw [List.countP_append]
  simp [List.countP_cons]
theorem evCnt_le {α : Type} (l : List (Ev α)) (c : Int) : evCnt l c ≤ l.length := List.countP_le_length
abbrev evCs {α : Type} (l : List (Ev α)) : List Value := [.int .i64 (evCnt l 0 : Nat), .int .i64 (evCnt l 1 : Nat), .int .i64 (evCnt l 2 : Nat), .int .i64 (evCnt l 3 : Nat), .int .i64 (evCnt l 4 : Nat), .int .i64 (evCnt l 5 : Nat), .int .i64 (evCnt l 6 : Nat)]
/-- A log. -/
def logO {α : Type} (T E : TypeId) (f : α → Value) (g : Nat) (l : List (Ev α)) : HP := exH fun q => exH fun c => allH [blk g T (.slice q l.length c :: evCs l), slO E 5 q l.length c (l.flatMap (encE f))]
section
variable {e w : World} {F : List HP} {α : Type} {T E : TypeId} {f : α → Value} {g : Nat} {l : List (Ev α)}
theorem logO.op (h : Own e w (logO T E f g l :: F)) : ∃ q c, Own e w (blk g T (.slice q l.length c :: evCs l) :: slO E 5 q l.length c (l.flatMap (encE f)) :: F) := by
  obtain ⟨q, h⟩ := h.ex
  obtain ⟨c, h⟩ := h.ex
  exact ⟨q, c, h.open_⟩
theorem logO.cl {q : Option Addr} {c : Nat} (h : Own e w (blk g T (.slice q l.length c :: evCs l) :: slO E 5 q l.length c (l.flatMap (encE f)) :: F)) : Own e w (logO T E f g l :: F) := by
  have h : Own e w ([blk g T (.slice q l.length c :: evCs l), slO E 5 q l.length c (l.flatMap (encE f))] ++ F) := h
  exact Own.mkEx q (Own.mkEx c h.close_)
end
section
variable {e w : World} {F : List HP}
theorem evKnown_spec {c : Int} (h : Own e w F) : Rets Try.prog 33 #[.int .i64 c] w fun v w' => v = .bool (evKn c) ∧ Own e w' F := by
  refine event_Known_go _ ⟨fun hc => ⟨?_, h⟩, fun hc => ⟨?_, h⟩⟩
  · have hc := dec_t hc
    unfold evKn; congr 1; simp; omega
  · have hc := dec_f hc
    unfold evKn; rw [decide_eq_false]; omega
theorem evRemoves_spec {c : Int} (h : Own e w F) : Rets Try.prog 59 #[.int .i64 c] w fun v w' => v = .bool (evKn c && decide (c ≠ 6)) ∧ Own e w' F := by
  refine event_Removes_go _ ?_
  refine Rets.mono (evKnown_spec h) ?_
  rintro _ w ⟨rfl, h⟩
  refine ⟨_, rfl, fun hb => ⟨?_, h⟩, fun hb => ⟨?_, h⟩⟩
  · rw [hb]
    by_cases h6 : c = 6
    · subst h6; rfl
    · simp [h6]
  · rw [hb]; rfl
theorem evIndex_spec {q : Option Addr} {k : Nat} {cl : List Int} {x : Int} (h : Own e w F) (hr : RdC w q (cs .i64 cl)) (hl : cl.length ≤ 1000) : Rets Try.prog 83 #[.slice q cl.length k, .int .i64 x] w fun v w' => (∃ n, v = .int .i64 n ∧ (0 ≤ n ↔ x ∈ cl)) ∧ w' = w := by
  refine slices_Index_int_int_go _ _ _ _ ?_
  refine ⟨fun m vs w' => ∃ i : Nat, vs = [.int .i64 (i : Int)] ∧ m + i = cl.length ∧ w' = w ∧ x ∉ cl.take i, ⟨cl.length, 0, rfl, by omega, rfl, by simp⟩, ?_⟩
  rintro m w1 v1 v2 n1
  intros
  rename_i hI
  obtain ⟨i, hvs, hm, rfl, hn⟩ := hI
  obtain rfl : n1 = (i : Int) := by simpa using hvs
  refine ⟨fun hc => ?_, fun hc => ?_⟩
  · have hc := dec_t hc
    have hi : i < cl.length := by omega
    refine ⟨by omega, by omega, hr.int hi fun a ha => ⟨_, ha, fun hx => ?_, fun hx => ?_⟩⟩
    · have hx := beq_t hx
      exact ⟨⟨_, rfl, fun _ => by rw [hx]; exact List.getElem_mem hi, fun _ => by omega⟩, rfl⟩
    · have hx := beq_f hx
      refine ⟨m - 1, by omega, i + 1, by rw [wI64 (by omega) (by omega)]; rfl, by omega, rfl, ?_⟩
      rw [List.take_succ_eq_append_getElem hi, List.mem_append]
      simp [hn, hx]
  · have hc := dec_f hc
    obtain rfl : i = cl.length := by omega
    rw [List.take_length] at hn
    exact ⟨⟨_, rfl, fun h0 => by omega, fun h0 => absurd h0 hn⟩, rfl⟩
theorem evContains_spec {q : Option Addr} {k : Nat} {cl : List Int} {x : Int} (h : Own e w F) (hr : RdC w q (cs .i64 cl)) (hl : cl.length ≤ 1000) : Rets Try.prog 71 #[.slice q cl.length k, .int .i64 x] w fun v w' => v = .bool (decide (x ∈ cl)) ∧ w' = w := by
  refine slices_Contains_int_int_go _ _ _ _ ?_
  refine Rets.mono (evIndex_spec h hr hl) ?_
  rintro _ _ ⟨⟨n, rfl, hn⟩, rfl⟩
  refine ⟨_, rfl, ?_, rfl⟩
  congr 1
  rw [decide_eq_decide]
  exact hn
end
section
variable {e w : World} {F : List HP} {g : Nat} {l : List (Ev Int)}
abbrev logO_int (g : Nat) (l : List (Ev Int)) : HP := logO 113 61 (Value.int .i64) g l
theorem evNew_int (h : Own e w F) : Rets Try.prog 55 #[] w fun v w' => ∃ g, v = .pointer (some ⟨g, 0, none⟩) ∧ Own e w' (logO_int g [] :: F) := by
  refine event_New_int_go (h.newR fun g w h => ⟨g, rfl, ?_⟩)
  exact logO.cl (l := []) (q := none) (c := 0) ((h.slNil).swap)
theorem evLen_int (h : Own e w (logO_int g l :: F)) : Rets Try.prog 36 #[.pointer (some ⟨g, 0, none⟩)] w fun v w' => v = .int .i64 (l.length : Nat) ∧ Own e w' (logO_int g l :: F) := by
  refine event_Log_int_Len_go _ ⟨fun hc => (by cases hc), fun _ => ?_⟩
  obtain ⟨q, c, h⟩ := logO.op h
  exact ⟨_, _, _, (Own.ld h (by repeat (first | with_reducible exact Pick.here | apply Pick.there)) (by rfl)), rfl, logO.cl h⟩
theorem evAdd_int {x : Ev Int} (h : Own e w (logO_int g l :: F)) (hl : l.length ≤ 1000) : Rets Try.prog 35 #[.pointer (some ⟨g, 0, none⟩), .agg (encE (Value.int .i64) x).toArray] w fun v w' => v = .bool (evKn x.c) ∧ Own e w' (logO_int g (if evKn x.c then l ++ [x] else l) :: F) := by
  refine event_Log_int_Add_go _ _ _ _ _ _ ?_
  refine h.newR fun g1 w h => ⟨fun _ => ⟨_, (Own.ld h (by repeat (first | with_reducible exact Pick.here | apply Pick.there)) (by rfl)), ?_⟩, fun hc => (by cases hc)⟩
  refine Rets.mono (evKnown_spec h) ?_
  rintro _ w ⟨rfl, h⟩
  refine ⟨_, rfl, fun hb => ?_, fun hb => ?_⟩
  · have hb : evKn x.c = false := by simpa using hb
    rw [hb]; exact ⟨rfl, h.drop⟩
  · have hb : evKn x.c = true := by simpa using hb
    have hkn : 1 ≤ x.c ∧ x.c ≤ 6 := by simpa [evKn] using hb
    rw [hb]
    obtain ⟨q, c, h⟩ := logO.op (Own.swap h)
    refine h.drw fun w h => ⟨fun w => Own _ w _, h, ?_⟩
    refine ⟨_, _, _, (fun w h => (Own.ld h (by repeat (first | with_reducible exact Pick.here | apply Pick.there)) (by rfl))), ?_⟩
    (refine ⟨_, _, _, _, _, ⟨(fun w h => (Own.ld h (by repeat (first | with_reducible exact Pick.here | apply Pick.there)) (by rfl))), (fun w h => (Own.ld h (by repeat (first | with_reducible exact Pick.here | apply Pick.there)) (by rfl))), (fun w h => (Own.ld h (by repeat (first | with_reducible exact Pick.here | apply Pick.there)) (by rfl))), (fun w h => (Own.ld h (by repeat (first | with_reducible exact Pick.here | apply Pick.there)) (by rfl))), (fun w h => (Own.ld h (by repeat (first | with_reducible exact Pick.here | apply Pick.there)) (by rfl)))⟩, ?_⟩)
    refine h.newR fun g2 w h => ⟨(Own.sub (h) (by repeat (first | exact Sub.nil _ | exact Sub.rfl _ | (apply Sub.cons; focus ((repeat (first | with_reducible exact Pick.here | apply Pick.there)); done)) | apply Sub.drop))), ?_⟩
    have h' : Own e w (slO 61 5 q l.length c (l.flatMap (encE (Value.int .i64))) :: _) := (Own.pk h (by repeat (first | with_reducible exact Pick.here | apply Pick.there)))
    refine Own.append (z := [.int .i64 0, .int .u64 0, .int .u64 0, .int .i64 0, .int .i64 0]) (b := 40) (news := encE (Value.int .i64) x) h' (by kernel_rfl) (by kernel_rfl) (by kernel_rfl) (by kernel_rfl) (by kernel_rfl) (by omega) (Own.blkRd (g := g2) (T := 61) (Own.pk h (by repeat (first | with_reducible exact Pick.here | apply Pick.there)))) rfl (by simp [Value.oneCell']) (by unfold maxLen; omega) (by omega) fun q' c' w h _ => ?_
    refine ⟨_, _, _, rfl, Own.stP h (by repeat (first | with_reducible exact Pick.here | apply Pick.there)) (by simp) (by simp [Value.oneCell']) fun w h => ?_⟩
    simp only [setFrom, List.set_cons_zero, List.set_cons_succ, List.set_nil] at h
    refine h.drw fun w h => ⟨_, (Own.ld h (by repeat (first | with_reducible exact Pick.here | apply Pick.there)) (by rfl)), by omega, by omega, ?_⟩
    have hcl := fun k => evCnt_le l k
    have fin : ∀ w, Own e w (blk g 113 (.slice q' (l ++ [x]).length c' :: evCs (l ++ [x])) :: slO 61 5 q' (l ++ [x]).length c' ((l ++ [x]).flatMap (encE (Value.int .i64))) :: F) → Own e w (logO_int g (l ++ [x]) :: F) := fun w h => logO.cl h
    have e1 : (l ++ [x]).flatMap (encE (Value.int .i64)) = l.flatMap (encE (Value.int .i64)) ++ encE (Value.int .i64) x := by simp
    rw [← e1] at h
    have hcs : x.c = 1 ∨ x.c = 2 ∨ x.c = 3 ∨ x.c = 4 ∨ x.c = 5 ∨ x.c = 6 := by omega
    rcases hcs with hx | hx | hx | hx | hx | hx
    all_goals
      rw [hx]
      simp only [addr_add_add, Int.reduceToNat, Nat.reduceMul, Nat.reduceAdd]
      refine ⟨_, (Own.ld h (by repeat (first | with_reducible exact Pick.here | apply Pick.there)) (by rfl)), by decide, by decide, ?_⟩
      have h1 := hcl x.c
      rw [hx] at h1
      rw [wI64 (by omega) (by omega)]
      refine Own.stP h (by repeat (first | with_reducible exact Pick.here | apply Pick.there)) (by simp) (by simp [Value.oneCell']) fun w h => ⟨trivial, fin w ?_⟩
      simp only [setFrom, List.set_cons_zero, List.set_cons_succ, List.set_nil] at h
      have h : Own e w (blk g 113 _ :: slO 61 5 q' (l.length + 1) c' ((l ++ [x]).flatMap (encE (Value.int .i64))) :: F) := (Own.sub (h) (by repeat (first | exact Sub.nil _ | exact Sub.rfl _ | (apply Sub.cons; focus ((repeat (first | with_reducible exact Pick.here | apply Pick.there)); done)) | apply Sub.drop)))
      simpa [evCs, evCnt_app, hx] using h
theorem evCount_int {c : Int} (h : Own e w (logO_int g l :: F)) : Rets Try.prog 37 #[.pointer (some ⟨g, 0, none⟩), .int .i64 c] w fun v w' => v = .int .i64 (if evKn c then evCnt l c else 0 : Nat) ∧ Own e w' (logO_int g l :: F) := by
  refine event_Log_int_Count_go _ _ ⟨fun _ => ?_, fun hc => (by cases hc)⟩
  refine Rets.mono (evKnown_spec h) ?_
  rintro _ w ⟨rfl, h⟩
  refine ⟨_, rfl, fun hb => ?_, fun hb => ?_⟩
  · have hb : evKn c = false := by simpa using hb
    rw [hb]; exact ⟨rfl, h⟩
  · have hb : evKn c = true := by simpa using hb
    have hkn : 1 ≤ c ∧ c ≤ 6 := by simpa [evKn] using hb
    rw [hb]
    obtain ⟨q, k, h⟩ := logO.op h
    refine ⟨by omega, by omega, ?_⟩
    have hcs : c = 1 ∨ c = 2 ∨ c = 3 ∨ c = 4 ∨ c = 5 ∨ c = 6 := by omega
    rcases hcs with rfl | rfl | rfl | rfl | rfl | rfl
    all_goals
      simp only [addr_add_add, Int.reduceToNat, Nat.reduceMul, Nat.reduceAdd]
      exact ⟨_, (Own.ld h (by repeat (first | with_reducible exact Pick.here | apply Pick.there)) (by rfl)), rfl, logO.cl h⟩
end
section
variable {e w : World} {F : List HP} {g : Nat} {l : List (Ev ByteArray)}
abbrev logO_string (g : Nat) (l : List (Ev ByteArray)) : HP := logO 108 54 Value.string g l
theorem evNew_string (h : Own e w F) : Rets Try.prog 30 #[] w fun v w' => ∃ g, v = .pointer (some ⟨g, 0, none⟩) ∧ Own e w' (logO_string g [] :: F) := by
  refine event_New_string_go (h.newR fun g w h => ⟨g, rfl, ?_⟩)
  exact logO.cl (l := []) (q := none) (c := 0) ((h.slNil).swap)
theorem evAdd_string {x : Ev ByteArray} (h : Own e w (logO_string g l :: F)) (hl : l.length ≤ 1000) : Rets Try.prog 31 #[.pointer (some ⟨g, 0, none⟩), .agg (encE Value.string x).toArray] w fun v w' => v = .bool (evKn x.c) ∧ Own e w' (logO_string g (if evKn x.c then l ++ [x] else l) :: F) := by
  refine event_Log_string_Add_go _ _ _ _ _ _ ?_
  refine h.newR fun g1 w h => ⟨fun _ => ⟨_, (Own.ld h (by repeat (first | with_reducible exact Pick.here | apply Pick.there)) (by rfl)), ?_⟩, fun hc => (by cases hc)⟩
  refine Rets.mono (evKnown_spec h) ?_
  rintro _ w ⟨rfl, h⟩
  refine ⟨_, rfl, fun hb => ?_, fun hb => ?_⟩
  · have hb : evKn x.c = false := by simpa using hb
    rw [hb]; exact ⟨rfl, h.drop⟩
  · have hb : evKn x.c = true := by simpa using hb
    have hkn : 1 ≤ x.c ∧ x.c ≤ 6 := by simpa [evKn] using hb
    rw [hb]
    obtain ⟨q, c, h⟩ := logO.op (Own.swap h)
    refine h.drw fun w h => ⟨fun w => Own _ w _, h, ?_⟩
    refine ⟨_, _, _, (fun w h => (Own.ld h (by repeat (first | with_reducible exact Pick.here | apply Pick.there)) (by rfl))), ?_⟩
    (refine ⟨_, _, _, _, _, ⟨(fun w h => (Own.ld h (by repeat (first | with_reducible exact Pick.here | apply Pick.there)) (by rfl))), (fun w h => (Own.ld h (by repeat (first | with_reducible exact Pick.here | apply Pick.there)) (by rfl))), (fun w h => (Own.ld h (by repeat (first | with_reducible exact Pick.here | apply Pick.there)) (by rfl))), (fun w h => (Own.ld h (by repeat (first | with_reducible exact Pick.here | apply Pick.there)) (by rfl))), (fun w h => (Own.ld h (by repeat (first | with_reducible exact Pick.here | apply Pick.there)) (by rfl)))⟩, ?_⟩)
    refine h.newR fun g2 w h => ⟨(Own.sub (h) (by repeat (first | exact Sub.nil _ | exact Sub.rfl _ | (apply Sub.cons; focus ((repeat (first | with_reducible exact Pick.here | apply Pick.there)); done)) | apply Sub.drop))), ?_⟩
    have h' : Own e w (slO 54 5 q l.length c (l.flatMap (encE Value.string)) :: _) := (Own.pk h (by repeat (first | with_reducible exact Pick.here | apply Pick.there)))
    refine Own.append (z := [.int .i64 0, .int .u64 0, .int .u64 0, .string ⟨#[]⟩, .int .i64 0]) (b := 48) (news := encE Value.string x) h' (by kernel_rfl) (by kernel_rfl) (by kernel_rfl) (by kernel_rfl) (by kernel_rfl) (by omega) (Own.blkRd (g := g2) (T := 54) (Own.pk h (by repeat (first | with_reducible exact Pick.here | apply Pick.there)))) rfl (by simp [Value.oneCell']) (by unfold maxLen; omega) (by omega) fun q' c' w h _ => ?_
    refine ⟨_, _, _, rfl, Own.stP h (by repeat (first | with_reducible exact Pick.here | apply Pick.there)) (by simp) (by simp [Value.oneCell']) fun w h => ?_⟩
    simp only [setFrom, List.set_cons_zero, List.set_cons_succ, List.set_nil] at h
    refine h.drw fun w h => ⟨_, (Own.ld h (by repeat (first | with_reducible exact Pick.here | apply Pick.there)) (by rfl)), by omega, by omega, ?_⟩
    have hcl := fun k => evCnt_le l k
    have fin : ∀ w, Own e w (blk g 108 (.slice q' (l ++ [x]).length c' :: evCs (l ++ [x])) :: slO 54 5 q' (l ++ [x]).length c' ((l ++ [x]).flatMap (encE Value.string)) :: F) → Own e w (logO_string g (l ++ [x]) :: F) := fun w h => logO.cl h
    have e1 : (l ++ [x]).flatMap (encE Value.string) = l.flatMap (encE Value.string) ++ encE Value.string x := by simp
    rw [← e1] at h
    have hcs : x.c = 1 ∨ x.c = 2 ∨ x.c = 3 ∨ x.c = 4 ∨ x.c = 5 ∨ x.c = 6 := by omega
    rcases hcs with hx | hx | hx | hx | hx | hx
    all_goals
      rw [hx]
      simp only [addr_add_add, Int.reduceToNat, Nat.reduceMul, Nat.reduceAdd]
      refine ⟨_, (Own.ld h (by repeat (first | with_reducible exact Pick.here | apply Pick.there)) (by rfl)), by decide, by decide, ?_⟩
      have h1 := hcl x.c
      rw [hx] at h1
      rw [wI64 (by omega) (by omega)]
      refine Own.stP h (by repeat (first | with_reducible exact Pick.here | apply Pick.there)) (by simp) (by simp [Value.oneCell']) fun w h => ⟨trivial, fin w ?_⟩
      simp only [setFrom, List.set_cons_zero, List.set_cons_succ, List.set_nil] at h
      have h : Own e w (blk g 108 _ :: slO 54 5 q' (l.length + 1) c' ((l ++ [x]).flatMap (encE Value.string)) :: F) := (Own.sub (h) (by repeat (first | exact Sub.nil _ | exact Sub.rfl _ | (apply Sub.cons; focus ((repeat (first | with_reducible exact Pick.here | apply Pick.there)); done)) | apply Sub.drop)))
      simpa [evCs, evCnt_app, hx] using h
end
end Go.Proofs.Ytmenjjofmafacaa.Eng
