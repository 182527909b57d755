/- EventStays. -/
import Derived.Test.YtmenjjofmafacaaEvQ
import Derived.Test.YtmenjjofmafacaaStrP
namespace Go.Proofs.Ytmenjjofmafacaa.Eng
open Go Go.RowKit Go.Proofs
set_option linter.unusedVariables false
set_option linter.unusedSimpArgs false
set_option maxRecDepth 1000000
section
variable {W : World} {q q2 : Option Addr} {c c2 : Nat} {ss : List ByteArray} {cl : List Int}
theorem EventStays_spec (hb : RdC W q (ss.map Value.string)) (hm : ss.length ≤ maxLen) (hc : ss.length ≤ c) (hb2 : RdC W q2 (cs .i64 cl)) (hm2 : cl.length ≤ maxLen) (hc2 : cl.length ≤ c2) (h64 : ∀ x ∈ cl, (Lit.int .i64 x).wf = true) :
    Rets Try.prog 6 #[.slice q ss.length c, .slice q2 cl.length c2] W fun v w' => v = .bool true ∧ Below W.heap.size W w' := by
  refine Rets.mono (k := fun v w' => v = .bool true ∧ Own W w' [snap W]) ?_ (fun v w' h => ⟨h.1, h.2.below⟩)
  have h := Own.begin W
  refine cortadolaw31_EventStays_go _ _ _ _ _ _ ?_
  unfold cortadolaw31_EventStays_m
  refine h.newR fun g1 w h => ⟨fun hc1 => ⟨fun hc2 => ?_, fun hc2 => ?_⟩, fun hc1 => ?_⟩
  · refine Rets.mono (evAwake h) ?_
    rintro _ w ⟨rfl, h⟩
    exact ⟨_, rfl, Own.stP' h (by repeat (first | with_reducible exact Pick.here | apply Pick.there)) (by simp) (by simp [Value.oneCell']) fun w h => ⟨_, (Own.ld' h (by repeat (first | with_reducible exact Pick.here | apply Pick.there)) (by rfl)), rfl, (Own.sub (h) (by repeat (first | exact Sub.nil _ | exact Sub.rfl _ | (apply Sub.cons; focus ((repeat (first | with_reducible exact Pick.here | apply Pick.there)); done)) | apply Sub.drop)))⟩⟩
  · have hc1 := dec_f hc1; have hc2 := dec_f hc2
    refine Rets.mono (evNew_string h) ?_
    rintro _ w ⟨g, rfl, h⟩
    refine ⟨_, rfl, h.newR fun g2 w h => ?_⟩
    let Rest : List HP := blk g1 4 [.bool false] :: [snap W]
    let J : List (Ev ByteArray) → World → Prop := fun l w => ∃ (qs : Option Addr) (k : Nat), l.length ≤ 60 ∧ (∀ x ∈ l, evKn x.c = true) ∧ Own W w (blk g2 44 [.slice qs l.length k] :: stB qs l.length k (l.map Ev.v) :: logO_string g l :: Rest)
    have hJ0 : J [] w := ⟨none, 0, by simp, by simp, by
      have h := Own.slNil (T := 9) (s := 1) h
      show Own W w (blk g2 44 [.slice none 0 0] :: stB none 0 0 [] :: logO_string g [] :: Rest)
      exact (Own.sub (h) (by repeat (first | exact Sub.nil _ | exact Sub.rfl _ | (apply Sub.cons; focus ((repeat (first | with_reducible exact Pick.here | apply Pick.there)); done)) | apply Sub.drop)))⟩
    refine ⟨fun vs w => ∃ l, J l w, ⟨fun m vs w => ∃ (i : Nat) (l : List (Ev ByteArray)), vs = [.int .i64 (i : Int)] ∧ m + i = ss.length ∧ l.length ≤ i ∧ J l w, ⟨ss.length, 0, [], rfl, by omega, by simp, hJ0⟩, ?_⟩, ?_⟩
    · rintro m w n1
      intros
      rename_i hI
      obtain ⟨i, l, hvs, hm', hli, qs, k, hl60, hkn, h⟩ := hI
      obtain rfl : n1 = (i : Int) := by simpa using hvs
      refine ⟨fun hx => ⟨fun hy => ?_, fun hy => ⟨l, qs, k, hl60, hkn, h⟩⟩, fun hx => ⟨l, qs, k, hl60, hkn, h⟩⟩
      have hx := dec_t hx; have hy := dec_t hy
      have hi : i < ss.length := by omega
      have hj : i < cl.length := by omega
      refine h.drw fun w h => ?_
      have hS : Own W w [snap W] := (Own.sub (h) (by repeat (first | exact Sub.nil _ | exact Sub.rfl _ | (apply Sub.cons; focus ((repeat (first | with_reducible exact Pick.here | apply Pick.there)); done)) | apply Sub.drop)))
      obtain ⟨a3, rfl, hA3⟩ := hb2.addr (cs_at hj)
      obtain ⟨a4, rfl, hA4⟩ := hb.addr (j := i) (u := .string ss[i]) (by simp [hi])
      have rd4 : ∀ w, Own W w [snap W] → cellAt w (a4.add (Int.toNat (i : Int) * 1)) (.string ss[i]) := fun w h => by
        rw [Int.toNat_natCast, Nat.mul_one]; exact h.snapCell (hA4 i _ (by simp [hi]))
      refine ⟨by omega, by omega, by omega, by omega, cl[i], ?_, _, rd4 _ hS, ?_⟩
      · rw [Int.toNat_natCast, Nat.mul_one]; exact hS.snapCell (hA3 i _ (cs_at hj))
      have h' : Own W w (logO_string g l :: _) := (Own.pk h (by repeat (first | with_reducible exact Pick.here | apply Pick.there)))
      refine Rets.mono (evAdd_string (x := ⟨cl[i], 0, 0, ss[i], (i : Int)⟩) h' (by omega)) ?_
      rintro _ w ⟨rfl, h⟩
      refine ⟨_, rfl, fun hz => ?_, fun hz => ?_⟩
      · rw [hz] at h
        have h : Own W w (logO_string g (l ++ [⟨cl[i], 0, 0, ss[i], (i : Int)⟩]) :: _) := h
        refine h.drw fun w h => ⟨fun w => Own _ w _, h, by omega, by omega, ?_⟩
        refine ⟨_, _, _, fun w h => (Own.ld' h (by repeat (first | with_reducible exact Pick.here | apply Pick.there)) (by rfl)), _, fun w h => rd4 _ (Own.sub (h) (by repeat (first | exact Sub.nil _ | exact Sub.rfl _ | (apply Sub.cons; focus ((repeat (first | with_reducible exact Pick.here | apply Pick.there)); done)) | apply Sub.drop))), ?_⟩
        refine h.newR fun g3 w h => ⟨(Own.sub (h) (by repeat (first | exact Sub.nil _ | exact Sub.rfl _ | (apply Sub.cons; focus ((repeat (first | with_reducible exact Pick.here | apply Pick.there)); done)) | apply Sub.drop))), ?_⟩
        have h : Own W w (blk g3 9 [.string ss[i]] :: stB qs l.length k (l.map Ev.v) :: _) := (Own.pk2 h (by repeat (first | with_reducible exact Pick.here | apply Pick.there)) (by repeat (first | with_reducible exact Pick.here | apply Pick.there)))
        refine putStr h (by omega) fun q' c' w h => ⟨_, _, _, rfl, Own.stP' h (by repeat (first | with_reducible exact Pick.here | apply Pick.there)) (by simp) (by simp [Value.oneCell']) fun w h => ?_⟩
        simp only [setFrom, List.set_cons_zero, List.set_cons_succ, List.set_nil] at h
        refine ⟨m - 1, by omega, i + 1, l ++ [⟨cl[i], 0, 0, ss[i], (i : Int)⟩], by rw [wI64 (by omega) (by omega)]; rfl, by omega, by simp; omega, q', c', by simp; omega, ?_, ?_⟩
        · intro x hx
          rcases List.mem_append.1 hx with hx | hx
          · exact hkn x hx
          · rw [List.mem_singleton.1 hx]; exact hz
        · rw [List.map_append, List.length_append]
          exact (Own.sub (h) (by repeat (first | exact Sub.nil _ | exact Sub.rfl _ | (apply Sub.cons; focus ((repeat (first | with_reducible exact Pick.here | apply Pick.there)); done)) | apply Sub.drop)))
      · rw [hz] at h
        have h : Own W w (logO_string g l :: _) := h
        exact ⟨m - 1, by omega, i + 1, l, by rw [wI64 (by omega) (by omega)]; rfl, by omega, by omega, qs, k, hl60, hkn, (Own.sub (h) (by repeat (first | exact Sub.nil _ | exact Sub.rfl _ | (apply Sub.cons; focus ((repeat (first | with_reducible exact Pick.here | apply Pick.there)); done)) | apply Sub.drop)))⟩
    · rintro w
      intros
      rename_i hI
      obtain ⟨l, qs, k, hl60, hkn, h⟩ := hI
      refine Rets.mono (evAll_string h) ?_
      rintro _ w ⟨a, b, rfl, h⟩
      refine ⟨_, _, _, rfl, fun hx => (by cases hx), fun _ => h.newR fun g5 w h => ?_⟩
      refine Own.stP' h (by repeat (first | with_reducible exact Pick.here | apply Pick.there)) (by simp) (by simp [Value.oneCell']) fun w h => ?_
      simp only [setFrom, List.set_cons_zero, List.set_cons_succ, List.set_nil] at h
      refine ⟨_, _, rfl, h.loopR fun mk lp L w h hround => ?_⟩
      have h : Own W w (logO_string g l :: _) := (Own.pk h (by repeat (first | with_reducible exact Pick.here | apply Pick.there)))
      obtain ⟨ql, kl, h⟩ := logO.op h
      let Fr : Nat → List HP := fun i => blk g5 3 [.int .i64 (i : Int)] :: pt lp (LoopObj L .ready none) :: pt mk (.deferred (some [])) :: blk g2 44 [.slice qs l.length k] :: stB qs l.length k (l.map Ev.v) :: Rest
      have h : Own W w (blk b 26 [.slice none 0 0] :: _) := (Own.pk h (by repeat (first | with_reducible exact Pick.here | apply Pick.there)))
      have h : Own W w (blk b 26 [.slice none ([] : List Int).length 0] :: _) := h
      have h : Own W w (blk g5 3 [.int .i64 0] :: _) := (Own.pk h (by repeat (first | with_reducible exact Pick.here | apply Pick.there)))
      have h : Own W w (blk g5 3 [.int .i64 ((0 : Nat) : Int)] :: _) := h
      refine Rets.mono (evAll1_string (cl := []) (l := l) (q := ql) (c := kl) (k2 := 0) (g := g) (q2 := none) (Fr := Fr) (Fin := fun _ => False) (by omega) (by simp) (fun w i h => .inl rfl) (fun i w hi _ h => ?_) (fun i w hi hn h => absurd (.inl rfl) hn) (Own.sub (h) (by repeat (first | exact Sub.nil _ | exact Sub.rfl _ | (apply Sub.cons; focus ((repeat (first | with_reducible exact Pick.here | apply Pick.there)); done)) | apply Sub.drop)))) ?_
      · refine hround _ _ _ _ _ _ w _ (Own.recR (l := lp) (L := L) (Own.pk h (by repeat (first | with_reducible exact Pick.here | apply Pick.there)))) ?_
        refine h.newR fun g6 w h => Own.stP' h (by repeat (first | with_reducible exact Pick.here | apply Pick.there)) (by simp) (by simp [Value.oneCell']) fun w h => ?_
        simp only [setFrom, List.set_cons_zero, List.set_cons_succ, List.set_nil] at h
        refine Own.begR (l := lp) (L := L) (Own.pk h (by repeat (first | with_reducible exact Pick.here | apply Pick.there))) fun w h => ?_
        refine h.drw fun w h => ⟨_, (Own.ld' h (by repeat (first | with_reducible exact Pick.here | apply Pick.there)) (by rfl)), fun hx => ?_, fun hx => absurd rfl (bool_ne hx)⟩
        refine ⟨_, (Own.ld' h (by repeat (first | with_reducible exact Pick.here | apply Pick.there)) (by rfl)), _, _, _, (Own.ld' h (by repeat (first | with_reducible exact Pick.here | apply Pick.there)) (by rfl)), fun hy => ?_, fun hy => absurd (dec_t hy) (by omega)⟩
        refine ⟨_, (Own.ld h (by repeat (first | with_reducible exact Pick.here | apply Pick.there)) (by rfl)), _, _, _, (Own.ld' h (by repeat (first | with_reducible exact Pick.here | apply Pick.there)) (by rfl)), _, (Own.ld' h (by repeat (first | with_reducible exact Pick.here | apply Pick.there)) (by rfl)), ?_⟩
        have hv : i < (l.map Ev.v).length := by simpa using hi
        refine ⟨by omega, by omega, RdC.mp (Own.rdP h (by repeat (first | with_reducible exact Pick.here | apply Pick.there))) hv fun ad had => ⟨_, by rw [Int.toNat_natCast]; exact had, fun hz => ?_, fun hz => ?_⟩⟩
        · refine ⟨_, (Own.ld h (by repeat (first | with_reducible exact Pick.here | apply Pick.there)) (by rfl)), ?_⟩
          refine Rets.mono (evKnown_spec h) ?_
          rintro _ w ⟨rfl, h⟩
          have hk := hkn l[i] (List.getElem_mem hi)
          rw [hk]
          refine ⟨_, rfl, fun hu => (by cases hu), fun _ => ⟨_, (Own.ld' h (by repeat (first | with_reducible exact Pick.here | apply Pick.there)) (by rfl)), Own.stP' h (by repeat (first | with_reducible exact Pick.here | apply Pick.there)) (by simp) (by simp [Value.oneCell']) fun w h => ?_⟩⟩
          simp only [setFrom, List.set_cons_zero, List.set_cons_succ, List.set_nil] at h
          refine Own.finT (l := lp) (L := L) (Own.pk h (by repeat (first | with_reducible exact Pick.here | apply Pick.there))) fun w h => .inl ⟨rfl, ?_⟩
          rw [wI64 (by omega) (by omega)] at h
          have h : Own W w (blk g5 3 [.int .i64 ((i : Int) + 1)] :: _) := (Own.pk h (by repeat (first | with_reducible exact Pick.here | apply Pick.there)))
          have h : Own W w (blk g5 3 [.int .i64 ((i + 1 : Nat) : Int)] :: _) := h
          exact (Own.sub (h) (by repeat (first | exact Sub.nil _ | exact Sub.rfl _ | (apply Sub.cons; focus ((repeat (first | with_reducible exact Pick.here | apply Pick.there)); done)) | apply Sub.drop)))
        · simp at hz
      · rintro v w (h | h)
        · left
          refine Own.endR (l := lp) (L := L) (Own.pk h (by repeat (first | with_reducible exact Pick.here | apply Pick.there))) (by simp) fun w h => ?_
          refine Rets.mono (evNAt h) ?_
          rintro _ w ⟨rfl, h⟩
          refine ⟨_, _, _, _, _, _, rfl, h.newR fun g7 w h => Own.stP' h (by repeat (first | with_reducible exact Pick.here | apply Pick.there)) (by simp) (by simp [Value.oneCell']) fun w h => ?_⟩
          simp only [setFrom, List.set_cons_zero, List.set_cons_succ, List.set_nil] at h
          refine ⟨_, (Own.ld' h (by repeat (first | with_reducible exact Pick.here | apply Pick.there)) (by rfl)), _, _, _, (Own.ld' h (by repeat (first | with_reducible exact Pick.here | apply Pick.there)) (by rfl)), fun _ => ⟨fun _ => ?_, fun hx => (by cases hx)⟩, fun hx => absurd rfl (beq_f hx)⟩
          refine Rets.mono (evNAdd (x := ⟨1, 0, 0, 0, 0⟩) h) ?_
          rintro _ w ⟨rfl, h⟩
          refine ⟨_, rfl, fun _ => ?_, fun hx => (by cases hx)⟩
          refine Rets.mono (evNLen h) ?_
          rintro _ w ⟨rfl, h⟩
          refine ⟨_, rfl, ?_⟩
          refine Rets.mono (evNCount h) ?_
          rintro _ w ⟨rfl, h⟩
          refine ⟨_, rfl, ?_⟩
          refine Rets.mono (evNRemoved h) ?_
          rintro _ w ⟨rfl, h⟩
          refine ⟨_, rfl, fun _ => ?_, fun hx => absurd hx (by decide)⟩
          refine Rets.mono (evAwake h) ?_
          rintro _ w ⟨rfl, h⟩
          refine ⟨_, rfl, Own.stP' h (by repeat (first | with_reducible exact Pick.here | apply Pick.there)) (by simp) (by simp [Value.oneCell']) fun w h => ?_⟩
          simp only [setFrom, List.set_cons_zero, List.set_cons_succ, List.set_nil] at h
          exact Own.markR (g := mk) (Own.pk h (by repeat (first | with_reducible exact Pick.here | apply Pick.there))) fun w h => ⟨_, (Own.ld' h (by repeat (first | with_reducible exact Pick.here | apply Pick.there)) (by rfl)), rfl, (Own.sub (h) (by repeat (first | exact Sub.nil _ | exact Sub.rfl _ | (apply Sub.cons; focus ((repeat (first | with_reducible exact Pick.here | apply Pick.there)); done)) | apply Sub.drop)))⟩
        · exact h.elim
  · refine Rets.mono (evAwake h) ?_
    rintro _ w ⟨rfl, h⟩
    exact ⟨_, rfl, Own.stP' h (by repeat (first | with_reducible exact Pick.here | apply Pick.there)) (by simp) (by simp [Value.oneCell']) fun w h => ⟨_, (Own.ld' h (by repeat (first | with_reducible exact Pick.here | apply Pick.there)) (by rfl)), rfl, (Own.sub (h) (by repeat (first | exact Sub.nil _ | exact Sub.rfl _ | (apply Sub.cons; focus ((repeat (first | with_reducible exact Pick.here | apply Pick.there)); done)) | apply Sub.drop)))⟩⟩
end
end Go.Proofs.Ytmenjjofmafacaa.Eng
