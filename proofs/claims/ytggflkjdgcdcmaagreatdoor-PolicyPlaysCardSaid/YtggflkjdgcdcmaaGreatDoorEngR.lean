/- Ranges over functions, owned. -/
import Derived.Test.YtggflkjdgcdcmaaGreatDoorEngL
namespace Go.Proofs.YtggflkjdgcdcmaaGreatDoor.Eng
open Go Go.RowKit
set_option linter.unusedVariables false
section
variable {e w : World} {F : List HP} {l g : Nat} {L : Loop} {o : Obj}
theorem Own.put (h : Own e w (pt g o :: F)) (o' : Obj) : Own e (w.putObj g o') (pt g o' :: F) := by
  have hg := h.lt
  refine h.step ⟨rfl, rfl, rfl⟩ fun h1 hA hsub => ⟨one g o', one_self _ _, one_sub (World.putObj_heap_same hg), fun b hb => ?_, fun b hb hlt => ?_⟩
  · rw [one_ne hb]; left; rw [show h1 g = some _ from hA]; simp
  · refine World.putObj_heap_other ?_
    intro e; subst e; rw [show h1 b = some _ from hA] at hb; cases hb
theorem Own.markR {k : World → Prop} (h : Own e w (pt g (.deferred (some [])) :: F)) (hk : ∀ w', Own e w' F → k w') : MarkR g w k := ⟨h.get, hk _ (h.put _).drop⟩
end
theorem Own.marksR {e : World} {F : List HP} {k : World → Prop} : ∀ (ms : List Nat) {w : World}, Own e w (ms.map (fun r => pt r (.deferred (some []))) ++ F) → (∀ w', Own e w' F → k w') → marksR ms w k
  | [], w, h, hk => hk w h
  | r :: ms, w, h, hk => Own.markR (g := r) h fun w' h' => Own.marksR ms h' hk
theorem RoundR.mono {P : Program} {l : Nat} {args : Array Value} {w : World} {k k' : Value → World → Prop} (h : RoundR P l args w k) (hk : ∀ v w', k v w' → k' v w') : RoundR P l args w k' := by
  obtain ⟨fn, tmps, asg, body, hy, hR⟩ := h
  refine ⟨fn, tmps, asg, body, hy, hR.mono fun e w' he => ?_⟩
  cases e with
  | returned v => exact hk v w' he
  | panicked c => exact he
  | outgrown => exact he
/-! ### The parts in another order, some let go -/
inductive Pick : List HP → HP → List HP → Prop
  | here {A : HP} {l : List HP} : Pick (A :: l) A l
  | there {A B : HP} {l l' : List HP} : Pick l A l' → Pick (B :: l) A (B :: l')
inductive Sub : List HP → List HP → Prop
  | nil (l : List HP) : Sub l []
  | rfl (l : List HP) : Sub l l
  | cons {A : HP} {l l' G : List HP} : Pick l A l' → Sub l' G → Sub l (A :: G)
  | drop {B : HP} {l G : List HP} : Sub l G → Sub (B :: l) G
theorem Pick.sep {l l' : List HP} {A : HP} (h : Pick l A l') : ∀ {k : Nat → Option Obj}, allH l k → sepH A (allH l') k := by
  induction h with
  | here => intro k hk; exact hk
  | @there A B l l' _ ih =>
    intro k hk
    exact sepH_swap (sepH_mono (show sepH B (allH l) k from hk) (fun _ h => h) (fun _ h => ih h))
theorem Sub.keep {l G : List HP} (h : Sub l G) : ∀ {k : Nat → Option Obj}, allH l k → ∃ k', (∀ b o, k' b = some o → k b = some o) ∧ allH G k' := by
  induction h with
  | nil l => intro k hk; exact ⟨k, fun _ _ h => h, trivial⟩
  | rfl l => intro k hk; exact ⟨k, fun _ _ h => h, hk⟩
  | @cons A l l' G hp _ ih =>
    intro k hk
    obtain ⟨h1, h2, ha, rfl, hA, hF⟩ := hp.sep hk
    obtain ⟨k2, hs, hG⟩ := ih hF
    have ha' : Apart h1 k2 := fun b => by
      rcases ha b with h | h
      · exact .inl h
      · right
        cases hk2 : k2 b with
        | none => rfl
        | some o => rw [hs b o hk2] at h; cases h
    refine ⟨joinH h1 k2, fun b o hb => ?_, h1, k2, ha', Eq.refl _, hA, hG⟩
    rcases joinH_some hb with h | ⟨_, h⟩
    · exact joinH_left h
    · exact joinH_right ha (hs b o h)
  | @drop B l G _ ih =>
    intro k hk
    obtain ⟨h1, h2, ha, rfl, hA, hF⟩ := (show sepH B (allH l) k from hk)
    obtain ⟨k2, hs, hG⟩ := ih hF
    exact ⟨k2, fun b o hb => joinH_right ha (hs b o hb), hG⟩
theorem Own.sub {e w : World} {l G : List HP} (h : Own e w l) (hs : Sub l G) : Own e w G := by
  obtain ⟨he, k, hk, ha⟩ := h
  obtain ⟨k', h1, h2⟩ := hs.keep ha
  exact ⟨he, k', fun b o hb => hk b o (h1 b o hb), h2⟩
/-! ### More on slices that are owned -/
theorem setFrom_full : ∀ (us xs pre : List Value), us.length = xs.length → setFrom (pre ++ xs) pre.length us = pre ++ us
  | [], [], pre, _ => by simp [setFrom]
  | [], x :: xs, pre, h => by cases h
  | u :: us, [], pre, h => by cases h
  | u :: us, x :: xs, pre, h => by
    unfold setFrom
    have e1 : (pre ++ x :: xs).set pre.length u = (pre ++ [u]) ++ xs := by simp
    rw [e1]
    have := setFrom_full us xs (pre ++ [u]) (by simpa using h)
    rw [List.length_append] at this
    simpa using this
section
variable {e w : World} {F : List HP} {T : TypeId} {s : Nat} {q : Option Addr} {n c : Nat} {xs : List Value}
theorem Own.clear {P : Program} {t ty : TypeId} {z : Value} {k : Value → World → Prop} (h : Own e w (slO T 1 q n c xs :: F)) (ht : P.underlying t = some (.slice T)) (hz : zeroL P T = some [z]) (h1 : z.oneCell' = true)
    (hk : ∀ w', Own e w' (slO T 1 q n c (List.replicate n z) :: F) → k (.tuple #[]) w') : RunR P (builtinV .clear #[t] ty #[.slice q n c]) w k := by
  obtain ⟨hf1, hf2, hf3⟩ := h.slFacts
  show RunR P (Builtin.clear_ #[t] ty #[.slice q n c]) w k
  rcases Nat.eq_zero_or_pos n with h0 | h0
  · subst h0
    obtain rfl : xs = [] := List.eq_nil_of_length_eq_zero (by simpa using hf1)
    refine ⟨.tuple #[], w, ?_, hk w (by simpa using h)⟩
    cases q <;> simp [Builtin.clear_, run_underlying ht]
  · have hst := h.slStore (i := 0) (us := List.replicate n z) (K := fun w' => Own e w' (slO T 1 q n c (List.replicate n z) :: F)) (by simp; omega) (by cases n with | zero => omega | succ n => simp [List.replicate_succ]) (fun u hu => by rw [List.eq_of_mem_replicate hu]; exact h1)
      (fun w' h' => by
        have := setFrom_full (List.replicate n z) xs [] (by simp; omega)
        simp only [List.nil_append, List.length_nil] at this
        rw [this] at h'; exact h')
    unfold someR at hst
    split at hst <;> try exact hst.elim
    rename_i a
    obtain ⟨hc, h1', hK⟩ := hst
    obtain ⟨zv, hzv, hze⟩ := zero_SV hz
    have a0 : a.add 0 = a := by simp [Addr.add]
    rw [a0] at hc hK
    have hrun := setCells_run (P := P) (List.replicate n z) a 0 w (fun j hj => by simpa using hc j hj) h1'
    refine ⟨.tuple #[], _, ?_, hk _ hK⟩
    have hzc : (Builtin.zeroCells zv.cells n).toList = List.replicate n z := by
      have : zv.cells = #[z] := by
        apply Array.toList_inj.1
        rw [cellsL_eq, hze]
      rw [this]
      simp [Builtin.zeroCells]
      apply List.ext_getElem
      · simp
      · intro i h1 h2
        simp [Nat.mod_one]
    have h0' : n ≠ 0 := by omega
    simp [Builtin.clear_, run_underlying ht, h0', Sem.run_bind, hzv w, Result.andThen, hzc, hrun]
end
end Go.Proofs.YtggflkjdgcdcmaaGreatDoor.Eng
