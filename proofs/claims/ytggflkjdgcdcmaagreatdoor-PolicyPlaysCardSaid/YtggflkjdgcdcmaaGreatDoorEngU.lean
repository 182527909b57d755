/- Parts found by themselves among those that a call owns. -/
import Derived.Test.YtggflkjdgcdcmaaGreatDoorEngT
import Derived.DeepKeys
import Derived.Laws.StructEq
namespace Go.Proofs.YtggflkjdgcdcmaaGreatDoor.Eng
open Go Go.RowKit
set_option linter.unusedVariables false
set_option linter.unusedSimpArgs false
section
variable {e w : World} {L R R2 R3 : List HP} {A B C : HP}
theorem Own.pk (h : Own e w L) (hp : Pick L A R) : Own e w (A :: R) := by
  obtain ⟨he, k, hk, ha⟩ := h
  exact ⟨he, k, hk, hp.sep ha⟩
/-- A cell of a block. -/
theorem Own.ld {g k : Nat} {T : TypeId} {vs : List Value} {v : Value} (h : Own e w L) (hp : Pick L (blk g T vs) R) (hv : vs[k]? = some v) : cellAt w ((⟨g, 0, none⟩ : Addr).add k) v := (h.pk hp).cellAdd k hv
theorem Own.stP {g k : Nat} {T : TypeId} {vs us : List Value} {K : World → Prop} (h : Own e w L) (hp : Pick L (blk g T vs) R) (hfit : k + us.length ≤ vs.length) (h1 : ∀ u ∈ us, u.oneCell' = true)
    (hk : ∀ w', Own e w' (blk g T (setFrom vs k us) :: R) → K w') : StoreR ((⟨g, 0, none⟩ : Addr).add k) us w K := (h.pk hp).store hfit h1 hk
theorem Own.stP' {g : Nat} {T : TypeId} {vs us : List Value} {K : World → Prop} (h : Own e w L) (hp : Pick L (blk g T vs) R) (hfit : us.length ≤ vs.length) (h1 : ∀ u ∈ us, u.oneCell' = true)
    (hk : ∀ w', Own e w' (blk g T (setFrom vs 0 us) :: R) → K w') : StoreR (⟨g, 0, none⟩ : Addr) us w K := by
  have := (h.pk hp).store (k := 0) (us := us) (K := K) (by omega) h1 hk
  exact this
theorem Own.rdP {T : TypeId} {s : Nat} {q : Option Addr} {n c : Nat} {xs : List Value} (h : Own e w L) (hp : Pick L (slO T s q n c xs) R) : RdC w q xs := (h.pk hp).slRd
end
/-- An element of a slice of values of one cell. -/
theorem RdC.mp {α : Type} {f : α → Value} {w : World} {q : Option Addr} {l : List α} (h : RdC w q (l.map f)) {i : Nat} (hi : i < l.length) {k : Addr → Prop} (hk : ∀ a, cellAt w (a.add (i * 1)) (f l[i]) → k a) : someR q k :=
  h.elem (u := f l[i]) (by simp [hi]) hk
theorem zrep_one (z : Value) (n : Nat) : zrep [z] n = List.replicate n z := by
  unfold zrep
  apply List.ext_getElem
  · simp
  · intro i h1 h2
    simp [Nat.mod_one, nth]
/-! ### Records held against each other -/
/-! ### Copies; in place -/
section
variable {e w : World} {F : List HP} {T : TypeId} {q q2 : Option Addr} {n c m c2 : Nat} {xs news : List Value}
theorem Own.copy {P : Program} {dT ty elem : TypeId} {k : Value → World → Prop} (h : Own e w (slO T 1 q n c xs :: F)) (hu : P.underlying dT = some (.slice elem)) (hs : (P.info? elem).map (·.size) = some 1)
    (hsrc : RdC w q2 news) (hl : news.length = m) (hmn : m ≤ n) (hn0 : 0 < n) (h1 : ∀ v ∈ news, v.oneCell' = true)
    (hk : ∀ w', Own e w' (slO T 1 q n c (news ++ xs.drop m) :: F) → k (.int .i64 (m : Nat)) w') : RunR P (builtinV .copy #[dT, dT] ty #[.slice q n c, .slice q2 m c2]) w k := by
  obtain ⟨hf1, hf2, hf3⟩ := h.slFacts
  rw [Nat.mul_one] at hf1
  show RunR P (Builtin.copy_ #[dT, dT] ty #[.slice q n c, .slice q2 m c2]) w k
  rcases h.slCases with ⟨_, _, h0, _⟩ | ⟨g, rest, rfl, hlr, hB⟩
  · omega
  cases q2 with
  | none =>
    have hn : news = [] := by
      rcases hsrc with h | ⟨a, ha, _⟩
      · exact h
      · cases ha
    subst hn
    obtain rfl : m = 0 := hl.symm
    refine ⟨_, _, ?_, hk w (by simpa using h)⟩
    cases hq : P.info? elem with
    | none => simp [hq] at hs
    | some i =>
      have : Nat.min 0 n = 0 := by simp
      simp [Builtin.copy_, run_underlying hu, Builtin.lenOf, Builtin.firstCells, sizeOf, typeInfo, hq, storeCells, this, goInt]
  | some a =>
    have hsr : ∀ j v, news[j]? = some v → w.cell? (a.add j) = some v := fun j v hj => by
      obtain ⟨a', ha', hc⟩ := hsrc.addr hj
      cases ha'
      exact hc j v hj
    have hmin : news.length = Nat.min m n := by rw [hl]; exact (Nat.min_eq_left hmn).symm
    have hrun := run_copy_row P w dT dT ty elem g 0 n c a m c2 (xs ++ rest).toArray T news hu hs hB.get hmin hsr (by simp; omega) h1
    have hm : (goInt (news.length : Nat)) = .int .i64 (m : Nat) := by rw [hl]; rfl
    rw [hm] at hrun
    refine ⟨_, _, hrun, hk _ ?_⟩
    have ecs : ((xs ++ rest).toArray.toList.take 0 ++ news ++ (xs ++ rest).toArray.toList.drop (0 + news.length)) = (news ++ xs.drop m) ++ rest := by
      rw [hl, Nat.zero_add]
      simp only [List.take_zero, List.nil_append]
      rw [List.drop_append_of_le_length (by omega), List.append_assoc]
    rw [ecs]
    refine Own.slMk (rest := rest) (by simp; omega) hf2 hf3 (by simp at hlr ⊢; omega) ?_
    refine hB.step ⟨rfl, rfl, rfl⟩ fun h1 hA hsub => ⟨one g _, one_self _ _, one_sub ?_, fun b hb => ?_, fun b hb hlt => ?_⟩
    · rw [setRow_heap w g _ _ T _ (hsub g _ hA)]
    · rw [one_ne hb]; left; rw [show h1 g = some _ from hA]; simp
    · refine setRow_other w g b _ ?_
      intro e; subst e; rw [show h1 b = some _ from hA] at hb; cases hb
end
/-! ### Ways that go on alike -/
theorem EndR.mono {l : Nat} {L : Loop} {p : Option Code} {w : World} {k k' : World → Prop} (h : EndR l L p w k) (hk : ∀ w, k w → k' w) : EndR l L p w k' := by
  obtain ⟨s, h1, h2, h3⟩ := h
  exact ⟨s, h1, h2, hk _ h3⟩
/-! ### What stays for ever, shared -/
def imm (h0 : Nat → Option Obj) : HP := fun h => ∀ b o, h0 b = some o → h b = some o
abbrev LeH (h0 h1 : Nat → Option Obj) : Prop := ∀ b o, h0 b = some o → h1 b = some o
section
variable {e w : World} {F : List HP} {h0 h1 : Nat → Option Obj}
theorem snap_imm (W : World) : snap W = imm (fun b => W.heap[b]?) := rfl
theorem Own.absorb {g : Nat} {o : Obj} (h : Own e w (pt g o :: imm h0 :: F)) : ∃ h1, LeH h0 h1 ∧ h1 g = some o ∧ Own e w (imm h1 :: F) := by
  obtain ⟨he, k, hk, k1, k2, ha, rfl, hA, k3, k4, ha2, rfl, hB, hF⟩ := h
  have a13 : Apart k1 k3 := fun b => (ha b).imp id fun h => (joinH_none_iff h).1
  have hg : h0 g = none := by
    cases hg : h0 g with
    | none => rfl
    | some o' =>
      rcases a13 g with h | h
      · rw [show k1 g = some o from hA] at h; cases h
      · rw [hB g o' hg] at h; cases h
  refine ⟨fun b => if b = g then some o else h0 b, fun b o' hb => ?_, by simp, he, joinH k1 (joinH k3 k4), hk, joinH k1 k3, k4, fun b => ?_, joinH_assoc _ _ _, fun b o' hb => ?_, hF⟩
  · show (if b = g then some o else h0 b) = some o'
    split
    · rename_i e; subst e; rw [hg] at hb; cases hb
    · exact hb
  · rcases ha b with h | h
    · rcases ha2 b with h' | h'
      · exact .inl (joinH_none h h')
      · exact .inr h'
    · exact .inr (joinH_none_iff h).2
  · dsimp only at hb
    split at hb
    · rename_i e; subst e; cases hb; exact joinH_left hA
    · exact joinH_right a13 (hB b o' hb)
theorem Own.immLe (h : Own e w (imm h1 :: F)) (hl : LeH h0 h1) : Own e w (imm h0 :: F) := h.mono fun k hk b o hb => hk b o (hl b o hb)
theorem Own.immGet (h : Own e w (imm h0 :: F)) {b : Nat} {o : Obj} (hb : h0 b = some o) : w.heap[b]? = some o := by
  obtain ⟨he, k, hk, k1, k2, ha, rfl, hA, hF⟩ := h
  exact hk b o (joinH_left (hA b o hb))
theorem Own.immCell (h : Own e w (imm h0 :: F)) {g i : Nat} {T : TypeId} {vs : List Value} {v : Value} (hb : h0 g = some (.cells vs.toArray T (0, 0))) (hv : vs[i]? = some v) : cellAt w ((⟨g, 0, none⟩ : Addr).add i) v := by
  have := h.immGet hb
  unfold cellAt
  rw [add0]
  simp [World.cell?, this, hv]
theorem LeH.refl (h : Nat → Option Obj) : LeH h h := fun _ _ h => h
theorem LeH.trans {a b c : Nat → Option Obj} (h1 : LeH a b) (h2 : LeH b c) : LeH a c := fun x o h => h2 x o (h1 x o h)
end
end Go.Proofs.YtggflkjdgcdcmaaGreatDoor.Eng
