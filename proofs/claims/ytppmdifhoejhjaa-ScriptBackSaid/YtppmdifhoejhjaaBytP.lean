/- Slices of bytes: behind one another; copies. -/
import Derived.Test.YtppmdifhoejhjaaEngT
import Derived.Test.YtppmdifhoejhjaaBytG
namespace Go.Proofs.Ytppmdifhoejhjaa.Eng
open Go Go.RowKit Go.Proofs
set_option linter.unusedVariables false
set_option linter.unusedSimpArgs false
set_option maxRecDepth 1000000

abbrev byB (q : Option Addr) (n c : Nat) (bs : List Int) : HP := slO 5 1 q n c (cs .u8 bs)
section
variable {e w : World} {F : List HP} {q q2 : Option Addr} {n c m c2 : Nat} {xs ys bs : List Int}
theorem app8 {k : Value → World → Prop} (h : Own e w (byB q n c xs :: F)) (hr : RdC w q2 (cs .u8 ys)) (hl : ys.length = m) (hn : n + m ≤ 1000000)
    (hk : ∀ q' c' w', Own e w' (byB q' (n + m) c' (xs ++ ys) :: F) → k (.slice q' (n + m) c') w') :
    RunR Try.prog (builtinV .append #[35, 35] 35 #[.slice q n c, .slice q2 m c2]) w k := by
  refine Own.append (z := [.int .u8 0]) (b := 1) (news := cs .u8 ys) h (by kernel_rfl) (by kernel_rfl) (by kernel_rfl) (by kernel_rfl) (by kernel_rfl) (by omega) hr ?_ (cs_one _ _) ?_ (by omega) ?_
  · rw [cs_len, hl]; omega
  · unfold maxLen; omega
  · intro q' c' w' h _
    rw [← cs_app] at h
    exact hk q' c' w' h
theorem Clone_spec (h : Own e w F) (hr : ∀ w, Own e w F → RdC w q (cs .u8 bs)) (hn : bs.length ≤ 1000000) :
    Rets Try.prog 49 #[.slice q bs.length c] w fun v w' => ∃ q' c', v = .slice q' bs.length c' ∧ Own e w' (byB q' bs.length c' bs :: F) := by
  refine slices_Clone_byte_byte_go _ _ _ ?_
  refine ⟨fun hc => ?_, fun hc => ?_⟩
  · cases q with
    | some a => cases hc
    | none =>
      have hb : bs = [] := by
        rcases hr w h with hr | ⟨a, ha, _⟩
        · simpa [cs] using hr
        · cases ha
      subst hb
      exact ⟨_, _, rfl, h.slNil⟩
  · refine h.newR fun g w1 h => ?_
    have h0 : Own e w1 (byB (some ⟨g, 0, none⟩) 0 0 [] :: F) := Own.slMk (rest := []) (by rfl) (by omega) (by omega) (by rfl) h
    refine app8 h0 (hr _ h.drop) rfl (by omega) fun q' c' w' h => ?_
    rw [List.nil_append] at h
    simp only [Nat.zero_add] at h ⊢
    exact ⟨_, _, _, rfl, _, _, rfl, h⟩
theorem put8 {k : Value → World → Prop} {a : Addr} {ys : List Int} {g : Nat} (h : Own e w (blk g 5 (cs .u8 ys) :: byB q n c xs :: F)) (hl : ys.length = m) (hn : n + m ≤ 1000000)
    (hk : ∀ q' c' w', Own e w' (byB q' (n + m) c' (xs ++ ys) :: F) → k (.slice q' (n + m) c') w') :
    RunR Try.prog (builtinV .append #[35, 35] 35 #[.slice q n c, .slice (some ⟨g, 0, none⟩) m c2]) w k :=
  app8 h.swap h.blkRd hl hn fun q' c' w' h => hk q' c' w' h.swap.drop
end
end Go.Proofs.Ytppmdifhoejhjaa.Eng
