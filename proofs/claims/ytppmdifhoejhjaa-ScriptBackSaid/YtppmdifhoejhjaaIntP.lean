/- Slices of int: behind one another. -/
import Derived.Test.YtppmdifhoejhjaaEngT
import Derived.Test.YtppmdifhoejhjaaBase
namespace Go.Proofs.Ytppmdifhoejhjaa.Eng
open Go Go.RowKit Go.Proofs
set_option linter.unusedVariables false
set_option linter.unusedSimpArgs false
set_option maxRecDepth 1000000
abbrev inB (q : Option Addr) (n c : Nat) (xs : List Int) : HP := slO 3 1 q n c (cs .i64 xs)
section
variable {e w : World} {F : List HP} {q q2 : Option Addr} {n c m c2 : Nat} {xs ys : List Int}
theorem app64 {k : Value → World → Prop} (h : Own e w (inB q n c xs :: F)) (hr : RdC w q2 (cs .i64 ys)) (hl : ys.length = m) (hn : (n + m) * 8 ≤ 140737488355328)
    (hk : ∀ q' c' w', Own e w' (inB q' (n + m) c' (xs ++ ys) :: F) → k (.slice q' (n + m) c') w') :
    RunR Try.prog (builtinV .append #[25, 25] 25 #[.slice q n c, .slice q2 m c2]) w k := by
  refine Own.append (z := [.int .i64 0]) (b := 8) (news := cs .i64 ys) h (by kernel_rfl) (by kernel_rfl) (by kernel_rfl) (by kernel_rfl) (by kernel_rfl) (by omega) hr ?_ (cs_one _ _) ?_ (by omega) ?_
  · rw [cs_len, hl]; omega
  · unfold maxLen; omega
  · intro q' c' w' h _
    rw [← cs_app] at h
    exact hk q' c' w' h
theorem put64 {k : Value → World → Prop} {g : Nat} (h : Own e w (blk g 3 (cs .i64 ys) :: inB q n c xs :: F)) (hl : ys.length = m) (hn : n + m ≤ 1000000)
    (hk : ∀ q' c' w', Own e w' (inB q' (n + m) c' (xs ++ ys) :: F) → k (.slice q' (n + m) c') w') :
    RunR Try.prog (builtinV .append #[25, 25] 25 #[.slice q n c, .slice (some ⟨g, 0, none⟩) m c2]) w k :=
  app64 h.swap h.blkRd hl (by omega) fun q' c' w' h => hk q' c' w' h.swap.drop
/-- An empty one. -/
theorem empty64 {g : Nat} (h : Own e w (blk g 3 [] :: F)) : Own e w (inB (some ⟨g, 0, none⟩) 0 0 [] :: F) := Own.slMk (rest := []) (by rfl) (by omega) (by omega) (by rfl) h
end
end Go.Proofs.Ytppmdifhoejhjaa.Eng
