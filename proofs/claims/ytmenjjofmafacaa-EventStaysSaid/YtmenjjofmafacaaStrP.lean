/- Slices of strings: behind one another. -/
import Derived.Test.YtmenjjofmafacaaEngU
import Derived.Test.YtmenjjofmafacaaBase
namespace Go.Proofs.Ytmenjjofmafacaa.Eng
open Go Go.RowKit Go.Proofs
set_option linter.unusedVariables false
set_option linter.unusedSimpArgs false
set_option maxRecDepth 1000000
abbrev stB (q : Option Addr) (n c : Nat) (xs : List ByteArray) : HP := slO 9 1 q n c (xs.map Value.string)
section
variable {e w : World} {F : List HP} {q q2 : Option Addr} {n c m c2 : Nat} {xs ys : List ByteArray}
theorem appStr {k : Value → World → Prop} (h : Own e w (stB q n c xs :: F)) (hr : RdC w q2 (ys.map Value.string)) (hl : ys.length = m) (hn : n + m ≤ 1000000)
    (hk : ∀ q' c' w', Own e w' (stB q' (n + m) c' (xs ++ ys) :: F) → k (.slice q' (n + m) c') w') :
    RunR Try.prog (builtinV .append #[44, 44] 44 #[.slice q n c, .slice q2 m c2]) w k := by
  refine Own.append (z := [.string ⟨#[]⟩]) (b := 16) (news := ys.map Value.string) h (by kernel_rfl) (by kernel_rfl) (by kernel_rfl) (by kernel_rfl) (by kernel_rfl) (by omega) hr ?_ (fun u hu => ?_) ?_ (by omega) ?_
  · rw [List.length_map, hl]; omega
  · obtain ⟨x, _, rfl⟩ := List.mem_map.1 hu; rfl
  · unfold maxLen; omega
  · intro q' c' w' h _
    rw [← List.map_append] at h
    exact hk q' c' w' h
theorem putStr {k : Value → World → Prop} {g : Nat} {y : ByteArray} (h : Own e w (blk g 9 [.string y] :: stB q n c xs :: F)) (hn : n + 1 ≤ 1000000)
    (hk : ∀ q' c' w', Own e w' (stB q' (n + 1) c' (xs ++ [y]) :: F) → k (.slice q' (n + 1) c') w') :
    RunR Try.prog (builtinV .append #[44, 44] 44 #[.slice q n c, .slice (some ⟨g, 0, none⟩) 1 c2]) w k :=
  appStr (ys := [y]) h.swap h.blkRd rfl hn fun q' c' w' h => hk q' c' w' h.swap.drop
end
end Go.Proofs.Ytmenjjofmafacaa.Eng
