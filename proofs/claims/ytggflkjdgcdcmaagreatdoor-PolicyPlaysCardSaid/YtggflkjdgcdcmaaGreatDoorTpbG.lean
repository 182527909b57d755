/- What the code of these functions asks for: printed by a program of this session's (gens.py) out of the seat's own functions; the kernel checks each row. -/
import Derived.Test.YtggflkjdgcdcmaaGreatDoorEngH
import Derived.Test.YtggflkjdgcdcmaaGreatDoorProg
import Derived.Test.YtggflkjdgcdcmaaGreatDoorBase
namespace Go.Proofs.YtggflkjdgcdcmaaGreatDoor.Eng
open Go Go.Proofs
set_option linter.unusedVariables false
set_option maxRecDepth 1000000
def sketch_Sketch_Clear_m (g : Nat) (w : World) (K : Value → World → Prop) : Prop :=
  (false = true → K (Value.tuple { toList := [] }) w) ∧
  (false = false →
  ∃ (q1 : Option Addr),
  ∃ (q2 : Option Addr),
  ∃ (q3 : Option Addr),
  ∃ (q4 : Option Addr),
  (cellAt w (Addr.add (Addr.add { block := g, off := (0 : Nat) } (0 : Nat)) (0 : Nat)) (Value.pointer q1) ∧
  cellAt w (Addr.add (Addr.add { block := g, off := (0 : Nat) } (0 : Nat)) (1 : Nat)) (Value.pointer q2) ∧
  cellAt w (Addr.add (Addr.add { block := g, off := (0 : Nat) } (0 : Nat)) (2 : Nat)) (Value.pointer q3) ∧
  cellAt w (Addr.add (Addr.add { block := g, off := (0 : Nat) } (0 : Nat)) (3 : Nat)) (Value.pointer q4)) ∧
  ∃ (h1 : Nat → List Value → World → Prop),
  (∃ (k1 : Nat), h1 k1 [Value.int IntKind.i64 (0 : Int)] w) ∧
  ∀ (k2 : Nat) (w1 : World) (v1 : Value) (n1 : Int) (v2 v3 v4 v5 v6 : Value),
  h1 k2 [Value.int IntKind.i64 n1] w1 →
  (decide (n1 < (4 : Int)) = true →
  (0 : Int) ≤ n1 ∧
  n1 < (↑(4 : Nat) : Int) ∧
  ∃ (q5 : Option Addr),
  List.get?Internal (Array.toList { toList := [Value.pointer q1, Value.pointer q2, Value.pointer q3, Value.pointer q4] })
  (Int.toNat n1) =
  some (Value.pointer q5) ∧
  Rets Tryz.prog (114 : Nat) { toList := [Value.pointer q5] } w1 fun (v7 : Value) (w2 : World) =>
  v7 = Value.tuple { toList := [] } ∧
  ∃ (k3 : Nat), k3 < k2 ∧ h1 k3 [Value.int IntKind.i64 (IntKind.wrap IntKind.i64 (n1 + (1 : Int)))] w2) ∧
  (decide (n1 < (4 : Int)) = false → K (Value.tuple { toList := [] }) w1))
theorem sketch_Sketch_Clear_eq (g : Nat) (w : World) (K : Value → World → Prop) : fw Tryz.prog Tryz.f87 (annL [(2, [(3, none), (10, some 3), (11, none), (12, none), (13, none), (14, none), (15, none)])]) (ordL []) [.pointer (some ⟨g, 0, none⟩)] w K = sketch_Sketch_Clear_m g w K := by kernel_rfl
theorem sketch_Sketch_Clear_go (g : Nat) {w : World} {K : Value → World → Prop} (h : sketch_Sketch_Clear_m g w K) : Rets Tryz.prog 87 #[.pointer (some ⟨g, 0, none⟩)] w K :=
  calls_of_fw plain mixed Tryz.func87 (by kernel_rfl) (by rw [sketch_Sketch_Clear_eq]; exact h)
def tiny_Tiny_Clear_m (g : Nat) (w : World) (K : Value → World → Prop) : Prop :=
  (false = true → K (Value.tuple { toList := [] }) w) ∧
  (false = false →
  ∃ (q1 : Option Addr),
  cellAt w (Addr.add (Addr.add { block := g, off := (0 : Nat) } (0 : Nat)) (0 : Nat)) (Value.pointer q1) ∧
  Rets Tryz.prog (87 : Nat) { toList := [Value.pointer q1] } w fun (v1 : Value) (w1 : World) =>
  v1 = Value.tuple { toList := [] } ∧
  ∃ (q2 : Option Addr),
  cellAt w1 (Addr.add (Addr.add { block := g, off := (0 : Nat) } (0 : Nat)) (1 : Nat)) (Value.pointer q2) ∧
  Rets Tryz.prog (88 : Nat) { toList := [Value.pointer q2] } w1 fun (v2 : Value) (w2 : World) =>
  v2 = Value.tuple { toList := [] } ∧
  StoreR (Addr.add { block := g, off := (0 : Nat) } (2 : Nat)) [Value.int IntKind.i64 (0 : Int)] w2 fun (w3 : World) =>
  StoreR (Addr.add { block := g, off := (0 : Nat) } (4 : Nat)) [Value.int IntKind.i64 (0 : Int)] w3 fun (w4 : World) =>
  K (Value.tuple { toList := [] }) w4)
theorem tiny_Tiny_Clear_eq (g : Nat) (w : World) (K : Value → World → Prop) : fw Tryz.prog Tryz.f61 (annL []) (ordL []) [.pointer (some ⟨g, 0, none⟩)] w K = tiny_Tiny_Clear_m g w K := by kernel_rfl
theorem tiny_Tiny_Clear_go (g : Nat) {w : World} {K : Value → World → Prop} (h : tiny_Tiny_Clear_m g w K) : Rets Tryz.prog 61 #[.pointer (some ⟨g, 0, none⟩)] w K :=
  calls_of_fw plain mixed Tryz.func61 (by kernel_rfl) (by rw [tiny_Tiny_Clear_eq]; exact h)
end Go.Proofs.YtggflkjdgcdcmaaGreatDoor.Eng
