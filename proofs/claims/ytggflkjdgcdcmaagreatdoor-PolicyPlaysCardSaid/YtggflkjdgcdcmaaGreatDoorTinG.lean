/- What the code of these functions asks for: printed by a program of this session's (gens.py) out of the seat's own functions; the kernel checks each row. -/
import Derived.Test.YtggflkjdgcdcmaaGreatDoorEngH
import Derived.Test.YtggflkjdgcdcmaaGreatDoorProg
import Derived.Test.YtggflkjdgcdcmaaGreatDoorBase
namespace Go.Proofs.YtggflkjdgcdcmaaGreatDoor.Eng
open Go Go.Proofs
set_option linter.unusedVariables false
set_option maxRecDepth 1000000
def tiny_New_m (n s : Int) (w : World) (K : Value → World → Prop) : Prop :=
  Rets Tryz.prog (46 : Nat)
  { toList := [Value.int IntKind.i64 (maxI (1 : Int) (minI n (4096 : Int))), Value.int IntKind.u64 s] } w
  fun (v1 : Value) (w1 : World) =>
  ∃ (q1 : Option Addr),
  v1 = Value.pointer q1 ∧
  Rets Tryz.prog (47 : Nat)
  { toList := [Value.int IntKind.i64 (maxI (1 : Int) (minI n (4096 : Int))), Value.int IntKind.u64 s] } w1
  fun (v2 : Value) (w2 : World) =>
  ∃ (q2 : Option Addr),
  v2 = Value.pointer q2 ∧
  NewR (111 : Nat)
  [Value.pointer q1, Value.pointer q2, Value.int IntKind.i64 (0 : Int),
  Value.int IntKind.i64 (maxI (1 : Int) (minI n (4096 : Int))), Value.int IntKind.i64 (0 : Int)]
  w2 fun (a1 : Addr) (w3 : World) => K (Value.pointer (some a1)) w3
theorem tiny_New_eq (n s : Int) (w : World) (K : Value → World → Prop) : fw Tryz.prog Tryz.f21 (annL []) (ordL []) [.int .i64 n, .int .u64 s] w K = tiny_New_m n s w K := by kernel_rfl
theorem tiny_New_go (n s : Int) {w : World} {K : Value → World → Prop} (h : tiny_New_m n s w K) : Rets Tryz.prog 21 #[.int .i64 n, .int .u64 s] w K :=
  calls_of_fw plain mixed Tryz.func21 (by kernel_rfl) (by rw [tiny_New_eq]; exact h)
def tiny_Tiny_age_m (g : Nat) (w : World) (K : Value → World → Prop) : Prop :=
  ∃ (q1 : Option Addr),
  cellAt w (Addr.add (Addr.add { block := g, off := (0 : Nat) } (0 : Nat)) (0 : Nat)) (Value.pointer q1) ∧
  Rets Tryz.prog (128 : Nat) { toList := [Value.pointer q1] } w fun (v1 : Value) (w1 : World) =>
  v1 = Value.tuple { toList := [] } ∧
  ∃ (q2 : Option Addr),
  cellAt w1 (Addr.add (Addr.add { block := g, off := (0 : Nat) } (0 : Nat)) (1 : Nat)) (Value.pointer q2) ∧
  Rets Tryz.prog (88 : Nat) { toList := [Value.pointer q2] } w1 fun (v2 : Value) (w2 : World) =>
  v2 = Value.tuple { toList := [] } ∧
  StoreR (Addr.add { block := g, off := (0 : Nat) } (2 : Nat)) [Value.int IntKind.i64 (0 : Int)] w2 fun (w3 : World) =>
  ∃ (n1 : Int),
  cellAt w3 (Addr.add { block := g, off := (0 : Nat) } (4 : Nat)) (Value.int IntKind.i64 n1) ∧
  StoreR (Addr.add { block := g, off := (0 : Nat) } (4 : Nat))
  [Value.int IntKind.i64 (IntKind.wrap IntKind.i64 (n1 + (1 : Int)))] w3 fun (w4 : World) =>
  K (Value.tuple { toList := [] }) w4
theorem tiny_Tiny_age_eq (g : Nat) (w : World) (K : Value → World → Prop) : fw Tryz.prog Tryz.f108 (annL []) (ordL []) [.pointer (some ⟨g, 0, none⟩)] w K = tiny_Tiny_age_m g w K := by kernel_rfl
theorem tiny_Tiny_age_go (g : Nat) {w : World} {K : Value → World → Prop} (h : tiny_Tiny_age_m g w K) : Rets Tryz.prog 108 #[.pointer (some ⟨g, 0, none⟩)] w K :=
  calls_of_fw plain mixed Tryz.func108 (by kernel_rfl) (by rw [tiny_Tiny_age_eq]; exact h)
def tiny_Tiny_Add_m (g : Nat) (hh : Int) (w : World) (K : Value → World → Prop) : Prop :=
  (false = true → K (Value.tuple { toList := [] }) w) ∧
  (false = false →
  ∃ (q1 : Option Addr),
  cellAt w (Addr.add (Addr.add { block := g, off := (0 : Nat) } (0 : Nat)) (1 : Nat)) (Value.pointer q1) ∧
  Rets Tryz.prog (105 : Nat) { toList := [Value.pointer q1, Value.int IntKind.u64 hh] } w fun (v1 : Value) (w1 : World) =>
  ∃ (b1 : Bool),
  v1 = Value.bool b1 ∧
  ((!b1) = true →
  Rets Tryz.prog (106 : Nat) { toList := [Value.pointer (some { block := g, off := (0 : Nat) })] } w1
  fun (v2 : Value) (w2 : World) =>
  ∃ (q2 : Option Addr),
  v2 = Value.pointer q2 ∧
  Rets Tryz.prog (107 : Nat) { toList := [Value.pointer q2, Value.int IntKind.u64 hh] } w2
  fun (v3 : Value) (w3 : World) =>
  v3 = Value.tuple { toList := [] } ∧
  ∃ (n1 : Int),
  cellAt w3 (Addr.add { block := g, off := (0 : Nat) } (2 : Nat)) (Value.int IntKind.i64 n1) ∧
  StoreR (Addr.add { block := g, off := (0 : Nat) } (2 : Nat))
  [Value.int IntKind.i64 (IntKind.wrap IntKind.i64 (n1 + (1 : Int)))] w3 fun (w4 : World) =>
  Drw w4 fun (w5 : World) =>
  ∃ (n2 : Int),
  cellAt w5 (Addr.add { block := g, off := (0 : Nat) } (2 : Nat)) (Value.int IntKind.i64 n2) ∧
  ∃ (n3 : Int),
  cellAt w5 (Addr.add { block := g, off := (0 : Nat) } (3 : Nat)) (Value.int IntKind.i64 n3) ∧
  (decide (n2 ≥ n3) = true →
  Rets Tryz.prog (108 : Nat) { toList := [Value.pointer (some { block := g, off := (0 : Nat) })] } w5
  fun (v4 : Value) (w6 : World) => v4 = Value.tuple { toList := [] } ∧ K (Value.tuple { toList := [] }) w6) ∧
  (decide (n2 ≥ n3) = false → K (Value.tuple { toList := [] }) w5)) ∧
  ((!b1) = false →
  ∃ (n4 : Int),
  cellAt w1 (Addr.add { block := g, off := (0 : Nat) } (2 : Nat)) (Value.int IntKind.i64 n4) ∧
  StoreR (Addr.add { block := g, off := (0 : Nat) } (2 : Nat))
  [Value.int IntKind.i64 (IntKind.wrap IntKind.i64 (n4 + (1 : Int)))] w1 fun (w7 : World) =>
  Drw w7 fun (w8 : World) =>
  ∃ (n5 : Int),
  cellAt w8 (Addr.add { block := g, off := (0 : Nat) } (2 : Nat)) (Value.int IntKind.i64 n5) ∧
  ∃ (n6 : Int),
  cellAt w8 (Addr.add { block := g, off := (0 : Nat) } (3 : Nat)) (Value.int IntKind.i64 n6) ∧
  (decide (n5 ≥ n6) = true →
  Rets Tryz.prog (108 : Nat) { toList := [Value.pointer (some { block := g, off := (0 : Nat) })] } w8
  fun (v5 : Value) (w9 : World) => v5 = Value.tuple { toList := [] } ∧ K (Value.tuple { toList := [] }) w9) ∧
  (decide (n5 ≥ n6) = false → K (Value.tuple { toList := [] }) w8)))
theorem tiny_Tiny_Add_eq (g : Nat) (hh : Int) (w : World) (K : Value → World → Prop) : fw Tryz.prog Tryz.f80 (annL []) (ordL [(4, [(0, 0), (1, 0), (2, 0), (4, 0), (5, 0), (6, 0), (3, 1), (7, 1), (8, 0)])]) [.pointer (some ⟨g, 0, none⟩), .int .u64 hh] w K = tiny_Tiny_Add_m g hh w K := by kernel_rfl
theorem tiny_Tiny_Add_go (g : Nat) (hh : Int) {w : World} {K : Value → World → Prop} (h : tiny_Tiny_Add_m g hh w K) : Rets Tryz.prog 80 #[.pointer (some ⟨g, 0, none⟩), .int .u64 hh] w K :=
  calls_of_fw plain mixed Tryz.func80 (by kernel_rfl) (by rw [tiny_Tiny_Add_eq]; exact h)
def tiny_Tiny_Push_m (g : Nat) (q : Option Addr) (l c : Nat) (w : World) (K : Value → World → Prop) : Prop :=
  ∃ (h1 : Nat → List Value → World → Prop),
  (∃ (k1 : Nat), h1 k1 [Value.int IntKind.i64 (0 : Int)] w) ∧
  ∀ (k2 : Nat) (w1 : World) (v1 : Value) (n1 : Int) (v2 v3 v4 v5 v6 v7 v8 : Value),
  h1 k2 [Value.int IntKind.i64 n1] w1 →
  (decide (n1 < (↑l : Int)) = true →
  (0 : Int) ≤ n1 ∧
  n1 < (↑l : Int) ∧
  someR q fun (a1 : Addr) =>
  ∃ (n2 : Int),
  cellAt w1 (Addr.add a1 (Int.toNat n1 * (1 : Nat))) (Value.int IntKind.u64 n2) ∧
  Rets Tryz.prog (80 : Nat)
  { toList := [Value.pointer (some { block := g, off := (0 : Nat) }), Value.int IntKind.u64 n2] } w1
  fun (v9 : Value) (w2 : World) =>
  v9 = Value.tuple { toList := [] } ∧
  ∃ (k3 : Nat), k3 < k2 ∧ h1 k3 [Value.int IntKind.i64 (IntKind.wrap IntKind.i64 (n1 + (1 : Int)))] w2) ∧
  (decide (n1 < (↑l : Int)) = false → K (Value.tuple { toList := [] }) w1)
theorem tiny_Tiny_Push_eq (g : Nat) (q : Option Addr) (l c : Nat) (w : World) (K : Value → World → Prop) : fw Tryz.prog Tryz.f56 (annL [(1, [(5, none), (8, some 3), (9, none), (10, none), (11, none), (12, none), (13, none), (14, none), (15, none)])]) (ordL []) [.pointer (some ⟨g, 0, none⟩), .slice q l c] w K = tiny_Tiny_Push_m g q l c w K := by kernel_rfl
theorem tiny_Tiny_Push_go (g : Nat) (q : Option Addr) (l c : Nat) {w : World} {K : Value → World → Prop} (h : tiny_Tiny_Push_m g q l c w K) : Rets Tryz.prog 56 #[.pointer (some ⟨g, 0, none⟩), .slice q l c] w K :=
  calls_of_fw plain mixed Tryz.func56 (by kernel_rfl) (by rw [tiny_Tiny_Push_eq]; exact h)
def tiny_Tiny_Estimate_m (g : Nat) (hh : Int) (w : World) (K : Value → World → Prop) : Prop :=
  (false = true → K (Value.int IntKind.i64 (0 : Int)) w) ∧
  (false = false →
  ∃ (q1 : Option Addr),
  cellAt w (Addr.add (Addr.add { block := g, off := (0 : Nat) } (0 : Nat)) (0 : Nat)) (Value.pointer q1) ∧
  Rets Tryz.prog (62 : Nat) { toList := [Value.pointer q1, Value.int IntKind.u64 hh] } w fun (v1 : Value) (w1 : World) =>
  ∃ (n1 : Int),
  v1 = Value.int IntKind.i64 n1 ∧
  ∃ (q2 : Option Addr),
  cellAt w1 (Addr.add (Addr.add { block := g, off := (0 : Nat) } (0 : Nat)) (1 : Nat)) (Value.pointer q2) ∧
  Rets Tryz.prog (63 : Nat) { toList := [Value.pointer q2, Value.int IntKind.u64 hh] } w1 fun (v2 : Value) (w2 : World) =>
  ∃ (b1 : Bool),
  v2 = Value.bool b1 ∧
  (b1 = true → K (Value.int IntKind.i64 (IntKind.wrap IntKind.i64 (n1 + (1 : Int)))) w2) ∧
  (b1 = false → K (Value.int IntKind.i64 n1) w2))
theorem tiny_Tiny_Estimate_eq (g : Nat) (hh : Int) (w : World) (K : Value → World → Prop) : fw Tryz.prog Tryz.f38 (annL []) (ordL []) [.pointer (some ⟨g, 0, none⟩), .int .u64 hh] w K = tiny_Tiny_Estimate_m g hh w K := by kernel_rfl
theorem tiny_Tiny_Estimate_go (g : Nat) (hh : Int) {w : World} {K : Value → World → Prop} (h : tiny_Tiny_Estimate_m g hh w K) : Rets Tryz.prog 38 #[.pointer (some ⟨g, 0, none⟩), .int .u64 hh] w K :=
  calls_of_fw plain mixed Tryz.func38 (by kernel_rfl) (by rw [tiny_Tiny_Estimate_eq]; exact h)
def tiny_Tiny_Sketch_m (g : Nat) (w : World) (K : Value → World → Prop) : Prop :=
  (false = true → K (Value.pointer none) w) ∧
  (false = false →
  ∃ (q1 : Option Addr),
  cellAt w (Addr.add (Addr.add { block := g, off := (0 : Nat) } (0 : Nat)) (0 : Nat)) (Value.pointer q1) ∧
  K (Value.pointer q1) w)
theorem tiny_Tiny_Sketch_eq (g : Nat) (w : World) (K : Value → World → Prop) : fw Tryz.prog Tryz.f106 (annL []) (ordL []) [.pointer (some ⟨g, 0, none⟩)] w K = tiny_Tiny_Sketch_m g w K := by kernel_rfl
theorem tiny_Tiny_Sketch_go (g : Nat) {w : World} {K : Value → World → Prop} (h : tiny_Tiny_Sketch_m g w K) : Rets Tryz.prog 106 #[.pointer (some ⟨g, 0, none⟩)] w K :=
  calls_of_fw plain mixed Tryz.func106 (by kernel_rfl) (by rw [tiny_Tiny_Sketch_eq]; exact h)
end Go.Proofs.YtggflkjdgcdcmaaGreatDoor.Eng
