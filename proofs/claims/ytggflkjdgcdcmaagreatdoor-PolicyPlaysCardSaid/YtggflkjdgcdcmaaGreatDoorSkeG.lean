/- What the code of these functions asks for: printed by a program of this session's (gens.py) out of the seat's own functions; the kernel checks each row. -/
import Derived.Test.YtggflkjdgcdcmaaGreatDoorEngH
import Derived.Test.YtggflkjdgcdcmaaGreatDoorProg
import Derived.Test.YtggflkjdgcdcmaaGreatDoorBase
namespace Go.Proofs.YtggflkjdgcdcmaaGreatDoor.Eng
open Go Go.Proofs
set_option linter.unusedVariables false
set_option maxRecDepth 1000000
def sketch_New_m (n s : Int) (w : World) (K : Value → World → Prop) : Prop :=
  Rets Tryz.prog (71 : Nat) { toList := [Value.int IntKind.i64 (maxI (1 : Int) (minI n (4096 : Int)))] } w
  fun (v1 : Value) (w1 : World) =>
  ∃ (n1 : Int),
  v1 = Value.int IntKind.i64 n1 ∧
  NewR (137 : Nat)
  [Value.pointer none, Value.pointer none, Value.pointer none, Value.pointer none, Value.int IntKind.u64 (0 : Int),
  Value.int IntKind.u64 (0 : Int), Value.int IntKind.u64 (0 : Int), Value.int IntKind.u64 (0 : Int),
  Value.int IntKind.i64 n1]
  w1 fun (a1 : Addr) (w2 : World) =>
  ∃ (h1 : Nat → List Value → World → Prop),
  (∃ (k1 : Nat), h1 k1 [Value.int IntKind.i64 (0 : Int)] w2) ∧
  ∀ (k2 : Nat) (w3 : World) (v2 : Value) (n2 : Int)
  (v3 v4 v5 v6 v7 v8 v9 v10 v11 v12 v13 v14 v15 v16 v17 v18 v19 v20 v21 v22 v23 v24 v25 v26 : Value),
  h1 k2 [Value.int IntKind.i64 n2] w3 →
  (decide (n2 < (4 : Int)) = true →
  Drw w3 fun (w4 : World) =>
  ∃ (n3 : Int),
  cellAt w4 (Addr.add a1 (8 : Nat)) (Value.int IntKind.i64 n3) ∧
  Rets Tryz.prog (72 : Nat) { toList := [Value.int IntKind.i64 n3] } w4 fun (v27 : Value) (w5 : World) =>
  ∃ (q1 : Option Addr),
  v27 = Value.pointer q1 ∧
  (0 : Int) ≤ n2 ∧
  n2 < (↑(4 : Nat) : Int) ∧
  StoreR (Addr.add (Addr.add a1 (0 : Nat)) (Int.toNat n2 * (1 : Nat))) [Value.pointer q1] w5 fun (w6 : World) =>
  Drw w6 fun (w7 : World) =>
  Rets Tryz.prog (73 : Nat)
  {
  toList :=
  [Value.int IntKind.u64
  (IntKind.wrap IntKind.u64 (IntKind.wrap IntKind.u64 (s + IntKind.wrap IntKind.u64 n2) + (1 : Int)))] }
  w7 fun (v28 : Value) (w8 : World) =>
  ∃ (n4 : Int),
  v28 = Value.int IntKind.u64 n4 ∧
  (0 : Int) ≤ n2 ∧
  n2 < (↑(4 : Nat) : Int) ∧
  StoreR (Addr.add (Addr.add a1 (4 : Nat)) (Int.toNat n2 * (1 : Nat))) [Value.int IntKind.u64 n4] w8 fun (w9 : World) =>
  ∃ (k3 : Nat), k3 < k2 ∧ h1 k3 [Value.int IntKind.i64 (IntKind.wrap IntKind.i64 (n2 + (1 : Int)))] w9) ∧
  (decide (n2 < (4 : Int)) = false → K (Value.pointer (some a1)) w3)
theorem sketch_New_eq (n s : Int) (w : World) (K : Value → World → Prop) : fw Tryz.prog Tryz.f46 (annL [(1, [(6, none), (13, some 3), (14, none), (15, none), (16, none), (17, none), (18, none), (19, none), (20, none), (21, none), (22, none), (23, none), (24, none), (25, none), (26, none), (27, none), (28, none), (29, none), (30, none), (31, none), (32, none), (33, none), (34, none), (35, none), (36, none), (37, none)])]) (ordL [(5, [(0, 0), (1, 0), (2, 0), (3, 0), (4, 0), (7, 0), (8, 0), (5, 1), (6, 3), (9, 0), (10, 3)]), (6, [(0, 0), (1, 0), (2, 0), (3, 0), (4, 0), (5, 0), (6, 0), (8, 0), (9, 0), (7, 3), (10, 0), (11, 3)])]) [.int .i64 n, .int .u64 s] w K = sketch_New_m n s w K := by kernel_rfl
theorem sketch_New_go (n s : Int) {w : World} {K : Value → World → Prop} (h : sketch_New_m n s w K) : Rets Tryz.prog 46 #[.int .i64 n, .int .u64 s] w K :=
  calls_of_fw plain mixed Tryz.func46 (by kernel_rfl) (by rw [sketch_New_eq]; exact h)
def sketch_Sketch_Place_m (g : Nat) (hh r : Int) (w : World) (K : Value → World → Prop) : Prop :=
  (false = false →
  (decide (r < (0 : Int)) = false →
  (decide (r ≥ (4 : Int)) = true → K (Value.int IntKind.i64 (0 : Int)) w) ∧
  (decide (r ≥ (4 : Int)) = false →
  Drw w fun (w1 : World) =>
  ∃ (h1 : World → Prop),
  h1 w1 ∧
  (0 : Int) ≤ r ∧
  r < (↑(4 : Nat) : Int) ∧
  ∃ (n1 : Int),
  (∀ (w2 : World),
  h1 w2 →
  World.cell? w2 (Addr.add (Addr.add { block := g, off := (0 : Nat) } (4 : Nat)) (Int.toNat r * (1 : Nat))) =
  some (Value.int IntKind.u64 n1)) ∧
  ∃ (n2 : Int),
  (∀ (w3 : World),
  h1 w3 → World.cell? w3 (Addr.add { block := g, off := (0 : Nat) } (8 : Nat)) = some (Value.int IntKind.i64 n2)) ∧
  Rets Tryz.prog (73 : Nat) { toList := [Value.int IntKind.u64 (bits BinOp.xor IntKind.u64 hh n1)] } w1
  fun (v1 : Value) (w4 : World) =>
  ∃ (n3 : Int),
  v1 = Value.int IntKind.u64 n3 ∧
  h1 w4 ∧
  K
  (Value.int IntKind.i64
  (IntKind.wrap IntKind.i64
  (bits BinOp.and IntKind.u64 n3 (IntKind.wrap IntKind.u64 (IntKind.wrap IntKind.i64 (n2 - (1 : Int)))))))
  w4)) ∧
  (decide (r < (0 : Int)) = true → K (Value.int IntKind.i64 (0 : Int)) w)) ∧
  (false = true → K (Value.int IntKind.i64 (0 : Int)) w)
theorem sketch_Sketch_Place_eq (g : Nat) (hh r : Int) (w : World) (K : Value → World → Prop) : fw Tryz.prog Tryz.f90 (annL []) (ordL [(3, [(0, 0), (1, 0), (2, 0), (3, 0), (4, 0), (5, 0), (9, 0), (10, 0), (11, 0), (6, 1), (7, 0), (12, 1), (13, 0), (14, 0), (8, 2), (15, 0), (16, 0), (17, 0)])]) [.pointer (some ⟨g, 0, none⟩), .int .u64 hh, .int .i64 r] w K = sketch_Sketch_Place_m g hh r w K := by kernel_rfl
theorem sketch_Sketch_Place_go (g : Nat) (hh r : Int) {w : World} {K : Value → World → Prop} (h : sketch_Sketch_Place_m g hh r w K) : Rets Tryz.prog 90 #[.pointer (some ⟨g, 0, none⟩), .int .u64 hh, .int .i64 r] w K :=
  calls_of_fw plain mixed Tryz.func90 (by kernel_rfl) (by rw [sketch_Sketch_Place_eq]; exact h)
def sketch_Sketch_Add_m (g : Nat) (hh : Int) (w : World) (K : Value → World → Prop) : Prop :=
  (false = true → K (Value.tuple { toList := [] }) w) ∧
  (false = false →
  ∃ (q1 : Option Addr),
  ∃ (q2 : Option Addr),
  ∃ (q3 : Option Addr),
  ∃ (q4 : Option Addr),
  (cellAt w (Addr.add (Addr.add { block := g, off := (0 : Nat) } (0 : Nat)) (0 : Nat)) (Value.pointer q1) ∧
  cellAt w (Addr.add (Addr.add { block := g, off := (0 : Nat) } (0 : Nat)) (1 : Nat)) (Value.pointer q2) ∧
  cellAt w (Addr.add (Addr.add { block := g, off := (0 : Nat) } (0 : Nat)) (2 : Nat)) (Value.pointer q3) ∧
  cellAt w (Addr.add (Addr.add { block := g, off := (0 : Nat) } (0 : Nat)) (3 : Nat)) (Value.pointer q4)) ∧
  ∃ (h1 : Nat → List Value → World → Prop),
  (∃ (k1 : Nat), h1 k1 [Value.int IntKind.i64 (0 : Int)] w) ∧
  ∀ (k2 : Nat) (w1 : World) (v1 v2 : Value) (n1 : Int) (v3 v4 v5 v6 v7 v8 v9 v10 v11 v12 : Value),
  h1 k2 [Value.int IntKind.i64 n1] w1 →
  (decide (n1 < (4 : Int)) = true →
  (0 : Int) ≤ n1 ∧
  n1 < (↑(4 : Nat) : Int) ∧
  ∃ (q5 : Option Addr),
  List.get?Internal (Array.toList { toList := [Value.pointer q1, Value.pointer q2, Value.pointer q3, Value.pointer q4] })
  (Int.toNat n1) =
  some (Value.pointer q5) ∧
  Rets Tryz.prog (90 : Nat)
  {
  toList := [Value.pointer (some { block := g, off := (0 : Nat) }), Value.int IntKind.u64 hh, Value.int IntKind.i64 n1] }
  w1 fun (v13 : Value) (w2 : World) =>
  ∃ (n2 : Int),
  v13 = Value.int IntKind.i64 n2 ∧
  Rets Tryz.prog (127 : Nat) { toList := [Value.pointer q5, Value.int IntKind.i64 n2] } w2
  fun (v14 : Value) (w3 : World) =>
  ∃ (b1 : Bool),
  v14 = Value.bool b1 ∧
  ∃ (k3 : Nat), k3 < k2 ∧ h1 k3 [Value.int IntKind.i64 (IntKind.wrap IntKind.i64 (n1 + (1 : Int)))] w3) ∧
  (decide (n1 < (4 : Int)) = false → K (Value.tuple { toList := [] }) w1))
theorem sketch_Sketch_Add_eq (g : Nat) (hh : Int) (w : World) (K : Value → World → Prop) : fw Tryz.prog Tryz.f107 (annL [(2, [(4, none), (5, none), (12, some 3), (13, none), (14, none), (15, none), (16, none), (17, none), (18, none), (19, none), (20, none), (21, none), (22, none)])]) (ordL []) [.pointer (some ⟨g, 0, none⟩), .int .u64 hh] w K = sketch_Sketch_Add_m g hh w K := by kernel_rfl
theorem sketch_Sketch_Add_go (g : Nat) (hh : Int) {w : World} {K : Value → World → Prop} (h : sketch_Sketch_Add_m g hh w K) : Rets Tryz.prog 107 #[.pointer (some ⟨g, 0, none⟩), .int .u64 hh] w K :=
  calls_of_fw plain mixed Tryz.func107 (by kernel_rfl) (by rw [sketch_Sketch_Add_eq]; exact h)
def sketch_Sketch_Count_m (g : Nat) (hh : Int) (w : World) (K : Value → World → Prop) : Prop :=
  (false = true → K (Value.int IntKind.i64 (0 : Int)) w) ∧
  (false = false →
  ∃ (q1 : Option Addr),
  ∃ (q2 : Option Addr),
  ∃ (q3 : Option Addr),
  ∃ (q4 : Option Addr),
  (cellAt w (Addr.add (Addr.add { block := g, off := (0 : Nat) } (0 : Nat)) (0 : Nat)) (Value.pointer q1) ∧
  cellAt w (Addr.add (Addr.add { block := g, off := (0 : Nat) } (0 : Nat)) (1 : Nat)) (Value.pointer q2) ∧
  cellAt w (Addr.add (Addr.add { block := g, off := (0 : Nat) } (0 : Nat)) (2 : Nat)) (Value.pointer q3) ∧
  cellAt w (Addr.add (Addr.add { block := g, off := (0 : Nat) } (0 : Nat)) (3 : Nat)) (Value.pointer q4)) ∧
  ∃ (h1 : Nat → List Value → World → Prop),
  (∃ (k1 : Nat), h1 k1 [Value.int IntKind.i64 (15 : Int), Value.int IntKind.i64 (0 : Int)] w) ∧
  ∀ (k2 : Nat) (w1 : World) (n1 : Int) (v1 v2 : Value) (n2 : Int) (v3 v4 v5 v6 v7 v8 v9 v10 v11 v12 v13 v14 : Value),
  h1 k2 [Value.int IntKind.i64 n1, Value.int IntKind.i64 n2] w1 →
  (decide (n2 < (4 : Int)) = true →
  (0 : Int) ≤ n2 ∧
  n2 < (↑(4 : Nat) : Int) ∧
  ∃ (q5 : Option Addr),
  List.get?Internal (Array.toList { toList := [Value.pointer q1, Value.pointer q2, Value.pointer q3, Value.pointer q4] })
  (Int.toNat n2) =
  some (Value.pointer q5) ∧
  Rets Tryz.prog (90 : Nat)
  {
  toList := [Value.pointer (some { block := g, off := (0 : Nat) }), Value.int IntKind.u64 hh, Value.int IntKind.i64 n2] }
  w1 fun (v15 : Value) (w2 : World) =>
  ∃ (n3 : Int),
  v15 = Value.int IntKind.i64 n3 ∧
  Rets Tryz.prog (89 : Nat) { toList := [Value.pointer q5, Value.int IntKind.i64 n3] } w2
  fun (v16 : Value) (w3 : World) =>
  ∃ (n4 : Int),
  v16 = Value.int IntKind.i64 n4 ∧
  ∃ (k3 : Nat),
  k3 < k2 ∧
  h1 k3 [Value.int IntKind.i64 (minI n1 n4), Value.int IntKind.i64 (IntKind.wrap IntKind.i64 (n2 + (1 : Int)))] w3) ∧
  (decide (n2 < (4 : Int)) = false → K (Value.int IntKind.i64 n1) w1))
theorem sketch_Sketch_Count_eq (g : Nat) (hh : Int) (w : World) (K : Value → World → Prop) : fw Tryz.prog Tryz.f62 (annL [(2, [(5, some 3), (6, none), (7, none), (14, some 3), (15, none), (16, none), (17, none), (18, none), (19, none), (20, none), (21, none), (22, none), (23, none), (24, none), (25, none), (26, none)])]) (ordL []) [.pointer (some ⟨g, 0, none⟩), .int .u64 hh] w K = sketch_Sketch_Count_m g hh w K := by kernel_rfl
theorem sketch_Sketch_Count_go (g : Nat) (hh : Int) {w : World} {K : Value → World → Prop} (h : sketch_Sketch_Count_m g hh w K) : Rets Tryz.prog 62 #[.pointer (some ⟨g, 0, none⟩), .int .u64 hh] w K :=
  calls_of_fw plain mixed Tryz.func62 (by kernel_rfl) (by rw [sketch_Sketch_Count_eq]; exact h)
def sketch_Sketch_Halve_m (g : Nat) (w : World) (K : Value → World → Prop) : Prop :=
  (false = true → K (Value.tuple { toList := [] }) w) ∧
  (false = false →
  ∃ (q1 : Option Addr),
  ∃ (q2 : Option Addr),
  ∃ (q3 : Option Addr),
  ∃ (q4 : Option Addr),
  (cellAt w (Addr.add (Addr.add { block := g, off := (0 : Nat) } (0 : Nat)) (0 : Nat)) (Value.pointer q1) ∧
  cellAt w (Addr.add (Addr.add { block := g, off := (0 : Nat) } (0 : Nat)) (1 : Nat)) (Value.pointer q2) ∧
  cellAt w (Addr.add (Addr.add { block := g, off := (0 : Nat) } (0 : Nat)) (2 : Nat)) (Value.pointer q3) ∧
  cellAt w (Addr.add (Addr.add { block := g, off := (0 : Nat) } (0 : Nat)) (3 : Nat)) (Value.pointer q4)) ∧
  ∃ (h1 : Nat → List Value → World → Prop),
  (∃ (k1 : Nat), h1 k1 [Value.int IntKind.i64 (0 : Int)] w) ∧
  ∀ (k2 : Nat) (w1 : World) (v1 : Value) (n1 : Int) (v2 v3 v4 v5 v6 : Value),
  h1 k2 [Value.int IntKind.i64 n1] w1 →
  (decide (n1 < (4 : Int)) = true →
  (0 : Int) ≤ n1 ∧
  n1 < (↑(4 : Nat) : Int) ∧
  ∃ (q5 : Option Addr),
  List.get?Internal (Array.toList { toList := [Value.pointer q1, Value.pointer q2, Value.pointer q3, Value.pointer q4] })
  (Int.toNat n1) =
  some (Value.pointer q5) ∧
  Rets Tryz.prog (138 : Nat) { toList := [Value.pointer q5] } w1 fun (v7 : Value) (w2 : World) =>
  v7 = Value.tuple { toList := [] } ∧
  ∃ (k3 : Nat), k3 < k2 ∧ h1 k3 [Value.int IntKind.i64 (IntKind.wrap IntKind.i64 (n1 + (1 : Int)))] w2) ∧
  (decide (n1 < (4 : Int)) = false → K (Value.tuple { toList := [] }) w1))
theorem sketch_Sketch_Halve_eq (g : Nat) (w : World) (K : Value → World → Prop) : fw Tryz.prog Tryz.f128 (annL [(2, [(3, none), (10, some 3), (11, none), (12, none), (13, none), (14, none), (15, none)])]) (ordL []) [.pointer (some ⟨g, 0, none⟩)] w K = sketch_Sketch_Halve_m g w K := by kernel_rfl
theorem sketch_Sketch_Halve_go (g : Nat) {w : World} {K : Value → World → Prop} (h : sketch_Sketch_Halve_m g w K) : Rets Tryz.prog 128 #[.pointer (some ⟨g, 0, none⟩)] w K :=
  calls_of_fw plain mixed Tryz.func128 (by kernel_rfl) (by rw [sketch_Sketch_Halve_eq]; exact h)
end Go.Proofs.YtggflkjdgcdcmaaGreatDoor.Eng
