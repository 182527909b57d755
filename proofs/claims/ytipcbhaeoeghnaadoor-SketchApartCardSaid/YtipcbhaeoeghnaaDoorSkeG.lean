/- What the code of these functions asks for: printed by a program of this session's (gens.py) out of the seat's own functions; the kernel checks each row. -/
import Derived.Test.YtipcbhaeoeghnaaDoorEngH
import Derived.Test.YtipcbhaeoeghnaaDoorProg
import Derived.Test.YtipcbhaeoeghnaaDoorBase
namespace Go.Proofs.YtipcbhaeoeghnaaDoor.Eng
open Go Go.Proofs
set_option linter.unusedVariables false
set_option maxRecDepth 1000000
def word_Log_m (x : Int) (w : World) (K : Value → World → Prop) : Prop :=
  ∃ (h1 : Nat → List Value → World → Prop),
  (∃ (k1 : Nat), h1 k1 [Value.int IntKind.u64 x, Value.int IntKind.i64 (-1 : Int)] w) ∧
  ∀ (k2 : Nat) (w1 : World) (n1 n2 : Int) (v1 v2 v3 v4 v5 v6 : Value),
  h1 k2 [Value.int IntKind.u64 n1, Value.int IntKind.i64 n2] w1 →
  ((n1 != (0 : Int)) = true →
  (0 : Int) ≤ (1 : Int) ∧
  ∃ (k3 : Nat),
  k3 < k2 ∧
  h1 k3
  [Value.int IntKind.u64 (shrI IntKind.u64 n1 (1 : Int)),
  Value.int IntKind.i64 (IntKind.wrap IntKind.i64 (n2 + (1 : Int)))]
  w1) ∧
  ((n1 != (0 : Int)) = false → K (Value.int IntKind.i64 n2) w1)
theorem word_Log_eq (x : Int) (w : World) (K : Value → World → Prop) : fw Tryd.prog Tryd.f85 (annL [(1, [(0, some 33), (3, some 3), (4, none), (5, none), (6, none), (7, none), (8, none), (9, none)])]) (ordL []) [.int .u64 x] w K = word_Log_m x w K := by kernel_rfl
theorem word_Log_go (x : Int) {w : World} {K : Value → World → Prop} (h : word_Log_m x w K) : Rets Tryd.prog 85 #[.int .u64 x] w K :=
  calls_of_fw plain mixed Tryd.func85 (by kernel_rfl) (by rw [word_Log_eq]; exact h)
def word_Power_m (n : Int) (w : World) (K : Value → World → Prop) : Prop :=
  Rets Tryd.prog (85 : Nat)
  {
  toList :=
  [Value.int IntKind.u64
  (IntKind.wrap IntKind.u64
  (IntKind.wrap IntKind.i64 (maxI (1 : Int) (minI n (4611686018427387904 : Int)) - (1 : Int))))] }
  w fun (v1 : Value) (w1 : World) =>
  ∃ (n1 : Int),
  v1 = Value.int IntKind.i64 n1 ∧
  (0 : Int) ≤ IntKind.wrap IntKind.i64 (n1 + (1 : Int)) ∧
  K (Value.int IntKind.i64 (shlI IntKind.i64 (1 : Int) (IntKind.wrap IntKind.i64 (n1 + (1 : Int))))) w1
theorem word_Power_eq (n : Int) (w : World) (K : Value → World → Prop) : fw Tryd.prog Tryd.f53 (annL []) (ordL []) [.int .i64 n] w K = word_Power_m n w K := by kernel_rfl
theorem word_Power_go (n : Int) {w : World} {K : Value → World → Prop} (h : word_Power_m n w K) : Rets Tryd.prog 53 #[.int .i64 n] w K :=
  calls_of_fw plain mixed Tryd.func53 (by kernel_rfl) (by rw [word_Power_eq]; exact h)
def cortadoref01_Power_m (n : Int) (w : World) (K : Value → World → Prop) : Prop :=
  ∃ (h1 : Nat → List Value → World → Prop),
  (∃ (k1 : Nat), h1 k1 [Value.int IntKind.i64 (1 : Int), Value.int IntKind.i64 (0 : Int)] w) ∧
  ∀ (k2 : Nat) (w1 : World) (n1 n2 : Int) (v1 v2 v3 v4 v5 v6 v7 v8 v9 v10 v11 : Value),
  h1 k2 [Value.int IntKind.i64 n1, Value.int IntKind.i64 n2] w1 →
  (decide (n2 < (62 : Int)) = true →
  (decide (n1 < n) = true →
  ∃ (k3 : Nat),
  k3 < k2 ∧
  h1 k3
  [Value.int IntKind.i64 (IntKind.wrap IntKind.i64 ((2 : Int) * n1)),
  Value.int IntKind.i64 (IntKind.wrap IntKind.i64 (n2 + (1 : Int)))]
  w1) ∧
  (decide (n1 < n) = false → K (Value.int IntKind.i64 n1) w1)) ∧
  (decide (n2 < (62 : Int)) = false → K (Value.int IntKind.i64 n1) w1)
theorem cortadoref01_Power_eq (n : Int) (w : World) (K : Value → World → Prop) : fw Tryd.prog Tryd.f55 (annL [(1, [(3, some 3), (4, some 3), (5, none), (6, none), (7, none), (8, none), (9, none), (10, none), (11, none), (12, none), (13, none), (14, none), (15, none)])]) (ordL []) [.int .i64 n] w K = cortadoref01_Power_m n w K := by kernel_rfl
theorem cortadoref01_Power_go (n : Int) {w : World} {K : Value → World → Prop} (h : cortadoref01_Power_m n w K) : Rets Tryd.prog 55 #[.int .i64 n] w K :=
  calls_of_fw plain mixed Tryd.func55 (by kernel_rfl) (by rw [cortadoref01_Power_eq]; exact h)
def sketch_New_m (n s : Int) (w : World) (K : Value → World → Prop) : Prop :=
  Rets Tryd.prog (53 : Nat) { toList := [Value.int IntKind.i64 (maxI (1 : Int) (minI n (4096 : Int)))] } w
  fun (v1 : Value) (w1 : World) =>
  ∃ (n1 : Int),
  v1 = Value.int IntKind.i64 n1 ∧
  NewR (85 : Nat)
  [Value.pointer none, Value.pointer none, Value.pointer none, Value.pointer none, Value.int IntKind.u64 (0 : Int),
  Value.int IntKind.u64 (0 : Int), Value.int IntKind.u64 (0 : Int), Value.int IntKind.u64 (0 : Int),
  Value.int IntKind.i64 n1]
  w1 fun (a1 : Addr) (w2 : World) =>
  ∃ (h1 : Nat → List Value → World → Prop),
  (∃ (k1 : Nat), h1 k1 [Value.int IntKind.i64 (0 : Int)] w2) ∧
  ∀ (k2 : Nat) (w3 : World) (v2 : Value) (n2 : Int)
  (v3 v4 v5 v6 v7 v8 v9 v10 v11 v12 v13 v14 v15 v16 v17 v18 v19 v20 v21 v22 v23 v24 v25 v26 : Value),
  h1 k2 [Value.int IntKind.i64 n2] w3 →
  (decide (n2 < (4 : Int)) = true →
  Drw w3 fun (w4 : World) =>
  ∃ (n3 : Int),
  cellAt w4 (Addr.add a1 (8 : Nat)) (Value.int IntKind.i64 n3) ∧
  Rets Tryd.prog (54 : Nat) { toList := [Value.int IntKind.i64 n3] } w4 fun (v27 : Value) (w5 : World) =>
  ∃ (q1 : Option Addr),
  v27 = Value.pointer q1 ∧
  (0 : Int) ≤ n2 ∧
  n2 < (↑(4 : Nat) : Int) ∧
  StoreR (Addr.add (Addr.add a1 (0 : Nat)) (Int.toNat n2 * (1 : Nat))) [Value.pointer q1] w5 fun (w6 : World) =>
  Drw w6 fun (w7 : World) =>
  Rets Tryd.prog (46 : Nat)
  {
  toList :=
  [Value.int IntKind.u64
  (IntKind.wrap IntKind.u64 (IntKind.wrap IntKind.u64 (s + IntKind.wrap IntKind.u64 n2) + (1 : Int)))] }
  w7 fun (v28 : Value) (w8 : World) =>
  ∃ (n4 : Int),
  v28 = Value.int IntKind.u64 n4 ∧
  (0 : Int) ≤ n2 ∧
  n2 < (↑(4 : Nat) : Int) ∧
  StoreR (Addr.add (Addr.add a1 (4 : Nat)) (Int.toNat n2 * (1 : Nat))) [Value.int IntKind.u64 n4] w8 fun (w9 : World) =>
  ∃ (k3 : Nat), k3 < k2 ∧ h1 k3 [Value.int IntKind.i64 (IntKind.wrap IntKind.i64 (n2 + (1 : Int)))] w9) ∧
  (decide (n2 < (4 : Int)) = false → K (Value.pointer (some a1)) w3)
theorem sketch_New_eq (n s : Int) (w : World) (K : Value → World → Prop) : fw Tryd.prog Tryd.f27 (annL [(1, [(6, none), (13, some 3), (14, none), (15, none), (16, none), (17, none), (18, none), (19, none), (20, none), (21, none), (22, none), (23, none), (24, none), (25, none), (26, none), (27, none), (28, none), (29, none), (30, none), (31, none), (32, none), (33, none), (34, none), (35, none), (36, none), (37, none)])]) (ordL [(5, [(0, 0), (1, 0), (2, 0), (3, 0), (4, 0), (7, 0), (8, 0), (5, 1), (6, 3), (9, 0), (10, 3)]), (6, [(0, 0), (1, 0), (2, 0), (3, 0), (4, 0), (5, 0), (6, 0), (8, 0), (9, 0), (7, 3), (10, 0), (11, 3)])]) [.int .i64 n, .int .u64 s] w K = sketch_New_m n s w K := by kernel_rfl
theorem sketch_New_go (n s : Int) {w : World} {K : Value → World → Prop} (h : sketch_New_m n s w K) : Rets Tryd.prog 27 #[.int .i64 n, .int .u64 s] w K :=
  calls_of_fw plain mixed Tryd.func27 (by kernel_rfl) (by rw [sketch_New_eq]; exact h)
def sketch_Sketch_Width_m (g : Nat) (w : World) (K : Value → World → Prop) : Prop :=
  (false = true → K (Value.int IntKind.i64 (0 : Int)) w) ∧
  (false = false →
  ∃ (n1 : Int),
  cellAt w (Addr.add { block := g, off := (0 : Nat) } (8 : Nat)) (Value.int IntKind.i64 n1) ∧
  K (Value.int IntKind.i64 n1) w)
theorem sketch_Sketch_Width_eq (g : Nat) (w : World) (K : Value → World → Prop) : fw Tryd.prog Tryd.f52 (annL []) (ordL []) [.pointer (some ⟨g, 0, none⟩)] w K = sketch_Sketch_Width_m g w K := by kernel_rfl
theorem sketch_Sketch_Width_go (g : Nat) {w : World} {K : Value → World → Prop} (h : sketch_Sketch_Width_m g w K) : Rets Tryd.prog 52 #[.pointer (some ⟨g, 0, none⟩)] w K :=
  calls_of_fw plain mixed Tryd.func52 (by kernel_rfl) (by rw [sketch_Sketch_Width_eq]; exact h)
def sketch_Sketch_Place_m (g : Nat) (hh r : Int) (w : World) (K : Value → World → Prop) : Prop :=
  (false = false →
  (decide (r < (0 : Int)) = false →
  (decide (r ≥ (4 : Int)) = true → K (Value.int IntKind.i64 (0 : Int)) w) ∧
  (decide (r ≥ (4 : Int)) = false →
  Drw w fun (w1 : World) =>
  ∃ (h1 : World → Prop),
  h1 w1 ∧
  (0 : Int) ≤ r ∧
  r < (↑(4 : Nat) : Int) ∧
  ∃ (n1 : Int),
  (∀ (w2 : World),
  h1 w2 →
  World.cell? w2 (Addr.add (Addr.add { block := g, off := (0 : Nat) } (4 : Nat)) (Int.toNat r * (1 : Nat))) =
  some (Value.int IntKind.u64 n1)) ∧
  ∃ (n2 : Int),
  (∀ (w3 : World),
  h1 w3 → World.cell? w3 (Addr.add { block := g, off := (0 : Nat) } (8 : Nat)) = some (Value.int IntKind.i64 n2)) ∧
  Rets Tryd.prog (46 : Nat) { toList := [Value.int IntKind.u64 (bits BinOp.xor IntKind.u64 hh n1)] } w1
  fun (v1 : Value) (w4 : World) =>
  ∃ (n3 : Int),
  v1 = Value.int IntKind.u64 n3 ∧
  h1 w4 ∧
  K
  (Value.int IntKind.i64
  (IntKind.wrap IntKind.i64
  (bits BinOp.and IntKind.u64 n3 (IntKind.wrap IntKind.u64 (IntKind.wrap IntKind.i64 (n2 - (1 : Int)))))))
  w4)) ∧
  (decide (r < (0 : Int)) = true → K (Value.int IntKind.i64 (0 : Int)) w)) ∧
  (false = true → K (Value.int IntKind.i64 (0 : Int)) w)
theorem sketch_Sketch_Place_eq (g : Nat) (hh r : Int) (w : World) (K : Value → World → Prop) : fw Tryd.prog Tryd.f58 (annL []) (ordL [(3, [(0, 0), (1, 0), (2, 0), (3, 0), (4, 0), (5, 0), (9, 0), (10, 0), (11, 0), (6, 1), (7, 0), (12, 1), (13, 0), (14, 0), (8, 2), (15, 0), (16, 0), (17, 0)])]) [.pointer (some ⟨g, 0, none⟩), .int .u64 hh, .int .i64 r] w K = sketch_Sketch_Place_m g hh r w K := by kernel_rfl
theorem sketch_Sketch_Place_go (g : Nat) (hh r : Int) {w : World} {K : Value → World → Prop} (h : sketch_Sketch_Place_m g hh r w K) : Rets Tryd.prog 58 #[.pointer (some ⟨g, 0, none⟩), .int .u64 hh, .int .i64 r] w K :=
  calls_of_fw plain mixed Tryd.func58 (by kernel_rfl) (by rw [sketch_Sketch_Place_eq]; exact h)
def sketch_Sketch_Add_m (g : Nat) (hh : Int) (w : World) (K : Value → World → Prop) : Prop :=
  (false = true → K (Value.tuple { toList := [] }) w) ∧
  (false = false →
  ∃ (q1 : Option Addr),
  ∃ (q2 : Option Addr),
  ∃ (q3 : Option Addr),
  ∃ (q4 : Option Addr),
  (cellAt w (Addr.add (Addr.add { block := g, off := (0 : Nat) } (0 : Nat)) (0 : Nat)) (Value.pointer q1) ∧
  cellAt w (Addr.add (Addr.add { block := g, off := (0 : Nat) } (0 : Nat)) (1 : Nat)) (Value.pointer q2) ∧
  cellAt w (Addr.add (Addr.add { block := g, off := (0 : Nat) } (0 : Nat)) (2 : Nat)) (Value.pointer q3) ∧
  cellAt w (Addr.add (Addr.add { block := g, off := (0 : Nat) } (0 : Nat)) (3 : Nat)) (Value.pointer q4)) ∧
  ∃ (h1 : Nat → List Value → World → Prop),
  (∃ (k1 : Nat), h1 k1 [Value.int IntKind.i64 (0 : Int)] w) ∧
  ∀ (k2 : Nat) (w1 : World) (v1 v2 : Value) (n1 : Int) (v3 v4 v5 v6 v7 v8 v9 v10 v11 v12 : Value),
  h1 k2 [Value.int IntKind.i64 n1] w1 →
  (decide (n1 < (4 : Int)) = true →
  (0 : Int) ≤ n1 ∧
  n1 < (↑(4 : Nat) : Int) ∧
  ∃ (q5 : Option Addr),
  List.get?Internal (Array.toList { toList := [Value.pointer q1, Value.pointer q2, Value.pointer q3, Value.pointer q4] })
  (Int.toNat n1) =
  some (Value.pointer q5) ∧
  Rets Tryd.prog (58 : Nat)
  {
  toList := [Value.pointer (some { block := g, off := (0 : Nat) }), Value.int IntKind.u64 hh, Value.int IntKind.i64 n1] }
  w1 fun (v13 : Value) (w2 : World) =>
  ∃ (n2 : Int),
  v13 = Value.int IntKind.i64 n2 ∧
  Rets Tryd.prog (57 : Nat) { toList := [Value.pointer q5, Value.int IntKind.i64 n2] } w2
  fun (v14 : Value) (w3 : World) =>
  ∃ (b1 : Bool),
  v14 = Value.bool b1 ∧
  ∃ (k3 : Nat), k3 < k2 ∧ h1 k3 [Value.int IntKind.i64 (IntKind.wrap IntKind.i64 (n1 + (1 : Int)))] w3) ∧
  (decide (n1 < (4 : Int)) = false → K (Value.tuple { toList := [] }) w1))
theorem sketch_Sketch_Add_eq (g : Nat) (hh : Int) (w : World) (K : Value → World → Prop) : fw Tryd.prog Tryd.f30 (annL [(2, [(4, none), (5, none), (12, some 3), (13, none), (14, none), (15, none), (16, none), (17, none), (18, none), (19, none), (20, none), (21, none), (22, none)])]) (ordL []) [.pointer (some ⟨g, 0, none⟩), .int .u64 hh] w K = sketch_Sketch_Add_m g hh w K := by kernel_rfl
theorem sketch_Sketch_Add_go (g : Nat) (hh : Int) {w : World} {K : Value → World → Prop} (h : sketch_Sketch_Add_m g hh w K) : Rets Tryd.prog 30 #[.pointer (some ⟨g, 0, none⟩), .int .u64 hh] w K :=
  calls_of_fw plain mixed Tryd.func30 (by kernel_rfl) (by rw [sketch_Sketch_Add_eq]; exact h)
def sketch_Sketch_Count_m (g : Nat) (hh : Int) (w : World) (K : Value → World → Prop) : Prop :=
  (false = true → K (Value.int IntKind.i64 (0 : Int)) w) ∧
  (false = false →
  ∃ (q1 : Option Addr),
  ∃ (q2 : Option Addr),
  ∃ (q3 : Option Addr),
  ∃ (q4 : Option Addr),
  (cellAt w (Addr.add (Addr.add { block := g, off := (0 : Nat) } (0 : Nat)) (0 : Nat)) (Value.pointer q1) ∧
  cellAt w (Addr.add (Addr.add { block := g, off := (0 : Nat) } (0 : Nat)) (1 : Nat)) (Value.pointer q2) ∧
  cellAt w (Addr.add (Addr.add { block := g, off := (0 : Nat) } (0 : Nat)) (2 : Nat)) (Value.pointer q3) ∧
  cellAt w (Addr.add (Addr.add { block := g, off := (0 : Nat) } (0 : Nat)) (3 : Nat)) (Value.pointer q4)) ∧
  ∃ (h1 : Nat → List Value → World → Prop),
  (∃ (k1 : Nat), h1 k1 [Value.int IntKind.i64 (15 : Int), Value.int IntKind.i64 (0 : Int)] w) ∧
  ∀ (k2 : Nat) (w1 : World) (n1 : Int) (v1 v2 : Value) (n2 : Int) (v3 v4 v5 v6 v7 v8 v9 v10 v11 v12 v13 v14 : Value),
  h1 k2 [Value.int IntKind.i64 n1, Value.int IntKind.i64 n2] w1 →
  (decide (n2 < (4 : Int)) = true →
  (0 : Int) ≤ n2 ∧
  n2 < (↑(4 : Nat) : Int) ∧
  ∃ (q5 : Option Addr),
  List.get?Internal (Array.toList { toList := [Value.pointer q1, Value.pointer q2, Value.pointer q3, Value.pointer q4] })
  (Int.toNat n2) =
  some (Value.pointer q5) ∧
  Rets Tryd.prog (58 : Nat)
  {
  toList := [Value.pointer (some { block := g, off := (0 : Nat) }), Value.int IntKind.u64 hh, Value.int IntKind.i64 n2] }
  w1 fun (v15 : Value) (w2 : World) =>
  ∃ (n3 : Int),
  v15 = Value.int IntKind.i64 n3 ∧
  Rets Tryd.prog (60 : Nat) { toList := [Value.pointer q5, Value.int IntKind.i64 n3] } w2
  fun (v16 : Value) (w3 : World) =>
  ∃ (n4 : Int),
  v16 = Value.int IntKind.i64 n4 ∧
  ∃ (k3 : Nat),
  k3 < k2 ∧
  h1 k3 [Value.int IntKind.i64 (minI n1 n4), Value.int IntKind.i64 (IntKind.wrap IntKind.i64 (n2 + (1 : Int)))] w3) ∧
  (decide (n2 < (4 : Int)) = false → K (Value.int IntKind.i64 n1) w1))
theorem sketch_Sketch_Count_eq (g : Nat) (hh : Int) (w : World) (K : Value → World → Prop) : fw Tryd.prog Tryd.f32 (annL [(2, [(5, some 3), (6, none), (7, none), (14, some 3), (15, none), (16, none), (17, none), (18, none), (19, none), (20, none), (21, none), (22, none), (23, none), (24, none), (25, none), (26, none)])]) (ordL []) [.pointer (some ⟨g, 0, none⟩), .int .u64 hh] w K = sketch_Sketch_Count_m g hh w K := by kernel_rfl
theorem sketch_Sketch_Count_go (g : Nat) (hh : Int) {w : World} {K : Value → World → Prop} (h : sketch_Sketch_Count_m g hh w K) : Rets Tryd.prog 32 #[.pointer (some ⟨g, 0, none⟩), .int .u64 hh] w K :=
  calls_of_fw plain mixed Tryd.func32 (by kernel_rfl) (by rw [sketch_Sketch_Count_eq]; exact h)
def sketch_Sketch_Halve_m (g : Nat) (w : World) (K : Value → World → Prop) : Prop :=
  (false = true → K (Value.tuple { toList := [] }) w) ∧
  (false = false →
  ∃ (q1 : Option Addr),
  ∃ (q2 : Option Addr),
  ∃ (q3 : Option Addr),
  ∃ (q4 : Option Addr),
  (cellAt w (Addr.add (Addr.add { block := g, off := (0 : Nat) } (0 : Nat)) (0 : Nat)) (Value.pointer q1) ∧
  cellAt w (Addr.add (Addr.add { block := g, off := (0 : Nat) } (0 : Nat)) (1 : Nat)) (Value.pointer q2) ∧
  cellAt w (Addr.add (Addr.add { block := g, off := (0 : Nat) } (0 : Nat)) (2 : Nat)) (Value.pointer q3) ∧
  cellAt w (Addr.add (Addr.add { block := g, off := (0 : Nat) } (0 : Nat)) (3 : Nat)) (Value.pointer q4)) ∧
  ∃ (h1 : Nat → List Value → World → Prop),
  (∃ (k1 : Nat), h1 k1 [Value.int IntKind.i64 (0 : Int)] w) ∧
  ∀ (k2 : Nat) (w1 : World) (v1 : Value) (n1 : Int) (v2 v3 v4 v5 v6 : Value),
  h1 k2 [Value.int IntKind.i64 n1] w1 →
  (decide (n1 < (4 : Int)) = true →
  (0 : Int) ≤ n1 ∧
  n1 < (↑(4 : Nat) : Int) ∧
  ∃ (q5 : Option Addr),
  List.get?Internal (Array.toList { toList := [Value.pointer q1, Value.pointer q2, Value.pointer q3, Value.pointer q4] })
  (Int.toNat n1) =
  some (Value.pointer q5) ∧
  Rets Tryd.prog (56 : Nat) { toList := [Value.pointer q5] } w1 fun (v7 : Value) (w2 : World) =>
  v7 = Value.tuple { toList := [] } ∧
  ∃ (k3 : Nat), k3 < k2 ∧ h1 k3 [Value.int IntKind.i64 (IntKind.wrap IntKind.i64 (n1 + (1 : Int)))] w2) ∧
  (decide (n1 < (4 : Int)) = false → K (Value.tuple { toList := [] }) w1))
theorem sketch_Sketch_Halve_eq (g : Nat) (w : World) (K : Value → World → Prop) : fw Tryd.prog Tryd.f29 (annL [(2, [(3, none), (10, some 3), (11, none), (12, none), (13, none), (14, none), (15, none)])]) (ordL []) [.pointer (some ⟨g, 0, none⟩)] w K = sketch_Sketch_Halve_m g w K := by kernel_rfl
theorem sketch_Sketch_Halve_go (g : Nat) {w : World} {K : Value → World → Prop} (h : sketch_Sketch_Halve_m g w K) : Rets Tryd.prog 29 #[.pointer (some ⟨g, 0, none⟩)] w K :=
  calls_of_fw plain mixed Tryd.func29 (by kernel_rfl) (by rw [sketch_Sketch_Halve_eq]; exact h)
def cortadoref11_New_m (n s : Int) (w : World) (K : Value → World → Prop) : Prop :=
  NewR (48 : Nat) [Value.slice none (0 : Nat) (0 : Nat), Value.int IntKind.i64 (0 : Int), Value.int IntKind.u64 (0 : Int)]
  w fun (a1 : Addr) (w1 : World) =>
  Rets Tryd.prog (55 : Nat) { toList := [Value.int IntKind.i64 (maxI (1 : Int) (minI n (4096 : Int)))] } w1
  fun (v1 : Value) (w2 : World) =>
  ∃ (n1 : Int),
  v1 = Value.int IntKind.i64 n1 ∧
  NewR (48 : Nat) [Value.slice none (0 : Nat) (0 : Nat), Value.int IntKind.i64 (0 : Int), Value.int IntKind.u64 (0 : Int)]
  w2 fun (a2 : Addr) (w3 : World) =>
  StoreR a2 [Value.slice none (0 : Nat) (0 : Nat), Value.int IntKind.i64 n1, Value.int IntKind.u64 s] w3
  fun (w4 : World) =>
  ∃ (h1 : Nat → List Value → World → Prop),
  (∃ (k1 : Nat), h1 k1 [Value.int IntKind.i64 (0 : Int)] w4) ∧
  ∀ (k2 : Nat) (w5 : World) (n2 : Int) (v2 v3 v4 v5 v6 v7 v8 v9 v10 v11 v12 : Value),
  h1 k2 [Value.int IntKind.i64 n2] w5 →
  (decide (n2 < (4 : Int)) = true →
  Drw w5 fun (w6 : World) =>
  ∃ (h2 : World → Prop),
  h2 w6 ∧
  ∃ (q1 : Option Addr),
  ∃ (k3 : Nat),
  ∃ (k4 : Nat),
  (∀ (w7 : World), h2 w7 → World.cell? w7 (Addr.add a2 (0 : Nat)) = some (Value.slice q1 k3 k4)) ∧
  MakeR (3 : Nat) [Value.int IntKind.i64 (0 : Int)] (8 : Nat) n1 n1 w6 fun (a3 : Addr) (w8 : World) =>
  h2 w8 ∧
  NewR (67 : Nat) [Value.slice (some a3) (Int.toNat n1) (Int.toNat n1)] w8 fun (a4 : Addr) (w9 : World) =>
  h2 w9 ∧
  RunR Tryd.prog
  (builtinV Builtin.append { toList := [(46 : Nat), (46 : Nat)] } (nat_lit 46)
  { toList := [Value.slice q1 k3 k4, Value.slice (some a4) (1 : Nat) (1 : Nat)] })
  w9 fun (v13 : Value) (w10 : World) =>
  ∃ (q2 : Option Addr),
  ∃ (k5 : Nat),
  ∃ (k6 : Nat),
  v13 = Value.slice q2 k5 k6 ∧
  StoreR (Addr.add a2 (0 : Nat)) [Value.slice q2 k5 k6] w10 fun (w11 : World) =>
  ∃ (k7 : Nat), k7 < k2 ∧ h1 k7 [Value.int IntKind.i64 (IntKind.wrap IntKind.i64 (n2 + (1 : Int)))] w11) ∧
  (decide (n2 < (4 : Int)) = false →
  ∃ (q3 : Option Addr),
  ∃ (k8 : Nat),
  ∃ (k9 : Nat),
  ∃ (n3 : Int),
  ∃ (n4 : Int),
  (cellAt w5 (Addr.add a2 (0 : Nat)) (Value.slice q3 k8 k9) ∧
  cellAt w5 (Addr.add a2 (1 : Nat)) (Value.int IntKind.i64 n3) ∧
  cellAt w5 (Addr.add a2 (2 : Nat)) (Value.int IntKind.u64 n4)) ∧
  StoreR a1 [Value.slice q3 k8 k9, Value.int IntKind.i64 n3, Value.int IntKind.u64 n4] w5 fun (w12 : World) =>
  ∃ (q4 : Option Addr),
  ∃ (k10 : Nat),
  ∃ (k11 : Nat),
  ∃ (n5 : Int),
  ∃ (n6 : Int),
  (cellAt w12 (Addr.add a1 (0 : Nat)) (Value.slice q4 k10 k11) ∧
  cellAt w12 (Addr.add a1 (1 : Nat)) (Value.int IntKind.i64 n5) ∧
  cellAt w12 (Addr.add a1 (2 : Nat)) (Value.int IntKind.u64 n6)) ∧
  K (Value.agg { toList := [Value.slice q4 k10 k11, Value.int IntKind.i64 n5, Value.int IntKind.u64 n6] }) w12)
theorem cortadoref11_New_eq (n s : Int) (w : World) (K : Value → World → Prop) : fw Tryd.prog Tryd.f28 (annL [(1, [(7, some 3), (15, none), (16, none), (17, none), (18, none), (19, none), (20, none), (21, none), (22, none), (23, none), (24, none), (25, none)])]) (ordL [(6, [(0, 0), (2, 0), (1, 1), (3, 2), (4, 2), (5, 3), (6, 0), (7, 3)])]) [.int .i64 n, .int .u64 s] w K = cortadoref11_New_m n s w K := by kernel_rfl
theorem cortadoref11_New_go (n s : Int) {w : World} {K : Value → World → Prop} (h : cortadoref11_New_m n s w K) : Rets Tryd.prog 28 #[.int .i64 n, .int .u64 s] w K :=
  calls_of_fw plain mixed Tryd.func28 (by kernel_rfl) (by rw [cortadoref11_New_eq]; exact h)
def cortadoref11_Place_m (q : Option Addr) (l c : Nat) (wd s hh r : Int) (w : World) (K : Value → World → Prop) : Prop :=
  NewR (48 : Nat) [Value.slice q l c, Value.int IntKind.i64 wd, Value.int IntKind.u64 s] w fun (a1 : Addr) (w1 : World) =>
  (decide (r < (0 : Int)) = false →
  (decide (r > (3 : Int)) = true → K (Value.int IntKind.i64 (0 : Int)) w1) ∧
  (decide (r > (3 : Int)) = false →
  ∃ (n1 : Int),
  cellAt w1 (Addr.add a1 (2 : Nat)) (Value.int IntKind.u64 n1) ∧
  Rets Tryd.prog (69 : Nat)
  {
  toList :=
  [Value.int IntKind.u64
  (IntKind.wrap IntKind.u64 (IntKind.wrap IntKind.u64 (n1 + IntKind.wrap IntKind.u64 r) + (1 : Int)))] }
  w1 fun (v1 : Value) (w2 : World) =>
  ∃ (n2 : Int),
  v1 = Value.int IntKind.u64 n2 ∧
  Drw w2 fun (w3 : World) =>
  ∃ (h1 : World → Prop),
  h1 w3 ∧
  ∃ (n3 : Int),
  (∀ (w4 : World), h1 w4 → World.cell? w4 (Addr.add a1 (1 : Nat)) = some (Value.int IntKind.i64 n3)) ∧
  Rets Tryd.prog (69 : Nat) { toList := [Value.int IntKind.u64 (bits BinOp.xor IntKind.u64 hh n2)] } w3
  fun (v2 : Value) (w5 : World) =>
  ∃ (n4 : Int),
  v2 = Value.int IntKind.u64 n4 ∧
  h1 w5 ∧
  IntKind.wrap IntKind.u64 n3 ≠ (0 : Int) ∧
  K (Value.int IntKind.i64 (IntKind.wrap IntKind.i64 (Int.tmod n4 (IntKind.wrap IntKind.u64 n3)))) w5)) ∧
  (decide (r < (0 : Int)) = true → K (Value.int IntKind.i64 (0 : Int)) w1)
theorem cortadoref11_Place_eq (q : Option Addr) (l c : Nat) (wd s hh r : Int) (w : World) (K : Value → World → Prop) : fw Tryd.prog Tryd.f59 (annL []) (ordL [(4, [(0, 0), (1, 0), (2, 0), (4, 0), (5, 1), (6, 0), (3, 2), (7, 0), (8, 0), (9, 0)])]) [.agg #[.slice q l c, .int .i64 wd, .int .u64 s], .int .u64 hh, .int .i64 r] w K = cortadoref11_Place_m q l c wd s hh r w K := by kernel_rfl
theorem cortadoref11_Place_go (q : Option Addr) (l c : Nat) (wd s hh r : Int) {w : World} {K : Value → World → Prop} (h : cortadoref11_Place_m q l c wd s hh r w K) : Rets Tryd.prog 59 #[.agg #[.slice q l c, .int .i64 wd, .int .u64 s], .int .u64 hh, .int .i64 r] w K :=
  calls_of_fw plain mixed Tryd.func59 (by kernel_rfl) (by rw [cortadoref11_Place_eq]; exact h)
def cortadoref11_Lonely_m (q : Option Addr) (l c : Nat) (wd s hh : Int) (q2 : Option Addr) (l2 c2 : Nat) (w : World) (K : Value → World → Prop) : Prop :=
  NewR (48 : Nat) [Value.slice q l c, Value.int IntKind.i64 wd, Value.int IntKind.u64 s] w fun (a1 : Addr) (w1 : World) =>
  ∃ (h1 : Nat → List Value → World → Prop),
  (∃ (k1 : Nat), h1 k1 [Value.int IntKind.i64 (0 : Int)] w1) ∧
  ∀ (k2 : Nat) (w2 : World) (v1 : Value) (n1 : Int)
  (v2 v3 v4 v5 v6 v7 v8 v9 v10 v11 v12 v13 v14 v15 v16 v17 v18 v19 v20 v21 v22 v23 v24 v25 v26 v27 v28 v29 v30 v31 v32 v33
  v34 : Value),
  h1 k2 [Value.int IntKind.i64 n1] w2 →
  (decide (n1 < (4 : Int)) = true →
  ∃ (h2 : Nat → List Value → World → Prop),
  (∃ (k3 : Nat), h2 k3 [Value.bool true, Value.int IntKind.i64 (0 : Int)] w2) ∧
  ∀ (k4 : Nat) (w3 : World) (b1 : Bool) (n2 : Int)
  (v35 v36 v37 v38 v39 v40 v41 v42 v43 v44 v45 v46 v47 v48 v49 v50 v51 v52 v53 v54 v55 v56 v57 v58 v59 v60 : Value),
  h2 k4 [Value.bool b1, Value.int IntKind.i64 n2] w3 →
  (decide (n2 < (↑l2 : Int)) = true →
  Drw w3 fun (w4 : World) =>
  ∃ (h3 : World → Prop),
  h3 w4 ∧
  (0 : Int) ≤ n2 ∧
  n2 < (↑l2 : Int) ∧
  someR q2 fun (a2 : Addr) =>
  ∃ (n3 : Int),
  (∀ (w5 : World), h3 w5 → World.cell? w5 (Addr.add a2 (Int.toNat n2 * (1 : Nat))) = some (Value.int IntKind.u64 n3)) ∧
  ((n3 != hh) = true →
  (0 : Int) ≤ n2 ∧
  n2 < (↑l2 : Int) ∧
  someR q2 fun (a3 : Addr) =>
  ∃ (q1 : Option Addr),
  ∃ (k5 : Nat),
  ∃ (k6 : Nat),
  ∃ (n4 : Int),
  ∃ (n5 : Int),
  ((∀ (w6 : World), h3 w6 → World.cell? w6 (Addr.add a1 (0 : Nat)) = some (Value.slice q1 k5 k6)) ∧
  (∀ (w7 : World), h3 w7 → World.cell? w7 (Addr.add a1 ((0 : Nat) + (1 : Nat))) = some (Value.int IntKind.i64 n4)) ∧
  ∀ (w8 : World),
  h3 w8 → World.cell? w8 (Addr.add a1 ((0 : Nat) + (1 : Nat) + (1 : Nat))) = some (Value.int IntKind.u64 n5)) ∧
  ∃ (n6 : Int),
  (∀ (w9 : World), h3 w9 → World.cell? w9 (Addr.add a3 (Int.toNat n2 * (1 : Nat))) = some (Value.int IntKind.u64 n6)) ∧
  ∃ (q2 : Option Addr),
  ∃ (k7 : Nat),
  ∃ (k8 : Nat),
  ∃ (n7 : Int),
  ∃ (n8 : Int),
  ((∀ (w10 : World), h3 w10 → World.cell? w10 (Addr.add a1 (0 : Nat)) = some (Value.slice q2 k7 k8)) ∧
  (∀ (w11 : World), h3 w11 → World.cell? w11 (Addr.add a1 ((0 : Nat) + (1 : Nat))) = some (Value.int IntKind.i64 n7)) ∧
  ∀ (w12 : World),
  h3 w12 → World.cell? w12 (Addr.add a1 ((0 : Nat) + (1 : Nat) + (1 : Nat))) = some (Value.int IntKind.u64 n8)) ∧
  Rets Tryd.prog (59 : Nat)
  {
  toList :=
  [Value.agg { toList := [Value.slice q1 k5 k6, Value.int IntKind.i64 n4, Value.int IntKind.u64 n5] },
  Value.int IntKind.u64 n6, Value.int IntKind.i64 n1] }
  w4 fun (v61 : Value) (w13 : World) =>
  ∃ (n9 : Int),
  v61 = Value.int IntKind.i64 n9 ∧
  h3 w13 ∧
  Rets Tryd.prog (59 : Nat)
  {
  toList :=
  [Value.agg { toList := [Value.slice q2 k7 k8, Value.int IntKind.i64 n7, Value.int IntKind.u64 n8] },
  Value.int IntKind.u64 hh, Value.int IntKind.i64 n1] }
  w13 fun (v62 : Value) (w14 : World) =>
  ∃ (n10 : Int),
  v62 = Value.int IntKind.i64 n10 ∧
  ((n9 == n10) = true →
  ∃ (k9 : Nat),
  k9 < k4 ∧ h2 k9 [Value.bool false, Value.int IntKind.i64 (IntKind.wrap IntKind.i64 (n2 + (1 : Int)))] w14) ∧
  ((n9 == n10) = false →
  ∃ (k10 : Nat),
  k10 < k4 ∧ h2 k10 [Value.bool b1, Value.int IntKind.i64 (IntKind.wrap IntKind.i64 (n2 + (1 : Int)))] w14)) ∧
  ((n3 != hh) = false →
  ∃ (k11 : Nat),
  k11 < k4 ∧ h2 k11 [Value.bool b1, Value.int IntKind.i64 (IntKind.wrap IntKind.i64 (n2 + (1 : Int)))] w4)) ∧
  (decide (n2 < (↑l2 : Int)) = false →
  (b1 = true → K (Value.bool true) w3) ∧
  (b1 = false →
  ∃ (k12 : Nat), k12 < k2 ∧ h1 k12 [Value.int IntKind.i64 (IntKind.wrap IntKind.i64 (n1 + (1 : Int)))] w3))) ∧
  (decide (n1 < (4 : Int)) = false → K (Value.bool false) w2)
theorem cortadoref11_Lonely_eq (q : Option Addr) (l c : Nat) (wd s hh : Int) (q2 : Option Addr) (l2 c2 : Nat) (w : World) (K : Value → World → Prop) : fw Tryd.prog Tryd.f31 (annL [(1, [(6, none), (7, some 3), (8, none), (9, none), (10, none), (11, none), (12, none), (13, none), (14, none), (15, none), (16, none), (17, none), (18, none), (19, none), (20, none), (21, none), (22, none), (23, none), (24, none), (25, none), (26, none), (27, none), (28, none), (29, none), (30, none), (31, none), (32, none), (33, none), (34, none), (35, none), (36, none), (37, none), (38, none), (39, none), (40, none)]), (5, [(8, some 4), (9, some 3), (14, none), (15, none), (16, none), (17, none), (18, none), (19, none), (20, none), (21, none), (22, none), (23, none), (24, none), (25, none), (26, none), (27, none), (28, none), (29, none), (30, none), (31, none), (32, none), (33, none), (34, none), (35, none), (36, none), (37, none), (38, none), (39, none)])]) (ordL [(8, [(0, 0), (1, 0), (2, 0), (4, 0), (3, 1), (5, 0), (6, 0), (8, 0), (9, 0), (10, 0), (12, 0), (15, 0), (16, 0), (7, 1), (11, 1), (14, 1), (13, 2), (17, 3), (18, 0), (19, 0)])]) [.agg #[.slice q l c, .int .i64 wd, .int .u64 s], .int .u64 hh, .slice q2 l2 c2] w K = cortadoref11_Lonely_m q l c wd s hh q2 l2 c2 w K := by kernel_rfl
theorem cortadoref11_Lonely_go (q : Option Addr) (l c : Nat) (wd s hh : Int) (q2 : Option Addr) (l2 c2 : Nat) {w : World} {K : Value → World → Prop} (h : cortadoref11_Lonely_m q l c wd s hh q2 l2 c2 w K) : Rets Tryd.prog 31 #[.agg #[.slice q l c, .int .i64 wd, .int .u64 s], .int .u64 hh, .slice q2 l2 c2] w K :=
  calls_of_fw plain mixed Tryd.func31 (by kernel_rfl) (by rw [cortadoref11_Lonely_eq]; exact h)
def cortadolaw11_awake_m  (w : World) (K : Value → World → Prop) : Prop :=
  Rets Tryd.prog (27 : Nat) { toList := [Value.int IntKind.i64 (1 : Int), Value.int IntKind.u64 (0 : Int)] } w
  fun (v1 : Value) (w1 : World) =>
  ∃ (q1 : Option Addr),
  v1 = Value.pointer q1 ∧
  Rets Tryd.prog (30 : Nat) { toList := [Value.pointer q1, Value.int IntKind.u64 (5 : Int)] } w1
  fun (v2 : Value) (w2 : World) =>
  v2 = Value.tuple { toList := [] } ∧
  Rets Tryd.prog (32 : Nat) { toList := [Value.pointer q1, Value.int IntKind.u64 (9 : Int)] } w2
  fun (v3 : Value) (w3 : World) =>
  ∃ (n1 : Int),
  v3 = Value.int IntKind.i64 n1 ∧
  ((n1 == (1 : Int)) = true →
  Rets Tryd.prog (52 : Nat) { toList := [Value.pointer q1] } w3 fun (v4 : Value) (w4 : World) =>
  ∃ (n2 : Int), v4 = Value.int IntKind.i64 n2 ∧ K (Value.bool (n2 == (1 : Int))) w4) ∧
  ((n1 == (1 : Int)) = false → K (Value.bool false) w3)
theorem cortadolaw11_awake_eq  (w : World) (K : Value → World → Prop) : fw Tryd.prog Tryd.f26 (annL []) (ordL []) [] w K = cortadolaw11_awake_m  w K := by kernel_rfl
theorem cortadolaw11_awake_go  {w : World} {K : Value → World → Prop} (h : cortadolaw11_awake_m  w K) : Rets Tryd.prog 26 #[] w K :=
  calls_of_fw plain mixed Tryd.func26 (by kernel_rfl) (by rw [cortadolaw11_awake_eq]; exact h)
def cortadolaw11_SketchApart_m (n s : Int) (q : Option Addr) (l c : Nat) (w : World) (K : Value → World → Prop) : Prop :=
  (decide (n > (256 : Int)) = false →
  (decide ((↑l : Int) > (60 : Int)) = true →
  Rets Tryd.prog (26 : Nat) { toList := [] } w fun (v1 : Value) (w1 : World) =>
  ∃ (b1 : Bool), v1 = Value.bool b1 ∧ K (Value.bool b1) w1) ∧
  (decide ((↑l : Int) > (60 : Int)) = false →
  Rets Tryd.prog (27 : Nat) { toList := [Value.int IntKind.i64 n, Value.int IntKind.u64 s] } w
  fun (v2 : Value) (w2 : World) =>
  ∃ (q1 : Option Addr),
  v2 = Value.pointer q1 ∧
  Rets Tryd.prog (28 : Nat) { toList := [Value.int IntKind.i64 n, Value.int IntKind.u64 s] } w2
  fun (v3 : Value) (w3 : World) =>
  ∃ (q2 : Option Addr),
  ∃ (k1 : Nat),
  ∃ (k2 : Nat),
  ∃ (n1 : Int),
  ∃ (n2 : Int),
  v3 = Value.agg { toList := [Value.slice q2 k1 k2, Value.int IntKind.i64 n1, Value.int IntKind.u64 n2] } ∧
  NewR (48 : Nat) [Value.slice none (0 : Nat) (0 : Nat), Value.int IntKind.i64 (0 : Int), Value.int IntKind.u64 (0 : Int)]
  w3 fun (a1 : Addr) (w4 : World) =>
  StoreR a1 [Value.slice q2 k1 k2, Value.int IntKind.i64 n1, Value.int IntKind.u64 n2] w4 fun (w5 : World) =>
  ∃ (h1 : Nat → List Value → World → Prop),
  (∃ (k3 : Nat), h1 k3 [Value.slice none (0 : Nat) (0 : Nat), Value.int IntKind.i64 (0 : Int)] w5) ∧
  ∀ (k4 : Nat) (w6 : World) (q3 : Option Addr) (k5 k6 : Nat) (n3 : Int)
  (v4 v5 v6 v7 v8 v9 v10 v11 v12 v13 v14 v15 v16 v17 v18 v19 v20 v21 v22 v23 v24 v25 v26 v27 v28 v29 v30 v31 v32 v33 :
  Value),
  h1 k4 [Value.slice q3 k5 k6, Value.int IntKind.i64 n3] w6 →
  (decide (n3 < (↑l : Int)) = true →
  (0 : Int) ≤ n3 ∧
  n3 < (↑l : Int) ∧
  someR q fun (a2 : Addr) =>
  ∃ (n4 : Int),
  cellAt w6 (Addr.add (Addr.add a2 (Int.toNat n3 * (2 : Nat))) (0 : Nat)) (Value.int IntKind.u64 n4) ∧
  (8 : Int) ≠ (0 : Int) ∧
  (decide (Int.tmod n4 (8 : Int) ≥ (6 : Int)) = true →
  Rets Tryd.prog (29 : Nat) { toList := [Value.pointer q1] } w6 fun (v34 : Value) (w7 : World) =>
  v34 = Value.tuple { toList := [] } ∧
  ∃ (k7 : Nat),
  k7 < k4 ∧ h1 k7 [Value.slice q3 k5 k6, Value.int IntKind.i64 (IntKind.wrap IntKind.i64 (n3 + (1 : Int)))] w7) ∧
  (decide (Int.tmod n4 (8 : Int) ≥ (6 : Int)) = false →
  (0 : Int) ≤ n3 ∧
  n3 < (↑l : Int) ∧
  someR q fun (a3 : Addr) =>
  ∃ (n5 : Int),
  cellAt w6 (Addr.add (Addr.add a3 (Int.toNat n3 * (2 : Nat))) (1 : Nat)) (Value.int IntKind.u64 n5) ∧
  Rets Tryd.prog (30 : Nat) { toList := [Value.pointer q1, Value.int IntKind.u64 n5] } w6
  fun (v35 : Value) (w8 : World) =>
  v35 = Value.tuple { toList := [] } ∧
  (0 : Int) ≤ n3 ∧
  n3 < (↑l : Int) ∧
  someR q fun (a4 : Addr) =>
  ∃ (n6 : Int),
  cellAt w8 (Addr.add (Addr.add a4 (Int.toNat n3 * (2 : Nat))) (1 : Nat)) (Value.int IntKind.u64 n6) ∧
  NewR (33 : Nat) [Value.int IntKind.u64 n6] w8 fun (a5 : Addr) (w9 : World) =>
  RunR Tryd.prog
  (builtinV Builtin.append { toList := [(50 : Nat), (50 : Nat)] } (nat_lit 50)
  { toList := [Value.slice q3 k5 k6, Value.slice (some a5) (1 : Nat) (1 : Nat)] })
  w9 fun (v36 : Value) (w10 : World) =>
  ∃ (q4 : Option Addr),
  ∃ (k8 : Nat),
  ∃ (k9 : Nat),
  v36 = Value.slice q4 k8 k9 ∧
  ∃ (k10 : Nat),
  k10 < k4 ∧ h1 k10 [Value.slice q4 k8 k9, Value.int IntKind.i64 (IntKind.wrap IntKind.i64 (n3 + (1 : Int)))] w10)) ∧
  (decide (n3 < (↑l : Int)) = false →
  ∃ (h2 : Nat → List Value → World → Prop),
  (∃ (k11 : Nat), h2 k11 [Value.int IntKind.i64 (0 : Int)] w6) ∧
  ∀ (k12 : Nat) (w11 : World) (v37 : Value) (n7 : Int)
  (v38 v39 v40 v41 v42 v43 v44 v45 v46 v47 v48 v49 v50 v51 v52 v53 v54 v55 v56 v57 v58 v59 v60 v61 v62 v63 v64 v65 v66 v67
  v68 v69 v70 v71 v72 v73 v74 v75 v76 v77 v78 v79 v80 v81 v82 v83 v84 v85 v86 v87 v88 v89 : Value),
  h2 k12 [Value.int IntKind.i64 n7] w11 →
  (decide (n7 < (↑k5 : Int)) = true →
  Drw w11 fun (w12 : World) =>
  (0 : Int) ≤ n7 ∧
  n7 < (↑k5 : Int) ∧
  someR q3 fun (a6 : Addr) =>
  ∃ (q5 : Option Addr),
  ∃ (k13 : Nat),
  ∃ (k14 : Nat),
  ∃ (n8 : Int),
  ∃ (n9 : Int),
  (cellAt w12 (Addr.add a1 (0 : Nat)) (Value.slice q5 k13 k14) ∧
  cellAt w12 (Addr.add a1 (1 : Nat)) (Value.int IntKind.i64 n8) ∧
  cellAt w12 (Addr.add a1 (2 : Nat)) (Value.int IntKind.u64 n9)) ∧
  ∃ (n10 : Int),
  cellAt w12 (Addr.add a6 (Int.toNat n7 * (1 : Nat))) (Value.int IntKind.u64 n10) ∧
  Rets Tryd.prog (31 : Nat)
  {
  toList :=
  [Value.agg { toList := [Value.slice q5 k13 k14, Value.int IntKind.i64 n8, Value.int IntKind.u64 n9] },
  Value.int IntKind.u64 n10, Value.slice q3 k5 k6] }
  w12 fun (v90 : Value) (w13 : World) =>
  ∃ (b2 : Bool),
  v90 = Value.bool b2 ∧
  ((!b2) = true →
  ∃ (k15 : Nat), k15 < k12 ∧ h2 k15 [Value.int IntKind.i64 (IntKind.wrap IntKind.i64 (n7 + (1 : Int)))] w13) ∧
  ((!b2) = false →
  ∃ (h3 : Nat → List Value → World → Prop),
  (∃ (k16 : Nat), h3 k16 [Value.int IntKind.i64 (0 : Int), Value.int IntKind.i64 (0 : Int)] w13) ∧
  ∀ (k17 : Nat) (w14 : World) (n11 n12 : Int)
  (v91 v92 v93 v94 v95 v96 v97 v98 v99 v100 v101 v102 v103 v104 v105 v106 v107 v108 v109 v110 v111 v112 v113 v114 v115
  v116 v117 v118 : Value),
  h3 k17 [Value.int IntKind.i64 n11, Value.int IntKind.i64 n12] w14 →
  (decide (n12 < (↑l : Int)) = true →
  (0 : Int) ≤ n12 ∧
  n12 < (↑l : Int) ∧
  someR q fun (a7 : Addr) =>
  ∃ (n13 : Int),
  cellAt w14 (Addr.add (Addr.add a7 (Int.toNat n12 * (2 : Nat))) (0 : Nat)) (Value.int IntKind.u64 n13) ∧
  (8 : Int) ≠ (0 : Int) ∧
  (decide (Int.tmod n13 (8 : Int) ≥ (6 : Int)) = true →
  (2 : Int) ≠ (0 : Int) ∧
  ∃ (k18 : Nat),
  k18 < k17 ∧
  h3 k18
  [Value.int IntKind.i64 (IntKind.wrap IntKind.i64 (Int.tdiv n11 (2 : Int))),
  Value.int IntKind.i64 (IntKind.wrap IntKind.i64 (n12 + (1 : Int)))]
  w14) ∧
  (decide (Int.tmod n13 (8 : Int) ≥ (6 : Int)) = false →
  Drw w14 fun (w15 : World) =>
  (0 : Int) ≤ n12 ∧
  n12 < (↑l : Int) ∧
  someR q fun (a8 : Addr) =>
  (0 : Int) ≤ n7 ∧
  n7 < (↑k5 : Int) ∧
  someR q3 fun (a9 : Addr) =>
  ∃ (n14 : Int),
  cellAt w15 (Addr.add (Addr.add a8 (Int.toNat n12 * (2 : Nat))) (1 : Nat)) (Value.int IntKind.u64 n14) ∧
  ∃ (n15 : Int),
  cellAt w15 (Addr.add a9 (Int.toNat n7 * (1 : Nat))) (Value.int IntKind.u64 n15) ∧
  ((n14 == n15) = true →
  ∃ (k19 : Nat),
  k19 < k17 ∧
  h3 k19
  [Value.int IntKind.i64 (minI (15 : Int) (IntKind.wrap IntKind.i64 (n11 + (1 : Int)))),
  Value.int IntKind.i64 (IntKind.wrap IntKind.i64 (n12 + (1 : Int)))]
  w15) ∧
  ((n14 == n15) = false →
  ∃ (k20 : Nat),
  k20 < k17 ∧
  h3 k20 [Value.int IntKind.i64 n11, Value.int IntKind.i64 (IntKind.wrap IntKind.i64 (n12 + (1 : Int)))] w15))) ∧
  (decide (n12 < (↑l : Int)) = false →
  (0 : Int) ≤ n7 ∧
  n7 < (↑k5 : Int) ∧
  someR q3 fun (a10 : Addr) =>
  ∃ (n16 : Int),
  cellAt w14 (Addr.add a10 (Int.toNat n7 * (1 : Nat))) (Value.int IntKind.u64 n16) ∧
  Rets Tryd.prog (32 : Nat) { toList := [Value.pointer q1, Value.int IntKind.u64 n16] } w14
  fun (v119 : Value) (w16 : World) =>
  ∃ (n17 : Int),
  v119 = Value.int IntKind.i64 n17 ∧
  ((n17 != n11) = true → K (Value.bool false) w16) ∧
  ((n17 != n11) = false →
  ∃ (k21 : Nat), k21 < k12 ∧ h2 k21 [Value.int IntKind.i64 (IntKind.wrap IntKind.i64 (n7 + (1 : Int)))] w16)))) ∧
  (decide (n7 < (↑k5 : Int)) = false →
  Rets Tryd.prog (26 : Nat) { toList := [] } w11 fun (v120 : Value) (w17 : World) =>
  ∃ (b3 : Bool), v120 = Value.bool b3 ∧ K (Value.bool b3) w17)))) ∧
  (decide (n > (256 : Int)) = true →
  Rets Tryd.prog (26 : Nat) { toList := [] } w fun (v121 : Value) (w18 : World) =>
  ∃ (b4 : Bool), v121 = Value.bool b4 ∧ K (Value.bool b4) w18)
theorem cortadolaw11_SketchApart_eq (n s : Int) (q : Option Addr) (l c : Nat) (w : World) (K : Value → World → Prop) : fw Tryd.prog Tryd.f5 (annL [(2, [(9, some 50), (10, some 3), (28, none), (29, none), (30, none), (31, none), (32, none), (33, none), (34, none), (35, none), (36, none), (37, none), (38, none), (39, none), (40, none), (41, none), (42, none), (43, none), (44, none), (45, none), (46, none), (47, none), (48, none), (49, none), (50, none), (51, none), (52, none), (53, none), (54, none), (55, none), (56, none), (57, none)]), (7, [(6, none), (11, some 3), (12, none), (13, none), (58, none), (59, none), (60, none), (61, none), (62, none), (63, none), (64, none), (65, none), (66, none), (67, none), (68, none), (69, none), (70, none), (71, none), (72, none), (73, none), (74, none), (75, none), (76, none), (77, none), (78, none), (79, none), (80, none), (81, none), (82, none), (83, none), (84, none), (85, none), (86, none), (87, none), (88, none), (89, none), (90, none), (91, none), (92, none), (93, none), (94, none), (95, none), (96, none), (97, none), (98, none), (99, none), (100, none), (101, none), (102, none), (103, none), (104, none), (105, none), (106, none), (107, none)]), (12, [(12, some 3), (13, some 3), (72, none), (73, none), (74, none), (75, none), (76, none), (77, none), (78, none), (79, none), (80, none), (81, none), (82, none), (83, none), (84, none), (85, none), (86, none), (87, none), (88, none), (89, none), (90, none), (91, none), (92, none), (93, none), (94, none), (95, none), (96, none), (97, none), (98, none), (99, none)])]) (ordL [(15, [(1, 0), (2, 0), (3, 0), (5, 0), (0, 1), (4, 1), (6, 3), (7, 0)]), (22, [(0, 0), (1, 0), (2, 0), (3, 0), (5, 0), (6, 0), (7, 0), (4, 1), (8, 1), (9, 0)])]) [.int .i64 n, .int .u64 s, .slice q l c] w K = cortadolaw11_SketchApart_m n s q l c w K := by kernel_rfl
theorem cortadolaw11_SketchApart_go (n s : Int) (q : Option Addr) (l c : Nat) {w : World} {K : Value → World → Prop} (h : cortadolaw11_SketchApart_m n s q l c w K) : Rets Tryd.prog 5 #[.int .i64 n, .int .u64 s, .slice q l c] w K :=
  calls_of_fw plain mixed Tryd.func5 (by kernel_rfl) (by rw [cortadolaw11_SketchApart_eq]; exact h)
end Go.Proofs.YtipcbhaeoeghnaaDoor.Eng
