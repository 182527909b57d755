/- What the code of these functions asks for: printed by a program of this session's (gens.py) out of the seat's own functions; the kernel checks each row. -/
import Derived.Test.YtianklbklggboaaEngH
import Derived.Test.YtianklbklggboaaProg
import Derived.Test.YtianklbklggboaaBase
namespace Go.Proofs.Ytianklbklggboaa.Eng
open Go Go.Proofs
set_option linter.unusedVariables false
set_option maxRecDepth 1000000
def cortadoref02_Cut_m (n : Int) (w : World) (K : Value → World → Prop) : Prop :=
  (decide (n < (0 : Int)) = true → K (Value.int IntKind.i64 (0 : Int)) w) ∧
  (decide (n < (0 : Int)) = false →
  Rets Try.prog (26 : Nat) { toList := [Value.int IntKind.i64 n] } w fun (v1 : Value) (w1 : World) =>
  ∃ (b1 : Bool),
  v1 = Value.bool b1 ∧
  ((!b1) = true → K (Value.int IntKind.i64 (4611686018427387904 : Int)) w1) ∧
  ((!b1) = false → K (Value.int IntKind.i64 n) w1))
theorem cortadoref02_Cut_eq (n : Int) (w : World) (K : Value → World → Prop) : fw Try.prog Try.f11 (annL []) (ordL []) [.int .i64 n] w K = cortadoref02_Cut_m n w K := by kernel_rfl
theorem cortadoref02_Cut_go (n : Int) {w : World} {K : Value → World → Prop} (h : cortadoref02_Cut_m n w K) : Rets Try.prog 11 #[.int .i64 n] w K :=
  calls_of_fw plain mixed Try.func11 (by kernel_rfl) (by rw [cortadoref02_Cut_eq]; exact h)
def cortadoref02_Right_m (n : Int) (w : World) (K : Value → World → Prop) : Prop :=
  (decide (n ≥ (0 : Int)) = true → K (Value.bool (decide (n ≤ (4611686018427387904 : Int)))) w) ∧
  (decide (n ≥ (0 : Int)) = false → K (Value.bool false) w)
theorem cortadoref02_Right_eq (n : Int) (w : World) (K : Value → World → Prop) : fw Try.prog Try.f26 (annL []) (ordL []) [.int .i64 n] w K = cortadoref02_Right_m n w K := by kernel_rfl
theorem cortadoref02_Right_go (n : Int) {w : World} {K : Value → World → Prop} (h : cortadoref02_Right_m n w K) : Rets Try.prog 26 #[.int .i64 n] w K :=
  calls_of_fw plain mixed Try.func26 (by kernel_rfl) (by rw [cortadoref02_Right_eq]; exact h)
def cortadoref07_Same_m (q : Option Addr) (l c : Nat) (q2 : Option Addr) (l2 c2 : Nat) (w : World) (K : Value → World → Prop) : Prop :=
  (((↑l : Int) != (↑l2 : Int)) = true → K (Value.bool false) w) ∧
  (((↑l : Int) != (↑l2 : Int)) = false →
  ∃ (h1 : Nat → List Value → World → Prop),
  (∃ (k1 : Nat), h1 k1 [Value.int IntKind.i64 (0 : Int)] w) ∧
  ∀ (k2 : Nat) (w1 : World) (v1 : Value) (n1 : Int) (v2 v3 v4 v5 v6 v7 v8 v9 v10 v11 v12 v13 v14 v15 v16 : Value),
  h1 k2 [Value.int IntKind.i64 n1] w1 →
  (decide (n1 < (↑l : Int)) = true →
  Drw w1 fun (w2 : World) =>
  (0 : Int) ≤ n1 ∧
  n1 < (↑l : Int) ∧
  someR q fun (a1 : Addr) =>
  (0 : Int) ≤ n1 ∧
  n1 < (↑l2 : Int) ∧
  someR q2 fun (a2 : Addr) =>
  ∃ (n2 : Int),
  cellAt w2 (Addr.add a1 (Int.toNat n1 * (1 : Nat))) (Value.int IntKind.i64 n2) ∧
  ∃ (n3 : Int),
  cellAt w2 (Addr.add a2 (Int.toNat n1 * (1 : Nat))) (Value.int IntKind.i64 n3) ∧
  ((n2 != n3) = true → K (Value.bool false) w2) ∧
  ((n2 != n3) = false →
  ∃ (k3 : Nat), k3 < k2 ∧ h1 k3 [Value.int IntKind.i64 (IntKind.wrap IntKind.i64 (n1 + (1 : Int)))] w2)) ∧
  (decide (n1 < (↑l : Int)) = false → K (Value.bool true) w1))
theorem cortadoref07_Same_eq (q : Option Addr) (l c : Nat) (q2 : Option Addr) (l2 c2 : Nat) (w : World) (K : Value → World → Prop) : fw Try.prog Try.f31 (annL [(2, [(4, none), (5, some 3), (11, none), (12, none), (13, none), (14, none), (15, none), (16, none), (17, none), (18, none), (19, none), (20, none), (21, none), (22, none), (23, none), (24, none), (25, none)])]) (ordL [(6, [(0, 0), (1, 0), (2, 0), (4, 0), (5, 0), (6, 0), (3, 1), (7, 1), (8, 0)])]) [.slice q l c, .slice q2 l2 c2] w K = cortadoref07_Same_m q l c q2 l2 c2 w K := by kernel_rfl
theorem cortadoref07_Same_go (q : Option Addr) (l c : Nat) (q2 : Option Addr) (l2 c2 : Nat) {w : World} {K : Value → World → Prop} (h : cortadoref07_Same_m q l c q2 l2 c2 w K) : Rets Try.prog 31 #[.slice q l c, .slice q2 l2 c2] w K :=
  calls_of_fw plain mixed Try.func31 (by kernel_rfl) (by rw [cortadoref07_Same_eq]; exact h)
def cortadoref49_Get_m (q : Option Addr) (l c : Nat) (k : Int) (w : World) (K : Value → World → Prop) : Prop :=
  ∃ (h1 : Nat → List Value → World → Prop),
  (∃ (k1 : Nat), h1 k1 [Value.int IntKind.i64 (0 : Int)] w) ∧
  ∀ (k2 : Nat) (w1 : World) (v1 v2 : Value) (n1 : Int)
  (v3 v4 v5 v6 v7 v8 v9 v10 v11 v12 v13 v14 v15 v16 v17 v18 v19 v20 : Value),
  h1 k2 [Value.int IntKind.i64 n1] w1 →
  (decide (n1 < (↑l : Int)) = true →
  (0 : Int) ≤ n1 ∧
  n1 < (↑l : Int) ∧
  someR q fun (a1 : Addr) =>
  ∃ (n2 : Int),
  cellAt w1 (Addr.add (Addr.add a1 (Int.toNat n1 * (3 : Nat))) (0 : Nat)) (Value.int IntKind.i64 n2) ∧
  ((n2 == k) = true →
  (0 : Int) ≤ n1 ∧
  n1 < (↑l : Int) ∧
  someR q fun (a2 : Addr) =>
  ∃ (n3 : Int),
  cellAt w1 (Addr.add (Addr.add a2 (Int.toNat n1 * (3 : Nat))) (1 : Nat)) (Value.int IntKind.i64 n3) ∧
  K (Value.tuple { toList := [Value.int IntKind.i64 n3, Value.bool true] }) w1) ∧
  ((n2 == k) = false →
  ∃ (k3 : Nat), k3 < k2 ∧ h1 k3 [Value.int IntKind.i64 (IntKind.wrap IntKind.i64 (n1 + (1 : Int)))] w1)) ∧
  (decide (n1 < (↑l : Int)) = false →
  K (Value.tuple { toList := [Value.int IntKind.i64 (0 : Int), Value.bool false] }) w1)
theorem cortadoref49_Get_eq (q : Option Addr) (l c : Nat) (k : Int) (w : World) (K : Value → World → Prop) : fw Try.prog Try.f27 (annL [(1, [(4, none), (5, none), (6, some 3), (7, none), (8, none), (9, none), (10, none), (11, none), (12, none), (13, none), (14, none), (15, none), (16, none), (17, none), (18, none), (19, none), (20, none), (21, none), (22, none), (23, none), (24, none)])]) (ordL []) [.slice q l c, .int .i64 k] w K = cortadoref49_Get_m q l c k w K := by kernel_rfl
theorem cortadoref49_Get_go (q : Option Addr) (l c : Nat) (k : Int) {w : World} {K : Value → World → Prop} (h : cortadoref49_Get_m q l c k w K) : Rets Try.prog 27 #[.slice q l c, .int .i64 k] w K :=
  calls_of_fw plain mixed Try.func27 (by kernel_rfl) (by rw [cortadoref49_Get_eq]; exact h)
def cortadoref49_Drop_m (q : Option Addr) (l c : Nat) (k : Int) (w : World) (K : Value → World → Prop) : Prop :=
  ∃ (h1 : Nat → List Value → World → Prop),
  (∃ (k1 : Nat), h1 k1 [Value.slice none (0 : Nat) (0 : Nat), Value.int IntKind.i64 (0 : Int)] w) ∧
  ∀ (k2 : Nat) (w1 : World) (q1 : Option Addr) (k3 k4 : Nat) (n1 : Int)
  (v1 v2 v3 v4 v5 v6 v7 v8 v9 v10 v11 v12 v13 v14 v15 v16 v17 v18 v19 v20 : Value),
  h1 k2 [Value.slice q1 k3 k4, Value.int IntKind.i64 n1] w1 →
  (decide (n1 < (↑l : Int)) = true →
  (0 : Int) ≤ n1 ∧
  n1 < (↑l : Int) ∧
  someR q fun (a1 : Addr) =>
  ∃ (n2 : Int),
  cellAt w1 (Addr.add (Addr.add a1 (Int.toNat n1 * (3 : Nat))) (0 : Nat)) (Value.int IntKind.i64 n2) ∧
  ((n2 != k) = true →
  (0 : Int) ≤ n1 ∧
  n1 < (↑l : Int) ∧
  someR q fun (a2 : Addr) =>
  ∃ (n3 : Int),
  ∃ (n4 : Int),
  ∃ (n5 : Int),
  (cellAt w1 (Addr.add (Addr.add a2 (Int.toNat n1 * (3 : Nat))) (0 : Nat)) (Value.int IntKind.i64 n3) ∧
  cellAt w1 (Addr.add (Addr.add a2 (Int.toNat n1 * (3 : Nat))) (1 : Nat)) (Value.int IntKind.i64 n4) ∧
  cellAt w1 (Addr.add (Addr.add a2 (Int.toNat n1 * (3 : Nat))) (2 : Nat)) (Value.int IntKind.i64 n5)) ∧
  NewR (39 : Nat) [Value.int IntKind.i64 n3, Value.int IntKind.i64 n4, Value.int IntKind.i64 n5] w1
  fun (a3 : Addr) (w2 : World) =>
  RunR Try.prog
  (builtinV Builtin.append { toList := [(35 : Nat), (35 : Nat)] } (nat_lit 35)
  { toList := [Value.slice q1 k3 k4, Value.slice (some a3) (1 : Nat) (1 : Nat)] })
  w2 fun (v21 : Value) (w3 : World) =>
  ∃ (q2 : Option Addr),
  ∃ (k5 : Nat),
  ∃ (k6 : Nat),
  v21 = Value.slice q2 k5 k6 ∧
  ∃ (k7 : Nat),
  k7 < k2 ∧ h1 k7 [Value.slice q2 k5 k6, Value.int IntKind.i64 (IntKind.wrap IntKind.i64 (n1 + (1 : Int)))] w3) ∧
  ((n2 != k) = false →
  ∃ (k8 : Nat),
  k8 < k2 ∧ h1 k8 [Value.slice q1 k3 k4, Value.int IntKind.i64 (IntKind.wrap IntKind.i64 (n1 + (1 : Int)))] w1)) ∧
  (decide (n1 < (↑l : Int)) = false → K (Value.slice q1 k3 k4) w1)
theorem cortadoref49_Drop_eq (q : Option Addr) (l c : Nat) (k : Int) (w : World) (K : Value → World → Prop) : fw Try.prog Try.f29 (annL [(1, [(5, some 35), (6, some 3), (7, none), (8, none), (9, none), (10, none), (11, none), (12, none), (13, none), (14, none), (15, none), (16, none), (17, none), (18, none), (19, none), (20, none), (21, none), (22, none), (23, none), (24, none), (25, none), (26, none)])]) (ordL []) [.slice q l c, .int .i64 k] w K = cortadoref49_Drop_m q l c k w K := by kernel_rfl
theorem cortadoref49_Drop_go (q : Option Addr) (l c : Nat) (k : Int) {w : World} {K : Value → World → Prop} (h : cortadoref49_Drop_m q l c k w K) : Rets Try.prog 29 #[.slice q l c, .int .i64 k] w K :=
  calls_of_fw plain mixed Try.func29 (by kernel_rfl) (by rw [cortadoref49_Drop_eq]; exact h)
def cortadoref49_First_m (q : Option Addr) (l c : Nat) (k : Int) (w : World) (K : Value → World → Prop) : Prop :=
  ∃ (h1 : Nat → List Value → World → Prop),
  (∃ (k1 : Nat), h1 k1 [Value.int IntKind.i64 (0 : Int)] w) ∧
  ∀ (k2 : Nat) (w1 : World) (v1 : Value) (n1 : Int)
  (v2 v3 v4 v5 v6 v7 v8 v9 v10 v11 v12 v13 v14 v15 v16 v17 v18 v19 v20 v21 v22 v23 : Value),
  h1 k2 [Value.int IntKind.i64 n1] w1 →
  (decide (n1 < (↑l : Int)) = true →
  (0 : Int) ≤ n1 ∧
  n1 < (↑l : Int) ∧
  someR q fun (a1 : Addr) =>
  ∃ (n2 : Int),
  cellAt w1 (Addr.add (Addr.add a1 (Int.toNat n1 * (3 : Nat))) (0 : Nat)) (Value.int IntKind.i64 n2) ∧
  ((n2 == k) = true →
  Drw w1 fun (w2 : World) =>
  ∃ (h2 : World → Prop),
  h2 w2 ∧
  (0 : Int) ≤ n1 ∧
  n1 < (↑l : Int) ∧
  someR q fun (a2 : Addr) =>
  ∃ (n3 : Int),
  ∃ (n4 : Int),
  ∃ (n5 : Int),
  ((∀ (w3 : World),
  h2 w3 →
  World.cell? w3 (Addr.add (Addr.add a2 (Int.toNat n1 * (3 : Nat))) (0 : Nat)) = some (Value.int IntKind.i64 n3)) ∧
  (∀ (w4 : World),
  h2 w4 →
  World.cell? w4 (Addr.add (Addr.add a2 (Int.toNat n1 * (3 : Nat))) ((0 : Nat) + (1 : Nat))) =
  some (Value.int IntKind.i64 n4)) ∧
  ∀ (w5 : World),
  h2 w5 →
  World.cell? w5 (Addr.add (Addr.add a2 (Int.toNat n1 * (3 : Nat))) ((0 : Nat) + (1 : Nat) + (1 : Nat))) =
  some (Value.int IntKind.i64 n5)) ∧
  (NewR (39 : Nat) [Value.int IntKind.i64 n3, Value.int IntKind.i64 n4, Value.int IntKind.i64 n5] w2
  fun (a3 : Addr) (w6 : World) =>
  h2 w6 ∧
  Rets Try.prog (29 : Nat) { toList := [Value.slice q l c, Value.int IntKind.i64 k] } w6 fun (v24 : Value) (w7 : World) =>
  ∃ (q1 : Option Addr),
  ∃ (k3 : Nat),
  ∃ (k4 : Nat),
  v24 = Value.slice q1 k3 k4 ∧
  h2 w7 ∧
  RunR Try.prog
  (builtinV Builtin.append { toList := [(35 : Nat), (35 : Nat)] } (nat_lit 35)
  { toList := [Value.slice (some a3) (1 : Nat) (1 : Nat), Value.slice q1 k3 k4] })
  w7 fun (v25 : Value) (w8 : World) =>
  ∃ (q2 : Option Addr), ∃ (k5 : Nat), ∃ (k6 : Nat), v25 = Value.slice q2 k5 k6 ∧ h2 w8 ∧ K (Value.slice q2 k5 k6) w8) ∧
  Rets Try.prog (29 : Nat) { toList := [Value.slice q l c, Value.int IntKind.i64 k] } w2 fun (v26 : Value) (w9 : World) =>
  ∃ (q3 : Option Addr),
  ∃ (k7 : Nat),
  ∃ (k8 : Nat),
  v26 = Value.slice q3 k7 k8 ∧
  h2 w9 ∧
  NewR (39 : Nat) [Value.int IntKind.i64 n3, Value.int IntKind.i64 n4, Value.int IntKind.i64 n5] w9
  fun (a4 : Addr) (w10 : World) =>
  h2 w10 ∧
  RunR Try.prog
  (builtinV Builtin.append { toList := [(35 : Nat), (35 : Nat)] } (nat_lit 35)
  { toList := [Value.slice (some a4) (1 : Nat) (1 : Nat), Value.slice q3 k7 k8] })
  w10 fun (v27 : Value) (w11 : World) =>
  ∃ (q4 : Option Addr),
  ∃ (k9 : Nat), ∃ (k10 : Nat), v27 = Value.slice q4 k9 k10 ∧ h2 w11 ∧ K (Value.slice q4 k9 k10) w11) ∧
  ((n2 == k) = false →
  ∃ (k11 : Nat), k11 < k2 ∧ h1 k11 [Value.int IntKind.i64 (IntKind.wrap IntKind.i64 (n1 + (1 : Int)))] w1)) ∧
  (decide (n1 < (↑l : Int)) = false → K (Value.slice q l c) w1)
theorem cortadoref49_First_eq (q : Option Addr) (l c : Nat) (k : Int) (w : World) (K : Value → World → Prop) : fw Try.prog Try.f28 (annL [(1, [(4, none), (5, some 3), (6, none), (7, none), (8, none), (9, none), (10, none), (11, none), (12, none), (13, none), (14, none), (15, none), (16, none), (17, none), (18, none), (19, none), (20, none), (21, none), (22, none), (23, none), (24, none), (25, none), (26, none), (27, none)])]) (ordL [(5, [(0, 0), (1, 0), (2, 0), (5, 0), (6, 0), (3, 1), (0, 6), (4, 2), (7, 2), (8, 2), (9, 0), (0, 7), (7, 2), (4, 2), (8, 2), (9, 0), (0, 7)])]) [.slice q l c, .int .i64 k] w K = cortadoref49_First_m q l c k w K := by kernel_rfl
theorem cortadoref49_First_go (q : Option Addr) (l c : Nat) (k : Int) {w : World} {K : Value → World → Prop} (h : cortadoref49_First_m q l c k w K) : Rets Try.prog 28 #[.slice q l c, .int .i64 k] w K :=
  calls_of_fw plain mixed Try.func28 (by kernel_rfl) (by rw [cortadoref49_First_eq]; exact h)
def cortadoref49_Used_m (q : Option Addr) (l c : Nat) (w : World) (K : Value → World → Prop) : Prop :=
  ∃ (h1 : Nat → List Value → World → Prop),
  (∃ (k1 : Nat), h1 k1 [Value.int IntKind.i64 (0 : Int), Value.int IntKind.i64 (0 : Int)] w) ∧
  ∀ (k2 : Nat) (w1 : World) (n1 n2 : Int) (v1 v2 v3 v4 v5 v6 v7 v8 v9 v10 v11 v12 v13 : Value),
  h1 k2 [Value.int IntKind.i64 n1, Value.int IntKind.i64 n2] w1 →
  (decide (n2 < (↑l : Int)) = true →
  (0 : Int) ≤ n2 ∧
  n2 < (↑l : Int) ∧
  someR q fun (a1 : Addr) =>
  ∃ (n3 : Int),
  cellAt w1 (Addr.add (Addr.add a1 (Int.toNat n2 * (3 : Nat))) (2 : Nat)) (Value.int IntKind.i64 n3) ∧
  ∃ (k3 : Nat),
  k3 < k2 ∧
  h1 k3
  [Value.int IntKind.i64 (IntKind.wrap IntKind.i64 (n1 + n3)),
  Value.int IntKind.i64 (IntKind.wrap IntKind.i64 (n2 + (1 : Int)))]
  w1) ∧
  (decide (n2 < (↑l : Int)) = false → K (Value.int IntKind.i64 n1) w1)
theorem cortadoref49_Used_eq (q : Option Addr) (l c : Nat) (w : World) (K : Value → World → Prop) : fw Try.prog Try.f14 (annL [(1, [(3, some 3), (4, some 3), (5, none), (6, none), (7, none), (8, none), (9, none), (10, none), (11, none), (12, none), (13, none), (14, none), (15, none), (16, none), (17, none)])]) (ordL []) [.slice q l c] w K = cortadoref49_Used_m q l c w K := by kernel_rfl
theorem cortadoref49_Used_go (q : Option Addr) (l c : Nat) {w : World} {K : Value → World → Prop} (h : cortadoref49_Used_m q l c w K) : Rets Try.prog 14 #[.slice q l c] w K :=
  calls_of_fw plain mixed Try.func14 (by kernel_rfl) (by rw [cortadoref49_Used_eq]; exact h)
def cortadoref49_Put_m (q : Option Addr) (l c : Nat) (most k v n : Int) (w : World) (K : Value → World → Prop) : Prop :=
  NewR (39 : Nat) [Value.int IntKind.i64 k, Value.int IntKind.i64 v, Value.int IntKind.i64 n] w
  fun (a1 : Addr) (w1 : World) =>
  ∃ (n1 : Int),
  cellAt w1 (Addr.add a1 (2 : Nat)) (Value.int IntKind.i64 n1) ∧
  Rets Try.prog (26 : Nat) { toList := [Value.int IntKind.i64 n1] } w1 fun (v1 : Value) (w2 : World) =>
  ∃ (b1 : Bool),
  v1 = Value.bool b1 ∧
  ((!b1) = false →
  ∃ (n2 : Int),
  cellAt w2 (Addr.add a1 (2 : Nat)) (Value.int IntKind.i64 n2) ∧
  (decide (n2 > most) = true →
  K (Value.tuple { toList := [Value.slice q l c, Value.slice none (0 : Nat) (0 : Nat), Value.bool false] }) w2) ∧
  (decide (n2 > most) = false →
  ∃ (n3 : Int),
  cellAt w2 (Addr.add a1 (0 : Nat)) (Value.int IntKind.i64 n3) ∧
  Rets Try.prog (29 : Nat) { toList := [Value.slice q l c, Value.int IntKind.i64 n3] } w2 fun (v2 : Value) (w3 : World) =>
  ∃ (q1 : Option Addr),
  ∃ (k1 : Nat),
  ∃ (k2 : Nat),
  v2 = Value.slice q1 k1 k2 ∧
  ∃ (h1 : Nat → List Value → World → Prop),
  (∃ (k3 : Nat), h1 k3 [Value.slice q1 k1 k2, Value.slice none (0 : Nat) (0 : Nat)] w3) ∧
  ∀ (k4 : Nat) (w4 : World) (q2 : Option Addr) (k5 k6 : Nat) (q3 : Option Addr) (k7 k8 : Nat)
  (v3 v4 v5 v6 v7 v8 v9 v10 v11 v12 v13 v14 v15 v16 v17 v18 v19 v20 v21 v22 v23 v24 : Value),
  h1 k4 [Value.slice q2 k5 k6, Value.slice q3 k7 k8] w4 →
  Drw w4 fun (w5 : World) =>
  ∃ (h2 : World → Prop),
  h2 w5 ∧
  ∃ (n4 : Int),
  (∀ (w6 : World), h2 w6 → World.cell? w6 (Addr.add a1 (2 : Nat)) = some (Value.int IntKind.i64 n4)) ∧
  Rets Try.prog (14 : Nat) { toList := [Value.slice q2 k5 k6] } w5 fun (v25 : Value) (w7 : World) =>
  ∃ (n5 : Int),
  v25 = Value.int IntKind.i64 n5 ∧
  h2 w7 ∧
  (decide (n5 > IntKind.wrap IntKind.i64 (most - n4)) = true →
  (0 : Int) ≤ IntKind.wrap IntKind.i64 ((↑k5 : Int) - (1 : Int)) ∧
  IntKind.wrap IntKind.i64 ((↑k5 : Int) - (1 : Int)) < (↑k5 : Int) ∧
  someR q2 fun (a2 : Addr) =>
  ∃ (n6 : Int),
  cellAt w7
  (Addr.add (Addr.add a2 (Int.toNat (IntKind.wrap IntKind.i64 ((↑k5 : Int) - (1 : Int))) * (3 : Nat))) (0 : Nat))
  (Value.int IntKind.i64 n6) ∧
  NewR (3 : Nat) [Value.int IntKind.i64 n6] w7 fun (a3 : Addr) (w8 : World) =>
  RunR Try.prog
  (builtinV Builtin.append { toList := [(22 : Nat), (22 : Nat)] } (nat_lit 22)
  { toList := [Value.slice q3 k7 k8, Value.slice (some a3) (1 : Nat) (1 : Nat)] })
  w8 fun (v26 : Value) (w9 : World) =>
  ∃ (q4 : Option Addr),
  ∃ (k9 : Nat),
  ∃ (k10 : Nat),
  v26 = Value.slice q4 k9 k10 ∧
  (0 : Int) ≤ IntKind.wrap IntKind.i64 ((↑k5 : Int) - (1 : Int)) ∧
  IntKind.wrap IntKind.i64 ((↑k5 : Int) - (1 : Int)) ≤ (↑k6 : Int) ∧
  ∃ (k11 : Nat),
  k11 < k4 ∧
  h1 k11
  [Value.slice (slcA q2 (0 : Nat) k6 (3 : Nat))
  (Int.toNat (IntKind.wrap IntKind.i64 ((↑k5 : Int) - (1 : Int))) - (0 : Nat)) (k6 - (0 : Nat)),
  Value.slice q4 k9 k10]
  w9) ∧
  (decide (n5 > IntKind.wrap IntKind.i64 (most - n4)) = false →
  ∃ (n7 : Int),
  ∃ (n8 : Int),
  ∃ (n9 : Int),
  (cellAt w7 (Addr.add a1 (0 : Nat)) (Value.int IntKind.i64 n7) ∧
  cellAt w7 (Addr.add a1 (1 : Nat)) (Value.int IntKind.i64 n8) ∧
  cellAt w7 (Addr.add a1 (2 : Nat)) (Value.int IntKind.i64 n9)) ∧
  NewR (39 : Nat) [Value.int IntKind.i64 n7, Value.int IntKind.i64 n8, Value.int IntKind.i64 n9] w7
  fun (a4 : Addr) (w10 : World) =>
  RunR Try.prog
  (builtinV Builtin.append { toList := [(35 : Nat), (35 : Nat)] } (nat_lit 35)
  { toList := [Value.slice (some a4) (1 : Nat) (1 : Nat), Value.slice q2 k5 k6] })
  w10 fun (v27 : Value) (w11 : World) =>
  ∃ (q5 : Option Addr),
  ∃ (k12 : Nat),
  ∃ (k13 : Nat),
  v27 = Value.slice q5 k12 k13 ∧
  K (Value.tuple { toList := [Value.slice q5 k12 k13, Value.slice q3 k7 k8, Value.bool true] }) w11))) ∧
  ((!b1) = true →
  K (Value.tuple { toList := [Value.slice q l c, Value.slice none (0 : Nat) (0 : Nat), Value.bool false] }) w2)
theorem cortadoref49_Put_eq (q : Option Addr) (l c : Nat) (most k v n : Int) (w : World) (K : Value → World → Prop) : fw Try.prog Try.f30 (annL [(2, [(9, some 35), (10, some 22), (26, none), (27, none), (28, none), (29, none), (30, none), (31, none), (32, none), (33, none), (34, none), (35, none), (36, none), (37, none), (38, none), (39, none), (40, none), (41, none), (42, none), (43, none), (44, none), (45, none), (46, none), (47, none)])]) (ordL [(5, [(0, 0), (2, 0), (3, 0), (4, 1), (5, 0), (1, 2), (6, 0)])]) [.slice q l c, .int .i64 most, .agg #[.int .i64 k, .int .i64 v, .int .i64 n]] w K = cortadoref49_Put_m q l c most k v n w K := by kernel_rfl
theorem cortadoref49_Put_go (q : Option Addr) (l c : Nat) (most k v n : Int) {w : World} {K : Value → World → Prop} (h : cortadoref49_Put_m q l c most k v n w K) : Rets Try.prog 30 #[.slice q l c, .int .i64 most, .agg #[.int .i64 k, .int .i64 v, .int .i64 n]] w K :=
  calls_of_fw plain mixed Try.func30 (by kernel_rfl) (by rw [cortadoref49_Put_eq]; exact h)
def lru_Cache_int_int_All_m (q : Option Addr) (w : World) (K : Value → World → Prop) : Prop :=
  NewR (25 : Nat) [Value.pointer q] w fun (a1 : Addr) (w1 : World) =>
  K (Value.func (Fn.func (32 : Nat)) { toList := [] } { toList := [Value.pointer (some a1)] }) w1
theorem lru_Cache_int_int_All_eq (q : Option Addr) (w : World) (K : Value → World → Prop) : fw Try.prog Try.f16 (annL []) (ordL []) [.pointer q] w K = lru_Cache_int_int_All_m q w K := by kernel_rfl
theorem lru_Cache_int_int_All_go (q : Option Addr) {w : World} {K : Value → World → Prop} (h : lru_Cache_int_int_All_m q w K) : Rets Try.prog 16 #[.pointer q] w K :=
  calls_of_fw plain mixed Try.func16 (by kernel_rfl) (by rw [lru_Cache_int_int_All_eq]; exact h)
def lru_Cache_int_int_All_1_m (l b : Nat) (w : World) (K : Value → World → Prop) : Prop :=
  ∃ (q1 : Option Addr),
  cellAt w { block := b, off := (0 : Nat) } (Value.pointer q1) ∧
  (Option.isNone q1 = true → K (Value.tuple { toList := [] }) w) ∧
  (Option.isNone q1 = false →
  ∃ (q2 : Option Addr),
  cellAt w { block := b, off := (0 : Nat) } (Value.pointer q2) ∧
  someR q2 fun (a1 : Addr) =>
  ∃ (q3 : Option Addr),
  cellAt w (Addr.add a1 (1 : Nat)) (Value.pointer q3) ∧
  someR q3 fun (a2 : Addr) =>
  ∃ (q4 : Option Addr),
  cellAt w (Addr.add a2 (4 : Nat)) (Value.pointer q4) ∧
  ∃ (h1 : Nat → List Value → World → Prop),
  (∃ (k1 : Nat), h1 k1 [Value.slice none (0 : Nat) (0 : Nat), Value.pointer q4] w) ∧
  ∀ (k2 : Nat) (w1 : World) (q5 : Option Addr) (k3 k4 : Nat) (q6 : Option Addr)
  (v1 v2 v3 v4 v5 v6 v7 v8 v9 v10 v11 v12 v13 v14 v15 v16 v17 v18 v19 v20 v21 v22 v23 : Value),
  h1 k2 [Value.slice q5 k3 k4, Value.pointer q6] w1 →
  ∃ (q7 : Option Addr),
  cellAt w1 { block := b, off := (0 : Nat) } (Value.pointer q7) ∧
  someR q7 fun (a3 : Addr) =>
  ∃ (q8 : Option Addr),
  cellAt w1 (Addr.add a3 (1 : Nat)) (Value.pointer q8) ∧
  RunR Try.prog
  (binV BinOp.neq (55 : Nat) (Operand.tmp (16 : Nat)) (Operand.tmp (20 : Nat)) (Value.pointer q6) (Value.pointer q8)) w1
  fun (v24 : Value) (w2 : World) =>
  ∃ (b1 : Bool),
  v24 = Value.bool b1 ∧
  (b1 = true →
  Drw w2 fun (w3 : World) =>
  someR q6 fun (a4 : Addr) =>
  someR q6 fun (a5 : Addr) =>
  ∃ (n1 : Int),
  cellAt w3 (Addr.add a4 (0 : Nat)) (Value.int IntKind.i64 n1) ∧
  ∃ (n2 : Int),
  cellAt w3 (Addr.add a5 (1 : Nat)) (Value.int IntKind.i64 n2) ∧
  NewR (57 : Nat)
  [Value.int IntKind.i64 n1, Value.int IntKind.i64 n2, Value.int IntKind.i64 (0 : Int), Value.pointer none,
  Value.pointer none]
  w3 fun (a6 : Addr) (w4 : World) =>
  NewR (55 : Nat) [Value.pointer (some a6)] w4 fun (a7 : Addr) (w5 : World) =>
  RunR Try.prog
  (builtinV Builtin.append { toList := [(68 : Nat), (68 : Nat)] } (nat_lit 68)
  { toList := [Value.slice q5 k3 k4, Value.slice (some a7) (1 : Nat) (1 : Nat)] })
  w5 fun (v25 : Value) (w6 : World) =>
  ∃ (q9 : Option Addr),
  ∃ (k5 : Nat),
  ∃ (k6 : Nat),
  v25 = Value.slice q9 k5 k6 ∧
  someR q6 fun (a8 : Addr) =>
  ∃ (q10 : Option Addr),
  cellAt w6 (Addr.add a8 (4 : Nat)) (Value.pointer q10) ∧
  ∃ (k7 : Nat), k7 < k2 ∧ h1 k7 [Value.slice q9 k5 k6, Value.pointer q10] w6) ∧
  (b1 = false →
  ∃ (h2 : Nat → List Value → World → Prop),
  (∃ (k8 : Nat), h2 k8 [Value.int IntKind.i64 (0 : Int)] w2) ∧
  ∀ (k9 : Nat) (w7 : World) (v26 : Value) (n3 : Int)
  (v27 v28 v29 v30 v31 v32 v33 v34 v35 v36 v37 v38 v39 v40 v41 : Value),
  h2 k9 [Value.int IntKind.i64 n3] w7 →
  (decide (n3 < (↑k3 : Int)) = true →
  (0 : Int) ≤ n3 ∧
  n3 < (↑k3 : Int) ∧
  someR q5 fun (a9 : Addr) =>
  ∃ (q11 : Option Addr),
  cellAt w7 (Addr.add a9 (Int.toNat n3 * (1 : Nat))) (Value.pointer q11) ∧
  Drw w7 fun (w8 : World) =>
  someR q11 fun (a10 : Addr) =>
  someR q11 fun (a11 : Addr) =>
  ∃ (n4 : Int),
  cellAt w8 (Addr.add a10 (0 : Nat)) (Value.int IntKind.i64 n4) ∧
  ∃ (n5 : Int),
  cellAt w8 (Addr.add a11 (1 : Nat)) (Value.int IntKind.i64 n5) ∧
  RoundR Try.prog l { toList := [Value.int IntKind.i64 n4, Value.int IntKind.i64 n5] } w8
  fun (v42 : Value) (w9 : World) =>
  ∃ (b2 : Bool),
  v42 = Value.bool b2 ∧
  ((!b2) = true → K (Value.tuple { toList := [] }) w9) ∧
  ((!b2) = false →
  ∃ (k10 : Nat), k10 < k9 ∧ h2 k10 [Value.int IntKind.i64 (IntKind.wrap IntKind.i64 (n3 + (1 : Int)))] w9)) ∧
  (decide (n3 < (↑k3 : Int)) = false → K (Value.tuple { toList := [] }) w7)))
theorem lru_Cache_int_int_All_1_eq (l b : Nat) (w : World) (K : Value → World → Prop) : fw Try.prog Try.f32 (annL [(2, [(3, some 68), (4, some 55), (16, none), (17, none), (18, none), (19, none), (20, none), (21, none), (22, none), (23, none), (24, none), (25, none), (26, none), (27, none), (28, none), (29, none), (30, none), (31, none), (32, none), (33, none), (34, none), (35, none), (36, none), (37, none), (38, none)]), (6, [(6, none), (41, some 3), (42, none), (43, none), (44, none), (45, none), (46, none), (47, none), (48, none), (49, none), (50, none), (51, none), (52, none), (53, none), (54, none), (55, none), (56, none)])]) (ordL [(5, [(0, 0), (1, 0), (2, 0), (3, 0), (5, 0), (6, 0), (7, 0), (4, 1), (8, 1), (9, 0), (10, 3), (11, 3), (12, 3), (13, 0)]), (9, [(0, 0), (1, 0), (2, 0), (3, 0), (5, 0), (6, 0), (7, 0), (4, 1), (8, 1), (9, 3), (10, 0)])]) [.func (.yield l) #[] #[], .pointer (some ⟨b, 0, none⟩)] w K = lru_Cache_int_int_All_1_m l b w K := by kernel_rfl
theorem lru_Cache_int_int_All_1_go (l b : Nat) {w : World} {K : Value → World → Prop} (h : lru_Cache_int_int_All_1_m l b w K) : Rets Try.prog 32 #[.func (.yield l) #[] #[], .pointer (some ⟨b, 0, none⟩)] w K :=
  calls_of_fw plain mixed Try.func32 (by kernel_rfl) (by rw [lru_Cache_int_int_All_1_eq]; exact h)
def lru_nil_Peek_m (k : Int) (w : World) (K : Value → World → Prop) : Prop :=
  (true = true → K (Value.tuple { toList := [Value.int IntKind.i64 (0 : Int), Value.bool false] }) w) ∧
  (true = false → False)
theorem lru_nil_Peek_eq (k : Int) (w : World) (K : Value → World → Prop) : fw Try.prog Try.f9 (annL []) (ordL []) [.pointer none, .int .i64 k] w K = lru_nil_Peek_m k w K := by kernel_rfl
theorem lru_nil_Peek_go (k : Int) {w : World} {K : Value → World → Prop} (h : lru_nil_Peek_m k w K) : Rets Try.prog 9 #[.pointer none, .int .i64 k] w K :=
  calls_of_fw plain mixed Try.func9 (by kernel_rfl) (by rw [lru_nil_Peek_eq]; exact h)
def lru_nil_Get_m (k : Int) (w : World) (K : Value → World → Prop) : Prop :=
  Rets Try.prog (9 : Nat) { toList := [Value.pointer none, Value.int IntKind.i64 k] } w fun (v1 : Value) (w1 : World) =>
  ∃ (n1 : Int),
  ∃ (b1 : Bool),
  v1 = Value.tuple { toList := [Value.int IntKind.i64 n1, Value.bool b1] } ∧
  (b1 = true → False) ∧ (b1 = false → K (Value.tuple { toList := [Value.int IntKind.i64 n1, Value.bool b1] }) w1)
theorem lru_nil_Get_eq (k : Int) (w : World) (K : Value → World → Prop) : fw Try.prog Try.f7 (annL []) (ordL []) [.pointer none, .int .i64 k] w K = lru_nil_Get_m k w K := by kernel_rfl
theorem lru_nil_Get_go (k : Int) {w : World} {K : Value → World → Prop} (h : lru_nil_Get_m k w K) : Rets Try.prog 7 #[.pointer none, .int .i64 k] w K :=
  calls_of_fw plain mixed Try.func7 (by kernel_rfl) (by rw [lru_nil_Get_eq]; exact h)
def lru_nil_Put_m (k v n : Int) (w : World) (K : Value → World → Prop) : Prop :=
  (true = false →
  Rets Try.prog (25 : Nat) { toList := [Value.int IntKind.i64 n] } w fun (v1 : Value) (w1 : World) =>
  ∃ (b1 : Bool),
  v1 = Value.bool b1 ∧
  ((!b1) = false → False) ∧
  ((!b1) = true → K (Value.tuple { toList := [Value.slice none (0 : Nat) (0 : Nat), Value.bool false] }) w1)) ∧
  (true = true → K (Value.tuple { toList := [Value.slice none (0 : Nat) (0 : Nat), Value.bool false] }) w)
theorem lru_nil_Put_eq (k v n : Int) (w : World) (K : Value → World → Prop) : fw Try.prog Try.f8 (annL [(2, [(8, some 22), (10, none), (30, none), (31, none), (32, none), (33, none), (34, none), (35, none), (36, none), (37, none), (38, none), (39, none), (40, none), (41, none), (42, none), (43, none), (44, none), (45, none), (46, none), (47, none), (48, none), (49, none), (50, none), (51, none), (52, none), (53, none), (54, none), (55, none), (56, none), (57, none), (58, none), (59, none), (60, none)])]) (ordL [(4, [(0, 0), (1, 0), (2, 0), (4, 0), (5, 0), (6, 0), (8, 0), (3, 1), (7, 1), (9, 0), (10, 0)])]) [.pointer none, .int .i64 k, .int .i64 v, .int .i64 n] w K = lru_nil_Put_m k v n w K := by kernel_rfl
theorem lru_nil_Put_go (k v n : Int) {w : World} {K : Value → World → Prop} (h : lru_nil_Put_m k v n w K) : Rets Try.prog 8 #[.pointer none, .int .i64 k, .int .i64 v, .int .i64 n] w K :=
  calls_of_fw plain mixed Try.func8 (by kernel_rfl) (by rw [lru_nil_Put_eq]; exact h)
def lru_nil_Drop_m (k : Int) (w : World) (K : Value → World → Prop) : Prop :=
  Rets Try.prog (9 : Nat) { toList := [Value.pointer none, Value.int IntKind.i64 k] } w fun (v1 : Value) (w1 : World) =>
  ∃ (n1 : Int),
  ∃ (b1 : Bool),
  v1 = Value.tuple { toList := [Value.int IntKind.i64 n1, Value.bool b1] } ∧
  ((!b1) = true → K (Value.bool false) w1) ∧ ((!b1) = false → False)
theorem lru_nil_Drop_eq (k : Int) (w : World) (K : Value → World → Prop) : fw Try.prog Try.f17 (annL []) (ordL [(6, [(0, 0), (1, 0), (2, 0), (4, 0), (5, 0), (6, 0), (3, 1), (7, 1), (8, 0), (9, 0), (10, 0), (11, 3)])]) [.pointer none, .int .i64 k] w K = lru_nil_Drop_m k w K := by kernel_rfl
theorem lru_nil_Drop_go (k : Int) {w : World} {K : Value → World → Prop} (h : lru_nil_Drop_m k w K) : Rets Try.prog 17 #[.pointer none, .int .i64 k] w K :=
  calls_of_fw plain mixed Try.func17 (by kernel_rfl) (by rw [lru_nil_Drop_eq]; exact h)
def lru_nil_Len_m  (w : World) (K : Value → World → Prop) : Prop :=
  (true = true → K (Value.int IntKind.i64 (0 : Int)) w) ∧ (true = false → False)
theorem lru_nil_Len_eq  (w : World) (K : Value → World → Prop) : fw Try.prog Try.f13 (annL []) (ordL []) [.pointer none] w K = lru_nil_Len_m  w K := by kernel_rfl
theorem lru_nil_Len_go  {w : World} {K : Value → World → Prop} (h : lru_nil_Len_m  w K) : Rets Try.prog 13 #[.pointer none] w K :=
  calls_of_fw plain mixed Try.func13 (by kernel_rfl) (by rw [lru_nil_Len_eq]; exact h)
def lru_nil_Used_m  (w : World) (K : Value → World → Prop) : Prop :=
  (true = true → K (Value.int IntKind.i64 (0 : Int)) w) ∧ (true = false → False)
theorem lru_nil_Used_eq  (w : World) (K : Value → World → Prop) : fw Try.prog Try.f10 (annL []) (ordL []) [.pointer none] w K = lru_nil_Used_m  w K := by kernel_rfl
theorem lru_nil_Used_go  {w : World} {K : Value → World → Prop} (h : lru_nil_Used_m  w K) : Rets Try.prog 10 #[.pointer none] w K :=
  calls_of_fw plain mixed Try.func10 (by kernel_rfl) (by rw [lru_nil_Used_eq]; exact h)
def lru_nil_Most_m  (w : World) (K : Value → World → Prop) : Prop :=
  (true = true → K (Value.int IntKind.i64 (0 : Int)) w) ∧ (true = false → False)
theorem lru_nil_Most_eq  (w : World) (K : Value → World → Prop) : fw Try.prog Try.f15 (annL []) (ordL []) [.pointer none] w K = lru_nil_Most_m  w K := by kernel_rfl
theorem lru_nil_Most_go  {w : World} {K : Value → World → Prop} (h : lru_nil_Most_m  w K) : Rets Try.prog 15 #[.pointer none] w K :=
  calls_of_fw plain mixed Try.func15 (by kernel_rfl) (by rw [lru_nil_Most_eq]; exact h)
def cortadolaw49_do_m (g : Nat) (q : Option Addr) (l c : Nat) (most kind k v n : Int) (w : World) (K : Value → World → Prop) : Prop :=
  NewR (41 : Nat) [Value.int IntKind.u64 kind, Value.int IntKind.i64 k, Value.int IntKind.i64 v, Value.int IntKind.i64 n]
  w fun (a1 : Addr) (w1 : World) =>
  ∃ (n1 : Int),
  cellAt w1 (Addr.add (Addr.add a1 (1 : Nat)) (0 : Nat)) (Value.int IntKind.i64 n1) ∧
  Rets Try.prog (27 : Nat) { toList := [Value.slice q l c, Value.int IntKind.i64 n1] } w1 fun (v1 : Value) (w2 : World) =>
  ∃ (n2 : Int),
  ∃ (b1 : Bool),
  v1 = Value.tuple { toList := [Value.int IntKind.i64 n2, Value.bool b1] } ∧
  ∃ (n3 : Int),
  cellAt w2 (Addr.add a1 (0 : Nat)) (Value.int IntKind.u64 n3) ∧
  (5 : Int) ≠ (0 : Int) ∧
  ((Int.tmod n3 (5 : Int) == (2 : Int)) = true →
  ∃ (n4 : Int),
  cellAt w2 (Addr.add (Addr.add a1 (1 : Nat)) (0 : Nat)) (Value.int IntKind.i64 n4) ∧
  Rets Try.prog (7 : Nat) { toList := [Value.pointer (some { block := g, off := (0 : Nat) }), Value.int IntKind.i64 n4] }
  w2 fun (v2 : Value) (w3 : World) =>
  ∃ (n5 : Int),
  ∃ (b2 : Bool),
  v2 = Value.tuple { toList := [Value.int IntKind.i64 n5, Value.bool b2] } ∧
  ∃ (n6 : Int),
  cellAt w3 (Addr.add (Addr.add a1 (1 : Nat)) (0 : Nat)) (Value.int IntKind.i64 n6) ∧
  Rets Try.prog (28 : Nat) { toList := [Value.slice q l c, Value.int IntKind.i64 n6] } w3 fun (v3 : Value) (w4 : World) =>
  ∃ (q1 : Option Addr),
  ∃ (k1 : Nat),
  ∃ (k2 : Nat),
  v3 = Value.slice q1 k1 k2 ∧
  ((n2 == n5) = true → K (Value.tuple { toList := [Value.slice q1 k1 k2, Value.bool (b2 == b1)] }) w4) ∧
  ((n2 == n5) = false → K (Value.tuple { toList := [Value.slice q1 k1 k2, Value.bool false] }) w4)) ∧
  ((Int.tmod n3 (5 : Int) == (2 : Int)) = false →
  ((Int.tmod n3 (5 : Int) == (3 : Int)) = true →
  ∃ (n7 : Int),
  cellAt w2 (Addr.add (Addr.add a1 (1 : Nat)) (0 : Nat)) (Value.int IntKind.i64 n7) ∧
  Rets Try.prog (9 : Nat) { toList := [Value.pointer (some { block := g, off := (0 : Nat) }), Value.int IntKind.i64 n7] }
  w2 fun (v4 : Value) (w5 : World) =>
  ∃ (n8 : Int),
  ∃ (b3 : Bool),
  v4 = Value.tuple { toList := [Value.int IntKind.i64 n8, Value.bool b3] } ∧
  ((n2 == n8) = true → K (Value.tuple { toList := [Value.slice q l c, Value.bool (b3 == b1)] }) w5) ∧
  ((n2 == n8) = false → K (Value.tuple { toList := [Value.slice q l c, Value.bool false] }) w5)) ∧
  ((Int.tmod n3 (5 : Int) == (3 : Int)) = false →
  ((Int.tmod n3 (5 : Int) == (4 : Int)) = true →
  Drw w2 fun (w6 : World) =>
  ∃ (h1 : World → Prop),
  h1 w6 ∧
  ∃ (n9 : Int),
  (∀ (w7 : World),
  h1 w7 → World.cell? w7 (Addr.add (Addr.add a1 (1 : Nat)) (0 : Nat)) = some (Value.int IntKind.i64 n9)) ∧
  ∃ (n10 : Int),
  (∀ (w8 : World),
  h1 w8 → World.cell? w8 (Addr.add (Addr.add a1 (1 : Nat)) (0 : Nat)) = some (Value.int IntKind.i64 n10)) ∧
  Rets Try.prog (29 : Nat) { toList := [Value.slice q l c, Value.int IntKind.i64 n9] } w6 fun (v5 : Value) (w9 : World) =>
  ∃ (q2 : Option Addr),
  ∃ (k3 : Nat),
  ∃ (k4 : Nat),
  v5 = Value.slice q2 k3 k4 ∧
  h1 w9 ∧
  Rets Try.prog (17 : Nat)
  { toList := [Value.pointer (some { block := g, off := (0 : Nat) }), Value.int IntKind.i64 n10] } w9
  fun (v6 : Value) (w10 : World) =>
  ∃ (b4 : Bool), v6 = Value.bool b4 ∧ K (Value.tuple { toList := [Value.slice q2 k3 k4, Value.bool (b4 == b1)] }) w10) ∧
  ((Int.tmod n3 (5 : Int) == (4 : Int)) = false →
  ∃ (n11 : Int),
  ∃ (n12 : Int),
  ∃ (n13 : Int),
  (cellAt w2 (Addr.add (Addr.add a1 (1 : Nat)) (0 : Nat)) (Value.int IntKind.i64 n11) ∧
  cellAt w2 (Addr.add (Addr.add a1 (1 : Nat)) (1 : Nat)) (Value.int IntKind.i64 n12) ∧
  cellAt w2 (Addr.add (Addr.add a1 (1 : Nat)) (2 : Nat)) (Value.int IntKind.i64 n13)) ∧
  Rets Try.prog (30 : Nat)
  {
  toList :=
  [Value.slice q l c, Value.int IntKind.i64 most,
  Value.agg { toList := [Value.int IntKind.i64 n11, Value.int IntKind.i64 n12, Value.int IntKind.i64 n13] }] }
  w2 fun (v7 : Value) (w11 : World) =>
  ∃ (q3 : Option Addr),
  ∃ (k5 : Nat),
  ∃ (k6 : Nat),
  ∃ (q4 : Option Addr),
  ∃ (k7 : Nat),
  ∃ (k8 : Nat),
  ∃ (b5 : Bool),
  v7 = Value.tuple { toList := [Value.slice q3 k5 k6, Value.slice q4 k7 k8, Value.bool b5] } ∧
  ∃ (n14 : Int),
  cellAt w11 (Addr.add (Addr.add a1 (1 : Nat)) (0 : Nat)) (Value.int IntKind.i64 n14) ∧
  ∃ (n15 : Int),
  cellAt w11 (Addr.add (Addr.add a1 (1 : Nat)) (1 : Nat)) (Value.int IntKind.i64 n15) ∧
  ∃ (n16 : Int),
  cellAt w11 (Addr.add (Addr.add a1 (1 : Nat)) (2 : Nat)) (Value.int IntKind.i64 n16) ∧
  Rets Try.prog (8 : Nat)
  {
  toList :=
  [Value.pointer (some { block := g, off := (0 : Nat) }), Value.int IntKind.i64 n14, Value.int IntKind.i64 n15,
  Value.int IntKind.i64 n16] }
  w11 fun (v8 : Value) (w12 : World) =>
  ∃ (q5 : Option Addr),
  ∃ (k9 : Nat),
  ∃ (k10 : Nat),
  ∃ (b6 : Bool),
  v8 = Value.tuple { toList := [Value.slice q5 k9 k10, Value.bool b6] } ∧
  ((b5 == b6) = true →
  Rets Try.prog (31 : Nat) { toList := [Value.slice q5 k9 k10, Value.slice q4 k7 k8] } w12
  fun (v9 : Value) (w13 : World) =>
  ∃ (b7 : Bool), v9 = Value.bool b7 ∧ K (Value.tuple { toList := [Value.slice q3 k5 k6, Value.bool b7] }) w13) ∧
  ((b5 == b6) = false → K (Value.tuple { toList := [Value.slice q3 k5 k6, Value.bool false] }) w12))))
theorem cortadolaw49_do_eq (g : Nat) (q : Option Addr) (l c : Nat) (most kind k v n : Int) (w : World) (K : Value → World → Prop) : fw Try.prog Try.f12 (annL []) (ordL [(13, [(0, 0), (1, 0), (2, 0), (5, 0), (6, 0), (7, 0), (10, 0), (3, 1), (8, 1), (4, 2), (9, 3), (11, 0), (12, 0), (13, 0)])]) [.pointer (some ⟨g, 0, none⟩), .slice q l c, .int .i64 most, .agg #[.int .u64 kind, .int .i64 k, .int .i64 v, .int .i64 n]] w K = cortadolaw49_do_m g q l c most kind k v n w K := by kernel_rfl
theorem cortadolaw49_do_go (g : Nat) (q : Option Addr) (l c : Nat) (most kind k v n : Int) {w : World} {K : Value → World → Prop} (h : cortadolaw49_do_m g q l c most kind k v n w K) : Rets Try.prog 12 #[.pointer (some ⟨g, 0, none⟩), .slice q l c, .int .i64 most, .agg #[.int .u64 kind, .int .i64 k, .int .i64 v, .int .i64 n]] w K :=
  calls_of_fw plain mixed Try.func12 (by kernel_rfl) (by rw [cortadolaw49_do_eq]; exact h)
end Go.Proofs.Ytianklbklggboaa.Eng
