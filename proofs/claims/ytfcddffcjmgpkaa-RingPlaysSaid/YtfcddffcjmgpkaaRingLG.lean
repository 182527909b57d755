/- What the code of these functions asks for: printed by a program of this session's (gens.py) out of the seat's own functions; the kernel checks each row. -/
import Derived.Test.YtfcddffcjmgpkaaEngH
import Derived.Test.YtfcddffcjmgpkaaProg
import Derived.Test.YtfcddffcjmgpkaaBase
namespace Go.Proofs.Ytfcddffcjmgpkaa.Eng
open Go Go.Proofs
set_option linter.unusedVariables false
set_option maxRecDepth 1000000
def cortadoref07_New_m (room : Int) (w : World) (K : Value → World → Prop) : Prop :=
  NewR (85 : Nat) [Value.slice none (0 : Nat) (0 : Nat), Value.int IntKind.i64 (0 : Int)] w
  fun (a1 : Addr) (w1 : World) =>
  StoreR a1 [Value.slice none (0 : Nat) (0 : Nat), Value.int IntKind.i64 (maxI (0 : Int) (minI room (65536 : Int)))] w1
  fun (w2 : World) =>
  ∃ (q1 : Option Addr),
  ∃ (k1 : Nat),
  ∃ (k2 : Nat),
  ∃ (n1 : Int),
  (cellAt w2 (Addr.add a1 (0 : Nat)) (Value.slice q1 k1 k2) ∧
  cellAt w2 (Addr.add a1 (1 : Nat)) (Value.int IntKind.i64 n1)) ∧
  K (Value.agg { toList := [Value.slice q1 k1 k2, Value.int IntKind.i64 n1] }) w2
theorem cortadoref07_New_eq (room : Int) (w : World) (K : Value → World → Prop) : fw Try.prog Try.f63 (annL []) (ordL []) [.int .i64 room] w K = cortadoref07_New_m room w K := by kernel_rfl
theorem cortadoref07_New_go (room : Int) {w : World} {K : Value → World → Prop} (h : cortadoref07_New_m room w K) : Rets Try.prog 63 #[.int .i64 room] w K :=
  calls_of_fw plain mixed Try.func63 (by kernel_rfl) (by rw [cortadoref07_New_eq]; exact h)
def cortadoref07_Send_m (q : Option Addr) (l c : Nat) (room x : Int) (w : World) (K : Value → World → Prop) : Prop :=
  NewR (85 : Nat) [Value.slice q l c, Value.int IntKind.i64 room] w fun (a1 : Addr) (w1 : World) =>
  NewR (85 : Nat) [Value.slice none (0 : Nat) (0 : Nat), Value.int IntKind.i64 (0 : Int)] w1
  fun (a2 : Addr) (w2 : World) =>
  ∃ (q1 : Option Addr),
  ∃ (k1 : Nat),
  ∃ (k2 : Nat),
  cellAt w2 (Addr.add a1 (0 : Nat)) (Value.slice q1 k1 k2) ∧
  ∃ (n1 : Int),
  cellAt w2 (Addr.add a1 (1 : Nat)) (Value.int IntKind.i64 n1) ∧
  (decide ((↑k1 : Int) ≥ n1) = true →
  ∃ (q2 : Option Addr),
  ∃ (k3 : Nat),
  ∃ (k4 : Nat),
  ∃ (n2 : Int),
  (cellAt w2 (Addr.add a1 (0 : Nat)) (Value.slice q2 k3 k4) ∧
  cellAt w2 (Addr.add a1 (1 : Nat)) (Value.int IntKind.i64 n2)) ∧
  StoreR a2 [Value.slice q2 k3 k4, Value.int IntKind.i64 n2] w2 fun (w3 : World) =>
  ∃ (q3 : Option Addr),
  ∃ (k5 : Nat),
  ∃ (k6 : Nat),
  ∃ (n3 : Int),
  (cellAt w3 (Addr.add a2 (0 : Nat)) (Value.slice q3 k5 k6) ∧
  cellAt w3 (Addr.add a2 (1 : Nat)) (Value.int IntKind.i64 n3)) ∧
  K
  (Value.tuple { toList := [Value.agg { toList := [Value.slice q3 k5 k6, Value.int IntKind.i64 n3] }, Value.bool false] })
  w3) ∧
  (decide ((↑k1 : Int) ≥ n1) = false →
  Drw w2 fun (w4 : World) =>
  ∃ (h1 : World → Prop),
  h1 w4 ∧
  ∃ (q4 : Option Addr),
  ∃ (k7 : Nat),
  ∃ (k8 : Nat),
  (∀ (w5 : World), h1 w5 → World.cell? w5 (Addr.add a1 (0 : Nat)) = some (Value.slice q4 k7 k8)) ∧
  ∃ (n4 : Int),
  (∀ (w6 : World), h1 w6 → World.cell? w6 (Addr.add a1 (1 : Nat)) = some (Value.int IntKind.i64 n4)) ∧
  (NewR (3 : Nat) [] w4 fun (a3 : Addr) (w7 : World) =>
  h1 w7 ∧
  (RunR Try.prog
  (builtinV Builtin.append { toList := [(22 : Nat), (22 : Nat)] } (nat_lit 22)
  { toList := [Value.slice (some a3) (0 : Nat) (0 : Nat), Value.slice q4 k7 k8] })
  w7 fun (v1 : Value) (w8 : World) =>
  ∃ (q5 : Option Addr),
  ∃ (k9 : Nat),
  ∃ (k10 : Nat),
  v1 = Value.slice q5 k9 k10 ∧
  h1 w8 ∧
  NewR (3 : Nat) [Value.int IntKind.i64 x] w8 fun (a4 : Addr) (w9 : World) =>
  h1 w9 ∧
  RunR Try.prog
  (builtinV Builtin.append { toList := [(22 : Nat), (22 : Nat)] } (nat_lit 22)
  { toList := [Value.slice q5 k9 k10, Value.slice (some a4) (1 : Nat) (1 : Nat)] })
  w9 fun (v2 : Value) (w10 : World) =>
  ∃ (q6 : Option Addr),
  ∃ (k11 : Nat),
  ∃ (k12 : Nat),
  v2 = Value.slice q6 k11 k12 ∧
  h1 w10 ∧
  StoreR a2 [Value.slice q6 k11 k12, Value.int IntKind.i64 n4] w10 fun (w11 : World) =>
  ∃ (q7 : Option Addr),
  ∃ (k13 : Nat),
  ∃ (k14 : Nat),
  ∃ (n5 : Int),
  (cellAt w11 (Addr.add a2 (0 : Nat)) (Value.slice q7 k13 k14) ∧
  cellAt w11 (Addr.add a2 (1 : Nat)) (Value.int IntKind.i64 n5)) ∧
  K
  (Value.tuple
  { toList := [Value.agg { toList := [Value.slice q7 k13 k14, Value.int IntKind.i64 n5] }, Value.bool true] })
  w11) ∧
  NewR (3 : Nat) [Value.int IntKind.i64 x] w7 fun (a5 : Addr) (w12 : World) =>
  h1 w12 ∧
  RunR Try.prog
  (builtinV Builtin.append { toList := [(22 : Nat), (22 : Nat)] } (nat_lit 22)
  { toList := [Value.slice (some a3) (0 : Nat) (0 : Nat), Value.slice q4 k7 k8] })
  w12 fun (v3 : Value) (w13 : World) =>
  ∃ (q8 : Option Addr),
  ∃ (k15 : Nat),
  ∃ (k16 : Nat),
  v3 = Value.slice q8 k15 k16 ∧
  h1 w13 ∧
  RunR Try.prog
  (builtinV Builtin.append { toList := [(22 : Nat), (22 : Nat)] } (nat_lit 22)
  { toList := [Value.slice q8 k15 k16, Value.slice (some a5) (1 : Nat) (1 : Nat)] })
  w13 fun (v4 : Value) (w14 : World) =>
  ∃ (q9 : Option Addr),
  ∃ (k17 : Nat),
  ∃ (k18 : Nat),
  v4 = Value.slice q9 k17 k18 ∧
  h1 w14 ∧
  StoreR a2 [Value.slice q9 k17 k18, Value.int IntKind.i64 n4] w14 fun (w15 : World) =>
  ∃ (q10 : Option Addr),
  ∃ (k19 : Nat),
  ∃ (k20 : Nat),
  ∃ (n6 : Int),
  (cellAt w15 (Addr.add a2 (0 : Nat)) (Value.slice q10 k19 k20) ∧
  cellAt w15 (Addr.add a2 (1 : Nat)) (Value.int IntKind.i64 n6)) ∧
  K
  (Value.tuple
  { toList := [Value.agg { toList := [Value.slice q10 k19 k20, Value.int IntKind.i64 n6] }, Value.bool true] })
  w15) ∧
  NewR (3 : Nat) [Value.int IntKind.i64 x] w4 fun (a6 : Addr) (w16 : World) =>
  h1 w16 ∧
  NewR (3 : Nat) [] w16 fun (a7 : Addr) (w17 : World) =>
  h1 w17 ∧
  RunR Try.prog
  (builtinV Builtin.append { toList := [(22 : Nat), (22 : Nat)] } (nat_lit 22)
  { toList := [Value.slice (some a7) (0 : Nat) (0 : Nat), Value.slice q4 k7 k8] })
  w17 fun (v5 : Value) (w18 : World) =>
  ∃ (q11 : Option Addr),
  ∃ (k21 : Nat),
  ∃ (k22 : Nat),
  v5 = Value.slice q11 k21 k22 ∧
  h1 w18 ∧
  RunR Try.prog
  (builtinV Builtin.append { toList := [(22 : Nat), (22 : Nat)] } (nat_lit 22)
  { toList := [Value.slice q11 k21 k22, Value.slice (some a6) (1 : Nat) (1 : Nat)] })
  w18 fun (v6 : Value) (w19 : World) =>
  ∃ (q12 : Option Addr),
  ∃ (k23 : Nat),
  ∃ (k24 : Nat),
  v6 = Value.slice q12 k23 k24 ∧
  h1 w19 ∧
  StoreR a2 [Value.slice q12 k23 k24, Value.int IntKind.i64 n4] w19 fun (w20 : World) =>
  ∃ (q13 : Option Addr),
  ∃ (k25 : Nat),
  ∃ (k26 : Nat),
  ∃ (n7 : Int),
  (cellAt w20 (Addr.add a2 (0 : Nat)) (Value.slice q13 k25 k26) ∧
  cellAt w20 (Addr.add a2 (1 : Nat)) (Value.int IntKind.i64 n7)) ∧
  K
  (Value.tuple
  { toList := [Value.agg { toList := [Value.slice q13 k25 k26, Value.int IntKind.i64 n7] }, Value.bool true] })
  w20)
theorem cortadoref07_Send_eq (q : Option Addr) (l c : Nat) (room x : Int) (w : World) (K : Value → World → Prop) : fw Try.prog Try.f64 (annL []) (ordL [(3, [(1, 0), (4, 0), (7, 0), (2, 1), (8, 1), (0, 6), (0, 2), (0, 6), (3, 2), (5, 2), (6, 2), (9, 0), (10, 3), (11, 0), (0, 7), (5, 2), (3, 2), (6, 2), (9, 0), (10, 3), (11, 0), (0, 7), (5, 2), (0, 2), (3, 2), (6, 2), (9, 0), (10, 3), (11, 0), (0, 7)])]) [.agg #[.slice q l c, .int .i64 room], .int .i64 x] w K = cortadoref07_Send_m q l c room x w K := by kernel_rfl
theorem cortadoref07_Send_go (q : Option Addr) (l c : Nat) (room x : Int) {w : World} {K : Value → World → Prop} (h : cortadoref07_Send_m q l c room x w K) : Rets Try.prog 64 #[.agg #[.slice q l c, .int .i64 room], .int .i64 x] w K :=
  calls_of_fw plain mixed Try.func64 (by kernel_rfl) (by rw [cortadoref07_Send_eq]; exact h)
def cortadoref07_Take_m (q : Option Addr) (l c : Nat) (room : Int) (w : World) (K : Value → World → Prop) : Prop :=
  NewR (85 : Nat) [Value.slice q l c, Value.int IntKind.i64 room] w fun (a1 : Addr) (w1 : World) =>
  NewR (85 : Nat) [Value.slice none (0 : Nat) (0 : Nat), Value.int IntKind.i64 (0 : Int)] w1
  fun (a2 : Addr) (w2 : World) =>
  ∃ (q1 : Option Addr),
  ∃ (k1 : Nat),
  ∃ (k2 : Nat),
  cellAt w2 (Addr.add a1 (0 : Nat)) (Value.slice q1 k1 k2) ∧
  (((↑k1 : Int) == (0 : Int)) = true →
  ∃ (q2 : Option Addr),
  ∃ (k3 : Nat),
  ∃ (k4 : Nat),
  ∃ (n1 : Int),
  (cellAt w2 (Addr.add a1 (0 : Nat)) (Value.slice q2 k3 k4) ∧
  cellAt w2 (Addr.add a1 (1 : Nat)) (Value.int IntKind.i64 n1)) ∧
  StoreR a2 [Value.slice q2 k3 k4, Value.int IntKind.i64 n1] w2 fun (w3 : World) =>
  ∃ (q3 : Option Addr),
  ∃ (k5 : Nat),
  ∃ (k6 : Nat),
  ∃ (n2 : Int),
  (cellAt w3 (Addr.add a2 (0 : Nat)) (Value.slice q3 k5 k6) ∧
  cellAt w3 (Addr.add a2 (1 : Nat)) (Value.int IntKind.i64 n2)) ∧
  K
  (Value.tuple
  {
  toList :=
  [Value.agg { toList := [Value.slice q3 k5 k6, Value.int IntKind.i64 n2] }, Value.int IntKind.i64 (0 : Int),
  Value.bool false] })
  w3) ∧
  (((↑k1 : Int) == (0 : Int)) = false →
  Drw w2 fun (w4 : World) =>
  ∃ (h1 : World → Prop),
  h1 w4 ∧
  ∃ (q4 : Option Addr),
  ∃ (k7 : Nat),
  ∃ (k8 : Nat),
  (∀ (w5 : World), h1 w5 → World.cell? w5 (Addr.add a1 (0 : Nat)) = some (Value.slice q4 k7 k8)) ∧
  (0 : Int) ≤ (1 : Int) ∧
  (1 : Int) ≤ (↑k7 : Int) ∧
  ∃ (n3 : Int),
  (∀ (w6 : World), h1 w6 → World.cell? w6 (Addr.add a1 (1 : Nat)) = some (Value.int IntKind.i64 n3)) ∧
  ∃ (q5 : Option Addr),
  ∃ (k9 : Nat),
  ∃ (k10 : Nat),
  (∀ (w7 : World), h1 w7 → World.cell? w7 (Addr.add a1 (0 : Nat)) = some (Value.slice q5 k9 k10)) ∧
  (0 : Int) ≤ (0 : Int) ∧
  (0 : Int) < (↑k9 : Int) ∧
  someR q5 fun (a3 : Addr) =>
  ∃ (n4 : Int),
  (∀ (w8 : World), h1 w8 → World.cell? w8 (Addr.add a3 (0 : Nat)) = some (Value.int IntKind.i64 n4)) ∧
  StoreR a2 [Value.slice (slcA q4 (1 : Nat) k8 (1 : Nat)) (k7 - (1 : Nat)) (k8 - (1 : Nat)), Value.int IntKind.i64 n3] w4
  fun (w9 : World) =>
  h1 w9 ∧
  ∃ (q6 : Option Addr),
  ∃ (k11 : Nat),
  ∃ (k12 : Nat),
  ∃ (n5 : Int),
  (cellAt w9 (Addr.add a2 (0 : Nat)) (Value.slice q6 k11 k12) ∧
  cellAt w9 (Addr.add a2 (1 : Nat)) (Value.int IntKind.i64 n5)) ∧
  K
  (Value.tuple
  {
  toList :=
  [Value.agg { toList := [Value.slice q6 k11 k12, Value.int IntKind.i64 n5] }, Value.int IntKind.i64 n4,
  Value.bool true] })
  w9)
theorem cortadoref07_Take_eq (q : Option Addr) (l c : Nat) (room : Int) (w : World) (K : Value → World → Prop) : fw Try.prog Try.f66 (annL []) (ordL [(3, [(0, 0), (3, 0), (6, 0), (1, 1), (2, 0), (4, 1), (5, 0), (7, 1), (8, 0), (9, 1), (10, 2), (11, 0), (12, 0)])]) [.agg #[.slice q l c, .int .i64 room]] w K = cortadoref07_Take_m q l c room w K := by kernel_rfl
theorem cortadoref07_Take_go (q : Option Addr) (l c : Nat) (room : Int) {w : World} {K : Value → World → Prop} (h : cortadoref07_Take_m q l c room w K) : Rets Try.prog 66 #[.agg #[.slice q l c, .int .i64 room]] w K :=
  calls_of_fw plain mixed Try.func66 (by kernel_rfl) (by rw [cortadoref07_Take_eq]; exact h)
def cortadoref07_At_m (q : Option Addr) (l c : Nat) (room i : Int) (w : World) (K : Value → World → Prop) : Prop :=
  NewR (85 : Nat) [Value.slice q l c, Value.int IntKind.i64 room] w fun (a1 : Addr) (w1 : World) =>
  (decide (i < (0 : Int)) = false →
  ∃ (q1 : Option Addr),
  ∃ (k1 : Nat),
  ∃ (k2 : Nat),
  cellAt w1 (Addr.add a1 (0 : Nat)) (Value.slice q1 k1 k2) ∧
  (decide (i ≥ (↑k1 : Int)) = true →
  K (Value.tuple { toList := [Value.int IntKind.i64 (0 : Int), Value.bool false] }) w1) ∧
  (decide (i ≥ (↑k1 : Int)) = false →
  ∃ (q2 : Option Addr),
  ∃ (k3 : Nat),
  ∃ (k4 : Nat),
  cellAt w1 (Addr.add a1 (0 : Nat)) (Value.slice q2 k3 k4) ∧
  (0 : Int) ≤ i ∧
  i < (↑k3 : Int) ∧
  someR q2 fun (a2 : Addr) =>
  ∃ (n1 : Int),
  cellAt w1 (Addr.add a2 (Int.toNat i * (1 : Nat))) (Value.int IntKind.i64 n1) ∧
  K (Value.tuple { toList := [Value.int IntKind.i64 n1, Value.bool true] }) w1)) ∧
  (decide (i < (0 : Int)) = true → K (Value.tuple { toList := [Value.int IntKind.i64 (0 : Int), Value.bool false] }) w1)
theorem cortadoref07_At_eq (q : Option Addr) (l c : Nat) (room i : Int) (w : World) (K : Value → World → Prop) : fw Try.prog Try.f68 (annL []) (ordL []) [.agg #[.slice q l c, .int .i64 room], .int .i64 i] w K = cortadoref07_At_m q l c room i w K := by kernel_rfl
theorem cortadoref07_At_go (q : Option Addr) (l c : Nat) (room i : Int) {w : World} {K : Value → World → Prop} (h : cortadoref07_At_m q l c room i w K) : Rets Try.prog 68 #[.agg #[.slice q l c, .int .i64 room], .int .i64 i] w K :=
  calls_of_fw plain mixed Try.func68 (by kernel_rfl) (by rw [cortadoref07_At_eq]; exact h)
def cortadoref07_Same_m (q : Option Addr) (l c : Nat) (q2 : Option Addr) (l2 c2 : Nat) (w : World) (K : Value → World → Prop) : Prop :=
  (((↑l : Int) != (↑l2 : Int)) = true → K (Value.bool false) w) ∧
  (((↑l : Int) != (↑l2 : Int)) = false →
  ∃ (h1 : Nat → List Value → World → Prop),
  (∃ (k1 : Nat), h1 k1 [Value.int IntKind.i64 (0 : Int)] w) ∧
  ∀ (k2 : Nat) (w1 : World) (v1 : Value) (n1 : Int) (v2 v3 v4 v5 v6 v7 v8 v9 v10 v11 v12 v13 v14 v15 v16 : Value),
  h1 k2 [Value.int IntKind.i64 n1] w1 →
  (decide (n1 < (↑l : Int)) = true →
  Drw w1 fun (w2 : World) =>
  (0 : Int) ≤ n1 ∧
  n1 < (↑l : Int) ∧
  someR q fun (a1 : Addr) =>
  (0 : Int) ≤ n1 ∧
  n1 < (↑l2 : Int) ∧
  someR q2 fun (a2 : Addr) =>
  ∃ (n2 : Int),
  cellAt w2 (Addr.add a1 (Int.toNat n1 * (1 : Nat))) (Value.int IntKind.i64 n2) ∧
  ∃ (n3 : Int),
  cellAt w2 (Addr.add a2 (Int.toNat n1 * (1 : Nat))) (Value.int IntKind.i64 n3) ∧
  ((n2 != n3) = true → K (Value.bool false) w2) ∧
  ((n2 != n3) = false →
  ∃ (k3 : Nat), k3 < k2 ∧ h1 k3 [Value.int IntKind.i64 (IntKind.wrap IntKind.i64 (n1 + (1 : Int)))] w2)) ∧
  (decide (n1 < (↑l : Int)) = false → K (Value.bool true) w1))
theorem cortadoref07_Same_eq (q : Option Addr) (l c : Nat) (q2 : Option Addr) (l2 c2 : Nat) (w : World) (K : Value → World → Prop) : fw Try.prog Try.f70 (annL [(2, [(4, none), (5, some 3), (11, none), (12, none), (13, none), (14, none), (15, none), (16, none), (17, none), (18, none), (19, none), (20, none), (21, none), (22, none), (23, none), (24, none), (25, none)])]) (ordL [(6, [(0, 0), (1, 0), (2, 0), (4, 0), (5, 0), (6, 0), (3, 1), (7, 1), (8, 0)])]) [.slice q l c, .slice q2 l2 c2] w K = cortadoref07_Same_m q l c q2 l2 c2 w K := by kernel_rfl
theorem cortadoref07_Same_go (q : Option Addr) (l c : Nat) (q2 : Option Addr) (l2 c2 : Nat) {w : World} {K : Value → World → Prop} (h : cortadoref07_Same_m q l c q2 l2 c2 w K) : Rets Try.prog 70 #[.slice q l c, .slice q2 l2 c2] w K :=
  calls_of_fw plain mixed Try.func70 (by kernel_rfl) (by rw [cortadoref07_Same_eq]; exact h)
def cortadolaw07_awake_m  (w : World) (K : Value → World → Prop) : Prop :=
  Rets Try.prog (62 : Nat) { toList := [Value.int IntKind.i64 (2 : Int)] } w fun (v1 : Value) (w1 : World) =>
  ∃ (q1 : Option Addr),
  v1 = Value.pointer q1 ∧
  Rets Try.prog (65 : Nat) { toList := [Value.pointer q1, Value.int IntKind.i64 (1 : Int)] } w1
  fun (v2 : Value) (w2 : World) =>
  ∃ (b1 : Bool),
  v2 = Value.bool b1 ∧
  Rets Try.prog (65 : Nat) { toList := [Value.pointer q1, Value.int IntKind.i64 (2 : Int)] } w2
  fun (v3 : Value) (w3 : World) =>
  ∃ (b2 : Bool),
  v3 = Value.bool b2 ∧
  Rets Try.prog (65 : Nat) { toList := [Value.pointer q1, Value.int IntKind.i64 (3 : Int)] } w3
  fun (v4 : Value) (w4 : World) =>
  ∃ (b3 : Bool),
  v4 = Value.bool b3 ∧
  Rets Try.prog (67 : Nat) { toList := [Value.pointer q1] } w4 fun (v5 : Value) (w5 : World) =>
  ∃ (n1 : Int),
  ∃ (b4 : Bool),
  v5 = Value.tuple { toList := [Value.int IntKind.i64 n1, Value.bool b4] } ∧
  (b1 = true →
  (b2 = true →
  ((!b3) = true →
  ((n1 == (1 : Int)) = true → K (Value.bool b4) w5) ∧ ((n1 == (1 : Int)) = false → K (Value.bool false) w5)) ∧
  ((!b3) = false → K (Value.bool false) w5)) ∧
  (b2 = false → K (Value.bool false) w5)) ∧
  (b1 = false → K (Value.bool false) w5)
theorem cortadolaw07_awake_eq  (w : World) (K : Value → World → Prop) : fw Try.prog Try.f19 (annL []) (ordL []) [] w K = cortadolaw07_awake_m  w K := by kernel_rfl
theorem cortadolaw07_awake_go  {w : World} {K : Value → World → Prop} (h : cortadolaw07_awake_m  w K) : Rets Try.prog 19 #[] w K :=
  calls_of_fw plain mixed Try.func19 (by kernel_rfl) (by rw [cortadolaw07_awake_eq]; exact h)
def cortadolaw07_told_m (q : Option Addr) (most : Int) (w : World) (K : Value → World → Prop) : Prop :=
  NewR (3 : Nat) [Value.int IntKind.i64 most] w fun (a1 : Addr) (w1 : World) =>
  NewR (22 : Nat) [Value.slice none (0 : Nat) (0 : Nat)] w1 fun (a2 : Addr) (w2 : World) =>
  Rets Try.prog (114 : Nat) { toList := [Value.pointer q] } w2 fun (v1 : Value) (w3 : World) =>
  ∃ (f1 : Fn),
  ∃ (a3 : Array Value),
  ∃ (c1 : Array Value),
  v1 = Value.func f1 a3 c1 ∧
  (false = true → K (Value.slice none (0 : Nat) (0 : Nat)) w3) ∧
  (false = false →
  ∃ (v2 : Value),
  Value.func f1 a3 c1 = Value.func (Fn.func (128 : Nat)) { toList := [] } { toList := [v2] } ∧
  LoopR w3 fun (k1 k2 : Nat) (L1 : Loop) (w4 : World) =>
  (∀ (n1 n2 : Int) (w5 : World) (h1 : Value → World → Prop),
  RecR k2 L1 w5 →
  (BegR k2 L1 w5 fun (w6 : World) =>
  ∃ (q1 : Option Addr),
  ∃ (k3 : Nat),
  ∃ (k4 : Nat),
  cellAt w6 a2 (Value.slice q1 k3 k4) ∧
  ∃ (n3 : Int),
  cellAt w6 a1 (Value.int IntKind.i64 n3) ∧
  (decide ((↑k3 : Int) ≥ n3) = false →
  ∃ (q2 : Option Addr),
  ∃ (k5 : Nat),
  ∃ (k6 : Nat),
  cellAt w6 a2 (Value.slice q2 k5 k6) ∧
  ((n1 != (↑k5 : Int)) = true → FinR k2 L1 (some (Code.exit (0 : Nat))) w6 fun (w7 : World) => h1 (Value.bool false) w7) ∧
  ((n1 != (↑k5 : Int)) = false →
  ∃ (q3 : Option Addr),
  ∃ (k7 : Nat),
  ∃ (k8 : Nat),
  cellAt w6 a2 (Value.slice q3 k7 k8) ∧
  NewR (3 : Nat) [Value.int IntKind.i64 n2] w6 fun (a4 : Addr) (w8 : World) =>
  RunR Try.prog
  (builtinV Builtin.append { toList := [(22 : Nat), (22 : Nat)] } (nat_lit 22)
  { toList := [Value.slice q3 k7 k8, Value.slice (some a4) (1 : Nat) (1 : Nat)] })
  w8 fun (v3 : Value) (w9 : World) =>
  ∃ (q4 : Option Addr),
  ∃ (k9 : Nat),
  ∃ (k10 : Nat),
  v3 = Value.slice q4 k9 k10 ∧
  StoreR a2 [Value.slice q4 k9 k10] w9 fun (w10 : World) =>
  FinR k2 L1 none w10 fun (w11 : World) => h1 (Value.bool true) w11)) ∧
  (decide ((↑k3 : Int) ≥ n3) = true →
  FinR k2 L1 (some (Code.exit (0 : Nat))) w6 fun (w12 : World) => h1 (Value.bool false) w12)) →
  RoundR Try.prog k2 { toList := [Value.int IntKind.i64 n1, Value.int IntKind.i64 n2] } w5 h1) →
  Rets Try.prog (128 : Nat) { toList := [Value.func (Fn.yield k2) { toList := [] } { toList := [] }, v2] } w4
  fun (v4 : Value) (w13 : World) =>
  (EndR k2 L1 none w13 fun (w14 : World) =>
  ∃ (q5 : Option Addr),
  ∃ (k11 : Nat),
  ∃ (k12 : Nat),
  cellAt w14 a2 (Value.slice q5 k11 k12) ∧ MarkR k1 w14 fun (w15 : World) => K (Value.slice q5 k11 k12) w15) ∨
  EndR k2 L1 (some (Code.exit (0 : Nat))) w13 fun (w16 : World) =>
  ∃ (q6 : Option Addr),
  ∃ (k13 : Nat),
  ∃ (k14 : Nat),
  cellAt w16 a2 (Value.slice q6 k13 k14) ∧ MarkR k1 w16 fun (w17 : World) => K (Value.slice q6 k13 k14) w17)
theorem cortadolaw07_told_eq (q : Option Addr) (most : Int) (w : World) (K : Value → World → Prop) : fw Try.prog Try.f75 (annL [(2, [(14, some 3), (15, some 3)])]) (ordL [(1000002, [(128, 1)])]) [.pointer q, .int .i64 most] w K = cortadolaw07_told_m q most w K := by kernel_rfl
theorem cortadolaw07_told_go (q : Option Addr) (most : Int) {w : World} {K : Value → World → Prop} (h : cortadolaw07_told_m q most w K) : Rets Try.prog 75 #[.pointer q, .int .i64 most] w K :=
  calls_of_fw plain mixed Try.func75 (by kernel_rfl) (by rw [cortadolaw07_told_eq]; exact h)
def cortadolaw07_drained_m (q : Option Addr) (most : Int) (w : World) (K : Value → World → Prop) : Prop :=
  NewR (3 : Nat) [Value.int IntKind.i64 most] w fun (a1 : Addr) (w1 : World) =>
  NewR (22 : Nat) [Value.slice none (0 : Nat) (0 : Nat)] w1 fun (a2 : Addr) (w2 : World) =>
  Rets Try.prog (113 : Nat) { toList := [Value.pointer q] } w2 fun (v1 : Value) (w3 : World) =>
  ∃ (f1 : Fn),
  ∃ (a3 : Array Value),
  ∃ (c1 : Array Value),
  v1 = Value.func f1 a3 c1 ∧
  ∃ (n1 : Int),
  cellAt w3 a1 (Value.int IntKind.i64 n1) ∧
  (decide (n1 < (1 : Int)) = false →
  (false = true →
  ∃ (q1 : Option Addr), ∃ (k1 : Nat), ∃ (k2 : Nat), cellAt w3 a2 (Value.slice q1 k1 k2) ∧ K (Value.slice q1 k1 k2) w3) ∧
  (false = false →
  ∃ (v2 : Value),
  Value.func f1 a3 c1 = Value.func (Fn.func (127 : Nat)) { toList := [] } { toList := [v2] } ∧
  LoopR w3 fun (k3 k4 : Nat) (L1 : Loop) (w4 : World) =>
  (∀ (n2 : Int) (w5 : World) (h1 : Value → World → Prop),
  RecR k4 L1 w5 →
  (BegR k4 L1 w5 fun (w6 : World) =>
  ∃ (q2 : Option Addr),
  ∃ (k5 : Nat),
  ∃ (k6 : Nat),
  cellAt w6 a2 (Value.slice q2 k5 k6) ∧
  NewR (3 : Nat) [Value.int IntKind.i64 n2] w6 fun (a4 : Addr) (w7 : World) =>
  RunR Try.prog
  (builtinV Builtin.append { toList := [(22 : Nat), (22 : Nat)] } (nat_lit 22)
  { toList := [Value.slice q2 k5 k6, Value.slice (some a4) (1 : Nat) (1 : Nat)] })
  w7 fun (v3 : Value) (w8 : World) =>
  ∃ (q3 : Option Addr),
  ∃ (k7 : Nat),
  ∃ (k8 : Nat),
  v3 = Value.slice q3 k7 k8 ∧
  StoreR a2 [Value.slice q3 k7 k8] w8 fun (w9 : World) =>
  ∃ (q4 : Option Addr),
  ∃ (k9 : Nat),
  ∃ (k10 : Nat),
  cellAt w9 a2 (Value.slice q4 k9 k10) ∧
  ∃ (n3 : Int),
  cellAt w9 a1 (Value.int IntKind.i64 n3) ∧
  (decide ((↑k9 : Int) ≥ n3) = true →
  FinR k4 L1 (some (Code.exit (0 : Nat))) w9 fun (w10 : World) => h1 (Value.bool false) w10) ∧
  (decide ((↑k9 : Int) ≥ n3) = false → FinR k4 L1 none w9 fun (w11 : World) => h1 (Value.bool true) w11)) →
  RoundR Try.prog k4 { toList := [Value.int IntKind.i64 n2] } w5 h1) →
  Rets Try.prog (127 : Nat) { toList := [Value.func (Fn.yield k4) { toList := [] } { toList := [] }, v2] } w4
  fun (v4 : Value) (w12 : World) =>
  (EndR k4 L1 none w12 fun (w13 : World) =>
  ∃ (q5 : Option Addr),
  ∃ (k11 : Nat),
  ∃ (k12 : Nat),
  cellAt w13 a2 (Value.slice q5 k11 k12) ∧ MarkR k3 w13 fun (w14 : World) => K (Value.slice q5 k11 k12) w14) ∨
  EndR k4 L1 (some (Code.exit (0 : Nat))) w12 fun (w15 : World) =>
  ∃ (q6 : Option Addr),
  ∃ (k13 : Nat),
  ∃ (k14 : Nat),
  cellAt w15 a2 (Value.slice q6 k13 k14) ∧ MarkR k3 w15 fun (w16 : World) => K (Value.slice q6 k13 k14) w16)) ∧
  (decide (n1 < (1 : Int)) = true →
  ∃ (q7 : Option Addr),
  ∃ (k15 : Nat), ∃ (k16 : Nat), cellAt w3 a2 (Value.slice q7 k15 k16) ∧ K (Value.slice q7 k15 k16) w3)
theorem cortadolaw07_drained_eq (q : Option Addr) (most : Int) (w : World) (K : Value → World → Prop) : fw Try.prog Try.f71 (annL [(2, [(18, some 3)])]) (ordL [(1000002, [(127, 1)])]) [.pointer q, .int .i64 most] w K = cortadolaw07_drained_m q most w K := by kernel_rfl
theorem cortadolaw07_drained_go (q : Option Addr) (most : Int) {w : World} {K : Value → World → Prop} (h : cortadolaw07_drained_m q most w K) : Rets Try.prog 71 #[.pointer q, .int .i64 most] w K :=
  calls_of_fw plain mixed Try.func71 (by kernel_rfl) (by rw [cortadolaw07_drained_eq]; exact h)
def cortadolaw07_stands_m (q : Option Addr) (q2 : Option Addr) (l c : Nat) (w : World) (K : Value → World → Prop) : Prop :=
  ∃ (h1 : Nat → List Value → World → Prop),
  (∃ (k1 : Nat), h1 k1 [Value.int IntKind.i64 (0 : Int)] w) ∧
  ∀ (k2 : Nat) (w1 : World) (v1 : Value) (n1 : Int)
  (v2 v3 v4 v5 v6 v7 v8 v9 v10 v11 v12 v13 v14 v15 v16 v17 v18 v19 v20 v21 v22 v23 v24 v25 : Value),
  h1 k2 [Value.int IntKind.i64 n1] w1 →
  (decide (n1 < (↑l : Int)) = true →
  Rets Try.prog (69 : Nat) { toList := [Value.pointer q, Value.int IntKind.i64 n1] } w1 fun (v26 : Value) (w2 : World) =>
  ∃ (n2 : Int),
  ∃ (b1 : Bool),
  v26 = Value.tuple { toList := [Value.int IntKind.i64 n2, Value.bool b1] } ∧
  ((!b1) = false →
  (0 : Int) ≤ n1 ∧
  n1 < (↑l : Int) ∧
  someR q2 fun (a1 : Addr) =>
  ∃ (n3 : Int),
  cellAt w2 (Addr.add a1 (Int.toNat n1 * (1 : Nat))) (Value.int IntKind.i64 n3) ∧
  ((n2 != n3) = true → K (Value.bool false) w2) ∧
  ((n2 != n3) = false →
  ∃ (k3 : Nat), k3 < k2 ∧ h1 k3 [Value.int IntKind.i64 (IntKind.wrap IntKind.i64 (n1 + (1 : Int)))] w2)) ∧
  ((!b1) = true → K (Value.bool false) w2)) ∧
  (decide (n1 < (↑l : Int)) = false → K (Value.bool true) w1)
theorem cortadolaw07_stands_eq (q : Option Addr) (q2 : Option Addr) (l c : Nat) (w : World) (K : Value → World → Prop) : fw Try.prog Try.f74 (annL [(1, [(4, none), (5, some 3), (6, none), (7, none), (8, none), (9, none), (10, none), (11, none), (12, none), (13, none), (14, none), (15, none), (16, none), (17, none), (18, none), (19, none), (20, none), (21, none), (22, none), (23, none), (24, none), (25, none), (26, none), (27, none), (28, none), (29, none)])]) (ordL []) [.pointer q, .slice q2 l c] w K = cortadolaw07_stands_m q q2 l c w K := by kernel_rfl
theorem cortadolaw07_stands_go (q : Option Addr) (q2 : Option Addr) (l c : Nat) {w : World} {K : Value → World → Prop} (h : cortadolaw07_stands_m q q2 l c w K) : Rets Try.prog 74 #[.pointer q, .slice q2 l c] w K :=
  calls_of_fw plain mixed Try.func74 (by kernel_rfl) (by rw [cortadolaw07_stands_eq]; exact h)
def cortadolaw07_RingPlays_m (room : Int) (q : Option Addr) (l c : Nat) (w : World) (K : Value → World → Prop) : Prop :=
  (decide ((↑l : Int) > (40 : Int)) = true →
  Rets Try.prog (19 : Nat) { toList := [] } w fun (v1 : Value) (w1 : World) =>
  ∃ (b1 : Bool), v1 = Value.bool b1 ∧ K (Value.bool b1) w1) ∧
  (decide ((↑l : Int) > (40 : Int)) = false →
  Rets Try.prog (62 : Nat) { toList := [Value.int IntKind.i64 room] } w fun (v2 : Value) (w2 : World) =>
  ∃ (q1 : Option Addr),
  v2 = Value.pointer q1 ∧
  Rets Try.prog (63 : Nat) { toList := [Value.int IntKind.i64 room] } w2 fun (v3 : Value) (w3 : World) =>
  ∃ (q2 : Option Addr),
  ∃ (k1 : Nat),
  ∃ (k2 : Nat),
  ∃ (n1 : Int),
  v3 = Value.agg { toList := [Value.slice q2 k1 k2, Value.int IntKind.i64 n1] } ∧
  NewR (85 : Nat) [Value.slice none (0 : Nat) (0 : Nat), Value.int IntKind.i64 (0 : Int)] w3
  fun (a1 : Addr) (w4 : World) =>
  StoreR a1 [Value.slice q2 k1 k2, Value.int IntKind.i64 n1] w4 fun (w5 : World) =>
  ∃ (h1 : Nat → List Value → World → Prop),
  (∃ (k3 : Nat), h1 k3 [Value.int IntKind.i64 (0 : Int)] w5) ∧
  ∀ (k4 : Nat) (w6 : World) (v4 : Value) (n2 : Int)
  (v5 v6 v7 v8 v9 v10 v11 v12 v13 v14 v15 v16 v17 v18 v19 v20 v21 v22 v23 v24 v25 v26 v27 v28 v29 v30 v31 v32 v33 v34 v35
  v36 v37 v38 v39 v40 v41 v42 v43 v44 v45 v46 v47 v48 v49 v50 v51 v52 v53 v54 v55 v56 v57 v58 v59 v60 v61 v62 v63 v64 v65
  v66 v67 v68 v69 v70 v71 v72 v73 v74 v75 v76 v77 v78 v79 v80 v81 v82 v83 v84 v85 v86 v87 v88 v89 v90 v91 v92 v93 v94 v95
  v96 v97 v98 v99 v100 v101 v102 v103 v104 v105 v106 v107 v108 v109 v110 v111 v112 v113 v114 v115 v116 v117 v118 v119 v120
  v121 v122 v123 v124 v125 v126 v127 v128 v129 v130 v131 v132 v133 v134 v135 v136 v137 v138 v139 v140 v141 v142 v143 v144
  v145 v146 v147 v148 v149 v150 : Value),
  h1 k4 [Value.int IntKind.i64 n2] w6 →
  (decide (n2 < (↑l : Int)) = true →
  (0 : Int) ≤ n2 ∧
  n2 < (↑l : Int) ∧
  someR q fun (a2 : Addr) =>
  ∃ (n3 : Int),
  cellAt w6 (Addr.add (Addr.add a2 (Int.toNat n2 * (2 : Nat))) (0 : Nat)) (Value.int IntKind.u64 n3) ∧
  (4 : Int) ≠ (0 : Int) ∧
  ∃ (h2 : List Value → World → Prop),
  (((Int.tmod n3 (4 : Int) == (0 : Int)) = true →
  Drw w6 fun (w7 : World) =>
  ∃ (h3 : World → Prop),
  h3 w7 ∧
  (0 : Int) ≤ n2 ∧
  n2 < (↑l : Int) ∧
  someR q fun (a3 : Addr) =>
  ∃ (q3 : Option Addr),
  ∃ (k5 : Nat),
  ∃ (k6 : Nat),
  ∃ (n4 : Int),
  ((∀ (w8 : World), h3 w8 → World.cell? w8 (Addr.add a1 (0 : Nat)) = some (Value.slice q3 k5 k6)) ∧
  ∀ (w9 : World), h3 w9 → World.cell? w9 (Addr.add a1 ((0 : Nat) + (1 : Nat))) = some (Value.int IntKind.i64 n4)) ∧
  ∃ (n5 : Int),
  (∀ (w10 : World),
  h3 w10 →
  World.cell? w10 (Addr.add (Addr.add a3 (Int.toNat n2 * (2 : Nat))) (1 : Nat)) = some (Value.int IntKind.i64 n5)) ∧
  (Rets Try.prog (64 : Nat)
  { toList := [Value.agg { toList := [Value.slice q3 k5 k6, Value.int IntKind.i64 n4] }, Value.int IntKind.i64 n5] } w7
  fun (v151 : Value) (w11 : World) =>
  ∃ (q4 : Option Addr),
  ∃ (k7 : Nat),
  ∃ (k8 : Nat),
  ∃ (n6 : Int),
  ∃ (b2 : Bool),
  v151 =
  Value.tuple { toList := [Value.agg { toList := [Value.slice q4 k7 k8, Value.int IntKind.i64 n6] }, Value.bool b2] } ∧
  h3 w11 ∧
  NewR (85 : Nat) [Value.slice none (0 : Nat) (0 : Nat), Value.int IntKind.i64 (0 : Int)] w11
  fun (a4 : Addr) (w12 : World) =>
  h3 w12 ∧
  StoreR a4 [Value.slice q4 k7 k8, Value.int IntKind.i64 n6] w12 fun (w13 : World) =>
  h3 w13 ∧
  (0 : Int) ≤ n2 ∧
  n2 < (↑l : Int) ∧
  someR q fun (a5 : Addr) =>
  ∃ (n7 : Int),
  cellAt w13 (Addr.add (Addr.add a5 (Int.toNat n2 * (2 : Nat))) (1 : Nat)) (Value.int IntKind.i64 n7) ∧
  Rets Try.prog (65 : Nat) { toList := [Value.pointer q1, Value.int IntKind.i64 n7] } w13
  fun (v152 : Value) (w14 : World) =>
  ∃ (b3 : Bool),
  v152 = Value.bool b3 ∧
  ((!b3 == b2) = true → K (Value.bool false) w14) ∧
  ((!b3 == b2) = false →
  ∃ (q5 : Option Addr),
  ∃ (k9 : Nat),
  ∃ (k10 : Nat),
  ∃ (n8 : Int),
  (cellAt w14 (Addr.add a4 (0 : Nat)) (Value.slice q5 k9 k10) ∧
  cellAt w14 (Addr.add a4 (1 : Nat)) (Value.int IntKind.i64 n8)) ∧
  StoreR a1 [Value.slice q5 k9 k10, Value.int IntKind.i64 n8] w14 fun (w15 : World) => h2 [] w15)) ∧
  NewR (85 : Nat) [Value.slice none (0 : Nat) (0 : Nat), Value.int IntKind.i64 (0 : Int)] w7
  fun (a6 : Addr) (w16 : World) =>
  h3 w16 ∧
  Rets Try.prog (64 : Nat)
  { toList := [Value.agg { toList := [Value.slice q3 k5 k6, Value.int IntKind.i64 n4] }, Value.int IntKind.i64 n5] } w16
  fun (v153 : Value) (w17 : World) =>
  ∃ (q6 : Option Addr),
  ∃ (k11 : Nat),
  ∃ (k12 : Nat),
  ∃ (n9 : Int),
  ∃ (b4 : Bool),
  v153 =
  Value.tuple { toList := [Value.agg { toList := [Value.slice q6 k11 k12, Value.int IntKind.i64 n9] }, Value.bool b4] } ∧
  h3 w17 ∧
  StoreR a6 [Value.slice q6 k11 k12, Value.int IntKind.i64 n9] w17 fun (w18 : World) =>
  h3 w18 ∧
  (0 : Int) ≤ n2 ∧
  n2 < (↑l : Int) ∧
  someR q fun (a7 : Addr) =>
  ∃ (n10 : Int),
  cellAt w18 (Addr.add (Addr.add a7 (Int.toNat n2 * (2 : Nat))) (1 : Nat)) (Value.int IntKind.i64 n10) ∧
  Rets Try.prog (65 : Nat) { toList := [Value.pointer q1, Value.int IntKind.i64 n10] } w18
  fun (v154 : Value) (w19 : World) =>
  ∃ (b5 : Bool),
  v154 = Value.bool b5 ∧
  ((!b5 == b4) = true → K (Value.bool false) w19) ∧
  ((!b5 == b4) = false →
  ∃ (q7 : Option Addr),
  ∃ (k13 : Nat),
  ∃ (k14 : Nat),
  ∃ (n11 : Int),
  (cellAt w19 (Addr.add a6 (0 : Nat)) (Value.slice q7 k13 k14) ∧
  cellAt w19 (Addr.add a6 (1 : Nat)) (Value.int IntKind.i64 n11)) ∧
  StoreR a1 [Value.slice q7 k13 k14, Value.int IntKind.i64 n11] w19 fun (w20 : World) => h2 [] w20)) ∧
  ((Int.tmod n3 (4 : Int) == (0 : Int)) = false →
  ((Int.tmod n3 (4 : Int) == (1 : Int)) = true →
  ∃ (q8 : Option Addr),
  ∃ (k15 : Nat),
  ∃ (k16 : Nat),
  ∃ (n12 : Int),
  (cellAt w6 (Addr.add a1 (0 : Nat)) (Value.slice q8 k15 k16) ∧
  cellAt w6 (Addr.add a1 (1 : Nat)) (Value.int IntKind.i64 n12)) ∧
  Rets Try.prog (66 : Nat) { toList := [Value.agg { toList := [Value.slice q8 k15 k16, Value.int IntKind.i64 n12] }] } w6
  fun (v155 : Value) (w21 : World) =>
  ∃ (q9 : Option Addr),
  ∃ (k17 : Nat),
  ∃ (k18 : Nat),
  ∃ (n13 : Int),
  ∃ (n14 : Int),
  ∃ (b6 : Bool),
  v155 =
  Value.tuple
  {
  toList :=
  [Value.agg { toList := [Value.slice q9 k17 k18, Value.int IntKind.i64 n13] }, Value.int IntKind.i64 n14,
  Value.bool b6] } ∧
  NewR (85 : Nat) [Value.slice none (0 : Nat) (0 : Nat), Value.int IntKind.i64 (0 : Int)] w21
  fun (a8 : Addr) (w22 : World) =>
  StoreR a8 [Value.slice q9 k17 k18, Value.int IntKind.i64 n13] w22 fun (w23 : World) =>
  Rets Try.prog (67 : Nat) { toList := [Value.pointer q1] } w23 fun (v156 : Value) (w24 : World) =>
  ∃ (n15 : Int),
  ∃ (b7 : Bool),
  v156 = Value.tuple { toList := [Value.int IntKind.i64 n15, Value.bool b7] } ∧
  ((n14 != n15) = false →
  ((!b6 == b7) = true → K (Value.bool false) w24) ∧
  ((!b6 == b7) = false →
  ∃ (q10 : Option Addr),
  ∃ (k19 : Nat),
  ∃ (k20 : Nat),
  ∃ (n16 : Int),
  (cellAt w24 (Addr.add a8 (0 : Nat)) (Value.slice q10 k19 k20) ∧
  cellAt w24 (Addr.add a8 (1 : Nat)) (Value.int IntKind.i64 n16)) ∧
  StoreR a1 [Value.slice q10 k19 k20, Value.int IntKind.i64 n16] w24 fun (w25 : World) => h2 [] w25)) ∧
  ((n14 != n15) = true → K (Value.bool false) w24)) ∧
  ((Int.tmod n3 (4 : Int) == (1 : Int)) = false →
  ((Int.tmod n3 (4 : Int) == (2 : Int)) = true →
  Drw w6 fun (w26 : World) =>
  (0 : Int) ≤ n2 ∧
  n2 < (↑l : Int) ∧
  someR q fun (a9 : Addr) =>
  ∃ (q11 : Option Addr),
  ∃ (k21 : Nat),
  ∃ (k22 : Nat),
  ∃ (n17 : Int),
  (cellAt w26 (Addr.add a1 (0 : Nat)) (Value.slice q11 k21 k22) ∧
  cellAt w26 (Addr.add a1 (1 : Nat)) (Value.int IntKind.i64 n17)) ∧
  ∃ (n18 : Int),
  cellAt w26 (Addr.add (Addr.add a9 (Int.toNat n2 * (2 : Nat))) (1 : Nat)) (Value.int IntKind.i64 n18) ∧
  Rets Try.prog (68 : Nat)
  { toList := [Value.agg { toList := [Value.slice q11 k21 k22, Value.int IntKind.i64 n17] }, Value.int IntKind.i64 n18] }
  w26 fun (v157 : Value) (w27 : World) =>
  ∃ (n19 : Int),
  ∃ (b8 : Bool),
  v157 = Value.tuple { toList := [Value.int IntKind.i64 n19, Value.bool b8] } ∧
  (0 : Int) ≤ n2 ∧
  n2 < (↑l : Int) ∧
  someR q fun (a10 : Addr) =>
  ∃ (n20 : Int),
  cellAt w27 (Addr.add (Addr.add a10 (Int.toNat n2 * (2 : Nat))) (1 : Nat)) (Value.int IntKind.i64 n20) ∧
  Rets Try.prog (69 : Nat) { toList := [Value.pointer q1, Value.int IntKind.i64 n20] } w27
  fun (v158 : Value) (w28 : World) =>
  ∃ (n21 : Int),
  ∃ (b9 : Bool),
  v158 = Value.tuple { toList := [Value.int IntKind.i64 n21, Value.bool b9] } ∧
  ((n19 != n21) = false → ((!b8 == b9) = true → K (Value.bool false) w28) ∧ ((!b8 == b9) = false → h2 [] w28)) ∧
  ((n19 != n21) = true → K (Value.bool false) w28)) ∧
  ((Int.tmod n3 (4 : Int) == (2 : Int)) = false →
  Drw w6 fun (w29 : World) =>
  (0 : Int) ≤ n2 ∧
  n2 < (↑l : Int) ∧
  someR q fun (a11 : Addr) =>
  ∃ (n22 : Int),
  cellAt w29 (Addr.add (Addr.add a11 (Int.toNat n2 * (2 : Nat))) (1 : Nat)) (Value.int IntKind.i64 n22) ∧
  ∃ (q12 : Option Addr),
  ∃ (k23 : Nat),
  ∃ (k24 : Nat),
  cellAt w29 (Addr.add a1 (0 : Nat)) (Value.slice q12 k23 k24) ∧
  Drw w29 fun (w30 : World) =>
  ∃ (h4 : World → Prop),
  h4 w30 ∧
  (0 : Int) ≤ n2 ∧
  n2 < (↑l : Int) ∧
  someR q fun (a12 : Addr) =>
  ∃ (n23 : Int),
  (∀ (w31 : World),
  h4 w31 →
  World.cell? w31 (Addr.add (Addr.add a12 (Int.toNat n2 * (2 : Nat))) (1 : Nat)) = some (Value.int IntKind.i64 n23)) ∧
  ∃ (q13 : Option Addr),
  ∃ (k25 : Nat),
  ∃ (k26 : Nat),
  (∀ (w32 : World), h4 w32 → World.cell? w32 (Addr.add a1 (0 : Nat)) = some (Value.slice q13 k25 k26)) ∧
  (0 : Int) ≤ maxI (0 : Int) (minI n22 (↑k23 : Int)) ∧
  maxI (0 : Int) (minI n22 (↑k23 : Int)) ≤ (↑k26 : Int) ∧
  Rets Try.prog (71 : Nat) { toList := [Value.pointer q1, Value.int IntKind.i64 n23] } w30
  fun (v159 : Value) (w33 : World) =>
  ∃ (q14 : Option Addr),
  ∃ (k27 : Nat),
  ∃ (k28 : Nat),
  v159 = Value.slice q14 k27 k28 ∧
  h4 w33 ∧
  Rets Try.prog (70 : Nat)
  {
  toList :=
  [Value.slice q14 k27 k28,
  Value.slice (slcA q13 (0 : Nat) k26 (1 : Nat)) (Int.toNat (maxI (0 : Int) (minI n22 (↑k23 : Int))) - (0 : Nat))
  (k26 - (0 : Nat))] }
  w33 fun (v160 : Value) (w34 : World) =>
  ∃ (b10 : Bool),
  v160 = Value.bool b10 ∧
  ((!b10) = true → K (Value.bool false) w34) ∧
  ((!b10) = false →
  ∃ (q15 : Option Addr),
  ∃ (k29 : Nat),
  ∃ (k30 : Nat),
  cellAt w34 (Addr.add a1 (0 : Nat)) (Value.slice q15 k29 k30) ∧
  (0 : Int) ≤ maxI (0 : Int) (minI n22 (↑k23 : Int)) ∧
  maxI (0 : Int) (minI n22 (↑k23 : Int)) ≤ (↑k29 : Int) ∧
  StoreR (Addr.add a1 (0 : Nat))
  [Value.slice (slcA q15 (Int.toNat (maxI (0 : Int) (minI n22 (↑k23 : Int)))) k30 (1 : Nat))
  (k29 - Int.toNat (maxI (0 : Int) (minI n22 (↑k23 : Int)))) (k30 - Int.toNat (maxI (0 : Int) (minI n22 (↑k23 : Int))))]
  w34 fun (w35 : World) => h2 [] w35))))) ∧
  ∀ (w36 : World)
  (v161 v162 v163 v164 v165 v166 v167 v168 v169 v170 v171 v172 v173 v174 v175 v176 v177 v178 v179 v180 v181 v182 v183 v184
  v185 v186 v187 v188 v189 v190 v191 v192 v193 v194 v195 v196 v197 v198 v199 v200 v201 v202 v203 v204 v205 v206 v207 v208
  v209 v210 v211 v212 v213 v214 v215 v216 v217 v218 v219 v220 v221 v222 v223 v224 v225 v226 v227 v228 v229 v230 v231 v232
  v233 v234 v235 v236 v237 v238 v239 v240 v241 v242 v243 v244 v245 v246 v247 v248 v249 v250 v251 v252 v253 v254 v255 v256
  v257 v258 v259 v260 v261 v262 v263 v264 v265 v266 v267 v268 v269 v270 v271 v272 v273 v274 v275 : Value),
  h2 [] w36 →
  Drw w36 fun (w37 : World) =>
  ∃ (h5 : World → Prop),
  h5 w37 ∧
  ∃ (q16 : Option Addr),
  ∃ (k31 : Nat),
  ∃ (k32 : Nat),
  (∀ (w38 : World), h5 w38 → World.cell? w38 (Addr.add a1 (0 : Nat)) = some (Value.slice q16 k31 k32)) ∧
  Rets Try.prog (72 : Nat) { toList := [Value.pointer q1] } w37 fun (v276 : Value) (w39 : World) =>
  ∃ (n24 : Int),
  v276 = Value.int IntKind.i64 n24 ∧
  h5 w39 ∧
  ((n24 != (↑k31 : Int)) = false →
  ∃ (n25 : Int),
  (∀ (w40 : World), h5 w40 → World.cell? w40 (Addr.add a1 (1 : Nat)) = some (Value.int IntKind.i64 n25)) ∧
  Rets Try.prog (73 : Nat) { toList := [Value.pointer q1] } w39 fun (v277 : Value) (w41 : World) =>
  ∃ (n26 : Int),
  v277 = Value.int IntKind.i64 n26 ∧
  h5 w41 ∧
  ((n26 != n25) = false →
  ∃ (q17 : Option Addr),
  ∃ (k33 : Nat),
  ∃ (k34 : Nat),
  (∀ (w42 : World), h5 w42 → World.cell? w42 (Addr.add a1 (0 : Nat)) = some (Value.slice q17 k33 k34)) ∧
  Rets Try.prog (74 : Nat) { toList := [Value.pointer q1, Value.slice q17 k33 k34] } w41
  fun (v278 : Value) (w43 : World) =>
  ∃ (b11 : Bool),
  v278 = Value.bool b11 ∧
  ((!b11) = true → K (Value.bool false) w43) ∧
  ((!b11) = false →
  ∃ (k35 : Nat), k35 < k4 ∧ h1 k35 [Value.int IntKind.i64 (IntKind.wrap IntKind.i64 (n2 + (1 : Int)))] w43)) ∧
  ((n26 != n25) = true → K (Value.bool false) w41)) ∧
  ((n24 != (↑k31 : Int)) = true → K (Value.bool false) w39)) ∧
  (decide (n2 < (↑l : Int)) = false →
  Drw w6 fun (w44 : World) =>
  ∃ (h6 : World → Prop),
  h6 w44 ∧
  ∃ (q18 : Option Addr),
  ∃ (k36 : Nat),
  ∃ (k37 : Nat),
  (∀ (w45 : World), h6 w45 → World.cell? w45 (Addr.add a1 (0 : Nat)) = some (Value.slice q18 k36 k37)) ∧
  Rets Try.prog (75 : Nat) { toList := [Value.pointer q1, Value.int IntKind.i64 (50 : Int)] } w44
  fun (v279 : Value) (w46 : World) =>
  ∃ (q19 : Option Addr),
  ∃ (k38 : Nat),
  ∃ (k39 : Nat),
  v279 = Value.slice q19 k38 k39 ∧
  h6 w46 ∧
  Rets Try.prog (70 : Nat) { toList := [Value.slice q19 k38 k39, Value.slice q18 k36 k37] } w46
  fun (v280 : Value) (w47 : World) =>
  ∃ (b12 : Bool),
  v280 = Value.bool b12 ∧
  (b12 = true →
  Rets Try.prog (19 : Nat) { toList := [] } w47 fun (v281 : Value) (w48 : World) =>
  ∃ (b13 : Bool), v281 = Value.bool b13 ∧ K (Value.bool b13) w48) ∧
  (b12 = false → K (Value.bool false) w47)))
theorem cortadolaw07_RingPlays_eq (room : Int) (q : Option Addr) (l c : Nat) (w : World) (K : Value → World → Prop) : fw Try.prog Try.f11 (annL [(2, [(4, none), (7, some 3), (8, none), (9, none), (10, none), (11, none), (12, none), (13, none), (14, none), (15, none), (16, none), (17, none), (18, none), (19, none), (28, none), (29, none), (30, none), (31, none), (32, none), (33, none), (34, none), (35, none), (36, none), (37, none), (38, none), (39, none), (40, none), (41, none), (42, none), (43, none), (44, none), (45, none), (46, none), (47, none), (48, none), (49, none), (50, none), (51, none), (52, none), (53, none), (54, none), (55, none), (56, none), (57, none), (58, none), (59, none), (60, none), (61, none), (62, none), (63, none), (64, none), (65, none), (66, none), (67, none), (68, none), (69, none), (70, none), (71, none), (72, none), (73, none), (74, none), (75, none), (76, none), (77, none), (78, none), (79, none), (80, none), (81, none), (82, none), (83, none), (84, none), (85, none), (86, none), (87, none), (88, none), (89, none), (90, none), (91, none), (92, none), (93, none), (94, none), (95, none), (96, none), (97, none), (98, none), (99, none), (100, none), (101, none), (102, none), (103, none), (104, none), (105, none), (106, none), (107, none), (108, none), (109, none), (110, none), (111, none), (112, none), (113, none), (114, none), (115, none), (116, none), (117, none), (118, none), (119, none), (120, none), (121, none), (122, none), (123, none), (124, none), (125, none), (126, none), (127, none), (128, none), (129, none), (130, none), (131, none), (132, none), (133, none), (134, none), (135, none), (136, none), (137, none), (138, none), (139, none), (140, none), (141, none), (142, none), (143, none), (144, none), (145, none), (146, none), (147, none), (148, none), (149, none), (150, none), (151, none), (152, none), (153, none), (154, none), (155, none), (156, none), (157, none), (158, none), (159, none), (160, none), (161, none)]), (5, [(4, none), (8, none), (9, none), (10, none), (11, none), (12, none), (13, none), (14, none), (15, none), (16, none), (17, none), (18, none), (19, none), (40, none), (41, none), (42, none), (43, none), (44, none), (45, none), (46, none), (47, none), (48, none), (49, none), (50, none), (51, none), (52, none), (53, none), (54, none), (55, none), (56, none), (57, none), (58, none), (59, none), (60, none), (61, none), (62, none), (63, none), (64, none), (65, none), (66, none), (67, none), (68, none), (69, none), (70, none), (71, none), (72, none), (73, none), (74, none), (75, none), (76, none), (77, none), (78, none), (79, none), (80, none), (81, none), (82, none), (83, none), (84, none), (85, none), (86, none), (87, none), (88, none), (89, none), (90, none), (91, none), (92, none), (93, none), (94, none), (95, none), (96, none), (97, none), (98, none), (99, none), (100, none), (101, none), (102, none), (103, none), (104, none), (105, none), (106, none), (107, none), (108, none), (109, none), (110, none), (111, none), (112, none), (113, none), (114, none), (115, none), (116, none), (117, none), (118, none), (119, none), (120, none), (121, none), (122, none), (123, none), (124, none), (125, none), (126, none), (127, none), (128, none), (129, none), (130, none), (131, none), (132, none), (133, none), (134, none), (135, none), (136, none), (137, none), (138, none), (139, none), (140, none), (141, none)])]) (ordL [(13, [(1, 0), (2, 0), (3, 0), (4, 0), (0, 1), (5, 1), (0, 6), (6, 2), (7, 0), (8, 0), (9, 0), (10, 2), (11, 2), (12, 0), (0, 7), (10, 2), (6, 2), (7, 0), (8, 0), (9, 0), (11, 2), (12, 0), (0, 7)]), (24, [(1, 0), (2, 0), (3, 0), (4, 0), (0, 1), (5, 1), (6, 3), (7, 0), (8, 0), (9, 0), (10, 0), (11, 0)]), (8, [(0, 0), (1, 0), (2, 0), (3, 0), (5, 0), (4, 1), (6, 1), (7, 0), (8, 0), (9, 0), (10, 0)]), (9, [(0, 0), (1, 0), (2, 0), (3, 0), (4, 0), (7, 0), (9, 0), (5, 1), (8, 1), (10, 0), (6, 2), (11, 3), (12, 0)]), (28, [(0, 0), (2, 0), (3, 1), (4, 0), (1, 2), (5, 0), (6, 0), (7, 0), (9, 0), (10, 1), (8, 2), (11, 0), (12, 0), (13, 0), (14, 0), (15, 0), (16, 1), (17, 3), (18, 0), (19, 0)]), (30, [(0, 0), (2, 0), (3, 1), (1, 2), (4, 3), (5, 0), (6, 3), (7, 0), (8, 0)])]) [.int .i64 room, .slice q l c] w K = cortadolaw07_RingPlays_m room q l c w K := by kernel_rfl
theorem cortadolaw07_RingPlays_go (room : Int) (q : Option Addr) (l c : Nat) {w : World} {K : Value → World → Prop} (h : cortadolaw07_RingPlays_m room q l c w K) : Rets Try.prog 11 #[.int .i64 room, .slice q l c] w K :=
  calls_of_fw plain mixed Try.func11 (by kernel_rfl) (by rw [cortadolaw07_RingPlays_eq]; exact h)
def cortadolaw07_RingNil_m (x room : Int) (w : World) (K : Value → World → Prop) : Prop :=
  Rets Try.prog (67 : Nat) { toList := [Value.pointer none] } w fun (v1 : Value) (w1 : World) =>
  ∃ (n1 : Int),
  ∃ (b1 : Bool),
  v1 = Value.tuple { toList := [Value.int IntKind.i64 n1, Value.bool b1] } ∧
  Rets Try.prog (69 : Nat) { toList := [Value.pointer none, Value.int IntKind.i64 (0 : Int)] } w1
  fun (v2 : Value) (w2 : World) =>
  ∃ (n2 : Int),
  ∃ (b2 : Bool),
  v2 = Value.tuple { toList := [Value.int IntKind.i64 n2, Value.bool b2] } ∧
  Rets Try.prog (62 : Nat) { toList := [Value.int IntKind.i64 (minI room (0 : Int))] } w2 fun (v3 : Value) (w3 : World) =>
  ∃ (q1 : Option Addr),
  v3 = Value.pointer q1 ∧
  ((!b1) = true →
  ((!b2) = true →
  Rets Try.prog (65 : Nat) { toList := [Value.pointer none, Value.int IntKind.i64 x] } w3 fun (v4 : Value) (w4 : World) =>
  ∃ (b3 : Bool),
  v4 = Value.bool b3 ∧
  ((!b3) = true →
  Rets Try.prog (72 : Nat) { toList := [Value.pointer none] } w4 fun (v5 : Value) (w5 : World) =>
  ∃ (n3 : Int),
  v5 = Value.int IntKind.i64 n3 ∧
  ((n3 == (0 : Int)) = true →
  Rets Try.prog (73 : Nat) { toList := [Value.pointer none] } w5 fun (v6 : Value) (w6 : World) =>
  ∃ (n4 : Int),
  v6 = Value.int IntKind.i64 n4 ∧
  ((n4 == (0 : Int)) = true →
  Rets Try.prog (76 : Nat) { toList := [Value.pointer none] } w6 fun (v7 : Value) (w7 : World) =>
  ∃ (q2 : Option Addr),
  v7 = Value.pointer q2 ∧
  (Option.isNone q2 = true →
  Rets Try.prog (75 : Nat) { toList := [Value.pointer none, Value.int IntKind.i64 (3 : Int)] } w7
  fun (v8 : Value) (w8 : World) =>
  ∃ (q3 : Option Addr),
  ∃ (k1 : Nat),
  ∃ (k2 : Nat),
  v8 = Value.slice q3 k1 k2 ∧
  (((↑k1 : Int) == (0 : Int)) = true →
  Rets Try.prog (71 : Nat) { toList := [Value.pointer none, Value.int IntKind.i64 (3 : Int)] } w8
  fun (v9 : Value) (w9 : World) =>
  ∃ (q4 : Option Addr),
  ∃ (k3 : Nat),
  ∃ (k4 : Nat),
  v9 = Value.slice q4 k3 k4 ∧
  (((↑k3 : Int) == (0 : Int)) = true →
  Rets Try.prog (65 : Nat) { toList := [Value.pointer q1, Value.int IntKind.i64 x] } w9 fun (v10 : Value) (w10 : World) =>
  ∃ (b4 : Bool),
  v10 = Value.bool b4 ∧
  ((!b4) = true →
  Rets Try.prog (72 : Nat) { toList := [Value.pointer q1] } w10 fun (v11 : Value) (w11 : World) =>
  ∃ (n5 : Int),
  v11 = Value.int IntKind.i64 n5 ∧
  ((n5 == (0 : Int)) = true →
  Rets Try.prog (73 : Nat) { toList := [Value.pointer q1] } w11 fun (v12 : Value) (w12 : World) =>
  ∃ (n6 : Int),
  v12 = Value.int IntKind.i64 n6 ∧
  ((n6 == (0 : Int)) = true →
  Rets Try.prog (19 : Nat) { toList := [] } w12 fun (v13 : Value) (w13 : World) =>
  ∃ (b5 : Bool), v13 = Value.bool b5 ∧ K (Value.bool b5) w13) ∧
  ((n6 == (0 : Int)) = false → K (Value.bool false) w12)) ∧
  ((n5 == (0 : Int)) = false → K (Value.bool false) w11)) ∧
  ((!b4) = false → K (Value.bool false) w10)) ∧
  (((↑k3 : Int) == (0 : Int)) = false → K (Value.bool false) w9)) ∧
  (((↑k1 : Int) == (0 : Int)) = false → K (Value.bool false) w8)) ∧
  (Option.isNone q2 = false → K (Value.bool false) w7)) ∧
  ((n4 == (0 : Int)) = false → K (Value.bool false) w6)) ∧
  ((n3 == (0 : Int)) = false → K (Value.bool false) w5)) ∧
  ((!b3) = false → K (Value.bool false) w4)) ∧
  ((!b2) = false → K (Value.bool false) w3)) ∧
  ((!b1) = false → K (Value.bool false) w3)
theorem cortadolaw07_RingNil_eq (x room : Int) (w : World) (K : Value → World → Prop) : fw Try.prog Try.f12 (annL []) (ordL []) [.int .i64 x, .int .i64 room] w K = cortadolaw07_RingNil_m x room w K := by kernel_rfl
theorem cortadolaw07_RingNil_go (x room : Int) {w : World} {K : Value → World → Prop} (h : cortadolaw07_RingNil_m x room w K) : Rets Try.prog 12 #[.int .i64 x, .int .i64 room] w K :=
  calls_of_fw plain mixed Try.func12 (by kernel_rfl) (by rw [cortadolaw07_RingNil_eq]; exact h)
def cortadolaw07_RingOrder_m (q : Option Addr) (l c : Nat) (most : Int) (w : World) (K : Value → World → Prop) : Prop :=
  NewR (33 : Nat) [Value.slice q l c] w fun (a1 : Addr) (w1 : World) =>
  NewR (4 : Nat) [Value.bool false] w1 fun (a2 : Addr) (w2 : World) =>
  ∃ (q1 : Option Addr),
  ∃ (k1 : Nat),
  ∃ (k2 : Nat),
  cellAt w2 a1 (Value.slice q1 k1 k2) ∧
  (decide ((↑k1 : Int) > (60 : Int)) = true →
  Rets Try.prog (19 : Nat) { toList := [] } w2 fun (v1 : Value) (w3 : World) =>
  ∃ (b1 : Bool),
  v1 = Value.bool b1 ∧
  StoreR a2 [Value.bool b1] w3 fun (w4 : World) => ∃ (b2 : Bool), cellAt w4 a2 (Value.bool b2) ∧ K (Value.bool b2) w4) ∧
  (decide ((↑k1 : Int) > (60 : Int)) = false →
  ∃ (q2 : Option Addr),
  ∃ (k3 : Nat),
  ∃ (k4 : Nat),
  cellAt w2 a1 (Value.slice q2 k3 k4) ∧
  Rets Try.prog (20 : Nat) { toList := [Value.int IntKind.i64 (↑k3 : Int)] } w2 fun (v2 : Value) (w5 : World) =>
  ∃ (q3 : Option Addr),
  v2 = Value.pointer q3 ∧
  ∃ (h1 : Nat → List Value → World → Prop),
  (∃ (k5 : Nat), h1 k5 [Value.int IntKind.i64 (0 : Int)] w5) ∧
  ∀ (k6 : Nat) (w6 : World) (n1 : Int) (v3 v4 v5 v6 v7 v8 v9 v10 v11 v12 v13 v14 v15 : Value),
  h1 k6 [Value.int IntKind.i64 n1] w6 →
  ∃ (q4 : Option Addr),
  ∃ (k7 : Nat),
  ∃ (k8 : Nat),
  cellAt w6 a1 (Value.slice q4 k7 k8) ∧
  (decide (n1 < (↑k7 : Int)) = true →
  ∃ (q5 : Option Addr),
  ∃ (k9 : Nat),
  ∃ (k10 : Nat),
  cellAt w6 a1 (Value.slice q5 k9 k10) ∧
  (0 : Int) ≤ n1 ∧
  n1 < (↑k9 : Int) ∧
  someR q5 fun (a3 : Addr) =>
  ∃ (s1 : ByteArray),
  cellAt w6 (Addr.add a3 (Int.toNat n1 * (1 : Nat))) (Value.string s1) ∧
  Rets Try.prog (21 : Nat) { toList := [Value.pointer q3, Value.string s1] } w6 fun (v16 : Value) (w7 : World) =>
  ∃ (b3 : Bool),
  v16 = Value.bool b3 ∧
  ((!b3) = true →
  StoreR a2 [Value.bool false] w7 fun (w8 : World) =>
  ∃ (b4 : Bool), cellAt w8 a2 (Value.bool b4) ∧ K (Value.bool b4) w8) ∧
  ((!b3) = false →
  ∃ (k11 : Nat), k11 < k6 ∧ h1 k11 [Value.int IntKind.i64 (IntKind.wrap IntKind.i64 (n1 + (1 : Int)))] w7)) ∧
  (decide (n1 < (↑k7 : Int)) = false →
  Rets Try.prog (22 : Nat) { toList := [Value.pointer q3] } w6 fun (v17 : Value) (w9 : World) =>
  ∃ (q6 : Option Addr),
  v17 = Value.pointer q6 ∧
  Drw w9 fun (w10 : World) =>
  ∃ (h2 : World → Prop),
  h2 w10 ∧
  Rets Try.prog (21 : Nat) { toList := [Value.pointer q3, Value.string { data := #[(120 : UInt8)] }] } w10
  fun (v18 : Value) (w11 : World) =>
  ∃ (b5 : Bool),
  v18 = Value.bool b5 ∧
  h2 w11 ∧
  (b5 = false →
  ∃ (q7 : Option Addr),
  ∃ (k12 : Nat),
  ∃ (k13 : Nat),
  (∀ (w12 : World), h2 w12 → World.cell? w12 a1 = some (Value.slice q7 k12 k13)) ∧
  Rets Try.prog (23 : Nat) { toList := [Value.pointer q6] } w11 fun (v19 : Value) (w13 : World) =>
  ∃ (n2 : Int),
  v19 = Value.int IntKind.i64 n2 ∧
  h2 w13 ∧
  ((n2 != (↑k12 : Int)) = true →
  StoreR a2 [Value.bool false] w13 fun (w14 : World) =>
  ∃ (b6 : Bool), cellAt w14 a2 (Value.bool b6) ∧ K (Value.bool b6) w14) ∧
  ((n2 != (↑k12 : Int)) = false →
  ∃ (h3 : Nat → List Value → World → Prop),
  (∃ (k14 : Nat), h3 k14 [Value.int IntKind.i64 (0 : Int)] w13) ∧
  ∀ (k15 : Nat) (w15 : World) (n3 : Int)
  (v20 v21 v22 v23 v24 v25 v26 v27 v28 v29 v30 v31 v32 v33 v34 v35 v36 v37 v38 v39 v40 v41 v42 v43 v44 v45 v46 v47 v48 v49
  v50 v51 v52 v53 v54 v55 v56 v57 v58 : Value),
  h3 k15 [Value.int IntKind.i64 n3] w15 →
  ∃ (q8 : Option Addr),
  ∃ (k16 : Nat),
  ∃ (k17 : Nat),
  cellAt w15 a1 (Value.slice q8 k16 k17) ∧
  (decide (n3 < (↑k16 : Int)) = true →
  Rets Try.prog (24 : Nat) { toList := [Value.pointer q3, Value.int IntKind.i64 (0 : Int)] } w15
  fun (v59 : Value) (w16 : World) =>
  ∃ (s2 : ByteArray),
  ∃ (b7 : Bool),
  v59 = Value.tuple { toList := [Value.string s2, Value.bool b7] } ∧
  Rets Try.prog (25 : Nat) { toList := [Value.pointer q3] } w16 fun (v60 : Value) (w17 : World) =>
  ∃ (s3 : ByteArray),
  ∃ (b8 : Bool),
  v60 = Value.tuple { toList := [Value.string s3, Value.bool b8] } ∧
  ((!b8) = false →
  ((!b7) = false →
  ∃ (q9 : Option Addr),
  ∃ (k18 : Nat),
  ∃ (k19 : Nat),
  cellAt w17 a1 (Value.slice q9 k18 k19) ∧
  (0 : Int) ≤ n3 ∧
  n3 < (↑k18 : Int) ∧
  someR q9 fun (a4 : Addr) =>
  ∃ (s4 : ByteArray),
  cellAt w17 (Addr.add a4 (Int.toNat n3 * (1 : Nat))) (Value.string s4) ∧
  ((!ByteArray.toList s3 == ByteArray.toList s4) = false →
  ((!ByteArray.toList s2 == ByteArray.toList s3) = true →
  StoreR a2 [Value.bool false] w17 fun (w18 : World) =>
  ∃ (b9 : Bool), cellAt w18 a2 (Value.bool b9) ∧ K (Value.bool b9) w18) ∧
  ((!ByteArray.toList s2 == ByteArray.toList s3) = false →
  ∃ (k20 : Nat), k20 < k15 ∧ h3 k20 [Value.int IntKind.i64 (IntKind.wrap IntKind.i64 (n3 + (1 : Int)))] w17)) ∧
  ((!ByteArray.toList s3 == ByteArray.toList s4) = true →
  StoreR a2 [Value.bool false] w17 fun (w19 : World) =>
  ∃ (b10 : Bool), cellAt w19 a2 (Value.bool b10) ∧ K (Value.bool b10) w19)) ∧
  ((!b7) = true →
  StoreR a2 [Value.bool false] w17 fun (w20 : World) =>
  ∃ (b11 : Bool), cellAt w20 a2 (Value.bool b11) ∧ K (Value.bool b11) w20)) ∧
  ((!b8) = true →
  StoreR a2 [Value.bool false] w17 fun (w21 : World) =>
  ∃ (b12 : Bool), cellAt w21 a2 (Value.bool b12) ∧ K (Value.bool b12) w21)) ∧
  (decide (n3 < (↑k16 : Int)) = false →
  (70 : Int) ≠ (0 : Int) ∧
  NewR (3 : Nat) [Value.int IntKind.i64 (0 : Int)] w15 fun (a5 : Addr) (w22 : World) =>
  StoreR a5 [Value.int IntKind.i64 (IntKind.wrap IntKind.i64 (Int.tmod most (70 : Int)))] w22 fun (w23 : World) =>
  NewR (3 : Nat) [Value.int IntKind.i64 (0 : Int)] w23 fun (a6 : Addr) (w24 : World) =>
  StoreR a6 [Value.int IntKind.i64 (0 : Int)] w24 fun (w25 : World) =>
  Rets Try.prog (26 : Nat) { toList := [Value.pointer q6] } w25 fun (v61 : Value) (w26 : World) =>
  ∃ (f1 : Fn),
  ∃ (a7 : Array Value),
  ∃ (c1 : Array Value),
  v61 = Value.func f1 a7 c1 ∧
  (false = true →
  StoreR a2 [Value.bool false] w26 fun (w27 : World) =>
  ∃ (b13 : Bool), cellAt w27 a2 (Value.bool b13) ∧ K (Value.bool b13) w27) ∧
  (false = false →
  ∃ (v62 : Value),
  Value.func f1 a7 c1 = Value.func (Fn.func (89 : Nat)) { toList := [] } { toList := [v62] } ∧
  LoopR w26 fun (k21 k22 : Nat) (L1 : Loop) (w28 : World) =>
  (∀ (n4 : Int) (s5 : ByteArray) (w29 : World) (h4 : Value → World → Prop),
  RecR k22 L1 w29 →
  (BegR k22 L1 w29 fun (w30 : World) =>
  ∃ (n5 : Int),
  cellAt w30 a6 (Value.int IntKind.i64 n5) ∧
  ∃ (n6 : Int),
  cellAt w30 a5 (Value.int IntKind.i64 n6) ∧
  (decide (n5 ≥ n6) = true →
  FinR k22 L1 (some (Code.exit (4 : Nat))) w30 fun (w31 : World) => h4 (Value.bool false) w31) ∧
  (decide (n5 ≥ n6) = false →
  ∃ (n7 : Int),
  cellAt w30 a6 (Value.int IntKind.i64 n7) ∧
  ((n4 != n7) = false →
  ∃ (q10 : Option Addr),
  ∃ (k23 : Nat),
  ∃ (k24 : Nat),
  cellAt w30 a1 (Value.slice q10 k23 k24) ∧
  (0 : Int) ≤ n4 ∧
  n4 < (↑k23 : Int) ∧
  someR q10 fun (a8 : Addr) =>
  ∃ (s6 : ByteArray),
  cellAt w30 (Addr.add a8 (Int.toNat n4 * (1 : Nat))) (Value.string s6) ∧
  ((!ByteArray.toList s5 == ByteArray.toList s6) = true →
  StoreR a2 [Value.bool false] w30 fun (w32 : World) =>
  FinR k22 L1 (some Code.ret) w32 fun (w33 : World) => h4 (Value.bool false) w33) ∧
  ((!ByteArray.toList s5 == ByteArray.toList s6) = false →
  ∃ (n8 : Int),
  cellAt w30 a6 (Value.int IntKind.i64 n8) ∧
  StoreR a6 [Value.int IntKind.i64 (IntKind.wrap IntKind.i64 (n8 + (1 : Int)))] w30 fun (w34 : World) =>
  FinR k22 L1 none w34 fun (w35 : World) => h4 (Value.bool true) w35)) ∧
  ((n4 != n7) = true →
  StoreR a2 [Value.bool false] w30 fun (w36 : World) =>
  FinR k22 L1 (some Code.ret) w36 fun (w37 : World) => h4 (Value.bool false) w37))) →
  RoundR Try.prog k22 { toList := [Value.int IntKind.i64 n4, Value.string s5] } w29 h4) →
  Rets Try.prog (89 : Nat) { toList := [Value.func (Fn.yield k22) { toList := [] } { toList := [] }, v62] } w28
  fun (v63 : Value) (w38 : World) =>
  (EndR k22 L1 none w38 fun (w39 : World) =>
  Drw w39 fun (w40 : World) =>
  ∃ (h5 : World → Prop),
  h5 w40 ∧
  Rets Try.prog (23 : Nat) { toList := [Value.pointer q3] } w40 fun (v64 : Value) (w41 : World) =>
  ∃ (n9 : Int),
  v64 = Value.int IntKind.i64 n9 ∧
  h5 w41 ∧
  ((n9 == (0 : Int)) = true →
  ∃ (q11 : Option Addr),
  ∃ (k25 : Nat),
  ∃ (k26 : Nat),
  (∀ (w42 : World), h5 w42 → World.cell? w42 a1 = some (Value.slice q11 k25 k26)) ∧
  Rets Try.prog (23 : Nat) { toList := [Value.pointer q6] } w41 fun (v65 : Value) (w43 : World) =>
  ∃ (n10 : Int),
  v65 = Value.int IntKind.i64 n10 ∧
  h5 w43 ∧
  ((n10 == (↑k25 : Int)) = true →
  ∃ (n11 : Int),
  (∀ (w44 : World), h5 w44 → World.cell? w44 a6 = some (Value.int IntKind.i64 n11)) ∧
  ∃ (n12 : Int),
  (∀ (w45 : World), h5 w45 → World.cell? w45 a5 = some (Value.int IntKind.i64 n12)) ∧
  ∃ (q12 : Option Addr),
  ∃ (k27 : Nat),
  ∃ (k28 : Nat),
  (∀ (w46 : World), h5 w46 → World.cell? w46 a1 = some (Value.slice q12 k27 k28)) ∧
  ((n11 == minI n12 (↑k27 : Int)) = true →
  Rets Try.prog (19 : Nat) { toList := [] } w43 fun (v66 : Value) (w47 : World) =>
  ∃ (b14 : Bool),
  v66 = Value.bool b14 ∧
  StoreR a2 [Value.bool b14] w47 fun (w48 : World) =>
  MarkR k21 w48 fun (w49 : World) => ∃ (b15 : Bool), cellAt w49 a2 (Value.bool b15) ∧ K (Value.bool b15) w49) ∧
  ((n11 == minI n12 (↑k27 : Int)) = false →
  StoreR a2 [Value.bool false] w43 fun (w50 : World) =>
  MarkR k21 w50 fun (w51 : World) => ∃ (b16 : Bool), cellAt w51 a2 (Value.bool b16) ∧ K (Value.bool b16) w51)) ∧
  ((n10 == (↑k25 : Int)) = false →
  StoreR a2 [Value.bool false] w43 fun (w52 : World) =>
  MarkR k21 w52 fun (w53 : World) => ∃ (b17 : Bool), cellAt w53 a2 (Value.bool b17) ∧ K (Value.bool b17) w53)) ∧
  ((n9 == (0 : Int)) = false →
  StoreR a2 [Value.bool false] w41 fun (w54 : World) =>
  MarkR k21 w54 fun (w55 : World) => ∃ (b18 : Bool), cellAt w55 a2 (Value.bool b18) ∧ K (Value.bool b18) w55)) ∨
  (EndR k22 L1 (some Code.ret) w38 fun (w56 : World) =>
  MarkR k21 w56 fun (w57 : World) => ∃ (b19 : Bool), cellAt w57 a2 (Value.bool b19) ∧ K (Value.bool b19) w57) ∨
  EndR k22 L1 (some (Code.exit (4 : Nat))) w38 fun (w58 : World) =>
  Drw w58 fun (w59 : World) =>
  ∃ (h6 : World → Prop),
  h6 w59 ∧
  Rets Try.prog (23 : Nat) { toList := [Value.pointer q3] } w59 fun (v67 : Value) (w60 : World) =>
  ∃ (n13 : Int),
  v67 = Value.int IntKind.i64 n13 ∧
  h6 w60 ∧
  ((n13 == (0 : Int)) = true →
  ∃ (q13 : Option Addr),
  ∃ (k29 : Nat),
  ∃ (k30 : Nat),
  (∀ (w61 : World), h6 w61 → World.cell? w61 a1 = some (Value.slice q13 k29 k30)) ∧
  Rets Try.prog (23 : Nat) { toList := [Value.pointer q6] } w60 fun (v68 : Value) (w62 : World) =>
  ∃ (n14 : Int),
  v68 = Value.int IntKind.i64 n14 ∧
  h6 w62 ∧
  ((n14 == (↑k29 : Int)) = true →
  ∃ (n15 : Int),
  (∀ (w63 : World), h6 w63 → World.cell? w63 a6 = some (Value.int IntKind.i64 n15)) ∧
  ∃ (n16 : Int),
  (∀ (w64 : World), h6 w64 → World.cell? w64 a5 = some (Value.int IntKind.i64 n16)) ∧
  ∃ (q14 : Option Addr),
  ∃ (k31 : Nat),
  ∃ (k32 : Nat),
  (∀ (w65 : World), h6 w65 → World.cell? w65 a1 = some (Value.slice q14 k31 k32)) ∧
  ((n15 == minI n16 (↑k31 : Int)) = true →
  Rets Try.prog (19 : Nat) { toList := [] } w62 fun (v69 : Value) (w66 : World) =>
  ∃ (b20 : Bool),
  v69 = Value.bool b20 ∧
  StoreR a2 [Value.bool b20] w66 fun (w67 : World) =>
  MarkR k21 w67 fun (w68 : World) => ∃ (b21 : Bool), cellAt w68 a2 (Value.bool b21) ∧ K (Value.bool b21) w68) ∧
  ((n15 == minI n16 (↑k31 : Int)) = false →
  StoreR a2 [Value.bool false] w62 fun (w69 : World) =>
  MarkR k21 w69 fun (w70 : World) => ∃ (b22 : Bool), cellAt w70 a2 (Value.bool b22) ∧ K (Value.bool b22) w70)) ∧
  ((n14 == (↑k29 : Int)) = false →
  StoreR a2 [Value.bool false] w62 fun (w71 : World) =>
  MarkR k21 w71 fun (w72 : World) => ∃ (b23 : Bool), cellAt w72 a2 (Value.bool b23) ∧ K (Value.bool b23) w72)) ∧
  ((n13 == (0 : Int)) = false →
  StoreR a2 [Value.bool false] w60 fun (w73 : World) =>
  MarkR k21 w73 fun (w74 : World) => ∃ (b24 : Bool), cellAt w74 a2 (Value.bool b24) ∧ K (Value.bool b24) w74))))) ∧
  (b5 = true →
  StoreR a2 [Value.bool false] w11 fun (w75 : World) =>
  ∃ (b25 : Bool), cellAt w75 a2 (Value.bool b25) ∧ K (Value.bool b25) w75)))
theorem cortadolaw07_RingOrder_eq (q : Option Addr) (l c : Nat) (most : Int) (w : World) (K : Value → World → Prop) : fw Try.prog Try.f4 (annL [(2, [(6, some 3), (25, none), (26, none), (27, none), (28, none), (29, none), (30, none), (31, none), (32, none), (33, none), (34, none), (35, none), (36, none), (37, none)]), (8, [(8, some 3), (9, none), (10, none), (11, none), (12, none), (49, none), (50, none), (51, none), (52, none), (53, none), (54, none), (55, none), (56, none), (57, none), (58, none), (59, none), (60, none), (61, none), (62, none), (63, none), (64, none), (65, none), (66, none), (67, none), (68, none), (69, none), (70, none), (71, none), (72, none), (73, none), (74, none), (75, none), (76, none), (77, none), (78, none), (79, none), (80, none), (81, none), (82, none), (83, none)]), (14, [(92, some 3), (93, some 9)])]) (ordL [(10, [(0, 0), (1, 2), (2, 0), (3, 0), (5, 1), (6, 0), (4, 2), (7, 0), (8, 0)]), (1000014, [(89, 1)]), (31, [(0, 0), (1, 2), (2, 0), (3, 0), (4, 0), (6, 1), (7, 0), (5, 2), (8, 0), (9, 0), (10, 0), (11, 1), (12, 1), (13, 1), (14, 0), (15, 0), (16, 0), (17, 0), (18, 0), (19, 3), (20, 0), (21, 3)])]) [.slice q l c, .int .u64 most] w K = cortadolaw07_RingOrder_m q l c most w K := by kernel_rfl
theorem cortadolaw07_RingOrder_go (q : Option Addr) (l c : Nat) (most : Int) {w : World} {K : Value → World → Prop} (h : cortadolaw07_RingOrder_m q l c most w K) : Rets Try.prog 4 #[.slice q l c, .int .u64 most] w K :=
  calls_of_fw plain mixed Try.func4 (by kernel_rfl) (by rw [cortadolaw07_RingOrder_eq]; exact h)
end Go.Proofs.Ytfcddffcjmgpkaa.Eng
