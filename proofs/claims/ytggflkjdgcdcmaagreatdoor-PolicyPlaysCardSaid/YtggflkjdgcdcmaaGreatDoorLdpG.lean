/- What the code of these functions asks for: printed by a program of this session's (gens.py) out of the seat's own functions; the kernel checks each row. -/
import Derived.Test.YtggflkjdgcdcmaaGreatDoorEngH
import Derived.Test.YtggflkjdgcdcmaaGreatDoorProg
import Derived.Test.YtggflkjdgcdcmaaGreatDoorBase
namespace Go.Proofs.YtggflkjdgcdcmaaGreatDoor.Eng
open Go Go.Proofs
set_option linter.unusedVariables false
set_option maxRecDepth 1000000
def cortadoref24_Used_m (q : Option Addr) (l c : Nat) (m : Int) (w : World) (K : Value → World → Prop) : Prop :=
  NewR (41 : Nat) [Value.slice q l c, Value.int IntKind.i64 m] w fun (a1 : Addr) (w1 : World) =>
  ∃ (h1 : Nat → List Value → World → Prop),
  (∃ (k1 : Nat), h1 k1 [Value.int IntKind.i64 (0 : Int), Value.int IntKind.i64 (0 : Int)] w1) ∧
  ∀ (k2 : Nat) (w2 : World) (n1 n2 : Int) (v1 v2 v3 v4 v5 v6 v7 v8 v9 v10 v11 v12 v13 v14 v15 : Value),
  h1 k2 [Value.int IntKind.i64 n1, Value.int IntKind.i64 n2] w2 →
  ∃ (q1 : Option Addr),
  ∃ (k3 : Nat),
  ∃ (k4 : Nat),
  cellAt w2 (Addr.add a1 (0 : Nat)) (Value.slice q1 k3 k4) ∧
  (decide (n2 < (↑k3 : Int)) = true →
  ∃ (q2 : Option Addr),
  ∃ (k5 : Nat),
  ∃ (k6 : Nat),
  cellAt w2 (Addr.add a1 (0 : Nat)) (Value.slice q2 k5 k6) ∧
  (0 : Int) ≤ n2 ∧
  n2 < (↑k5 : Int) ∧
  someR q2 fun (a2 : Addr) =>
  ∃ (n3 : Int),
  cellAt w2 (Addr.add (Addr.add a2 (Int.toNat n2 * (2 : Nat))) (1 : Nat)) (Value.int IntKind.i64 n3) ∧
  ∃ (k7 : Nat),
  k7 < k2 ∧
  h1 k7
  [Value.int IntKind.i64 (IntKind.wrap IntKind.i64 (n1 + n3)),
  Value.int IntKind.i64 (IntKind.wrap IntKind.i64 (n2 + (1 : Int)))]
  w2) ∧
  (decide (n2 < (↑k3 : Int)) = false → K (Value.int IntKind.i64 n1) w2)
theorem cortadoref24_Used_eq (q : Option Addr) (l c : Nat) (m : Int) (w : World) (K : Value → World → Prop) : fw Tryz.prog Tryz.f15 (annL [(1, [(3, some 3), (4, some 3), (5, none), (6, none), (7, none), (8, none), (9, none), (10, none), (11, none), (12, none), (13, none), (14, none), (15, none), (16, none), (17, none), (18, none), (19, none)])]) (ordL []) [.agg #[.slice q l c, .int .i64 m]] w K = cortadoref24_Used_m q l c m w K := by kernel_rfl
theorem cortadoref24_Used_go (q : Option Addr) (l c : Nat) (m : Int) {w : World} {K : Value → World → Prop} (h : cortadoref24_Used_m q l c m w K) : Rets Tryz.prog 15 #[.agg #[.slice q l c, .int .i64 m]] w K :=
  calls_of_fw plain mixed Tryz.func15 (by kernel_rfl) (by rw [cortadoref24_Used_eq]; exact h)
def cortadoref24_Cost_m (q : Option Addr) (l c : Nat) (m k : Int) (w : World) (K : Value → World → Prop) : Prop :=
  NewR (41 : Nat) [Value.slice q l c, Value.int IntKind.i64 m] w fun (a1 : Addr) (w1 : World) =>
  ∃ (h1 : Nat → List Value → World → Prop),
  (∃ (k1 : Nat), h1 k1 [Value.int IntKind.i64 (0 : Int)] w1) ∧
  ∀ (k2 : Nat) (w2 : World) (v1 v2 : Value) (n1 : Int)
  (v3 v4 v5 v6 v7 v8 v9 v10 v11 v12 v13 v14 v15 v16 v17 v18 v19 v20 v21 v22 v23 : Value),
  h1 k2 [Value.int IntKind.i64 n1] w2 →
  ∃ (q1 : Option Addr),
  ∃ (k3 : Nat),
  ∃ (k4 : Nat),
  cellAt w2 (Addr.add a1 (0 : Nat)) (Value.slice q1 k3 k4) ∧
  (decide (n1 < (↑k3 : Int)) = true →
  ∃ (q2 : Option Addr),
  ∃ (k5 : Nat),
  ∃ (k6 : Nat),
  cellAt w2 (Addr.add a1 (0 : Nat)) (Value.slice q2 k5 k6) ∧
  (0 : Int) ≤ n1 ∧
  n1 < (↑k5 : Int) ∧
  someR q2 fun (a2 : Addr) =>
  ∃ (n2 : Int),
  cellAt w2 (Addr.add (Addr.add a2 (Int.toNat n1 * (2 : Nat))) (0 : Nat)) (Value.int IntKind.u64 n2) ∧
  ((n2 == k) = true →
  ∃ (q3 : Option Addr),
  ∃ (k7 : Nat),
  ∃ (k8 : Nat),
  cellAt w2 (Addr.add a1 (0 : Nat)) (Value.slice q3 k7 k8) ∧
  (0 : Int) ≤ n1 ∧
  n1 < (↑k7 : Int) ∧
  someR q3 fun (a3 : Addr) =>
  ∃ (n3 : Int),
  cellAt w2 (Addr.add (Addr.add a3 (Int.toNat n1 * (2 : Nat))) (1 : Nat)) (Value.int IntKind.i64 n3) ∧
  K (Value.tuple { toList := [Value.int IntKind.i64 n3, Value.bool true] }) w2) ∧
  ((n2 == k) = false →
  ∃ (k9 : Nat), k9 < k2 ∧ h1 k9 [Value.int IntKind.i64 (IntKind.wrap IntKind.i64 (n1 + (1 : Int)))] w2)) ∧
  (decide (n1 < (↑k3 : Int)) = false →
  K (Value.tuple { toList := [Value.int IntKind.i64 (0 : Int), Value.bool false] }) w2)
theorem cortadoref24_Cost_eq (q : Option Addr) (l c : Nat) (m k : Int) (w : World) (K : Value → World → Prop) : fw Tryz.prog Tryz.f28 (annL [(1, [(4, none), (5, none), (6, some 3), (7, none), (8, none), (9, none), (10, none), (11, none), (12, none), (13, none), (14, none), (15, none), (16, none), (17, none), (18, none), (19, none), (20, none), (21, none), (22, none), (23, none), (24, none), (25, none), (26, none), (27, none)])]) (ordL []) [.agg #[.slice q l c, .int .i64 m], .int .u64 k] w K = cortadoref24_Cost_m q l c m k w K := by kernel_rfl
theorem cortadoref24_Cost_go (q : Option Addr) (l c : Nat) (m k : Int) {w : World} {K : Value → World → Prop} (h : cortadoref24_Cost_m q l c m k w K) : Rets Tryz.prog 28 #[.agg #[.slice q l c, .int .i64 m], .int .u64 k] w K :=
  calls_of_fw plain mixed Tryz.func28 (by kernel_rfl) (by rw [cortadoref24_Cost_eq]; exact h)
def cortadoref24_Drop_m (q : Option Addr) (l c : Nat) (m k : Int) (w : World) (K : Value → World → Prop) : Prop :=
  NewR (41 : Nat) [Value.slice q l c, Value.int IntKind.i64 m] w fun (a1 : Addr) (w1 : World) =>
  NewR (41 : Nat) [Value.slice none (0 : Nat) (0 : Nat), Value.int IntKind.i64 (0 : Int)] w1
  fun (a2 : Addr) (w2 : World) =>
  ∃ (n1 : Int),
  cellAt w2 (Addr.add a1 (1 : Nat)) (Value.int IntKind.i64 n1) ∧
  NewR (41 : Nat) [Value.slice none (0 : Nat) (0 : Nat), Value.int IntKind.i64 (0 : Int)] w2
  fun (a3 : Addr) (w3 : World) =>
  StoreR a3 [Value.slice none (0 : Nat) (0 : Nat), Value.int IntKind.i64 n1] w3 fun (w4 : World) =>
  ∃ (h1 : Nat → List Value → World → Prop),
  (∃ (k1 : Nat), h1 k1 [Value.int IntKind.i64 (0 : Int)] w4) ∧
  ∀ (k2 : Nat) (w5 : World) (n2 : Int)
  (v1 v2 v3 v4 v5 v6 v7 v8 v9 v10 v11 v12 v13 v14 v15 v16 v17 v18 v19 v20 v21 v22 v23 v24 v25 : Value),
  h1 k2 [Value.int IntKind.i64 n2] w5 →
  ∃ (q1 : Option Addr),
  ∃ (k3 : Nat),
  ∃ (k4 : Nat),
  cellAt w5 (Addr.add a1 (0 : Nat)) (Value.slice q1 k3 k4) ∧
  (decide (n2 < (↑k3 : Int)) = true →
  ∃ (q2 : Option Addr),
  ∃ (k5 : Nat),
  ∃ (k6 : Nat),
  cellAt w5 (Addr.add a1 (0 : Nat)) (Value.slice q2 k5 k6) ∧
  (0 : Int) ≤ n2 ∧
  n2 < (↑k5 : Int) ∧
  someR q2 fun (a4 : Addr) =>
  ∃ (n3 : Int),
  cellAt w5 (Addr.add (Addr.add a4 (Int.toNat n2 * (2 : Nat))) (0 : Nat)) (Value.int IntKind.u64 n3) ∧
  ∃ (h2 : List Value → World → Prop),
  (((n3 != k) = true →
  Drw w5 fun (w6 : World) =>
  ∃ (h3 : World → Prop),
  h3 w6 ∧
  ∃ (q3 : Option Addr),
  ∃ (k7 : Nat),
  ∃ (k8 : Nat),
  (∀ (w7 : World), h3 w7 → World.cell? w7 (Addr.add a3 (0 : Nat)) = some (Value.slice q3 k7 k8)) ∧
  ∃ (q4 : Option Addr),
  ∃ (k9 : Nat),
  ∃ (k10 : Nat),
  (∀ (w8 : World), h3 w8 → World.cell? w8 (Addr.add a1 (0 : Nat)) = some (Value.slice q4 k9 k10)) ∧
  (0 : Int) ≤ n2 ∧
  n2 < (↑k9 : Int) ∧
  someR q4 fun (a5 : Addr) =>
  ∃ (n4 : Int),
  ∃ (n5 : Int),
  ((∀ (w9 : World),
  h3 w9 →
  World.cell? w9 (Addr.add (Addr.add a5 (Int.toNat n2 * (2 : Nat))) (0 : Nat)) = some (Value.int IntKind.u64 n4)) ∧
  ∀ (w10 : World),
  h3 w10 →
  World.cell? w10 (Addr.add (Addr.add a5 (Int.toNat n2 * (2 : Nat))) ((0 : Nat) + (1 : Nat))) =
  some (Value.int IntKind.i64 n5)) ∧
  NewR (64 : Nat) [Value.int IntKind.u64 n4, Value.int IntKind.i64 n5] w6 fun (a6 : Addr) (w11 : World) =>
  h3 w11 ∧
  RunR Tryz.prog
  (builtinV Builtin.append { toList := [(39 : Nat), (39 : Nat)] } (nat_lit 39)
  { toList := [Value.slice q3 k7 k8, Value.slice (some a6) (1 : Nat) (1 : Nat)] })
  w11 fun (v26 : Value) (w12 : World) =>
  ∃ (q5 : Option Addr),
  ∃ (k11 : Nat),
  ∃ (k12 : Nat),
  v26 = Value.slice q5 k11 k12 ∧
  StoreR (Addr.add a3 (0 : Nat)) [Value.slice q5 k11 k12] w12 fun (w13 : World) => h2 [] w13) ∧
  ((n3 != k) = false → h2 [] w5)) ∧
  ∀ (w14 : World) (v27 v28 v29 v30 v31 v32 v33 v34 v35 v36 : Value),
  h2 [] w14 → ∃ (k13 : Nat), k13 < k2 ∧ h1 k13 [Value.int IntKind.i64 (IntKind.wrap IntKind.i64 (n2 + (1 : Int)))] w14) ∧
  (decide (n2 < (↑k3 : Int)) = false →
  ∃ (q6 : Option Addr),
  ∃ (k14 : Nat),
  ∃ (k15 : Nat),
  ∃ (n6 : Int),
  (cellAt w5 (Addr.add a3 (0 : Nat)) (Value.slice q6 k14 k15) ∧
  cellAt w5 (Addr.add a3 (1 : Nat)) (Value.int IntKind.i64 n6)) ∧
  StoreR a2 [Value.slice q6 k14 k15, Value.int IntKind.i64 n6] w5 fun (w15 : World) =>
  ∃ (q7 : Option Addr),
  ∃ (k16 : Nat),
  ∃ (k17 : Nat),
  ∃ (n7 : Int),
  (cellAt w15 (Addr.add a2 (0 : Nat)) (Value.slice q7 k16 k17) ∧
  cellAt w15 (Addr.add a2 (1 : Nat)) (Value.int IntKind.i64 n7)) ∧
  K (Value.agg { toList := [Value.slice q7 k16 k17, Value.int IntKind.i64 n7] }) w15)
theorem cortadoref24_Drop_eq (q : Option Addr) (l c : Nat) (m k : Int) (w : World) (K : Value → World → Prop) : fw Tryz.prog Tryz.f29 (annL [(1, [(6, some 3), (10, none), (11, none), (12, none), (13, none), (14, none), (15, none), (16, none), (17, none), (18, none), (19, none), (20, none), (21, none), (22, none), (23, none), (24, none), (25, none), (26, none), (27, none), (28, none), (29, none), (30, none), (31, none), (32, none), (33, none), (34, none)]), (4, [(25, none), (26, none), (27, none), (28, none), (29, none), (30, none), (31, none), (32, none), (33, none), (34, none)])]) (ordL [(6, [(0, 0), (2, 0), (4, 0), (1, 1), (3, 1), (5, 0), (6, 1), (7, 2), (8, 3), (9, 0), (10, 3)])]) [.agg #[.slice q l c, .int .i64 m], .int .u64 k] w K = cortadoref24_Drop_m q l c m k w K := by kernel_rfl
theorem cortadoref24_Drop_go (q : Option Addr) (l c : Nat) (m k : Int) {w : World} {K : Value → World → Prop} (h : cortadoref24_Drop_m q l c m k w K) : Rets Tryz.prog 29 #[.agg #[.slice q l c, .int .i64 m], .int .u64 k] w K :=
  calls_of_fw plain mixed Tryz.func29 (by kernel_rfl) (by rw [cortadoref24_Drop_eq]; exact h)
def cortadoref24_set_m (q : Option Addr) (l c : Nat) (m k n : Int) (w : World) (K : Value → World → Prop) : Prop :=
  NewR (41 : Nat) [Value.slice q l c, Value.int IntKind.i64 m] w fun (a1 : Addr) (w1 : World) =>
  NewR (41 : Nat) [Value.slice none (0 : Nat) (0 : Nat), Value.int IntKind.i64 (0 : Int)] w1
  fun (a2 : Addr) (w2 : World) =>
  ∃ (q1 : Option Addr),
  ∃ (k1 : Nat),
  ∃ (k2 : Nat),
  ∃ (n1 : Int),
  (cellAt w2 (Addr.add a1 (0 : Nat)) (Value.slice q1 k1 k2) ∧
  cellAt w2 (Addr.add a1 (1 : Nat)) (Value.int IntKind.i64 n1)) ∧
  Rets Tryz.prog (29 : Nat)
  { toList := [Value.agg { toList := [Value.slice q1 k1 k2, Value.int IntKind.i64 n1] }, Value.int IntKind.u64 k] } w2
  fun (v1 : Value) (w3 : World) =>
  ∃ (q2 : Option Addr),
  ∃ (k3 : Nat),
  ∃ (k4 : Nat),
  ∃ (n2 : Int),
  v1 = Value.agg { toList := [Value.slice q2 k3 k4, Value.int IntKind.i64 n2] } ∧
  NewR (41 : Nat) [Value.slice none (0 : Nat) (0 : Nat), Value.int IntKind.i64 (0 : Int)] w3
  fun (a3 : Addr) (w4 : World) =>
  StoreR a3 [Value.slice q2 k3 k4, Value.int IntKind.i64 n2] w4 fun (w5 : World) =>
  ∃ (n3 : Int),
  cellAt w5 (Addr.add a1 (1 : Nat)) (Value.int IntKind.i64 n3) ∧
  NewR (41 : Nat) [Value.slice none (0 : Nat) (0 : Nat), Value.int IntKind.i64 (0 : Int)] w5
  fun (a4 : Addr) (w6 : World) =>
  StoreR a4 [Value.slice none (0 : Nat) (0 : Nat), Value.int IntKind.i64 n3] w6 fun (w7 : World) =>
  ∃ (h1 : Nat → List Value → World → Prop),
  (∃ (k5 : Nat), h1 k5 [Value.bool false, Value.int IntKind.i64 (0 : Int)] w7) ∧
  ∀ (k6 : Nat) (w8 : World) (b1 : Bool) (n4 : Int)
  (v2 v3 v4 v5 v6 v7 v8 v9 v10 v11 v12 v13 v14 v15 v16 v17 v18 v19 v20 v21 v22 v23 v24 v25 v26 v27 v28 v29 v30 v31 v32 v33
  v34 v35 v36 v37 v38 : Value),
  h1 k6 [Value.bool b1, Value.int IntKind.i64 n4] w8 →
  ∃ (q3 : Option Addr),
  ∃ (k7 : Nat),
  ∃ (k8 : Nat),
  cellAt w8 (Addr.add a3 (0 : Nat)) (Value.slice q3 k7 k8) ∧
  (decide (n4 < (↑k7 : Int)) = true →
  ∃ (h2 : List Value → World → Prop),
  (((!b1) = true →
  ∃ (q4 : Option Addr),
  ∃ (k9 : Nat),
  ∃ (k10 : Nat),
  cellAt w8 (Addr.add a3 (0 : Nat)) (Value.slice q4 k9 k10) ∧
  (0 : Int) ≤ n4 ∧
  n4 < (↑k9 : Int) ∧
  someR q4 fun (a5 : Addr) =>
  ∃ (n5 : Int),
  cellAt w8 (Addr.add (Addr.add a5 (Int.toNat n4 * (2 : Nat))) (0 : Nat)) (Value.int IntKind.u64 n5) ∧
  h2 [Value.bool (decide (n5 > k))] w8) ∧
  ((!b1) = false → h2 [Value.bool false] w8)) ∧
  ∀ (w9 : World) (v39 v40 v41 v42 v43 v44 v45 v46 v47 v48 v49 : Value) (b2 : Bool),
  h2 [Value.bool b2] w9 →
  ∃ (h3 : List Value → World → Prop),
  ((b2 = true →
  ∃ (q5 : Option Addr),
  ∃ (k11 : Nat),
  ∃ (k12 : Nat),
  cellAt w9 (Addr.add a4 (0 : Nat)) (Value.slice q5 k11 k12) ∧
  NewR (64 : Nat) [Value.int IntKind.u64 k, Value.int IntKind.i64 n] w9 fun (a6 : Addr) (w10 : World) =>
  RunR Tryz.prog
  (builtinV Builtin.append { toList := [(39 : Nat), (39 : Nat)] } (nat_lit 39)
  { toList := [Value.slice q5 k11 k12, Value.slice (some a6) (1 : Nat) (1 : Nat)] })
  w10 fun (v50 : Value) (w11 : World) =>
  ∃ (q6 : Option Addr),
  ∃ (k13 : Nat),
  ∃ (k14 : Nat),
  v50 = Value.slice q6 k13 k14 ∧
  StoreR (Addr.add a4 (0 : Nat)) [Value.slice q6 k13 k14] w11 fun (w12 : World) => h3 [Value.bool true] w12) ∧
  (b2 = false → h3 [Value.bool b1] w9)) ∧
  ∀ (w13 : World) (b3 : Bool) (v51 v52 v53 v54 v55 v56 v57 v58 : Value),
  h3 [Value.bool b3] w13 →
  Drw w13 fun (w14 : World) =>
  ∃ (h4 : World → Prop),
  h4 w14 ∧
  ∃ (q7 : Option Addr),
  ∃ (k15 : Nat),
  ∃ (k16 : Nat),
  (∀ (w15 : World), h4 w15 → World.cell? w15 (Addr.add a4 (0 : Nat)) = some (Value.slice q7 k15 k16)) ∧
  ∃ (q8 : Option Addr),
  ∃ (k17 : Nat),
  ∃ (k18 : Nat),
  (∀ (w16 : World), h4 w16 → World.cell? w16 (Addr.add a3 (0 : Nat)) = some (Value.slice q8 k17 k18)) ∧
  (0 : Int) ≤ n4 ∧
  n4 < (↑k17 : Int) ∧
  someR q8 fun (a7 : Addr) =>
  ∃ (n6 : Int),
  ∃ (n7 : Int),
  ((∀ (w17 : World),
  h4 w17 →
  World.cell? w17 (Addr.add (Addr.add a7 (Int.toNat n4 * (2 : Nat))) (0 : Nat)) = some (Value.int IntKind.u64 n6)) ∧
  ∀ (w18 : World),
  h4 w18 →
  World.cell? w18 (Addr.add (Addr.add a7 (Int.toNat n4 * (2 : Nat))) ((0 : Nat) + (1 : Nat))) =
  some (Value.int IntKind.i64 n7)) ∧
  NewR (64 : Nat) [Value.int IntKind.u64 n6, Value.int IntKind.i64 n7] w14 fun (a8 : Addr) (w19 : World) =>
  h4 w19 ∧
  RunR Tryz.prog
  (builtinV Builtin.append { toList := [(39 : Nat), (39 : Nat)] } (nat_lit 39)
  { toList := [Value.slice q7 k15 k16, Value.slice (some a8) (1 : Nat) (1 : Nat)] })
  w19 fun (v59 : Value) (w20 : World) =>
  ∃ (q9 : Option Addr),
  ∃ (k19 : Nat),
  ∃ (k20 : Nat),
  v59 = Value.slice q9 k19 k20 ∧
  StoreR (Addr.add a4 (0 : Nat)) [Value.slice q9 k19 k20] w20 fun (w21 : World) =>
  ∃ (k21 : Nat),
  k21 < k6 ∧ h1 k21 [Value.bool b3, Value.int IntKind.i64 (IntKind.wrap IntKind.i64 (n4 + (1 : Int)))] w21) ∧
  (decide (n4 < (↑k7 : Int)) = false →
  ∃ (h5 : List Value → World → Prop),
  (((!b1) = true →
  ∃ (q10 : Option Addr),
  ∃ (k22 : Nat),
  ∃ (k23 : Nat),
  cellAt w8 (Addr.add a4 (0 : Nat)) (Value.slice q10 k22 k23) ∧
  NewR (64 : Nat) [Value.int IntKind.u64 k, Value.int IntKind.i64 n] w8 fun (a9 : Addr) (w22 : World) =>
  RunR Tryz.prog
  (builtinV Builtin.append { toList := [(39 : Nat), (39 : Nat)] } (nat_lit 39)
  { toList := [Value.slice q10 k22 k23, Value.slice (some a9) (1 : Nat) (1 : Nat)] })
  w22 fun (v60 : Value) (w23 : World) =>
  ∃ (q11 : Option Addr),
  ∃ (k24 : Nat),
  ∃ (k25 : Nat),
  v60 = Value.slice q11 k24 k25 ∧
  StoreR (Addr.add a4 (0 : Nat)) [Value.slice q11 k24 k25] w23 fun (w24 : World) => h5 [] w24) ∧
  ((!b1) = false → h5 [] w8)) ∧
  ∀ (w25 : World) (v61 v62 v63 v64 v65 v66 v67 v68 : Value),
  h5 [] w25 →
  ∃ (q12 : Option Addr),
  ∃ (k26 : Nat),
  ∃ (k27 : Nat),
  ∃ (n8 : Int),
  (cellAt w25 (Addr.add a4 (0 : Nat)) (Value.slice q12 k26 k27) ∧
  cellAt w25 (Addr.add a4 (1 : Nat)) (Value.int IntKind.i64 n8)) ∧
  StoreR a2 [Value.slice q12 k26 k27, Value.int IntKind.i64 n8] w25 fun (w26 : World) =>
  ∃ (q13 : Option Addr),
  ∃ (k28 : Nat),
  ∃ (k29 : Nat),
  ∃ (n9 : Int),
  (cellAt w26 (Addr.add a2 (0 : Nat)) (Value.slice q13 k28 k29) ∧
  cellAt w26 (Addr.add a2 (1 : Nat)) (Value.int IntKind.i64 n9)) ∧
  K (Value.agg { toList := [Value.slice q13 k28 k29, Value.int IntKind.i64 n9] }) w26)
theorem cortadoref24_set_eq (q : Option Addr) (l c : Nat) (m k n : Int) (w : World) (K : Value → World → Prop) : fw Tryz.prog Tryz.f79 (annL [(1, [(9, some 4), (10, some 3), (17, none), (18, none), (19, none), (20, none), (21, none), (22, none), (23, none), (24, none), (25, none), (26, none), (27, none), (28, none), (29, none), (30, none), (31, none), (32, none), (33, none), (34, none), (35, none), (36, none), (37, none), (38, none), (39, none), (40, none), (41, none), (42, none), (43, none), (44, none), (45, none), (46, none), (47, none), (48, none), (49, none), (50, none), (51, none), (52, none), (53, none)]), (4, [(9, some 4), (36, none), (37, none), (38, none), (39, none), (40, none), (41, none), (42, none), (43, none)]), (5, [(56, none), (57, none), (58, none), (59, none), (60, none), (61, none), (62, none), (63, none)])]) (ordL [(2000007, [(24, 0), (25, 0), (26, 0), (27, 0), (28, 0), (29, 0), (30, 0), (31, 0), (32, 0), (33, 0), (34, 0), (35, 5)]), (10, [(0, 0), (2, 0), (4, 0), (1, 1), (3, 1), (5, 0), (6, 1), (7, 2), (8, 3), (9, 0), (10, 3)])]) [.agg #[.slice q l c, .int .i64 m], .int .u64 k, .int .i64 n] w K = cortadoref24_set_m q l c m k n w K := by kernel_rfl
theorem cortadoref24_set_go (q : Option Addr) (l c : Nat) (m k n : Int) {w : World} {K : Value → World → Prop} (h : cortadoref24_set_m q l c m k n w K) : Rets Tryz.prog 79 #[.agg #[.slice q l c, .int .i64 m], .int .u64 k, .int .i64 n] w K :=
  calls_of_fw plain mixed Tryz.func79 (by kernel_rfl) (by rw [cortadoref24_set_eq]; exact h)
def cortadoref24_Add_m (q : Option Addr) (l c : Nat) (m k n : Int) (w : World) (K : Value → World → Prop) : Prop :=
  NewR (41 : Nat) [Value.slice q l c, Value.int IntKind.i64 m] w fun (a1 : Addr) (w1 : World) =>
  NewR (41 : Nat) [Value.slice none (0 : Nat) (0 : Nat), Value.int IntKind.i64 (0 : Int)] w1
  fun (a2 : Addr) (w2 : World) =>
  ∃ (q1 : Option Addr),
  ∃ (k1 : Nat),
  ∃ (k2 : Nat),
  ∃ (n1 : Int),
  (cellAt w2 (Addr.add a1 (0 : Nat)) (Value.slice q1 k1 k2) ∧
  cellAt w2 (Addr.add a1 (1 : Nat)) (Value.int IntKind.i64 n1)) ∧
  Rets Tryz.prog (28 : Nat)
  { toList := [Value.agg { toList := [Value.slice q1 k1 k2, Value.int IntKind.i64 n1] }, Value.int IntKind.u64 k] } w2
  fun (v1 : Value) (w3 : World) =>
  ∃ (n2 : Int),
  ∃ (b1 : Bool),
  v1 = Value.tuple { toList := [Value.int IntKind.i64 n2, Value.bool b1] } ∧
  ∃ (h1 : List Value → World → Prop),
  (Drw w3 fun (w4 : World) =>
  ∃ (h2 : World → Prop),
  h2 w4 ∧
  (b1 = false →
  Rets Tryz.prog (52 : Nat) { toList := [Value.int IntKind.i64 n] } w4 fun (v2 : Value) (w5 : World) =>
  ∃ (b2 : Bool),
  v2 = Value.bool b2 ∧
  h2 w5 ∧
  ((!b2) = false →
  ∃ (n3 : Int),
  (∀ (w6 : World), h2 w6 → World.cell? w6 (Addr.add a1 (1 : Nat)) = some (Value.int IntKind.i64 n3)) ∧
  ∃ (q2 : Option Addr),
  ∃ (k3 : Nat),
  ∃ (k4 : Nat),
  ∃ (n4 : Int),
  ((∀ (w7 : World), h2 w7 → World.cell? w7 (Addr.add a1 (0 : Nat)) = some (Value.slice q2 k3 k4)) ∧
  ∀ (w8 : World), h2 w8 → World.cell? w8 (Addr.add a1 ((0 : Nat) + (1 : Nat))) = some (Value.int IntKind.i64 n4)) ∧
  Rets Tryz.prog (15 : Nat) { toList := [Value.agg { toList := [Value.slice q2 k3 k4, Value.int IntKind.i64 n4] }] } w5
  fun (v3 : Value) (w9 : World) =>
  ∃ (n5 : Int),
  v3 = Value.int IntKind.i64 n5 ∧ h2 w9 ∧ h1 [Value.bool (decide (n > IntKind.wrap IntKind.i64 (n3 - n5)))] w9) ∧
  ((!b2) = true → h1 [Value.bool true] w5)) ∧
  (b1 = true → h1 [Value.bool true] w4)) ∧
  ∀ (w10 : World) (v4 v5 v6 v7 v8 v9 v10 v11 v12 v13 v14 v15 v16 v17 : Value) (b3 : Bool),
  h1 [Value.bool b3] w10 →
  (b3 = true →
  ∃ (q3 : Option Addr),
  ∃ (k5 : Nat),
  ∃ (k6 : Nat),
  ∃ (n6 : Int),
  (cellAt w10 (Addr.add a1 (0 : Nat)) (Value.slice q3 k5 k6) ∧
  cellAt w10 (Addr.add a1 (1 : Nat)) (Value.int IntKind.i64 n6)) ∧
  StoreR a2 [Value.slice q3 k5 k6, Value.int IntKind.i64 n6] w10 fun (w11 : World) =>
  ∃ (q4 : Option Addr),
  ∃ (k7 : Nat),
  ∃ (k8 : Nat),
  ∃ (n7 : Int),
  (cellAt w11 (Addr.add a2 (0 : Nat)) (Value.slice q4 k7 k8) ∧
  cellAt w11 (Addr.add a2 (1 : Nat)) (Value.int IntKind.i64 n7)) ∧
  K
  (Value.tuple { toList := [Value.agg { toList := [Value.slice q4 k7 k8, Value.int IntKind.i64 n7] }, Value.bool false] })
  w11) ∧
  (b3 = false →
  ∃ (q5 : Option Addr),
  ∃ (k9 : Nat),
  ∃ (k10 : Nat),
  ∃ (n8 : Int),
  (cellAt w10 (Addr.add a1 (0 : Nat)) (Value.slice q5 k9 k10) ∧
  cellAt w10 (Addr.add a1 (1 : Nat)) (Value.int IntKind.i64 n8)) ∧
  Rets Tryz.prog (79 : Nat)
  {
  toList :=
  [Value.agg { toList := [Value.slice q5 k9 k10, Value.int IntKind.i64 n8] }, Value.int IntKind.u64 k,
  Value.int IntKind.i64 n] }
  w10 fun (v18 : Value) (w12 : World) =>
  ∃ (q6 : Option Addr),
  ∃ (k11 : Nat),
  ∃ (k12 : Nat),
  ∃ (n9 : Int),
  v18 = Value.agg { toList := [Value.slice q6 k11 k12, Value.int IntKind.i64 n9] } ∧
  StoreR a2 [Value.slice q6 k11 k12, Value.int IntKind.i64 n9] w12 fun (w13 : World) =>
  ∃ (q7 : Option Addr),
  ∃ (k13 : Nat),
  ∃ (k14 : Nat),
  ∃ (n10 : Int),
  (cellAt w13 (Addr.add a2 (0 : Nat)) (Value.slice q7 k13 k14) ∧
  cellAt w13 (Addr.add a2 (1 : Nat)) (Value.int IntKind.i64 n10)) ∧
  K
  (Value.tuple
  { toList := [Value.agg { toList := [Value.slice q7 k13 k14, Value.int IntKind.i64 n10] }, Value.bool true] })
  w13)
theorem cortadoref24_Add_eq (q : Option Addr) (l c : Nat) (m k n : Int) (w : World) (K : Value → World → Prop) : fw Tryz.prog Tryz.f55 (annL []) (ordL [(2000002, [(16, 0), (17, 0), (18, 0), (19, 0), (20, 0), (21, 0), (22, 0), (23, 0), (24, 0), (25, 0), (26, 0), (27, 0), (28, 0), (29, 0), (30, 5)]), (2, [(0, 0), (1, 0), (2, 0), (3, 2), (4, 0), (5, 0), (6, 0), (7, 0), (8, 0), (9, 1), (10, 1), (11, 2), (12, 0), (13, 0), (14, 0)])]) [.agg #[.slice q l c, .int .i64 m], .int .u64 k, .int .i64 n] w K = cortadoref24_Add_m q l c m k n w K := by kernel_rfl
theorem cortadoref24_Add_go (q : Option Addr) (l c : Nat) (m k n : Int) {w : World} {K : Value → World → Prop} (h : cortadoref24_Add_m q l c m k n w K) : Rets Tryz.prog 55 #[.agg #[.slice q l c, .int .i64 m], .int .u64 k, .int .i64 n] w K :=
  calls_of_fw plain mixed Tryz.func55 (by kernel_rfl) (by rw [cortadoref24_Add_eq]; exact h)
end Go.Proofs.YtggflkjdgcdcmaaGreatDoor.Eng
