/- What the code of these functions asks for: printed by a program of this session's (gens.py) out of the seat's own functions; the kernel checks each row. -/
import Derived.Test.YtggflkjdgcdcmaaGreatDoorEngH
import Derived.Test.YtggflkjdgcdcmaaGreatDoorProg
import Derived.Test.YtggflkjdgcdcmaaGreatDoorBase
namespace Go.Proofs.YtggflkjdgcdcmaaGreatDoor.Eng
open Go Go.Proofs
set_option linter.unusedVariables false
set_option maxRecDepth 1000000
def cortadoref10_Add_m (q : Option Addr) (l : Nat) (c : Nat) (i : Int) (w : World) (K : Value → World → Prop) : Prop :=
  (decide (i < (0 : Int)) = false →
  (decide (i ≥ (↑l : Int)) = false →
  (0 : Int) ≤ i ∧
  i < (↑l : Int) ∧
  someR q fun (a1 : Addr) =>
  ∃ (n1 : Int),
  cellAt w (Addr.add a1 (Int.toNat i * (1 : Nat))) (Value.int IntKind.i64 n1) ∧
  (decide (n1 ≥ (15 : Int)) = true → K (Value.tuple { toList := [Value.slice q l c, Value.bool false] }) w) ∧
  (decide (n1 ≥ (15 : Int)) = false →
  NewR (3 : Nat) [] w fun (a2 : Addr) (w1 : World) =>
  RunR Tryz.prog
  (builtinV Builtin.append { toList := [(22 : Nat), (22 : Nat)] } (nat_lit 22)
  { toList := [Value.slice (some a2) (0 : Nat) (0 : Nat), Value.slice q l c] })
  w1 fun (v1 : Value) (w2 : World) =>
  ∃ (q1 : Option Addr),
  ∃ (k1 : Nat),
  ∃ (k2 : Nat),
  v1 = Value.slice q1 k1 k2 ∧
  (0 : Int) ≤ i ∧
  i < (↑k1 : Int) ∧
  someR q1 fun (a3 : Addr) =>
  ∃ (n2 : Int),
  cellAt w2 (Addr.add a3 (Int.toNat i * (1 : Nat))) (Value.int IntKind.i64 n2) ∧
  (0 : Int) ≤ i ∧
  i < (↑k1 : Int) ∧
  someR q1 fun (a4 : Addr) =>
  StoreR (Addr.add a4 (Int.toNat i * (1 : Nat))) [Value.int IntKind.i64 (IntKind.wrap IntKind.i64 (n2 + (1 : Int)))] w2
  fun (w3 : World) => K (Value.tuple { toList := [Value.slice q1 k1 k2, Value.bool true] }) w3)) ∧
  (decide (i ≥ (↑l : Int)) = true → K (Value.tuple { toList := [Value.slice q l c, Value.bool false] }) w)) ∧
  (decide (i < (0 : Int)) = true → K (Value.tuple { toList := [Value.slice q l c, Value.bool false] }) w)
theorem cortadoref10_Add_eq (q : Option Addr) (l : Nat) (c : Nat) (i : Int) (w : World) (K : Value → World → Prop) : fw Tryz.prog Tryz.f109 (annL []) (ordL []) [.slice q l c, .int .i64 i] w K = cortadoref10_Add_m q l c i w K := by kernel_rfl
theorem cortadoref10_Add_go (q : Option Addr) (l : Nat) (c : Nat) (i : Int) {w : World} {K : Value → World → Prop} (h : cortadoref10_Add_m q l c i w K) : Rets Tryz.prog 109 #[.slice q l c, .int .i64 i] w K :=
  calls_of_fw plain mixed Tryz.func109 (by kernel_rfl) (by rw [cortadoref10_Add_eq]; exact h)
def cortadoref10_Halve_m (q : Option Addr) (l c : Nat) (w : World) (K : Value → World → Prop) : Prop :=
  ∃ (h1 : Nat → List Value → World → Prop),
  (∃ (k1 : Nat), h1 k1 [Value.slice none (0 : Nat) (0 : Nat), Value.int IntKind.i64 (0 : Int)] w) ∧
  ∀ (k2 : Nat) (w1 : World) (q1 : Option Addr) (k3 k4 : Nat) (n1 : Int)
  (v1 v2 v3 v4 v5 v6 v7 v8 v9 v10 v11 v12 v13 v14 : Value),
  h1 k2 [Value.slice q1 k3 k4, Value.int IntKind.i64 n1] w1 →
  (decide (n1 < (↑l : Int)) = true →
  (0 : Int) ≤ n1 ∧
  n1 < (↑l : Int) ∧
  someR q fun (a1 : Addr) =>
  ∃ (n2 : Int),
  cellAt w1 (Addr.add a1 (Int.toNat n1 * (1 : Nat))) (Value.int IntKind.i64 n2) ∧
  (2 : Int) ≠ (0 : Int) ∧
  NewR (3 : Nat) [Value.int IntKind.i64 (IntKind.wrap IntKind.i64 (Int.tdiv n2 (2 : Int)))] w1
  fun (a2 : Addr) (w2 : World) =>
  RunR Tryz.prog
  (builtinV Builtin.append { toList := [(22 : Nat), (22 : Nat)] } (nat_lit 22)
  { toList := [Value.slice q1 k3 k4, Value.slice (some a2) (1 : Nat) (1 : Nat)] })
  w2 fun (v15 : Value) (w3 : World) =>
  ∃ (q2 : Option Addr),
  ∃ (k5 : Nat),
  ∃ (k6 : Nat),
  v15 = Value.slice q2 k5 k6 ∧
  ∃ (k7 : Nat),
  k7 < k2 ∧ h1 k7 [Value.slice q2 k5 k6, Value.int IntKind.i64 (IntKind.wrap IntKind.i64 (n1 + (1 : Int)))] w3) ∧
  (decide (n1 < (↑l : Int)) = false → K (Value.slice q1 k3 k4) w1)
theorem cortadoref10_Halve_eq (q : Option Addr) (l c : Nat) (w : World) (K : Value → World → Prop) : fw Tryz.prog Tryz.f110 (annL [(1, [(3, some 22), (4, some 3), (5, none), (6, none), (7, none), (8, none), (9, none), (10, none), (11, none), (12, none), (13, none), (14, none), (15, none), (16, none), (17, none), (18, none)])]) (ordL []) [.slice q l c] w K = cortadoref10_Halve_m q l c w K := by kernel_rfl
theorem cortadoref10_Halve_go (q : Option Addr) (l c : Nat) {w : World} {K : Value → World → Prop} (h : cortadoref10_Halve_m q l c w K) : Rets Tryz.prog 110 #[.slice q l c] w K :=
  calls_of_fw plain mixed Tryz.func110 (by kernel_rfl) (by rw [cortadoref10_Halve_eq]; exact h)
def cortadoref11_New_m (n s : Int) (w : World) (K : Value → World → Prop) : Prop :=
  NewR (33 : Nat) [Value.slice none (0 : Nat) (0 : Nat), Value.int IntKind.i64 (0 : Int), Value.int IntKind.u64 (0 : Int)]
  w fun (a1 : Addr) (w1 : World) =>
  Rets Tryz.prog (76 : Nat) { toList := [Value.int IntKind.i64 (maxI (1 : Int) (minI n (4096 : Int)))] } w1
  fun (v1 : Value) (w2 : World) =>
  ∃ (n1 : Int),
  v1 = Value.int IntKind.i64 n1 ∧
  NewR (33 : Nat) [Value.slice none (0 : Nat) (0 : Nat), Value.int IntKind.i64 (0 : Int), Value.int IntKind.u64 (0 : Int)]
  w2 fun (a2 : Addr) (w3 : World) =>
  StoreR a2 [Value.slice none (0 : Nat) (0 : Nat), Value.int IntKind.i64 n1, Value.int IntKind.u64 s] w3
  fun (w4 : World) =>
  ∃ (h1 : Nat → List Value → World → Prop),
  (∃ (k1 : Nat), h1 k1 [Value.int IntKind.i64 (0 : Int)] w4) ∧
  ∀ (k2 : Nat) (w5 : World) (n2 : Int) (v2 v3 v4 v5 v6 v7 v8 v9 v10 v11 v12 : Value),
  h1 k2 [Value.int IntKind.i64 n2] w5 →
  (decide (n2 < (4 : Int)) = true →
  Drw w5 fun (w6 : World) =>
  ∃ (h2 : World → Prop),
  h2 w6 ∧
  ∃ (q1 : Option Addr),
  ∃ (k3 : Nat),
  ∃ (k4 : Nat),
  (∀ (w7 : World), h2 w7 → World.cell? w7 (Addr.add a2 (0 : Nat)) = some (Value.slice q1 k3 k4)) ∧
  MakeR (3 : Nat) [Value.int IntKind.i64 (0 : Int)] (8 : Nat) n1 n1 w6 fun (a3 : Addr) (w8 : World) =>
  h2 w8 ∧
  NewR (22 : Nat) [Value.slice (some a3) (Int.toNat n1) (Int.toNat n1)] w8 fun (a4 : Addr) (w9 : World) =>
  h2 w9 ∧
  RunR Tryz.prog
  (builtinV Builtin.append { toList := [(31 : Nat), (31 : Nat)] } (nat_lit 31)
  { toList := [Value.slice q1 k3 k4, Value.slice (some a4) (1 : Nat) (1 : Nat)] })
  w9 fun (v13 : Value) (w10 : World) =>
  ∃ (q2 : Option Addr),
  ∃ (k5 : Nat),
  ∃ (k6 : Nat),
  v13 = Value.slice q2 k5 k6 ∧
  StoreR (Addr.add a2 (0 : Nat)) [Value.slice q2 k5 k6] w10 fun (w11 : World) =>
  ∃ (k7 : Nat), k7 < k2 ∧ h1 k7 [Value.int IntKind.i64 (IntKind.wrap IntKind.i64 (n2 + (1 : Int)))] w11) ∧
  (decide (n2 < (4 : Int)) = false →
  ∃ (q3 : Option Addr),
  ∃ (k8 : Nat),
  ∃ (k9 : Nat),
  ∃ (n3 : Int),
  ∃ (n4 : Int),
  (cellAt w5 (Addr.add a2 (0 : Nat)) (Value.slice q3 k8 k9) ∧
  cellAt w5 (Addr.add a2 (1 : Nat)) (Value.int IntKind.i64 n3) ∧
  cellAt w5 (Addr.add a2 (2 : Nat)) (Value.int IntKind.u64 n4)) ∧
  StoreR a1 [Value.slice q3 k8 k9, Value.int IntKind.i64 n3, Value.int IntKind.u64 n4] w5 fun (w12 : World) =>
  ∃ (q4 : Option Addr),
  ∃ (k10 : Nat),
  ∃ (k11 : Nat),
  ∃ (n5 : Int),
  ∃ (n6 : Int),
  (cellAt w12 (Addr.add a1 (0 : Nat)) (Value.slice q4 k10 k11) ∧
  cellAt w12 (Addr.add a1 (1 : Nat)) (Value.int IntKind.i64 n5) ∧
  cellAt w12 (Addr.add a1 (2 : Nat)) (Value.int IntKind.u64 n6)) ∧
  K (Value.agg { toList := [Value.slice q4 k10 k11, Value.int IntKind.i64 n5, Value.int IntKind.u64 n6] }) w12)
theorem cortadoref11_New_eq (n s : Int) (w : World) (K : Value → World → Prop) : fw Tryz.prog Tryz.f50 (annL [(1, [(7, some 3), (15, none), (16, none), (17, none), (18, none), (19, none), (20, none), (21, none), (22, none), (23, none), (24, none), (25, none)])]) (ordL [(6, [(0, 0), (2, 0), (1, 1), (3, 2), (4, 2), (5, 3), (6, 0), (7, 3)])]) [.int .i64 n, .int .u64 s] w K = cortadoref11_New_m n s w K := by kernel_rfl
theorem cortadoref11_New_go (n s : Int) {w : World} {K : Value → World → Prop} (h : cortadoref11_New_m n s w K) : Rets Tryz.prog 50 #[.int .i64 n, .int .u64 s] w K :=
  calls_of_fw plain mixed Tryz.func50 (by kernel_rfl) (by rw [cortadoref11_New_eq]; exact h)
def cortadoref11_Place_m (q : Option Addr) (l c : Nat) (wd s hh r : Int) (w : World) (K : Value → World → Prop) : Prop :=
  NewR (33 : Nat) [Value.slice q l c, Value.int IntKind.i64 wd, Value.int IntKind.u64 s] w fun (a1 : Addr) (w1 : World) =>
  (decide (r < (0 : Int)) = false →
  (decide (r > (3 : Int)) = true → K (Value.int IntKind.i64 (0 : Int)) w1) ∧
  (decide (r > (3 : Int)) = false →
  ∃ (n1 : Int),
  cellAt w1 (Addr.add a1 (2 : Nat)) (Value.int IntKind.u64 n1) ∧
  Rets Tryz.prog (93 : Nat)
  {
  toList :=
  [Value.int IntKind.u64
  (IntKind.wrap IntKind.u64 (IntKind.wrap IntKind.u64 (n1 + IntKind.wrap IntKind.u64 r) + (1 : Int)))] }
  w1 fun (v1 : Value) (w2 : World) =>
  ∃ (n2 : Int),
  v1 = Value.int IntKind.u64 n2 ∧
  Drw w2 fun (w3 : World) =>
  ∃ (h1 : World → Prop),
  h1 w3 ∧
  ∃ (n3 : Int),
  (∀ (w4 : World), h1 w4 → World.cell? w4 (Addr.add a1 (1 : Nat)) = some (Value.int IntKind.i64 n3)) ∧
  Rets Tryz.prog (93 : Nat) { toList := [Value.int IntKind.u64 (bits BinOp.xor IntKind.u64 hh n2)] } w3
  fun (v2 : Value) (w5 : World) =>
  ∃ (n4 : Int),
  v2 = Value.int IntKind.u64 n4 ∧
  h1 w5 ∧
  IntKind.wrap IntKind.u64 n3 ≠ (0 : Int) ∧
  K (Value.int IntKind.i64 (IntKind.wrap IntKind.i64 (Int.tmod n4 (IntKind.wrap IntKind.u64 n3)))) w5)) ∧
  (decide (r < (0 : Int)) = true → K (Value.int IntKind.i64 (0 : Int)) w1)
theorem cortadoref11_Place_eq (q : Option Addr) (l c : Nat) (wd s hh r : Int) (w : World) (K : Value → World → Prop) : fw Tryz.prog Tryz.f64 (annL []) (ordL [(4, [(0, 0), (1, 0), (2, 0), (4, 0), (5, 1), (6, 0), (3, 2), (7, 0), (8, 0), (9, 0)])]) [.agg #[.slice q l c, .int .i64 wd, .int .u64 s], .int .u64 hh, .int .i64 r] w K = cortadoref11_Place_m q l c wd s hh r w K := by kernel_rfl
theorem cortadoref11_Place_go (q : Option Addr) (l c : Nat) (wd s hh r : Int) {w : World} {K : Value → World → Prop} (h : cortadoref11_Place_m q l c wd s hh r w K) : Rets Tryz.prog 64 #[.agg #[.slice q l c, .int .i64 wd, .int .u64 s], .int .u64 hh, .int .i64 r] w K :=
  calls_of_fw plain mixed Tryz.func64 (by kernel_rfl) (by rw [cortadoref11_Place_eq]; exact h)
def cortadoref11_Add_m (q : Option Addr) (l c : Nat) (wd s hh : Int) (w : World) (K : Value → World → Prop) : Prop :=
  NewR (33 : Nat) [Value.slice q l c, Value.int IntKind.i64 wd, Value.int IntKind.u64 s] w fun (a1 : Addr) (w1 : World) =>
  NewR (33 : Nat) [Value.slice none (0 : Nat) (0 : Nat), Value.int IntKind.i64 (0 : Int), Value.int IntKind.u64 (0 : Int)]
  w1 fun (a2 : Addr) (w2 : World) =>
  ∃ (n1 : Int),
  cellAt w2 (Addr.add a1 (1 : Nat)) (Value.int IntKind.i64 n1) ∧
  ∃ (n2 : Int),
  cellAt w2 (Addr.add a1 (2 : Nat)) (Value.int IntKind.u64 n2) ∧
  NewR (33 : Nat) [Value.slice none (0 : Nat) (0 : Nat), Value.int IntKind.i64 (0 : Int), Value.int IntKind.u64 (0 : Int)]
  w2 fun (a3 : Addr) (w3 : World) =>
  StoreR a3 [Value.slice none (0 : Nat) (0 : Nat), Value.int IntKind.i64 n1, Value.int IntKind.u64 n2] w3
  fun (w4 : World) =>
  ∃ (h1 : Nat → List Value → World → Prop),
  (∃ (k1 : Nat), h1 k1 [Value.int IntKind.i64 (0 : Int)] w4) ∧
  ∀ (k2 : Nat) (w5 : World) (n3 : Int)
  (v1 v2 v3 v4 v5 v6 v7 v8 v9 v10 v11 v12 v13 v14 v15 v16 v17 v18 v19 v20 v21 v22 v23 v24 v25 v26 v27 v28 : Value),
  h1 k2 [Value.int IntKind.i64 n3] w5 →
  ∃ (q1 : Option Addr),
  ∃ (k3 : Nat),
  ∃ (k4 : Nat),
  cellAt w5 (Addr.add a1 (0 : Nat)) (Value.slice q1 k3 k4) ∧
  (decide (n3 < (↑k3 : Int)) = true →
  Drw w5 fun (w6 : World) =>
  ∃ (h2 : World → Prop),
  h2 w6 ∧
  ∃ (q2 : Option Addr),
  ∃ (k5 : Nat),
  ∃ (k6 : Nat),
  (∀ (w7 : World), h2 w7 → World.cell? w7 (Addr.add a1 (0 : Nat)) = some (Value.slice q2 k5 k6)) ∧
  (0 : Int) ≤ n3 ∧
  n3 < (↑k5 : Int) ∧
  someR q2 fun (a4 : Addr) =>
  ∃ (q3 : Option Addr),
  ∃ (k7 : Nat),
  ∃ (k8 : Nat),
  (∀ (w8 : World), h2 w8 → World.cell? w8 (Addr.add a4 (Int.toNat n3 * (1 : Nat))) = some (Value.slice q3 k7 k8)) ∧
  ∃ (q4 : Option Addr),
  ∃ (k9 : Nat),
  ∃ (k10 : Nat),
  ∃ (n4 : Int),
  ∃ (n5 : Int),
  ((∀ (w9 : World), h2 w9 → World.cell? w9 (Addr.add a1 (0 : Nat)) = some (Value.slice q4 k9 k10)) ∧
  (∀ (w10 : World), h2 w10 → World.cell? w10 (Addr.add a1 ((0 : Nat) + (1 : Nat))) = some (Value.int IntKind.i64 n4)) ∧
  ∀ (w11 : World),
  h2 w11 → World.cell? w11 (Addr.add a1 ((0 : Nat) + (1 : Nat) + (1 : Nat))) = some (Value.int IntKind.u64 n5)) ∧
  Rets Tryz.prog (64 : Nat)
  {
  toList :=
  [Value.agg { toList := [Value.slice q4 k9 k10, Value.int IntKind.i64 n4, Value.int IntKind.u64 n5] },
  Value.int IntKind.u64 hh, Value.int IntKind.i64 n3] }
  w6 fun (v29 : Value) (w12 : World) =>
  ∃ (n6 : Int),
  v29 = Value.int IntKind.i64 n6 ∧
  h2 w12 ∧
  Rets Tryz.prog (109 : Nat) { toList := [Value.slice q3 k7 k8, Value.int IntKind.i64 n6] } w12
  fun (v30 : Value) (w13 : World) =>
  ∃ (q5 : Option Addr),
  ∃ (k11 : Nat),
  ∃ (k12 : Nat),
  ∃ (b1 : Bool),
  v30 = Value.tuple { toList := [Value.slice q5 k11 k12, Value.bool b1] } ∧
  ∃ (q6 : Option Addr),
  ∃ (k13 : Nat),
  ∃ (k14 : Nat),
  cellAt w13 (Addr.add a3 (0 : Nat)) (Value.slice q6 k13 k14) ∧
  NewR (22 : Nat) [Value.slice q5 k11 k12] w13 fun (a5 : Addr) (w14 : World) =>
  RunR Tryz.prog
  (builtinV Builtin.append { toList := [(31 : Nat), (31 : Nat)] } (nat_lit 31)
  { toList := [Value.slice q6 k13 k14, Value.slice (some a5) (1 : Nat) (1 : Nat)] })
  w14 fun (v31 : Value) (w15 : World) =>
  ∃ (q7 : Option Addr),
  ∃ (k15 : Nat),
  ∃ (k16 : Nat),
  v31 = Value.slice q7 k15 k16 ∧
  StoreR (Addr.add a3 (0 : Nat)) [Value.slice q7 k15 k16] w15 fun (w16 : World) =>
  ∃ (k17 : Nat), k17 < k2 ∧ h1 k17 [Value.int IntKind.i64 (IntKind.wrap IntKind.i64 (n3 + (1 : Int)))] w16) ∧
  (decide (n3 < (↑k3 : Int)) = false →
  ∃ (q8 : Option Addr),
  ∃ (k18 : Nat),
  ∃ (k19 : Nat),
  ∃ (n7 : Int),
  ∃ (n8 : Int),
  (cellAt w5 (Addr.add a3 (0 : Nat)) (Value.slice q8 k18 k19) ∧
  cellAt w5 (Addr.add a3 (1 : Nat)) (Value.int IntKind.i64 n7) ∧
  cellAt w5 (Addr.add a3 (2 : Nat)) (Value.int IntKind.u64 n8)) ∧
  StoreR a2 [Value.slice q8 k18 k19, Value.int IntKind.i64 n7, Value.int IntKind.u64 n8] w5 fun (w17 : World) =>
  ∃ (q9 : Option Addr),
  ∃ (k20 : Nat),
  ∃ (k21 : Nat),
  ∃ (n9 : Int),
  ∃ (n10 : Int),
  (cellAt w17 (Addr.add a2 (0 : Nat)) (Value.slice q9 k20 k21) ∧
  cellAt w17 (Addr.add a2 (1 : Nat)) (Value.int IntKind.i64 n9) ∧
  cellAt w17 (Addr.add a2 (2 : Nat)) (Value.int IntKind.u64 n10)) ∧
  K (Value.agg { toList := [Value.slice q9 k20 k21, Value.int IntKind.i64 n9, Value.int IntKind.u64 n10] }) w17)
theorem cortadoref11_Add_eq (q : Option Addr) (l c : Nat) (wd s hh : Int) (w : World) (K : Value → World → Prop) : fw Tryz.prog Tryz.f82 (annL [(1, [(6, some 3), (7, none), (8, none), (14, none), (15, none), (16, none), (17, none), (18, none), (19, none), (20, none), (21, none), (22, none), (23, none), (24, none), (25, none), (26, none), (27, none), (28, none), (29, none), (30, none), (31, none), (32, none), (33, none), (34, none), (35, none), (36, none), (37, none), (38, none), (39, none)])]) (ordL [(5, [(0, 0), (2, 0), (6, 0), (7, 0), (1, 1), (3, 0), (4, 1), (5, 1), (8, 2), (9, 3), (10, 0), (11, 0), (12, 0), (13, 0), (14, 0)])]) [.agg #[.slice q l c, .int .i64 wd, .int .u64 s], .int .u64 hh] w K = cortadoref11_Add_m q l c wd s hh w K := by kernel_rfl
theorem cortadoref11_Add_go (q : Option Addr) (l c : Nat) (wd s hh : Int) {w : World} {K : Value → World → Prop} (h : cortadoref11_Add_m q l c wd s hh w K) : Rets Tryz.prog 82 #[.agg #[.slice q l c, .int .i64 wd, .int .u64 s], .int .u64 hh] w K :=
  calls_of_fw plain mixed Tryz.func82 (by kernel_rfl) (by rw [cortadoref11_Add_eq]; exact h)
def cortadoref11_Count_m (q : Option Addr) (l c : Nat) (wd s hh : Int) (w : World) (K : Value → World → Prop) : Prop :=
  NewR (33 : Nat) [Value.slice q l c, Value.int IntKind.i64 wd, Value.int IntKind.u64 s] w fun (a1 : Addr) (w1 : World) =>
  ∃ (h1 : Nat → List Value → World → Prop),
  (∃ (k1 : Nat), h1 k1 [Value.int IntKind.i64 (15 : Int), Value.int IntKind.i64 (0 : Int)] w1) ∧
  ∀ (k2 : Nat) (w2 : World) (n1 n2 : Int)
  (v1 v2 v3 v4 v5 v6 v7 v8 v9 v10 v11 v12 v13 v14 v15 v16 v17 v18 v19 v20 : Value),
  h1 k2 [Value.int IntKind.i64 n1, Value.int IntKind.i64 n2] w2 →
  ∃ (q1 : Option Addr),
  ∃ (k3 : Nat),
  ∃ (k4 : Nat),
  cellAt w2 (Addr.add a1 (0 : Nat)) (Value.slice q1 k3 k4) ∧
  (decide (n2 < (↑k3 : Int)) = true →
  Drw w2 fun (w3 : World) =>
  ∃ (h2 : World → Prop),
  h2 w3 ∧
  ∃ (q2 : Option Addr),
  ∃ (k5 : Nat),
  ∃ (k6 : Nat),
  (∀ (w4 : World), h2 w4 → World.cell? w4 (Addr.add a1 (0 : Nat)) = some (Value.slice q2 k5 k6)) ∧
  (0 : Int) ≤ n2 ∧
  n2 < (↑k5 : Int) ∧
  someR q2 fun (a2 : Addr) =>
  ∃ (q3 : Option Addr),
  ∃ (k7 : Nat),
  ∃ (k8 : Nat),
  (∀ (w5 : World), h2 w5 → World.cell? w5 (Addr.add a2 (Int.toNat n2 * (1 : Nat))) = some (Value.slice q3 k7 k8)) ∧
  ∃ (q4 : Option Addr),
  ∃ (k9 : Nat),
  ∃ (k10 : Nat),
  ∃ (n3 : Int),
  ∃ (n4 : Int),
  ((∀ (w6 : World), h2 w6 → World.cell? w6 (Addr.add a1 (0 : Nat)) = some (Value.slice q4 k9 k10)) ∧
  (∀ (w7 : World), h2 w7 → World.cell? w7 (Addr.add a1 ((0 : Nat) + (1 : Nat))) = some (Value.int IntKind.i64 n3)) ∧
  ∀ (w8 : World),
  h2 w8 → World.cell? w8 (Addr.add a1 ((0 : Nat) + (1 : Nat) + (1 : Nat))) = some (Value.int IntKind.u64 n4)) ∧
  Rets Tryz.prog (64 : Nat)
  {
  toList :=
  [Value.agg { toList := [Value.slice q4 k9 k10, Value.int IntKind.i64 n3, Value.int IntKind.u64 n4] },
  Value.int IntKind.u64 hh, Value.int IntKind.i64 n2] }
  w3 fun (v21 : Value) (w9 : World) =>
  ∃ (n5 : Int),
  v21 = Value.int IntKind.i64 n5 ∧
  ∃ (h3 : World → Prop),
  (∀ (w10 : World), h3 w10 → h2 w10) ∧
  h3 w9 ∧
  (0 : Int) ≤ n5 ∧
  n5 < (↑k7 : Int) ∧
  someR q3 fun (a3 : Addr) =>
  ∃ (n6 : Int),
  (∀ (w11 : World), h3 w11 → World.cell? w11 (Addr.add a3 (Int.toNat n5 * (1 : Nat))) = some (Value.int IntKind.i64 n6)) ∧
  ∃ (k11 : Nat),
  k11 < k2 ∧
  h1 k11 [Value.int IntKind.i64 (minI n1 n6), Value.int IntKind.i64 (IntKind.wrap IntKind.i64 (n2 + (1 : Int)))] w9) ∧
  (decide (n2 < (↑k3 : Int)) = false → K (Value.int IntKind.i64 n1) w2)
theorem cortadoref11_Count_eq (q : Option Addr) (l c : Nat) (wd s hh : Int) (w : World) (K : Value → World → Prop) : fw Tryz.prog Tryz.f39 (annL [(1, [(5, some 3), (6, some 3), (7, none), (8, none), (9, none), (10, none), (11, none), (12, none), (13, none), (14, none), (15, none), (16, none), (17, none), (18, none), (19, none), (20, none), (21, none), (22, none), (23, none), (24, none), (25, none), (26, none)])]) (ordL [(5, [(0, 0), (1, 0), (3, 0), (7, 0), (8, 0), (2, 1), (4, 0), (5, 1), (6, 1), (9, 4), (10, 0), (11, 1), (12, 0), (13, 0)])]) [.agg #[.slice q l c, .int .i64 wd, .int .u64 s], .int .u64 hh] w K = cortadoref11_Count_m q l c wd s hh w K := by kernel_rfl
theorem cortadoref11_Count_go (q : Option Addr) (l c : Nat) (wd s hh : Int) {w : World} {K : Value → World → Prop} (h : cortadoref11_Count_m q l c wd s hh w K) : Rets Tryz.prog 39 #[.agg #[.slice q l c, .int .i64 wd, .int .u64 s], .int .u64 hh] w K :=
  calls_of_fw plain mixed Tryz.func39 (by kernel_rfl) (by rw [cortadoref11_Count_eq]; exact h)
def cortadoref11_Halve_m (q : Option Addr) (l c : Nat) (wd s : Int) (w : World) (K : Value → World → Prop) : Prop :=
  NewR (33 : Nat) [Value.slice q l c, Value.int IntKind.i64 wd, Value.int IntKind.u64 s] w fun (a1 : Addr) (w1 : World) =>
  NewR (33 : Nat) [Value.slice none (0 : Nat) (0 : Nat), Value.int IntKind.i64 (0 : Int), Value.int IntKind.u64 (0 : Int)]
  w1 fun (a2 : Addr) (w2 : World) =>
  ∃ (n1 : Int),
  cellAt w2 (Addr.add a1 (1 : Nat)) (Value.int IntKind.i64 n1) ∧
  ∃ (n2 : Int),
  cellAt w2 (Addr.add a1 (2 : Nat)) (Value.int IntKind.u64 n2) ∧
  NewR (33 : Nat) [Value.slice none (0 : Nat) (0 : Nat), Value.int IntKind.i64 (0 : Int), Value.int IntKind.u64 (0 : Int)]
  w2 fun (a3 : Addr) (w3 : World) =>
  StoreR a3 [Value.slice none (0 : Nat) (0 : Nat), Value.int IntKind.i64 n1, Value.int IntKind.u64 n2] w3
  fun (w4 : World) =>
  ∃ (h1 : Nat → List Value → World → Prop),
  (∃ (k1 : Nat), h1 k1 [Value.int IntKind.i64 (0 : Int)] w4) ∧
  ∀ (k2 : Nat) (w5 : World) (n3 : Int) (v1 v2 v3 v4 v5 v6 v7 v8 v9 v10 v11 v12 v13 v14 v15 v16 v17 v18 : Value),
  h1 k2 [Value.int IntKind.i64 n3] w5 →
  ∃ (q1 : Option Addr),
  ∃ (k3 : Nat),
  ∃ (k4 : Nat),
  cellAt w5 (Addr.add a1 (0 : Nat)) (Value.slice q1 k3 k4) ∧
  (decide (n3 < (↑k3 : Int)) = true →
  Drw w5 fun (w6 : World) =>
  ∃ (h2 : World → Prop),
  h2 w6 ∧
  ∃ (q2 : Option Addr),
  ∃ (k5 : Nat),
  ∃ (k6 : Nat),
  (∀ (w7 : World), h2 w7 → World.cell? w7 (Addr.add a3 (0 : Nat)) = some (Value.slice q2 k5 k6)) ∧
  ∃ (q3 : Option Addr),
  ∃ (k7 : Nat),
  ∃ (k8 : Nat),
  (∀ (w8 : World), h2 w8 → World.cell? w8 (Addr.add a1 (0 : Nat)) = some (Value.slice q3 k7 k8)) ∧
  (0 : Int) ≤ n3 ∧
  n3 < (↑k7 : Int) ∧
  someR q3 fun (a4 : Addr) =>
  ∃ (q4 : Option Addr),
  ∃ (k9 : Nat),
  ∃ (k10 : Nat),
  (∀ (w9 : World), h2 w9 → World.cell? w9 (Addr.add a4 (Int.toNat n3 * (1 : Nat))) = some (Value.slice q4 k9 k10)) ∧
  Rets Tryz.prog (110 : Nat) { toList := [Value.slice q4 k9 k10] } w6 fun (v19 : Value) (w10 : World) =>
  ∃ (q5 : Option Addr),
  ∃ (k11 : Nat),
  ∃ (k12 : Nat),
  v19 = Value.slice q5 k11 k12 ∧
  h2 w10 ∧
  NewR (22 : Nat) [Value.slice q5 k11 k12] w10 fun (a5 : Addr) (w11 : World) =>
  h2 w11 ∧
  RunR Tryz.prog
  (builtinV Builtin.append { toList := [(31 : Nat), (31 : Nat)] } (nat_lit 31)
  { toList := [Value.slice q2 k5 k6, Value.slice (some a5) (1 : Nat) (1 : Nat)] })
  w11 fun (v20 : Value) (w12 : World) =>
  ∃ (q6 : Option Addr),
  ∃ (k13 : Nat),
  ∃ (k14 : Nat),
  v20 = Value.slice q6 k13 k14 ∧
  StoreR (Addr.add a3 (0 : Nat)) [Value.slice q6 k13 k14] w12 fun (w13 : World) =>
  ∃ (k15 : Nat), k15 < k2 ∧ h1 k15 [Value.int IntKind.i64 (IntKind.wrap IntKind.i64 (n3 + (1 : Int)))] w13) ∧
  (decide (n3 < (↑k3 : Int)) = false →
  ∃ (q7 : Option Addr),
  ∃ (k16 : Nat),
  ∃ (k17 : Nat),
  ∃ (n4 : Int),
  ∃ (n5 : Int),
  (cellAt w5 (Addr.add a3 (0 : Nat)) (Value.slice q7 k16 k17) ∧
  cellAt w5 (Addr.add a3 (1 : Nat)) (Value.int IntKind.i64 n4) ∧
  cellAt w5 (Addr.add a3 (2 : Nat)) (Value.int IntKind.u64 n5)) ∧
  StoreR a2 [Value.slice q7 k16 k17, Value.int IntKind.i64 n4, Value.int IntKind.u64 n5] w5 fun (w14 : World) =>
  ∃ (q8 : Option Addr),
  ∃ (k18 : Nat),
  ∃ (k19 : Nat),
  ∃ (n6 : Int),
  ∃ (n7 : Int),
  (cellAt w14 (Addr.add a2 (0 : Nat)) (Value.slice q8 k18 k19) ∧
  cellAt w14 (Addr.add a2 (1 : Nat)) (Value.int IntKind.i64 n6) ∧
  cellAt w14 (Addr.add a2 (2 : Nat)) (Value.int IntKind.u64 n7)) ∧
  K (Value.agg { toList := [Value.slice q8 k18 k19, Value.int IntKind.i64 n6, Value.int IntKind.u64 n7] }) w14)
theorem cortadoref11_Halve_eq (q : Option Addr) (l c : Nat) (wd s : Int) (w : World) (K : Value → World → Prop) : fw Tryz.prog Tryz.f83 (annL [(1, [(4, some 3), (10, none), (11, none), (12, none), (13, none), (14, none), (15, none), (16, none), (17, none), (18, none), (19, none), (20, none), (21, none), (22, none), (23, none), (24, none), (25, none), (26, none), (27, none)])]) (ordL [(5, [(0, 0), (2, 0), (4, 0), (1, 1), (3, 1), (5, 0), (6, 1), (7, 2), (8, 2), (9, 3), (10, 0), (11, 3)])]) [.agg #[.slice q l c, .int .i64 wd, .int .u64 s]] w K = cortadoref11_Halve_m q l c wd s w K := by kernel_rfl
theorem cortadoref11_Halve_go (q : Option Addr) (l c : Nat) (wd s : Int) {w : World} {K : Value → World → Prop} (h : cortadoref11_Halve_m q l c wd s w K) : Rets Tryz.prog 83 #[.agg #[.slice q l c, .int .i64 wd, .int .u64 s]] w K :=
  calls_of_fw plain mixed Tryz.func83 (by kernel_rfl) (by rw [cortadoref11_Halve_eq]; exact h)
def cortadoref12_New_m (k s : Int) (w : World) (K : Value → World → Prop) : Prop :=
  NewR (36 : Nat) [Value.slice none (0 : Nat) (0 : Nat), Value.int IntKind.u64 (0 : Int)] w
  fun (a1 : Addr) (w1 : World) =>
  Rets Tryz.prog (76 : Nat)
  { toList := [Value.int IntKind.i64 (IntKind.wrap IntKind.i64 ((8 : Int) * maxI (1 : Int) (minI k (4096 : Int))))] } w1
  fun (v1 : Value) (w2 : World) =>
  ∃ (n1 : Int),
  v1 = Value.int IntKind.i64 n1 ∧
  MakeR (4 : Nat) [Value.bool false] (1 : Nat) n1 n1 w2 fun (a2 : Addr) (w3 : World) =>
  StoreR a1 [Value.slice (some a2) (Int.toNat n1) (Int.toNat n1), Value.int IntKind.u64 s] w3 fun (w4 : World) =>
  ∃ (q1 : Option Addr),
  ∃ (k1 : Nat),
  ∃ (k2 : Nat),
  ∃ (n2 : Int),
  (cellAt w4 (Addr.add a1 (0 : Nat)) (Value.slice q1 k1 k2) ∧
  cellAt w4 (Addr.add a1 (1 : Nat)) (Value.int IntKind.u64 n2)) ∧
  K (Value.agg { toList := [Value.slice q1 k1 k2, Value.int IntKind.u64 n2] }) w4
theorem cortadoref12_New_eq (k s : Int) (w : World) (K : Value → World → Prop) : fw Tryz.prog Tryz.f51 (annL []) (ordL []) [.int .i64 k, .int .u64 s] w K = cortadoref12_New_m k s w K := by kernel_rfl
theorem cortadoref12_New_go (k s : Int) {w : World} {K : Value → World → Prop} (h : cortadoref12_New_m k s w K) : Rets Tryz.prog 51 #[.int .i64 k, .int .u64 s] w K :=
  calls_of_fw plain mixed Tryz.func51 (by kernel_rfl) (by rw [cortadoref12_New_eq]; exact h)
def cortadoref12_Places_m (q : Option Addr) (l c : Nat) (s hh : Int) (w : World) (K : Value → World → Prop) : Prop :=
  NewR (36 : Nat) [Value.slice q l c, Value.int IntKind.u64 s] w fun (a1 : Addr) (w1 : World) =>
  ∃ (n1 : Int),
  cellAt w1 (Addr.add a1 (1 : Nat)) (Value.int IntKind.u64 n1) ∧
  Rets Tryz.prog (93 : Nat) { toList := [Value.int IntKind.u64 n1] } w1 fun (v1 : Value) (w2 : World) =>
  ∃ (n2 : Int),
  v1 = Value.int IntKind.u64 n2 ∧
  Rets Tryz.prog (93 : Nat) { toList := [Value.int IntKind.u64 (bits BinOp.xor IntKind.u64 hh n2)] } w2
  fun (v2 : Value) (w3 : World) =>
  ∃ (n3 : Int),
  v2 = Value.int IntKind.u64 n3 ∧
  Rets Tryz.prog (94 : Nat) { toList := [Value.int IntKind.u64 (bits BinOp.xor IntKind.u64 hh n2)] } w3
  fun (v3 : Value) (w4 : World) =>
  ∃ (n4 : Int),
  v3 = Value.int IntKind.u64 n4 ∧
  (2 : Int) ≠ (0 : Int) ∧
  ∃ (h1 : List Value → World → Prop),
  (((Int.tmod n4 (2 : Int) == (0 : Int)) = true →
  h1 [Value.int IntKind.u64 (IntKind.wrap IntKind.u64 (n4 + (1 : Int)))] w4) ∧
  ((Int.tmod n4 (2 : Int) == (0 : Int)) = false → h1 [Value.int IntKind.u64 n4] w4)) ∧
  ∀ (w5 : World) (n5 : Int) (v4 v5 : Value),
  h1 [Value.int IntKind.u64 n5] w5 →
  ∃ (h2 : Nat → List Value → World → Prop),
  (∃ (k1 : Nat), h2 k1 [Value.slice none (0 : Nat) (0 : Nat), Value.int IntKind.i64 (0 : Int)] w5) ∧
  ∀ (k2 : Nat) (w6 : World) (q1 : Option Addr) (k3 k4 : Nat) (n6 : Int)
  (v6 v7 v8 v9 v10 v11 v12 v13 v14 v15 v16 v17 v18 v19 v20 v21 v22 v23 v24 : Value),
  h2 k2 [Value.slice q1 k3 k4, Value.int IntKind.i64 n6] w6 →
  (decide (n6 < (4 : Int)) = true →
  ∃ (q2 : Option Addr),
  ∃ (k5 : Nat),
  ∃ (k6 : Nat),
  cellAt w6 (Addr.add a1 (0 : Nat)) (Value.slice q2 k5 k6) ∧
  IntKind.wrap IntKind.u64 (↑k5 : Int) ≠ (0 : Int) ∧
  NewR (3 : Nat)
  [Value.int IntKind.i64
  (IntKind.wrap IntKind.i64
  (Int.tmod (IntKind.wrap IntKind.u64 (n3 + IntKind.wrap IntKind.u64 (IntKind.wrap IntKind.u64 n6 * n5)))
  (IntKind.wrap IntKind.u64 (↑k5 : Int))))]
  w6 fun (a2 : Addr) (w7 : World) =>
  RunR Tryz.prog
  (builtinV Builtin.append { toList := [(22 : Nat), (22 : Nat)] } (nat_lit 22)
  { toList := [Value.slice q1 k3 k4, Value.slice (some a2) (1 : Nat) (1 : Nat)] })
  w7 fun (v25 : Value) (w8 : World) =>
  ∃ (q3 : Option Addr),
  ∃ (k7 : Nat),
  ∃ (k8 : Nat),
  v25 = Value.slice q3 k7 k8 ∧
  ∃ (k9 : Nat),
  k9 < k2 ∧ h2 k9 [Value.slice q3 k7 k8, Value.int IntKind.i64 (IntKind.wrap IntKind.i64 (n6 + (1 : Int)))] w8) ∧
  (decide (n6 < (4 : Int)) = false → K (Value.slice q1 k3 k4) w6)
theorem cortadoref12_Places_eq (q : Option Addr) (l c : Nat) (s hh : Int) (w : World) (K : Value → World → Prop) : fw Tryz.prog Tryz.f65 (annL [(0, [(7, some 30), (22, none), (23, none)]), (2, [(8, some 22), (9, some 3), (24, none), (25, none), (26, none), (27, none), (28, none), (29, none), (30, none), (31, none), (32, none), (33, none), (34, none), (35, none), (36, none), (37, none), (38, none), (39, none), (40, none), (41, none), (42, none)])]) (ordL []) [.agg #[.slice q l c, .int .u64 s], .int .u64 hh] w K = cortadoref12_Places_m q l c s hh w K := by kernel_rfl
theorem cortadoref12_Places_go (q : Option Addr) (l c : Nat) (s hh : Int) {w : World} {K : Value → World → Prop} (h : cortadoref12_Places_m q l c s hh w K) : Rets Tryz.prog 65 #[.agg #[.slice q l c, .int .u64 s], .int .u64 hh] w K :=
  calls_of_fw plain mixed Tryz.func65 (by kernel_rfl) (by rw [cortadoref12_Places_eq]; exact h)
def cortadoref12_Has_m (q : Option Addr) (l c : Nat) (s hh : Int) (w : World) (K : Value → World → Prop) : Prop :=
  NewR (36 : Nat) [Value.slice q l c, Value.int IntKind.u64 s] w fun (a1 : Addr) (w1 : World) =>
  ∃ (q1 : Option Addr),
  ∃ (k1 : Nat),
  ∃ (k2 : Nat),
  ∃ (n1 : Int),
  (cellAt w1 (Addr.add a1 (0 : Nat)) (Value.slice q1 k1 k2) ∧
  cellAt w1 (Addr.add a1 (1 : Nat)) (Value.int IntKind.u64 n1)) ∧
  Rets Tryz.prog (65 : Nat)
  { toList := [Value.agg { toList := [Value.slice q1 k1 k2, Value.int IntKind.u64 n1] }, Value.int IntKind.u64 hh] } w1
  fun (v1 : Value) (w2 : World) =>
  ∃ (q2 : Option Addr),
  ∃ (k3 : Nat),
  ∃ (k4 : Nat),
  v1 = Value.slice q2 k3 k4 ∧
  ∃ (h1 : Nat → List Value → World → Prop),
  (∃ (k5 : Nat), h1 k5 [Value.int IntKind.i64 (0 : Int)] w2) ∧
  ∀ (k6 : Nat) (w3 : World) (v2 : Value) (n2 : Int) (v3 v4 v5 v6 v7 v8 v9 v10 v11 v12 v13 v14 v15 v16 v17 : Value),
  h1 k6 [Value.int IntKind.i64 n2] w3 →
  (decide (n2 < (↑k3 : Int)) = true →
  Drw w3 fun (w4 : World) =>
  (0 : Int) ≤ n2 ∧
  n2 < (↑k3 : Int) ∧
  someR q2 fun (a2 : Addr) =>
  ∃ (q3 : Option Addr),
  ∃ (k7 : Nat),
  ∃ (k8 : Nat),
  cellAt w4 (Addr.add a1 (0 : Nat)) (Value.slice q3 k7 k8) ∧
  ∃ (n3 : Int),
  cellAt w4 (Addr.add a2 (Int.toNat n2 * (1 : Nat))) (Value.int IntKind.i64 n3) ∧
  (0 : Int) ≤ n3 ∧
  n3 < (↑k7 : Int) ∧
  someR q3 fun (a3 : Addr) =>
  ∃ (b1 : Bool),
  cellAt w4 (Addr.add a3 (Int.toNat n3 * (1 : Nat))) (Value.bool b1) ∧
  ((!b1) = true → K (Value.bool false) w4) ∧
  ((!b1) = false →
  ∃ (k9 : Nat), k9 < k6 ∧ h1 k9 [Value.int IntKind.i64 (IntKind.wrap IntKind.i64 (n2 + (1 : Int)))] w4)) ∧
  (decide (n2 < (↑k3 : Int)) = false → K (Value.bool true) w3)
theorem cortadoref12_Has_eq (q : Option Addr) (l c : Nat) (s hh : Int) (w : World) (K : Value → World → Prop) : fw Tryz.prog Tryz.f40 (annL [(1, [(4, none), (6, some 3), (10, none), (11, none), (12, none), (13, none), (14, none), (15, none), (16, none), (17, none), (18, none), (19, none), (20, none), (21, none), (22, none), (23, none), (24, none)])]) (ordL [(5, [(0, 0), (2, 0), (3, 0), (4, 0), (1, 1), (5, 1), (6, 0), (7, 1), (8, 0)])]) [.agg #[.slice q l c, .int .u64 s], .int .u64 hh] w K = cortadoref12_Has_m q l c s hh w K := by kernel_rfl
theorem cortadoref12_Has_go (q : Option Addr) (l c : Nat) (s hh : Int) {w : World} {K : Value → World → Prop} (h : cortadoref12_Has_m q l c s hh w K) : Rets Tryz.prog 40 #[.agg #[.slice q l c, .int .u64 s], .int .u64 hh] w K :=
  calls_of_fw plain mixed Tryz.func40 (by kernel_rfl) (by rw [cortadoref12_Has_eq]; exact h)
def cortadoref12_Put_m (q : Option Addr) (l c : Nat) (s hh : Int) (w : World) (K : Value → World → Prop) : Prop :=
  NewR (36 : Nat) [Value.slice q l c, Value.int IntKind.u64 s] w fun (a1 : Addr) (w1 : World) =>
  NewR (36 : Nat) [Value.slice none (0 : Nat) (0 : Nat), Value.int IntKind.u64 (0 : Int)] w1
  fun (a2 : Addr) (w2 : World) =>
  ∃ (q1 : Option Addr),
  ∃ (k1 : Nat),
  ∃ (k2 : Nat),
  ∃ (n1 : Int),
  (cellAt w2 (Addr.add a1 (0 : Nat)) (Value.slice q1 k1 k2) ∧
  cellAt w2 (Addr.add a1 (1 : Nat)) (Value.int IntKind.u64 n1)) ∧
  Rets Tryz.prog (40 : Nat)
  { toList := [Value.agg { toList := [Value.slice q1 k1 k2, Value.int IntKind.u64 n1] }, Value.int IntKind.u64 hh] } w2
  fun (v1 : Value) (w3 : World) =>
  ∃ (b1 : Bool),
  v1 = Value.bool b1 ∧
  (b1 = true →
  ∃ (q2 : Option Addr),
  ∃ (k3 : Nat),
  ∃ (k4 : Nat),
  ∃ (n2 : Int),
  (cellAt w3 (Addr.add a1 (0 : Nat)) (Value.slice q2 k3 k4) ∧
  cellAt w3 (Addr.add a1 (1 : Nat)) (Value.int IntKind.u64 n2)) ∧
  StoreR a2 [Value.slice q2 k3 k4, Value.int IntKind.u64 n2] w3 fun (w4 : World) =>
  ∃ (q3 : Option Addr),
  ∃ (k5 : Nat),
  ∃ (k6 : Nat),
  ∃ (n3 : Int),
  (cellAt w4 (Addr.add a2 (0 : Nat)) (Value.slice q3 k5 k6) ∧
  cellAt w4 (Addr.add a2 (1 : Nat)) (Value.int IntKind.u64 n3)) ∧
  K
  (Value.tuple { toList := [Value.agg { toList := [Value.slice q3 k5 k6, Value.int IntKind.u64 n3] }, Value.bool false] })
  w4) ∧
  (b1 = false →
  ∃ (h1 : List Value → World → Prop),
  (Drw w3 fun (w5 : World) =>
  ∃ (h2 : World → Prop),
  h2 w5 ∧
  ∃ (q4 : Option Addr),
  ∃ (k7 : Nat),
  ∃ (k8 : Nat),
  (∀ (w6 : World), h2 w6 → World.cell? w6 (Addr.add a1 (0 : Nat)) = some (Value.slice q4 k7 k8)) ∧
  ∃ (n4 : Int),
  (∀ (w7 : World), h2 w7 → World.cell? w7 (Addr.add a1 (1 : Nat)) = some (Value.int IntKind.u64 n4)) ∧
  (NewR (4 : Nat) [] w5 fun (a3 : Addr) (w8 : World) =>
  h2 w8 ∧
  (RunR Tryz.prog
  (builtinV Builtin.append { toList := [(34 : Nat), (34 : Nat)] } (nat_lit 34)
  { toList := [Value.slice (some a3) (0 : Nat) (0 : Nat), Value.slice q4 k7 k8] })
  w8 fun (v2 : Value) (w9 : World) =>
  ∃ (q5 : Option Addr),
  ∃ (k9 : Nat),
  ∃ (k10 : Nat),
  v2 = Value.slice q5 k9 k10 ∧
  h2 w9 ∧
  NewR (36 : Nat) [Value.slice none (0 : Nat) (0 : Nat), Value.int IntKind.u64 (0 : Int)] w9
  fun (a4 : Addr) (w10 : World) =>
  h2 w10 ∧
  StoreR a4 [Value.slice q5 k9 k10, Value.int IntKind.u64 n4] w10 fun (w11 : World) => h1 [Value.pointer (some a4)] w11) ∧
  NewR (36 : Nat) [Value.slice none (0 : Nat) (0 : Nat), Value.int IntKind.u64 (0 : Int)] w8
  fun (a5 : Addr) (w12 : World) =>
  h2 w12 ∧
  RunR Tryz.prog
  (builtinV Builtin.append { toList := [(34 : Nat), (34 : Nat)] } (nat_lit 34)
  { toList := [Value.slice (some a3) (0 : Nat) (0 : Nat), Value.slice q4 k7 k8] })
  w12 fun (v3 : Value) (w13 : World) =>
  ∃ (q6 : Option Addr),
  ∃ (k11 : Nat),
  ∃ (k12 : Nat),
  v3 = Value.slice q6 k11 k12 ∧
  h2 w13 ∧
  StoreR a5 [Value.slice q6 k11 k12, Value.int IntKind.u64 n4] w13 fun (w14 : World) =>
  h1 [Value.pointer (some a5)] w14) ∧
  NewR (36 : Nat) [Value.slice none (0 : Nat) (0 : Nat), Value.int IntKind.u64 (0 : Int)] w5
  fun (a6 : Addr) (w15 : World) =>
  h2 w15 ∧
  NewR (4 : Nat) [] w15 fun (a7 : Addr) (w16 : World) =>
  h2 w16 ∧
  RunR Tryz.prog
  (builtinV Builtin.append { toList := [(34 : Nat), (34 : Nat)] } (nat_lit 34)
  { toList := [Value.slice (some a7) (0 : Nat) (0 : Nat), Value.slice q4 k7 k8] })
  w16 fun (v4 : Value) (w17 : World) =>
  ∃ (q7 : Option Addr),
  ∃ (k13 : Nat),
  ∃ (k14 : Nat),
  v4 = Value.slice q7 k13 k14 ∧
  h2 w17 ∧
  StoreR a6 [Value.slice q7 k13 k14, Value.int IntKind.u64 n4] w17 fun (w18 : World) =>
  h1 [Value.pointer (some a6)] w18) ∧
  ∀ (w19 : World) (q8 : Option Addr) (v5 v6 v7 v8 v9 v10 v11 : Value),
  h1 [Value.pointer q8] w19 →
  ∃ (q9 : Option Addr),
  ∃ (k15 : Nat),
  ∃ (k16 : Nat),
  ∃ (n5 : Int),
  (cellAt w19 (Addr.add a1 (0 : Nat)) (Value.slice q9 k15 k16) ∧
  cellAt w19 (Addr.add a1 (1 : Nat)) (Value.int IntKind.u64 n5)) ∧
  Rets Tryz.prog (65 : Nat)
  { toList := [Value.agg { toList := [Value.slice q9 k15 k16, Value.int IntKind.u64 n5] }, Value.int IntKind.u64 hh] } w19
  fun (v12 : Value) (w20 : World) =>
  ∃ (q10 : Option Addr),
  ∃ (k17 : Nat),
  ∃ (k18 : Nat),
  v12 = Value.slice q10 k17 k18 ∧
  ∃ (h3 : Nat → List Value → World → Prop),
  (∃ (k19 : Nat), h3 k19 [Value.int IntKind.i64 (0 : Int)] w20) ∧
  ∀ (k20 : Nat) (w21 : World) (n6 : Int) (v13 v14 v15 v16 v17 v18 v19 v20 v21 v22 v23 v24 v25 : Value),
  h3 k20 [Value.int IntKind.i64 n6] w21 →
  (decide (n6 < (↑k17 : Int)) = true →
  Drw w21 fun (w22 : World) =>
  someR q8 fun (a8 : Addr) =>
  (0 : Int) ≤ n6 ∧
  n6 < (↑k17 : Int) ∧
  someR q10 fun (a9 : Addr) =>
  ∃ (q11 : Option Addr),
  ∃ (k21 : Nat),
  ∃ (k22 : Nat),
  cellAt w22 (Addr.add a8 (0 : Nat)) (Value.slice q11 k21 k22) ∧
  ∃ (n7 : Int),
  cellAt w22 (Addr.add a9 (Int.toNat n6 * (1 : Nat))) (Value.int IntKind.i64 n7) ∧
  (0 : Int) ≤ n7 ∧
  n7 < (↑k21 : Int) ∧
  someR q11 fun (a10 : Addr) =>
  StoreR (Addr.add a10 (Int.toNat n7 * (1 : Nat))) [Value.bool true] w22 fun (w23 : World) =>
  ∃ (k23 : Nat), k23 < k20 ∧ h3 k23 [Value.int IntKind.i64 (IntKind.wrap IntKind.i64 (n6 + (1 : Int)))] w23) ∧
  (decide (n6 < (↑k17 : Int)) = false →
  someR q8 fun (a11 : Addr) =>
  ∃ (q12 : Option Addr),
  ∃ (k24 : Nat),
  ∃ (k25 : Nat),
  ∃ (n8 : Int),
  (cellAt w21 (Addr.add a11 (0 : Nat)) (Value.slice q12 k24 k25) ∧
  cellAt w21 (Addr.add a11 (1 : Nat)) (Value.int IntKind.u64 n8)) ∧
  StoreR a2 [Value.slice q12 k24 k25, Value.int IntKind.u64 n8] w21 fun (w24 : World) =>
  ∃ (q13 : Option Addr),
  ∃ (k26 : Nat),
  ∃ (k27 : Nat),
  ∃ (n9 : Int),
  (cellAt w24 (Addr.add a2 (0 : Nat)) (Value.slice q13 k26 k27) ∧
  cellAt w24 (Addr.add a2 (1 : Nat)) (Value.int IntKind.u64 n9)) ∧
  K
  (Value.tuple
  { toList := [Value.agg { toList := [Value.slice q13 k26 k27, Value.int IntKind.u64 n9] }, Value.bool true] })
  w24))
theorem cortadoref12_Put_eq (q : Option Addr) (l c : Nat) (s hh : Int) (w : World) (K : Value → World → Prop) : fw Tryz.prog Tryz.f81 (annL [(2, [(8, some 3), (23, none), (24, none), (25, none), (26, none), (27, none), (28, none), (29, none), (30, none), (31, none), (32, none), (33, none), (34, none), (35, none)])]) (ordL [(2000003, [(6, 16), (13, 0), (14, 0), (15, 0), (16, 0), (17, 0), (18, 0), (19, 0)]), (3, [(1, 0), (4, 0), (2, 1), (5, 1), (0, 6), (0, 2), (0, 6), (3, 2), (6, 0), (7, 2), (8, 3), (0, 7), (7, 2), (3, 2), (6, 0), (8, 3), (0, 7), (7, 2), (0, 2), (3, 2), (6, 0), (8, 3), (0, 7)]), (8, [(0, 0), (2, 0), (3, 0), (4, 0), (1, 1), (5, 1), (6, 0), (7, 3)])]) [.agg #[.slice q l c, .int .u64 s], .int .u64 hh] w K = cortadoref12_Put_m q l c s hh w K := by kernel_rfl
theorem cortadoref12_Put_go (q : Option Addr) (l c : Nat) (s hh : Int) {w : World} {K : Value → World → Prop} (h : cortadoref12_Put_m q l c s hh w K) : Rets Tryz.prog 81 #[.agg #[.slice q l c, .int .u64 s], .int .u64 hh] w K :=
  calls_of_fw plain mixed Tryz.func81 (by kernel_rfl) (by rw [cortadoref12_Put_eq]; exact h)
def cortadoref13_New_m (n s : Int) (w : World) (K : Value → World → Prop) : Prop :=
  NewR (38 : Nat)
  [Value.slice none (0 : Nat) (0 : Nat), Value.int IntKind.i64 (0 : Int), Value.int IntKind.u64 (0 : Int),
  Value.slice none (0 : Nat) (0 : Nat), Value.int IntKind.u64 (0 : Int), Value.int IntKind.i64 (0 : Int),
  Value.int IntKind.i64 (0 : Int), Value.int IntKind.i64 (0 : Int), Value.int IntKind.i64 (0 : Int),
  Value.int IntKind.u64 (0 : Int)]
  w fun (a1 : Addr) (w1 : World) =>
  Rets Tryz.prog (50 : Nat)
  { toList := [Value.int IntKind.i64 (maxI (1 : Int) (minI n (4096 : Int))), Value.int IntKind.u64 s] } w1
  fun (v1 : Value) (w2 : World) =>
  ∃ (q1 : Option Addr),
  ∃ (k1 : Nat),
  ∃ (k2 : Nat),
  ∃ (n1 : Int),
  ∃ (n2 : Int),
  v1 = Value.agg { toList := [Value.slice q1 k1 k2, Value.int IntKind.i64 n1, Value.int IntKind.u64 n2] } ∧
  Rets Tryz.prog (51 : Nat)
  { toList := [Value.int IntKind.i64 (maxI (1 : Int) (minI n (4096 : Int))), Value.int IntKind.u64 s] } w2
  fun (v2 : Value) (w3 : World) =>
  ∃ (q2 : Option Addr),
  ∃ (k3 : Nat),
  ∃ (k4 : Nat),
  ∃ (n3 : Int),
  v2 = Value.agg { toList := [Value.slice q2 k3 k4, Value.int IntKind.u64 n3] } ∧
  StoreR a1
  [Value.slice q1 k1 k2, Value.int IntKind.i64 n1, Value.int IntKind.u64 n2, Value.slice q2 k3 k4,
  Value.int IntKind.u64 n3, Value.int IntKind.i64 (0 : Int), Value.int IntKind.i64 (maxI (1 : Int) (minI n (4096 : Int))),
  Value.int IntKind.i64 (0 : Int), Value.int IntKind.i64 (0 : Int), Value.int IntKind.u64 s]
  w3 fun (w4 : World) =>
  ∃ (q3 : Option Addr),
  ∃ (k5 : Nat),
  ∃ (k6 : Nat),
  ∃ (n4 : Int),
  ∃ (n5 : Int),
  ∃ (q4 : Option Addr),
  ∃ (k7 : Nat),
  ∃ (k8 : Nat),
  ∃ (n6 : Int),
  ∃ (n7 : Int),
  ∃ (n8 : Int),
  ∃ (n9 : Int),
  ∃ (n10 : Int),
  ∃ (n11 : Int),
  (cellAt w4 (Addr.add a1 (0 : Nat)) (Value.slice q3 k5 k6) ∧
  cellAt w4 (Addr.add a1 (1 : Nat)) (Value.int IntKind.i64 n4) ∧
  cellAt w4 (Addr.add a1 (2 : Nat)) (Value.int IntKind.u64 n5) ∧
  cellAt w4 (Addr.add a1 (3 : Nat)) (Value.slice q4 k7 k8) ∧
  cellAt w4 (Addr.add a1 (4 : Nat)) (Value.int IntKind.u64 n6) ∧
  cellAt w4 (Addr.add a1 (5 : Nat)) (Value.int IntKind.i64 n7) ∧
  cellAt w4 (Addr.add a1 (6 : Nat)) (Value.int IntKind.i64 n8) ∧
  cellAt w4 (Addr.add a1 (7 : Nat)) (Value.int IntKind.i64 n9) ∧
  cellAt w4 (Addr.add a1 (8 : Nat)) (Value.int IntKind.i64 n10) ∧
  cellAt w4 (Addr.add a1 (9 : Nat)) (Value.int IntKind.u64 n11)) ∧
  K
  (Value.agg
  {
  toList :=
  [Value.slice q3 k5 k6, Value.int IntKind.i64 n4, Value.int IntKind.u64 n5, Value.slice q4 k7 k8,
  Value.int IntKind.u64 n6, Value.int IntKind.i64 n7, Value.int IntKind.i64 n8, Value.int IntKind.i64 n9,
  Value.int IntKind.i64 n10, Value.int IntKind.u64 n11] })
  w4
theorem cortadoref13_New_eq (n s : Int) (w : World) (K : Value → World → Prop) : fw Tryz.prog Tryz.f23 (annL []) (ordL []) [.int .i64 n, .int .u64 s] w K = cortadoref13_New_m n s w K := by kernel_rfl
theorem cortadoref13_New_go (n s : Int) {w : World} {K : Value → World → Prop} (h : cortadoref13_New_m n s w K) : Rets Tryz.prog 23 #[.int .i64 n, .int .u64 s] w K :=
  calls_of_fw plain mixed Tryz.func23 (by kernel_rfl) (by rw [cortadoref13_New_eq]; exact h)
def cortadoref13_Add_m (q : Option Addr) (l c : Nat) (wd s : Int) (q2 : Option Addr) (l2 c2 : Nat) (s2 ct lim ag ky s3 hh : Int) (w : World) (K : Value → World → Prop) : Prop :=
  NewR (38 : Nat)
  [Value.slice q l c, Value.int IntKind.i64 wd, Value.int IntKind.u64 s, Value.slice q2 l2 c2, Value.int IntKind.u64 s2,
  Value.int IntKind.i64 ct, Value.int IntKind.i64 lim, Value.int IntKind.i64 ag, Value.int IntKind.i64 ky,
  Value.int IntKind.u64 s3]
  w fun (a1 : Addr) (w1 : World) =>
  NewR (38 : Nat)
  [Value.slice none (0 : Nat) (0 : Nat), Value.int IntKind.i64 (0 : Int), Value.int IntKind.u64 (0 : Int),
  Value.slice none (0 : Nat) (0 : Nat), Value.int IntKind.u64 (0 : Int), Value.int IntKind.i64 (0 : Int),
  Value.int IntKind.i64 (0 : Int), Value.int IntKind.i64 (0 : Int), Value.int IntKind.i64 (0 : Int),
  Value.int IntKind.u64 (0 : Int)]
  w1 fun (a2 : Addr) (w2 : World) =>
  ∃ (q1 : Option Addr),
  ∃ (k1 : Nat),
  ∃ (k2 : Nat),
  ∃ (n1 : Int),
  (cellAt w2 (Addr.add (Addr.add a1 (3 : Nat)) (0 : Nat)) (Value.slice q1 k1 k2) ∧
  cellAt w2 (Addr.add (Addr.add a1 (3 : Nat)) (1 : Nat)) (Value.int IntKind.u64 n1)) ∧
  Rets Tryz.prog (81 : Nat)
  { toList := [Value.agg { toList := [Value.slice q1 k1 k2, Value.int IntKind.u64 n1] }, Value.int IntKind.u64 hh] } w2
  fun (v1 : Value) (w3 : World) =>
  ∃ (q2 : Option Addr),
  ∃ (k3 : Nat),
  ∃ (k4 : Nat),
  ∃ (n2 : Int),
  ∃ (b1 : Bool),
  v1 =
  Value.tuple { toList := [Value.agg { toList := [Value.slice q2 k3 k4, Value.int IntKind.u64 n2] }, Value.bool b1] } ∧
  NewR (36 : Nat) [Value.slice none (0 : Nat) (0 : Nat), Value.int IntKind.u64 (0 : Int)] w3
  fun (a3 : Addr) (w4 : World) =>
  StoreR a3 [Value.slice q2 k3 k4, Value.int IntKind.u64 n2] w4 fun (w5 : World) =>
  ∃ (q3 : Option Addr),
  ∃ (k5 : Nat),
  ∃ (k6 : Nat),
  ∃ (n3 : Int),
  (cellAt w5 (Addr.add a3 (0 : Nat)) (Value.slice q3 k5 k6) ∧
  cellAt w5 (Addr.add a3 (1 : Nat)) (Value.int IntKind.u64 n3)) ∧
  StoreR (Addr.add a1 (3 : Nat)) [Value.slice q3 k5 k6, Value.int IntKind.u64 n3] w5 fun (w6 : World) =>
  ∃ (h1 : List Value → World → Prop),
  (((!b1) = true →
  ∃ (q4 : Option Addr),
  ∃ (k7 : Nat),
  ∃ (k8 : Nat),
  ∃ (n4 : Int),
  ∃ (n5 : Int),
  (cellAt w6 (Addr.add (Addr.add a1 (0 : Nat)) (0 : Nat)) (Value.slice q4 k7 k8) ∧
  cellAt w6 (Addr.add (Addr.add a1 (0 : Nat)) (1 : Nat)) (Value.int IntKind.i64 n4) ∧
  cellAt w6 (Addr.add (Addr.add a1 (0 : Nat)) (2 : Nat)) (Value.int IntKind.u64 n5)) ∧
  Rets Tryz.prog (82 : Nat)
  {
  toList :=
  [Value.agg { toList := [Value.slice q4 k7 k8, Value.int IntKind.i64 n4, Value.int IntKind.u64 n5] },
  Value.int IntKind.u64 hh] }
  w6 fun (v2 : Value) (w7 : World) =>
  ∃ (q5 : Option Addr),
  ∃ (k9 : Nat),
  ∃ (k10 : Nat),
  ∃ (n6 : Int),
  ∃ (n7 : Int),
  v2 = Value.agg { toList := [Value.slice q5 k9 k10, Value.int IntKind.i64 n6, Value.int IntKind.u64 n7] } ∧
  StoreR (Addr.add a1 (0 : Nat)) [Value.slice q5 k9 k10, Value.int IntKind.i64 n6, Value.int IntKind.u64 n7] w7
  fun (w8 : World) => h1 [] w8) ∧
  ((!b1) = false → h1 [] w6)) ∧
  ∀ (w9 : World) (v3 v4 v5 v6 v7 : Value),
  h1 [] w9 →
  ∃ (n8 : Int),
  cellAt w9 (Addr.add a1 (5 : Nat)) (Value.int IntKind.i64 n8) ∧
  StoreR (Addr.add a1 (5 : Nat)) [Value.int IntKind.i64 (IntKind.wrap IntKind.i64 (n8 + (1 : Int)))] w9
  fun (w10 : World) =>
  ∃ (n9 : Int),
  cellAt w10 (Addr.add a1 (5 : Nat)) (Value.int IntKind.i64 n9) ∧
  ∃ (n10 : Int),
  cellAt w10 (Addr.add a1 (6 : Nat)) (Value.int IntKind.i64 n10) ∧
  ∃ (h2 : List Value → World → Prop),
  ((decide (n9 ≥ n10) = true →
  ∃ (q6 : Option Addr),
  ∃ (k11 : Nat),
  ∃ (k12 : Nat),
  ∃ (n11 : Int),
  ∃ (n12 : Int),
  (cellAt w10 (Addr.add (Addr.add a1 (0 : Nat)) (0 : Nat)) (Value.slice q6 k11 k12) ∧
  cellAt w10 (Addr.add (Addr.add a1 (0 : Nat)) (1 : Nat)) (Value.int IntKind.i64 n11) ∧
  cellAt w10 (Addr.add (Addr.add a1 (0 : Nat)) (2 : Nat)) (Value.int IntKind.u64 n12)) ∧
  Rets Tryz.prog (83 : Nat)
  { toList := [Value.agg { toList := [Value.slice q6 k11 k12, Value.int IntKind.i64 n11, Value.int IntKind.u64 n12] }] }
  w10 fun (v8 : Value) (w11 : World) =>
  ∃ (q7 : Option Addr),
  ∃ (k13 : Nat),
  ∃ (k14 : Nat),
  ∃ (n13 : Int),
  ∃ (n14 : Int),
  v8 = Value.agg { toList := [Value.slice q7 k13 k14, Value.int IntKind.i64 n13, Value.int IntKind.u64 n14] } ∧
  StoreR (Addr.add a1 (0 : Nat)) [Value.slice q7 k13 k14, Value.int IntKind.i64 n13, Value.int IntKind.u64 n14] w11
  fun (w12 : World) =>
  ∃ (n15 : Int),
  cellAt w12 (Addr.add a1 (6 : Nat)) (Value.int IntKind.i64 n15) ∧
  ∃ (n16 : Int),
  cellAt w12 (Addr.add a1 (9 : Nat)) (Value.int IntKind.u64 n16) ∧
  Rets Tryz.prog (51 : Nat) { toList := [Value.int IntKind.i64 n15, Value.int IntKind.u64 n16] } w12
  fun (v9 : Value) (w13 : World) =>
  ∃ (q8 : Option Addr),
  ∃ (k15 : Nat),
  ∃ (k16 : Nat),
  ∃ (n17 : Int),
  v9 = Value.agg { toList := [Value.slice q8 k15 k16, Value.int IntKind.u64 n17] } ∧
  StoreR (Addr.add a1 (3 : Nat)) [Value.slice q8 k15 k16, Value.int IntKind.u64 n17] w13 fun (w14 : World) =>
  StoreR (Addr.add a1 (5 : Nat)) [Value.int IntKind.i64 (0 : Int)] w14 fun (w15 : World) =>
  ∃ (n18 : Int),
  cellAt w15 (Addr.add a1 (7 : Nat)) (Value.int IntKind.i64 n18) ∧
  StoreR (Addr.add a1 (7 : Nat)) [Value.int IntKind.i64 (IntKind.wrap IntKind.i64 (n18 + (1 : Int)))] w15
  fun (w16 : World) => h2 [] w16) ∧
  (decide (n9 ≥ n10) = false → h2 [] w10)) ∧
  ∀ (w17 : World) (v10 v11 v12 v13 v14 v15 v16 v17 v18 v19 v20 v21 v22 v23 v24 : Value),
  h2 [] w17 →
  ∃ (q9 : Option Addr),
  ∃ (k17 : Nat),
  ∃ (k18 : Nat),
  ∃ (n19 : Int),
  ∃ (n20 : Int),
  ∃ (q10 : Option Addr),
  ∃ (k19 : Nat),
  ∃ (k20 : Nat),
  ∃ (n21 : Int),
  ∃ (n22 : Int),
  ∃ (n23 : Int),
  ∃ (n24 : Int),
  ∃ (n25 : Int),
  ∃ (n26 : Int),
  (cellAt w17 (Addr.add a1 (0 : Nat)) (Value.slice q9 k17 k18) ∧
  cellAt w17 (Addr.add a1 (1 : Nat)) (Value.int IntKind.i64 n19) ∧
  cellAt w17 (Addr.add a1 (2 : Nat)) (Value.int IntKind.u64 n20) ∧
  cellAt w17 (Addr.add a1 (3 : Nat)) (Value.slice q10 k19 k20) ∧
  cellAt w17 (Addr.add a1 (4 : Nat)) (Value.int IntKind.u64 n21) ∧
  cellAt w17 (Addr.add a1 (5 : Nat)) (Value.int IntKind.i64 n22) ∧
  cellAt w17 (Addr.add a1 (6 : Nat)) (Value.int IntKind.i64 n23) ∧
  cellAt w17 (Addr.add a1 (7 : Nat)) (Value.int IntKind.i64 n24) ∧
  cellAt w17 (Addr.add a1 (8 : Nat)) (Value.int IntKind.i64 n25) ∧
  cellAt w17 (Addr.add a1 (9 : Nat)) (Value.int IntKind.u64 n26)) ∧
  StoreR a2
  [Value.slice q9 k17 k18, Value.int IntKind.i64 n19, Value.int IntKind.u64 n20, Value.slice q10 k19 k20,
  Value.int IntKind.u64 n21, Value.int IntKind.i64 n22, Value.int IntKind.i64 n23, Value.int IntKind.i64 n24,
  Value.int IntKind.i64 n25, Value.int IntKind.u64 n26]
  w17 fun (w18 : World) =>
  ∃ (q11 : Option Addr),
  ∃ (k21 : Nat),
  ∃ (k22 : Nat),
  ∃ (n27 : Int),
  ∃ (n28 : Int),
  ∃ (q12 : Option Addr),
  ∃ (k23 : Nat),
  ∃ (k24 : Nat),
  ∃ (n29 : Int),
  ∃ (n30 : Int),
  ∃ (n31 : Int),
  ∃ (n32 : Int),
  ∃ (n33 : Int),
  ∃ (n34 : Int),
  (cellAt w18 (Addr.add a2 (0 : Nat)) (Value.slice q11 k21 k22) ∧
  cellAt w18 (Addr.add a2 (1 : Nat)) (Value.int IntKind.i64 n27) ∧
  cellAt w18 (Addr.add a2 (2 : Nat)) (Value.int IntKind.u64 n28) ∧
  cellAt w18 (Addr.add a2 (3 : Nat)) (Value.slice q12 k23 k24) ∧
  cellAt w18 (Addr.add a2 (4 : Nat)) (Value.int IntKind.u64 n29) ∧
  cellAt w18 (Addr.add a2 (5 : Nat)) (Value.int IntKind.i64 n30) ∧
  cellAt w18 (Addr.add a2 (6 : Nat)) (Value.int IntKind.i64 n31) ∧
  cellAt w18 (Addr.add a2 (7 : Nat)) (Value.int IntKind.i64 n32) ∧
  cellAt w18 (Addr.add a2 (8 : Nat)) (Value.int IntKind.i64 n33) ∧
  cellAt w18 (Addr.add a2 (9 : Nat)) (Value.int IntKind.u64 n34)) ∧
  K
  (Value.agg
  {
  toList :=
  [Value.slice q11 k21 k22, Value.int IntKind.i64 n27, Value.int IntKind.u64 n28, Value.slice q12 k23 k24,
  Value.int IntKind.u64 n29, Value.int IntKind.i64 n30, Value.int IntKind.i64 n31, Value.int IntKind.i64 n32,
  Value.int IntKind.i64 n33, Value.int IntKind.u64 n34] })
  w18
theorem cortadoref13_Add_eq (q : Option Addr) (l c : Nat) (wd s : Int) (q2 : Option Addr) (l2 c2 : Nat) (s2 ct lim ag ky s3 hh : Int) (w : World) (K : Value → World → Prop) : fw Tryz.prog Tryz.f57 (annL [(0, [(18, none), (19, none), (20, none), (21, none), (22, none)]), (1, [(32, none), (33, none), (34, none), (35, none), (36, none), (37, none), (38, none), (39, none), (40, none), (41, none), (42, none), (43, none), (44, none), (45, none), (46, none)])]) (ordL []) [.agg #[.slice q l c, .int .i64 wd, .int .u64 s, .slice q2 l2 c2, .int .u64 s2, .int .i64 ct, .int .i64 lim, .int .i64 ag, .int .i64 ky, .int .u64 s3], .int .u64 hh] w K = cortadoref13_Add_m q l c wd s q2 l2 c2 s2 ct lim ag ky s3 hh w K := by kernel_rfl
theorem cortadoref13_Add_go (q : Option Addr) (l c : Nat) (wd s : Int) (q2 : Option Addr) (l2 c2 : Nat) (s2 ct lim ag ky s3 hh : Int) {w : World} {K : Value → World → Prop} (h : cortadoref13_Add_m q l c wd s q2 l2 c2 s2 ct lim ag ky s3 hh w K) : Rets Tryz.prog 57 #[.agg #[.slice q l c, .int .i64 wd, .int .u64 s, .slice q2 l2 c2, .int .u64 s2, .int .i64 ct, .int .i64 lim, .int .i64 ag, .int .i64 ky, .int .u64 s3], .int .u64 hh] w K :=
  calls_of_fw plain mixed Tryz.func57 (by kernel_rfl) (by rw [cortadoref13_Add_eq]; exact h)
def cortadoref13_Push_m (q : Option Addr) (l c : Nat) (wd s : Int) (q2 : Option Addr) (l2 c2 : Nat) (s2 ct lim ag ky s3 : Int) (q3 : Option Addr) (l3 c3 : Nat) (w : World) (K : Value → World → Prop) : Prop :=
  NewR (38 : Nat)
  [Value.slice q l c, Value.int IntKind.i64 wd, Value.int IntKind.u64 s, Value.slice q2 l2 c2, Value.int IntKind.u64 s2,
  Value.int IntKind.i64 ct, Value.int IntKind.i64 lim, Value.int IntKind.i64 ag, Value.int IntKind.i64 ky,
  Value.int IntKind.u64 s3]
  w fun (a1 : Addr) (w1 : World) =>
  NewR (38 : Nat)
  [Value.slice none (0 : Nat) (0 : Nat), Value.int IntKind.i64 (0 : Int), Value.int IntKind.u64 (0 : Int),
  Value.slice none (0 : Nat) (0 : Nat), Value.int IntKind.u64 (0 : Int), Value.int IntKind.i64 (0 : Int),
  Value.int IntKind.i64 (0 : Int), Value.int IntKind.i64 (0 : Int), Value.int IntKind.i64 (0 : Int),
  Value.int IntKind.u64 (0 : Int)]
  w1 fun (a2 : Addr) (w2 : World) =>
  ∃ (h1 : Nat → List Value → World → Prop),
  (∃ (k1 : Nat), h1 k1 [Value.int IntKind.i64 (0 : Int)] w2) ∧
  ∀ (k2 : Nat) (w3 : World) (n1 : Int) (v1 v2 v3 v4 v5 v6 v7 v8 v9 v10 v11 v12 : Value),
  h1 k2 [Value.int IntKind.i64 n1] w3 →
  (decide (n1 < (↑l3 : Int)) = true →
  Drw w3 fun (w4 : World) =>
  (0 : Int) ≤ n1 ∧
  n1 < (↑l3 : Int) ∧
  someR q3 fun (a3 : Addr) =>
  ∃ (q1 : Option Addr),
  ∃ (k3 : Nat),
  ∃ (k4 : Nat),
  ∃ (n2 : Int),
  ∃ (n3 : Int),
  ∃ (q2 : Option Addr),
  ∃ (k5 : Nat),
  ∃ (k6 : Nat),
  ∃ (n4 : Int),
  ∃ (n5 : Int),
  ∃ (n6 : Int),
  ∃ (n7 : Int),
  ∃ (n8 : Int),
  ∃ (n9 : Int),
  (cellAt w4 (Addr.add a1 (0 : Nat)) (Value.slice q1 k3 k4) ∧
  cellAt w4 (Addr.add a1 (1 : Nat)) (Value.int IntKind.i64 n2) ∧
  cellAt w4 (Addr.add a1 (2 : Nat)) (Value.int IntKind.u64 n3) ∧
  cellAt w4 (Addr.add a1 (3 : Nat)) (Value.slice q2 k5 k6) ∧
  cellAt w4 (Addr.add a1 (4 : Nat)) (Value.int IntKind.u64 n4) ∧
  cellAt w4 (Addr.add a1 (5 : Nat)) (Value.int IntKind.i64 n5) ∧
  cellAt w4 (Addr.add a1 (6 : Nat)) (Value.int IntKind.i64 n6) ∧
  cellAt w4 (Addr.add a1 (7 : Nat)) (Value.int IntKind.i64 n7) ∧
  cellAt w4 (Addr.add a1 (8 : Nat)) (Value.int IntKind.i64 n8) ∧
  cellAt w4 (Addr.add a1 (9 : Nat)) (Value.int IntKind.u64 n9)) ∧
  ∃ (n10 : Int),
  cellAt w4 (Addr.add a3 (Int.toNat n1 * (1 : Nat))) (Value.int IntKind.u64 n10) ∧
  Rets Tryz.prog (57 : Nat)
  {
  toList :=
  [Value.agg
  {
  toList :=
  [Value.slice q1 k3 k4, Value.int IntKind.i64 n2, Value.int IntKind.u64 n3, Value.slice q2 k5 k6,
  Value.int IntKind.u64 n4, Value.int IntKind.i64 n5, Value.int IntKind.i64 n6, Value.int IntKind.i64 n7,
  Value.int IntKind.i64 n8, Value.int IntKind.u64 n9] },
  Value.int IntKind.u64 n10] }
  w4 fun (v13 : Value) (w5 : World) =>
  ∃ (q3 : Option Addr),
  ∃ (k7 : Nat),
  ∃ (k8 : Nat),
  ∃ (n11 : Int),
  ∃ (n12 : Int),
  ∃ (q4 : Option Addr),
  ∃ (k9 : Nat),
  ∃ (k10 : Nat),
  ∃ (n13 : Int),
  ∃ (n14 : Int),
  ∃ (n15 : Int),
  ∃ (n16 : Int),
  ∃ (n17 : Int),
  ∃ (n18 : Int),
  v13 =
  Value.agg
  {
  toList :=
  [Value.slice q3 k7 k8, Value.int IntKind.i64 n11, Value.int IntKind.u64 n12, Value.slice q4 k9 k10,
  Value.int IntKind.u64 n13, Value.int IntKind.i64 n14, Value.int IntKind.i64 n15, Value.int IntKind.i64 n16,
  Value.int IntKind.i64 n17, Value.int IntKind.u64 n18] } ∧
  StoreR a1
  [Value.slice q3 k7 k8, Value.int IntKind.i64 n11, Value.int IntKind.u64 n12, Value.slice q4 k9 k10,
  Value.int IntKind.u64 n13, Value.int IntKind.i64 n14, Value.int IntKind.i64 n15, Value.int IntKind.i64 n16,
  Value.int IntKind.i64 n17, Value.int IntKind.u64 n18]
  w5 fun (w6 : World) =>
  ∃ (k11 : Nat), k11 < k2 ∧ h1 k11 [Value.int IntKind.i64 (IntKind.wrap IntKind.i64 (n1 + (1 : Int)))] w6) ∧
  (decide (n1 < (↑l3 : Int)) = false →
  ∃ (q5 : Option Addr),
  ∃ (k12 : Nat),
  ∃ (k13 : Nat),
  ∃ (n19 : Int),
  ∃ (n20 : Int),
  ∃ (q6 : Option Addr),
  ∃ (k14 : Nat),
  ∃ (k15 : Nat),
  ∃ (n21 : Int),
  ∃ (n22 : Int),
  ∃ (n23 : Int),
  ∃ (n24 : Int),
  ∃ (n25 : Int),
  ∃ (n26 : Int),
  (cellAt w3 (Addr.add a1 (0 : Nat)) (Value.slice q5 k12 k13) ∧
  cellAt w3 (Addr.add a1 (1 : Nat)) (Value.int IntKind.i64 n19) ∧
  cellAt w3 (Addr.add a1 (2 : Nat)) (Value.int IntKind.u64 n20) ∧
  cellAt w3 (Addr.add a1 (3 : Nat)) (Value.slice q6 k14 k15) ∧
  cellAt w3 (Addr.add a1 (4 : Nat)) (Value.int IntKind.u64 n21) ∧
  cellAt w3 (Addr.add a1 (5 : Nat)) (Value.int IntKind.i64 n22) ∧
  cellAt w3 (Addr.add a1 (6 : Nat)) (Value.int IntKind.i64 n23) ∧
  cellAt w3 (Addr.add a1 (7 : Nat)) (Value.int IntKind.i64 n24) ∧
  cellAt w3 (Addr.add a1 (8 : Nat)) (Value.int IntKind.i64 n25) ∧
  cellAt w3 (Addr.add a1 (9 : Nat)) (Value.int IntKind.u64 n26)) ∧
  StoreR a2
  [Value.slice q5 k12 k13, Value.int IntKind.i64 n19, Value.int IntKind.u64 n20, Value.slice q6 k14 k15,
  Value.int IntKind.u64 n21, Value.int IntKind.i64 n22, Value.int IntKind.i64 n23, Value.int IntKind.i64 n24,
  Value.int IntKind.i64 n25, Value.int IntKind.u64 n26]
  w3 fun (w7 : World) =>
  ∃ (q7 : Option Addr),
  ∃ (k16 : Nat),
  ∃ (k17 : Nat),
  ∃ (n27 : Int),
  ∃ (n28 : Int),
  ∃ (q8 : Option Addr),
  ∃ (k18 : Nat),
  ∃ (k19 : Nat),
  ∃ (n29 : Int),
  ∃ (n30 : Int),
  ∃ (n31 : Int),
  ∃ (n32 : Int),
  ∃ (n33 : Int),
  ∃ (n34 : Int),
  (cellAt w7 (Addr.add a2 (0 : Nat)) (Value.slice q7 k16 k17) ∧
  cellAt w7 (Addr.add a2 (1 : Nat)) (Value.int IntKind.i64 n27) ∧
  cellAt w7 (Addr.add a2 (2 : Nat)) (Value.int IntKind.u64 n28) ∧
  cellAt w7 (Addr.add a2 (3 : Nat)) (Value.slice q8 k18 k19) ∧
  cellAt w7 (Addr.add a2 (4 : Nat)) (Value.int IntKind.u64 n29) ∧
  cellAt w7 (Addr.add a2 (5 : Nat)) (Value.int IntKind.i64 n30) ∧
  cellAt w7 (Addr.add a2 (6 : Nat)) (Value.int IntKind.i64 n31) ∧
  cellAt w7 (Addr.add a2 (7 : Nat)) (Value.int IntKind.i64 n32) ∧
  cellAt w7 (Addr.add a2 (8 : Nat)) (Value.int IntKind.i64 n33) ∧
  cellAt w7 (Addr.add a2 (9 : Nat)) (Value.int IntKind.u64 n34)) ∧
  K
  (Value.agg
  {
  toList :=
  [Value.slice q7 k16 k17, Value.int IntKind.i64 n27, Value.int IntKind.u64 n28, Value.slice q8 k18 k19,
  Value.int IntKind.u64 n29, Value.int IntKind.i64 n30, Value.int IntKind.i64 n31, Value.int IntKind.i64 n32,
  Value.int IntKind.i64 n33, Value.int IntKind.u64 n34] })
  w7)
theorem cortadoref13_Push_eq (q : Option Addr) (l c : Nat) (wd s : Int) (q2 : Option Addr) (l2 c2 : Nat) (s2 ct lim ag ky s3 : Int) (q3 : Option Addr) (l3 c3 : Nat) (w : World) (K : Value → World → Prop) : fw Tryz.prog Tryz.f31 (annL [(1, [(5, some 3), (6, none), (7, none), (8, none), (9, none), (10, none), (11, none), (12, none), (13, none), (14, none), (15, none), (16, none), (17, none)])]) (ordL [(4, [(1, 0), (2, 0), (3, 0), (0, 1), (4, 1), (5, 3), (6, 3)])]) [.agg #[.slice q l c, .int .i64 wd, .int .u64 s, .slice q2 l2 c2, .int .u64 s2, .int .i64 ct, .int .i64 lim, .int .i64 ag, .int .i64 ky, .int .u64 s3], .slice q3 l3 c3] w K = cortadoref13_Push_m q l c wd s q2 l2 c2 s2 ct lim ag ky s3 q3 l3 c3 w K := by kernel_rfl
theorem cortadoref13_Push_go (q : Option Addr) (l c : Nat) (wd s : Int) (q2 : Option Addr) (l2 c2 : Nat) (s2 ct lim ag ky s3 : Int) (q3 : Option Addr) (l3 c3 : Nat) {w : World} {K : Value → World → Prop} (h : cortadoref13_Push_m q l c wd s q2 l2 c2 s2 ct lim ag ky s3 q3 l3 c3 w K) : Rets Tryz.prog 31 #[.agg #[.slice q l c, .int .i64 wd, .int .u64 s, .slice q2 l2 c2, .int .u64 s2, .int .i64 ct, .int .i64 lim, .int .i64 ag, .int .i64 ky, .int .u64 s3], .slice q3 l3 c3] w K :=
  calls_of_fw plain mixed Tryz.func31 (by kernel_rfl) (by rw [cortadoref13_Push_eq]; exact h)
def cortadoref13_Estimate_m (q : Option Addr) (l c : Nat) (wd s : Int) (q2 : Option Addr) (l2 c2 : Nat) (s2 ct lim ag ky s3 hh : Int) (w : World) (K : Value → World → Prop) : Prop :=
  NewR (38 : Nat)
  [Value.slice q l c, Value.int IntKind.i64 wd, Value.int IntKind.u64 s, Value.slice q2 l2 c2, Value.int IntKind.u64 s2,
  Value.int IntKind.i64 ct, Value.int IntKind.i64 lim, Value.int IntKind.i64 ag, Value.int IntKind.i64 ky,
  Value.int IntKind.u64 s3]
  w fun (a1 : Addr) (w1 : World) =>
  ∃ (q1 : Option Addr),
  ∃ (k1 : Nat),
  ∃ (k2 : Nat),
  ∃ (n1 : Int),
  ∃ (n2 : Int),
  (cellAt w1 (Addr.add (Addr.add a1 (0 : Nat)) (0 : Nat)) (Value.slice q1 k1 k2) ∧
  cellAt w1 (Addr.add (Addr.add a1 (0 : Nat)) (1 : Nat)) (Value.int IntKind.i64 n1) ∧
  cellAt w1 (Addr.add (Addr.add a1 (0 : Nat)) (2 : Nat)) (Value.int IntKind.u64 n2)) ∧
  Rets Tryz.prog (39 : Nat)
  {
  toList :=
  [Value.agg { toList := [Value.slice q1 k1 k2, Value.int IntKind.i64 n1, Value.int IntKind.u64 n2] },
  Value.int IntKind.u64 hh] }
  w1 fun (v1 : Value) (w2 : World) =>
  ∃ (n3 : Int),
  v1 = Value.int IntKind.i64 n3 ∧
  ∃ (q2 : Option Addr),
  ∃ (k3 : Nat),
  ∃ (k4 : Nat),
  ∃ (n4 : Int),
  (cellAt w2 (Addr.add (Addr.add a1 (3 : Nat)) (0 : Nat)) (Value.slice q2 k3 k4) ∧
  cellAt w2 (Addr.add (Addr.add a1 (3 : Nat)) (1 : Nat)) (Value.int IntKind.u64 n4)) ∧
  Rets Tryz.prog (40 : Nat)
  { toList := [Value.agg { toList := [Value.slice q2 k3 k4, Value.int IntKind.u64 n4] }, Value.int IntKind.u64 hh] } w2
  fun (v2 : Value) (w3 : World) =>
  ∃ (b1 : Bool),
  v2 = Value.bool b1 ∧
  (b1 = true → K (Value.int IntKind.i64 (IntKind.wrap IntKind.i64 (n3 + (1 : Int)))) w3) ∧
  (b1 = false → K (Value.int IntKind.i64 n3) w3)
theorem cortadoref13_Estimate_eq (q : Option Addr) (l c : Nat) (wd s : Int) (q2 : Option Addr) (l2 c2 : Nat) (s2 ct lim ag ky s3 hh : Int) (w : World) (K : Value → World → Prop) : fw Tryz.prog Tryz.f13 (annL []) (ordL []) [.agg #[.slice q l c, .int .i64 wd, .int .u64 s, .slice q2 l2 c2, .int .u64 s2, .int .i64 ct, .int .i64 lim, .int .i64 ag, .int .i64 ky, .int .u64 s3], .int .u64 hh] w K = cortadoref13_Estimate_m q l c wd s q2 l2 c2 s2 ct lim ag ky s3 hh w K := by kernel_rfl
theorem cortadoref13_Estimate_go (q : Option Addr) (l c : Nat) (wd s : Int) (q2 : Option Addr) (l2 c2 : Nat) (s2 ct lim ag ky s3 hh : Int) {w : World} {K : Value → World → Prop} (h : cortadoref13_Estimate_m q l c wd s q2 l2 c2 s2 ct lim ag ky s3 hh w K) : Rets Tryz.prog 13 #[.agg #[.slice q l c, .int .i64 wd, .int .u64 s, .slice q2 l2 c2, .int .u64 s2, .int .i64 ct, .int .i64 lim, .int .i64 ag, .int .i64 ky, .int .u64 s3], .int .u64 hh] w K :=
  calls_of_fw plain mixed Tryz.func13 (by kernel_rfl) (by rw [cortadoref13_Estimate_eq]; exact h)
end Go.Proofs.YtggflkjdgcdcmaaGreatDoor.Eng
