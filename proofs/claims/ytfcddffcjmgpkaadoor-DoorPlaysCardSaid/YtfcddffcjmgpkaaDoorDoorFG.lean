/- What the code of these functions asks for: printed by a program of this session's (gens.py) out of the seat's own functions; the kernel checks each row. -/
import Derived.Test.YtfcddffcjmgpkaaDoorEngH
import Derived.Test.YtfcddffcjmgpkaaDoorProg
import Derived.Test.YtfcddffcjmgpkaaDoorBase
namespace Go.Proofs.YtfcddffcjmgpkaaDoor.Eng
open Go Go.Proofs
set_option linter.unusedVariables false
set_option maxRecDepth 1000000
def word_Ones_m (x : Int) (w : World) (K : Value → World → Prop) : Prop :=
  ∃ (h1 : Nat → List Value → World → Prop),
  (∃ (k1 : Nat), h1 k1 [Value.int IntKind.u64 x, Value.int IntKind.i64 (0 : Int)] w) ∧
  ∀ (k2 : Nat) (w1 : World) (n1 n2 : Int) (v1 v2 v3 v4 v5 v6 v7 v8 : Value),
  h1 k2 [Value.int IntKind.u64 n1, Value.int IntKind.i64 n2] w1 →
  ((n1 != (0 : Int)) = true →
  ∃ (k3 : Nat),
  k3 < k2 ∧
  h1 k3
  [Value.int IntKind.u64 (bits BinOp.and IntKind.u64 n1 (IntKind.wrap IntKind.u64 (n1 - (1 : Int)))),
  Value.int IntKind.i64 (IntKind.wrap IntKind.i64 (n2 + (1 : Int)))]
  w1) ∧
  ((n1 != (0 : Int)) = false → K (Value.int IntKind.i64 n2) w1)
theorem word_Ones_eq (x : Int) (w : World) (K : Value → World → Prop) : fw Tryd.prog Tryd.f27 (annL [(1, [(0, some 22), (3, some 3), (4, none), (5, none), (6, none), (7, none), (8, none), (9, none), (10, none), (11, none)])]) (ordL []) [.int .u64 x] w K = word_Ones_m x w K := by kernel_rfl
theorem word_Ones_go (x : Int) {w : World} {K : Value → World → Prop} (h : word_Ones_m x w K) : Rets Tryd.prog 27 #[.int .u64 x] w K :=
  calls_of_fw plain mixed Tryd.func27 (by kernel_rfl) (by rw [word_Ones_eq]; exact h)
def door_Door_Clear_m (g : Nat) (w : World) (K : Value → World → Prop) : Prop :=
  (true = true →
  ∃ (q1 : Option Addr),
  ∃ (k1 : Nat),
  ∃ (k2 : Nat),
  cellAt w (Addr.add { block := g, off := (0 : Nat) } (0 : Nat)) (Value.slice q1 k1 k2) ∧
  RunR Tryd.prog (builtinV Builtin.clear { toList := [(23 : Nat)] } (nat_lit 0) { toList := [Value.slice q1 k1 k2] }) w
  fun (v1 : Value) (w1 : World) => v1 = Value.tuple { toList := [] } ∧ K (Value.tuple { toList := [] }) w1) ∧
  (true = false → K (Value.tuple { toList := [] }) w)
theorem door_Door_Clear_eq (g : Nat) (w : World) (K : Value → World → Prop) : fw Tryd.prog Tryd.f18 (annL []) (ordL []) [.pointer (some ⟨g, 0, none⟩)] w K = door_Door_Clear_m g w K := by kernel_rfl
theorem door_Door_Clear_go (g : Nat) {w : World} {K : Value → World → Prop} (h : door_Door_Clear_m g w K) : Rets Tryd.prog 18 #[.pointer (some ⟨g, 0, none⟩)] w K :=
  calls_of_fw plain mixed Tryd.func18 (by kernel_rfl) (by rw [door_Door_Clear_eq]; exact h)
def door_Door_Full_m (g : Nat) (w : World) (K : Value → World → Prop) : Prop :=
  (false = true → K (Value.int IntKind.i64 (0 : Int)) w) ∧
  (false = false →
  ∃ (q1 : Option Addr),
  ∃ (k1 : Nat),
  ∃ (k2 : Nat),
  cellAt w (Addr.add { block := g, off := (0 : Nat) } (0 : Nat)) (Value.slice q1 k1 k2) ∧
  ∃ (h1 : Nat → List Value → World → Prop),
  (∃ (k3 : Nat), h1 k3 [Value.int IntKind.i64 (0 : Int), Value.int IntKind.i64 (0 : Int)] w) ∧
  ∀ (k4 : Nat) (w1 : World) (n1 : Int) (v1 : Value) (n2 : Int) (v2 v3 v4 v5 v6 v7 v8 v9 : Value),
  h1 k4 [Value.int IntKind.i64 n1, Value.int IntKind.i64 n2] w1 →
  (decide (n2 < (↑k1 : Int)) = true →
  (0 : Int) ≤ n2 ∧
  n2 < (↑k1 : Int) ∧
  someR q1 fun (a1 : Addr) =>
  ∃ (n3 : Int),
  cellAt w1 (Addr.add a1 (Int.toNat n2 * (1 : Nat))) (Value.int IntKind.u64 n3) ∧
  Rets Tryd.prog (27 : Nat) { toList := [Value.int IntKind.u64 n3] } w1 fun (v10 : Value) (w2 : World) =>
  ∃ (n4 : Int),
  v10 = Value.int IntKind.i64 n4 ∧
  ∃ (k5 : Nat),
  k5 < k4 ∧
  h1 k5
  [Value.int IntKind.i64 (IntKind.wrap IntKind.i64 (n1 + n4)),
  Value.int IntKind.i64 (IntKind.wrap IntKind.i64 (n2 + (1 : Int)))]
  w2) ∧
  (decide (n2 < (↑k1 : Int)) = false → K (Value.int IntKind.i64 n1) w1))
theorem door_Door_Full_eq (g : Nat) (w : World) (K : Value → World → Prop) : fw Tryd.prog Tryd.f15 (annL [(2, [(2, some 3), (4, none), (12, some 3), (13, none), (14, none), (15, none), (16, none), (17, none), (18, none), (19, none), (20, none)])]) (ordL []) [.pointer (some ⟨g, 0, none⟩)] w K = door_Door_Full_m g w K := by kernel_rfl
theorem door_Door_Full_go (g : Nat) {w : World} {K : Value → World → Prop} (h : door_Door_Full_m g w K) : Rets Tryd.prog 15 #[.pointer (some ⟨g, 0, none⟩)] w K :=
  calls_of_fw plain mixed Tryd.func15 (by kernel_rfl) (by rw [door_Door_Full_eq]; exact h)
def door_Door_Alike_m (q : Option Addr) (a b : Int) (w : World) (K : Value → World → Prop) : Prop :=
  Rets Tryd.prog (8 : Nat) { toList := [Value.pointer q, Value.int IntKind.u64 a] } w fun (v1 : Value) (w1 : World) =>
  ∃ (n1 : Int),
  ∃ (n2 : Int),
  ∃ (n3 : Int),
  ∃ (n4 : Int),
  v1 =
  Value.agg
  { toList := [Value.int IntKind.i64 n1, Value.int IntKind.i64 n2, Value.int IntKind.i64 n3, Value.int IntKind.i64 n4] } ∧
  Rets Tryd.prog (8 : Nat) { toList := [Value.pointer q, Value.int IntKind.u64 b] } w1 fun (v2 : Value) (w2 : World) =>
  ∃ (n5 : Int),
  ∃ (n6 : Int),
  ∃ (n7 : Int),
  ∃ (n8 : Int),
  v2 =
  Value.agg
  { toList := [Value.int IntKind.i64 n5, Value.int IntKind.i64 n6, Value.int IntKind.i64 n7, Value.int IntKind.i64 n8] } ∧
  RunR Tryd.prog
  (binV BinOp.eql (31 : Nat) (Operand.tmp (9 : Nat)) (Operand.tmp (12 : Nat))
  (Value.agg
  { toList := [Value.int IntKind.i64 n1, Value.int IntKind.i64 n2, Value.int IntKind.i64 n3, Value.int IntKind.i64 n4] })
  (Value.agg
  { toList := [Value.int IntKind.i64 n5, Value.int IntKind.i64 n6, Value.int IntKind.i64 n7, Value.int IntKind.i64 n8] }))
  w2 fun (v3 : Value) (w3 : World) => ∃ (b1 : Bool), v3 = Value.bool b1 ∧ K (Value.bool b1) w3
theorem door_Door_Alike_eq (q : Option Addr) (a b : Int) (w : World) (K : Value → World → Prop) : fw Tryd.prog Tryd.f10 (annL []) (ordL []) [.pointer q, .int .u64 a, .int .u64 b] w K = door_Door_Alike_m q a b w K := by kernel_rfl
theorem door_Door_Alike_go (q : Option Addr) (a b : Int) {w : World} {K : Value → World → Prop} (h : door_Door_Alike_m q a b w K) : Rets Tryd.prog 10 #[.pointer q, .int .u64 a, .int .u64 b] w K :=
  calls_of_fw plain mixed Tryd.func10 (by kernel_rfl) (by rw [door_Door_Alike_eq]; exact h)
def cortadoref12_Has_m (q : Option Addr) (l c : Nat) (s hh : Int) (w : World) (K : Value → World → Prop) : Prop :=
  NewR (29 : Nat) [Value.slice q l c, Value.int IntKind.u64 s] w fun (a1 : Addr) (w1 : World) =>
  ∃ (q1 : Option Addr),
  ∃ (k1 : Nat),
  ∃ (k2 : Nat),
  ∃ (n1 : Int),
  (cellAt w1 (Addr.add a1 (0 : Nat)) (Value.slice q1 k1 k2) ∧
  cellAt w1 (Addr.add a1 (1 : Nat)) (Value.int IntKind.u64 n1)) ∧
  Rets Tryd.prog (9 : Nat)
  { toList := [Value.agg { toList := [Value.slice q1 k1 k2, Value.int IntKind.u64 n1] }, Value.int IntKind.u64 hh] } w1
  fun (v1 : Value) (w2 : World) =>
  ∃ (q2 : Option Addr),
  ∃ (k3 : Nat),
  ∃ (k4 : Nat),
  v1 = Value.slice q2 k3 k4 ∧
  ∃ (h1 : Nat → List Value → World → Prop),
  (∃ (k5 : Nat), h1 k5 [Value.int IntKind.i64 (0 : Int)] w2) ∧
  ∀ (k6 : Nat) (w3 : World) (v2 : Value) (n2 : Int) (v3 v4 v5 v6 v7 v8 v9 v10 v11 v12 v13 v14 v15 v16 v17 : Value),
  h1 k6 [Value.int IntKind.i64 n2] w3 →
  (decide (n2 < (↑k3 : Int)) = true →
  Drw w3 fun (w4 : World) =>
  (0 : Int) ≤ n2 ∧
  n2 < (↑k3 : Int) ∧
  someR q2 fun (a2 : Addr) =>
  ∃ (q3 : Option Addr),
  ∃ (k7 : Nat),
  ∃ (k8 : Nat),
  cellAt w4 (Addr.add a1 (0 : Nat)) (Value.slice q3 k7 k8) ∧
  ∃ (n3 : Int),
  cellAt w4 (Addr.add a2 (Int.toNat n2 * (1 : Nat))) (Value.int IntKind.i64 n3) ∧
  (0 : Int) ≤ n3 ∧
  n3 < (↑k7 : Int) ∧
  someR q3 fun (a3 : Addr) =>
  ∃ (b1 : Bool),
  cellAt w4 (Addr.add a3 (Int.toNat n3 * (1 : Nat))) (Value.bool b1) ∧
  ((!b1) = true → K (Value.bool false) w4) ∧
  ((!b1) = false →
  ∃ (k9 : Nat), k9 < k6 ∧ h1 k9 [Value.int IntKind.i64 (IntKind.wrap IntKind.i64 (n2 + (1 : Int)))] w4)) ∧
  (decide (n2 < (↑k3 : Int)) = false → K (Value.bool true) w3)
theorem cortadoref12_Has_eq (q : Option Addr) (l c : Nat) (s hh : Int) (w : World) (K : Value → World → Prop) : fw Tryd.prog Tryd.f12 (annL [(1, [(4, none), (6, some 3), (10, none), (11, none), (12, none), (13, none), (14, none), (15, none), (16, none), (17, none), (18, none), (19, none), (20, none), (21, none), (22, none), (23, none), (24, none)])]) (ordL [(5, [(0, 0), (2, 0), (3, 0), (4, 0), (1, 1), (5, 1), (6, 0), (7, 1), (8, 0)])]) [.agg #[.slice q l c, .int .u64 s], .int .u64 hh] w K = cortadoref12_Has_m q l c s hh w K := by kernel_rfl
theorem cortadoref12_Has_go (q : Option Addr) (l c : Nat) (s hh : Int) {w : World} {K : Value → World → Prop} (h : cortadoref12_Has_m q l c s hh w K) : Rets Tryd.prog 12 #[.agg #[.slice q l c, .int .u64 s], .int .u64 hh] w K :=
  calls_of_fw plain mixed Tryd.func12 (by kernel_rfl) (by rw [cortadoref12_Has_eq]; exact h)
def cortadoref12_Put_m (q : Option Addr) (l c : Nat) (s hh : Int) (w : World) (K : Value → World → Prop) : Prop :=
  NewR (29 : Nat) [Value.slice q l c, Value.int IntKind.u64 s] w fun (a1 : Addr) (w1 : World) =>
  NewR (29 : Nat) [Value.slice none (0 : Nat) (0 : Nat), Value.int IntKind.u64 (0 : Int)] w1
  fun (a2 : Addr) (w2 : World) =>
  ∃ (q1 : Option Addr),
  ∃ (k1 : Nat),
  ∃ (k2 : Nat),
  ∃ (n1 : Int),
  (cellAt w2 (Addr.add a1 (0 : Nat)) (Value.slice q1 k1 k2) ∧
  cellAt w2 (Addr.add a1 (1 : Nat)) (Value.int IntKind.u64 n1)) ∧
  Rets Tryd.prog (12 : Nat)
  { toList := [Value.agg { toList := [Value.slice q1 k1 k2, Value.int IntKind.u64 n1] }, Value.int IntKind.u64 hh] } w2
  fun (v1 : Value) (w3 : World) =>
  ∃ (b1 : Bool),
  v1 = Value.bool b1 ∧
  (b1 = true →
  ∃ (q2 : Option Addr),
  ∃ (k3 : Nat),
  ∃ (k4 : Nat),
  ∃ (n2 : Int),
  (cellAt w3 (Addr.add a1 (0 : Nat)) (Value.slice q2 k3 k4) ∧
  cellAt w3 (Addr.add a1 (1 : Nat)) (Value.int IntKind.u64 n2)) ∧
  StoreR a2 [Value.slice q2 k3 k4, Value.int IntKind.u64 n2] w3 fun (w4 : World) =>
  ∃ (q3 : Option Addr),
  ∃ (k5 : Nat),
  ∃ (k6 : Nat),
  ∃ (n3 : Int),
  (cellAt w4 (Addr.add a2 (0 : Nat)) (Value.slice q3 k5 k6) ∧
  cellAt w4 (Addr.add a2 (1 : Nat)) (Value.int IntKind.u64 n3)) ∧
  K
  (Value.tuple { toList := [Value.agg { toList := [Value.slice q3 k5 k6, Value.int IntKind.u64 n3] }, Value.bool false] })
  w4) ∧
  (b1 = false →
  ∃ (h1 : List Value → World → Prop),
  (Drw w3 fun (w5 : World) =>
  ∃ (h2 : World → Prop),
  h2 w5 ∧
  ∃ (q4 : Option Addr),
  ∃ (k7 : Nat),
  ∃ (k8 : Nat),
  (∀ (w6 : World), h2 w6 → World.cell? w6 (Addr.add a1 (0 : Nat)) = some (Value.slice q4 k7 k8)) ∧
  ∃ (n4 : Int),
  (∀ (w7 : World), h2 w7 → World.cell? w7 (Addr.add a1 (1 : Nat)) = some (Value.int IntKind.u64 n4)) ∧
  (NewR (4 : Nat) [] w5 fun (a3 : Addr) (w8 : World) =>
  h2 w8 ∧
  (RunR Tryd.prog
  (builtinV Builtin.append { toList := [(27 : Nat), (27 : Nat)] } (nat_lit 27)
  { toList := [Value.slice (some a3) (0 : Nat) (0 : Nat), Value.slice q4 k7 k8] })
  w8 fun (v2 : Value) (w9 : World) =>
  ∃ (q5 : Option Addr),
  ∃ (k9 : Nat),
  ∃ (k10 : Nat),
  v2 = Value.slice q5 k9 k10 ∧
  h2 w9 ∧
  NewR (29 : Nat) [Value.slice none (0 : Nat) (0 : Nat), Value.int IntKind.u64 (0 : Int)] w9
  fun (a4 : Addr) (w10 : World) =>
  h2 w10 ∧
  StoreR a4 [Value.slice q5 k9 k10, Value.int IntKind.u64 n4] w10 fun (w11 : World) => h1 [Value.pointer (some a4)] w11) ∧
  NewR (29 : Nat) [Value.slice none (0 : Nat) (0 : Nat), Value.int IntKind.u64 (0 : Int)] w8
  fun (a5 : Addr) (w12 : World) =>
  h2 w12 ∧
  RunR Tryd.prog
  (builtinV Builtin.append { toList := [(27 : Nat), (27 : Nat)] } (nat_lit 27)
  { toList := [Value.slice (some a3) (0 : Nat) (0 : Nat), Value.slice q4 k7 k8] })
  w12 fun (v3 : Value) (w13 : World) =>
  ∃ (q6 : Option Addr),
  ∃ (k11 : Nat),
  ∃ (k12 : Nat),
  v3 = Value.slice q6 k11 k12 ∧
  h2 w13 ∧
  StoreR a5 [Value.slice q6 k11 k12, Value.int IntKind.u64 n4] w13 fun (w14 : World) =>
  h1 [Value.pointer (some a5)] w14) ∧
  NewR (29 : Nat) [Value.slice none (0 : Nat) (0 : Nat), Value.int IntKind.u64 (0 : Int)] w5
  fun (a6 : Addr) (w15 : World) =>
  h2 w15 ∧
  NewR (4 : Nat) [] w15 fun (a7 : Addr) (w16 : World) =>
  h2 w16 ∧
  RunR Tryd.prog
  (builtinV Builtin.append { toList := [(27 : Nat), (27 : Nat)] } (nat_lit 27)
  { toList := [Value.slice (some a7) (0 : Nat) (0 : Nat), Value.slice q4 k7 k8] })
  w16 fun (v4 : Value) (w17 : World) =>
  ∃ (q7 : Option Addr),
  ∃ (k13 : Nat),
  ∃ (k14 : Nat),
  v4 = Value.slice q7 k13 k14 ∧
  h2 w17 ∧
  StoreR a6 [Value.slice q7 k13 k14, Value.int IntKind.u64 n4] w17 fun (w18 : World) =>
  h1 [Value.pointer (some a6)] w18) ∧
  ∀ (w19 : World) (q8 : Option Addr) (v5 v6 v7 v8 v9 v10 v11 : Value),
  h1 [Value.pointer q8] w19 →
  ∃ (q9 : Option Addr),
  ∃ (k15 : Nat),
  ∃ (k16 : Nat),
  ∃ (n5 : Int),
  (cellAt w19 (Addr.add a1 (0 : Nat)) (Value.slice q9 k15 k16) ∧
  cellAt w19 (Addr.add a1 (1 : Nat)) (Value.int IntKind.u64 n5)) ∧
  Rets Tryd.prog (9 : Nat)
  { toList := [Value.agg { toList := [Value.slice q9 k15 k16, Value.int IntKind.u64 n5] }, Value.int IntKind.u64 hh] } w19
  fun (v12 : Value) (w20 : World) =>
  ∃ (q10 : Option Addr),
  ∃ (k17 : Nat),
  ∃ (k18 : Nat),
  v12 = Value.slice q10 k17 k18 ∧
  ∃ (h3 : Nat → List Value → World → Prop),
  (∃ (k19 : Nat), h3 k19 [Value.int IntKind.i64 (0 : Int)] w20) ∧
  ∀ (k20 : Nat) (w21 : World) (n6 : Int) (v13 v14 v15 v16 v17 v18 v19 v20 v21 v22 v23 v24 v25 : Value),
  h3 k20 [Value.int IntKind.i64 n6] w21 →
  (decide (n6 < (↑k17 : Int)) = true →
  Drw w21 fun (w22 : World) =>
  someR q8 fun (a8 : Addr) =>
  (0 : Int) ≤ n6 ∧
  n6 < (↑k17 : Int) ∧
  someR q10 fun (a9 : Addr) =>
  ∃ (q11 : Option Addr),
  ∃ (k21 : Nat),
  ∃ (k22 : Nat),
  cellAt w22 (Addr.add a8 (0 : Nat)) (Value.slice q11 k21 k22) ∧
  ∃ (n7 : Int),
  cellAt w22 (Addr.add a9 (Int.toNat n6 * (1 : Nat))) (Value.int IntKind.i64 n7) ∧
  (0 : Int) ≤ n7 ∧
  n7 < (↑k21 : Int) ∧
  someR q11 fun (a10 : Addr) =>
  StoreR (Addr.add a10 (Int.toNat n7 * (1 : Nat))) [Value.bool true] w22 fun (w23 : World) =>
  ∃ (k23 : Nat), k23 < k20 ∧ h3 k23 [Value.int IntKind.i64 (IntKind.wrap IntKind.i64 (n6 + (1 : Int)))] w23) ∧
  (decide (n6 < (↑k17 : Int)) = false →
  someR q8 fun (a11 : Addr) =>
  ∃ (q12 : Option Addr),
  ∃ (k24 : Nat),
  ∃ (k25 : Nat),
  ∃ (n8 : Int),
  (cellAt w21 (Addr.add a11 (0 : Nat)) (Value.slice q12 k24 k25) ∧
  cellAt w21 (Addr.add a11 (1 : Nat)) (Value.int IntKind.u64 n8)) ∧
  StoreR a2 [Value.slice q12 k24 k25, Value.int IntKind.u64 n8] w21 fun (w24 : World) =>
  ∃ (q13 : Option Addr),
  ∃ (k26 : Nat),
  ∃ (k27 : Nat),
  ∃ (n9 : Int),
  (cellAt w24 (Addr.add a2 (0 : Nat)) (Value.slice q13 k26 k27) ∧
  cellAt w24 (Addr.add a2 (1 : Nat)) (Value.int IntKind.u64 n9)) ∧
  K
  (Value.tuple
  { toList := [Value.agg { toList := [Value.slice q13 k26 k27, Value.int IntKind.u64 n9] }, Value.bool true] })
  w24))
theorem cortadoref12_Put_eq (q : Option Addr) (l c : Nat) (s hh : Int) (w : World) (K : Value → World → Prop) : fw Tryd.prog Tryd.f13 (annL [(2, [(8, some 3), (23, none), (24, none), (25, none), (26, none), (27, none), (28, none), (29, none), (30, none), (31, none), (32, none), (33, none), (34, none), (35, none)])]) (ordL [(2000003, [(6, 16), (13, 0), (14, 0), (15, 0), (16, 0), (17, 0), (18, 0), (19, 0)]), (3, [(1, 0), (4, 0), (2, 1), (5, 1), (0, 6), (0, 2), (0, 6), (3, 2), (6, 0), (7, 2), (8, 3), (0, 7), (7, 2), (3, 2), (6, 0), (8, 3), (0, 7), (7, 2), (0, 2), (3, 2), (6, 0), (8, 3), (0, 7)]), (8, [(0, 0), (2, 0), (3, 0), (4, 0), (1, 1), (5, 1), (6, 0), (7, 3)])]) [.agg #[.slice q l c, .int .u64 s], .int .u64 hh] w K = cortadoref12_Put_m q l c s hh w K := by kernel_rfl
theorem cortadoref12_Put_go (q : Option Addr) (l c : Nat) (s hh : Int) {w : World} {K : Value → World → Prop} (h : cortadoref12_Put_m q l c s hh w K) : Rets Tryd.prog 13 #[.agg #[.slice q l c, .int .u64 s], .int .u64 hh] w K :=
  calls_of_fw plain mixed Tryd.func13 (by kernel_rfl) (by rw [cortadoref12_Put_eq]; exact h)
def cortadoref12_Full_m (q : Option Addr) (l c : Nat) (s : Int) (w : World) (K : Value → World → Prop) : Prop :=
  NewR (29 : Nat) [Value.slice q l c, Value.int IntKind.u64 s] w fun (a1 : Addr) (w1 : World) =>
  ∃ (h1 : Nat → List Value → World → Prop),
  (∃ (k1 : Nat), h1 k1 [Value.int IntKind.i64 (0 : Int), Value.int IntKind.i64 (0 : Int)] w1) ∧
  ∀ (k2 : Nat) (w2 : World) (n1 n2 : Int) (v1 v2 v3 v4 v5 v6 v7 v8 v9 v10 v11 v12 v13 v14 : Value),
  h1 k2 [Value.int IntKind.i64 n1, Value.int IntKind.i64 n2] w2 →
  ∃ (q1 : Option Addr),
  ∃ (k3 : Nat),
  ∃ (k4 : Nat),
  cellAt w2 (Addr.add a1 (0 : Nat)) (Value.slice q1 k3 k4) ∧
  (decide (n2 < (↑k3 : Int)) = true →
  ∃ (q2 : Option Addr),
  ∃ (k5 : Nat),
  ∃ (k6 : Nat),
  cellAt w2 (Addr.add a1 (0 : Nat)) (Value.slice q2 k5 k6) ∧
  (0 : Int) ≤ n2 ∧
  n2 < (↑k5 : Int) ∧
  someR q2 fun (a2 : Addr) =>
  ∃ (b1 : Bool),
  cellAt w2 (Addr.add a2 (Int.toNat n2 * (1 : Nat))) (Value.bool b1) ∧
  (b1 = true →
  ∃ (k7 : Nat),
  k7 < k2 ∧
  h1 k7
  [Value.int IntKind.i64 (IntKind.wrap IntKind.i64 (n1 + (1 : Int))),
  Value.int IntKind.i64 (IntKind.wrap IntKind.i64 (n2 + (1 : Int)))]
  w2) ∧
  (b1 = false →
  ∃ (k8 : Nat),
  k8 < k2 ∧ h1 k8 [Value.int IntKind.i64 n1, Value.int IntKind.i64 (IntKind.wrap IntKind.i64 (n2 + (1 : Int)))] w2)) ∧
  (decide (n2 < (↑k3 : Int)) = false → K (Value.int IntKind.i64 n1) w2)
theorem cortadoref12_Full_eq (q : Option Addr) (l c : Nat) (s : Int) (w : World) (K : Value → World → Prop) : fw Tryd.prog Tryd.f16 (annL [(1, [(3, some 3), (4, some 3), (5, none), (6, none), (7, none), (8, none), (9, none), (10, none), (11, none), (12, none), (13, none), (14, none), (15, none), (16, none), (17, none), (18, none)])]) (ordL []) [.agg #[.slice q l c, .int .u64 s]] w K = cortadoref12_Full_m q l c s w K := by kernel_rfl
theorem cortadoref12_Full_go (q : Option Addr) (l c : Nat) (s : Int) {w : World} {K : Value → World → Prop} (h : cortadoref12_Full_m q l c s w K) : Rets Tryd.prog 16 #[.agg #[.slice q l c, .int .u64 s]] w K :=
  calls_of_fw plain mixed Tryd.func16 (by kernel_rfl) (by rw [cortadoref12_Full_eq]; exact h)
end Go.Proofs.YtfcddffcjmgpkaaDoor.Eng
