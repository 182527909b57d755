/- What the code of these functions asks for: printed by a program of this session's (gens.py) out of the seat's own functions; the kernel checks each row. -/
import Derived.Test.YtppmdifhoejhjaaEngH
import Derived.Test.YtppmdifhoejhjaaProg
import Derived.Test.YtppmdifhoejhjaaBase
namespace Go.Proofs.Ytppmdifhoejhjaa.Eng
open Go Go.Proofs
set_option linter.unusedVariables false
set_option maxRecDepth 1000000
def prog_call_m (g : Nat) (w : World) (K : Value → World → Prop) : Prop :=
  NewR (57 : Nat) [Value.pointer (some { block := g, off := (0 : Nat) })] w fun (a1 : Addr) (w1 : World) =>
  NewR (50 : Nat)
  [Value.int IntKind.i64 (0 : Int), Value.int IntKind.i64 (0 : Int), Value.int IntKind.i64 (0 : Int),
  Value.int IntKind.i64 (0 : Int), Value.int IntKind.i64 (0 : Int)]
  w1 fun (a2 : Addr) (w2 : World) =>
  ∃ (q1 : Option Addr),
  cellAt w2 a1 (Value.pointer q1) ∧
  Rets Try.prog (41 : Nat) { toList := [Value.pointer q1] } w2 fun (v1 : Value) (w3 : World) =>
  ∃ (n1 : Int),
  v1 = Value.int IntKind.i64 n1 ∧
  NewR (50 : Nat)
  [Value.int IntKind.i64 (0 : Int), Value.int IntKind.i64 (0 : Int), Value.int IntKind.i64 (0 : Int),
  Value.int IntKind.i64 (0 : Int), Value.int IntKind.i64 (0 : Int)]
  w3 fun (a3 : Addr) (w4 : World) =>
  StoreR a3
  [Value.int IntKind.i64 n1, Value.int IntKind.i64 (0 : Int), Value.int IntKind.i64 (0 : Int),
  Value.int IntKind.i64 (0 : Int), Value.int IntKind.i64 (0 : Int)]
  w4 fun (w5 : World) =>
  ∃ (n2 : Int),
  cellAt w5 (Addr.add a3 (0 : Nat)) (Value.int IntKind.i64 n2) ∧
  Rets Try.prog (54 : Nat) { toList := [Value.int IntKind.i64 n2] } w5 fun (v2 : Value) (w6 : World) =>
  ∃ (b1 : Bool),
  v2 = Value.bool b1 ∧
  ((!b1) = true →
  StoreR a2
  [Value.int IntKind.i64 (0 : Int), Value.int IntKind.i64 (0 : Int), Value.int IntKind.i64 (0 : Int),
  Value.int IntKind.i64 (0 : Int), Value.int IntKind.i64 (0 : Int)]
  w6 fun (w7 : World) =>
  ∃ (n3 : Int),
  ∃ (n4 : Int),
  ∃ (n5 : Int),
  ∃ (n6 : Int),
  ∃ (n7 : Int),
  (cellAt w7 (Addr.add a2 (0 : Nat)) (Value.int IntKind.i64 n3) ∧
  cellAt w7 (Addr.add a2 (1 : Nat)) (Value.int IntKind.i64 n4) ∧
  cellAt w7 (Addr.add a2 (2 : Nat)) (Value.int IntKind.i64 n5) ∧
  cellAt w7 (Addr.add a2 (3 : Nat)) (Value.int IntKind.i64 n6) ∧
  cellAt w7 (Addr.add a2 (4 : Nat)) (Value.int IntKind.i64 n7)) ∧
  K
  (Value.agg
  {
  toList :=
  [Value.int IntKind.i64 n3, Value.int IntKind.i64 n4, Value.int IntKind.i64 n5, Value.int IntKind.i64 n6,
  Value.int IntKind.i64 n7] })
  w7) ∧
  ((!b1) = false →
  Rets Try.prog (50 : Nat) { toList := [Value.pointer (some a3)] } w6 fun (v3 : Value) (w8 : World) =>
  ∃ (k1 : Nat),
  ∃ (a4 : Array Value),
  ∃ (c1 : Array Value),
  v3 = Value.func (Fn.func k1) a4 c1 ∧
  ∃ (v4 : Value),
  Value.func (Fn.func k1) a4 c1 = Value.func (Fn.func (58 : Nat)) { toList := [] } { toList := [v4] } ∧
  LoopR w8 fun (k2 k3 : Nat) (L1 : Loop) (w9 : World) =>
  (∀ (q2 : Option Addr) (w10 : World) (h1 : Value → World → Prop),
  RecR k3 L1 w10 →
  (BegR k3 L1 w10 fun (w11 : World) =>
  ∃ (q3 : Option Addr),
  cellAt w11 a1 (Value.pointer q3) ∧
  Rets Try.prog (39 : Nat) { toList := [Value.pointer q3] } w11 fun (v5 : Value) (w12 : World) =>
  ∃ (n8 : Int),
  v5 = Value.int IntKind.i64 n8 ∧
  someR q2 fun (a5 : Addr) =>
  StoreR a5 [Value.int IntKind.i64 n8] w12 fun (w13 : World) =>
  FinR k3 L1 none w13 fun (w14 : World) => h1 (Value.bool true) w14) →
  RoundR Try.prog k3 { toList := [Value.pointer q2] } w10 h1) →
  Rets Try.prog (58 : Nat) { toList := [Value.func (Fn.yield k3) { toList := [] } { toList := [] }, v4] } w9
  fun (v6 : Value) (w15 : World) =>
  EndR k3 L1 none w15 fun (w16 : World) =>
  ∃ (n9 : Int),
  ∃ (n10 : Int),
  ∃ (n11 : Int),
  ∃ (n12 : Int),
  ∃ (n13 : Int),
  (cellAt w16 (Addr.add a3 (0 : Nat)) (Value.int IntKind.i64 n9) ∧
  cellAt w16 (Addr.add a3 (1 : Nat)) (Value.int IntKind.i64 n10) ∧
  cellAt w16 (Addr.add a3 (2 : Nat)) (Value.int IntKind.i64 n11) ∧
  cellAt w16 (Addr.add a3 (3 : Nat)) (Value.int IntKind.i64 n12) ∧
  cellAt w16 (Addr.add a3 (4 : Nat)) (Value.int IntKind.i64 n13)) ∧
  StoreR a2
  [Value.int IntKind.i64 n9, Value.int IntKind.i64 n10, Value.int IntKind.i64 n11, Value.int IntKind.i64 n12,
  Value.int IntKind.i64 n13]
  w16 fun (w17 : World) =>
  MarkR k2 w17 fun (w18 : World) =>
  ∃ (n14 : Int),
  ∃ (n15 : Int),
  ∃ (n16 : Int),
  ∃ (n17 : Int),
  ∃ (n18 : Int),
  (cellAt w18 (Addr.add a2 (0 : Nat)) (Value.int IntKind.i64 n14) ∧
  cellAt w18 (Addr.add a2 (1 : Nat)) (Value.int IntKind.i64 n15) ∧
  cellAt w18 (Addr.add a2 (2 : Nat)) (Value.int IntKind.i64 n16) ∧
  cellAt w18 (Addr.add a2 (3 : Nat)) (Value.int IntKind.i64 n17) ∧
  cellAt w18 (Addr.add a2 (4 : Nat)) (Value.int IntKind.i64 n18)) ∧
  K
  (Value.agg
  {
  toList :=
  [Value.int IntKind.i64 n14, Value.int IntKind.i64 n15, Value.int IntKind.i64 n16, Value.int IntKind.i64 n17,
  Value.int IntKind.i64 n18] })
  w18)
theorem prog_call_eq (g : Nat) (w : World) (K : Value → World → Prop) : fw Try.prog Try.f52 (annL [(2, [(14, some 73)])]) (ordL [(1000002, [(58, 1)])]) [.pointer (some ⟨g, 0, none⟩)] w K = prog_call_m g w K := by kernel_rfl
theorem prog_call_go (g : Nat) {w : World} {K : Value → World → Prop} (h : prog_call_m g w K) : Rets Try.prog 52 #[.pointer (some ⟨g, 0, none⟩)] w K :=
  calls_of_fw plain mixed Try.func52 (by kernel_rfl) (by rw [prog_call_eq]; exact h)
def prog_Read_m (g : Nat) (w : World) (K : Value → World → Prop) : Prop :=
  Rets Try.prog (38 : Nat)
  { toList := [Value.pointer (some { block := g, off := (0 : Nat) }), Value.int IntKind.i64 (25 : Int)] } w
  fun (v1 : Value) (w1 : World) =>
  ∃ (n1 : Int),
  v1 = Value.int IntKind.i64 n1 ∧
  ∃ (h1 : Nat → List Value → World → Prop),
  (∃ (k1 : Nat), h1 k1 [Value.slice none (0 : Nat) (0 : Nat), Value.int IntKind.i64 (0 : Int)] w1) ∧
  ∀ (k2 : Nat) (w2 : World) (q1 : Option Addr) (k3 k4 : Nat) (n2 : Int) (v2 v3 v4 v5 v6 v7 v8 : Value),
  h1 k2 [Value.slice q1 k3 k4, Value.int IntKind.i64 n2] w2 →
  (decide (n2 < n1) = true →
  Rets Try.prog (52 : Nat) { toList := [Value.pointer (some { block := g, off := (0 : Nat) })] } w2
  fun (v9 : Value) (w3 : World) =>
  ∃ (n3 : Int),
  ∃ (n4 : Int),
  ∃ (n5 : Int),
  ∃ (n6 : Int),
  ∃ (n7 : Int),
  v9 =
  Value.agg
  {
  toList :=
  [Value.int IntKind.i64 n3, Value.int IntKind.i64 n4, Value.int IntKind.i64 n5, Value.int IntKind.i64 n6,
  Value.int IntKind.i64 n7] } ∧
  NewR (50 : Nat)
  [Value.int IntKind.i64 n3, Value.int IntKind.i64 n4, Value.int IntKind.i64 n5, Value.int IntKind.i64 n6,
  Value.int IntKind.i64 n7]
  w3 fun (a1 : Addr) (w4 : World) =>
  RunR Try.prog
  (builtinV Builtin.append { toList := [(30 : Nat), (30 : Nat)] } (nat_lit 30)
  { toList := [Value.slice q1 k3 k4, Value.slice (some a1) (1 : Nat) (1 : Nat)] })
  w4 fun (v10 : Value) (w5 : World) =>
  ∃ (q2 : Option Addr),
  ∃ (k5 : Nat),
  ∃ (k6 : Nat),
  v10 = Value.slice q2 k5 k6 ∧
  ∃ (k7 : Nat),
  k7 < k2 ∧ h1 k7 [Value.slice q2 k5 k6, Value.int IntKind.i64 (IntKind.wrap IntKind.i64 (n2 + (1 : Int)))] w5) ∧
  (decide (n2 < n1) = false → K (Value.slice q1 k3 k4) w2)
theorem prog_Read_eq (g : Nat) (w : World) (K : Value → World → Prop) : fw Try.prog Try.f40 (annL [(1, [(2, some 30), (5, some 3), (6, none), (7, none), (8, none), (9, none), (10, none), (11, none), (12, none)])]) (ordL []) [.pointer (some ⟨g, 0, none⟩)] w K = prog_Read_m g w K := by kernel_rfl
theorem prog_Read_go (g : Nat) {w : World} {K : Value → World → Prop} (h : prog_Read_m g w K) : Rets Try.prog 40 #[.pointer (some ⟨g, 0, none⟩)] w K :=
  calls_of_fw plain mixed Try.func40 (by kernel_rfl) (by rw [prog_Read_eq]; exact h)
def cortadoref17_Numbers_m (k0 k1 k2 k3 k4 : Int) (w : World) (K : Value → World → Prop) : Prop :=
  NewR (50 : Nat)
  [Value.int IntKind.i64 k0, Value.int IntKind.i64 k1, Value.int IntKind.i64 k2, Value.int IntKind.i64 k3,
  Value.int IntKind.i64 k4]
  w fun (a1 : Addr) (w1 : World) =>
  ∃ (n1 : Int),
  cellAt w1 (Addr.add a1 (0 : Nat)) (Value.int IntKind.i64 n1) ∧
  ((n1 == (1 : Int)) = true →
  ∃ (n2 : Int),
  cellAt w1 (Addr.add a1 (1 : Nat)) (Value.int IntKind.i64 n2) ∧
  NewR (3 : Nat) [Value.int IntKind.i64 n2] w1 fun (a2 : Addr) (w2 : World) =>
  K (Value.slice (some a2) (1 : Nat) (1 : Nat)) w2) ∧
  ((n1 == (1 : Int)) = false →
  ((n1 == (3 : Int)) = true →
  ∃ (n3 : Int),
  cellAt w1 (Addr.add a1 (1 : Nat)) (Value.int IntKind.i64 n3) ∧
  NewR (3 : Nat) [Value.int IntKind.i64 n3] w1 fun (a3 : Addr) (w3 : World) =>
  K (Value.slice (some a3) (1 : Nat) (1 : Nat)) w3) ∧
  ((n1 == (3 : Int)) = false →
  ((n1 == (2 : Int)) = true →
  ∃ (n4 : Int),
  cellAt w1 (Addr.add a1 (1 : Nat)) (Value.int IntKind.i64 n4) ∧
  ∃ (n5 : Int),
  cellAt w1 (Addr.add a1 (2 : Nat)) (Value.int IntKind.i64 n5) ∧
  ∃ (n6 : Int),
  cellAt w1 (Addr.add a1 (3 : Nat)) (Value.int IntKind.i64 n6) ∧
  ∃ (n7 : Int),
  cellAt w1 (Addr.add a1 (4 : Nat)) (Value.int IntKind.i64 n7) ∧
  NewR (3 : Nat) [Value.int IntKind.i64 n4, Value.int IntKind.i64 n5, Value.int IntKind.i64 n6, Value.int IntKind.i64 n7]
  w1 fun (a4 : Addr) (w4 : World) => K (Value.slice (some a4) (4 : Nat) (4 : Nat)) w4) ∧
  ((n1 == (2 : Int)) = false →
  ((n1 == (7 : Int)) = true →
  ∃ (n8 : Int),
  cellAt w1 (Addr.add a1 (3 : Nat)) (Value.int IntKind.i64 n8) ∧
  NewR (3 : Nat) [Value.int IntKind.i64 n8] w1 fun (a5 : Addr) (w5 : World) =>
  K (Value.slice (some a5) (1 : Nat) (1 : Nat)) w5) ∧
  ((n1 == (7 : Int)) = false → K (Value.slice none (0 : Nat) (0 : Nat)) w1))))
theorem cortadoref17_Numbers_eq (k0 k1 k2 k3 k4 : Int) (w : World) (K : Value → World → Prop) : fw Try.prog Try.f51 (annL []) (ordL []) [.agg #[.int .i64 k0, .int .i64 k1, .int .i64 k2, .int .i64 k3, .int .i64 k4]] w K = cortadoref17_Numbers_m k0 k1 k2 k3 k4 w K := by kernel_rfl
theorem cortadoref17_Numbers_go (k0 k1 k2 k3 k4 : Int) {w : World} {K : Value → World → Prop} (h : cortadoref17_Numbers_m k0 k1 k2 k3 k4 w K) : Rets Try.prog 51 #[.agg #[.int .i64 k0, .int .i64 k1, .int .i64 k2, .int .i64 k3, .int .i64 k4]] w K :=
  calls_of_fw plain mixed Try.func51 (by kernel_rfl) (by rw [cortadoref17_Numbers_eq]; exact h)
def cortadoref17_Put_m (q : Option Addr) (l c : Nat) (w : World) (K : Value → World → Prop) : Prop :=
  NewR (5 : Nat) [Value.int IntKind.u8 (IntKind.wrap IntKind.u8 (↑l : Int))] w fun (a1 : Addr) (w1 : World) =>
  ∃ (h1 : Nat → List Value → World → Prop),
  (∃ (k1 : Nat), h1 k1 [Value.slice (some a1) (1 : Nat) (1 : Nat), Value.int IntKind.i64 (0 : Int)] w1) ∧
  ∀ (k2 : Nat) (w2 : World) (q1 : Option Addr) (k3 k4 : Nat) (n1 : Int)
  (v1 v2 v3 v4 v5 v6 v7 v8 v9 v10 v11 v12 v13 v14 v15 v16 v17 v18 v19 v20 v21 v22 v23 : Value),
  h1 k2 [Value.slice q1 k3 k4, Value.int IntKind.i64 n1] w2 →
  (decide (n1 < (↑l : Int)) = true →
  (0 : Int) ≤ n1 ∧
  n1 < (↑l : Int) ∧
  someR q fun (a2 : Addr) =>
  ∃ (n2 : Int),
  cellAt w2 (Addr.add (Addr.add a2 (Int.toNat n1 * (5 : Nat))) (0 : Nat)) (Value.int IntKind.i64 n2) ∧
  NewR (5 : Nat) [Value.int IntKind.u8 (IntKind.wrap IntKind.u8 n2)] w2 fun (a3 : Addr) (w3 : World) =>
  RunR Try.prog
  (builtinV Builtin.append { toList := [(35 : Nat), (35 : Nat)] } (nat_lit 35)
  { toList := [Value.slice q1 k3 k4, Value.slice (some a3) (1 : Nat) (1 : Nat)] })
  w3 fun (v24 : Value) (w4 : World) =>
  ∃ (q2 : Option Addr),
  ∃ (k5 : Nat),
  ∃ (k6 : Nat),
  v24 = Value.slice q2 k5 k6 ∧
  (0 : Int) ≤ n1 ∧
  n1 < (↑l : Int) ∧
  someR q fun (a4 : Addr) =>
  ∃ (n3 : Int),
  ∃ (n4 : Int),
  ∃ (n5 : Int),
  ∃ (n6 : Int),
  ∃ (n7 : Int),
  (cellAt w4 (Addr.add (Addr.add a4 (Int.toNat n1 * (5 : Nat))) (0 : Nat)) (Value.int IntKind.i64 n3) ∧
  cellAt w4 (Addr.add (Addr.add a4 (Int.toNat n1 * (5 : Nat))) (1 : Nat)) (Value.int IntKind.i64 n4) ∧
  cellAt w4 (Addr.add (Addr.add a4 (Int.toNat n1 * (5 : Nat))) (2 : Nat)) (Value.int IntKind.i64 n5) ∧
  cellAt w4 (Addr.add (Addr.add a4 (Int.toNat n1 * (5 : Nat))) (3 : Nat)) (Value.int IntKind.i64 n6) ∧
  cellAt w4 (Addr.add (Addr.add a4 (Int.toNat n1 * (5 : Nat))) (4 : Nat)) (Value.int IntKind.i64 n7)) ∧
  Rets Try.prog (51 : Nat)
  {
  toList :=
  [Value.agg
  {
  toList :=
  [Value.int IntKind.i64 n3, Value.int IntKind.i64 n4, Value.int IntKind.i64 n5, Value.int IntKind.i64 n6,
  Value.int IntKind.i64 n7] }] }
  w4 fun (v25 : Value) (w5 : World) =>
  ∃ (q3 : Option Addr),
  ∃ (k7 : Nat),
  ∃ (k8 : Nat),
  v25 = Value.slice q3 k7 k8 ∧
  Rets Try.prog (34 : Nat) { toList := [Value.slice q3 k7 k8] } w5 fun (v26 : Value) (w6 : World) =>
  ∃ (q4 : Option Addr),
  ∃ (k9 : Nat),
  ∃ (k10 : Nat),
  v26 = Value.slice q4 k9 k10 ∧
  RunR Try.prog
  (builtinV Builtin.append { toList := [(35 : Nat), (35 : Nat)] } (nat_lit 35)
  { toList := [Value.slice q2 k5 k6, Value.slice q4 k9 k10] })
  w6 fun (v27 : Value) (w7 : World) =>
  ∃ (q5 : Option Addr),
  ∃ (k11 : Nat),
  ∃ (k12 : Nat),
  v27 = Value.slice q5 k11 k12 ∧
  ∃ (k13 : Nat),
  k13 < k2 ∧ h1 k13 [Value.slice q5 k11 k12, Value.int IntKind.i64 (IntKind.wrap IntKind.i64 (n1 + (1 : Int)))] w7) ∧
  (decide (n1 < (↑l : Int)) = false → K (Value.slice q1 k3 k4) w2)
theorem cortadoref17_Put_eq (q : Option Addr) (l c : Nat) (w : World) (K : Value → World → Prop) : fw Try.prog Try.f35 (annL [(1, [(3, some 35), (4, some 3), (9, none), (10, none), (11, none), (12, none), (13, none), (14, none), (15, none), (16, none), (17, none), (18, none), (19, none), (20, none), (21, none), (22, none), (23, none), (24, none), (25, none), (26, none), (27, none), (28, none), (29, none), (30, none), (31, none)])]) (ordL []) [.slice q l c] w K = cortadoref17_Put_m q l c w K := by kernel_rfl
theorem cortadoref17_Put_go (q : Option Addr) (l c : Nat) {w : World} {K : Value → World → Prop} (h : cortadoref17_Put_m q l c w K) : Rets Try.prog 35 #[.slice q l c] w K :=
  calls_of_fw plain mixed Try.func35 (by kernel_rfl) (by rw [cortadoref17_Put_eq]; exact h)
def cortadoref17_Same_m (q : Option Addr) (l c : Nat) (q2 : Option Addr) (l2 c2 : Nat) (w : World) (K : Value → World → Prop) : Prop :=
  (((↑l : Int) != (↑l2 : Int)) = true → K (Value.bool false) w) ∧
  (((↑l : Int) != (↑l2 : Int)) = false →
  ∃ (h1 : Nat → List Value → World → Prop),
  (∃ (k1 : Nat), h1 k1 [Value.int IntKind.i64 (0 : Int)] w) ∧
  ∀ (k2 : Nat) (w1 : World) (v1 : Value) (n1 : Int) (v2 v3 v4 v5 v6 v7 v8 v9 v10 v11 v12 v13 v14 v15 v16 : Value),
  h1 k2 [Value.int IntKind.i64 n1] w1 →
  (decide (n1 < (↑l : Int)) = true →
  Drw w1 fun (w2 : World) =>
  (0 : Int) ≤ n1 ∧
  n1 < (↑l : Int) ∧
  someR q fun (a1 : Addr) =>
  (0 : Int) ≤ n1 ∧
  n1 < (↑l2 : Int) ∧
  someR q2 fun (a2 : Addr) =>
  ∃ (n2 : Int),
  ∃ (n3 : Int),
  ∃ (n4 : Int),
  ∃ (n5 : Int),
  ∃ (n6 : Int),
  (cellAt w2 (Addr.add (Addr.add a1 (Int.toNat n1 * (5 : Nat))) (0 : Nat)) (Value.int IntKind.i64 n2) ∧
  cellAt w2 (Addr.add (Addr.add a1 (Int.toNat n1 * (5 : Nat))) (1 : Nat)) (Value.int IntKind.i64 n3) ∧
  cellAt w2 (Addr.add (Addr.add a1 (Int.toNat n1 * (5 : Nat))) (2 : Nat)) (Value.int IntKind.i64 n4) ∧
  cellAt w2 (Addr.add (Addr.add a1 (Int.toNat n1 * (5 : Nat))) (3 : Nat)) (Value.int IntKind.i64 n5) ∧
  cellAt w2 (Addr.add (Addr.add a1 (Int.toNat n1 * (5 : Nat))) (4 : Nat)) (Value.int IntKind.i64 n6)) ∧
  ∃ (n7 : Int),
  ∃ (n8 : Int),
  ∃ (n9 : Int),
  ∃ (n10 : Int),
  ∃ (n11 : Int),
  (cellAt w2 (Addr.add (Addr.add a2 (Int.toNat n1 * (5 : Nat))) (0 : Nat)) (Value.int IntKind.i64 n7) ∧
  cellAt w2 (Addr.add (Addr.add a2 (Int.toNat n1 * (5 : Nat))) (1 : Nat)) (Value.int IntKind.i64 n8) ∧
  cellAt w2 (Addr.add (Addr.add a2 (Int.toNat n1 * (5 : Nat))) (2 : Nat)) (Value.int IntKind.i64 n9) ∧
  cellAt w2 (Addr.add (Addr.add a2 (Int.toNat n1 * (5 : Nat))) (3 : Nat)) (Value.int IntKind.i64 n10) ∧
  cellAt w2 (Addr.add (Addr.add a2 (Int.toNat n1 * (5 : Nat))) (4 : Nat)) (Value.int IntKind.i64 n11)) ∧
  ((!(n2 == n7 && (n3 == n8 && (n4 == n9 && (n5 == n10 && n6 == n11))))) = true → K (Value.bool false) w2) ∧
  ((!(n2 == n7 && (n3 == n8 && (n4 == n9 && (n5 == n10 && n6 == n11))))) = false →
  ∃ (k3 : Nat), k3 < k2 ∧ h1 k3 [Value.int IntKind.i64 (IntKind.wrap IntKind.i64 (n1 + (1 : Int)))] w2)) ∧
  (decide (n1 < (↑l : Int)) = false → K (Value.bool true) w1))
theorem cortadoref17_Same_eq (q : Option Addr) (l c : Nat) (q2 : Option Addr) (l2 c2 : Nat) (w : World) (K : Value → World → Prop) : fw Try.prog Try.f30 (annL [(2, [(4, none), (5, some 3), (11, none), (12, none), (13, none), (14, none), (15, none), (16, none), (17, none), (18, none), (19, none), (20, none), (21, none), (22, none), (23, none), (24, none), (25, none)])]) (ordL [(6, [(0, 0), (1, 0), (2, 0), (4, 0), (5, 0), (6, 0), (3, 1), (7, 1), (8, 0)])]) [.slice q l c, .slice q2 l2 c2] w K = cortadoref17_Same_m q l c q2 l2 c2 w K := by kernel_rfl
theorem cortadoref17_Same_go (q : Option Addr) (l c : Nat) (q2 : Option Addr) (l2 c2 : Nat) {w : World} {K : Value → World → Prop} (h : cortadoref17_Same_m q l c q2 l2 c2 w K) : Rets Try.prog 30 #[.slice q l c, .slice q2 l2 c2] w K :=
  calls_of_fw plain mixed Try.func30 (by kernel_rfl) (by rw [cortadoref17_Same_eq]; exact h)
end Go.Proofs.Ytppmdifhoejhjaa.Eng
