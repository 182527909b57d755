/- What the code of these functions asks for: printed by a program of this session's (gens.py) out of the seat's own functions; the kernel checks each row. -/
import Derived.Test.YtggflkjdgcdcmaaGreatDoorEngH
import Derived.Test.YtggflkjdgcdcmaaGreatDoorProg
import Derived.Test.YtggflkjdgcdcmaaGreatDoorBase
namespace Go.Proofs.YtggflkjdgcdcmaaGreatDoor.Eng
open Go Go.Proofs
set_option linter.unusedVariables false
set_option maxRecDepth 1000000
def cortadoref26_New_m (a b s : Int) (w : World) (K : Value → World → Prop) : Prop :=
  NewR (43 : Nat)
  [Value.slice none (0 : Nat) (0 : Nat), Value.int IntKind.i64 (0 : Int), Value.int IntKind.u64 (0 : Int),
  Value.slice none (0 : Nat) (0 : Nat), Value.int IntKind.u64 (0 : Int), Value.int IntKind.i64 (0 : Int),
  Value.int IntKind.i64 (0 : Int), Value.int IntKind.i64 (0 : Int), Value.int IntKind.i64 (0 : Int),
  Value.int IntKind.u64 (0 : Int), Value.slice none (0 : Nat) (0 : Nat), Value.int IntKind.i64 (0 : Int)]
  w fun (a1 : Addr) (w1 : World) =>
  Rets Tryz.prog (23 : Nat) { toList := [Value.int IntKind.i64 b, Value.int IntKind.u64 s] } w1
  fun (v1 : Value) (w2 : World) =>
  ∃ (q1 : Option Addr),
  ∃ (k1 : Nat),
  ∃ (k2 : Nat),
  ∃ (n1 : Int),
  ∃ (n2 : Int),
  ∃ (q2 : Option Addr),
  ∃ (k3 : Nat),
  ∃ (k4 : Nat),
  ∃ (n3 : Int),
  ∃ (n4 : Int),
  ∃ (n5 : Int),
  ∃ (n6 : Int),
  ∃ (n7 : Int),
  ∃ (n8 : Int),
  v1 =
  Value.agg
  {
  toList :=
  [Value.slice q1 k1 k2, Value.int IntKind.i64 n1, Value.int IntKind.u64 n2, Value.slice q2 k3 k4,
  Value.int IntKind.u64 n3, Value.int IntKind.i64 n4, Value.int IntKind.i64 n5, Value.int IntKind.i64 n6,
  Value.int IntKind.i64 n7, Value.int IntKind.u64 n8] } ∧
  Rets Tryz.prog (24 : Nat) { toList := [Value.int IntKind.i64 a] } w2 fun (v2 : Value) (w3 : World) =>
  ∃ (n9 : Int),
  v2 = Value.int IntKind.i64 n9 ∧
  StoreR a1
  [Value.slice q1 k1 k2, Value.int IntKind.i64 n1, Value.int IntKind.u64 n2, Value.slice q2 k3 k4,
  Value.int IntKind.u64 n3, Value.int IntKind.i64 n4, Value.int IntKind.i64 n5, Value.int IntKind.i64 n6,
  Value.int IntKind.i64 n7, Value.int IntKind.u64 n8, Value.slice none (0 : Nat) (0 : Nat), Value.int IntKind.i64 n9]
  w3 fun (w4 : World) =>
  ∃ (q3 : Option Addr),
  ∃ (k5 : Nat),
  ∃ (k6 : Nat),
  ∃ (n10 : Int),
  ∃ (n11 : Int),
  ∃ (q4 : Option Addr),
  ∃ (k7 : Nat),
  ∃ (k8 : Nat),
  ∃ (n12 : Int),
  ∃ (n13 : Int),
  ∃ (n14 : Int),
  ∃ (n15 : Int),
  ∃ (n16 : Int),
  ∃ (n17 : Int),
  ∃ (q5 : Option Addr),
  ∃ (k9 : Nat),
  ∃ (k10 : Nat),
  ∃ (n18 : Int),
  (cellAt w4 (Addr.add a1 (0 : Nat)) (Value.slice q3 k5 k6) ∧
  cellAt w4 (Addr.add a1 (1 : Nat)) (Value.int IntKind.i64 n10) ∧
  cellAt w4 (Addr.add a1 (2 : Nat)) (Value.int IntKind.u64 n11) ∧
  cellAt w4 (Addr.add a1 (3 : Nat)) (Value.slice q4 k7 k8) ∧
  cellAt w4 (Addr.add a1 (4 : Nat)) (Value.int IntKind.u64 n12) ∧
  cellAt w4 (Addr.add a1 (5 : Nat)) (Value.int IntKind.i64 n13) ∧
  cellAt w4 (Addr.add a1 (6 : Nat)) (Value.int IntKind.i64 n14) ∧
  cellAt w4 (Addr.add a1 (7 : Nat)) (Value.int IntKind.i64 n15) ∧
  cellAt w4 (Addr.add a1 (8 : Nat)) (Value.int IntKind.i64 n16) ∧
  cellAt w4 (Addr.add a1 (9 : Nat)) (Value.int IntKind.u64 n17) ∧
  cellAt w4 (Addr.add a1 (10 : Nat)) (Value.slice q5 k9 k10) ∧
  cellAt w4 (Addr.add a1 (11 : Nat)) (Value.int IntKind.i64 n18)) ∧
  K
  (Value.agg
  {
  toList :=
  [Value.slice q3 k5 k6, Value.int IntKind.i64 n10, Value.int IntKind.u64 n11, Value.slice q4 k7 k8,
  Value.int IntKind.u64 n12, Value.int IntKind.i64 n13, Value.int IntKind.i64 n14, Value.int IntKind.i64 n15,
  Value.int IntKind.i64 n16, Value.int IntKind.u64 n17, Value.slice q5 k9 k10, Value.int IntKind.i64 n18] })
  w4
theorem cortadoref26_New_eq (a b s : Int) (w : World) (K : Value → World → Prop) : fw Tryz.prog Tryz.f7 (annL []) (ordL []) [.int .i64 a, .int .i64 b, .int .u64 s] w K = cortadoref26_New_m a b s w K := by kernel_rfl
theorem cortadoref26_New_go (a b s : Int) {w : World} {K : Value → World → Prop} (h : cortadoref26_New_m a b s w K) : Rets Tryz.prog 7 #[.int .i64 a, .int .i64 b, .int .u64 s] w K :=
  calls_of_fw plain mixed Tryz.func7 (by kernel_rfl) (by rw [cortadoref26_New_eq]; exact h)
def cortadoref26_one_m (q1 : Option Addr) (l1 c1 : Nat) (wd s1 : Int) (q2 : Option Addr) (l2 c2 : Nat) (s2 ct lim ag ks sd : Int) (q3 : Option Addr) (l3 c3 : Nat) (mo : Int) (q : Option Addr) (l c gd : Nat) (most : Int) (w : World) (K : Value → World → Prop) : Prop :=
  NewR (43 : Nat)
  [Value.slice q1 l1 c1, Value.int IntKind.i64 wd, Value.int IntKind.u64 s1, Value.slice q2 l2 c2,
  Value.int IntKind.u64 s2, Value.int IntKind.i64 ct, Value.int IntKind.i64 lim, Value.int IntKind.i64 ag,
  Value.int IntKind.i64 ks, Value.int IntKind.u64 sd, Value.slice q3 l3 c3, Value.int IntKind.i64 mo]
  w fun (a1 : Addr) (w1 : World) =>
  NewR (43 : Nat)
  [Value.slice none (0 : Nat) (0 : Nat), Value.int IntKind.i64 (0 : Int), Value.int IntKind.u64 (0 : Int),
  Value.slice none (0 : Nat) (0 : Nat), Value.int IntKind.u64 (0 : Int), Value.int IntKind.i64 (0 : Int),
  Value.int IntKind.i64 (0 : Int), Value.int IntKind.i64 (0 : Int), Value.int IntKind.i64 (0 : Int),
  Value.int IntKind.u64 (0 : Int), Value.slice none (0 : Nat) (0 : Nat), Value.int IntKind.i64 (0 : Int)]
  w1 fun (a2 : Addr) (w2 : World) =>
  NewR (115 : Nat) [Value.int IntKind.u64 (0 : Int), Value.int IntKind.i64 (0 : Int)] w2 fun (a3 : Addr) (w3 : World) =>
  ∃ (q1 : Option Addr),
  ∃ (k1 : Nat),
  ∃ (k2 : Nat),
  ∃ (n1 : Int),
  (cellAt w3 (Addr.add (Addr.add a1 (10 : Nat)) (0 : Nat)) (Value.slice q1 k1 k2) ∧
  cellAt w3 (Addr.add (Addr.add a1 (10 : Nat)) (1 : Nat)) (Value.int IntKind.i64 n1)) ∧
  Rets Tryz.prog (102 : Nat)
  {
  toList :=
  [Value.agg { toList := [Value.slice q1 k1 k2, Value.int IntKind.i64 n1] }, Value.slice q l c,
  Value.pointer (some { block := gd, off := (0 : Nat) })] }
  w3 fun (v1 : Value) (w4 : World) =>
  ∃ (q2 : Option Addr),
  ∃ (k3 : Nat),
  ∃ (k4 : Nat),
  v1 = Value.slice q2 k3 k4 ∧
  ∃ (h1 : Nat → List Value → World → Prop),
  (∃ (k5 : Nat), h1 k5 [Value.slice none (0 : Nat) (0 : Nat), Value.int IntKind.i64 (0 : Int)] w4) ∧
  ∀ (k6 : Nat) (w5 : World) (q3 : Option Addr) (k7 k8 : Nat) (n2 : Int)
  (v2 v3 v4 v5 v6 v7 v8 v9 v10 v11 v12 v13 v14 v15 v16 v17 : Value),
  h1 k6 [Value.slice q3 k7 k8, Value.int IntKind.i64 n2] w5 →
  (decide (n2 < (↑k3 : Int)) = true →
  Drw w5 fun (w6 : World) =>
  (0 : Int) ≤ n2 ∧
  n2 < (↑k3 : Int) ∧
  someR q2 fun (a4 : Addr) =>
  ∃ (q4 : Option Addr),
  ∃ (k9 : Nat),
  ∃ (k10 : Nat),
  ∃ (n3 : Int),
  ∃ (n4 : Int),
  ∃ (q5 : Option Addr),
  ∃ (k11 : Nat),
  ∃ (k12 : Nat),
  ∃ (n5 : Int),
  ∃ (n6 : Int),
  ∃ (n7 : Int),
  ∃ (n8 : Int),
  ∃ (n9 : Int),
  ∃ (n10 : Int),
  (cellAt w6 (Addr.add (Addr.add a1 (0 : Nat)) (0 : Nat)) (Value.slice q4 k9 k10) ∧
  cellAt w6 (Addr.add (Addr.add a1 (0 : Nat)) (1 : Nat)) (Value.int IntKind.i64 n3) ∧
  cellAt w6 (Addr.add (Addr.add a1 (0 : Nat)) (2 : Nat)) (Value.int IntKind.u64 n4) ∧
  cellAt w6 (Addr.add (Addr.add a1 (0 : Nat)) (3 : Nat)) (Value.slice q5 k11 k12) ∧
  cellAt w6 (Addr.add (Addr.add a1 (0 : Nat)) (4 : Nat)) (Value.int IntKind.u64 n5) ∧
  cellAt w6 (Addr.add (Addr.add a1 (0 : Nat)) (5 : Nat)) (Value.int IntKind.i64 n6) ∧
  cellAt w6 (Addr.add (Addr.add a1 (0 : Nat)) (6 : Nat)) (Value.int IntKind.i64 n7) ∧
  cellAt w6 (Addr.add (Addr.add a1 (0 : Nat)) (7 : Nat)) (Value.int IntKind.i64 n8) ∧
  cellAt w6 (Addr.add (Addr.add a1 (0 : Nat)) (8 : Nat)) (Value.int IntKind.i64 n9) ∧
  cellAt w6 (Addr.add (Addr.add a1 (0 : Nat)) (9 : Nat)) (Value.int IntKind.u64 n10)) ∧
  ∃ (n11 : Int),
  cellAt w6 (Addr.add a4 (Int.toNat n2 * (1 : Nat))) (Value.int IntKind.u64 n11) ∧
  Rets Tryz.prog (13 : Nat)
  {
  toList :=
  [Value.agg
  {
  toList :=
  [Value.slice q4 k9 k10, Value.int IntKind.i64 n3, Value.int IntKind.u64 n4, Value.slice q5 k11 k12,
  Value.int IntKind.u64 n5, Value.int IntKind.i64 n6, Value.int IntKind.i64 n7, Value.int IntKind.i64 n8,
  Value.int IntKind.i64 n9, Value.int IntKind.u64 n10] },
  Value.int IntKind.u64 n11] }
  w6 fun (v18 : Value) (w7 : World) =>
  ∃ (n12 : Int),
  v18 = Value.int IntKind.i64 n12 ∧
  NewR (3 : Nat) [Value.int IntKind.i64 n12] w7 fun (a5 : Addr) (w8 : World) =>
  RunR Tryz.prog
  (builtinV Builtin.append { toList := [(22 : Nat), (22 : Nat)] } (nat_lit 22)
  { toList := [Value.slice q3 k7 k8, Value.slice (some a5) (1 : Nat) (1 : Nat)] })
  w8 fun (v19 : Value) (w9 : World) =>
  ∃ (q6 : Option Addr),
  ∃ (k13 : Nat),
  ∃ (k14 : Nat),
  v19 = Value.slice q6 k13 k14 ∧
  ∃ (k15 : Nat),
  k15 < k6 ∧ h1 k15 [Value.slice q6 k13 k14, Value.int IntKind.i64 (IntKind.wrap IntKind.i64 (n2 + (1 : Int)))] w9) ∧
  (decide (n2 < (↑k3 : Int)) = false →
  Rets Tryz.prog (103 : Nat) { toList := [Value.slice q3 k7 k8] } w5 fun (v20 : Value) (w10 : World) =>
  ∃ (n13 : Int),
  ∃ (n14 : Int),
  ∃ (b1 : Bool),
  v20 = Value.tuple { toList := [Value.int IntKind.i64 n13, Value.int IntKind.i64 n14, Value.bool b1] } ∧
  ∃ (h2 : List Value → World → Prop),
  (((!b1) = false → h2 [Value.bool (decide (n14 > most))] w10) ∧ ((!b1) = true → h2 [Value.bool true] w10)) ∧
  ∀ (w11 : World) (v21 v22 v23 v24 v25 v26 : Value) (b2 : Bool),
  h2 [Value.bool b2] w11 →
  (b2 = true →
  ∃ (q7 : Option Addr),
  ∃ (k16 : Nat),
  ∃ (k17 : Nat),
  ∃ (n15 : Int),
  ∃ (n16 : Int),
  ∃ (q8 : Option Addr),
  ∃ (k18 : Nat),
  ∃ (k19 : Nat),
  ∃ (n17 : Int),
  ∃ (n18 : Int),
  ∃ (n19 : Int),
  ∃ (n20 : Int),
  ∃ (n21 : Int),
  ∃ (n22 : Int),
  ∃ (q9 : Option Addr),
  ∃ (k20 : Nat),
  ∃ (k21 : Nat),
  ∃ (n23 : Int),
  (cellAt w11 (Addr.add a1 (0 : Nat)) (Value.slice q7 k16 k17) ∧
  cellAt w11 (Addr.add a1 (1 : Nat)) (Value.int IntKind.i64 n15) ∧
  cellAt w11 (Addr.add a1 (2 : Nat)) (Value.int IntKind.u64 n16) ∧
  cellAt w11 (Addr.add a1 (3 : Nat)) (Value.slice q8 k18 k19) ∧
  cellAt w11 (Addr.add a1 (4 : Nat)) (Value.int IntKind.u64 n17) ∧
  cellAt w11 (Addr.add a1 (5 : Nat)) (Value.int IntKind.i64 n18) ∧
  cellAt w11 (Addr.add a1 (6 : Nat)) (Value.int IntKind.i64 n19) ∧
  cellAt w11 (Addr.add a1 (7 : Nat)) (Value.int IntKind.i64 n20) ∧
  cellAt w11 (Addr.add a1 (8 : Nat)) (Value.int IntKind.i64 n21) ∧
  cellAt w11 (Addr.add a1 (9 : Nat)) (Value.int IntKind.u64 n22) ∧
  cellAt w11 (Addr.add a1 (10 : Nat)) (Value.slice q9 k20 k21) ∧
  cellAt w11 (Addr.add a1 (11 : Nat)) (Value.int IntKind.i64 n23)) ∧
  StoreR a2
  [Value.slice q7 k16 k17, Value.int IntKind.i64 n15, Value.int IntKind.u64 n16, Value.slice q8 k18 k19,
  Value.int IntKind.u64 n17, Value.int IntKind.i64 n18, Value.int IntKind.i64 n19, Value.int IntKind.i64 n20,
  Value.int IntKind.i64 n21, Value.int IntKind.u64 n22, Value.slice q9 k20 k21, Value.int IntKind.i64 n23]
  w11 fun (w12 : World) =>
  StoreR a3 [Value.int IntKind.u64 (0 : Int), Value.int IntKind.i64 (0 : Int)] w12 fun (w13 : World) =>
  ∃ (q10 : Option Addr),
  ∃ (k22 : Nat),
  ∃ (k23 : Nat),
  ∃ (n24 : Int),
  ∃ (n25 : Int),
  ∃ (q11 : Option Addr),
  ∃ (k24 : Nat),
  ∃ (k25 : Nat),
  ∃ (n26 : Int),
  ∃ (n27 : Int),
  ∃ (n28 : Int),
  ∃ (n29 : Int),
  ∃ (n30 : Int),
  ∃ (n31 : Int),
  ∃ (q12 : Option Addr),
  ∃ (k26 : Nat),
  ∃ (k27 : Nat),
  ∃ (n32 : Int),
  (cellAt w13 (Addr.add a2 (0 : Nat)) (Value.slice q10 k22 k23) ∧
  cellAt w13 (Addr.add a2 (1 : Nat)) (Value.int IntKind.i64 n24) ∧
  cellAt w13 (Addr.add a2 (2 : Nat)) (Value.int IntKind.u64 n25) ∧
  cellAt w13 (Addr.add a2 (3 : Nat)) (Value.slice q11 k24 k25) ∧
  cellAt w13 (Addr.add a2 (4 : Nat)) (Value.int IntKind.u64 n26) ∧
  cellAt w13 (Addr.add a2 (5 : Nat)) (Value.int IntKind.i64 n27) ∧
  cellAt w13 (Addr.add a2 (6 : Nat)) (Value.int IntKind.i64 n28) ∧
  cellAt w13 (Addr.add a2 (7 : Nat)) (Value.int IntKind.i64 n29) ∧
  cellAt w13 (Addr.add a2 (8 : Nat)) (Value.int IntKind.i64 n30) ∧
  cellAt w13 (Addr.add a2 (9 : Nat)) (Value.int IntKind.u64 n31) ∧
  cellAt w13 (Addr.add a2 (10 : Nat)) (Value.slice q12 k26 k27) ∧
  cellAt w13 (Addr.add a2 (11 : Nat)) (Value.int IntKind.i64 n32)) ∧
  ∃ (n33 : Int),
  ∃ (n34 : Int),
  (cellAt w13 (Addr.add a3 (0 : Nat)) (Value.int IntKind.u64 n33) ∧
  cellAt w13 (Addr.add a3 (1 : Nat)) (Value.int IntKind.i64 n34)) ∧
  K
  (Value.tuple
  {
  toList :=
  [Value.agg
  {
  toList :=
  [Value.slice q10 k22 k23, Value.int IntKind.i64 n24, Value.int IntKind.u64 n25, Value.slice q11 k24 k25,
  Value.int IntKind.u64 n26, Value.int IntKind.i64 n27, Value.int IntKind.i64 n28, Value.int IntKind.i64 n29,
  Value.int IntKind.i64 n30, Value.int IntKind.u64 n31, Value.slice q12 k26 k27, Value.int IntKind.i64 n32] },
  Value.slice q2 k3 k4, Value.agg { toList := [Value.int IntKind.u64 n33, Value.int IntKind.i64 n34] },
  Value.bool false] })
  w13) ∧
  (b2 = false →
  ∃ (h3 : List Value → World → Prop),
  (Drw w11 fun (w14 : World) =>
  (0 : Int) ≤ n13 ∧
  n13 < (↑k3 : Int) ∧
  someR q2 fun (a6 : Addr) =>
  ∃ (q13 : Option Addr),
  ∃ (k28 : Nat),
  ∃ (k29 : Nat),
  ∃ (n35 : Int),
  (cellAt w14 (Addr.add (Addr.add a1 (10 : Nat)) (0 : Nat)) (Value.slice q13 k28 k29) ∧
  cellAt w14 (Addr.add (Addr.add a1 (10 : Nat)) (1 : Nat)) (Value.int IntKind.i64 n35)) ∧
  ∃ (n36 : Int),
  cellAt w14 (Addr.add a6 (Int.toNat n13 * (1 : Nat))) (Value.int IntKind.u64 n36) ∧
  Rets Tryz.prog (28 : Nat)
  { toList := [Value.agg { toList := [Value.slice q13 k28 k29, Value.int IntKind.i64 n35] }, Value.int IntKind.u64 n36] }
  w14 fun (v27 : Value) (w15 : World) =>
  ∃ (n37 : Int),
  ∃ (b3 : Bool),
  v27 = Value.tuple { toList := [Value.int IntKind.i64 n37, Value.bool b3] } ∧ h3 [Value.int IntKind.i64 n37] w15) ∧
  ∀ (w16 : World) (n38 : Int) (v28 v29 v30 v31 v32 v33 v34 v35 v36 v37 v38 : Value),
  h3 [Value.int IntKind.i64 n38] w16 →
  (0 : Int) ≤ n13 ∧
  n13 < (↑k3 : Int) ∧
  someR q2 fun (a7 : Addr) =>
  ∃ (n39 : Int),
  cellAt w16 (Addr.add a7 (Int.toNat n13 * (1 : Nat))) (Value.int IntKind.u64 n39) ∧
  NewR (115 : Nat) [Value.int IntKind.u64 (0 : Int), Value.int IntKind.i64 (0 : Int)] w16 fun (a8 : Addr) (w17 : World) =>
  StoreR a8 [Value.int IntKind.u64 n39, Value.int IntKind.i64 n38] w17 fun (w18 : World) =>
  ∃ (h4 : List Value → World → Prop),
  (Drw w18 fun (w19 : World) =>
  (0 : Int) ≤ n13 ∧
  n13 < (↑k3 : Int) ∧
  someR q2 fun (a9 : Addr) =>
  ∃ (q14 : Option Addr),
  ∃ (k30 : Nat),
  ∃ (k31 : Nat),
  ∃ (n40 : Int),
  (cellAt w19 (Addr.add (Addr.add a1 (10 : Nat)) (0 : Nat)) (Value.slice q14 k30 k31) ∧
  cellAt w19 (Addr.add (Addr.add a1 (10 : Nat)) (1 : Nat)) (Value.int IntKind.i64 n40)) ∧
  ∃ (n41 : Int),
  cellAt w19 (Addr.add a9 (Int.toNat n13 * (1 : Nat))) (Value.int IntKind.u64 n41) ∧
  Rets Tryz.prog (29 : Nat)
  { toList := [Value.agg { toList := [Value.slice q14 k30 k31, Value.int IntKind.i64 n40] }, Value.int IntKind.u64 n41] }
  w19 fun (v39 : Value) (w20 : World) =>
  ∃ (q15 : Option Addr),
  ∃ (k32 : Nat),
  ∃ (k33 : Nat),
  ∃ (n42 : Int),
  v39 = Value.agg { toList := [Value.slice q15 k32 k33, Value.int IntKind.i64 n42] } ∧
  StoreR (Addr.add a1 (10 : Nat)) [Value.slice q15 k32 k33, Value.int IntKind.i64 n42] w20 fun (w21 : World) =>
  h4 [] w21) ∧
  ∀ (w22 : World) (v40 v41 v42 v43 v44 v45 v46 v47 : Value),
  h4 [] w22 →
  ∃ (h5 : List Value → World → Prop),
  (Drw w22 fun (w23 : World) =>
  ∃ (h6 : World → Prop),
  h6 w23 ∧
  ∃ (q16 : Option Addr),
  ∃ (k34 : Nat),
  ∃ (k35 : Nat),
  ∃ (n43 : Int),
  ∃ (n44 : Int),
  ∃ (q17 : Option Addr),
  ∃ (k36 : Nat),
  ∃ (k37 : Nat),
  ∃ (n45 : Int),
  ∃ (n46 : Int),
  ∃ (n47 : Int),
  ∃ (n48 : Int),
  ∃ (n49 : Int),
  ∃ (n50 : Int),
  ∃ (q18 : Option Addr),
  ∃ (k38 : Nat),
  ∃ (k39 : Nat),
  ∃ (n51 : Int),
  ((∀ (w24 : World), h6 w24 → World.cell? w24 (Addr.add a1 (0 : Nat)) = some (Value.slice q16 k34 k35)) ∧
  (∀ (w25 : World), h6 w25 → World.cell? w25 (Addr.add a1 ((0 : Nat) + (1 : Nat))) = some (Value.int IntKind.i64 n43)) ∧
  (∀ (w26 : World),
  h6 w26 → World.cell? w26 (Addr.add a1 ((0 : Nat) + (1 : Nat) + (1 : Nat))) = some (Value.int IntKind.u64 n44)) ∧
  (∀ (w27 : World),
  h6 w27 →
  World.cell? w27 (Addr.add a1 ((0 : Nat) + (1 : Nat) + (1 : Nat) + (1 : Nat))) = some (Value.slice q17 k36 k37)) ∧
  (∀ (w28 : World),
  h6 w28 →
  World.cell? w28 (Addr.add a1 ((0 : Nat) + (1 : Nat) + (1 : Nat) + (1 : Nat) + (1 : Nat))) =
  some (Value.int IntKind.u64 n45)) ∧
  (∀ (w29 : World),
  h6 w29 →
  World.cell? w29 (Addr.add a1 ((0 : Nat) + (1 : Nat) + (1 : Nat) + (1 : Nat) + (1 : Nat) + (1 : Nat))) =
  some (Value.int IntKind.i64 n46)) ∧
  (∀ (w30 : World),
  h6 w30 →
  World.cell? w30 (Addr.add a1 ((0 : Nat) + (1 : Nat) + (1 : Nat) + (1 : Nat) + (1 : Nat) + (1 : Nat) + (1 : Nat))) =
  some (Value.int IntKind.i64 n47)) ∧
  (∀ (w31 : World),
  h6 w31 →
  World.cell? w31
  (Addr.add a1 ((0 : Nat) + (1 : Nat) + (1 : Nat) + (1 : Nat) + (1 : Nat) + (1 : Nat) + (1 : Nat) + (1 : Nat))) =
  some (Value.int IntKind.i64 n48)) ∧
  (∀ (w32 : World),
  h6 w32 →
  World.cell? w32
  (Addr.add a1
  ((0 : Nat) + (1 : Nat) + (1 : Nat) + (1 : Nat) + (1 : Nat) + (1 : Nat) + (1 : Nat) + (1 : Nat) + (1 : Nat))) =
  some (Value.int IntKind.i64 n49)) ∧
  (∀ (w33 : World),
  h6 w33 →
  World.cell? w33
  (Addr.add a1
  ((0 : Nat) + (1 : Nat) + (1 : Nat) + (1 : Nat) + (1 : Nat) + (1 : Nat) + (1 : Nat) + (1 : Nat) + (1 : Nat) +
  (1 : Nat))) =
  some (Value.int IntKind.u64 n50)) ∧
  (∀ (w34 : World),
  h6 w34 →
  World.cell? w34
  (Addr.add a1
  ((0 : Nat) + (1 : Nat) + (1 : Nat) + (1 : Nat) + (1 : Nat) + (1 : Nat) + (1 : Nat) + (1 : Nat) + (1 : Nat) + (1 : Nat) +
  (1 : Nat))) =
  some (Value.slice q18 k38 k39)) ∧
  ∀ (w35 : World),
  h6 w35 →
  World.cell? w35
  (Addr.add a1
  ((0 : Nat) + (1 : Nat) + (1 : Nat) + (1 : Nat) + (1 : Nat) + (1 : Nat) + (1 : Nat) + (1 : Nat) + (1 : Nat) + (1 : Nat) +
  (1 : Nat) +
  (1 : Nat))) =
  some (Value.int IntKind.i64 n51)) ∧
  ∃ (n52 : Int),
  ∃ (n53 : Int),
  ((∀ (w36 : World), h6 w36 → World.cell? w36 (Addr.add a8 (0 : Nat)) = some (Value.int IntKind.u64 n52)) ∧
  ∀ (w37 : World), h6 w37 → World.cell? w37 (Addr.add a8 ((0 : Nat) + (1 : Nat))) = some (Value.int IntKind.i64 n53)) ∧
  Rets Tryz.prog (104 : Nat) { toList := [Value.slice q2 k3 k4, Value.int IntKind.i64 n13] } w23
  fun (v48 : Value) (w38 : World) =>
  ∃ (q19 : Option Addr),
  ∃ (k40 : Nat),
  ∃ (k41 : Nat),
  v48 = Value.slice q19 k40 k41 ∧
  h6 w38 ∧
  StoreR a2
  [Value.slice q16 k34 k35, Value.int IntKind.i64 n43, Value.int IntKind.u64 n44, Value.slice q17 k36 k37,
  Value.int IntKind.u64 n45, Value.int IntKind.i64 n46, Value.int IntKind.i64 n47, Value.int IntKind.i64 n48,
  Value.int IntKind.i64 n49, Value.int IntKind.u64 n50, Value.slice q18 k38 k39, Value.int IntKind.i64 n51]
  w38 fun (w39 : World) =>
  h6 w39 ∧
  StoreR a3 [Value.int IntKind.u64 n52, Value.int IntKind.i64 n53] w39 fun (w40 : World) =>
  h5 [Value.slice q19 k40 k41, Value.bool true] w40) ∧
  ∀ (w41 : World) (q20 : Option Addr) (k42 k43 : Nat) (b4 : Bool) (v49 v50 v51 v52 v53 : Value),
  h5 [Value.slice q20 k42 k43, Value.bool b4] w41 →
  ∃ (q21 : Option Addr),
  ∃ (k44 : Nat),
  ∃ (k45 : Nat),
  ∃ (n54 : Int),
  ∃ (n55 : Int),
  ∃ (q22 : Option Addr),
  ∃ (k46 : Nat),
  ∃ (k47 : Nat),
  ∃ (n56 : Int),
  ∃ (n57 : Int),
  ∃ (n58 : Int),
  ∃ (n59 : Int),
  ∃ (n60 : Int),
  ∃ (n61 : Int),
  ∃ (q23 : Option Addr),
  ∃ (k48 : Nat),
  ∃ (k49 : Nat),
  ∃ (n62 : Int),
  (cellAt w41 (Addr.add a2 (0 : Nat)) (Value.slice q21 k44 k45) ∧
  cellAt w41 (Addr.add a2 (1 : Nat)) (Value.int IntKind.i64 n54) ∧
  cellAt w41 (Addr.add a2 (2 : Nat)) (Value.int IntKind.u64 n55) ∧
  cellAt w41 (Addr.add a2 (3 : Nat)) (Value.slice q22 k46 k47) ∧
  cellAt w41 (Addr.add a2 (4 : Nat)) (Value.int IntKind.u64 n56) ∧
  cellAt w41 (Addr.add a2 (5 : Nat)) (Value.int IntKind.i64 n57) ∧
  cellAt w41 (Addr.add a2 (6 : Nat)) (Value.int IntKind.i64 n58) ∧
  cellAt w41 (Addr.add a2 (7 : Nat)) (Value.int IntKind.i64 n59) ∧
  cellAt w41 (Addr.add a2 (8 : Nat)) (Value.int IntKind.i64 n60) ∧
  cellAt w41 (Addr.add a2 (9 : Nat)) (Value.int IntKind.u64 n61) ∧
  cellAt w41 (Addr.add a2 (10 : Nat)) (Value.slice q23 k48 k49) ∧
  cellAt w41 (Addr.add a2 (11 : Nat)) (Value.int IntKind.i64 n62)) ∧
  ∃ (n63 : Int),
  ∃ (n64 : Int),
  (cellAt w41 (Addr.add a3 (0 : Nat)) (Value.int IntKind.u64 n63) ∧
  cellAt w41 (Addr.add a3 (1 : Nat)) (Value.int IntKind.i64 n64)) ∧
  K
  (Value.tuple
  {
  toList :=
  [Value.agg
  {
  toList :=
  [Value.slice q21 k44 k45, Value.int IntKind.i64 n54, Value.int IntKind.u64 n55, Value.slice q22 k46 k47,
  Value.int IntKind.u64 n56, Value.int IntKind.i64 n57, Value.int IntKind.i64 n58, Value.int IntKind.i64 n59,
  Value.int IntKind.i64 n60, Value.int IntKind.u64 n61, Value.slice q23 k48 k49, Value.int IntKind.i64 n62] },
  Value.slice q20 k42 k43, Value.agg { toList := [Value.int IntKind.u64 n63, Value.int IntKind.i64 n64] },
  Value.bool b4] })
  w41))
theorem cortadoref26_one_eq (q1 : Option Addr) (l1 c1 : Nat) (wd s1 : Int) (q2 : Option Addr) (l2 c2 : Nat) (s2 ct lim ag ks sd : Int) (q3 : Option Addr) (l3 c3 : Nat) (mo : Int) (q : Option Addr) (l c gd : Nat) (most : Int) (w : World) (K : Value → World → Prop) : fw Tryz.prog Tryz.f78 (annL [(1, [(12, some 22), (13, some 3), (25, none), (26, none), (27, none), (28, none), (29, none), (30, none), (31, none), (32, none), (33, none), (34, none), (35, none), (36, none), (37, none), (38, none), (39, none), (40, none)])]) (ordL [(6, [(0, 0), (1, 0), (3, 0), (4, 0), (5, 0), (2, 1), (6, 1), (7, 3), (8, 3), (9, 3), (10, 0)]), (2000008, [(47, 0), (48, 0), (49, 0), (50, 0), (51, 0), (52, 0), (53, 5)]), (2000010, [(17, 4), (18, 0), (57, 0), (58, 0), (59, 0), (60, 0), (61, 0), (62, 0), (63, 0), (64, 0), (65, 0), (66, 0)]), (10, [(0, 0), (2, 0), (3, 0), (4, 0), (1, 1), (5, 1), (6, 3), (7, 0), (8, 0), (9, 0), (10, 0), (11, 0)]), (2000012, [(73, 0), (74, 0), (75, 0), (76, 0), (77, 0), (78, 0), (79, 0), (80, 0)]), (12, [(0, 0), (2, 0), (3, 0), (4, 0), (1, 1), (5, 1), (6, 3), (7, 0), (8, 3)]), (2000013, [(9, 88), (11, 5), (81, 0), (82, 0), (83, 0), (84, 0), (85, 0)]), (13, [(1, 0), (2, 0), (0, 1), (4, 1), (3, 2), (5, 2), (6, 0), (7, 3), (8, 0)])]) [.agg #[.slice q1 l1 c1, .int .i64 wd, .int .u64 s1, .slice q2 l2 c2, .int .u64 s2, .int .i64 ct, .int .i64 lim, .int .i64 ag, .int .i64 ks, .int .u64 sd, .slice q3 l3 c3, .int .i64 mo], .slice q l c, .pointer (some ⟨gd, 0, none⟩), .int .i64 most] w K = cortadoref26_one_m q1 l1 c1 wd s1 q2 l2 c2 s2 ct lim ag ks sd q3 l3 c3 mo q l c gd most w K := by kernel_rfl
theorem cortadoref26_one_go (q1 : Option Addr) (l1 c1 : Nat) (wd s1 : Int) (q2 : Option Addr) (l2 c2 : Nat) (s2 ct lim ag ks sd : Int) (q3 : Option Addr) (l3 c3 : Nat) (mo : Int) (q : Option Addr) (l c gd : Nat) (most : Int) {w : World} {K : Value → World → Prop} (h : cortadoref26_one_m q1 l1 c1 wd s1 q2 l2 c2 s2 ct lim ag ks sd q3 l3 c3 mo q l c gd most w K) : Rets Tryz.prog 78 #[.agg #[.slice q1 l1 c1, .int .i64 wd, .int .u64 s1, .slice q2 l2 c2, .int .u64 s2, .int .i64 ct, .int .i64 lim, .int .i64 ag, .int .i64 ks, .int .u64 sd, .slice q3 l3 c3, .int .i64 mo], .slice q l c, .pointer (some ⟨gd, 0, none⟩), .int .i64 most] w K :=
  calls_of_fw plain mixed Tryz.func78 (by kernel_rfl) (by rw [cortadoref26_one_eq]; exact h)
def cortadoref26_until_m (q1 : Option Addr) (l1 c1 : Nat) (wd s1 : Int) (q2 : Option Addr) (l2 c2 : Nat) (s2 ct lim ag ks sd : Int) (q3 : Option Addr) (l3 c3 : Nat) (mo : Int) (us : Int) (gd : Nat) (most : Int) (w : World) (K : Value → World → Prop) : Prop :=
  NewR (43 : Nat)
  [Value.slice q1 l1 c1, Value.int IntKind.i64 wd, Value.int IntKind.u64 s1, Value.slice q2 l2 c2,
  Value.int IntKind.u64 s2, Value.int IntKind.i64 ct, Value.int IntKind.i64 lim, Value.int IntKind.i64 ag,
  Value.int IntKind.i64 ks, Value.int IntKind.u64 sd, Value.slice q3 l3 c3, Value.int IntKind.i64 mo]
  w fun (a1 : Addr) (w1 : World) =>
  NewR (43 : Nat)
  [Value.slice none (0 : Nat) (0 : Nat), Value.int IntKind.i64 (0 : Int), Value.int IntKind.u64 (0 : Int),
  Value.slice none (0 : Nat) (0 : Nat), Value.int IntKind.u64 (0 : Int), Value.int IntKind.i64 (0 : Int),
  Value.int IntKind.i64 (0 : Int), Value.int IntKind.i64 (0 : Int), Value.int IntKind.i64 (0 : Int),
  Value.int IntKind.u64 (0 : Int), Value.slice none (0 : Nat) (0 : Nat), Value.int IntKind.i64 (0 : Int)]
  w1 fun (a2 : Addr) (w2 : World) =>
  ∃ (h1 : Nat → List Value → World → Prop),
  (∃ (k1 : Nat), h1 k1 [Value.slice none (0 : Nat) (0 : Nat), Value.slice none (0 : Nat) (0 : Nat)] w2) ∧
  ∀ (k2 : Nat) (w3 : World) (v1 v2 : Value) (q1 : Option Addr) (k3 k4 : Nat) (q2 : Option Addr) (k5 k6 : Nat)
  (v3 v4 v5 v6 v7 v8 v9 v10 v11 v12 v13 v14 v15 v16 v17 v18 v19 v20 v21 v22 v23 v24 v25 v26 v27 v28 v29 v30 v31 : Value),
  h1 k2 [Value.slice q1 k3 k4, Value.slice q2 k5 k6] w3 →
  ∃ (q3 : Option Addr),
  ∃ (k7 : Nat),
  ∃ (k8 : Nat),
  ∃ (n1 : Int),
  (cellAt w3 (Addr.add (Addr.add a1 (10 : Nat)) (0 : Nat)) (Value.slice q3 k7 k8) ∧
  cellAt w3 (Addr.add (Addr.add a1 (10 : Nat)) (1 : Nat)) (Value.int IntKind.i64 n1)) ∧
  Rets Tryz.prog (15 : Nat) { toList := [Value.agg { toList := [Value.slice q3 k7 k8, Value.int IntKind.i64 n1] }] } w3
  fun (v32 : Value) (w4 : World) =>
  ∃ (n2 : Int),
  v32 = Value.int IntKind.i64 n2 ∧
  (decide (n2 > us) = true →
  ∃ (q4 : Option Addr),
  ∃ (k9 : Nat),
  ∃ (k10 : Nat),
  ∃ (n3 : Int),
  ∃ (n4 : Int),
  ∃ (q5 : Option Addr),
  ∃ (k11 : Nat),
  ∃ (k12 : Nat),
  ∃ (n5 : Int),
  ∃ (n6 : Int),
  ∃ (n7 : Int),
  ∃ (n8 : Int),
  ∃ (n9 : Int),
  ∃ (n10 : Int),
  ∃ (q6 : Option Addr),
  ∃ (k13 : Nat),
  ∃ (k14 : Nat),
  ∃ (n11 : Int),
  (cellAt w4 (Addr.add a1 (0 : Nat)) (Value.slice q4 k9 k10) ∧
  cellAt w4 (Addr.add a1 (1 : Nat)) (Value.int IntKind.i64 n3) ∧
  cellAt w4 (Addr.add a1 (2 : Nat)) (Value.int IntKind.u64 n4) ∧
  cellAt w4 (Addr.add a1 (3 : Nat)) (Value.slice q5 k11 k12) ∧
  cellAt w4 (Addr.add a1 (4 : Nat)) (Value.int IntKind.u64 n5) ∧
  cellAt w4 (Addr.add a1 (5 : Nat)) (Value.int IntKind.i64 n6) ∧
  cellAt w4 (Addr.add a1 (6 : Nat)) (Value.int IntKind.i64 n7) ∧
  cellAt w4 (Addr.add a1 (7 : Nat)) (Value.int IntKind.i64 n8) ∧
  cellAt w4 (Addr.add a1 (8 : Nat)) (Value.int IntKind.i64 n9) ∧
  cellAt w4 (Addr.add a1 (9 : Nat)) (Value.int IntKind.u64 n10) ∧
  cellAt w4 (Addr.add a1 (10 : Nat)) (Value.slice q6 k13 k14) ∧
  cellAt w4 (Addr.add a1 (11 : Nat)) (Value.int IntKind.i64 n11)) ∧
  Rets Tryz.prog (78 : Nat)
  {
  toList :=
  [Value.agg
  {
  toList :=
  [Value.slice q4 k9 k10, Value.int IntKind.i64 n3, Value.int IntKind.u64 n4, Value.slice q5 k11 k12,
  Value.int IntKind.u64 n5, Value.int IntKind.i64 n6, Value.int IntKind.i64 n7, Value.int IntKind.i64 n8,
  Value.int IntKind.i64 n9, Value.int IntKind.u64 n10, Value.slice q6 k13 k14, Value.int IntKind.i64 n11] },
  Value.slice q1 k3 k4, Value.pointer (some { block := gd, off := (0 : Nat) }), Value.int IntKind.i64 most] }
  w4 fun (v33 : Value) (w5 : World) =>
  ∃ (q7 : Option Addr),
  ∃ (k15 : Nat),
  ∃ (k16 : Nat),
  ∃ (n12 : Int),
  ∃ (n13 : Int),
  ∃ (q8 : Option Addr),
  ∃ (k17 : Nat),
  ∃ (k18 : Nat),
  ∃ (n14 : Int),
  ∃ (n15 : Int),
  ∃ (n16 : Int),
  ∃ (n17 : Int),
  ∃ (n18 : Int),
  ∃ (n19 : Int),
  ∃ (q9 : Option Addr),
  ∃ (k19 : Nat),
  ∃ (k20 : Nat),
  ∃ (n20 : Int),
  ∃ (q10 : Option Addr),
  ∃ (k21 : Nat),
  ∃ (k22 : Nat),
  ∃ (n21 : Int),
  ∃ (n22 : Int),
  ∃ (b1 : Bool),
  v33 =
  Value.tuple
  {
  toList :=
  [Value.agg
  {
  toList :=
  [Value.slice q7 k15 k16, Value.int IntKind.i64 n12, Value.int IntKind.u64 n13, Value.slice q8 k17 k18,
  Value.int IntKind.u64 n14, Value.int IntKind.i64 n15, Value.int IntKind.i64 n16, Value.int IntKind.i64 n17,
  Value.int IntKind.i64 n18, Value.int IntKind.u64 n19, Value.slice q9 k19 k20, Value.int IntKind.i64 n20] },
  Value.slice q10 k21 k22, Value.agg { toList := [Value.int IntKind.u64 n21, Value.int IntKind.i64 n22] },
  Value.bool b1] } ∧
  NewR (43 : Nat)
  [Value.slice none (0 : Nat) (0 : Nat), Value.int IntKind.i64 (0 : Int), Value.int IntKind.u64 (0 : Int),
  Value.slice none (0 : Nat) (0 : Nat), Value.int IntKind.u64 (0 : Int), Value.int IntKind.i64 (0 : Int),
  Value.int IntKind.i64 (0 : Int), Value.int IntKind.i64 (0 : Int), Value.int IntKind.i64 (0 : Int),
  Value.int IntKind.u64 (0 : Int), Value.slice none (0 : Nat) (0 : Nat), Value.int IntKind.i64 (0 : Int)]
  w5 fun (a3 : Addr) (w6 : World) =>
  NewR (115 : Nat) [Value.int IntKind.u64 (0 : Int), Value.int IntKind.i64 (0 : Int)] w6 fun (a4 : Addr) (w7 : World) =>
  StoreR a3
  [Value.slice q7 k15 k16, Value.int IntKind.i64 n12, Value.int IntKind.u64 n13, Value.slice q8 k17 k18,
  Value.int IntKind.u64 n14, Value.int IntKind.i64 n15, Value.int IntKind.i64 n16, Value.int IntKind.i64 n17,
  Value.int IntKind.i64 n18, Value.int IntKind.u64 n19, Value.slice q9 k19 k20, Value.int IntKind.i64 n20]
  w7 fun (w8 : World) =>
  StoreR a4 [Value.int IntKind.u64 n21, Value.int IntKind.i64 n22] w8 fun (w9 : World) =>
  ((!b1) = true →
  ∃ (q11 : Option Addr),
  ∃ (k23 : Nat),
  ∃ (k24 : Nat),
  ∃ (n23 : Int),
  ∃ (n24 : Int),
  ∃ (q12 : Option Addr),
  ∃ (k25 : Nat),
  ∃ (k26 : Nat),
  ∃ (n25 : Int),
  ∃ (n26 : Int),
  ∃ (n27 : Int),
  ∃ (n28 : Int),
  ∃ (n29 : Int),
  ∃ (n30 : Int),
  ∃ (q13 : Option Addr),
  ∃ (k27 : Nat),
  ∃ (k28 : Nat),
  ∃ (n31 : Int),
  (cellAt w9 (Addr.add a1 (0 : Nat)) (Value.slice q11 k23 k24) ∧
  cellAt w9 (Addr.add a1 (1 : Nat)) (Value.int IntKind.i64 n23) ∧
  cellAt w9 (Addr.add a1 (2 : Nat)) (Value.int IntKind.u64 n24) ∧
  cellAt w9 (Addr.add a1 (3 : Nat)) (Value.slice q12 k25 k26) ∧
  cellAt w9 (Addr.add a1 (4 : Nat)) (Value.int IntKind.u64 n25) ∧
  cellAt w9 (Addr.add a1 (5 : Nat)) (Value.int IntKind.i64 n26) ∧
  cellAt w9 (Addr.add a1 (6 : Nat)) (Value.int IntKind.i64 n27) ∧
  cellAt w9 (Addr.add a1 (7 : Nat)) (Value.int IntKind.i64 n28) ∧
  cellAt w9 (Addr.add a1 (8 : Nat)) (Value.int IntKind.i64 n29) ∧
  cellAt w9 (Addr.add a1 (9 : Nat)) (Value.int IntKind.u64 n30) ∧
  cellAt w9 (Addr.add a1 (10 : Nat)) (Value.slice q13 k27 k28) ∧
  cellAt w9 (Addr.add a1 (11 : Nat)) (Value.int IntKind.i64 n31)) ∧
  StoreR a2
  [Value.slice q11 k23 k24, Value.int IntKind.i64 n23, Value.int IntKind.u64 n24, Value.slice q12 k25 k26,
  Value.int IntKind.u64 n25, Value.int IntKind.i64 n26, Value.int IntKind.i64 n27, Value.int IntKind.i64 n28,
  Value.int IntKind.i64 n29, Value.int IntKind.u64 n30, Value.slice q13 k27 k28, Value.int IntKind.i64 n31]
  w9 fun (w10 : World) =>
  ∃ (q14 : Option Addr),
  ∃ (k29 : Nat),
  ∃ (k30 : Nat),
  ∃ (n32 : Int),
  ∃ (n33 : Int),
  ∃ (q15 : Option Addr),
  ∃ (k31 : Nat),
  ∃ (k32 : Nat),
  ∃ (n34 : Int),
  ∃ (n35 : Int),
  ∃ (n36 : Int),
  ∃ (n37 : Int),
  ∃ (n38 : Int),
  ∃ (n39 : Int),
  ∃ (q16 : Option Addr),
  ∃ (k33 : Nat),
  ∃ (k34 : Nat),
  ∃ (n40 : Int),
  (cellAt w10 (Addr.add a2 (0 : Nat)) (Value.slice q14 k29 k30) ∧
  cellAt w10 (Addr.add a2 (1 : Nat)) (Value.int IntKind.i64 n32) ∧
  cellAt w10 (Addr.add a2 (2 : Nat)) (Value.int IntKind.u64 n33) ∧
  cellAt w10 (Addr.add a2 (3 : Nat)) (Value.slice q15 k31 k32) ∧
  cellAt w10 (Addr.add a2 (4 : Nat)) (Value.int IntKind.u64 n34) ∧
  cellAt w10 (Addr.add a2 (5 : Nat)) (Value.int IntKind.i64 n35) ∧
  cellAt w10 (Addr.add a2 (6 : Nat)) (Value.int IntKind.i64 n36) ∧
  cellAt w10 (Addr.add a2 (7 : Nat)) (Value.int IntKind.i64 n37) ∧
  cellAt w10 (Addr.add a2 (8 : Nat)) (Value.int IntKind.i64 n38) ∧
  cellAt w10 (Addr.add a2 (9 : Nat)) (Value.int IntKind.u64 n39) ∧
  cellAt w10 (Addr.add a2 (10 : Nat)) (Value.slice q16 k33 k34) ∧
  cellAt w10 (Addr.add a2 (11 : Nat)) (Value.int IntKind.i64 n40)) ∧
  K
  (Value.tuple
  {
  toList :=
  [Value.agg
  {
  toList :=
  [Value.slice q14 k29 k30, Value.int IntKind.i64 n32, Value.int IntKind.u64 n33, Value.slice q15 k31 k32,
  Value.int IntKind.u64 n34, Value.int IntKind.i64 n35, Value.int IntKind.i64 n36, Value.int IntKind.i64 n37,
  Value.int IntKind.i64 n38, Value.int IntKind.u64 n39, Value.slice q16 k33 k34, Value.int IntKind.i64 n40] },
  Value.slice q2 k5 k6, Value.bool false] })
  w10) ∧
  ((!b1) = false →
  ∃ (q17 : Option Addr),
  ∃ (k35 : Nat),
  ∃ (k36 : Nat),
  ∃ (n41 : Int),
  ∃ (n42 : Int),
  ∃ (q18 : Option Addr),
  ∃ (k37 : Nat),
  ∃ (k38 : Nat),
  ∃ (n43 : Int),
  ∃ (n44 : Int),
  ∃ (n45 : Int),
  ∃ (n46 : Int),
  ∃ (n47 : Int),
  ∃ (n48 : Int),
  ∃ (q19 : Option Addr),
  ∃ (k39 : Nat),
  ∃ (k40 : Nat),
  ∃ (n49 : Int),
  (cellAt w9 (Addr.add a3 (0 : Nat)) (Value.slice q17 k35 k36) ∧
  cellAt w9 (Addr.add a3 (1 : Nat)) (Value.int IntKind.i64 n41) ∧
  cellAt w9 (Addr.add a3 (2 : Nat)) (Value.int IntKind.u64 n42) ∧
  cellAt w9 (Addr.add a3 (3 : Nat)) (Value.slice q18 k37 k38) ∧
  cellAt w9 (Addr.add a3 (4 : Nat)) (Value.int IntKind.u64 n43) ∧
  cellAt w9 (Addr.add a3 (5 : Nat)) (Value.int IntKind.i64 n44) ∧
  cellAt w9 (Addr.add a3 (6 : Nat)) (Value.int IntKind.i64 n45) ∧
  cellAt w9 (Addr.add a3 (7 : Nat)) (Value.int IntKind.i64 n46) ∧
  cellAt w9 (Addr.add a3 (8 : Nat)) (Value.int IntKind.i64 n47) ∧
  cellAt w9 (Addr.add a3 (9 : Nat)) (Value.int IntKind.u64 n48) ∧
  cellAt w9 (Addr.add a3 (10 : Nat)) (Value.slice q19 k39 k40) ∧
  cellAt w9 (Addr.add a3 (11 : Nat)) (Value.int IntKind.i64 n49)) ∧
  StoreR a1
  [Value.slice q17 k35 k36, Value.int IntKind.i64 n41, Value.int IntKind.u64 n42, Value.slice q18 k37 k38,
  Value.int IntKind.u64 n43, Value.int IntKind.i64 n44, Value.int IntKind.i64 n45, Value.int IntKind.i64 n46,
  Value.int IntKind.i64 n47, Value.int IntKind.u64 n48, Value.slice q19 k39 k40, Value.int IntKind.i64 n49]
  w9 fun (w11 : World) =>
  ∃ (n50 : Int),
  ∃ (n51 : Int),
  (cellAt w11 (Addr.add a4 (0 : Nat)) (Value.int IntKind.u64 n50) ∧
  cellAt w11 (Addr.add a4 (1 : Nat)) (Value.int IntKind.i64 n51)) ∧
  NewR (115 : Nat) [Value.int IntKind.u64 n50, Value.int IntKind.i64 n51] w11 fun (a5 : Addr) (w12 : World) =>
  RunR Tryz.prog
  (builtinV Builtin.append { toList := [(81 : Nat), (81 : Nat)] } (nat_lit 81)
  { toList := [Value.slice q2 k5 k6, Value.slice (some a5) (1 : Nat) (1 : Nat)] })
  w12 fun (v34 : Value) (w13 : World) =>
  ∃ (q20 : Option Addr),
  ∃ (k41 : Nat),
  ∃ (k42 : Nat),
  v34 = Value.slice q20 k41 k42 ∧
  ∃ (k43 : Nat), k43 < k2 ∧ h1 k43 [Value.slice q10 k21 k22, Value.slice q20 k41 k42] w13)) ∧
  (decide (n2 > us) = false →
  ∃ (q21 : Option Addr),
  ∃ (k44 : Nat),
  ∃ (k45 : Nat),
  ∃ (n52 : Int),
  ∃ (n53 : Int),
  ∃ (q22 : Option Addr),
  ∃ (k46 : Nat),
  ∃ (k47 : Nat),
  ∃ (n54 : Int),
  ∃ (n55 : Int),
  ∃ (n56 : Int),
  ∃ (n57 : Int),
  ∃ (n58 : Int),
  ∃ (n59 : Int),
  ∃ (q23 : Option Addr),
  ∃ (k48 : Nat),
  ∃ (k49 : Nat),
  ∃ (n60 : Int),
  (cellAt w4 (Addr.add a1 (0 : Nat)) (Value.slice q21 k44 k45) ∧
  cellAt w4 (Addr.add a1 (1 : Nat)) (Value.int IntKind.i64 n52) ∧
  cellAt w4 (Addr.add a1 (2 : Nat)) (Value.int IntKind.u64 n53) ∧
  cellAt w4 (Addr.add a1 (3 : Nat)) (Value.slice q22 k46 k47) ∧
  cellAt w4 (Addr.add a1 (4 : Nat)) (Value.int IntKind.u64 n54) ∧
  cellAt w4 (Addr.add a1 (5 : Nat)) (Value.int IntKind.i64 n55) ∧
  cellAt w4 (Addr.add a1 (6 : Nat)) (Value.int IntKind.i64 n56) ∧
  cellAt w4 (Addr.add a1 (7 : Nat)) (Value.int IntKind.i64 n57) ∧
  cellAt w4 (Addr.add a1 (8 : Nat)) (Value.int IntKind.i64 n58) ∧
  cellAt w4 (Addr.add a1 (9 : Nat)) (Value.int IntKind.u64 n59) ∧
  cellAt w4 (Addr.add a1 (10 : Nat)) (Value.slice q23 k48 k49) ∧
  cellAt w4 (Addr.add a1 (11 : Nat)) (Value.int IntKind.i64 n60)) ∧
  StoreR a2
  [Value.slice q21 k44 k45, Value.int IntKind.i64 n52, Value.int IntKind.u64 n53, Value.slice q22 k46 k47,
  Value.int IntKind.u64 n54, Value.int IntKind.i64 n55, Value.int IntKind.i64 n56, Value.int IntKind.i64 n57,
  Value.int IntKind.i64 n58, Value.int IntKind.u64 n59, Value.slice q23 k48 k49, Value.int IntKind.i64 n60]
  w4 fun (w14 : World) =>
  ∃ (q24 : Option Addr),
  ∃ (k50 : Nat),
  ∃ (k51 : Nat),
  ∃ (n61 : Int),
  ∃ (n62 : Int),
  ∃ (q25 : Option Addr),
  ∃ (k52 : Nat),
  ∃ (k53 : Nat),
  ∃ (n63 : Int),
  ∃ (n64 : Int),
  ∃ (n65 : Int),
  ∃ (n66 : Int),
  ∃ (n67 : Int),
  ∃ (n68 : Int),
  ∃ (q26 : Option Addr),
  ∃ (k54 : Nat),
  ∃ (k55 : Nat),
  ∃ (n69 : Int),
  (cellAt w14 (Addr.add a2 (0 : Nat)) (Value.slice q24 k50 k51) ∧
  cellAt w14 (Addr.add a2 (1 : Nat)) (Value.int IntKind.i64 n61) ∧
  cellAt w14 (Addr.add a2 (2 : Nat)) (Value.int IntKind.u64 n62) ∧
  cellAt w14 (Addr.add a2 (3 : Nat)) (Value.slice q25 k52 k53) ∧
  cellAt w14 (Addr.add a2 (4 : Nat)) (Value.int IntKind.u64 n63) ∧
  cellAt w14 (Addr.add a2 (5 : Nat)) (Value.int IntKind.i64 n64) ∧
  cellAt w14 (Addr.add a2 (6 : Nat)) (Value.int IntKind.i64 n65) ∧
  cellAt w14 (Addr.add a2 (7 : Nat)) (Value.int IntKind.i64 n66) ∧
  cellAt w14 (Addr.add a2 (8 : Nat)) (Value.int IntKind.i64 n67) ∧
  cellAt w14 (Addr.add a2 (9 : Nat)) (Value.int IntKind.u64 n68) ∧
  cellAt w14 (Addr.add a2 (10 : Nat)) (Value.slice q26 k54 k55) ∧
  cellAt w14 (Addr.add a2 (11 : Nat)) (Value.int IntKind.i64 n69)) ∧
  K
  (Value.tuple
  {
  toList :=
  [Value.agg
  {
  toList :=
  [Value.slice q24 k50 k51, Value.int IntKind.i64 n61, Value.int IntKind.u64 n62, Value.slice q25 k52 k53,
  Value.int IntKind.u64 n63, Value.int IntKind.i64 n64, Value.int IntKind.i64 n65, Value.int IntKind.i64 n66,
  Value.int IntKind.i64 n67, Value.int IntKind.u64 n68, Value.slice q26 k54 k55, Value.int IntKind.i64 n69] },
  Value.slice q2 k5 k6, Value.bool true] })
  w14)
theorem cortadoref26_until_eq (q1 : Option Addr) (l1 c1 : Nat) (wd s1 : Int) (q2 : Option Addr) (l2 c2 : Nat) (s2 ct lim ag ks sd : Int) (q3 : Option Addr) (l3 c3 : Nat) (mo : Int) (us : Int) (gd : Nat) (most : Int) (w : World) (K : Value → World → Prop) : fw Tryz.prog Tryz.f54 (annL [(1, [(9, none), (10, none), (11, some 87), (12, some 81), (13, none), (14, none), (15, none), (16, none), (17, none), (18, none), (19, none), (20, none), (21, none), (22, none), (23, none), (24, none), (25, none), (26, none), (27, none), (28, none), (29, none), (30, none), (31, none), (32, none), (33, none), (34, none), (35, none), (36, none), (37, none), (38, none), (39, none), (40, none), (41, none)])]) (ordL []) [.agg #[.slice q1 l1 c1, .int .i64 wd, .int .u64 s1, .slice q2 l2 c2, .int .u64 s2, .int .i64 ct, .int .i64 lim, .int .i64 ag, .int .i64 ks, .int .u64 sd, .slice q3 l3 c3, .int .i64 mo], .int .i64 us, .pointer (some ⟨gd, 0, none⟩), .int .i64 most] w K = cortadoref26_until_m q1 l1 c1 wd s1 q2 l2 c2 s2 ct lim ag ks sd q3 l3 c3 mo us gd most w K := by kernel_rfl
theorem cortadoref26_until_go (q1 : Option Addr) (l1 c1 : Nat) (wd s1 : Int) (q2 : Option Addr) (l2 c2 : Nat) (s2 ct lim ag ks sd : Int) (q3 : Option Addr) (l3 c3 : Nat) (mo : Int) (us : Int) (gd : Nat) (most : Int) {w : World} {K : Value → World → Prop} (h : cortadoref26_until_m q1 l1 c1 wd s1 q2 l2 c2 s2 ct lim ag ks sd q3 l3 c3 mo us gd most w K) : Rets Tryz.prog 54 #[.agg #[.slice q1 l1 c1, .int .i64 wd, .int .u64 s1, .slice q2 l2 c2, .int .u64 s2, .int .i64 ct, .int .i64 lim, .int .i64 ag, .int .i64 ks, .int .u64 sd, .slice q3 l3 c3, .int .i64 mo], .int .i64 us, .pointer (some ⟨gd, 0, none⟩), .int .i64 most] w K :=
  calls_of_fw plain mixed Tryz.func54 (by kernel_rfl) (by rw [cortadoref26_until_eq]; exact h)
def cortadoref26_Add_m (q1 : Option Addr) (l1 c1 : Nat) (wd s1 : Int) (q2 : Option Addr) (l2 c2 : Nat) (s2 ct lim ag ks sd : Int) (q3 : Option Addr) (l3 c3 : Nat) (mo : Int) (k n : Int) (gd : Nat) (w : World) (K : Value → World → Prop) : Prop :=
  NewR (43 : Nat)
  [Value.slice q1 l1 c1, Value.int IntKind.i64 wd, Value.int IntKind.u64 s1, Value.slice q2 l2 c2,
  Value.int IntKind.u64 s2, Value.int IntKind.i64 ct, Value.int IntKind.i64 lim, Value.int IntKind.i64 ag,
  Value.int IntKind.i64 ks, Value.int IntKind.u64 sd, Value.slice q3 l3 c3, Value.int IntKind.i64 mo]
  w fun (a1 : Addr) (w1 : World) =>
  NewR (43 : Nat)
  [Value.slice none (0 : Nat) (0 : Nat), Value.int IntKind.i64 (0 : Int), Value.int IntKind.u64 (0 : Int),
  Value.slice none (0 : Nat) (0 : Nat), Value.int IntKind.u64 (0 : Int), Value.int IntKind.i64 (0 : Int),
  Value.int IntKind.i64 (0 : Int), Value.int IntKind.i64 (0 : Int), Value.int IntKind.i64 (0 : Int),
  Value.int IntKind.u64 (0 : Int), Value.slice none (0 : Nat) (0 : Nat), Value.int IntKind.i64 (0 : Int)]
  w1 fun (a2 : Addr) (w2 : World) =>
  ∃ (q1 : Option Addr),
  ∃ (k1 : Nat),
  ∃ (k2 : Nat),
  ∃ (n1 : Int),
  (cellAt w2 (Addr.add (Addr.add a1 (10 : Nat)) (0 : Nat)) (Value.slice q1 k1 k2) ∧
  cellAt w2 (Addr.add (Addr.add a1 (10 : Nat)) (1 : Nat)) (Value.int IntKind.i64 n1)) ∧
  Rets Tryz.prog (28 : Nat)
  { toList := [Value.agg { toList := [Value.slice q1 k1 k2, Value.int IntKind.i64 n1] }, Value.int IntKind.u64 k] } w2
  fun (v1 : Value) (w3 : World) =>
  ∃ (n2 : Int),
  ∃ (b1 : Bool),
  v1 = Value.tuple { toList := [Value.int IntKind.i64 n2, Value.bool b1] } ∧
  ∃ (h1 : List Value → World → Prop),
  (Rets Tryz.prog (52 : Nat) { toList := [Value.int IntKind.i64 n] } w3 fun (v2 : Value) (w4 : World) =>
  ∃ (b2 : Bool),
  v2 = Value.bool b2 ∧
  ((!b2) = false →
  ∃ (n3 : Int),
  cellAt w4 (Addr.add (Addr.add a1 (10 : Nat)) (1 : Nat)) (Value.int IntKind.i64 n3) ∧
  (decide (n > n3) = false → h1 [Value.bool b1] w4) ∧ (decide (n > n3) = true → h1 [Value.bool true] w4)) ∧
  ((!b2) = true → h1 [Value.bool true] w4)) ∧
  ∀ (w5 : World) (v3 v4 v5 v6 v7 v8 v9 v10 v11 v12 v13 v14 : Value) (b3 : Bool),
  h1 [Value.bool b3] w5 →
  (b3 = true →
  ∃ (q2 : Option Addr),
  ∃ (k3 : Nat),
  ∃ (k4 : Nat),
  ∃ (n4 : Int),
  ∃ (n5 : Int),
  ∃ (q3 : Option Addr),
  ∃ (k5 : Nat),
  ∃ (k6 : Nat),
  ∃ (n6 : Int),
  ∃ (n7 : Int),
  ∃ (n8 : Int),
  ∃ (n9 : Int),
  ∃ (n10 : Int),
  ∃ (n11 : Int),
  ∃ (q4 : Option Addr),
  ∃ (k7 : Nat),
  ∃ (k8 : Nat),
  ∃ (n12 : Int),
  (cellAt w5 (Addr.add a1 (0 : Nat)) (Value.slice q2 k3 k4) ∧
  cellAt w5 (Addr.add a1 (1 : Nat)) (Value.int IntKind.i64 n4) ∧
  cellAt w5 (Addr.add a1 (2 : Nat)) (Value.int IntKind.u64 n5) ∧
  cellAt w5 (Addr.add a1 (3 : Nat)) (Value.slice q3 k5 k6) ∧
  cellAt w5 (Addr.add a1 (4 : Nat)) (Value.int IntKind.u64 n6) ∧
  cellAt w5 (Addr.add a1 (5 : Nat)) (Value.int IntKind.i64 n7) ∧
  cellAt w5 (Addr.add a1 (6 : Nat)) (Value.int IntKind.i64 n8) ∧
  cellAt w5 (Addr.add a1 (7 : Nat)) (Value.int IntKind.i64 n9) ∧
  cellAt w5 (Addr.add a1 (8 : Nat)) (Value.int IntKind.i64 n10) ∧
  cellAt w5 (Addr.add a1 (9 : Nat)) (Value.int IntKind.u64 n11) ∧
  cellAt w5 (Addr.add a1 (10 : Nat)) (Value.slice q4 k7 k8) ∧
  cellAt w5 (Addr.add a1 (11 : Nat)) (Value.int IntKind.i64 n12)) ∧
  StoreR a2
  [Value.slice q2 k3 k4, Value.int IntKind.i64 n4, Value.int IntKind.u64 n5, Value.slice q3 k5 k6,
  Value.int IntKind.u64 n6, Value.int IntKind.i64 n7, Value.int IntKind.i64 n8, Value.int IntKind.i64 n9,
  Value.int IntKind.i64 n10, Value.int IntKind.u64 n11, Value.slice q4 k7 k8, Value.int IntKind.i64 n12]
  w5 fun (w6 : World) =>
  ∃ (q5 : Option Addr),
  ∃ (k9 : Nat),
  ∃ (k10 : Nat),
  ∃ (n13 : Int),
  ∃ (n14 : Int),
  ∃ (q6 : Option Addr),
  ∃ (k11 : Nat),
  ∃ (k12 : Nat),
  ∃ (n15 : Int),
  ∃ (n16 : Int),
  ∃ (n17 : Int),
  ∃ (n18 : Int),
  ∃ (n19 : Int),
  ∃ (n20 : Int),
  ∃ (q7 : Option Addr),
  ∃ (k13 : Nat),
  ∃ (k14 : Nat),
  ∃ (n21 : Int),
  (cellAt w6 (Addr.add a2 (0 : Nat)) (Value.slice q5 k9 k10) ∧
  cellAt w6 (Addr.add a2 (1 : Nat)) (Value.int IntKind.i64 n13) ∧
  cellAt w6 (Addr.add a2 (2 : Nat)) (Value.int IntKind.u64 n14) ∧
  cellAt w6 (Addr.add a2 (3 : Nat)) (Value.slice q6 k11 k12) ∧
  cellAt w6 (Addr.add a2 (4 : Nat)) (Value.int IntKind.u64 n15) ∧
  cellAt w6 (Addr.add a2 (5 : Nat)) (Value.int IntKind.i64 n16) ∧
  cellAt w6 (Addr.add a2 (6 : Nat)) (Value.int IntKind.i64 n17) ∧
  cellAt w6 (Addr.add a2 (7 : Nat)) (Value.int IntKind.i64 n18) ∧
  cellAt w6 (Addr.add a2 (8 : Nat)) (Value.int IntKind.i64 n19) ∧
  cellAt w6 (Addr.add a2 (9 : Nat)) (Value.int IntKind.u64 n20) ∧
  cellAt w6 (Addr.add a2 (10 : Nat)) (Value.slice q7 k13 k14) ∧
  cellAt w6 (Addr.add a2 (11 : Nat)) (Value.int IntKind.i64 n21)) ∧
  K
  (Value.tuple
  {
  toList :=
  [Value.agg
  {
  toList :=
  [Value.slice q5 k9 k10, Value.int IntKind.i64 n13, Value.int IntKind.u64 n14, Value.slice q6 k11 k12,
  Value.int IntKind.u64 n15, Value.int IntKind.i64 n16, Value.int IntKind.i64 n17, Value.int IntKind.i64 n18,
  Value.int IntKind.i64 n19, Value.int IntKind.u64 n20, Value.slice q7 k13 k14, Value.int IntKind.i64 n21] },
  Value.slice none (0 : Nat) (0 : Nat), Value.bool false] })
  w6) ∧
  (b3 = false →
  ∃ (h2 : List Value → World → Prop),
  (Drw w5 fun (w7 : World) =>
  ∃ (h3 : World → Prop),
  h3 w7 ∧
  ∃ (q8 : Option Addr),
  ∃ (k15 : Nat),
  ∃ (k16 : Nat),
  ∃ (n22 : Int),
  ∃ (n23 : Int),
  ∃ (q9 : Option Addr),
  ∃ (k17 : Nat),
  ∃ (k18 : Nat),
  ∃ (n24 : Int),
  ∃ (n25 : Int),
  ∃ (n26 : Int),
  ∃ (n27 : Int),
  ∃ (n28 : Int),
  ∃ (n29 : Int),
  ∃ (q10 : Option Addr),
  ∃ (k19 : Nat),
  ∃ (k20 : Nat),
  ∃ (n30 : Int),
  ((∀ (w8 : World), h3 w8 → World.cell? w8 (Addr.add a1 (0 : Nat)) = some (Value.slice q8 k15 k16)) ∧
  (∀ (w9 : World), h3 w9 → World.cell? w9 (Addr.add a1 ((0 : Nat) + (1 : Nat))) = some (Value.int IntKind.i64 n22)) ∧
  (∀ (w10 : World),
  h3 w10 → World.cell? w10 (Addr.add a1 ((0 : Nat) + (1 : Nat) + (1 : Nat))) = some (Value.int IntKind.u64 n23)) ∧
  (∀ (w11 : World),
  h3 w11 →
  World.cell? w11 (Addr.add a1 ((0 : Nat) + (1 : Nat) + (1 : Nat) + (1 : Nat))) = some (Value.slice q9 k17 k18)) ∧
  (∀ (w12 : World),
  h3 w12 →
  World.cell? w12 (Addr.add a1 ((0 : Nat) + (1 : Nat) + (1 : Nat) + (1 : Nat) + (1 : Nat))) =
  some (Value.int IntKind.u64 n24)) ∧
  (∀ (w13 : World),
  h3 w13 →
  World.cell? w13 (Addr.add a1 ((0 : Nat) + (1 : Nat) + (1 : Nat) + (1 : Nat) + (1 : Nat) + (1 : Nat))) =
  some (Value.int IntKind.i64 n25)) ∧
  (∀ (w14 : World),
  h3 w14 →
  World.cell? w14 (Addr.add a1 ((0 : Nat) + (1 : Nat) + (1 : Nat) + (1 : Nat) + (1 : Nat) + (1 : Nat) + (1 : Nat))) =
  some (Value.int IntKind.i64 n26)) ∧
  (∀ (w15 : World),
  h3 w15 →
  World.cell? w15
  (Addr.add a1 ((0 : Nat) + (1 : Nat) + (1 : Nat) + (1 : Nat) + (1 : Nat) + (1 : Nat) + (1 : Nat) + (1 : Nat))) =
  some (Value.int IntKind.i64 n27)) ∧
  (∀ (w16 : World),
  h3 w16 →
  World.cell? w16
  (Addr.add a1
  ((0 : Nat) + (1 : Nat) + (1 : Nat) + (1 : Nat) + (1 : Nat) + (1 : Nat) + (1 : Nat) + (1 : Nat) + (1 : Nat))) =
  some (Value.int IntKind.i64 n28)) ∧
  (∀ (w17 : World),
  h3 w17 →
  World.cell? w17
  (Addr.add a1
  ((0 : Nat) + (1 : Nat) + (1 : Nat) + (1 : Nat) + (1 : Nat) + (1 : Nat) + (1 : Nat) + (1 : Nat) + (1 : Nat) +
  (1 : Nat))) =
  some (Value.int IntKind.u64 n29)) ∧
  (∀ (w18 : World),
  h3 w18 →
  World.cell? w18
  (Addr.add a1
  ((0 : Nat) + (1 : Nat) + (1 : Nat) + (1 : Nat) + (1 : Nat) + (1 : Nat) + (1 : Nat) + (1 : Nat) + (1 : Nat) + (1 : Nat) +
  (1 : Nat))) =
  some (Value.slice q10 k19 k20)) ∧
  ∀ (w19 : World),
  h3 w19 →
  World.cell? w19
  (Addr.add a1
  ((0 : Nat) + (1 : Nat) + (1 : Nat) + (1 : Nat) + (1 : Nat) + (1 : Nat) + (1 : Nat) + (1 : Nat) + (1 : Nat) + (1 : Nat) +
  (1 : Nat) +
  (1 : Nat))) =
  some (Value.int IntKind.i64 n30)) ∧
  ∃ (n31 : Int),
  (∀ (w20 : World),
  h3 w20 → World.cell? w20 (Addr.add (Addr.add a1 (10 : Nat)) (1 : Nat)) = some (Value.int IntKind.i64 n31)) ∧
  ∃ (q11 : Option Addr),
  ∃ (k21 : Nat),
  ∃ (k22 : Nat),
  ∃ (n32 : Int),
  ∃ (n33 : Int),
  ∃ (q12 : Option Addr),
  ∃ (k23 : Nat),
  ∃ (k24 : Nat),
  ∃ (n34 : Int),
  ∃ (n35 : Int),
  ∃ (n36 : Int),
  ∃ (n37 : Int),
  ∃ (n38 : Int),
  ∃ (n39 : Int),
  ((∀ (w21 : World),
  h3 w21 → World.cell? w21 (Addr.add (Addr.add a1 (0 : Nat)) (0 : Nat)) = some (Value.slice q11 k21 k22)) ∧
  (∀ (w22 : World),
  h3 w22 →
  World.cell? w22 (Addr.add (Addr.add a1 (0 : Nat)) ((0 : Nat) + (1 : Nat))) = some (Value.int IntKind.i64 n32)) ∧
  (∀ (w23 : World),
  h3 w23 →
  World.cell? w23 (Addr.add (Addr.add a1 (0 : Nat)) ((0 : Nat) + (1 : Nat) + (1 : Nat))) =
  some (Value.int IntKind.u64 n33)) ∧
  (∀ (w24 : World),
  h3 w24 →
  World.cell? w24 (Addr.add (Addr.add a1 (0 : Nat)) ((0 : Nat) + (1 : Nat) + (1 : Nat) + (1 : Nat))) =
  some (Value.slice q12 k23 k24)) ∧
  (∀ (w25 : World),
  h3 w25 →
  World.cell? w25 (Addr.add (Addr.add a1 (0 : Nat)) ((0 : Nat) + (1 : Nat) + (1 : Nat) + (1 : Nat) + (1 : Nat))) =
  some (Value.int IntKind.u64 n34)) ∧
  (∀ (w26 : World),
  h3 w26 →
  World.cell? w26
  (Addr.add (Addr.add a1 (0 : Nat)) ((0 : Nat) + (1 : Nat) + (1 : Nat) + (1 : Nat) + (1 : Nat) + (1 : Nat))) =
  some (Value.int IntKind.i64 n35)) ∧
  (∀ (w27 : World),
  h3 w27 →
  World.cell? w27
  (Addr.add (Addr.add a1 (0 : Nat)) ((0 : Nat) + (1 : Nat) + (1 : Nat) + (1 : Nat) + (1 : Nat) + (1 : Nat) + (1 : Nat))) =
  some (Value.int IntKind.i64 n36)) ∧
  (∀ (w28 : World),
  h3 w28 →
  World.cell? w28
  (Addr.add (Addr.add a1 (0 : Nat))
  ((0 : Nat) + (1 : Nat) + (1 : Nat) + (1 : Nat) + (1 : Nat) + (1 : Nat) + (1 : Nat) + (1 : Nat))) =
  some (Value.int IntKind.i64 n37)) ∧
  (∀ (w29 : World),
  h3 w29 →
  World.cell? w29
  (Addr.add (Addr.add a1 (0 : Nat))
  ((0 : Nat) + (1 : Nat) + (1 : Nat) + (1 : Nat) + (1 : Nat) + (1 : Nat) + (1 : Nat) + (1 : Nat) + (1 : Nat))) =
  some (Value.int IntKind.i64 n38)) ∧
  ∀ (w30 : World),
  h3 w30 →
  World.cell? w30
  (Addr.add (Addr.add a1 (0 : Nat))
  ((0 : Nat) + (1 : Nat) + (1 : Nat) + (1 : Nat) + (1 : Nat) + (1 : Nat) + (1 : Nat) + (1 : Nat) + (1 : Nat) +
  (1 : Nat))) =
  some (Value.int IntKind.u64 n39)) ∧
  Rets Tryz.prog (13 : Nat)
  {
  toList :=
  [Value.agg
  {
  toList :=
  [Value.slice q11 k21 k22, Value.int IntKind.i64 n32, Value.int IntKind.u64 n33, Value.slice q12 k23 k24,
  Value.int IntKind.u64 n34, Value.int IntKind.i64 n35, Value.int IntKind.i64 n36, Value.int IntKind.i64 n37,
  Value.int IntKind.i64 n38, Value.int IntKind.u64 n39] },
  Value.int IntKind.u64 k] }
  w7 fun (v15 : Value) (w31 : World) =>
  ∃ (n40 : Int),
  v15 = Value.int IntKind.i64 n40 ∧
  h3 w31 ∧
  Rets Tryz.prog (54 : Nat)
  {
  toList :=
  [Value.agg
  {
  toList :=
  [Value.slice q8 k15 k16, Value.int IntKind.i64 n22, Value.int IntKind.u64 n23, Value.slice q9 k17 k18,
  Value.int IntKind.u64 n24, Value.int IntKind.i64 n25, Value.int IntKind.i64 n26, Value.int IntKind.i64 n27,
  Value.int IntKind.i64 n28, Value.int IntKind.u64 n29, Value.slice q10 k19 k20, Value.int IntKind.i64 n30] },
  Value.int IntKind.i64 (IntKind.wrap IntKind.i64 (n31 - n)), Value.pointer (some { block := gd, off := (0 : Nat) }),
  Value.int IntKind.i64 n40] }
  w31 fun (v16 : Value) (w32 : World) =>
  ∃ (q13 : Option Addr),
  ∃ (k25 : Nat),
  ∃ (k26 : Nat),
  ∃ (n41 : Int),
  ∃ (n42 : Int),
  ∃ (q14 : Option Addr),
  ∃ (k27 : Nat),
  ∃ (k28 : Nat),
  ∃ (n43 : Int),
  ∃ (n44 : Int),
  ∃ (n45 : Int),
  ∃ (n46 : Int),
  ∃ (n47 : Int),
  ∃ (n48 : Int),
  ∃ (q15 : Option Addr),
  ∃ (k29 : Nat),
  ∃ (k30 : Nat),
  ∃ (n49 : Int),
  ∃ (q16 : Option Addr),
  ∃ (k31 : Nat),
  ∃ (k32 : Nat),
  ∃ (b4 : Bool),
  v16 =
  Value.tuple
  {
  toList :=
  [Value.agg
  {
  toList :=
  [Value.slice q13 k25 k26, Value.int IntKind.i64 n41, Value.int IntKind.u64 n42, Value.slice q14 k27 k28,
  Value.int IntKind.u64 n43, Value.int IntKind.i64 n44, Value.int IntKind.i64 n45, Value.int IntKind.i64 n46,
  Value.int IntKind.i64 n47, Value.int IntKind.u64 n48, Value.slice q15 k29 k30, Value.int IntKind.i64 n49] },
  Value.slice q16 k31 k32, Value.bool b4] } ∧
  StoreR a1
  [Value.slice q13 k25 k26, Value.int IntKind.i64 n41, Value.int IntKind.u64 n42, Value.slice q14 k27 k28,
  Value.int IntKind.u64 n43, Value.int IntKind.i64 n44, Value.int IntKind.i64 n45, Value.int IntKind.i64 n46,
  Value.int IntKind.i64 n47, Value.int IntKind.u64 n48, Value.slice q15 k29 k30, Value.int IntKind.i64 n49]
  w32 fun (w33 : World) => h2 [Value.slice q16 k31 k32, Value.bool b4] w33) ∧
  ∀ (w34 : World) (q17 : Option Addr) (k33 k34 : Nat) (b5 : Bool)
  (v17 v18 v19 v20 v21 v22 v23 v24 v25 v26 v27 v28 v29 v30 v31 v32 : Value),
  h2 [Value.slice q17 k33 k34, Value.bool b5] w34 →
  ((!b5) = true →
  ∃ (q18 : Option Addr),
  ∃ (k35 : Nat),
  ∃ (k36 : Nat),
  ∃ (n50 : Int),
  ∃ (n51 : Int),
  ∃ (q19 : Option Addr),
  ∃ (k37 : Nat),
  ∃ (k38 : Nat),
  ∃ (n52 : Int),
  ∃ (n53 : Int),
  ∃ (n54 : Int),
  ∃ (n55 : Int),
  ∃ (n56 : Int),
  ∃ (n57 : Int),
  ∃ (q20 : Option Addr),
  ∃ (k39 : Nat),
  ∃ (k40 : Nat),
  ∃ (n58 : Int),
  (cellAt w34 (Addr.add a1 (0 : Nat)) (Value.slice q18 k35 k36) ∧
  cellAt w34 (Addr.add a1 (1 : Nat)) (Value.int IntKind.i64 n50) ∧
  cellAt w34 (Addr.add a1 (2 : Nat)) (Value.int IntKind.u64 n51) ∧
  cellAt w34 (Addr.add a1 (3 : Nat)) (Value.slice q19 k37 k38) ∧
  cellAt w34 (Addr.add a1 (4 : Nat)) (Value.int IntKind.u64 n52) ∧
  cellAt w34 (Addr.add a1 (5 : Nat)) (Value.int IntKind.i64 n53) ∧
  cellAt w34 (Addr.add a1 (6 : Nat)) (Value.int IntKind.i64 n54) ∧
  cellAt w34 (Addr.add a1 (7 : Nat)) (Value.int IntKind.i64 n55) ∧
  cellAt w34 (Addr.add a1 (8 : Nat)) (Value.int IntKind.i64 n56) ∧
  cellAt w34 (Addr.add a1 (9 : Nat)) (Value.int IntKind.u64 n57) ∧
  cellAt w34 (Addr.add a1 (10 : Nat)) (Value.slice q20 k39 k40) ∧
  cellAt w34 (Addr.add a1 (11 : Nat)) (Value.int IntKind.i64 n58)) ∧
  StoreR a2
  [Value.slice q18 k35 k36, Value.int IntKind.i64 n50, Value.int IntKind.u64 n51, Value.slice q19 k37 k38,
  Value.int IntKind.u64 n52, Value.int IntKind.i64 n53, Value.int IntKind.i64 n54, Value.int IntKind.i64 n55,
  Value.int IntKind.i64 n56, Value.int IntKind.u64 n57, Value.slice q20 k39 k40, Value.int IntKind.i64 n58]
  w34 fun (w35 : World) =>
  ∃ (q21 : Option Addr),
  ∃ (k41 : Nat),
  ∃ (k42 : Nat),
  ∃ (n59 : Int),
  ∃ (n60 : Int),
  ∃ (q22 : Option Addr),
  ∃ (k43 : Nat),
  ∃ (k44 : Nat),
  ∃ (n61 : Int),
  ∃ (n62 : Int),
  ∃ (n63 : Int),
  ∃ (n64 : Int),
  ∃ (n65 : Int),
  ∃ (n66 : Int),
  ∃ (q23 : Option Addr),
  ∃ (k45 : Nat),
  ∃ (k46 : Nat),
  ∃ (n67 : Int),
  (cellAt w35 (Addr.add a2 (0 : Nat)) (Value.slice q21 k41 k42) ∧
  cellAt w35 (Addr.add a2 (1 : Nat)) (Value.int IntKind.i64 n59) ∧
  cellAt w35 (Addr.add a2 (2 : Nat)) (Value.int IntKind.u64 n60) ∧
  cellAt w35 (Addr.add a2 (3 : Nat)) (Value.slice q22 k43 k44) ∧
  cellAt w35 (Addr.add a2 (4 : Nat)) (Value.int IntKind.u64 n61) ∧
  cellAt w35 (Addr.add a2 (5 : Nat)) (Value.int IntKind.i64 n62) ∧
  cellAt w35 (Addr.add a2 (6 : Nat)) (Value.int IntKind.i64 n63) ∧
  cellAt w35 (Addr.add a2 (7 : Nat)) (Value.int IntKind.i64 n64) ∧
  cellAt w35 (Addr.add a2 (8 : Nat)) (Value.int IntKind.i64 n65) ∧
  cellAt w35 (Addr.add a2 (9 : Nat)) (Value.int IntKind.u64 n66) ∧
  cellAt w35 (Addr.add a2 (10 : Nat)) (Value.slice q23 k45 k46) ∧
  cellAt w35 (Addr.add a2 (11 : Nat)) (Value.int IntKind.i64 n67)) ∧
  K
  (Value.tuple
  {
  toList :=
  [Value.agg
  {
  toList :=
  [Value.slice q21 k41 k42, Value.int IntKind.i64 n59, Value.int IntKind.u64 n60, Value.slice q22 k43 k44,
  Value.int IntKind.u64 n61, Value.int IntKind.i64 n62, Value.int IntKind.i64 n63, Value.int IntKind.i64 n64,
  Value.int IntKind.i64 n65, Value.int IntKind.u64 n66, Value.slice q23 k45 k46, Value.int IntKind.i64 n67] },
  Value.slice q17 k33 k34, Value.bool false] })
  w35) ∧
  ((!b5) = false →
  ∃ (q24 : Option Addr),
  ∃ (k47 : Nat),
  ∃ (k48 : Nat),
  ∃ (n68 : Int),
  (cellAt w34 (Addr.add (Addr.add a1 (10 : Nat)) (0 : Nat)) (Value.slice q24 k47 k48) ∧
  cellAt w34 (Addr.add (Addr.add a1 (10 : Nat)) (1 : Nat)) (Value.int IntKind.i64 n68)) ∧
  Rets Tryz.prog (55 : Nat)
  {
  toList :=
  [Value.agg { toList := [Value.slice q24 k47 k48, Value.int IntKind.i64 n68] }, Value.int IntKind.u64 k,
  Value.int IntKind.i64 n] }
  w34 fun (v33 : Value) (w36 : World) =>
  ∃ (q25 : Option Addr),
  ∃ (k49 : Nat),
  ∃ (k50 : Nat),
  ∃ (n69 : Int),
  ∃ (b6 : Bool),
  v33 =
  Value.tuple
  { toList := [Value.agg { toList := [Value.slice q25 k49 k50, Value.int IntKind.i64 n69] }, Value.bool b6] } ∧
  NewR (41 : Nat) [Value.slice none (0 : Nat) (0 : Nat), Value.int IntKind.i64 (0 : Int)] w36
  fun (a3 : Addr) (w37 : World) =>
  StoreR a3 [Value.slice q25 k49 k50, Value.int IntKind.i64 n69] w37 fun (w38 : World) =>
  ∃ (q26 : Option Addr),
  ∃ (k51 : Nat),
  ∃ (k52 : Nat),
  ∃ (n70 : Int),
  (cellAt w38 (Addr.add a3 (0 : Nat)) (Value.slice q26 k51 k52) ∧
  cellAt w38 (Addr.add a3 (1 : Nat)) (Value.int IntKind.i64 n70)) ∧
  StoreR (Addr.add a1 (10 : Nat)) [Value.slice q26 k51 k52, Value.int IntKind.i64 n70] w38 fun (w39 : World) =>
  ∃ (q27 : Option Addr),
  ∃ (k53 : Nat),
  ∃ (k54 : Nat),
  ∃ (n71 : Int),
  ∃ (n72 : Int),
  ∃ (q28 : Option Addr),
  ∃ (k55 : Nat),
  ∃ (k56 : Nat),
  ∃ (n73 : Int),
  ∃ (n74 : Int),
  ∃ (n75 : Int),
  ∃ (n76 : Int),
  ∃ (n77 : Int),
  ∃ (n78 : Int),
  ∃ (q29 : Option Addr),
  ∃ (k57 : Nat),
  ∃ (k58 : Nat),
  ∃ (n79 : Int),
  (cellAt w39 (Addr.add a1 (0 : Nat)) (Value.slice q27 k53 k54) ∧
  cellAt w39 (Addr.add a1 (1 : Nat)) (Value.int IntKind.i64 n71) ∧
  cellAt w39 (Addr.add a1 (2 : Nat)) (Value.int IntKind.u64 n72) ∧
  cellAt w39 (Addr.add a1 (3 : Nat)) (Value.slice q28 k55 k56) ∧
  cellAt w39 (Addr.add a1 (4 : Nat)) (Value.int IntKind.u64 n73) ∧
  cellAt w39 (Addr.add a1 (5 : Nat)) (Value.int IntKind.i64 n74) ∧
  cellAt w39 (Addr.add a1 (6 : Nat)) (Value.int IntKind.i64 n75) ∧
  cellAt w39 (Addr.add a1 (7 : Nat)) (Value.int IntKind.i64 n76) ∧
  cellAt w39 (Addr.add a1 (8 : Nat)) (Value.int IntKind.i64 n77) ∧
  cellAt w39 (Addr.add a1 (9 : Nat)) (Value.int IntKind.u64 n78) ∧
  cellAt w39 (Addr.add a1 (10 : Nat)) (Value.slice q29 k57 k58) ∧
  cellAt w39 (Addr.add a1 (11 : Nat)) (Value.int IntKind.i64 n79)) ∧
  StoreR a2
  [Value.slice q27 k53 k54, Value.int IntKind.i64 n71, Value.int IntKind.u64 n72, Value.slice q28 k55 k56,
  Value.int IntKind.u64 n73, Value.int IntKind.i64 n74, Value.int IntKind.i64 n75, Value.int IntKind.i64 n76,
  Value.int IntKind.i64 n77, Value.int IntKind.u64 n78, Value.slice q29 k57 k58, Value.int IntKind.i64 n79]
  w39 fun (w40 : World) =>
  ∃ (q30 : Option Addr),
  ∃ (k59 : Nat),
  ∃ (k60 : Nat),
  ∃ (n80 : Int),
  ∃ (n81 : Int),
  ∃ (q31 : Option Addr),
  ∃ (k61 : Nat),
  ∃ (k62 : Nat),
  ∃ (n82 : Int),
  ∃ (n83 : Int),
  ∃ (n84 : Int),
  ∃ (n85 : Int),
  ∃ (n86 : Int),
  ∃ (n87 : Int),
  ∃ (q32 : Option Addr),
  ∃ (k63 : Nat),
  ∃ (k64 : Nat),
  ∃ (n88 : Int),
  (cellAt w40 (Addr.add a2 (0 : Nat)) (Value.slice q30 k59 k60) ∧
  cellAt w40 (Addr.add a2 (1 : Nat)) (Value.int IntKind.i64 n80) ∧
  cellAt w40 (Addr.add a2 (2 : Nat)) (Value.int IntKind.u64 n81) ∧
  cellAt w40 (Addr.add a2 (3 : Nat)) (Value.slice q31 k61 k62) ∧
  cellAt w40 (Addr.add a2 (4 : Nat)) (Value.int IntKind.u64 n82) ∧
  cellAt w40 (Addr.add a2 (5 : Nat)) (Value.int IntKind.i64 n83) ∧
  cellAt w40 (Addr.add a2 (6 : Nat)) (Value.int IntKind.i64 n84) ∧
  cellAt w40 (Addr.add a2 (7 : Nat)) (Value.int IntKind.i64 n85) ∧
  cellAt w40 (Addr.add a2 (8 : Nat)) (Value.int IntKind.i64 n86) ∧
  cellAt w40 (Addr.add a2 (9 : Nat)) (Value.int IntKind.u64 n87) ∧
  cellAt w40 (Addr.add a2 (10 : Nat)) (Value.slice q32 k63 k64) ∧
  cellAt w40 (Addr.add a2 (11 : Nat)) (Value.int IntKind.i64 n88)) ∧
  K
  (Value.tuple
  {
  toList :=
  [Value.agg
  {
  toList :=
  [Value.slice q30 k59 k60, Value.int IntKind.i64 n80, Value.int IntKind.u64 n81, Value.slice q31 k61 k62,
  Value.int IntKind.u64 n82, Value.int IntKind.i64 n83, Value.int IntKind.i64 n84, Value.int IntKind.i64 n85,
  Value.int IntKind.i64 n86, Value.int IntKind.u64 n87, Value.slice q32 k63 k64, Value.int IntKind.i64 n88] },
  Value.slice q17 k33 k34, Value.bool true] })
  w40))
theorem cortadoref26_Add_eq (q1 : Option Addr) (l1 c1 : Nat) (wd s1 : Int) (q2 : Option Addr) (l2 c2 : Nat) (s2 ct lim ag ks sd : Int) (q3 : Option Addr) (l3 c3 : Nat) (mo : Int) (k n : Int) (gd : Nat) (w : World) (K : Value → World → Prop) : fw Tryz.prog Tryz.f35 (annL []) (ordL [(2000002, [(24, 0), (25, 0), (26, 0), (27, 0), (28, 0), (29, 0), (30, 0), (31, 0), (32, 0), (33, 0), (34, 0), (35, 0), (36, 5)]), (2000004, [(13, 82), (14, 5), (38, 0), (39, 0), (40, 0), (41, 0), (42, 0), (43, 0), (44, 0), (45, 0), (46, 0), (47, 0), (48, 0), (49, 0), (50, 0), (51, 0), (52, 0), (53, 0)]), (4, [(1, 0), (2, 0), (4, 0), (6, 0), (7, 0), (9, 0), (0, 1), (3, 1), (5, 0), (8, 1), (10, 2), (11, 3), (12, 0), (13, 0), (14, 0), (15, 0), (16, 3), (17, 0), (18, 0)])]) [.agg #[.slice q1 l1 c1, .int .i64 wd, .int .u64 s1, .slice q2 l2 c2, .int .u64 s2, .int .i64 ct, .int .i64 lim, .int .i64 ag, .int .i64 ks, .int .u64 sd, .slice q3 l3 c3, .int .i64 mo], .int .u64 k, .int .i64 n, .pointer (some ⟨gd, 0, none⟩)] w K = cortadoref26_Add_m q1 l1 c1 wd s1 q2 l2 c2 s2 ct lim ag ks sd q3 l3 c3 mo k n gd w K := by kernel_rfl
theorem cortadoref26_Add_go (q1 : Option Addr) (l1 c1 : Nat) (wd s1 : Int) (q2 : Option Addr) (l2 c2 : Nat) (s2 ct lim ag ks sd : Int) (q3 : Option Addr) (l3 c3 : Nat) (mo : Int) (k n : Int) (gd : Nat) {w : World} {K : Value → World → Prop} (h : cortadoref26_Add_m q1 l1 c1 wd s1 q2 l2 c2 s2 ct lim ag ks sd q3 l3 c3 mo k n gd w K) : Rets Tryz.prog 35 #[.agg #[.slice q1 l1 c1, .int .i64 wd, .int .u64 s1, .slice q2 l2 c2, .int .u64 s2, .int .i64 ct, .int .i64 lim, .int .i64 ag, .int .i64 ks, .int .u64 sd, .slice q3 l3 c3, .int .i64 mo], .int .u64 k, .int .i64 n, .pointer (some ⟨gd, 0, none⟩)] w K :=
  calls_of_fw plain mixed Tryz.func35 (by kernel_rfl) (by rw [cortadoref26_Add_eq]; exact h)
def cortadoref26_Update_m (q1 : Option Addr) (l1 c1 : Nat) (wd s1 : Int) (q2 : Option Addr) (l2 c2 : Nat) (s2 ct lim ag ks sd : Int) (q3 : Option Addr) (l3 c3 : Nat) (mo : Int) (k n : Int) (gd : Nat) (w : World) (K : Value → World → Prop) : Prop :=
  NewR (43 : Nat)
  [Value.slice q1 l1 c1, Value.int IntKind.i64 wd, Value.int IntKind.u64 s1, Value.slice q2 l2 c2,
  Value.int IntKind.u64 s2, Value.int IntKind.i64 ct, Value.int IntKind.i64 lim, Value.int IntKind.i64 ag,
  Value.int IntKind.i64 ks, Value.int IntKind.u64 sd, Value.slice q3 l3 c3, Value.int IntKind.i64 mo]
  w fun (a1 : Addr) (w1 : World) =>
  NewR (43 : Nat)
  [Value.slice none (0 : Nat) (0 : Nat), Value.int IntKind.i64 (0 : Int), Value.int IntKind.u64 (0 : Int),
  Value.slice none (0 : Nat) (0 : Nat), Value.int IntKind.u64 (0 : Int), Value.int IntKind.i64 (0 : Int),
  Value.int IntKind.i64 (0 : Int), Value.int IntKind.i64 (0 : Int), Value.int IntKind.i64 (0 : Int),
  Value.int IntKind.u64 (0 : Int), Value.slice none (0 : Nat) (0 : Nat), Value.int IntKind.i64 (0 : Int)]
  w1 fun (a2 : Addr) (w2 : World) =>
  ∃ (q1 : Option Addr),
  ∃ (k1 : Nat),
  ∃ (k2 : Nat),
  ∃ (n1 : Int),
  (cellAt w2 (Addr.add (Addr.add a1 (10 : Nat)) (0 : Nat)) (Value.slice q1 k1 k2) ∧
  cellAt w2 (Addr.add (Addr.add a1 (10 : Nat)) (1 : Nat)) (Value.int IntKind.i64 n1)) ∧
  Rets Tryz.prog (28 : Nat)
  { toList := [Value.agg { toList := [Value.slice q1 k1 k2, Value.int IntKind.i64 n1] }, Value.int IntKind.u64 k] } w2
  fun (v1 : Value) (w3 : World) =>
  ∃ (n2 : Int),
  ∃ (b1 : Bool),
  v1 = Value.tuple { toList := [Value.int IntKind.i64 n2, Value.bool b1] } ∧
  ∃ (h1 : List Value → World → Prop),
  (((!b1) = false →
  Rets Tryz.prog (52 : Nat) { toList := [Value.int IntKind.i64 n] } w3 fun (v2 : Value) (w4 : World) =>
  ∃ (b2 : Bool), v2 = Value.bool b2 ∧ h1 [Value.bool !b2] w4) ∧
  ((!b1) = true → h1 [Value.bool true] w3)) ∧
  ∀ (w5 : World) (v3 v4 v5 v6 v7 v8 : Value) (b3 : Bool),
  h1 [Value.bool b3] w5 →
  (b3 = true →
  ∃ (q2 : Option Addr),
  ∃ (k3 : Nat),
  ∃ (k4 : Nat),
  ∃ (n3 : Int),
  ∃ (n4 : Int),
  ∃ (q3 : Option Addr),
  ∃ (k5 : Nat),
  ∃ (k6 : Nat),
  ∃ (n5 : Int),
  ∃ (n6 : Int),
  ∃ (n7 : Int),
  ∃ (n8 : Int),
  ∃ (n9 : Int),
  ∃ (n10 : Int),
  ∃ (q4 : Option Addr),
  ∃ (k7 : Nat),
  ∃ (k8 : Nat),
  ∃ (n11 : Int),
  (cellAt w5 (Addr.add a1 (0 : Nat)) (Value.slice q2 k3 k4) ∧
  cellAt w5 (Addr.add a1 (1 : Nat)) (Value.int IntKind.i64 n3) ∧
  cellAt w5 (Addr.add a1 (2 : Nat)) (Value.int IntKind.u64 n4) ∧
  cellAt w5 (Addr.add a1 (3 : Nat)) (Value.slice q3 k5 k6) ∧
  cellAt w5 (Addr.add a1 (4 : Nat)) (Value.int IntKind.u64 n5) ∧
  cellAt w5 (Addr.add a1 (5 : Nat)) (Value.int IntKind.i64 n6) ∧
  cellAt w5 (Addr.add a1 (6 : Nat)) (Value.int IntKind.i64 n7) ∧
  cellAt w5 (Addr.add a1 (7 : Nat)) (Value.int IntKind.i64 n8) ∧
  cellAt w5 (Addr.add a1 (8 : Nat)) (Value.int IntKind.i64 n9) ∧
  cellAt w5 (Addr.add a1 (9 : Nat)) (Value.int IntKind.u64 n10) ∧
  cellAt w5 (Addr.add a1 (10 : Nat)) (Value.slice q4 k7 k8) ∧
  cellAt w5 (Addr.add a1 (11 : Nat)) (Value.int IntKind.i64 n11)) ∧
  StoreR a2
  [Value.slice q2 k3 k4, Value.int IntKind.i64 n3, Value.int IntKind.u64 n4, Value.slice q3 k5 k6,
  Value.int IntKind.u64 n5, Value.int IntKind.i64 n6, Value.int IntKind.i64 n7, Value.int IntKind.i64 n8,
  Value.int IntKind.i64 n9, Value.int IntKind.u64 n10, Value.slice q4 k7 k8, Value.int IntKind.i64 n11]
  w5 fun (w6 : World) =>
  ∃ (q5 : Option Addr),
  ∃ (k9 : Nat),
  ∃ (k10 : Nat),
  ∃ (n12 : Int),
  ∃ (n13 : Int),
  ∃ (q6 : Option Addr),
  ∃ (k11 : Nat),
  ∃ (k12 : Nat),
  ∃ (n14 : Int),
  ∃ (n15 : Int),
  ∃ (n16 : Int),
  ∃ (n17 : Int),
  ∃ (n18 : Int),
  ∃ (n19 : Int),
  ∃ (q7 : Option Addr),
  ∃ (k13 : Nat),
  ∃ (k14 : Nat),
  ∃ (n20 : Int),
  (cellAt w6 (Addr.add a2 (0 : Nat)) (Value.slice q5 k9 k10) ∧
  cellAt w6 (Addr.add a2 (1 : Nat)) (Value.int IntKind.i64 n12) ∧
  cellAt w6 (Addr.add a2 (2 : Nat)) (Value.int IntKind.u64 n13) ∧
  cellAt w6 (Addr.add a2 (3 : Nat)) (Value.slice q6 k11 k12) ∧
  cellAt w6 (Addr.add a2 (4 : Nat)) (Value.int IntKind.u64 n14) ∧
  cellAt w6 (Addr.add a2 (5 : Nat)) (Value.int IntKind.i64 n15) ∧
  cellAt w6 (Addr.add a2 (6 : Nat)) (Value.int IntKind.i64 n16) ∧
  cellAt w6 (Addr.add a2 (7 : Nat)) (Value.int IntKind.i64 n17) ∧
  cellAt w6 (Addr.add a2 (8 : Nat)) (Value.int IntKind.i64 n18) ∧
  cellAt w6 (Addr.add a2 (9 : Nat)) (Value.int IntKind.u64 n19) ∧
  cellAt w6 (Addr.add a2 (10 : Nat)) (Value.slice q7 k13 k14) ∧
  cellAt w6 (Addr.add a2 (11 : Nat)) (Value.int IntKind.i64 n20)) ∧
  K
  (Value.tuple
  {
  toList :=
  [Value.agg
  {
  toList :=
  [Value.slice q5 k9 k10, Value.int IntKind.i64 n12, Value.int IntKind.u64 n13, Value.slice q6 k11 k12,
  Value.int IntKind.u64 n14, Value.int IntKind.i64 n15, Value.int IntKind.i64 n16, Value.int IntKind.i64 n17,
  Value.int IntKind.i64 n18, Value.int IntKind.u64 n19, Value.slice q7 k13 k14, Value.int IntKind.i64 n20] },
  Value.slice none (0 : Nat) (0 : Nat), Value.bool false] })
  w6) ∧
  (b3 = false →
  ∃ (q8 : Option Addr),
  ∃ (k15 : Nat),
  ∃ (k16 : Nat),
  ∃ (n21 : Int),
  (cellAt w5 (Addr.add (Addr.add a1 (10 : Nat)) (0 : Nat)) (Value.slice q8 k15 k16) ∧
  cellAt w5 (Addr.add (Addr.add a1 (10 : Nat)) (1 : Nat)) (Value.int IntKind.i64 n21)) ∧
  Rets Tryz.prog (29 : Nat)
  { toList := [Value.agg { toList := [Value.slice q8 k15 k16, Value.int IntKind.i64 n21] }, Value.int IntKind.u64 k] } w5
  fun (v9 : Value) (w7 : World) =>
  ∃ (q9 : Option Addr),
  ∃ (k17 : Nat),
  ∃ (k18 : Nat),
  ∃ (n22 : Int),
  v9 = Value.agg { toList := [Value.slice q9 k17 k18, Value.int IntKind.i64 n22] } ∧
  StoreR (Addr.add a1 (10 : Nat)) [Value.slice q9 k17 k18, Value.int IntKind.i64 n22] w7 fun (w8 : World) =>
  ∃ (n23 : Int),
  cellAt w8 (Addr.add (Addr.add a1 (10 : Nat)) (1 : Nat)) (Value.int IntKind.i64 n23) ∧
  (decide (n > n23) = true →
  ∃ (q10 : Option Addr),
  ∃ (k19 : Nat),
  ∃ (k20 : Nat),
  ∃ (n24 : Int),
  ∃ (n25 : Int),
  ∃ (q11 : Option Addr),
  ∃ (k21 : Nat),
  ∃ (k22 : Nat),
  ∃ (n26 : Int),
  ∃ (n27 : Int),
  ∃ (n28 : Int),
  ∃ (n29 : Int),
  ∃ (n30 : Int),
  ∃ (n31 : Int),
  ∃ (q12 : Option Addr),
  ∃ (k23 : Nat),
  ∃ (k24 : Nat),
  ∃ (n32 : Int),
  (cellAt w8 (Addr.add a1 (0 : Nat)) (Value.slice q10 k19 k20) ∧
  cellAt w8 (Addr.add a1 (1 : Nat)) (Value.int IntKind.i64 n24) ∧
  cellAt w8 (Addr.add a1 (2 : Nat)) (Value.int IntKind.u64 n25) ∧
  cellAt w8 (Addr.add a1 (3 : Nat)) (Value.slice q11 k21 k22) ∧
  cellAt w8 (Addr.add a1 (4 : Nat)) (Value.int IntKind.u64 n26) ∧
  cellAt w8 (Addr.add a1 (5 : Nat)) (Value.int IntKind.i64 n27) ∧
  cellAt w8 (Addr.add a1 (6 : Nat)) (Value.int IntKind.i64 n28) ∧
  cellAt w8 (Addr.add a1 (7 : Nat)) (Value.int IntKind.i64 n29) ∧
  cellAt w8 (Addr.add a1 (8 : Nat)) (Value.int IntKind.i64 n30) ∧
  cellAt w8 (Addr.add a1 (9 : Nat)) (Value.int IntKind.u64 n31) ∧
  cellAt w8 (Addr.add a1 (10 : Nat)) (Value.slice q12 k23 k24) ∧
  cellAt w8 (Addr.add a1 (11 : Nat)) (Value.int IntKind.i64 n32)) ∧
  NewR (115 : Nat) [Value.int IntKind.u64 k, Value.int IntKind.i64 n2] w8 fun (a3 : Addr) (w9 : World) =>
  StoreR a2
  [Value.slice q10 k19 k20, Value.int IntKind.i64 n24, Value.int IntKind.u64 n25, Value.slice q11 k21 k22,
  Value.int IntKind.u64 n26, Value.int IntKind.i64 n27, Value.int IntKind.i64 n28, Value.int IntKind.i64 n29,
  Value.int IntKind.i64 n30, Value.int IntKind.u64 n31, Value.slice q12 k23 k24, Value.int IntKind.i64 n32]
  w9 fun (w10 : World) =>
  ∃ (q13 : Option Addr),
  ∃ (k25 : Nat),
  ∃ (k26 : Nat),
  ∃ (n33 : Int),
  ∃ (n34 : Int),
  ∃ (q14 : Option Addr),
  ∃ (k27 : Nat),
  ∃ (k28 : Nat),
  ∃ (n35 : Int),
  ∃ (n36 : Int),
  ∃ (n37 : Int),
  ∃ (n38 : Int),
  ∃ (n39 : Int),
  ∃ (n40 : Int),
  ∃ (q15 : Option Addr),
  ∃ (k29 : Nat),
  ∃ (k30 : Nat),
  ∃ (n41 : Int),
  (cellAt w10 (Addr.add a2 (0 : Nat)) (Value.slice q13 k25 k26) ∧
  cellAt w10 (Addr.add a2 (1 : Nat)) (Value.int IntKind.i64 n33) ∧
  cellAt w10 (Addr.add a2 (2 : Nat)) (Value.int IntKind.u64 n34) ∧
  cellAt w10 (Addr.add a2 (3 : Nat)) (Value.slice q14 k27 k28) ∧
  cellAt w10 (Addr.add a2 (4 : Nat)) (Value.int IntKind.u64 n35) ∧
  cellAt w10 (Addr.add a2 (5 : Nat)) (Value.int IntKind.i64 n36) ∧
  cellAt w10 (Addr.add a2 (6 : Nat)) (Value.int IntKind.i64 n37) ∧
  cellAt w10 (Addr.add a2 (7 : Nat)) (Value.int IntKind.i64 n38) ∧
  cellAt w10 (Addr.add a2 (8 : Nat)) (Value.int IntKind.i64 n39) ∧
  cellAt w10 (Addr.add a2 (9 : Nat)) (Value.int IntKind.u64 n40) ∧
  cellAt w10 (Addr.add a2 (10 : Nat)) (Value.slice q15 k29 k30) ∧
  cellAt w10 (Addr.add a2 (11 : Nat)) (Value.int IntKind.i64 n41)) ∧
  K
  (Value.tuple
  {
  toList :=
  [Value.agg
  {
  toList :=
  [Value.slice q13 k25 k26, Value.int IntKind.i64 n33, Value.int IntKind.u64 n34, Value.slice q14 k27 k28,
  Value.int IntKind.u64 n35, Value.int IntKind.i64 n36, Value.int IntKind.i64 n37, Value.int IntKind.i64 n38,
  Value.int IntKind.i64 n39, Value.int IntKind.u64 n40, Value.slice q15 k29 k30, Value.int IntKind.i64 n41] },
  Value.slice (some a3) (1 : Nat) (1 : Nat), Value.bool false] })
  w10) ∧
  (decide (n > n23) = false →
  ∃ (q16 : Option Addr),
  ∃ (k31 : Nat),
  ∃ (k32 : Nat),
  ∃ (n42 : Int),
  ∃ (n43 : Int),
  ∃ (q17 : Option Addr),
  ∃ (k33 : Nat),
  ∃ (k34 : Nat),
  ∃ (n44 : Int),
  ∃ (n45 : Int),
  ∃ (n46 : Int),
  ∃ (n47 : Int),
  ∃ (n48 : Int),
  ∃ (n49 : Int),
  ∃ (q18 : Option Addr),
  ∃ (k35 : Nat),
  ∃ (k36 : Nat),
  ∃ (n50 : Int),
  (cellAt w8 (Addr.add a1 (0 : Nat)) (Value.slice q16 k31 k32) ∧
  cellAt w8 (Addr.add a1 (1 : Nat)) (Value.int IntKind.i64 n42) ∧
  cellAt w8 (Addr.add a1 (2 : Nat)) (Value.int IntKind.u64 n43) ∧
  cellAt w8 (Addr.add a1 (3 : Nat)) (Value.slice q17 k33 k34) ∧
  cellAt w8 (Addr.add a1 (4 : Nat)) (Value.int IntKind.u64 n44) ∧
  cellAt w8 (Addr.add a1 (5 : Nat)) (Value.int IntKind.i64 n45) ∧
  cellAt w8 (Addr.add a1 (6 : Nat)) (Value.int IntKind.i64 n46) ∧
  cellAt w8 (Addr.add a1 (7 : Nat)) (Value.int IntKind.i64 n47) ∧
  cellAt w8 (Addr.add a1 (8 : Nat)) (Value.int IntKind.i64 n48) ∧
  cellAt w8 (Addr.add a1 (9 : Nat)) (Value.int IntKind.u64 n49) ∧
  cellAt w8 (Addr.add a1 (10 : Nat)) (Value.slice q18 k35 k36) ∧
  cellAt w8 (Addr.add a1 (11 : Nat)) (Value.int IntKind.i64 n50)) ∧
  ∃ (n51 : Int),
  cellAt w8 (Addr.add (Addr.add a1 (10 : Nat)) (1 : Nat)) (Value.int IntKind.i64 n51) ∧
  Rets Tryz.prog (54 : Nat)
  {
  toList :=
  [Value.agg
  {
  toList :=
  [Value.slice q16 k31 k32, Value.int IntKind.i64 n42, Value.int IntKind.u64 n43, Value.slice q17 k33 k34,
  Value.int IntKind.u64 n44, Value.int IntKind.i64 n45, Value.int IntKind.i64 n46, Value.int IntKind.i64 n47,
  Value.int IntKind.i64 n48, Value.int IntKind.u64 n49, Value.slice q18 k35 k36, Value.int IntKind.i64 n50] },
  Value.int IntKind.i64 (IntKind.wrap IntKind.i64 (n51 - n)), Value.pointer (some { block := gd, off := (0 : Nat) }),
  Value.int IntKind.i64 (1000 : Int)] }
  w8 fun (v10 : Value) (w11 : World) =>
  ∃ (q19 : Option Addr),
  ∃ (k37 : Nat),
  ∃ (k38 : Nat),
  ∃ (n52 : Int),
  ∃ (n53 : Int),
  ∃ (q20 : Option Addr),
  ∃ (k39 : Nat),
  ∃ (k40 : Nat),
  ∃ (n54 : Int),
  ∃ (n55 : Int),
  ∃ (n56 : Int),
  ∃ (n57 : Int),
  ∃ (n58 : Int),
  ∃ (n59 : Int),
  ∃ (q21 : Option Addr),
  ∃ (k41 : Nat),
  ∃ (k42 : Nat),
  ∃ (n60 : Int),
  ∃ (q22 : Option Addr),
  ∃ (k43 : Nat),
  ∃ (k44 : Nat),
  ∃ (b4 : Bool),
  v10 =
  Value.tuple
  {
  toList :=
  [Value.agg
  {
  toList :=
  [Value.slice q19 k37 k38, Value.int IntKind.i64 n52, Value.int IntKind.u64 n53, Value.slice q20 k39 k40,
  Value.int IntKind.u64 n54, Value.int IntKind.i64 n55, Value.int IntKind.i64 n56, Value.int IntKind.i64 n57,
  Value.int IntKind.i64 n58, Value.int IntKind.u64 n59, Value.slice q21 k41 k42, Value.int IntKind.i64 n60] },
  Value.slice q22 k43 k44, Value.bool b4] } ∧
  StoreR a1
  [Value.slice q19 k37 k38, Value.int IntKind.i64 n52, Value.int IntKind.u64 n53, Value.slice q20 k39 k40,
  Value.int IntKind.u64 n54, Value.int IntKind.i64 n55, Value.int IntKind.i64 n56, Value.int IntKind.i64 n57,
  Value.int IntKind.i64 n58, Value.int IntKind.u64 n59, Value.slice q21 k41 k42, Value.int IntKind.i64 n60]
  w11 fun (w12 : World) =>
  ∃ (q23 : Option Addr),
  ∃ (k45 : Nat),
  ∃ (k46 : Nat),
  ∃ (n61 : Int),
  (cellAt w12 (Addr.add (Addr.add a1 (10 : Nat)) (0 : Nat)) (Value.slice q23 k45 k46) ∧
  cellAt w12 (Addr.add (Addr.add a1 (10 : Nat)) (1 : Nat)) (Value.int IntKind.i64 n61)) ∧
  Rets Tryz.prog (55 : Nat)
  {
  toList :=
  [Value.agg { toList := [Value.slice q23 k45 k46, Value.int IntKind.i64 n61] }, Value.int IntKind.u64 k,
  Value.int IntKind.i64 n] }
  w12 fun (v11 : Value) (w13 : World) =>
  ∃ (q24 : Option Addr),
  ∃ (k47 : Nat),
  ∃ (k48 : Nat),
  ∃ (n62 : Int),
  ∃ (b5 : Bool),
  v11 =
  Value.tuple
  { toList := [Value.agg { toList := [Value.slice q24 k47 k48, Value.int IntKind.i64 n62] }, Value.bool b5] } ∧
  NewR (41 : Nat) [Value.slice none (0 : Nat) (0 : Nat), Value.int IntKind.i64 (0 : Int)] w13
  fun (a4 : Addr) (w14 : World) =>
  StoreR a4 [Value.slice q24 k47 k48, Value.int IntKind.i64 n62] w14 fun (w15 : World) =>
  ∃ (q25 : Option Addr),
  ∃ (k49 : Nat),
  ∃ (k50 : Nat),
  ∃ (n63 : Int),
  (cellAt w15 (Addr.add a4 (0 : Nat)) (Value.slice q25 k49 k50) ∧
  cellAt w15 (Addr.add a4 (1 : Nat)) (Value.int IntKind.i64 n63)) ∧
  StoreR (Addr.add a1 (10 : Nat)) [Value.slice q25 k49 k50, Value.int IntKind.i64 n63] w15 fun (w16 : World) =>
  ∃ (q26 : Option Addr),
  ∃ (k51 : Nat),
  ∃ (k52 : Nat),
  ∃ (n64 : Int),
  ∃ (n65 : Int),
  ∃ (q27 : Option Addr),
  ∃ (k53 : Nat),
  ∃ (k54 : Nat),
  ∃ (n66 : Int),
  ∃ (n67 : Int),
  ∃ (n68 : Int),
  ∃ (n69 : Int),
  ∃ (n70 : Int),
  ∃ (n71 : Int),
  ∃ (q28 : Option Addr),
  ∃ (k55 : Nat),
  ∃ (k56 : Nat),
  ∃ (n72 : Int),
  (cellAt w16 (Addr.add a1 (0 : Nat)) (Value.slice q26 k51 k52) ∧
  cellAt w16 (Addr.add a1 (1 : Nat)) (Value.int IntKind.i64 n64) ∧
  cellAt w16 (Addr.add a1 (2 : Nat)) (Value.int IntKind.u64 n65) ∧
  cellAt w16 (Addr.add a1 (3 : Nat)) (Value.slice q27 k53 k54) ∧
  cellAt w16 (Addr.add a1 (4 : Nat)) (Value.int IntKind.u64 n66) ∧
  cellAt w16 (Addr.add a1 (5 : Nat)) (Value.int IntKind.i64 n67) ∧
  cellAt w16 (Addr.add a1 (6 : Nat)) (Value.int IntKind.i64 n68) ∧
  cellAt w16 (Addr.add a1 (7 : Nat)) (Value.int IntKind.i64 n69) ∧
  cellAt w16 (Addr.add a1 (8 : Nat)) (Value.int IntKind.i64 n70) ∧
  cellAt w16 (Addr.add a1 (9 : Nat)) (Value.int IntKind.u64 n71) ∧
  cellAt w16 (Addr.add a1 (10 : Nat)) (Value.slice q28 k55 k56) ∧
  cellAt w16 (Addr.add a1 (11 : Nat)) (Value.int IntKind.i64 n72)) ∧
  StoreR a2
  [Value.slice q26 k51 k52, Value.int IntKind.i64 n64, Value.int IntKind.u64 n65, Value.slice q27 k53 k54,
  Value.int IntKind.u64 n66, Value.int IntKind.i64 n67, Value.int IntKind.i64 n68, Value.int IntKind.i64 n69,
  Value.int IntKind.i64 n70, Value.int IntKind.u64 n71, Value.slice q28 k55 k56, Value.int IntKind.i64 n72]
  w16 fun (w17 : World) =>
  ∃ (q29 : Option Addr),
  ∃ (k57 : Nat),
  ∃ (k58 : Nat),
  ∃ (n73 : Int),
  ∃ (n74 : Int),
  ∃ (q30 : Option Addr),
  ∃ (k59 : Nat),
  ∃ (k60 : Nat),
  ∃ (n75 : Int),
  ∃ (n76 : Int),
  ∃ (n77 : Int),
  ∃ (n78 : Int),
  ∃ (n79 : Int),
  ∃ (n80 : Int),
  ∃ (q31 : Option Addr),
  ∃ (k61 : Nat),
  ∃ (k62 : Nat),
  ∃ (n81 : Int),
  (cellAt w17 (Addr.add a2 (0 : Nat)) (Value.slice q29 k57 k58) ∧
  cellAt w17 (Addr.add a2 (1 : Nat)) (Value.int IntKind.i64 n73) ∧
  cellAt w17 (Addr.add a2 (2 : Nat)) (Value.int IntKind.u64 n74) ∧
  cellAt w17 (Addr.add a2 (3 : Nat)) (Value.slice q30 k59 k60) ∧
  cellAt w17 (Addr.add a2 (4 : Nat)) (Value.int IntKind.u64 n75) ∧
  cellAt w17 (Addr.add a2 (5 : Nat)) (Value.int IntKind.i64 n76) ∧
  cellAt w17 (Addr.add a2 (6 : Nat)) (Value.int IntKind.i64 n77) ∧
  cellAt w17 (Addr.add a2 (7 : Nat)) (Value.int IntKind.i64 n78) ∧
  cellAt w17 (Addr.add a2 (8 : Nat)) (Value.int IntKind.i64 n79) ∧
  cellAt w17 (Addr.add a2 (9 : Nat)) (Value.int IntKind.u64 n80) ∧
  cellAt w17 (Addr.add a2 (10 : Nat)) (Value.slice q31 k61 k62) ∧
  cellAt w17 (Addr.add a2 (11 : Nat)) (Value.int IntKind.i64 n81)) ∧
  K
  (Value.tuple
  {
  toList :=
  [Value.agg
  {
  toList :=
  [Value.slice q29 k57 k58, Value.int IntKind.i64 n73, Value.int IntKind.u64 n74, Value.slice q30 k59 k60,
  Value.int IntKind.u64 n75, Value.int IntKind.i64 n76, Value.int IntKind.i64 n77, Value.int IntKind.i64 n78,
  Value.int IntKind.i64 n79, Value.int IntKind.u64 n80, Value.slice q31 k61 k62, Value.int IntKind.i64 n81] },
  Value.slice q22 k43 k44, Value.bool true] })
  w17))
theorem cortadoref26_Update_eq (q1 : Option Addr) (l1 c1 : Nat) (wd s1 : Int) (q2 : Option Addr) (l2 c2 : Nat) (s2 ct lim ag ks sd : Int) (q3 : Option Addr) (l3 c3 : Nat) (mo : Int) (k n : Int) (gd : Nat) (w : World) (K : Value → World → Prop) : fw Tryz.prog Tryz.f26 (annL []) (ordL [(2000002, [(24, 0), (25, 0), (26, 0), (27, 0), (28, 0), (29, 0), (30, 5)])]) [.agg #[.slice q1 l1 c1, .int .i64 wd, .int .u64 s1, .slice q2 l2 c2, .int .u64 s2, .int .i64 ct, .int .i64 lim, .int .i64 ag, .int .i64 ks, .int .u64 sd, .slice q3 l3 c3, .int .i64 mo], .int .u64 k, .int .i64 n, .pointer (some ⟨gd, 0, none⟩)] w K = cortadoref26_Update_m q1 l1 c1 wd s1 q2 l2 c2 s2 ct lim ag ks sd q3 l3 c3 mo k n gd w K := by kernel_rfl
theorem cortadoref26_Update_go (q1 : Option Addr) (l1 c1 : Nat) (wd s1 : Int) (q2 : Option Addr) (l2 c2 : Nat) (s2 ct lim ag ks sd : Int) (q3 : Option Addr) (l3 c3 : Nat) (mo : Int) (k n : Int) (gd : Nat) {w : World} {K : Value → World → Prop} (h : cortadoref26_Update_m q1 l1 c1 wd s1 q2 l2 c2 s2 ct lim ag ks sd q3 l3 c3 mo k n gd w K) : Rets Tryz.prog 26 #[.agg #[.slice q1 l1 c1, .int .i64 wd, .int .u64 s1, .slice q2 l2 c2, .int .u64 s2, .int .i64 ct, .int .i64 lim, .int .i64 ag, .int .i64 ks, .int .u64 sd, .slice q3 l3 c3, .int .i64 mo], .int .u64 k, .int .i64 n, .pointer (some ⟨gd, 0, none⟩)] w K :=
  calls_of_fw plain mixed Tryz.func26 (by kernel_rfl) (by rw [cortadoref26_Update_eq]; exact h)
def cortadoref26_Limit_m (q1 : Option Addr) (l1 c1 : Nat) (wd s1 : Int) (q2 : Option Addr) (l2 c2 : Nat) (s2 ct lim ag ks sd : Int) (q3 : Option Addr) (l3 c3 : Nat) (mo : Int) (n : Int) (gd : Nat) (w : World) (K : Value → World → Prop) : Prop :=
  NewR (43 : Nat)
  [Value.slice q1 l1 c1, Value.int IntKind.i64 wd, Value.int IntKind.u64 s1, Value.slice q2 l2 c2,
  Value.int IntKind.u64 s2, Value.int IntKind.i64 ct, Value.int IntKind.i64 lim, Value.int IntKind.i64 ag,
  Value.int IntKind.i64 ks, Value.int IntKind.u64 sd, Value.slice q3 l3 c3, Value.int IntKind.i64 mo]
  w fun (a1 : Addr) (w1 : World) =>
  NewR (43 : Nat)
  [Value.slice none (0 : Nat) (0 : Nat), Value.int IntKind.i64 (0 : Int), Value.int IntKind.u64 (0 : Int),
  Value.slice none (0 : Nat) (0 : Nat), Value.int IntKind.u64 (0 : Int), Value.int IntKind.i64 (0 : Int),
  Value.int IntKind.i64 (0 : Int), Value.int IntKind.i64 (0 : Int), Value.int IntKind.i64 (0 : Int),
  Value.int IntKind.u64 (0 : Int), Value.slice none (0 : Nat) (0 : Nat), Value.int IntKind.i64 (0 : Int)]
  w1 fun (a2 : Addr) (w2 : World) =>
  Rets Tryz.prog (52 : Nat) { toList := [Value.int IntKind.i64 n] } w2 fun (v1 : Value) (w3 : World) =>
  ∃ (b1 : Bool),
  v1 = Value.bool b1 ∧
  ((!b1) = true →
  ∃ (q1 : Option Addr),
  ∃ (k1 : Nat),
  ∃ (k2 : Nat),
  ∃ (n1 : Int),
  ∃ (n2 : Int),
  ∃ (q2 : Option Addr),
  ∃ (k3 : Nat),
  ∃ (k4 : Nat),
  ∃ (n3 : Int),
  ∃ (n4 : Int),
  ∃ (n5 : Int),
  ∃ (n6 : Int),
  ∃ (n7 : Int),
  ∃ (n8 : Int),
  ∃ (q3 : Option Addr),
  ∃ (k5 : Nat),
  ∃ (k6 : Nat),
  ∃ (n9 : Int),
  (cellAt w3 (Addr.add a1 (0 : Nat)) (Value.slice q1 k1 k2) ∧
  cellAt w3 (Addr.add a1 (1 : Nat)) (Value.int IntKind.i64 n1) ∧
  cellAt w3 (Addr.add a1 (2 : Nat)) (Value.int IntKind.u64 n2) ∧
  cellAt w3 (Addr.add a1 (3 : Nat)) (Value.slice q2 k3 k4) ∧
  cellAt w3 (Addr.add a1 (4 : Nat)) (Value.int IntKind.u64 n3) ∧
  cellAt w3 (Addr.add a1 (5 : Nat)) (Value.int IntKind.i64 n4) ∧
  cellAt w3 (Addr.add a1 (6 : Nat)) (Value.int IntKind.i64 n5) ∧
  cellAt w3 (Addr.add a1 (7 : Nat)) (Value.int IntKind.i64 n6) ∧
  cellAt w3 (Addr.add a1 (8 : Nat)) (Value.int IntKind.i64 n7) ∧
  cellAt w3 (Addr.add a1 (9 : Nat)) (Value.int IntKind.u64 n8) ∧
  cellAt w3 (Addr.add a1 (10 : Nat)) (Value.slice q3 k5 k6) ∧
  cellAt w3 (Addr.add a1 (11 : Nat)) (Value.int IntKind.i64 n9)) ∧
  StoreR a2
  [Value.slice q1 k1 k2, Value.int IntKind.i64 n1, Value.int IntKind.u64 n2, Value.slice q2 k3 k4,
  Value.int IntKind.u64 n3, Value.int IntKind.i64 n4, Value.int IntKind.i64 n5, Value.int IntKind.i64 n6,
  Value.int IntKind.i64 n7, Value.int IntKind.u64 n8, Value.slice q3 k5 k6, Value.int IntKind.i64 n9]
  w3 fun (w4 : World) =>
  ∃ (q4 : Option Addr),
  ∃ (k7 : Nat),
  ∃ (k8 : Nat),
  ∃ (n10 : Int),
  ∃ (n11 : Int),
  ∃ (q5 : Option Addr),
  ∃ (k9 : Nat),
  ∃ (k10 : Nat),
  ∃ (n12 : Int),
  ∃ (n13 : Int),
  ∃ (n14 : Int),
  ∃ (n15 : Int),
  ∃ (n16 : Int),
  ∃ (n17 : Int),
  ∃ (q6 : Option Addr),
  ∃ (k11 : Nat),
  ∃ (k12 : Nat),
  ∃ (n18 : Int),
  (cellAt w4 (Addr.add a2 (0 : Nat)) (Value.slice q4 k7 k8) ∧
  cellAt w4 (Addr.add a2 (1 : Nat)) (Value.int IntKind.i64 n10) ∧
  cellAt w4 (Addr.add a2 (2 : Nat)) (Value.int IntKind.u64 n11) ∧
  cellAt w4 (Addr.add a2 (3 : Nat)) (Value.slice q5 k9 k10) ∧
  cellAt w4 (Addr.add a2 (4 : Nat)) (Value.int IntKind.u64 n12) ∧
  cellAt w4 (Addr.add a2 (5 : Nat)) (Value.int IntKind.i64 n13) ∧
  cellAt w4 (Addr.add a2 (6 : Nat)) (Value.int IntKind.i64 n14) ∧
  cellAt w4 (Addr.add a2 (7 : Nat)) (Value.int IntKind.i64 n15) ∧
  cellAt w4 (Addr.add a2 (8 : Nat)) (Value.int IntKind.i64 n16) ∧
  cellAt w4 (Addr.add a2 (9 : Nat)) (Value.int IntKind.u64 n17) ∧
  cellAt w4 (Addr.add a2 (10 : Nat)) (Value.slice q6 k11 k12) ∧
  cellAt w4 (Addr.add a2 (11 : Nat)) (Value.int IntKind.i64 n18)) ∧
  K
  (Value.tuple
  {
  toList :=
  [Value.agg
  {
  toList :=
  [Value.slice q4 k7 k8, Value.int IntKind.i64 n10, Value.int IntKind.u64 n11, Value.slice q5 k9 k10,
  Value.int IntKind.u64 n12, Value.int IntKind.i64 n13, Value.int IntKind.i64 n14, Value.int IntKind.i64 n15,
  Value.int IntKind.i64 n16, Value.int IntKind.u64 n17, Value.slice q6 k11 k12, Value.int IntKind.i64 n18] },
  Value.slice none (0 : Nat) (0 : Nat), Value.bool false] })
  w4) ∧
  ((!b1) = false →
  ∃ (q7 : Option Addr),
  ∃ (k13 : Nat),
  ∃ (k14 : Nat),
  ∃ (n19 : Int),
  ∃ (n20 : Int),
  ∃ (q8 : Option Addr),
  ∃ (k15 : Nat),
  ∃ (k16 : Nat),
  ∃ (n21 : Int),
  ∃ (n22 : Int),
  ∃ (n23 : Int),
  ∃ (n24 : Int),
  ∃ (n25 : Int),
  ∃ (n26 : Int),
  ∃ (q9 : Option Addr),
  ∃ (k17 : Nat),
  ∃ (k18 : Nat),
  ∃ (n27 : Int),
  (cellAt w3 (Addr.add a1 (0 : Nat)) (Value.slice q7 k13 k14) ∧
  cellAt w3 (Addr.add a1 (1 : Nat)) (Value.int IntKind.i64 n19) ∧
  cellAt w3 (Addr.add a1 (2 : Nat)) (Value.int IntKind.u64 n20) ∧
  cellAt w3 (Addr.add a1 (3 : Nat)) (Value.slice q8 k15 k16) ∧
  cellAt w3 (Addr.add a1 (4 : Nat)) (Value.int IntKind.u64 n21) ∧
  cellAt w3 (Addr.add a1 (5 : Nat)) (Value.int IntKind.i64 n22) ∧
  cellAt w3 (Addr.add a1 (6 : Nat)) (Value.int IntKind.i64 n23) ∧
  cellAt w3 (Addr.add a1 (7 : Nat)) (Value.int IntKind.i64 n24) ∧
  cellAt w3 (Addr.add a1 (8 : Nat)) (Value.int IntKind.i64 n25) ∧
  cellAt w3 (Addr.add a1 (9 : Nat)) (Value.int IntKind.u64 n26) ∧
  cellAt w3 (Addr.add a1 (10 : Nat)) (Value.slice q9 k17 k18) ∧
  cellAt w3 (Addr.add a1 (11 : Nat)) (Value.int IntKind.i64 n27)) ∧
  Rets Tryz.prog (54 : Nat)
  {
  toList :=
  [Value.agg
  {
  toList :=
  [Value.slice q7 k13 k14, Value.int IntKind.i64 n19, Value.int IntKind.u64 n20, Value.slice q8 k15 k16,
  Value.int IntKind.u64 n21, Value.int IntKind.i64 n22, Value.int IntKind.i64 n23, Value.int IntKind.i64 n24,
  Value.int IntKind.i64 n25, Value.int IntKind.u64 n26, Value.slice q9 k17 k18, Value.int IntKind.i64 n27] },
  Value.int IntKind.i64 n, Value.pointer (some { block := gd, off := (0 : Nat) }), Value.int IntKind.i64 (1000 : Int)] }
  w3 fun (v2 : Value) (w5 : World) =>
  ∃ (q10 : Option Addr),
  ∃ (k19 : Nat),
  ∃ (k20 : Nat),
  ∃ (n28 : Int),
  ∃ (n29 : Int),
  ∃ (q11 : Option Addr),
  ∃ (k21 : Nat),
  ∃ (k22 : Nat),
  ∃ (n30 : Int),
  ∃ (n31 : Int),
  ∃ (n32 : Int),
  ∃ (n33 : Int),
  ∃ (n34 : Int),
  ∃ (n35 : Int),
  ∃ (q12 : Option Addr),
  ∃ (k23 : Nat),
  ∃ (k24 : Nat),
  ∃ (n36 : Int),
  ∃ (q13 : Option Addr),
  ∃ (k25 : Nat),
  ∃ (k26 : Nat),
  ∃ (b2 : Bool),
  v2 =
  Value.tuple
  {
  toList :=
  [Value.agg
  {
  toList :=
  [Value.slice q10 k19 k20, Value.int IntKind.i64 n28, Value.int IntKind.u64 n29, Value.slice q11 k21 k22,
  Value.int IntKind.u64 n30, Value.int IntKind.i64 n31, Value.int IntKind.i64 n32, Value.int IntKind.i64 n33,
  Value.int IntKind.i64 n34, Value.int IntKind.u64 n35, Value.slice q12 k23 k24, Value.int IntKind.i64 n36] },
  Value.slice q13 k25 k26, Value.bool b2] } ∧
  StoreR a1
  [Value.slice q10 k19 k20, Value.int IntKind.i64 n28, Value.int IntKind.u64 n29, Value.slice q11 k21 k22,
  Value.int IntKind.u64 n30, Value.int IntKind.i64 n31, Value.int IntKind.i64 n32, Value.int IntKind.i64 n33,
  Value.int IntKind.i64 n34, Value.int IntKind.u64 n35, Value.slice q12 k23 k24, Value.int IntKind.i64 n36]
  w5 fun (w6 : World) =>
  StoreR (Addr.add (Addr.add a1 (10 : Nat)) (1 : Nat)) [Value.int IntKind.i64 n] w6 fun (w7 : World) =>
  ∃ (q14 : Option Addr),
  ∃ (k27 : Nat),
  ∃ (k28 : Nat),
  ∃ (n37 : Int),
  ∃ (n38 : Int),
  ∃ (q15 : Option Addr),
  ∃ (k29 : Nat),
  ∃ (k30 : Nat),
  ∃ (n39 : Int),
  ∃ (n40 : Int),
  ∃ (n41 : Int),
  ∃ (n42 : Int),
  ∃ (n43 : Int),
  ∃ (n44 : Int),
  ∃ (q16 : Option Addr),
  ∃ (k31 : Nat),
  ∃ (k32 : Nat),
  ∃ (n45 : Int),
  (cellAt w7 (Addr.add a1 (0 : Nat)) (Value.slice q14 k27 k28) ∧
  cellAt w7 (Addr.add a1 (1 : Nat)) (Value.int IntKind.i64 n37) ∧
  cellAt w7 (Addr.add a1 (2 : Nat)) (Value.int IntKind.u64 n38) ∧
  cellAt w7 (Addr.add a1 (3 : Nat)) (Value.slice q15 k29 k30) ∧
  cellAt w7 (Addr.add a1 (4 : Nat)) (Value.int IntKind.u64 n39) ∧
  cellAt w7 (Addr.add a1 (5 : Nat)) (Value.int IntKind.i64 n40) ∧
  cellAt w7 (Addr.add a1 (6 : Nat)) (Value.int IntKind.i64 n41) ∧
  cellAt w7 (Addr.add a1 (7 : Nat)) (Value.int IntKind.i64 n42) ∧
  cellAt w7 (Addr.add a1 (8 : Nat)) (Value.int IntKind.i64 n43) ∧
  cellAt w7 (Addr.add a1 (9 : Nat)) (Value.int IntKind.u64 n44) ∧
  cellAt w7 (Addr.add a1 (10 : Nat)) (Value.slice q16 k31 k32) ∧
  cellAt w7 (Addr.add a1 (11 : Nat)) (Value.int IntKind.i64 n45)) ∧
  StoreR a2
  [Value.slice q14 k27 k28, Value.int IntKind.i64 n37, Value.int IntKind.u64 n38, Value.slice q15 k29 k30,
  Value.int IntKind.u64 n39, Value.int IntKind.i64 n40, Value.int IntKind.i64 n41, Value.int IntKind.i64 n42,
  Value.int IntKind.i64 n43, Value.int IntKind.u64 n44, Value.slice q16 k31 k32, Value.int IntKind.i64 n45]
  w7 fun (w8 : World) =>
  ∃ (q17 : Option Addr),
  ∃ (k33 : Nat),
  ∃ (k34 : Nat),
  ∃ (n46 : Int),
  ∃ (n47 : Int),
  ∃ (q18 : Option Addr),
  ∃ (k35 : Nat),
  ∃ (k36 : Nat),
  ∃ (n48 : Int),
  ∃ (n49 : Int),
  ∃ (n50 : Int),
  ∃ (n51 : Int),
  ∃ (n52 : Int),
  ∃ (n53 : Int),
  ∃ (q19 : Option Addr),
  ∃ (k37 : Nat),
  ∃ (k38 : Nat),
  ∃ (n54 : Int),
  (cellAt w8 (Addr.add a2 (0 : Nat)) (Value.slice q17 k33 k34) ∧
  cellAt w8 (Addr.add a2 (1 : Nat)) (Value.int IntKind.i64 n46) ∧
  cellAt w8 (Addr.add a2 (2 : Nat)) (Value.int IntKind.u64 n47) ∧
  cellAt w8 (Addr.add a2 (3 : Nat)) (Value.slice q18 k35 k36) ∧
  cellAt w8 (Addr.add a2 (4 : Nat)) (Value.int IntKind.u64 n48) ∧
  cellAt w8 (Addr.add a2 (5 : Nat)) (Value.int IntKind.i64 n49) ∧
  cellAt w8 (Addr.add a2 (6 : Nat)) (Value.int IntKind.i64 n50) ∧
  cellAt w8 (Addr.add a2 (7 : Nat)) (Value.int IntKind.i64 n51) ∧
  cellAt w8 (Addr.add a2 (8 : Nat)) (Value.int IntKind.i64 n52) ∧
  cellAt w8 (Addr.add a2 (9 : Nat)) (Value.int IntKind.u64 n53) ∧
  cellAt w8 (Addr.add a2 (10 : Nat)) (Value.slice q19 k37 k38) ∧
  cellAt w8 (Addr.add a2 (11 : Nat)) (Value.int IntKind.i64 n54)) ∧
  K
  (Value.tuple
  {
  toList :=
  [Value.agg
  {
  toList :=
  [Value.slice q17 k33 k34, Value.int IntKind.i64 n46, Value.int IntKind.u64 n47, Value.slice q18 k35 k36,
  Value.int IntKind.u64 n48, Value.int IntKind.i64 n49, Value.int IntKind.i64 n50, Value.int IntKind.i64 n51,
  Value.int IntKind.i64 n52, Value.int IntKind.u64 n53, Value.slice q19 k37 k38, Value.int IntKind.i64 n54] },
  Value.slice q13 k25 k26, Value.bool true] })
  w8)
theorem cortadoref26_Limit_eq (q1 : Option Addr) (l1 c1 : Nat) (wd s1 : Int) (q2 : Option Addr) (l2 c2 : Nat) (s2 ct lim ag ks sd : Int) (q3 : Option Addr) (l3 c3 : Nat) (mo : Int) (n : Int) (gd : Nat) (w : World) (K : Value → World → Prop) : fw Tryz.prog Tryz.f33 (annL []) (ordL []) [.agg #[.slice q1 l1 c1, .int .i64 wd, .int .u64 s1, .slice q2 l2 c2, .int .u64 s2, .int .i64 ct, .int .i64 lim, .int .i64 ag, .int .i64 ks, .int .u64 sd, .slice q3 l3 c3, .int .i64 mo], .int .i64 n, .pointer (some ⟨gd, 0, none⟩)] w K = cortadoref26_Limit_m q1 l1 c1 wd s1 q2 l2 c2 s2 ct lim ag ks sd q3 l3 c3 mo n gd w K := by kernel_rfl
theorem cortadoref26_Limit_go (q1 : Option Addr) (l1 c1 : Nat) (wd s1 : Int) (q2 : Option Addr) (l2 c2 : Nat) (s2 ct lim ag ks sd : Int) (q3 : Option Addr) (l3 c3 : Nat) (mo : Int) (n : Int) (gd : Nat) {w : World} {K : Value → World → Prop} (h : cortadoref26_Limit_m q1 l1 c1 wd s1 q2 l2 c2 s2 ct lim ag ks sd q3 l3 c3 mo n gd w K) : Rets Tryz.prog 33 #[.agg #[.slice q1 l1 c1, .int .i64 wd, .int .u64 s1, .slice q2 l2 c2, .int .u64 s2, .int .i64 ct, .int .i64 lim, .int .i64 ag, .int .i64 ks, .int .u64 sd, .slice q3 l3 c3, .int .i64 mo], .int .i64 n, .pointer (some ⟨gd, 0, none⟩)] w K :=
  calls_of_fw plain mixed Tryz.func33 (by kernel_rfl) (by rw [cortadoref26_Limit_eq]; exact h)
def cortadoref26_Same_m (q : Option Addr) (l c : Nat) (q2 : Option Addr) (l2 c2 : Nat) (w : World) (K : Value → World → Prop) : Prop :=
  (((↑l : Int) != (↑l2 : Int)) = true → K (Value.bool false) w) ∧
  (((↑l : Int) != (↑l2 : Int)) = false →
  ∃ (h1 : Nat → List Value → World → Prop),
  (∃ (k1 : Nat), h1 k1 [Value.int IntKind.i64 (0 : Int)] w) ∧
  ∀ (k2 : Nat) (w1 : World) (v1 : Value) (n1 : Int) (v2 v3 v4 v5 v6 v7 v8 v9 v10 v11 v12 v13 v14 v15 v16 : Value),
  h1 k2 [Value.int IntKind.i64 n1] w1 →
  (decide (n1 < (↑l : Int)) = true →
  Drw w1 fun (w2 : World) =>
  (0 : Int) ≤ n1 ∧
  n1 < (↑l : Int) ∧
  someR q fun (a1 : Addr) =>
  (0 : Int) ≤ n1 ∧
  n1 < (↑l2 : Int) ∧
  someR q2 fun (a2 : Addr) =>
  ∃ (n2 : Int),
  ∃ (n3 : Int),
  (cellAt w2 (Addr.add (Addr.add a1 (Int.toNat n1 * (2 : Nat))) (0 : Nat)) (Value.int IntKind.u64 n2) ∧
  cellAt w2 (Addr.add (Addr.add a1 (Int.toNat n1 * (2 : Nat))) (1 : Nat)) (Value.int IntKind.i64 n3)) ∧
  ∃ (n4 : Int),
  ∃ (n5 : Int),
  (cellAt w2 (Addr.add (Addr.add a2 (Int.toNat n1 * (2 : Nat))) (0 : Nat)) (Value.int IntKind.u64 n4) ∧
  cellAt w2 (Addr.add (Addr.add a2 (Int.toNat n1 * (2 : Nat))) (1 : Nat)) (Value.int IntKind.i64 n5)) ∧
  ((!(n2 == n4 && n3 == n5)) = true → K (Value.bool false) w2) ∧
  ((!(n2 == n4 && n3 == n5)) = false →
  ∃ (k3 : Nat), k3 < k2 ∧ h1 k3 [Value.int IntKind.i64 (IntKind.wrap IntKind.i64 (n1 + (1 : Int)))] w2)) ∧
  (decide (n1 < (↑l : Int)) = false → K (Value.bool true) w1))
theorem cortadoref26_Same_eq (q : Option Addr) (l c : Nat) (q2 : Option Addr) (l2 c2 : Nat) (w : World) (K : Value → World → Prop) : fw Tryz.prog Tryz.f36 (annL [(2, [(4, none), (5, some 3), (11, none), (12, none), (13, none), (14, none), (15, none), (16, none), (17, none), (18, none), (19, none), (20, none), (21, none), (22, none), (23, none), (24, none), (25, none)])]) (ordL [(6, [(0, 0), (1, 0), (2, 0), (4, 0), (5, 0), (6, 0), (3, 1), (7, 1), (8, 0)])]) [.slice q l c, .slice q2 l2 c2] w K = cortadoref26_Same_m q l c q2 l2 c2 w K := by kernel_rfl
theorem cortadoref26_Same_go (q : Option Addr) (l c : Nat) (q2 : Option Addr) (l2 c2 : Nat) {w : World} {K : Value → World → Prop} (h : cortadoref26_Same_m q l c q2 l2 c2 w K) : Rets Tryz.prog 36 #[.slice q l c, .slice q2 l2 c2] w K :=
  calls_of_fw plain mixed Tryz.func36 (by kernel_rfl) (by rw [cortadoref26_Same_eq]; exact h)
def cortadolaw26_back_m (q : Option Addr) (l c : Nat) (w : World) (K : Value → World → Prop) : Prop :=
  ∃ (h1 : Nat → List Value → World → Prop),
  (∃ (k1 : Nat), h1 k1 [Value.slice none (0 : Nat) (0 : Nat), Value.int IntKind.i64 (0 : Int)] w) ∧
  ∀ (k2 : Nat) (w1 : World) (q1 : Option Addr) (k3 k4 : Nat) (n1 : Int)
  (v1 v2 v3 v4 v5 v6 v7 v8 v9 v10 v11 v12 v13 : Value),
  h1 k2 [Value.slice q1 k3 k4, Value.int IntKind.i64 n1] w1 →
  (decide (n1 < (↑l : Int)) = true →
  (0 : Int) ≤ n1 ∧
  n1 < (↑l : Int) ∧
  someR q fun (a1 : Addr) =>
  ∃ (n2 : Int),
  ∃ (n3 : Int),
  (cellAt w1 (Addr.add (Addr.add a1 (Int.toNat n1 * (2 : Nat))) (0 : Nat)) (Value.int IntKind.u64 n2) ∧
  cellAt w1 (Addr.add (Addr.add a1 (Int.toNat n1 * (2 : Nat))) (1 : Nat)) (Value.int IntKind.i64 n3)) ∧
  NewR (115 : Nat) [Value.int IntKind.u64 n2, Value.int IntKind.i64 n3] w1 fun (a2 : Addr) (w2 : World) =>
  RunR Tryz.prog
  (builtinV Builtin.append { toList := [(81 : Nat), (81 : Nat)] } (nat_lit 81)
  { toList := [Value.slice q1 k3 k4, Value.slice (some a2) (1 : Nat) (1 : Nat)] })
  w2 fun (v14 : Value) (w3 : World) =>
  ∃ (q2 : Option Addr),
  ∃ (k5 : Nat),
  ∃ (k6 : Nat),
  v14 = Value.slice q2 k5 k6 ∧
  ∃ (k7 : Nat),
  k7 < k2 ∧ h1 k7 [Value.slice q2 k5 k6, Value.int IntKind.i64 (IntKind.wrap IntKind.i64 (n1 + (1 : Int)))] w3) ∧
  (decide (n1 < (↑l : Int)) = false → K (Value.slice q1 k3 k4) w1)
theorem cortadolaw26_back_eq (q : Option Addr) (l c : Nat) (w : World) (K : Value → World → Prop) : fw Tryz.prog Tryz.f37 (annL [(1, [(3, some 81), (4, some 3), (5, none), (6, none), (7, none), (8, none), (9, none), (10, none), (11, none), (12, none), (13, none), (14, none), (15, none), (16, none), (17, none)])]) (ordL []) [.slice q l c] w K = cortadolaw26_back_m q l c w K := by kernel_rfl
theorem cortadolaw26_back_go (q : Option Addr) (l c : Nat) {w : World} {K : Value → World → Prop} (h : cortadolaw26_back_m q l c w K) : Rets Tryz.prog 37 #[.slice q l c] w K :=
  calls_of_fw plain mixed Tryz.func37 (by kernel_rfl) (by rw [cortadolaw26_back_eq]; exact h)
end Go.Proofs.YtggflkjdgcdcmaaGreatDoor.Eng
