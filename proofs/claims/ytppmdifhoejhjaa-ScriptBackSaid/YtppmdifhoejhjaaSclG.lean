/- What the code of these functions asks for: printed by a program of this session's (gens.py) out of the seat's own functions; the kernel checks each row. -/
import Derived.Test.YtppmdifhoejhjaaEngH
import Derived.Test.YtppmdifhoejhjaaProg
import Derived.Test.YtppmdifhoejhjaaBase
namespace Go.Proofs.Ytppmdifhoejhjaa.Eng
open Go Go.Proofs
set_option linter.unusedVariables false
set_option maxRecDepth 1000000
def cortadolaw18_ScriptRight_m (x0 x1 x2 x3 x4 : Int) (xq : Option Addr) (xl xc : Nat) (xr : Option Addr) (xm xd : Nat) (xt : Option Addr) (xn xe : Nat) (y0 y1 y2 y3 y4 : Int) (yq : Option Addr) (yl yc : Nat) (yr : Option Addr) (ym yd : Nat) (yt : Option Addr) (yn ye : Nat) (w : World) (K : Value → World → Prop) : Prop :=
  NewR (27 : Nat)
  [Value.int IntKind.i64 x0, Value.int IntKind.i64 x1, Value.int IntKind.i64 x2, Value.int IntKind.i64 x3,
  Value.int IntKind.i64 x4, Value.slice xq xl xc, Value.slice xr xm xd, Value.slice xt xn xe]
  w fun (a1 : Addr) (w1 : World) =>
  NewR (27 : Nat)
  [Value.int IntKind.i64 y0, Value.int IntKind.i64 y1, Value.int IntKind.i64 y2, Value.int IntKind.i64 y3,
  Value.int IntKind.i64 y4, Value.slice yq yl yc, Value.slice yr ym yd, Value.slice yt yn ye]
  w1 fun (a2 : Addr) (w2 : World) =>
  ∃ (n1 : Int),
  ∃ (n2 : Int),
  ∃ (n3 : Int),
  ∃ (n4 : Int),
  ∃ (n5 : Int),
  ∃ (q1 : Option Addr),
  ∃ (k1 : Nat),
  ∃ (k2 : Nat),
  ∃ (q2 : Option Addr),
  ∃ (k3 : Nat),
  ∃ (k4 : Nat),
  ∃ (q3 : Option Addr),
  ∃ (k5 : Nat),
  ∃ (k6 : Nat),
  (cellAt w2 (Addr.add a1 (0 : Nat)) (Value.int IntKind.i64 n1) ∧
  cellAt w2 (Addr.add a1 (1 : Nat)) (Value.int IntKind.i64 n2) ∧
  cellAt w2 (Addr.add a1 (2 : Nat)) (Value.int IntKind.i64 n3) ∧
  cellAt w2 (Addr.add a1 (3 : Nat)) (Value.int IntKind.i64 n4) ∧
  cellAt w2 (Addr.add a1 (4 : Nat)) (Value.int IntKind.i64 n5) ∧
  cellAt w2 (Addr.add a1 (5 : Nat)) (Value.slice q1 k1 k2) ∧
  cellAt w2 (Addr.add a1 (6 : Nat)) (Value.slice q2 k3 k4) ∧ cellAt w2 (Addr.add a1 (7 : Nat)) (Value.slice q3 k5 k6)) ∧
  Rets Try.prog (5 : Nat)
  {
  toList :=
  [Value.agg
  {
  toList :=
  [Value.int IntKind.i64 n1, Value.int IntKind.i64 n2, Value.int IntKind.i64 n3, Value.int IntKind.i64 n4,
  Value.int IntKind.i64 n5, Value.slice q1 k1 k2, Value.slice q2 k3 k4, Value.slice q3 k5 k6] }] }
  w2 fun (v1 : Value) (w3 : World) =>
  ∃ (b1 : Bool),
  v1 = Value.bool b1 ∧
  ((!b1) = false →
  ∃ (n6 : Int),
  ∃ (n7 : Int),
  ∃ (n8 : Int),
  ∃ (n9 : Int),
  ∃ (n10 : Int),
  ∃ (q4 : Option Addr),
  ∃ (k7 : Nat),
  ∃ (k8 : Nat),
  ∃ (q5 : Option Addr),
  ∃ (k9 : Nat),
  ∃ (k10 : Nat),
  ∃ (q6 : Option Addr),
  ∃ (k11 : Nat),
  ∃ (k12 : Nat),
  (cellAt w3 (Addr.add a2 (0 : Nat)) (Value.int IntKind.i64 n6) ∧
  cellAt w3 (Addr.add a2 (1 : Nat)) (Value.int IntKind.i64 n7) ∧
  cellAt w3 (Addr.add a2 (2 : Nat)) (Value.int IntKind.i64 n8) ∧
  cellAt w3 (Addr.add a2 (3 : Nat)) (Value.int IntKind.i64 n9) ∧
  cellAt w3 (Addr.add a2 (4 : Nat)) (Value.int IntKind.i64 n10) ∧
  cellAt w3 (Addr.add a2 (5 : Nat)) (Value.slice q4 k7 k8) ∧
  cellAt w3 (Addr.add a2 (6 : Nat)) (Value.slice q5 k9 k10) ∧
  cellAt w3 (Addr.add a2 (7 : Nat)) (Value.slice q6 k11 k12)) ∧
  Rets Try.prog (5 : Nat)
  {
  toList :=
  [Value.agg
  {
  toList :=
  [Value.int IntKind.i64 n6, Value.int IntKind.i64 n7, Value.int IntKind.i64 n8, Value.int IntKind.i64 n9,
  Value.int IntKind.i64 n10, Value.slice q4 k7 k8, Value.slice q5 k9 k10, Value.slice q6 k11 k12] }] }
  w3 fun (v2 : Value) (w4 : World) =>
  ∃ (b2 : Bool),
  v2 = Value.bool b2 ∧
  ((!b2) = true →
  Rets Try.prog (6 : Nat) { toList := [] } w4 fun (v3 : Value) (w5 : World) =>
  ∃ (b3 : Bool), v3 = Value.bool b3 ∧ K (Value.bool b3) w5) ∧
  ((!b2) = false →
  ∃ (h1 : Nat → List Value → World → Prop),
  (∃ (k13 : Nat), h1 k13 [Value.int IntKind.i64 (0 : Int), Value.int IntKind.i64 (0 : Int)] w4) ∧
  ∀ (k14 : Nat) (w6 : World) (n11 n12 : Int) (v4 v5 v6 v7 v8 v9 v10 v11 v12 v13 v14 v15 v16 v17 v18 : Value),
  h1 k14 [Value.int IntKind.i64 n11, Value.int IntKind.i64 n12] w6 →
  ∃ (q7 : Option Addr),
  ∃ (k15 : Nat),
  ∃ (k16 : Nat),
  cellAt w6 (Addr.add a1 (5 : Nat)) (Value.slice q7 k15 k16) ∧
  (decide (n12 < (↑k15 : Int)) = true →
  ∃ (q8 : Option Addr),
  ∃ (k17 : Nat),
  ∃ (k18 : Nat),
  cellAt w6 (Addr.add a1 (5 : Nat)) (Value.slice q8 k17 k18) ∧
  (0 : Int) ≤ n12 ∧
  n12 < (↑k17 : Int) ∧
  someR q8 fun (a3 : Addr) =>
  ∃ (q9 : Option Addr),
  ∃ (k19 : Nat),
  ∃ (k20 : Nat),
  cellAt w6 (Addr.add a3 (Int.toNat n12 * (1 : Nat))) (Value.slice q9 k19 k20) ∧
  ∃ (k21 : Nat),
  k21 < k14 ∧
  h1 k21
  [Value.int IntKind.i64 (IntKind.wrap IntKind.i64 (n11 + (↑k19 : Int))),
  Value.int IntKind.i64 (IntKind.wrap IntKind.i64 (n12 + (1 : Int)))]
  w6) ∧
  (decide (n12 < (↑k15 : Int)) = false →
  ∃ (n13 : Int),
  ∃ (n14 : Int),
  ∃ (n15 : Int),
  ∃ (n16 : Int),
  ∃ (n17 : Int),
  (cellAt w6 (Addr.add (Addr.add a1 (0 : Nat)) (0 : Nat)) (Value.int IntKind.i64 n13) ∧
  cellAt w6 (Addr.add (Addr.add a1 (0 : Nat)) (1 : Nat)) (Value.int IntKind.i64 n14) ∧
  cellAt w6 (Addr.add (Addr.add a1 (0 : Nat)) (2 : Nat)) (Value.int IntKind.i64 n15) ∧
  cellAt w6 (Addr.add (Addr.add a1 (0 : Nat)) (3 : Nat)) (Value.int IntKind.i64 n16) ∧
  cellAt w6 (Addr.add (Addr.add a1 (0 : Nat)) (4 : Nat)) (Value.int IntKind.i64 n17)) ∧
  Rets Try.prog (7 : Nat)
  {
  toList :=
  [Value.agg
  {
  toList :=
  [Value.int IntKind.i64 n13, Value.int IntKind.i64 n14, Value.int IntKind.i64 n15, Value.int IntKind.i64 n16,
  Value.int IntKind.i64 n17] }] }
  w6 fun (v19 : Value) (w7 : World) =>
  ∃ (n18 : Int),
  ∃ (n19 : Int),
  ∃ (n20 : Int),
  ∃ (n21 : Int),
  ∃ (n22 : Int),
  v19 =
  Value.agg
  {
  toList :=
  [Value.int IntKind.i64 n18, Value.int IntKind.i64 n19, Value.int IntKind.i64 n20, Value.int IntKind.i64 n21,
  Value.int IntKind.i64 n22] } ∧
  NewR (23 : Nat)
  [Value.int IntKind.i64 (0 : Int), Value.int IntKind.i64 (0 : Int), Value.int IntKind.i64 (0 : Int),
  Value.int IntKind.i64 (0 : Int), Value.int IntKind.i64 (0 : Int)]
  w7 fun (a4 : Addr) (w8 : World) =>
  StoreR a4
  [Value.int IntKind.i64 n18, Value.int IntKind.i64 n19, Value.int IntKind.i64 n20, Value.int IntKind.i64 n21,
  Value.int IntKind.i64 n22]
  w8 fun (w9 : World) =>
  Drw w9 fun (w10 : World) =>
  ∃ (h2 : World → Prop),
  h2 w10 ∧
  ∃ (n23 : Int),
  ∃ (n24 : Int),
  ∃ (n25 : Int),
  ∃ (n26 : Int),
  ∃ (n27 : Int),
  ∃ (q10 : Option Addr),
  ∃ (k22 : Nat),
  ∃ (k23 : Nat),
  ∃ (q11 : Option Addr),
  ∃ (k24 : Nat),
  ∃ (k25 : Nat),
  ∃ (q12 : Option Addr),
  ∃ (k26 : Nat),
  ∃ (k27 : Nat),
  ((∀ (w11 : World), h2 w11 → World.cell? w11 (Addr.add a1 (0 : Nat)) = some (Value.int IntKind.i64 n23)) ∧
  (∀ (w12 : World), h2 w12 → World.cell? w12 (Addr.add a1 ((0 : Nat) + (1 : Nat))) = some (Value.int IntKind.i64 n24)) ∧
  (∀ (w13 : World),
  h2 w13 → World.cell? w13 (Addr.add a1 ((0 : Nat) + (1 : Nat) + (1 : Nat))) = some (Value.int IntKind.i64 n25)) ∧
  (∀ (w14 : World),
  h2 w14 →
  World.cell? w14 (Addr.add a1 ((0 : Nat) + (1 : Nat) + (1 : Nat) + (1 : Nat))) = some (Value.int IntKind.i64 n26)) ∧
  (∀ (w15 : World),
  h2 w15 →
  World.cell? w15 (Addr.add a1 ((0 : Nat) + (1 : Nat) + (1 : Nat) + (1 : Nat) + (1 : Nat))) =
  some (Value.int IntKind.i64 n27)) ∧
  (∀ (w16 : World),
  h2 w16 →
  World.cell? w16 (Addr.add a1 ((0 : Nat) + (1 : Nat) + (1 : Nat) + (1 : Nat) + (1 : Nat) + (1 : Nat))) =
  some (Value.slice q10 k22 k23)) ∧
  (∀ (w17 : World),
  h2 w17 →
  World.cell? w17 (Addr.add a1 ((0 : Nat) + (1 : Nat) + (1 : Nat) + (1 : Nat) + (1 : Nat) + (1 : Nat) + (1 : Nat))) =
  some (Value.slice q11 k24 k25)) ∧
  ∀ (w18 : World),
  h2 w18 →
  World.cell? w18
  (Addr.add a1 ((0 : Nat) + (1 : Nat) + (1 : Nat) + (1 : Nat) + (1 : Nat) + (1 : Nat) + (1 : Nat) + (1 : Nat))) =
  some (Value.slice q12 k26 k27)) ∧
  ∃ (n28 : Int),
  ∃ (n29 : Int),
  ∃ (n30 : Int),
  ∃ (n31 : Int),
  ∃ (n32 : Int),
  ∃ (q13 : Option Addr),
  ∃ (k28 : Nat),
  ∃ (k29 : Nat),
  ∃ (q14 : Option Addr),
  ∃ (k30 : Nat),
  ∃ (k31 : Nat),
  ∃ (q15 : Option Addr),
  ∃ (k32 : Nat),
  ∃ (k33 : Nat),
  ((∀ (w19 : World), h2 w19 → World.cell? w19 (Addr.add a1 (0 : Nat)) = some (Value.int IntKind.i64 n28)) ∧
  (∀ (w20 : World), h2 w20 → World.cell? w20 (Addr.add a1 ((0 : Nat) + (1 : Nat))) = some (Value.int IntKind.i64 n29)) ∧
  (∀ (w21 : World),
  h2 w21 → World.cell? w21 (Addr.add a1 ((0 : Nat) + (1 : Nat) + (1 : Nat))) = some (Value.int IntKind.i64 n30)) ∧
  (∀ (w22 : World),
  h2 w22 →
  World.cell? w22 (Addr.add a1 ((0 : Nat) + (1 : Nat) + (1 : Nat) + (1 : Nat))) = some (Value.int IntKind.i64 n31)) ∧
  (∀ (w23 : World),
  h2 w23 →
  World.cell? w23 (Addr.add a1 ((0 : Nat) + (1 : Nat) + (1 : Nat) + (1 : Nat) + (1 : Nat))) =
  some (Value.int IntKind.i64 n32)) ∧
  (∀ (w24 : World),
  h2 w24 →
  World.cell? w24 (Addr.add a1 ((0 : Nat) + (1 : Nat) + (1 : Nat) + (1 : Nat) + (1 : Nat) + (1 : Nat))) =
  some (Value.slice q13 k28 k29)) ∧
  (∀ (w25 : World),
  h2 w25 →
  World.cell? w25 (Addr.add a1 ((0 : Nat) + (1 : Nat) + (1 : Nat) + (1 : Nat) + (1 : Nat) + (1 : Nat) + (1 : Nat))) =
  some (Value.slice q14 k30 k31)) ∧
  ∀ (w26 : World),
  h2 w26 →
  World.cell? w26
  (Addr.add a1 ((0 : Nat) + (1 : Nat) + (1 : Nat) + (1 : Nat) + (1 : Nat) + (1 : Nat) + (1 : Nat) + (1 : Nat))) =
  some (Value.slice q15 k32 k33)) ∧
  Rets Try.prog (8 : Nat)
  {
  toList :=
  [Value.agg
  {
  toList :=
  [Value.int IntKind.i64 n23, Value.int IntKind.i64 n24, Value.int IntKind.i64 n25, Value.int IntKind.i64 n26,
  Value.int IntKind.i64 n27, Value.slice q10 k22 k23, Value.slice q11 k24 k25, Value.slice q12 k26 k27] }] }
  w10 fun (v20 : Value) (w27 : World) =>
  ∃ (b4 : Bool),
  v20 = Value.bool b4 ∧
  h2 w27 ∧
  Rets Try.prog (9 : Nat)
  {
  toList :=
  [Value.agg
  {
  toList :=
  [Value.int IntKind.i64 n28, Value.int IntKind.i64 n29, Value.int IntKind.i64 n30, Value.int IntKind.i64 n31,
  Value.int IntKind.i64 n32, Value.slice q13 k28 k29, Value.slice q14 k30 k31, Value.slice q15 k32 k33] }] }
  w27 fun (v21 : Value) (w28 : World) =>
  ∃ (b5 : Bool),
  v21 = Value.bool b5 ∧
  h2 w28 ∧
  ((b4 == b5) = true →
  ∃ (n33 : Int),
  ∃ (n34 : Int),
  ∃ (n35 : Int),
  ∃ (n36 : Int),
  ∃ (n37 : Int),
  ((∀ (w29 : World), h2 w29 → World.cell? w29 (Addr.add a4 (0 : Nat)) = some (Value.int IntKind.i64 n33)) ∧
  (∀ (w30 : World), h2 w30 → World.cell? w30 (Addr.add a4 ((0 : Nat) + (1 : Nat))) = some (Value.int IntKind.i64 n34)) ∧
  (∀ (w31 : World),
  h2 w31 → World.cell? w31 (Addr.add a4 ((0 : Nat) + (1 : Nat) + (1 : Nat))) = some (Value.int IntKind.i64 n35)) ∧
  (∀ (w32 : World),
  h2 w32 →
  World.cell? w32 (Addr.add a4 ((0 : Nat) + (1 : Nat) + (1 : Nat) + (1 : Nat))) = some (Value.int IntKind.i64 n36)) ∧
  ∀ (w33 : World),
  h2 w33 →
  World.cell? w33 (Addr.add a4 ((0 : Nat) + (1 : Nat) + (1 : Nat) + (1 : Nat) + (1 : Nat))) =
  some (Value.int IntKind.i64 n37)) ∧
  ∃ (n38 : Int),
  ∃ (n39 : Int),
  ∃ (n40 : Int),
  ∃ (n41 : Int),
  ∃ (n42 : Int),
  ((∀ (w34 : World),
  h2 w34 → World.cell? w34 (Addr.add (Addr.add a1 (0 : Nat)) (0 : Nat)) = some (Value.int IntKind.i64 n38)) ∧
  (∀ (w35 : World),
  h2 w35 →
  World.cell? w35 (Addr.add (Addr.add a1 (0 : Nat)) ((0 : Nat) + (1 : Nat))) = some (Value.int IntKind.i64 n39)) ∧
  (∀ (w36 : World),
  h2 w36 →
  World.cell? w36 (Addr.add (Addr.add a1 (0 : Nat)) ((0 : Nat) + (1 : Nat) + (1 : Nat))) =
  some (Value.int IntKind.i64 n40)) ∧
  (∀ (w37 : World),
  h2 w37 →
  World.cell? w37 (Addr.add (Addr.add a1 (0 : Nat)) ((0 : Nat) + (1 : Nat) + (1 : Nat) + (1 : Nat))) =
  some (Value.int IntKind.i64 n41)) ∧
  ∀ (w38 : World),
  h2 w38 →
  World.cell? w38 (Addr.add (Addr.add a1 (0 : Nat)) ((0 : Nat) + (1 : Nat) + (1 : Nat) + (1 : Nat) + (1 : Nat))) =
  some (Value.int IntKind.i64 n42)) ∧
  Rets Try.prog (10 : Nat)
  {
  toList :=
  [Value.agg
  {
  toList :=
  [Value.int IntKind.i64 n38, Value.int IntKind.i64 n39, Value.int IntKind.i64 n40, Value.int IntKind.i64 n41,
  Value.int IntKind.i64 n42] }] }
  w28 fun (v22 : Value) (w39 : World) =>
  ∃ (n43 : Int),
  ∃ (n44 : Int),
  ∃ (n45 : Int),
  ∃ (n46 : Int),
  ∃ (n47 : Int),
  v22 =
  Value.agg
  {
  toList :=
  [Value.int IntKind.i64 n43, Value.int IntKind.i64 n44, Value.int IntKind.i64 n45, Value.int IntKind.i64 n46,
  Value.int IntKind.i64 n47] } ∧
  h2 w39 ∧
  ((n33 == n43 && (n34 == n44 && (n35 == n45 && (n36 == n46 && n37 == n47)))) = true →
  ∃ (n48 : Int),
  ∃ (n49 : Int),
  ∃ (n50 : Int),
  ∃ (n51 : Int),
  ∃ (n52 : Int),
  ((∀ (w40 : World), h2 w40 → World.cell? w40 (Addr.add a4 (0 : Nat)) = some (Value.int IntKind.i64 n48)) ∧
  (∀ (w41 : World), h2 w41 → World.cell? w41 (Addr.add a4 ((0 : Nat) + (1 : Nat))) = some (Value.int IntKind.i64 n49)) ∧
  (∀ (w42 : World),
  h2 w42 → World.cell? w42 (Addr.add a4 ((0 : Nat) + (1 : Nat) + (1 : Nat))) = some (Value.int IntKind.i64 n50)) ∧
  (∀ (w43 : World),
  h2 w43 →
  World.cell? w43 (Addr.add a4 ((0 : Nat) + (1 : Nat) + (1 : Nat) + (1 : Nat))) = some (Value.int IntKind.i64 n51)) ∧
  ∀ (w44 : World),
  h2 w44 →
  World.cell? w44 (Addr.add a4 ((0 : Nat) + (1 : Nat) + (1 : Nat) + (1 : Nat) + (1 : Nat))) =
  some (Value.int IntKind.i64 n52)) ∧
  Rets Try.prog (11 : Nat)
  {
  toList :=
  [Value.agg
  {
  toList :=
  [Value.int IntKind.i64 n48, Value.int IntKind.i64 n49, Value.int IntKind.i64 n50, Value.int IntKind.i64 n51,
  Value.int IntKind.i64 n52] }] }
  w39 fun (v23 : Value) (w45 : World) =>
  ∃ (b6 : Bool),
  v23 = Value.bool b6 ∧
  h2 w45 ∧
  (b6 = true →
  ∃ (n53 : Int),
  ∃ (n54 : Int),
  ∃ (n55 : Int),
  ∃ (n56 : Int),
  ∃ (n57 : Int),
  ((∀ (w46 : World),
  h2 w46 → World.cell? w46 (Addr.add (Addr.add a1 (0 : Nat)) (0 : Nat)) = some (Value.int IntKind.i64 n53)) ∧
  (∀ (w47 : World),
  h2 w47 →
  World.cell? w47 (Addr.add (Addr.add a1 (0 : Nat)) ((0 : Nat) + (1 : Nat))) = some (Value.int IntKind.i64 n54)) ∧
  (∀ (w48 : World),
  h2 w48 →
  World.cell? w48 (Addr.add (Addr.add a1 (0 : Nat)) ((0 : Nat) + (1 : Nat) + (1 : Nat))) =
  some (Value.int IntKind.i64 n55)) ∧
  (∀ (w49 : World),
  h2 w49 →
  World.cell? w49 (Addr.add (Addr.add a1 (0 : Nat)) ((0 : Nat) + (1 : Nat) + (1 : Nat) + (1 : Nat))) =
  some (Value.int IntKind.i64 n56)) ∧
  ∀ (w50 : World),
  h2 w50 →
  World.cell? w50 (Addr.add (Addr.add a1 (0 : Nat)) ((0 : Nat) + (1 : Nat) + (1 : Nat) + (1 : Nat) + (1 : Nat))) =
  some (Value.int IntKind.i64 n57)) ∧
  ∃ (n58 : Int),
  ∃ (n59 : Int),
  ∃ (n60 : Int),
  ∃ (n61 : Int),
  ∃ (n62 : Int),
  ((∀ (w51 : World), h2 w51 → World.cell? w51 (Addr.add a4 (0 : Nat)) = some (Value.int IntKind.i64 n58)) ∧
  (∀ (w52 : World), h2 w52 → World.cell? w52 (Addr.add a4 ((0 : Nat) + (1 : Nat))) = some (Value.int IntKind.i64 n59)) ∧
  (∀ (w53 : World),
  h2 w53 → World.cell? w53 (Addr.add a4 ((0 : Nat) + (1 : Nat) + (1 : Nat))) = some (Value.int IntKind.i64 n60)) ∧
  (∀ (w54 : World),
  h2 w54 →
  World.cell? w54 (Addr.add a4 ((0 : Nat) + (1 : Nat) + (1 : Nat) + (1 : Nat))) = some (Value.int IntKind.i64 n61)) ∧
  ∀ (w55 : World),
  h2 w55 →
  World.cell? w55 (Addr.add a4 ((0 : Nat) + (1 : Nat) + (1 : Nat) + (1 : Nat) + (1 : Nat))) =
  some (Value.int IntKind.i64 n62)) ∧
  ∃ (n63 : Int),
  ∃ (n64 : Int),
  ∃ (n65 : Int),
  ∃ (n66 : Int),
  ∃ (n67 : Int),
  ((∀ (w56 : World),
  h2 w56 → World.cell? w56 (Addr.add (Addr.add a1 (0 : Nat)) (0 : Nat)) = some (Value.int IntKind.i64 n63)) ∧
  (∀ (w57 : World),
  h2 w57 →
  World.cell? w57 (Addr.add (Addr.add a1 (0 : Nat)) ((0 : Nat) + (1 : Nat))) = some (Value.int IntKind.i64 n64)) ∧
  (∀ (w58 : World),
  h2 w58 →
  World.cell? w58 (Addr.add (Addr.add a1 (0 : Nat)) ((0 : Nat) + (1 : Nat) + (1 : Nat))) =
  some (Value.int IntKind.i64 n65)) ∧
  (∀ (w59 : World),
  h2 w59 →
  World.cell? w59 (Addr.add (Addr.add a1 (0 : Nat)) ((0 : Nat) + (1 : Nat) + (1 : Nat) + (1 : Nat))) =
  some (Value.int IntKind.i64 n66)) ∧
  ∀ (w60 : World),
  h2 w60 →
  World.cell? w60 (Addr.add (Addr.add a1 (0 : Nat)) ((0 : Nat) + (1 : Nat) + (1 : Nat) + (1 : Nat) + (1 : Nat))) =
  some (Value.int IntKind.i64 n67)) ∧
  Rets Try.prog (11 : Nat)
  {
  toList :=
  [Value.agg
  {
  toList :=
  [Value.int IntKind.i64 n53, Value.int IntKind.i64 n54, Value.int IntKind.i64 n55, Value.int IntKind.i64 n56,
  Value.int IntKind.i64 n57] }] }
  w45 fun (v24 : Value) (w61 : World) =>
  ∃ (b7 : Bool),
  v24 = Value.bool b7 ∧
  h2 w61 ∧
  ((b7 == (n58 == n63 && (n59 == n64 && (n60 == n65 && (n61 == n66 && n62 == n67))))) = true →
  ∃ (n68 : Int),
  ∃ (n69 : Int),
  ∃ (n70 : Int),
  ∃ (n71 : Int),
  ∃ (n72 : Int),
  ∃ (q16 : Option Addr),
  ∃ (k34 : Nat),
  ∃ (k35 : Nat),
  ∃ (q17 : Option Addr),
  ∃ (k36 : Nat),
  ∃ (k37 : Nat),
  ∃ (q18 : Option Addr),
  ∃ (k38 : Nat),
  ∃ (k39 : Nat),
  ((∀ (w62 : World), h2 w62 → World.cell? w62 (Addr.add a1 (0 : Nat)) = some (Value.int IntKind.i64 n68)) ∧
  (∀ (w63 : World), h2 w63 → World.cell? w63 (Addr.add a1 ((0 : Nat) + (1 : Nat))) = some (Value.int IntKind.i64 n69)) ∧
  (∀ (w64 : World),
  h2 w64 → World.cell? w64 (Addr.add a1 ((0 : Nat) + (1 : Nat) + (1 : Nat))) = some (Value.int IntKind.i64 n70)) ∧
  (∀ (w65 : World),
  h2 w65 →
  World.cell? w65 (Addr.add a1 ((0 : Nat) + (1 : Nat) + (1 : Nat) + (1 : Nat))) = some (Value.int IntKind.i64 n71)) ∧
  (∀ (w66 : World),
  h2 w66 →
  World.cell? w66 (Addr.add a1 ((0 : Nat) + (1 : Nat) + (1 : Nat) + (1 : Nat) + (1 : Nat))) =
  some (Value.int IntKind.i64 n72)) ∧
  (∀ (w67 : World),
  h2 w67 →
  World.cell? w67 (Addr.add a1 ((0 : Nat) + (1 : Nat) + (1 : Nat) + (1 : Nat) + (1 : Nat) + (1 : Nat))) =
  some (Value.slice q16 k34 k35)) ∧
  (∀ (w68 : World),
  h2 w68 →
  World.cell? w68 (Addr.add a1 ((0 : Nat) + (1 : Nat) + (1 : Nat) + (1 : Nat) + (1 : Nat) + (1 : Nat) + (1 : Nat))) =
  some (Value.slice q17 k36 k37)) ∧
  ∀ (w69 : World),
  h2 w69 →
  World.cell? w69
  (Addr.add a1 ((0 : Nat) + (1 : Nat) + (1 : Nat) + (1 : Nat) + (1 : Nat) + (1 : Nat) + (1 : Nat) + (1 : Nat))) =
  some (Value.slice q18 k38 k39)) ∧
  ∃ (n73 : Int),
  ∃ (n74 : Int),
  ∃ (n75 : Int),
  ∃ (n76 : Int),
  ∃ (n77 : Int),
  ∃ (q19 : Option Addr),
  ∃ (k40 : Nat),
  ∃ (k41 : Nat),
  ∃ (q20 : Option Addr),
  ∃ (k42 : Nat),
  ∃ (k43 : Nat),
  ∃ (q21 : Option Addr),
  ∃ (k44 : Nat),
  ∃ (k45 : Nat),
  ((∀ (w70 : World), h2 w70 → World.cell? w70 (Addr.add a2 (0 : Nat)) = some (Value.int IntKind.i64 n73)) ∧
  (∀ (w71 : World), h2 w71 → World.cell? w71 (Addr.add a2 ((0 : Nat) + (1 : Nat))) = some (Value.int IntKind.i64 n74)) ∧
  (∀ (w72 : World),
  h2 w72 → World.cell? w72 (Addr.add a2 ((0 : Nat) + (1 : Nat) + (1 : Nat))) = some (Value.int IntKind.i64 n75)) ∧
  (∀ (w73 : World),
  h2 w73 →
  World.cell? w73 (Addr.add a2 ((0 : Nat) + (1 : Nat) + (1 : Nat) + (1 : Nat))) = some (Value.int IntKind.i64 n76)) ∧
  (∀ (w74 : World),
  h2 w74 →
  World.cell? w74 (Addr.add a2 ((0 : Nat) + (1 : Nat) + (1 : Nat) + (1 : Nat) + (1 : Nat))) =
  some (Value.int IntKind.i64 n77)) ∧
  (∀ (w75 : World),
  h2 w75 →
  World.cell? w75 (Addr.add a2 ((0 : Nat) + (1 : Nat) + (1 : Nat) + (1 : Nat) + (1 : Nat) + (1 : Nat))) =
  some (Value.slice q19 k40 k41)) ∧
  (∀ (w76 : World),
  h2 w76 →
  World.cell? w76 (Addr.add a2 ((0 : Nat) + (1 : Nat) + (1 : Nat) + (1 : Nat) + (1 : Nat) + (1 : Nat) + (1 : Nat))) =
  some (Value.slice q20 k42 k43)) ∧
  ∀ (w77 : World),
  h2 w77 →
  World.cell? w77
  (Addr.add a2 ((0 : Nat) + (1 : Nat) + (1 : Nat) + (1 : Nat) + (1 : Nat) + (1 : Nat) + (1 : Nat) + (1 : Nat))) =
  some (Value.slice q21 k44 k45)) ∧
  ∃ (n78 : Int),
  ∃ (n79 : Int),
  ∃ (n80 : Int),
  ∃ (n81 : Int),
  ∃ (n82 : Int),
  ∃ (q22 : Option Addr),
  ∃ (k46 : Nat),
  ∃ (k47 : Nat),
  ∃ (q23 : Option Addr),
  ∃ (k48 : Nat),
  ∃ (k49 : Nat),
  ∃ (q24 : Option Addr),
  ∃ (k50 : Nat),
  ∃ (k51 : Nat),
  ((∀ (w78 : World), h2 w78 → World.cell? w78 (Addr.add a1 (0 : Nat)) = some (Value.int IntKind.i64 n78)) ∧
  (∀ (w79 : World), h2 w79 → World.cell? w79 (Addr.add a1 ((0 : Nat) + (1 : Nat))) = some (Value.int IntKind.i64 n79)) ∧
  (∀ (w80 : World),
  h2 w80 → World.cell? w80 (Addr.add a1 ((0 : Nat) + (1 : Nat) + (1 : Nat))) = some (Value.int IntKind.i64 n80)) ∧
  (∀ (w81 : World),
  h2 w81 →
  World.cell? w81 (Addr.add a1 ((0 : Nat) + (1 : Nat) + (1 : Nat) + (1 : Nat))) = some (Value.int IntKind.i64 n81)) ∧
  (∀ (w82 : World),
  h2 w82 →
  World.cell? w82 (Addr.add a1 ((0 : Nat) + (1 : Nat) + (1 : Nat) + (1 : Nat) + (1 : Nat))) =
  some (Value.int IntKind.i64 n82)) ∧
  (∀ (w83 : World),
  h2 w83 →
  World.cell? w83 (Addr.add a1 ((0 : Nat) + (1 : Nat) + (1 : Nat) + (1 : Nat) + (1 : Nat) + (1 : Nat))) =
  some (Value.slice q22 k46 k47)) ∧
  (∀ (w84 : World),
  h2 w84 →
  World.cell? w84 (Addr.add a1 ((0 : Nat) + (1 : Nat) + (1 : Nat) + (1 : Nat) + (1 : Nat) + (1 : Nat) + (1 : Nat))) =
  some (Value.slice q23 k48 k49)) ∧
  ∀ (w85 : World),
  h2 w85 →
  World.cell? w85
  (Addr.add a1 ((0 : Nat) + (1 : Nat) + (1 : Nat) + (1 : Nat) + (1 : Nat) + (1 : Nat) + (1 : Nat) + (1 : Nat))) =
  some (Value.slice q24 k50 k51)) ∧
  ∃ (n83 : Int),
  ∃ (n84 : Int),
  ∃ (n85 : Int),
  ∃ (n86 : Int),
  ∃ (n87 : Int),
  ∃ (q25 : Option Addr),
  ∃ (k52 : Nat),
  ∃ (k53 : Nat),
  ∃ (q26 : Option Addr),
  ∃ (k54 : Nat),
  ∃ (k55 : Nat),
  ∃ (q27 : Option Addr),
  ∃ (k56 : Nat),
  ∃ (k57 : Nat),
  ((∀ (w86 : World), h2 w86 → World.cell? w86 (Addr.add a2 (0 : Nat)) = some (Value.int IntKind.i64 n83)) ∧
  (∀ (w87 : World), h2 w87 → World.cell? w87 (Addr.add a2 ((0 : Nat) + (1 : Nat))) = some (Value.int IntKind.i64 n84)) ∧
  (∀ (w88 : World),
  h2 w88 → World.cell? w88 (Addr.add a2 ((0 : Nat) + (1 : Nat) + (1 : Nat))) = some (Value.int IntKind.i64 n85)) ∧
  (∀ (w89 : World),
  h2 w89 →
  World.cell? w89 (Addr.add a2 ((0 : Nat) + (1 : Nat) + (1 : Nat) + (1 : Nat))) = some (Value.int IntKind.i64 n86)) ∧
  (∀ (w90 : World),
  h2 w90 →
  World.cell? w90 (Addr.add a2 ((0 : Nat) + (1 : Nat) + (1 : Nat) + (1 : Nat) + (1 : Nat))) =
  some (Value.int IntKind.i64 n87)) ∧
  (∀ (w91 : World),
  h2 w91 →
  World.cell? w91 (Addr.add a2 ((0 : Nat) + (1 : Nat) + (1 : Nat) + (1 : Nat) + (1 : Nat) + (1 : Nat))) =
  some (Value.slice q25 k52 k53)) ∧
  (∀ (w92 : World),
  h2 w92 →
  World.cell? w92 (Addr.add a2 ((0 : Nat) + (1 : Nat) + (1 : Nat) + (1 : Nat) + (1 : Nat) + (1 : Nat) + (1 : Nat))) =
  some (Value.slice q26 k54 k55)) ∧
  ∀ (w93 : World),
  h2 w93 →
  World.cell? w93
  (Addr.add a2 ((0 : Nat) + (1 : Nat) + (1 : Nat) + (1 : Nat) + (1 : Nat) + (1 : Nat) + (1 : Nat) + (1 : Nat))) =
  some (Value.slice q27 k56 k57)) ∧
  Rets Try.prog (12 : Nat)
  {
  toList :=
  [Value.agg
  {
  toList :=
  [Value.int IntKind.i64 n68, Value.int IntKind.i64 n69, Value.int IntKind.i64 n70, Value.int IntKind.i64 n71,
  Value.int IntKind.i64 n72, Value.slice q16 k34 k35, Value.slice q17 k36 k37, Value.slice q18 k38 k39] },
  Value.agg
  {
  toList :=
  [Value.int IntKind.i64 n73, Value.int IntKind.i64 n74, Value.int IntKind.i64 n75, Value.int IntKind.i64 n76,
  Value.int IntKind.i64 n77, Value.slice q19 k40 k41, Value.slice q20 k42 k43, Value.slice q21 k44 k45] }] }
  w61 fun (v25 : Value) (w94 : World) =>
  ∃ (b8 : Bool),
  v25 = Value.bool b8 ∧
  h2 w94 ∧
  Rets Try.prog (13 : Nat)
  {
  toList :=
  [Value.agg
  {
  toList :=
  [Value.int IntKind.i64 n78, Value.int IntKind.i64 n79, Value.int IntKind.i64 n80, Value.int IntKind.i64 n81,
  Value.int IntKind.i64 n82, Value.slice q22 k46 k47, Value.slice q23 k48 k49, Value.slice q24 k50 k51] },
  Value.agg
  {
  toList :=
  [Value.int IntKind.i64 n83, Value.int IntKind.i64 n84, Value.int IntKind.i64 n85, Value.int IntKind.i64 n86,
  Value.int IntKind.i64 n87, Value.slice q25 k52 k53, Value.slice q26 k54 k55, Value.slice q27 k56 k57] }] }
  w94 fun (v26 : Value) (w95 : World) =>
  ∃ (b9 : Bool),
  v26 = Value.bool b9 ∧
  h2 w95 ∧
  ((b8 == b9) = true →
  ∃ (n88 : Int),
  ∃ (n89 : Int),
  ∃ (n90 : Int),
  ∃ (n91 : Int),
  ∃ (n92 : Int),
  ∃ (q28 : Option Addr),
  ∃ (k58 : Nat),
  ∃ (k59 : Nat),
  ∃ (q29 : Option Addr),
  ∃ (k60 : Nat),
  ∃ (k61 : Nat),
  ∃ (q30 : Option Addr),
  ∃ (k62 : Nat),
  ∃ (k63 : Nat),
  ((∀ (w96 : World), h2 w96 → World.cell? w96 (Addr.add a1 (0 : Nat)) = some (Value.int IntKind.i64 n88)) ∧
  (∀ (w97 : World), h2 w97 → World.cell? w97 (Addr.add a1 ((0 : Nat) + (1 : Nat))) = some (Value.int IntKind.i64 n89)) ∧
  (∀ (w98 : World),
  h2 w98 → World.cell? w98 (Addr.add a1 ((0 : Nat) + (1 : Nat) + (1 : Nat))) = some (Value.int IntKind.i64 n90)) ∧
  (∀ (w99 : World),
  h2 w99 →
  World.cell? w99 (Addr.add a1 ((0 : Nat) + (1 : Nat) + (1 : Nat) + (1 : Nat))) = some (Value.int IntKind.i64 n91)) ∧
  (∀ (w100 : World),
  h2 w100 →
  World.cell? w100 (Addr.add a1 ((0 : Nat) + (1 : Nat) + (1 : Nat) + (1 : Nat) + (1 : Nat))) =
  some (Value.int IntKind.i64 n92)) ∧
  (∀ (w101 : World),
  h2 w101 →
  World.cell? w101 (Addr.add a1 ((0 : Nat) + (1 : Nat) + (1 : Nat) + (1 : Nat) + (1 : Nat) + (1 : Nat))) =
  some (Value.slice q28 k58 k59)) ∧
  (∀ (w102 : World),
  h2 w102 →
  World.cell? w102 (Addr.add a1 ((0 : Nat) + (1 : Nat) + (1 : Nat) + (1 : Nat) + (1 : Nat) + (1 : Nat) + (1 : Nat))) =
  some (Value.slice q29 k60 k61)) ∧
  ∀ (w103 : World),
  h2 w103 →
  World.cell? w103
  (Addr.add a1 ((0 : Nat) + (1 : Nat) + (1 : Nat) + (1 : Nat) + (1 : Nat) + (1 : Nat) + (1 : Nat) + (1 : Nat))) =
  some (Value.slice q30 k62 k63)) ∧
  ∃ (n93 : Int),
  ∃ (n94 : Int),
  ∃ (n95 : Int),
  ∃ (n96 : Int),
  ∃ (n97 : Int),
  ∃ (q31 : Option Addr),
  ∃ (k64 : Nat),
  ∃ (k65 : Nat),
  ∃ (q32 : Option Addr),
  ∃ (k66 : Nat),
  ∃ (k67 : Nat),
  ∃ (q33 : Option Addr),
  ∃ (k68 : Nat),
  ∃ (k69 : Nat),
  ((∀ (w104 : World), h2 w104 → World.cell? w104 (Addr.add a1 (0 : Nat)) = some (Value.int IntKind.i64 n93)) ∧
  (∀ (w105 : World),
  h2 w105 → World.cell? w105 (Addr.add a1 ((0 : Nat) + (1 : Nat))) = some (Value.int IntKind.i64 n94)) ∧
  (∀ (w106 : World),
  h2 w106 → World.cell? w106 (Addr.add a1 ((0 : Nat) + (1 : Nat) + (1 : Nat))) = some (Value.int IntKind.i64 n95)) ∧
  (∀ (w107 : World),
  h2 w107 →
  World.cell? w107 (Addr.add a1 ((0 : Nat) + (1 : Nat) + (1 : Nat) + (1 : Nat))) = some (Value.int IntKind.i64 n96)) ∧
  (∀ (w108 : World),
  h2 w108 →
  World.cell? w108 (Addr.add a1 ((0 : Nat) + (1 : Nat) + (1 : Nat) + (1 : Nat) + (1 : Nat))) =
  some (Value.int IntKind.i64 n97)) ∧
  (∀ (w109 : World),
  h2 w109 →
  World.cell? w109 (Addr.add a1 ((0 : Nat) + (1 : Nat) + (1 : Nat) + (1 : Nat) + (1 : Nat) + (1 : Nat))) =
  some (Value.slice q31 k64 k65)) ∧
  (∀ (w110 : World),
  h2 w110 →
  World.cell? w110 (Addr.add a1 ((0 : Nat) + (1 : Nat) + (1 : Nat) + (1 : Nat) + (1 : Nat) + (1 : Nat) + (1 : Nat))) =
  some (Value.slice q32 k66 k67)) ∧
  ∀ (w111 : World),
  h2 w111 →
  World.cell? w111
  (Addr.add a1 ((0 : Nat) + (1 : Nat) + (1 : Nat) + (1 : Nat) + (1 : Nat) + (1 : Nat) + (1 : Nat) + (1 : Nat))) =
  some (Value.slice q33 k68 k69)) ∧
  Rets Try.prog (12 : Nat)
  {
  toList :=
  [Value.agg
  {
  toList :=
  [Value.int IntKind.i64 n88, Value.int IntKind.i64 n89, Value.int IntKind.i64 n90, Value.int IntKind.i64 n91,
  Value.int IntKind.i64 n92, Value.slice q28 k58 k59, Value.slice q29 k60 k61, Value.slice q30 k62 k63] },
  Value.agg
  {
  toList :=
  [Value.int IntKind.i64 n93, Value.int IntKind.i64 n94, Value.int IntKind.i64 n95, Value.int IntKind.i64 n96,
  Value.int IntKind.i64 n97, Value.slice q31 k64 k65, Value.slice q32 k66 k67, Value.slice q33 k68 k69] }] }
  w95 fun (v27 : Value) (w112 : World) =>
  ∃ (b10 : Bool),
  v27 = Value.bool b10 ∧
  h2 w112 ∧
  (b10 = true →
  ∃ (n98 : Int),
  ∃ (n99 : Int),
  ∃ (n100 : Int),
  ∃ (n101 : Int),
  ∃ (n102 : Int),
  ∃ (q34 : Option Addr),
  ∃ (k70 : Nat),
  ∃ (k71 : Nat),
  ∃ (q35 : Option Addr),
  ∃ (k72 : Nat),
  ∃ (k73 : Nat),
  ∃ (q36 : Option Addr),
  ∃ (k74 : Nat),
  ∃ (k75 : Nat),
  ((∀ (w113 : World), h2 w113 → World.cell? w113 (Addr.add a1 (0 : Nat)) = some (Value.int IntKind.i64 n98)) ∧
  (∀ (w114 : World),
  h2 w114 → World.cell? w114 (Addr.add a1 ((0 : Nat) + (1 : Nat))) = some (Value.int IntKind.i64 n99)) ∧
  (∀ (w115 : World),
  h2 w115 → World.cell? w115 (Addr.add a1 ((0 : Nat) + (1 : Nat) + (1 : Nat))) = some (Value.int IntKind.i64 n100)) ∧
  (∀ (w116 : World),
  h2 w116 →
  World.cell? w116 (Addr.add a1 ((0 : Nat) + (1 : Nat) + (1 : Nat) + (1 : Nat))) = some (Value.int IntKind.i64 n101)) ∧
  (∀ (w117 : World),
  h2 w117 →
  World.cell? w117 (Addr.add a1 ((0 : Nat) + (1 : Nat) + (1 : Nat) + (1 : Nat) + (1 : Nat))) =
  some (Value.int IntKind.i64 n102)) ∧
  (∀ (w118 : World),
  h2 w118 →
  World.cell? w118 (Addr.add a1 ((0 : Nat) + (1 : Nat) + (1 : Nat) + (1 : Nat) + (1 : Nat) + (1 : Nat))) =
  some (Value.slice q34 k70 k71)) ∧
  (∀ (w119 : World),
  h2 w119 →
  World.cell? w119 (Addr.add a1 ((0 : Nat) + (1 : Nat) + (1 : Nat) + (1 : Nat) + (1 : Nat) + (1 : Nat) + (1 : Nat))) =
  some (Value.slice q35 k72 k73)) ∧
  ∀ (w120 : World),
  h2 w120 →
  World.cell? w120
  (Addr.add a1 ((0 : Nat) + (1 : Nat) + (1 : Nat) + (1 : Nat) + (1 : Nat) + (1 : Nat) + (1 : Nat) + (1 : Nat))) =
  some (Value.slice q36 k74 k75)) ∧
  Rets Try.prog (14 : Nat)
  {
  toList :=
  [Value.agg
  {
  toList :=
  [Value.int IntKind.i64 n98, Value.int IntKind.i64 n99, Value.int IntKind.i64 n100, Value.int IntKind.i64 n101,
  Value.int IntKind.i64 n102, Value.slice q34 k70 k71, Value.slice q35 k72 k73, Value.slice q36 k74 k75] }] }
  w112 fun (v28 : Value) (w121 : World) =>
  ∃ (n103 : Int),
  v28 = Value.int IntKind.i64 n103 ∧
  ((n103 == n11) = true →
  Rets Try.prog (6 : Nat) { toList := [] } w121 fun (v29 : Value) (w122 : World) =>
  ∃ (b11 : Bool), v29 = Value.bool b11 ∧ K (Value.bool b11) w122) ∧
  ((n103 == n11) = false → K (Value.bool false) w121)) ∧
  (b10 = false → K (Value.bool false) w112)) ∧
  ((b8 == b9) = false → K (Value.bool false) w95)) ∧
  ((b7 == (n58 == n63 && (n59 == n64 && (n60 == n65 && (n61 == n66 && n62 == n67))))) = false →
  K (Value.bool false) w61)) ∧
  (b6 = false → K (Value.bool false) w45)) ∧
  ((n33 == n43 && (n34 == n44 && (n35 == n45 && (n36 == n46 && n37 == n47)))) = false → K (Value.bool false) w39)) ∧
  ((b4 == b5) = false → K (Value.bool false) w28)))) ∧
  ((!b1) = true →
  Rets Try.prog (6 : Nat) { toList := [] } w3 fun (v30 : Value) (w123 : World) =>
  ∃ (b12 : Bool), v30 = Value.bool b12 ∧ K (Value.bool b12) w123)
theorem cortadolaw18_ScriptRight_eq (x0 x1 x2 x3 x4 : Int) (xq : Option Addr) (xl xc : Nat) (xr : Option Addr) (xm xd : Nat) (xt : Option Addr) (xn xe : Nat) (y0 y1 y2 y3 y4 : Int) (yq : Option Addr) (yl yc : Nat) (yr : Option Addr) (ym yd : Nat) (yt : Option Addr) (yn ye : Nat) (w : World) (K : Value → World → Prop) : fw Try.prog Try.f3 (annL [(2, [(5, some 3), (6, some 3), (17, none), (18, none), (19, none), (20, none), (21, none), (22, none), (23, none), (24, none), (25, none), (26, none), (27, none), (28, none), (29, none), (30, none), (31, none)])]) (ordL [(9, [(0, 1), (2, 1), (1, 2), (3, 2), (4, 0), (5, 0), (7, 0), (6, 1), (8, 1), (9, 2), (10, 0), (11, 0), (12, 0), (13, 1), (14, 2), (15, 0), (16, 0), (17, 0), (21, 0), (18, 1), (20, 1), (22, 1), (23, 0), (19, 2), (24, 0), (25, 0), (26, 0), (27, 1), (28, 1), (30, 1), (31, 1), (29, 2), (32, 2), (33, 0), (34, 0), (35, 0), (36, 1), (37, 1), (38, 2), (39, 0), (40, 0), (43, 0), (41, 1), (42, 3), (44, 0), (45, 0), (46, 0), (47, 3), (48, 0), (49, 0)])]) [.agg #[.int .i64 x0, .int .i64 x1, .int .i64 x2, .int .i64 x3, .int .i64 x4, .slice xq xl xc, .slice xr xm xd, .slice xt xn xe], .agg #[.int .i64 y0, .int .i64 y1, .int .i64 y2, .int .i64 y3, .int .i64 y4, .slice yq yl yc, .slice yr ym yd, .slice yt yn ye]] w K = cortadolaw18_ScriptRight_m x0 x1 x2 x3 x4 xq xl xc xr xm xd xt xn xe y0 y1 y2 y3 y4 yq yl yc yr ym yd yt yn ye w K := by kernel_rfl
theorem cortadolaw18_ScriptRight_go (x0 x1 x2 x3 x4 : Int) (xq : Option Addr) (xl xc : Nat) (xr : Option Addr) (xm xd : Nat) (xt : Option Addr) (xn xe : Nat) (y0 y1 y2 y3 y4 : Int) (yq : Option Addr) (yl yc : Nat) (yr : Option Addr) (ym yd : Nat) (yt : Option Addr) (yn ye : Nat) {w : World} {K : Value → World → Prop} (h : cortadolaw18_ScriptRight_m x0 x1 x2 x3 x4 xq xl xc xr xm xd xt xn xe y0 y1 y2 y3 y4 yq yl yc yr ym yd yt yn ye w K) : Rets Try.prog 3 #[.agg #[.int .i64 x0, .int .i64 x1, .int .i64 x2, .int .i64 x3, .int .i64 x4, .slice xq xl xc, .slice xr xm xd, .slice xt xn xe], .agg #[.int .i64 y0, .int .i64 y1, .int .i64 y2, .int .i64 y3, .int .i64 y4, .slice yq yl yc, .slice yr ym yd, .slice yt yn ye]] w K :=
  calls_of_fw plain mixed Try.func3 (by kernel_rfl) (by rw [cortadolaw18_ScriptRight_eq]; exact h)
def cortadolaw18_ScriptBack_m (x0 x1 x2 x3 x4 : Int) (xq : Option Addr) (xl xc : Nat) (xr : Option Addr) (xm xd : Nat) (xt : Option Addr) (xn xe : Nat) (w : World) (K : Value → World → Prop) : Prop :=
  NewR (27 : Nat)
  [Value.int IntKind.i64 x0, Value.int IntKind.i64 x1, Value.int IntKind.i64 x2, Value.int IntKind.i64 x3,
  Value.int IntKind.i64 x4, Value.slice xq xl xc, Value.slice xr xm xd, Value.slice xt xn xe]
  w fun (a1 : Addr) (w1 : World) =>
  ∃ (n1 : Int),
  ∃ (n2 : Int),
  ∃ (n3 : Int),
  ∃ (n4 : Int),
  ∃ (n5 : Int),
  ∃ (q1 : Option Addr),
  ∃ (k1 : Nat),
  ∃ (k2 : Nat),
  ∃ (q2 : Option Addr),
  ∃ (k3 : Nat),
  ∃ (k4 : Nat),
  ∃ (q3 : Option Addr),
  ∃ (k5 : Nat),
  ∃ (k6 : Nat),
  (cellAt w1 (Addr.add a1 (0 : Nat)) (Value.int IntKind.i64 n1) ∧
  cellAt w1 (Addr.add a1 (1 : Nat)) (Value.int IntKind.i64 n2) ∧
  cellAt w1 (Addr.add a1 (2 : Nat)) (Value.int IntKind.i64 n3) ∧
  cellAt w1 (Addr.add a1 (3 : Nat)) (Value.int IntKind.i64 n4) ∧
  cellAt w1 (Addr.add a1 (4 : Nat)) (Value.int IntKind.i64 n5) ∧
  cellAt w1 (Addr.add a1 (5 : Nat)) (Value.slice q1 k1 k2) ∧
  cellAt w1 (Addr.add a1 (6 : Nat)) (Value.slice q2 k3 k4) ∧ cellAt w1 (Addr.add a1 (7 : Nat)) (Value.slice q3 k5 k6)) ∧
  Rets Try.prog (5 : Nat)
  {
  toList :=
  [Value.agg
  {
  toList :=
  [Value.int IntKind.i64 n1, Value.int IntKind.i64 n2, Value.int IntKind.i64 n3, Value.int IntKind.i64 n4,
  Value.int IntKind.i64 n5, Value.slice q1 k1 k2, Value.slice q2 k3 k4, Value.slice q3 k5 k6] }] }
  w1 fun (v1 : Value) (w2 : World) =>
  ∃ (b1 : Bool),
  v1 = Value.bool b1 ∧
  ((!b1) = true →
  Rets Try.prog (6 : Nat) { toList := [] } w2 fun (v2 : Value) (w3 : World) =>
  ∃ (b2 : Bool), v2 = Value.bool b2 ∧ K (Value.bool b2) w3) ∧
  ((!b1) = false →
  ∃ (n6 : Int),
  ∃ (n7 : Int),
  ∃ (n8 : Int),
  ∃ (n9 : Int),
  ∃ (n10 : Int),
  ∃ (q4 : Option Addr),
  ∃ (k7 : Nat),
  ∃ (k8 : Nat),
  ∃ (q5 : Option Addr),
  ∃ (k9 : Nat),
  ∃ (k10 : Nat),
  ∃ (q6 : Option Addr),
  ∃ (k11 : Nat),
  ∃ (k12 : Nat),
  (cellAt w2 (Addr.add a1 (0 : Nat)) (Value.int IntKind.i64 n6) ∧
  cellAt w2 (Addr.add a1 (1 : Nat)) (Value.int IntKind.i64 n7) ∧
  cellAt w2 (Addr.add a1 (2 : Nat)) (Value.int IntKind.i64 n8) ∧
  cellAt w2 (Addr.add a1 (3 : Nat)) (Value.int IntKind.i64 n9) ∧
  cellAt w2 (Addr.add a1 (4 : Nat)) (Value.int IntKind.i64 n10) ∧
  cellAt w2 (Addr.add a1 (5 : Nat)) (Value.slice q4 k7 k8) ∧
  cellAt w2 (Addr.add a1 (6 : Nat)) (Value.slice q5 k9 k10) ∧
  cellAt w2 (Addr.add a1 (7 : Nat)) (Value.slice q6 k11 k12)) ∧
  Rets Try.prog (15 : Nat)
  {
  toList :=
  [Value.agg
  {
  toList :=
  [Value.int IntKind.i64 n6, Value.int IntKind.i64 n7, Value.int IntKind.i64 n8, Value.int IntKind.i64 n9,
  Value.int IntKind.i64 n10, Value.slice q4 k7 k8, Value.slice q5 k9 k10, Value.slice q6 k11 k12] }] }
  w2 fun (v3 : Value) (w4 : World) =>
  ∃ (q7 : Option Addr),
  ∃ (k13 : Nat),
  ∃ (k14 : Nat),
  ∃ (n11 : Int),
  v3 = Value.tuple { toList := [Value.slice q7 k13 k14, Value.int IntKind.i64 n11] } ∧
  ∃ (n12 : Int),
  ∃ (n13 : Int),
  ∃ (n14 : Int),
  ∃ (n15 : Int),
  ∃ (n16 : Int),
  ∃ (q8 : Option Addr),
  ∃ (k15 : Nat),
  ∃ (k16 : Nat),
  ∃ (q9 : Option Addr),
  ∃ (k17 : Nat),
  ∃ (k18 : Nat),
  ∃ (q10 : Option Addr),
  ∃ (k19 : Nat),
  ∃ (k20 : Nat),
  (cellAt w4 (Addr.add a1 (0 : Nat)) (Value.int IntKind.i64 n12) ∧
  cellAt w4 (Addr.add a1 (1 : Nat)) (Value.int IntKind.i64 n13) ∧
  cellAt w4 (Addr.add a1 (2 : Nat)) (Value.int IntKind.i64 n14) ∧
  cellAt w4 (Addr.add a1 (3 : Nat)) (Value.int IntKind.i64 n15) ∧
  cellAt w4 (Addr.add a1 (4 : Nat)) (Value.int IntKind.i64 n16) ∧
  cellAt w4 (Addr.add a1 (5 : Nat)) (Value.slice q8 k15 k16) ∧
  cellAt w4 (Addr.add a1 (6 : Nat)) (Value.slice q9 k17 k18) ∧
  cellAt w4 (Addr.add a1 (7 : Nat)) (Value.slice q10 k19 k20)) ∧
  Rets Try.prog (9 : Nat)
  {
  toList :=
  [Value.agg
  {
  toList :=
  [Value.int IntKind.i64 n12, Value.int IntKind.i64 n13, Value.int IntKind.i64 n14, Value.int IntKind.i64 n15,
  Value.int IntKind.i64 n16, Value.slice q8 k15 k16, Value.slice q9 k17 k18, Value.slice q10 k19 k20] }] }
  w4 fun (v4 : Value) (w5 : World) =>
  ∃ (b3 : Bool),
  v4 = Value.bool b3 ∧
  ((!b3) = true →
  ((n11 == (1 : Int)) = true →
  (((↑k13 : Int) == (0 : Int)) = true →
  Rets Try.prog (6 : Nat) { toList := [] } w5 fun (v5 : Value) (w6 : World) =>
  ∃ (b4 : Bool), v5 = Value.bool b4 ∧ K (Value.bool b4) w6) ∧
  (((↑k13 : Int) == (0 : Int)) = false → K (Value.bool false) w5)) ∧
  ((n11 == (1 : Int)) = false → K (Value.bool false) w5)) ∧
  ((!b3) = false →
  ∃ (n17 : Int),
  ∃ (n18 : Int),
  ∃ (n19 : Int),
  ∃ (n20 : Int),
  ∃ (n21 : Int),
  ∃ (q11 : Option Addr),
  ∃ (k21 : Nat),
  ∃ (k22 : Nat),
  ∃ (q12 : Option Addr),
  ∃ (k23 : Nat),
  ∃ (k24 : Nat),
  ∃ (q13 : Option Addr),
  ∃ (k25 : Nat),
  ∃ (k26 : Nat),
  (cellAt w5 (Addr.add a1 (0 : Nat)) (Value.int IntKind.i64 n17) ∧
  cellAt w5 (Addr.add a1 (1 : Nat)) (Value.int IntKind.i64 n18) ∧
  cellAt w5 (Addr.add a1 (2 : Nat)) (Value.int IntKind.i64 n19) ∧
  cellAt w5 (Addr.add a1 (3 : Nat)) (Value.int IntKind.i64 n20) ∧
  cellAt w5 (Addr.add a1 (4 : Nat)) (Value.int IntKind.i64 n21) ∧
  cellAt w5 (Addr.add a1 (5 : Nat)) (Value.slice q11 k21 k22) ∧
  cellAt w5 (Addr.add a1 (6 : Nat)) (Value.slice q12 k23 k24) ∧
  cellAt w5 (Addr.add a1 (7 : Nat)) (Value.slice q13 k25 k26)) ∧
  Rets Try.prog (16 : Nat)
  {
  toList :=
  [Value.agg
  {
  toList :=
  [Value.int IntKind.i64 n17, Value.int IntKind.i64 n18, Value.int IntKind.i64 n19, Value.int IntKind.i64 n20,
  Value.int IntKind.i64 n21, Value.slice q11 k21 k22, Value.slice q12 k23 k24, Value.slice q13 k25 k26] }] }
  w5 fun (v6 : Value) (w7 : World) =>
  ∃ (q14 : Option Addr),
  ∃ (k27 : Nat),
  ∃ (k28 : Nat),
  v6 = Value.slice q14 k27 k28 ∧
  (decide ((↑k27 : Int) > (16384 : Int)) = true →
  ((n11 == (4 : Int)) = true →
  (((↑k13 : Int) == (0 : Int)) = true →
  Rets Try.prog (6 : Nat) { toList := [] } w7 fun (v7 : Value) (w8 : World) =>
  ∃ (b5 : Bool), v7 = Value.bool b5 ∧ K (Value.bool b5) w8) ∧
  (((↑k13 : Int) == (0 : Int)) = false → K (Value.bool false) w7)) ∧
  ((n11 == (4 : Int)) = false → K (Value.bool false) w7)) ∧
  (decide ((↑k27 : Int) > (16384 : Int)) = false →
  Drw w7 fun (w9 : World) =>
  ∃ (h1 : World → Prop),
  h1 w9 ∧
  ((n11 == (0 : Int)) = true →
  ∃ (v8 : Value),
  SameRun Try.prog h1 (convert (35 : Nat) (9 : Nat) (Value.slice q7 k13 k14)) v8 ∧
  ∃ (s1 : ByteArray),
  v8 = Value.string s1 ∧
  ∃ (v9 : Value),
  SameRun Try.prog h1 (convert (35 : Nat) (9 : Nat) (Value.slice q14 k27 k28)) v9 ∧
  ∃ (s2 : ByteArray),
  v9 = Value.string s2 ∧
  ((ByteArray.toList s1 == ByteArray.toList s2) = true →
  ∃ (n22 : Int),
  ∃ (n23 : Int),
  ∃ (n24 : Int),
  ∃ (n25 : Int),
  ∃ (n26 : Int),
  ∃ (q15 : Option Addr),
  ∃ (k29 : Nat),
  ∃ (k30 : Nat),
  ∃ (q16 : Option Addr),
  ∃ (k31 : Nat),
  ∃ (k32 : Nat),
  ∃ (q17 : Option Addr),
  ∃ (k33 : Nat),
  ∃ (k34 : Nat),
  ((∀ (w10 : World), h1 w10 → World.cell? w10 (Addr.add a1 (0 : Nat)) = some (Value.int IntKind.i64 n22)) ∧
  (∀ (w11 : World), h1 w11 → World.cell? w11 (Addr.add a1 ((0 : Nat) + (1 : Nat))) = some (Value.int IntKind.i64 n23)) ∧
  (∀ (w12 : World),
  h1 w12 → World.cell? w12 (Addr.add a1 ((0 : Nat) + (1 : Nat) + (1 : Nat))) = some (Value.int IntKind.i64 n24)) ∧
  (∀ (w13 : World),
  h1 w13 →
  World.cell? w13 (Addr.add a1 ((0 : Nat) + (1 : Nat) + (1 : Nat) + (1 : Nat))) = some (Value.int IntKind.i64 n25)) ∧
  (∀ (w14 : World),
  h1 w14 →
  World.cell? w14 (Addr.add a1 ((0 : Nat) + (1 : Nat) + (1 : Nat) + (1 : Nat) + (1 : Nat))) =
  some (Value.int IntKind.i64 n26)) ∧
  (∀ (w15 : World),
  h1 w15 →
  World.cell? w15 (Addr.add a1 ((0 : Nat) + (1 : Nat) + (1 : Nat) + (1 : Nat) + (1 : Nat) + (1 : Nat))) =
  some (Value.slice q15 k29 k30)) ∧
  (∀ (w16 : World),
  h1 w16 →
  World.cell? w16 (Addr.add a1 ((0 : Nat) + (1 : Nat) + (1 : Nat) + (1 : Nat) + (1 : Nat) + (1 : Nat) + (1 : Nat))) =
  some (Value.slice q16 k31 k32)) ∧
  ∀ (w17 : World),
  h1 w17 →
  World.cell? w17
  (Addr.add a1 ((0 : Nat) + (1 : Nat) + (1 : Nat) + (1 : Nat) + (1 : Nat) + (1 : Nat) + (1 : Nat) + (1 : Nat))) =
  some (Value.slice q17 k33 k34)) ∧
  Rets Try.prog (17 : Nat) { toList := [Value.slice q7 k13 k14] } w9 fun (v10 : Value) (w18 : World) =>
  ∃ (n27 : Int),
  ∃ (n28 : Int),
  ∃ (n29 : Int),
  ∃ (n30 : Int),
  ∃ (n31 : Int),
  ∃ (q18 : Option Addr),
  ∃ (k35 : Nat),
  ∃ (k36 : Nat),
  ∃ (q19 : Option Addr),
  ∃ (k37 : Nat),
  ∃ (k38 : Nat),
  ∃ (q20 : Option Addr),
  ∃ (k39 : Nat),
  ∃ (k40 : Nat),
  v10 =
  Value.agg
  {
  toList :=
  [Value.int IntKind.i64 n27, Value.int IntKind.i64 n28, Value.int IntKind.i64 n29, Value.int IntKind.i64 n30,
  Value.int IntKind.i64 n31, Value.slice q18 k35 k36, Value.slice q19 k37 k38, Value.slice q20 k39 k40] } ∧
  h1 w18 ∧
  Rets Try.prog (13 : Nat)
  {
  toList :=
  [Value.agg
  {
  toList :=
  [Value.int IntKind.i64 n27, Value.int IntKind.i64 n28, Value.int IntKind.i64 n29, Value.int IntKind.i64 n30,
  Value.int IntKind.i64 n31, Value.slice q18 k35 k36, Value.slice q19 k37 k38, Value.slice q20 k39 k40] },
  Value.agg
  {
  toList :=
  [Value.int IntKind.i64 n22, Value.int IntKind.i64 n23, Value.int IntKind.i64 n24, Value.int IntKind.i64 n25,
  Value.int IntKind.i64 n26, Value.slice q15 k29 k30, Value.slice q16 k31 k32, Value.slice q17 k33 k34] }] }
  w18 fun (v11 : Value) (w19 : World) =>
  ∃ (b6 : Bool),
  v11 = Value.bool b6 ∧
  (b6 = true →
  Rets Try.prog (6 : Nat) { toList := [] } w19 fun (v12 : Value) (w20 : World) =>
  ∃ (b7 : Bool), v12 = Value.bool b7 ∧ K (Value.bool b7) w20) ∧
  (b6 = false → K (Value.bool false) w19)) ∧
  ((ByteArray.toList s1 == ByteArray.toList s2) = false → K (Value.bool false) w9)) ∧
  ((n11 == (0 : Int)) = false → K (Value.bool false) w9))))
theorem cortadolaw18_ScriptBack_eq (x0 x1 x2 x3 x4 : Int) (xq : Option Addr) (xl xc : Nat) (xr : Option Addr) (xm xd : Nat) (xt : Option Addr) (xn xe : Nat) (w : World) (K : Value → World → Prop) : fw Try.prog Try.f4 (annL []) (ordL [(9, [(0, 0), (1, 0), (2, 0), (3, 0), (5, 0), (4, 1), (6, 1), (7, 0), (8, 0), (9, 0), (10, 0), (12, 1), (11, 2), (13, 3), (14, 0), (15, 0), (16, 3), (17, 0), (18, 0)])]) [.agg #[.int .i64 x0, .int .i64 x1, .int .i64 x2, .int .i64 x3, .int .i64 x4, .slice xq xl xc, .slice xr xm xd, .slice xt xn xe]] w K = cortadolaw18_ScriptBack_m x0 x1 x2 x3 x4 xq xl xc xr xm xd xt xn xe w K := by kernel_rfl
theorem cortadolaw18_ScriptBack_go (x0 x1 x2 x3 x4 : Int) (xq : Option Addr) (xl xc : Nat) (xr : Option Addr) (xm xd : Nat) (xt : Option Addr) (xn xe : Nat) {w : World} {K : Value → World → Prop} (h : cortadolaw18_ScriptBack_m x0 x1 x2 x3 x4 xq xl xc xr xm xd xt xn xe w K) : Rets Try.prog 4 #[.agg #[.int .i64 x0, .int .i64 x1, .int .i64 x2, .int .i64 x3, .int .i64 x4, .slice xq xl xc, .slice xr xm xd, .slice xt xn xe]] w K :=
  calls_of_fw plain mixed Try.func4 (by kernel_rfl) (by rw [cortadolaw18_ScriptBack_eq]; exact h)
end Go.Proofs.Ytppmdifhoejhjaa.Eng
