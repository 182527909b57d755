/- What the code of these functions asks for: printed by a program of this session's (gens.py) out of the seat's own functions; the kernel checks each row. -/
import Derived.Test.YtggflkjdgcdcmaaGreatDoorEngH
import Derived.Test.YtggflkjdgcdcmaaGreatDoorProg
import Derived.Test.YtggflkjdgcdcmaaGreatDoorBase
namespace Go.Proofs.YtggflkjdgcdcmaaGreatDoor.Eng
open Go Go.Proofs
set_option linter.unusedVariables false
set_option maxRecDepth 1000000
def cortadolaw26_do_m (gp : Nat) (q1 : Option Addr) (l1 c1 : Nat) (wd s1 : Int) (q2 : Option Addr) (l2 c2 : Nat) (s2 ct lim ag ks sd : Int) (q3 : Option Addr) (l3 c3 : Nat) (mo : Int) (kd hh nn : Int) (gd gy : Nat) (w : World) (K : Value → World → Prop) : Prop :=
  NewR (43 : Nat)
  [Value.slice q1 l1 c1, Value.int IntKind.i64 wd, Value.int IntKind.u64 s1, Value.slice q2 l2 c2,
  Value.int IntKind.u64 s2, Value.int IntKind.i64 ct, Value.int IntKind.i64 lim, Value.int IntKind.i64 ag,
  Value.int IntKind.i64 ks, Value.int IntKind.u64 sd, Value.slice q3 l3 c3, Value.int IntKind.i64 mo]
  w fun (a1 : Addr) (w1 : World) =>
  NewR (54 : Nat) [Value.int IntKind.u64 kd, Value.int IntKind.u64 hh, Value.int IntKind.i64 nn] w1
  fun (a2 : Addr) (w2 : World) =>
  NewR (43 : Nat)
  [Value.slice none (0 : Nat) (0 : Nat), Value.int IntKind.i64 (0 : Int), Value.int IntKind.u64 (0 : Int),
  Value.slice none (0 : Nat) (0 : Nat), Value.int IntKind.u64 (0 : Int), Value.int IntKind.i64 (0 : Int),
  Value.int IntKind.i64 (0 : Int), Value.int IntKind.i64 (0 : Int), Value.int IntKind.i64 (0 : Int),
  Value.int IntKind.u64 (0 : Int), Value.slice none (0 : Nat) (0 : Nat), Value.int IntKind.i64 (0 : Int)]
  w2 fun (a3 : Addr) (w3 : World) =>
  ∃ (n1 : Int),
  cellAt w3 (Addr.add a2 (0 : Nat)) (Value.int IntKind.u64 n1) ∧
  (9 : Int) ≠ (0 : Int) ∧
  ∃ (h1 : List Value → World → Prop),
  (((Int.tmod n1 (9 : Int) == (3 : Int)) = true →
  ∃ (n2 : Int),
  cellAt w3 (Addr.add a2 (1 : Nat)) (Value.int IntKind.u64 n2) ∧
  ∃ (n3 : Int),
  cellAt w3 (Addr.add a2 (2 : Nat)) (Value.int IntKind.i64 n3) ∧
  Rets Tryz.prog (25 : Nat)
  {
  toList :=
  [Value.pointer (some { block := gp, off := (0 : Nat) }), Value.int IntKind.u64 n2, Value.int IntKind.i64 n3,
  Value.pointer (some { block := gd, off := (0 : Nat) })] }
  w3 fun (v1 : Value) (w4 : World) =>
  ∃ (q1 : Option Addr),
  ∃ (k1 : Nat),
  ∃ (k2 : Nat),
  ∃ (b1 : Bool),
  v1 = Value.tuple { toList := [Value.slice q1 k1 k2, Value.bool b1] } ∧
  ∃ (q2 : Option Addr),
  ∃ (k3 : Nat),
  ∃ (k4 : Nat),
  ∃ (n4 : Int),
  ∃ (n5 : Int),
  ∃ (q3 : Option Addr),
  ∃ (k5 : Nat),
  ∃ (k6 : Nat),
  ∃ (n6 : Int),
  ∃ (n7 : Int),
  ∃ (n8 : Int),
  ∃ (n9 : Int),
  ∃ (n10 : Int),
  ∃ (n11 : Int),
  ∃ (q4 : Option Addr),
  ∃ (k7 : Nat),
  ∃ (k8 : Nat),
  ∃ (n12 : Int),
  (cellAt w4 (Addr.add a1 (0 : Nat)) (Value.slice q2 k3 k4) ∧
  cellAt w4 (Addr.add a1 (1 : Nat)) (Value.int IntKind.i64 n4) ∧
  cellAt w4 (Addr.add a1 (2 : Nat)) (Value.int IntKind.u64 n5) ∧
  cellAt w4 (Addr.add a1 (3 : Nat)) (Value.slice q3 k5 k6) ∧
  cellAt w4 (Addr.add a1 (4 : Nat)) (Value.int IntKind.u64 n6) ∧
  cellAt w4 (Addr.add a1 (5 : Nat)) (Value.int IntKind.i64 n7) ∧
  cellAt w4 (Addr.add a1 (6 : Nat)) (Value.int IntKind.i64 n8) ∧
  cellAt w4 (Addr.add a1 (7 : Nat)) (Value.int IntKind.i64 n9) ∧
  cellAt w4 (Addr.add a1 (8 : Nat)) (Value.int IntKind.i64 n10) ∧
  cellAt w4 (Addr.add a1 (9 : Nat)) (Value.int IntKind.u64 n11) ∧
  cellAt w4 (Addr.add a1 (10 : Nat)) (Value.slice q4 k7 k8) ∧
  cellAt w4 (Addr.add a1 (11 : Nat)) (Value.int IntKind.i64 n12)) ∧
  ∃ (n13 : Int),
  cellAt w4 (Addr.add a2 (1 : Nat)) (Value.int IntKind.u64 n13) ∧
  ∃ (n14 : Int),
  cellAt w4 (Addr.add a2 (2 : Nat)) (Value.int IntKind.i64 n14) ∧
  Rets Tryz.prog (26 : Nat)
  {
  toList :=
  [Value.agg
  {
  toList :=
  [Value.slice q2 k3 k4, Value.int IntKind.i64 n4, Value.int IntKind.u64 n5, Value.slice q3 k5 k6,
  Value.int IntKind.u64 n6, Value.int IntKind.i64 n7, Value.int IntKind.i64 n8, Value.int IntKind.i64 n9,
  Value.int IntKind.i64 n10, Value.int IntKind.u64 n11, Value.slice q4 k7 k8, Value.int IntKind.i64 n12] },
  Value.int IntKind.u64 n13, Value.int IntKind.i64 n14, Value.pointer (some { block := gy, off := (0 : Nat) })] }
  w4 fun (v2 : Value) (w5 : World) =>
  ∃ (q5 : Option Addr),
  ∃ (k9 : Nat),
  ∃ (k10 : Nat),
  ∃ (n15 : Int),
  ∃ (n16 : Int),
  ∃ (q6 : Option Addr),
  ∃ (k11 : Nat),
  ∃ (k12 : Nat),
  ∃ (n17 : Int),
  ∃ (n18 : Int),
  ∃ (n19 : Int),
  ∃ (n20 : Int),
  ∃ (n21 : Int),
  ∃ (n22 : Int),
  ∃ (q7 : Option Addr),
  ∃ (k13 : Nat),
  ∃ (k14 : Nat),
  ∃ (n23 : Int),
  ∃ (q8 : Option Addr),
  ∃ (k15 : Nat),
  ∃ (k16 : Nat),
  ∃ (b2 : Bool),
  v2 =
  Value.tuple
  {
  toList :=
  [Value.agg
  {
  toList :=
  [Value.slice q5 k9 k10, Value.int IntKind.i64 n15, Value.int IntKind.u64 n16, Value.slice q6 k11 k12,
  Value.int IntKind.u64 n17, Value.int IntKind.i64 n18, Value.int IntKind.i64 n19, Value.int IntKind.i64 n20,
  Value.int IntKind.i64 n21, Value.int IntKind.u64 n22, Value.slice q7 k13 k14, Value.int IntKind.i64 n23] },
  Value.slice q8 k15 k16, Value.bool b2] } ∧
  StoreR a1
  [Value.slice q5 k9 k10, Value.int IntKind.i64 n15, Value.int IntKind.u64 n16, Value.slice q6 k11 k12,
  Value.int IntKind.u64 n17, Value.int IntKind.i64 n18, Value.int IntKind.i64 n19, Value.int IntKind.i64 n20,
  Value.int IntKind.i64 n21, Value.int IntKind.u64 n22, Value.slice q7 k13 k14, Value.int IntKind.i64 n23]
  w5 fun (w6 : World) => h1 [Value.slice q1 k1 k2, Value.slice q8 k15 k16, Value.bool b1, Value.bool b2] w6) ∧
  ((Int.tmod n1 (9 : Int) == (3 : Int)) = false →
  ((Int.tmod n1 (9 : Int) == (4 : Int)) = true →
  ∃ (n24 : Int),
  cellAt w3 (Addr.add a2 (1 : Nat)) (Value.int IntKind.u64 n24) ∧
  Rets Tryz.prog (27 : Nat)
  { toList := [Value.pointer (some { block := gp, off := (0 : Nat) }), Value.int IntKind.u64 n24] } w3
  fun (v3 : Value) (w7 : World) =>
  ∃ (n25 : Int),
  ∃ (b3 : Bool),
  v3 = Value.tuple { toList := [Value.int IntKind.i64 n25, Value.bool b3] } ∧
  ∃ (q9 : Option Addr),
  ∃ (k17 : Nat),
  ∃ (k18 : Nat),
  ∃ (n26 : Int),
  (cellAt w7 (Addr.add (Addr.add a1 (10 : Nat)) (0 : Nat)) (Value.slice q9 k17 k18) ∧
  cellAt w7 (Addr.add (Addr.add a1 (10 : Nat)) (1 : Nat)) (Value.int IntKind.i64 n26)) ∧
  ∃ (n27 : Int),
  cellAt w7 (Addr.add a2 (1 : Nat)) (Value.int IntKind.u64 n27) ∧
  Rets Tryz.prog (28 : Nat)
  { toList := [Value.agg { toList := [Value.slice q9 k17 k18, Value.int IntKind.i64 n26] }, Value.int IntKind.u64 n27] }
  w7 fun (v4 : Value) (w8 : World) =>
  ∃ (n28 : Int),
  ∃ (b4 : Bool),
  v4 = Value.tuple { toList := [Value.int IntKind.i64 n28, Value.bool b4] } ∧
  ∃ (q10 : Option Addr),
  ∃ (k19 : Nat),
  ∃ (k20 : Nat),
  ∃ (n29 : Int),
  (cellAt w8 (Addr.add (Addr.add a1 (10 : Nat)) (0 : Nat)) (Value.slice q10 k19 k20) ∧
  cellAt w8 (Addr.add (Addr.add a1 (10 : Nat)) (1 : Nat)) (Value.int IntKind.i64 n29)) ∧
  ∃ (n30 : Int),
  cellAt w8 (Addr.add a2 (1 : Nat)) (Value.int IntKind.u64 n30) ∧
  Rets Tryz.prog (29 : Nat)
  { toList := [Value.agg { toList := [Value.slice q10 k19 k20, Value.int IntKind.i64 n29] }, Value.int IntKind.u64 n30] }
  w8 fun (v5 : Value) (w9 : World) =>
  ∃ (q11 : Option Addr),
  ∃ (k21 : Nat),
  ∃ (k22 : Nat),
  ∃ (n31 : Int),
  v5 = Value.agg { toList := [Value.slice q11 k21 k22, Value.int IntKind.i64 n31] } ∧
  StoreR (Addr.add a1 (10 : Nat)) [Value.slice q11 k21 k22, Value.int IntKind.i64 n31] w9 fun (w10 : World) =>
  ∃ (h2 : List Value → World → Prop),
  (((n25 == n28) = true → h2 [Value.bool (b3 == b4)] w10) ∧ ((n25 == n28) = false → h2 [Value.bool false] w10)) ∧
  ∀ (w11 : World) (b5 : Bool) (v6 v7 v8 v9 v10 v11 v12 v13 : Value),
  h2 [Value.bool b5] w11 →
  h1 [Value.slice none (0 : Nat) (0 : Nat), Value.slice none (0 : Nat) (0 : Nat), Value.bool b5, Value.bool true] w11) ∧
  ((Int.tmod n1 (9 : Int) == (4 : Int)) = false →
  ((Int.tmod n1 (9 : Int) == (5 : Int)) = true →
  ∃ (n32 : Int),
  cellAt w3 (Addr.add a2 (1 : Nat)) (Value.int IntKind.u64 n32) ∧
  ∃ (n33 : Int),
  cellAt w3 (Addr.add a2 (1 : Nat)) (Value.int IntKind.u64 n33) ∧
  NewR (30 : Nat) [Value.int IntKind.u64 n32, Value.int IntKind.u64 (IntKind.wrap IntKind.u64 (n33 + (1 : Int)))] w3
  fun (a4 : Addr) (w12 : World) =>
  Rets Tryz.prog (30 : Nat)
  { toList := [Value.pointer (some { block := gp, off := (0 : Nat) }), Value.slice (some a4) (2 : Nat) (2 : Nat)] } w12
  fun (v14 : Value) (w13 : World) =>
  v14 = Value.tuple { toList := [] } ∧
  ∃ (q12 : Option Addr),
  ∃ (k23 : Nat),
  ∃ (k24 : Nat),
  ∃ (n34 : Int),
  ∃ (n35 : Int),
  ∃ (q13 : Option Addr),
  ∃ (k25 : Nat),
  ∃ (k26 : Nat),
  ∃ (n36 : Int),
  ∃ (n37 : Int),
  ∃ (n38 : Int),
  ∃ (n39 : Int),
  ∃ (n40 : Int),
  ∃ (n41 : Int),
  (cellAt w13 (Addr.add (Addr.add a1 (0 : Nat)) (0 : Nat)) (Value.slice q12 k23 k24) ∧
  cellAt w13 (Addr.add (Addr.add a1 (0 : Nat)) (1 : Nat)) (Value.int IntKind.i64 n34) ∧
  cellAt w13 (Addr.add (Addr.add a1 (0 : Nat)) (2 : Nat)) (Value.int IntKind.u64 n35) ∧
  cellAt w13 (Addr.add (Addr.add a1 (0 : Nat)) (3 : Nat)) (Value.slice q13 k25 k26) ∧
  cellAt w13 (Addr.add (Addr.add a1 (0 : Nat)) (4 : Nat)) (Value.int IntKind.u64 n36) ∧
  cellAt w13 (Addr.add (Addr.add a1 (0 : Nat)) (5 : Nat)) (Value.int IntKind.i64 n37) ∧
  cellAt w13 (Addr.add (Addr.add a1 (0 : Nat)) (6 : Nat)) (Value.int IntKind.i64 n38) ∧
  cellAt w13 (Addr.add (Addr.add a1 (0 : Nat)) (7 : Nat)) (Value.int IntKind.i64 n39) ∧
  cellAt w13 (Addr.add (Addr.add a1 (0 : Nat)) (8 : Nat)) (Value.int IntKind.i64 n40) ∧
  cellAt w13 (Addr.add (Addr.add a1 (0 : Nat)) (9 : Nat)) (Value.int IntKind.u64 n41)) ∧
  ∃ (n42 : Int),
  cellAt w13 (Addr.add a2 (1 : Nat)) (Value.int IntKind.u64 n42) ∧
  ∃ (n43 : Int),
  cellAt w13 (Addr.add a2 (1 : Nat)) (Value.int IntKind.u64 n43) ∧
  NewR (30 : Nat) [Value.int IntKind.u64 n42, Value.int IntKind.u64 (IntKind.wrap IntKind.u64 (n43 + (1 : Int)))] w13
  fun (a5 : Addr) (w14 : World) =>
  Rets Tryz.prog (31 : Nat)
  {
  toList :=
  [Value.agg
  {
  toList :=
  [Value.slice q12 k23 k24, Value.int IntKind.i64 n34, Value.int IntKind.u64 n35, Value.slice q13 k25 k26,
  Value.int IntKind.u64 n36, Value.int IntKind.i64 n37, Value.int IntKind.i64 n38, Value.int IntKind.i64 n39,
  Value.int IntKind.i64 n40, Value.int IntKind.u64 n41] },
  Value.slice (some a5) (2 : Nat) (2 : Nat)] }
  w14 fun (v15 : Value) (w15 : World) =>
  ∃ (q14 : Option Addr),
  ∃ (k27 : Nat),
  ∃ (k28 : Nat),
  ∃ (n44 : Int),
  ∃ (n45 : Int),
  ∃ (q15 : Option Addr),
  ∃ (k29 : Nat),
  ∃ (k30 : Nat),
  ∃ (n46 : Int),
  ∃ (n47 : Int),
  ∃ (n48 : Int),
  ∃ (n49 : Int),
  ∃ (n50 : Int),
  ∃ (n51 : Int),
  v15 =
  Value.agg
  {
  toList :=
  [Value.slice q14 k27 k28, Value.int IntKind.i64 n44, Value.int IntKind.u64 n45, Value.slice q15 k29 k30,
  Value.int IntKind.u64 n46, Value.int IntKind.i64 n47, Value.int IntKind.i64 n48, Value.int IntKind.i64 n49,
  Value.int IntKind.i64 n50, Value.int IntKind.u64 n51] } ∧
  StoreR (Addr.add a1 (0 : Nat))
  [Value.slice q14 k27 k28, Value.int IntKind.i64 n44, Value.int IntKind.u64 n45, Value.slice q15 k29 k30,
  Value.int IntKind.u64 n46, Value.int IntKind.i64 n47, Value.int IntKind.i64 n48, Value.int IntKind.i64 n49,
  Value.int IntKind.i64 n50, Value.int IntKind.u64 n51]
  w15 fun (w16 : World) =>
  h1 [Value.slice none (0 : Nat) (0 : Nat), Value.slice none (0 : Nat) (0 : Nat), Value.bool true, Value.bool true] w16) ∧
  ((Int.tmod n1 (9 : Int) == (5 : Int)) = false →
  ((Int.tmod n1 (9 : Int) == (6 : Int)) = true →
  ∃ (n52 : Int),
  cellAt w3 (Addr.add a2 (1 : Nat)) (Value.int IntKind.u64 n52) ∧
  ∃ (n53 : Int),
  cellAt w3 (Addr.add a2 (1 : Nat)) (Value.int IntKind.u64 n53) ∧
  NewR (30 : Nat) [Value.int IntKind.u64 n52, Value.int IntKind.u64 (IntKind.wrap IntKind.u64 (n53 + (1 : Int)))] w3
  fun (a6 : Addr) (w17 : World) =>
  Rets Tryz.prog (30 : Nat)
  { toList := [Value.pointer (some { block := gp, off := (0 : Nat) }), Value.slice (some a6) (2 : Nat) (2 : Nat)] } w17
  fun (v16 : Value) (w18 : World) =>
  v16 = Value.tuple { toList := [] } ∧
  ∃ (q16 : Option Addr),
  ∃ (k31 : Nat),
  ∃ (k32 : Nat),
  ∃ (n54 : Int),
  ∃ (n55 : Int),
  ∃ (q17 : Option Addr),
  ∃ (k33 : Nat),
  ∃ (k34 : Nat),
  ∃ (n56 : Int),
  ∃ (n57 : Int),
  ∃ (n58 : Int),
  ∃ (n59 : Int),
  ∃ (n60 : Int),
  ∃ (n61 : Int),
  (cellAt w18 (Addr.add (Addr.add a1 (0 : Nat)) (0 : Nat)) (Value.slice q16 k31 k32) ∧
  cellAt w18 (Addr.add (Addr.add a1 (0 : Nat)) (1 : Nat)) (Value.int IntKind.i64 n54) ∧
  cellAt w18 (Addr.add (Addr.add a1 (0 : Nat)) (2 : Nat)) (Value.int IntKind.u64 n55) ∧
  cellAt w18 (Addr.add (Addr.add a1 (0 : Nat)) (3 : Nat)) (Value.slice q17 k33 k34) ∧
  cellAt w18 (Addr.add (Addr.add a1 (0 : Nat)) (4 : Nat)) (Value.int IntKind.u64 n56) ∧
  cellAt w18 (Addr.add (Addr.add a1 (0 : Nat)) (5 : Nat)) (Value.int IntKind.i64 n57) ∧
  cellAt w18 (Addr.add (Addr.add a1 (0 : Nat)) (6 : Nat)) (Value.int IntKind.i64 n58) ∧
  cellAt w18 (Addr.add (Addr.add a1 (0 : Nat)) (7 : Nat)) (Value.int IntKind.i64 n59) ∧
  cellAt w18 (Addr.add (Addr.add a1 (0 : Nat)) (8 : Nat)) (Value.int IntKind.i64 n60) ∧
  cellAt w18 (Addr.add (Addr.add a1 (0 : Nat)) (9 : Nat)) (Value.int IntKind.u64 n61)) ∧
  ∃ (n62 : Int),
  cellAt w18 (Addr.add a2 (1 : Nat)) (Value.int IntKind.u64 n62) ∧
  ∃ (n63 : Int),
  cellAt w18 (Addr.add a2 (1 : Nat)) (Value.int IntKind.u64 n63) ∧
  NewR (30 : Nat) [Value.int IntKind.u64 n62, Value.int IntKind.u64 (IntKind.wrap IntKind.u64 (n63 + (1 : Int)))] w18
  fun (a7 : Addr) (w19 : World) =>
  Rets Tryz.prog (31 : Nat)
  {
  toList :=
  [Value.agg
  {
  toList :=
  [Value.slice q16 k31 k32, Value.int IntKind.i64 n54, Value.int IntKind.u64 n55, Value.slice q17 k33 k34,
  Value.int IntKind.u64 n56, Value.int IntKind.i64 n57, Value.int IntKind.i64 n58, Value.int IntKind.i64 n59,
  Value.int IntKind.i64 n60, Value.int IntKind.u64 n61] },
  Value.slice (some a7) (2 : Nat) (2 : Nat)] }
  w19 fun (v17 : Value) (w20 : World) =>
  ∃ (q18 : Option Addr),
  ∃ (k35 : Nat),
  ∃ (k36 : Nat),
  ∃ (n64 : Int),
  ∃ (n65 : Int),
  ∃ (q19 : Option Addr),
  ∃ (k37 : Nat),
  ∃ (k38 : Nat),
  ∃ (n66 : Int),
  ∃ (n67 : Int),
  ∃ (n68 : Int),
  ∃ (n69 : Int),
  ∃ (n70 : Int),
  ∃ (n71 : Int),
  v17 =
  Value.agg
  {
  toList :=
  [Value.slice q18 k35 k36, Value.int IntKind.i64 n64, Value.int IntKind.u64 n65, Value.slice q19 k37 k38,
  Value.int IntKind.u64 n66, Value.int IntKind.i64 n67, Value.int IntKind.i64 n68, Value.int IntKind.i64 n69,
  Value.int IntKind.i64 n70, Value.int IntKind.u64 n71] } ∧
  StoreR (Addr.add a1 (0 : Nat))
  [Value.slice q18 k35 k36, Value.int IntKind.i64 n64, Value.int IntKind.u64 n65, Value.slice q19 k37 k38,
  Value.int IntKind.u64 n66, Value.int IntKind.i64 n67, Value.int IntKind.i64 n68, Value.int IntKind.i64 n69,
  Value.int IntKind.i64 n70, Value.int IntKind.u64 n71]
  w20 fun (w21 : World) =>
  h1 [Value.slice none (0 : Nat) (0 : Nat), Value.slice none (0 : Nat) (0 : Nat), Value.bool true, Value.bool true] w21) ∧
  ((Int.tmod n1 (9 : Int) == (6 : Int)) = false →
  ((Int.tmod n1 (9 : Int) == (7 : Int)) = true →
  ∃ (n72 : Int),
  cellAt w3 (Addr.add a2 (2 : Nat)) (Value.int IntKind.i64 n72) ∧
  Rets Tryz.prog (32 : Nat)
  {
  toList :=
  [Value.pointer (some { block := gp, off := (0 : Nat) }), Value.int IntKind.i64 n72,
  Value.pointer (some { block := gd, off := (0 : Nat) })] }
  w3 fun (v18 : Value) (w22 : World) =>
  ∃ (q20 : Option Addr),
  ∃ (k39 : Nat),
  ∃ (k40 : Nat),
  ∃ (b6 : Bool),
  v18 = Value.tuple { toList := [Value.slice q20 k39 k40, Value.bool b6] } ∧
  ∃ (q21 : Option Addr),
  ∃ (k41 : Nat),
  ∃ (k42 : Nat),
  ∃ (n73 : Int),
  ∃ (n74 : Int),
  ∃ (q22 : Option Addr),
  ∃ (k43 : Nat),
  ∃ (k44 : Nat),
  ∃ (n75 : Int),
  ∃ (n76 : Int),
  ∃ (n77 : Int),
  ∃ (n78 : Int),
  ∃ (n79 : Int),
  ∃ (n80 : Int),
  ∃ (q23 : Option Addr),
  ∃ (k45 : Nat),
  ∃ (k46 : Nat),
  ∃ (n81 : Int),
  (cellAt w22 (Addr.add a1 (0 : Nat)) (Value.slice q21 k41 k42) ∧
  cellAt w22 (Addr.add a1 (1 : Nat)) (Value.int IntKind.i64 n73) ∧
  cellAt w22 (Addr.add a1 (2 : Nat)) (Value.int IntKind.u64 n74) ∧
  cellAt w22 (Addr.add a1 (3 : Nat)) (Value.slice q22 k43 k44) ∧
  cellAt w22 (Addr.add a1 (4 : Nat)) (Value.int IntKind.u64 n75) ∧
  cellAt w22 (Addr.add a1 (5 : Nat)) (Value.int IntKind.i64 n76) ∧
  cellAt w22 (Addr.add a1 (6 : Nat)) (Value.int IntKind.i64 n77) ∧
  cellAt w22 (Addr.add a1 (7 : Nat)) (Value.int IntKind.i64 n78) ∧
  cellAt w22 (Addr.add a1 (8 : Nat)) (Value.int IntKind.i64 n79) ∧
  cellAt w22 (Addr.add a1 (9 : Nat)) (Value.int IntKind.u64 n80) ∧
  cellAt w22 (Addr.add a1 (10 : Nat)) (Value.slice q23 k45 k46) ∧
  cellAt w22 (Addr.add a1 (11 : Nat)) (Value.int IntKind.i64 n81)) ∧
  ∃ (n82 : Int),
  cellAt w22 (Addr.add a2 (2 : Nat)) (Value.int IntKind.i64 n82) ∧
  Rets Tryz.prog (33 : Nat)
  {
  toList :=
  [Value.agg
  {
  toList :=
  [Value.slice q21 k41 k42, Value.int IntKind.i64 n73, Value.int IntKind.u64 n74, Value.slice q22 k43 k44,
  Value.int IntKind.u64 n75, Value.int IntKind.i64 n76, Value.int IntKind.i64 n77, Value.int IntKind.i64 n78,
  Value.int IntKind.i64 n79, Value.int IntKind.u64 n80, Value.slice q23 k45 k46, Value.int IntKind.i64 n81] },
  Value.int IntKind.i64 n82, Value.pointer (some { block := gy, off := (0 : Nat) })] }
  w22 fun (v19 : Value) (w23 : World) =>
  ∃ (q24 : Option Addr),
  ∃ (k47 : Nat),
  ∃ (k48 : Nat),
  ∃ (n83 : Int),
  ∃ (n84 : Int),
  ∃ (q25 : Option Addr),
  ∃ (k49 : Nat),
  ∃ (k50 : Nat),
  ∃ (n85 : Int),
  ∃ (n86 : Int),
  ∃ (n87 : Int),
  ∃ (n88 : Int),
  ∃ (n89 : Int),
  ∃ (n90 : Int),
  ∃ (q26 : Option Addr),
  ∃ (k51 : Nat),
  ∃ (k52 : Nat),
  ∃ (n91 : Int),
  ∃ (q27 : Option Addr),
  ∃ (k53 : Nat),
  ∃ (k54 : Nat),
  ∃ (b7 : Bool),
  v19 =
  Value.tuple
  {
  toList :=
  [Value.agg
  {
  toList :=
  [Value.slice q24 k47 k48, Value.int IntKind.i64 n83, Value.int IntKind.u64 n84, Value.slice q25 k49 k50,
  Value.int IntKind.u64 n85, Value.int IntKind.i64 n86, Value.int IntKind.i64 n87, Value.int IntKind.i64 n88,
  Value.int IntKind.i64 n89, Value.int IntKind.u64 n90, Value.slice q26 k51 k52, Value.int IntKind.i64 n91] },
  Value.slice q27 k53 k54, Value.bool b7] } ∧
  StoreR a1
  [Value.slice q24 k47 k48, Value.int IntKind.i64 n83, Value.int IntKind.u64 n84, Value.slice q25 k49 k50,
  Value.int IntKind.u64 n85, Value.int IntKind.i64 n86, Value.int IntKind.i64 n87, Value.int IntKind.i64 n88,
  Value.int IntKind.i64 n89, Value.int IntKind.u64 n90, Value.slice q26 k51 k52, Value.int IntKind.i64 n91]
  w23 fun (w24 : World) => h1 [Value.slice q20 k39 k40, Value.slice q27 k53 k54, Value.bool b6, Value.bool b7] w24) ∧
  ((Int.tmod n1 (9 : Int) == (7 : Int)) = false →
  ((Int.tmod n1 (9 : Int) == (8 : Int)) = true →
  Rets Tryz.prog (34 : Nat) { toList := [Value.pointer (some { block := gp, off := (0 : Nat) })] } w3
  fun (v20 : Value) (w25 : World) =>
  v20 = Value.tuple { toList := [] } ∧
  ∃ (h3 : List Value → World → Prop),
  (Drw w25 fun (w26 : World) =>
  ∃ (h4 : World → Prop),
  h4 w26 ∧
  ∃ (n92 : Int),
  (∀ (w27 : World),
  h4 w27 → World.cell? w27 (Addr.add (Addr.add a1 (0 : Nat)) (6 : Nat)) = some (Value.int IntKind.i64 n92)) ∧
  ∃ (n93 : Int),
  (∀ (w28 : World),
  h4 w28 → World.cell? w28 (Addr.add (Addr.add a1 (0 : Nat)) (9 : Nat)) = some (Value.int IntKind.u64 n93)) ∧
  ∃ (n94 : Int),
  (∀ (w29 : World),
  h4 w29 → World.cell? w29 (Addr.add (Addr.add a1 (10 : Nat)) (1 : Nat)) = some (Value.int IntKind.i64 n94)) ∧
  Rets Tryz.prog (23 : Nat) { toList := [Value.int IntKind.i64 n92, Value.int IntKind.u64 n93] } w26
  fun (v21 : Value) (w30 : World) =>
  ∃ (q28 : Option Addr),
  ∃ (k55 : Nat),
  ∃ (k56 : Nat),
  ∃ (n95 : Int),
  ∃ (n96 : Int),
  ∃ (q29 : Option Addr),
  ∃ (k57 : Nat),
  ∃ (k58 : Nat),
  ∃ (n97 : Int),
  ∃ (n98 : Int),
  ∃ (n99 : Int),
  ∃ (n100 : Int),
  ∃ (n101 : Int),
  ∃ (n102 : Int),
  v21 =
  Value.agg
  {
  toList :=
  [Value.slice q28 k55 k56, Value.int IntKind.i64 n95, Value.int IntKind.u64 n96, Value.slice q29 k57 k58,
  Value.int IntKind.u64 n97, Value.int IntKind.i64 n98, Value.int IntKind.i64 n99, Value.int IntKind.i64 n100,
  Value.int IntKind.i64 n101, Value.int IntKind.u64 n102] } ∧
  h4 w30 ∧
  StoreR a1
  [Value.slice q28 k55 k56, Value.int IntKind.i64 n95, Value.int IntKind.u64 n96, Value.slice q29 k57 k58,
  Value.int IntKind.u64 n97, Value.int IntKind.i64 n98, Value.int IntKind.i64 n99, Value.int IntKind.i64 n100,
  Value.int IntKind.i64 n101, Value.int IntKind.u64 n102, Value.slice none (0 : Nat) (0 : Nat), Value.int IntKind.i64 n94]
  w30 fun (w31 : World) => h3 [] w31) ∧
  ∀ (w32 : World) (v22 v23 v24 v25 v26 v27 v28 v29 v30 v31 v32 v33 : Value),
  h3 [] w32 →
  h1 [Value.slice none (0 : Nat) (0 : Nat), Value.slice none (0 : Nat) (0 : Nat), Value.bool true, Value.bool true] w32) ∧
  ((Int.tmod n1 (9 : Int) == (8 : Int)) = false →
  ∃ (n103 : Int),
  cellAt w3 (Addr.add a2 (1 : Nat)) (Value.int IntKind.u64 n103) ∧
  ∃ (n104 : Int),
  cellAt w3 (Addr.add a2 (2 : Nat)) (Value.int IntKind.i64 n104) ∧
  Rets Tryz.prog (20 : Nat)
  {
  toList :=
  [Value.pointer (some { block := gp, off := (0 : Nat) }), Value.int IntKind.u64 n103, Value.int IntKind.i64 n104,
  Value.pointer (some { block := gd, off := (0 : Nat) })] }
  w3 fun (v34 : Value) (w33 : World) =>
  ∃ (q30 : Option Addr),
  ∃ (k59 : Nat),
  ∃ (k60 : Nat),
  ∃ (b8 : Bool),
  v34 = Value.tuple { toList := [Value.slice q30 k59 k60, Value.bool b8] } ∧
  ∃ (q31 : Option Addr),
  ∃ (k61 : Nat),
  ∃ (k62 : Nat),
  ∃ (n105 : Int),
  ∃ (n106 : Int),
  ∃ (q32 : Option Addr),
  ∃ (k63 : Nat),
  ∃ (k64 : Nat),
  ∃ (n107 : Int),
  ∃ (n108 : Int),
  ∃ (n109 : Int),
  ∃ (n110 : Int),
  ∃ (n111 : Int),
  ∃ (n112 : Int),
  ∃ (q33 : Option Addr),
  ∃ (k65 : Nat),
  ∃ (k66 : Nat),
  ∃ (n113 : Int),
  (cellAt w33 (Addr.add a1 (0 : Nat)) (Value.slice q31 k61 k62) ∧
  cellAt w33 (Addr.add a1 (1 : Nat)) (Value.int IntKind.i64 n105) ∧
  cellAt w33 (Addr.add a1 (2 : Nat)) (Value.int IntKind.u64 n106) ∧
  cellAt w33 (Addr.add a1 (3 : Nat)) (Value.slice q32 k63 k64) ∧
  cellAt w33 (Addr.add a1 (4 : Nat)) (Value.int IntKind.u64 n107) ∧
  cellAt w33 (Addr.add a1 (5 : Nat)) (Value.int IntKind.i64 n108) ∧
  cellAt w33 (Addr.add a1 (6 : Nat)) (Value.int IntKind.i64 n109) ∧
  cellAt w33 (Addr.add a1 (7 : Nat)) (Value.int IntKind.i64 n110) ∧
  cellAt w33 (Addr.add a1 (8 : Nat)) (Value.int IntKind.i64 n111) ∧
  cellAt w33 (Addr.add a1 (9 : Nat)) (Value.int IntKind.u64 n112) ∧
  cellAt w33 (Addr.add a1 (10 : Nat)) (Value.slice q33 k65 k66) ∧
  cellAt w33 (Addr.add a1 (11 : Nat)) (Value.int IntKind.i64 n113)) ∧
  ∃ (n114 : Int),
  cellAt w33 (Addr.add a2 (1 : Nat)) (Value.int IntKind.u64 n114) ∧
  ∃ (n115 : Int),
  cellAt w33 (Addr.add a2 (2 : Nat)) (Value.int IntKind.i64 n115) ∧
  Rets Tryz.prog (35 : Nat)
  {
  toList :=
  [Value.agg
  {
  toList :=
  [Value.slice q31 k61 k62, Value.int IntKind.i64 n105, Value.int IntKind.u64 n106, Value.slice q32 k63 k64,
  Value.int IntKind.u64 n107, Value.int IntKind.i64 n108, Value.int IntKind.i64 n109, Value.int IntKind.i64 n110,
  Value.int IntKind.i64 n111, Value.int IntKind.u64 n112, Value.slice q33 k65 k66, Value.int IntKind.i64 n113] },
  Value.int IntKind.u64 n114, Value.int IntKind.i64 n115, Value.pointer (some { block := gy, off := (0 : Nat) })] }
  w33 fun (v35 : Value) (w34 : World) =>
  ∃ (q34 : Option Addr),
  ∃ (k67 : Nat),
  ∃ (k68 : Nat),
  ∃ (n116 : Int),
  ∃ (n117 : Int),
  ∃ (q35 : Option Addr),
  ∃ (k69 : Nat),
  ∃ (k70 : Nat),
  ∃ (n118 : Int),
  ∃ (n119 : Int),
  ∃ (n120 : Int),
  ∃ (n121 : Int),
  ∃ (n122 : Int),
  ∃ (n123 : Int),
  ∃ (q36 : Option Addr),
  ∃ (k71 : Nat),
  ∃ (k72 : Nat),
  ∃ (n124 : Int),
  ∃ (q37 : Option Addr),
  ∃ (k73 : Nat),
  ∃ (k74 : Nat),
  ∃ (b9 : Bool),
  v35 =
  Value.tuple
  {
  toList :=
  [Value.agg
  {
  toList :=
  [Value.slice q34 k67 k68, Value.int IntKind.i64 n116, Value.int IntKind.u64 n117, Value.slice q35 k69 k70,
  Value.int IntKind.u64 n118, Value.int IntKind.i64 n119, Value.int IntKind.i64 n120, Value.int IntKind.i64 n121,
  Value.int IntKind.i64 n122, Value.int IntKind.u64 n123, Value.slice q36 k71 k72, Value.int IntKind.i64 n124] },
  Value.slice q37 k73 k74, Value.bool b9] } ∧
  StoreR a1
  [Value.slice q34 k67 k68, Value.int IntKind.i64 n116, Value.int IntKind.u64 n117, Value.slice q35 k69 k70,
  Value.int IntKind.u64 n118, Value.int IntKind.i64 n119, Value.int IntKind.i64 n120, Value.int IntKind.i64 n121,
  Value.int IntKind.i64 n122, Value.int IntKind.u64 n123, Value.slice q36 k71 k72, Value.int IntKind.i64 n124]
  w34 fun (w35 : World) =>
  h1 [Value.slice q30 k59 k60, Value.slice q37 k73 k74, Value.bool b8, Value.bool b9] w35))))))) ∧
  ∀ (w36 : World) (q38 : Option Addr) (k75 k76 : Nat) (q39 : Option Addr) (k77 k78 : Nat) (b10 b11 : Bool)
  (v36 v37 v38 v39 v40 v41 v42 v43 v44 v45 v46 v47 v48 v49 v50 v51 v52 v53 v54 v55 v56 v57 v58 v59 v60 v61 v62 v63 v64 v65
  v66 v67 v68 v69 v70 v71 v72 v73 v74 v75 v76 v77 v78 v79 v80 v81 v82 v83 v84 v85 v86 v87 v88 v89 v90 v91 v92 v93 v94 v95
  v96 v97 v98 v99 v100 v101 v102 v103 v104 v105 v106 v107 v108 v109 v110 v111 v112 v113 v114 v115 v116 v117 v118 v119 v120
  v121 v122 v123 v124 v125 v126 v127 v128 v129 v130 v131 v132 v133 v134 v135 v136 v137 v138 v139 v140 v141 v142 v143 v144
  v145 v146 v147 v148 v149 v150 v151 v152 v153 v154 v155 v156 v157 v158 v159 v160 v161 v162 v163 v164 v165 v166 v167
  v168 : Value),
  h1 [Value.slice q38 k75 k76, Value.slice q39 k77 k78, Value.bool b10, Value.bool b11] w36 →
  ∃ (h5 : List Value → World → Prop),
  (Drw w36 fun (w37 : World) =>
  ∃ (h6 : World → Prop),
  h6 w37 ∧
  ((b10 == b11) = true →
  ∃ (q40 : Option Addr),
  ∃ (k79 : Nat),
  ∃ (k80 : Nat),
  ∃ (n125 : Int),
  ∃ (n126 : Int),
  ∃ (q41 : Option Addr),
  ∃ (k81 : Nat),
  ∃ (k82 : Nat),
  ∃ (n127 : Int),
  ∃ (n128 : Int),
  ∃ (n129 : Int),
  ∃ (n130 : Int),
  ∃ (n131 : Int),
  ∃ (n132 : Int),
  ∃ (q42 : Option Addr),
  ∃ (k83 : Nat),
  ∃ (k84 : Nat),
  ∃ (n133 : Int),
  ((∀ (w38 : World), h6 w38 → World.cell? w38 (Addr.add a1 (0 : Nat)) = some (Value.slice q40 k79 k80)) ∧
  (∀ (w39 : World), h6 w39 → World.cell? w39 (Addr.add a1 ((0 : Nat) + (1 : Nat))) = some (Value.int IntKind.i64 n125)) ∧
  (∀ (w40 : World),
  h6 w40 → World.cell? w40 (Addr.add a1 ((0 : Nat) + (1 : Nat) + (1 : Nat))) = some (Value.int IntKind.u64 n126)) ∧
  (∀ (w41 : World),
  h6 w41 →
  World.cell? w41 (Addr.add a1 ((0 : Nat) + (1 : Nat) + (1 : Nat) + (1 : Nat))) = some (Value.slice q41 k81 k82)) ∧
  (∀ (w42 : World),
  h6 w42 →
  World.cell? w42 (Addr.add a1 ((0 : Nat) + (1 : Nat) + (1 : Nat) + (1 : Nat) + (1 : Nat))) =
  some (Value.int IntKind.u64 n127)) ∧
  (∀ (w43 : World),
  h6 w43 →
  World.cell? w43 (Addr.add a1 ((0 : Nat) + (1 : Nat) + (1 : Nat) + (1 : Nat) + (1 : Nat) + (1 : Nat))) =
  some (Value.int IntKind.i64 n128)) ∧
  (∀ (w44 : World),
  h6 w44 →
  World.cell? w44 (Addr.add a1 ((0 : Nat) + (1 : Nat) + (1 : Nat) + (1 : Nat) + (1 : Nat) + (1 : Nat) + (1 : Nat))) =
  some (Value.int IntKind.i64 n129)) ∧
  (∀ (w45 : World),
  h6 w45 →
  World.cell? w45
  (Addr.add a1 ((0 : Nat) + (1 : Nat) + (1 : Nat) + (1 : Nat) + (1 : Nat) + (1 : Nat) + (1 : Nat) + (1 : Nat))) =
  some (Value.int IntKind.i64 n130)) ∧
  (∀ (w46 : World),
  h6 w46 →
  World.cell? w46
  (Addr.add a1
  ((0 : Nat) + (1 : Nat) + (1 : Nat) + (1 : Nat) + (1 : Nat) + (1 : Nat) + (1 : Nat) + (1 : Nat) + (1 : Nat))) =
  some (Value.int IntKind.i64 n131)) ∧
  (∀ (w47 : World),
  h6 w47 →
  World.cell? w47
  (Addr.add a1
  ((0 : Nat) + (1 : Nat) + (1 : Nat) + (1 : Nat) + (1 : Nat) + (1 : Nat) + (1 : Nat) + (1 : Nat) + (1 : Nat) +
  (1 : Nat))) =
  some (Value.int IntKind.u64 n132)) ∧
  (∀ (w48 : World),
  h6 w48 →
  World.cell? w48
  (Addr.add a1
  ((0 : Nat) + (1 : Nat) + (1 : Nat) + (1 : Nat) + (1 : Nat) + (1 : Nat) + (1 : Nat) + (1 : Nat) + (1 : Nat) + (1 : Nat) +
  (1 : Nat))) =
  some (Value.slice q42 k83 k84)) ∧
  ∀ (w49 : World),
  h6 w49 →
  World.cell? w49
  (Addr.add a1
  ((0 : Nat) + (1 : Nat) + (1 : Nat) + (1 : Nat) + (1 : Nat) + (1 : Nat) + (1 : Nat) + (1 : Nat) + (1 : Nat) + (1 : Nat) +
  (1 : Nat) +
  (1 : Nat))) =
  some (Value.int IntKind.i64 n133)) ∧
  Rets Tryz.prog (37 : Nat) { toList := [Value.slice q38 k75 k76] } w37 fun (v169 : Value) (w50 : World) =>
  ∃ (q43 : Option Addr),
  ∃ (k85 : Nat),
  ∃ (k86 : Nat),
  v169 = Value.slice q43 k85 k86 ∧
  h6 w50 ∧
  Rets Tryz.prog (36 : Nat) { toList := [Value.slice q43 k85 k86, Value.slice q39 k77 k78] } w50
  fun (v170 : Value) (w51 : World) =>
  ∃ (b12 : Bool),
  v170 = Value.bool b12 ∧
  h6 w51 ∧
  StoreR a3
  [Value.slice q40 k79 k80, Value.int IntKind.i64 n125, Value.int IntKind.u64 n126, Value.slice q41 k81 k82,
  Value.int IntKind.u64 n127, Value.int IntKind.i64 n128, Value.int IntKind.i64 n129, Value.int IntKind.i64 n130,
  Value.int IntKind.i64 n131, Value.int IntKind.u64 n132, Value.slice q42 k83 k84, Value.int IntKind.i64 n133]
  w51 fun (w52 : World) => h5 [Value.bool b12] w52) ∧
  ((b10 == b11) = false →
  ∃ (q44 : Option Addr),
  ∃ (k87 : Nat),
  ∃ (k88 : Nat),
  ∃ (n134 : Int),
  ∃ (n135 : Int),
  ∃ (q45 : Option Addr),
  ∃ (k89 : Nat),
  ∃ (k90 : Nat),
  ∃ (n136 : Int),
  ∃ (n137 : Int),
  ∃ (n138 : Int),
  ∃ (n139 : Int),
  ∃ (n140 : Int),
  ∃ (n141 : Int),
  ∃ (q46 : Option Addr),
  ∃ (k91 : Nat),
  ∃ (k92 : Nat),
  ∃ (n142 : Int),
  ((∀ (w53 : World), h6 w53 → World.cell? w53 (Addr.add a1 (0 : Nat)) = some (Value.slice q44 k87 k88)) ∧
  (∀ (w54 : World), h6 w54 → World.cell? w54 (Addr.add a1 ((0 : Nat) + (1 : Nat))) = some (Value.int IntKind.i64 n134)) ∧
  (∀ (w55 : World),
  h6 w55 → World.cell? w55 (Addr.add a1 ((0 : Nat) + (1 : Nat) + (1 : Nat))) = some (Value.int IntKind.u64 n135)) ∧
  (∀ (w56 : World),
  h6 w56 →
  World.cell? w56 (Addr.add a1 ((0 : Nat) + (1 : Nat) + (1 : Nat) + (1 : Nat))) = some (Value.slice q45 k89 k90)) ∧
  (∀ (w57 : World),
  h6 w57 →
  World.cell? w57 (Addr.add a1 ((0 : Nat) + (1 : Nat) + (1 : Nat) + (1 : Nat) + (1 : Nat))) =
  some (Value.int IntKind.u64 n136)) ∧
  (∀ (w58 : World),
  h6 w58 →
  World.cell? w58 (Addr.add a1 ((0 : Nat) + (1 : Nat) + (1 : Nat) + (1 : Nat) + (1 : Nat) + (1 : Nat))) =
  some (Value.int IntKind.i64 n137)) ∧
  (∀ (w59 : World),
  h6 w59 →
  World.cell? w59 (Addr.add a1 ((0 : Nat) + (1 : Nat) + (1 : Nat) + (1 : Nat) + (1 : Nat) + (1 : Nat) + (1 : Nat))) =
  some (Value.int IntKind.i64 n138)) ∧
  (∀ (w60 : World),
  h6 w60 →
  World.cell? w60
  (Addr.add a1 ((0 : Nat) + (1 : Nat) + (1 : Nat) + (1 : Nat) + (1 : Nat) + (1 : Nat) + (1 : Nat) + (1 : Nat))) =
  some (Value.int IntKind.i64 n139)) ∧
  (∀ (w61 : World),
  h6 w61 →
  World.cell? w61
  (Addr.add a1
  ((0 : Nat) + (1 : Nat) + (1 : Nat) + (1 : Nat) + (1 : Nat) + (1 : Nat) + (1 : Nat) + (1 : Nat) + (1 : Nat))) =
  some (Value.int IntKind.i64 n140)) ∧
  (∀ (w62 : World),
  h6 w62 →
  World.cell? w62
  (Addr.add a1
  ((0 : Nat) + (1 : Nat) + (1 : Nat) + (1 : Nat) + (1 : Nat) + (1 : Nat) + (1 : Nat) + (1 : Nat) + (1 : Nat) +
  (1 : Nat))) =
  some (Value.int IntKind.u64 n141)) ∧
  (∀ (w63 : World),
  h6 w63 →
  World.cell? w63
  (Addr.add a1
  ((0 : Nat) + (1 : Nat) + (1 : Nat) + (1 : Nat) + (1 : Nat) + (1 : Nat) + (1 : Nat) + (1 : Nat) + (1 : Nat) + (1 : Nat) +
  (1 : Nat))) =
  some (Value.slice q46 k91 k92)) ∧
  ∀ (w64 : World),
  h6 w64 →
  World.cell? w64
  (Addr.add a1
  ((0 : Nat) + (1 : Nat) + (1 : Nat) + (1 : Nat) + (1 : Nat) + (1 : Nat) + (1 : Nat) + (1 : Nat) + (1 : Nat) + (1 : Nat) +
  (1 : Nat) +
  (1 : Nat))) =
  some (Value.int IntKind.i64 n142)) ∧
  StoreR a3
  [Value.slice q44 k87 k88, Value.int IntKind.i64 n134, Value.int IntKind.u64 n135, Value.slice q45 k89 k90,
  Value.int IntKind.u64 n136, Value.int IntKind.i64 n137, Value.int IntKind.i64 n138, Value.int IntKind.i64 n139,
  Value.int IntKind.i64 n140, Value.int IntKind.u64 n141, Value.slice q46 k91 k92, Value.int IntKind.i64 n142]
  w37 fun (w65 : World) => h5 [Value.bool false] w65)) ∧
  ∀ (w66 : World) (b13 : Bool) (v171 v172 v173 v174 v175 v176 v177 v178 v179 v180 : Value),
  h5 [Value.bool b13] w66 →
  ∃ (q47 : Option Addr),
  ∃ (k93 : Nat),
  ∃ (k94 : Nat),
  ∃ (n143 : Int),
  ∃ (n144 : Int),
  ∃ (q48 : Option Addr),
  ∃ (k95 : Nat),
  ∃ (k96 : Nat),
  ∃ (n145 : Int),
  ∃ (n146 : Int),
  ∃ (n147 : Int),
  ∃ (n148 : Int),
  ∃ (n149 : Int),
  ∃ (n150 : Int),
  ∃ (q49 : Option Addr),
  ∃ (k97 : Nat),
  ∃ (k98 : Nat),
  ∃ (n151 : Int),
  (cellAt w66 (Addr.add a3 (0 : Nat)) (Value.slice q47 k93 k94) ∧
  cellAt w66 (Addr.add a3 (1 : Nat)) (Value.int IntKind.i64 n143) ∧
  cellAt w66 (Addr.add a3 (2 : Nat)) (Value.int IntKind.u64 n144) ∧
  cellAt w66 (Addr.add a3 (3 : Nat)) (Value.slice q48 k95 k96) ∧
  cellAt w66 (Addr.add a3 (4 : Nat)) (Value.int IntKind.u64 n145) ∧
  cellAt w66 (Addr.add a3 (5 : Nat)) (Value.int IntKind.i64 n146) ∧
  cellAt w66 (Addr.add a3 (6 : Nat)) (Value.int IntKind.i64 n147) ∧
  cellAt w66 (Addr.add a3 (7 : Nat)) (Value.int IntKind.i64 n148) ∧
  cellAt w66 (Addr.add a3 (8 : Nat)) (Value.int IntKind.i64 n149) ∧
  cellAt w66 (Addr.add a3 (9 : Nat)) (Value.int IntKind.u64 n150) ∧
  cellAt w66 (Addr.add a3 (10 : Nat)) (Value.slice q49 k97 k98) ∧
  cellAt w66 (Addr.add a3 (11 : Nat)) (Value.int IntKind.i64 n151)) ∧
  K
  (Value.tuple
  {
  toList :=
  [Value.agg
  {
  toList :=
  [Value.slice q47 k93 k94, Value.int IntKind.i64 n143, Value.int IntKind.u64 n144, Value.slice q48 k95 k96,
  Value.int IntKind.u64 n145, Value.int IntKind.i64 n146, Value.int IntKind.i64 n147, Value.int IntKind.i64 n148,
  Value.int IntKind.i64 n149, Value.int IntKind.u64 n150, Value.slice q49 k97 k98, Value.int IntKind.i64 n151] },
  Value.bool b13] })
  w66
theorem cortadolaw26_do_eq (gp : Nat) (q1 : Option Addr) (l1 c1 : Nat) (wd s1 : Int) (q2 : Option Addr) (l2 c2 : Nat) (s2 ct lim ag ks sd : Int) (q3 : Option Addr) (l3 c3 : Nat) (mo : Int) (kd hh nn : Int) (gd gy : Nat) (w : World) (K : Value → World → Prop) : fw Tryz.prog Tryz.f9 (annL [(1, [(12, some 68), (13, some 81), (14, some 4), (15, some 4), (16, none), (17, none), (18, none), (19, none), (23, none), (24, none), (25, none), (26, none), (27, none), (28, none), (29, none), (30, none), (31, none), (32, none), (33, none), (34, none), (35, none), (36, none), (37, none), (38, none), (39, none), (40, none), (41, none), (42, none), (43, none), (46, none), (47, none), (48, none), (49, none), (50, none), (51, none), (52, none), (53, none), (54, none), (55, none), (56, none), (57, none), (58, none), (59, none), (60, none), (61, none), (62, none), (63, none), (64, none), (65, none), (66, none), (67, none), (68, none), (69, none), (70, none), (71, none), (72, none), (73, none), (74, none), (75, none), (76, none), (77, none), (78, none), (79, none), (80, none), (81, none), (82, none), (83, none), (84, none), (85, none), (86, none), (87, none), (88, none), (89, none), (90, none), (91, none), (92, none), (93, none), (94, none), (95, none), (96, none), (97, none), (98, none), (99, none), (100, none), (101, none), (102, none), (103, none), (104, none), (105, none), (106, none), (107, none), (108, none), (109, none), (110, none), (111, none), (112, none), (113, none), (114, none), (115, none), (116, none), (117, none), (118, none), (119, none), (120, none), (121, none), (122, none), (123, none), (124, none), (125, none), (126, none), (127, none), (128, none), (129, none), (130, none), (131, none), (132, none), (133, none), (134, none), (135, none), (136, none), (137, none), (138, none), (139, none), (140, none), (141, none), (142, none), (143, none), (144, none), (145, none), (146, none), (147, none), (148, none), (149, none), (150, none), (151, none), (152, none), (153, none)])]) (ordL [(2000014, [(14, 5), (90, 0), (91, 0), (92, 0), (93, 0), (94, 0), (95, 0), (96, 0), (97, 0)]), (2000024, [(142, 0), (143, 0), (144, 0), (145, 0), (146, 0), (147, 0), (148, 0), (149, 0), (150, 0), (151, 0), (152, 0), (153, 0)]), (24, [(0, 0), (1, 0), (3, 0), (4, 0), (7, 0), (8, 0), (2, 1), (5, 1), (9, 1), (10, 0), (6, 2), (11, 0), (12, 3)]), (2000025, [(11, 5), (154, 0), (155, 0), (156, 0), (157, 0), (158, 0), (159, 0), (160, 0), (161, 0), (162, 0), (163, 0)]), (25, [(1, 0), (2, 0), (3, 0), (4, 0), (5, 0), (7, 0), (0, 1), (6, 2), (8, 2), (9, 0), (10, 3), (11, 0)])]) [.pointer (some ⟨gp, 0, none⟩), .agg #[.slice q1 l1 c1, .int .i64 wd, .int .u64 s1, .slice q2 l2 c2, .int .u64 s2, .int .i64 ct, .int .i64 lim, .int .i64 ag, .int .i64 ks, .int .u64 sd, .slice q3 l3 c3, .int .i64 mo], .agg #[.int .u64 kd, .int .u64 hh, .int .i64 nn], .pointer (some ⟨gd, 0, none⟩), .pointer (some ⟨gy, 0, none⟩)] w K = cortadolaw26_do_m gp q1 l1 c1 wd s1 q2 l2 c2 s2 ct lim ag ks sd q3 l3 c3 mo kd hh nn gd gy w K := by kernel_rfl
theorem cortadolaw26_do_go (gp : Nat) (q1 : Option Addr) (l1 c1 : Nat) (wd s1 : Int) (q2 : Option Addr) (l2 c2 : Nat) (s2 ct lim ag ks sd : Int) (q3 : Option Addr) (l3 c3 : Nat) (mo : Int) (kd hh nn : Int) (gd gy : Nat) {w : World} {K : Value → World → Prop} (h : cortadolaw26_do_m gp q1 l1 c1 wd s1 q2 l2 c2 s2 ct lim ag ks sd q3 l3 c3 mo kd hh nn gd gy w K) : Rets Tryz.prog 9 #[.pointer (some ⟨gp, 0, none⟩), .agg #[.slice q1 l1 c1, .int .i64 wd, .int .u64 s1, .slice q2 l2 c2, .int .u64 s2, .int .i64 ct, .int .i64 lim, .int .i64 ag, .int .i64 ks, .int .u64 sd, .slice q3 l3 c3, .int .i64 mo], .agg #[.int .u64 kd, .int .u64 hh, .int .i64 nn], .pointer (some ⟨gd, 0, none⟩), .pointer (some ⟨gy, 0, none⟩)] w K :=
  calls_of_fw plain mixed Tryz.func9 (by kernel_rfl) (by rw [cortadolaw26_do_eq]; exact h)
end Go.Proofs.YtggflkjdgcdcmaaGreatDoor.Eng
