/- What the code of these functions asks for: printed by a program of this session's (gens.py) out of the seat's own functions; the kernel checks each row. -/
import Derived.Test.YtipcbhaeoeghnaaEngH
import Derived.Test.YtipcbhaeoeghnaaProg
import Derived.Test.YtipcbhaeoeghnaaBase
namespace Go.Proofs.Ytipcbhaeoeghnaa.Eng
open Go Go.Proofs
set_option linter.unusedVariables false
set_option maxRecDepth 1000000
def rfOffer_m (q : Option Addr) (l c0 : Nat) (room sent full : Int) (k p c v n e o u d : Int) (w : World) (K : Value → World → Prop) : Prop :=
  NewR (74 : Nat) [Value.slice q l c0, Value.int IntKind.i64 room, Value.int IntKind.i64 sent, Value.int IntKind.i64 full]
  w fun (a1 : Addr) (w1 : World) =>
  NewR (80 : Nat)
  [Value.int IntKind.i64 k, Value.int IntKind.u64 p, Value.int IntKind.u64 c, Value.int IntKind.i64 v,
  Value.int IntKind.i64 n, Value.int IntKind.i64 e, Value.int IntKind.i64 o, Value.int IntKind.i64 u,
  Value.int IntKind.i64 d]
  w1 fun (a2 : Addr) (w2 : World) =>
  NewR (74 : Nat)
  [Value.slice none (0 : Nat) (0 : Nat), Value.int IntKind.i64 (0 : Int), Value.int IntKind.i64 (0 : Int),
  Value.int IntKind.i64 (0 : Int)]
  w2 fun (a3 : Addr) (w3 : World) =>
  ∃ (h1 : List Value → World → Prop),
  (∃ (n1 : Int),
  cellAt w3 (Addr.add a2 (0 : Nat)) (Value.int IntKind.i64 n1) ∧
  (decide (n1 < (1 : Int)) = false →
  ∃ (n2 : Int),
  cellAt w3 (Addr.add a2 (0 : Nat)) (Value.int IntKind.i64 n2) ∧ h1 [Value.bool (decide (n2 > (6 : Int)))] w3) ∧
  (decide (n1 < (1 : Int)) = true → h1 [Value.bool true] w3)) ∧
  ∀ (w4 : World) (v1 v2 v3 v4 v5 v6 v7 : Value) (b1 : Bool),
  h1 [Value.bool b1] w4 →
  (b1 = true →
  ∃ (q1 : Option Addr),
  ∃ (k1 : Nat),
  ∃ (k2 : Nat),
  ∃ (n3 : Int),
  ∃ (n4 : Int),
  ∃ (n5 : Int),
  (cellAt w4 (Addr.add a1 (0 : Nat)) (Value.slice q1 k1 k2) ∧
  cellAt w4 (Addr.add a1 (1 : Nat)) (Value.int IntKind.i64 n3) ∧
  cellAt w4 (Addr.add a1 (2 : Nat)) (Value.int IntKind.i64 n4) ∧
  cellAt w4 (Addr.add a1 (3 : Nat)) (Value.int IntKind.i64 n5)) ∧
  StoreR a3 [Value.slice q1 k1 k2, Value.int IntKind.i64 n3, Value.int IntKind.i64 n4, Value.int IntKind.i64 n5] w4
  fun (w5 : World) =>
  ∃ (q2 : Option Addr),
  ∃ (k3 : Nat),
  ∃ (k4 : Nat),
  ∃ (n6 : Int),
  ∃ (n7 : Int),
  ∃ (n8 : Int),
  (cellAt w5 (Addr.add a3 (0 : Nat)) (Value.slice q2 k3 k4) ∧
  cellAt w5 (Addr.add a3 (1 : Nat)) (Value.int IntKind.i64 n6) ∧
  cellAt w5 (Addr.add a3 (2 : Nat)) (Value.int IntKind.i64 n7) ∧
  cellAt w5 (Addr.add a3 (3 : Nat)) (Value.int IntKind.i64 n8)) ∧
  K
  (Value.tuple
  {
  toList :=
  [Value.agg
  { toList := [Value.slice q2 k3 k4, Value.int IntKind.i64 n6, Value.int IntKind.i64 n7, Value.int IntKind.i64 n8] },
  Value.bool false] })
  w5) ∧
  (b1 = false →
  ∃ (q3 : Option Addr),
  ∃ (k5 : Nat),
  ∃ (k6 : Nat),
  cellAt w4 (Addr.add a1 (0 : Nat)) (Value.slice q3 k5 k6) ∧
  ∃ (n9 : Int),
  cellAt w4 (Addr.add a1 (1 : Nat)) (Value.int IntKind.i64 n9) ∧
  (decide ((↑k5 : Int) ≥ n9) = true →
  ∃ (n10 : Int),
  cellAt w4 (Addr.add a1 (3 : Nat)) (Value.int IntKind.i64 n10) ∧
  StoreR (Addr.add a1 (3 : Nat)) [Value.int IntKind.i64 (IntKind.wrap IntKind.i64 (n10 + (1 : Int)))] w4
  fun (w6 : World) =>
  ∃ (q4 : Option Addr),
  ∃ (k7 : Nat),
  ∃ (k8 : Nat),
  ∃ (n11 : Int),
  ∃ (n12 : Int),
  ∃ (n13 : Int),
  (cellAt w6 (Addr.add a1 (0 : Nat)) (Value.slice q4 k7 k8) ∧
  cellAt w6 (Addr.add a1 (1 : Nat)) (Value.int IntKind.i64 n11) ∧
  cellAt w6 (Addr.add a1 (2 : Nat)) (Value.int IntKind.i64 n12) ∧
  cellAt w6 (Addr.add a1 (3 : Nat)) (Value.int IntKind.i64 n13)) ∧
  StoreR a3 [Value.slice q4 k7 k8, Value.int IntKind.i64 n11, Value.int IntKind.i64 n12, Value.int IntKind.i64 n13] w6
  fun (w7 : World) =>
  ∃ (q5 : Option Addr),
  ∃ (k9 : Nat),
  ∃ (k10 : Nat),
  ∃ (n14 : Int),
  ∃ (n15 : Int),
  ∃ (n16 : Int),
  (cellAt w7 (Addr.add a3 (0 : Nat)) (Value.slice q5 k9 k10) ∧
  cellAt w7 (Addr.add a3 (1 : Nat)) (Value.int IntKind.i64 n14) ∧
  cellAt w7 (Addr.add a3 (2 : Nat)) (Value.int IntKind.i64 n15) ∧
  cellAt w7 (Addr.add a3 (3 : Nat)) (Value.int IntKind.i64 n16)) ∧
  K
  (Value.tuple
  {
  toList :=
  [Value.agg
  { toList := [Value.slice q5 k9 k10, Value.int IntKind.i64 n14, Value.int IntKind.i64 n15, Value.int IntKind.i64 n16] },
  Value.bool false] })
  w7) ∧
  (decide ((↑k5 : Int) ≥ n9) = false →
  ∃ (h2 : List Value → World → Prop),
  (Drw w4 fun (w8 : World) =>
  ∃ (h3 : World → Prop),
  h3 w8 ∧
  ∃ (q6 : Option Addr),
  ∃ (k11 : Nat),
  ∃ (k12 : Nat),
  (∀ (w9 : World), h3 w9 → World.cell? w9 (Addr.add a1 (0 : Nat)) = some (Value.slice q6 k11 k12)) ∧
  ∃ (n17 : Int),
  ∃ (n18 : Int),
  ∃ (n19 : Int),
  ∃ (n20 : Int),
  ∃ (n21 : Int),
  ∃ (n22 : Int),
  ∃ (n23 : Int),
  ∃ (n24 : Int),
  ∃ (n25 : Int),
  ((∀ (w10 : World), h3 w10 → World.cell? w10 (Addr.add a2 (0 : Nat)) = some (Value.int IntKind.i64 n17)) ∧
  (∀ (w11 : World), h3 w11 → World.cell? w11 (Addr.add a2 ((0 : Nat) + (1 : Nat))) = some (Value.int IntKind.u64 n18)) ∧
  (∀ (w12 : World),
  h3 w12 → World.cell? w12 (Addr.add a2 ((0 : Nat) + (1 : Nat) + (1 : Nat))) = some (Value.int IntKind.u64 n19)) ∧
  (∀ (w13 : World),
  h3 w13 →
  World.cell? w13 (Addr.add a2 ((0 : Nat) + (1 : Nat) + (1 : Nat) + (1 : Nat))) = some (Value.int IntKind.i64 n20)) ∧
  (∀ (w14 : World),
  h3 w14 →
  World.cell? w14 (Addr.add a2 ((0 : Nat) + (1 : Nat) + (1 : Nat) + (1 : Nat) + (1 : Nat))) =
  some (Value.int IntKind.i64 n21)) ∧
  (∀ (w15 : World),
  h3 w15 →
  World.cell? w15 (Addr.add a2 ((0 : Nat) + (1 : Nat) + (1 : Nat) + (1 : Nat) + (1 : Nat) + (1 : Nat))) =
  some (Value.int IntKind.i64 n22)) ∧
  (∀ (w16 : World),
  h3 w16 →
  World.cell? w16 (Addr.add a2 ((0 : Nat) + (1 : Nat) + (1 : Nat) + (1 : Nat) + (1 : Nat) + (1 : Nat) + (1 : Nat))) =
  some (Value.int IntKind.i64 n23)) ∧
  (∀ (w17 : World),
  h3 w17 →
  World.cell? w17
  (Addr.add a2 ((0 : Nat) + (1 : Nat) + (1 : Nat) + (1 : Nat) + (1 : Nat) + (1 : Nat) + (1 : Nat) + (1 : Nat))) =
  some (Value.int IntKind.i64 n24)) ∧
  ∀ (w18 : World),
  h3 w18 →
  World.cell? w18
  (Addr.add a2
  ((0 : Nat) + (1 : Nat) + (1 : Nat) + (1 : Nat) + (1 : Nat) + (1 : Nat) + (1 : Nat) + (1 : Nat) + (1 : Nat))) =
  some (Value.int IntKind.i64 n25)) ∧
  ∃ (n26 : Int),
  (∀ (w19 : World), h3 w19 → World.cell? w19 (Addr.add a1 (1 : Nat)) = some (Value.int IntKind.i64 n26)) ∧
  ∃ (n27 : Int),
  (∀ (w20 : World), h3 w20 → World.cell? w20 (Addr.add a1 (2 : Nat)) = some (Value.int IntKind.i64 n27)) ∧
  ∃ (n28 : Int),
  (∀ (w21 : World), h3 w21 → World.cell? w21 (Addr.add a1 (3 : Nat)) = some (Value.int IntKind.i64 n28)) ∧
  (NewR (80 : Nat) [] w8 fun (a4 : Addr) (w22 : World) =>
  h3 w22 ∧
  (RunR Try.prog
  (builtinV Builtin.append { toList := [(70 : Nat), (70 : Nat)] } (nat_lit 70)
  { toList := [Value.slice (some a4) (0 : Nat) (0 : Nat), Value.slice q6 k11 k12] })
  w22 fun (v8 : Value) (w23 : World) =>
  ∃ (q7 : Option Addr),
  ∃ (k13 : Nat),
  ∃ (k14 : Nat),
  v8 = Value.slice q7 k13 k14 ∧
  h3 w23 ∧
  NewR (80 : Nat)
  [Value.int IntKind.i64 n17, Value.int IntKind.u64 n18, Value.int IntKind.u64 n19, Value.int IntKind.i64 n20,
  Value.int IntKind.i64 n21, Value.int IntKind.i64 n22, Value.int IntKind.i64 n23, Value.int IntKind.i64 n24,
  Value.int IntKind.i64 n25]
  w23 fun (a5 : Addr) (w24 : World) =>
  h3 w24 ∧
  RunR Try.prog
  (builtinV Builtin.append { toList := [(70 : Nat), (70 : Nat)] } (nat_lit 70)
  { toList := [Value.slice q7 k13 k14, Value.slice (some a5) (1 : Nat) (1 : Nat)] })
  w24 fun (v9 : Value) (w25 : World) =>
  ∃ (q8 : Option Addr),
  ∃ (k15 : Nat),
  ∃ (k16 : Nat),
  v9 = Value.slice q8 k15 k16 ∧
  h3 w25 ∧
  StoreR a3
  [Value.slice q8 k15 k16, Value.int IntKind.i64 n26, Value.int IntKind.i64 (IntKind.wrap IntKind.i64 (n27 + (1 : Int))),
  Value.int IntKind.i64 n28]
  w25 fun (w26 : World) => h2 [Value.bool true] w26) ∧
  NewR (80 : Nat)
  [Value.int IntKind.i64 n17, Value.int IntKind.u64 n18, Value.int IntKind.u64 n19, Value.int IntKind.i64 n20,
  Value.int IntKind.i64 n21, Value.int IntKind.i64 n22, Value.int IntKind.i64 n23, Value.int IntKind.i64 n24,
  Value.int IntKind.i64 n25]
  w22 fun (a6 : Addr) (w27 : World) =>
  h3 w27 ∧
  RunR Try.prog
  (builtinV Builtin.append { toList := [(70 : Nat), (70 : Nat)] } (nat_lit 70)
  { toList := [Value.slice (some a4) (0 : Nat) (0 : Nat), Value.slice q6 k11 k12] })
  w27 fun (v10 : Value) (w28 : World) =>
  ∃ (q9 : Option Addr),
  ∃ (k17 : Nat),
  ∃ (k18 : Nat),
  v10 = Value.slice q9 k17 k18 ∧
  h3 w28 ∧
  RunR Try.prog
  (builtinV Builtin.append { toList := [(70 : Nat), (70 : Nat)] } (nat_lit 70)
  { toList := [Value.slice q9 k17 k18, Value.slice (some a6) (1 : Nat) (1 : Nat)] })
  w28 fun (v11 : Value) (w29 : World) =>
  ∃ (q10 : Option Addr),
  ∃ (k19 : Nat),
  ∃ (k20 : Nat),
  v11 = Value.slice q10 k19 k20 ∧
  h3 w29 ∧
  StoreR a3
  [Value.slice q10 k19 k20, Value.int IntKind.i64 n26, Value.int IntKind.i64 (IntKind.wrap IntKind.i64 (n27 + (1 : Int))),
  Value.int IntKind.i64 n28]
  w29 fun (w30 : World) => h2 [Value.bool true] w30) ∧
  NewR (80 : Nat)
  [Value.int IntKind.i64 n17, Value.int IntKind.u64 n18, Value.int IntKind.u64 n19, Value.int IntKind.i64 n20,
  Value.int IntKind.i64 n21, Value.int IntKind.i64 n22, Value.int IntKind.i64 n23, Value.int IntKind.i64 n24,
  Value.int IntKind.i64 n25]
  w8 fun (a7 : Addr) (w31 : World) =>
  h3 w31 ∧
  NewR (80 : Nat) [] w31 fun (a8 : Addr) (w32 : World) =>
  h3 w32 ∧
  RunR Try.prog
  (builtinV Builtin.append { toList := [(70 : Nat), (70 : Nat)] } (nat_lit 70)
  { toList := [Value.slice (some a8) (0 : Nat) (0 : Nat), Value.slice q6 k11 k12] })
  w32 fun (v12 : Value) (w33 : World) =>
  ∃ (q11 : Option Addr),
  ∃ (k21 : Nat),
  ∃ (k22 : Nat),
  v12 = Value.slice q11 k21 k22 ∧
  h3 w33 ∧
  RunR Try.prog
  (builtinV Builtin.append { toList := [(70 : Nat), (70 : Nat)] } (nat_lit 70)
  { toList := [Value.slice q11 k21 k22, Value.slice (some a7) (1 : Nat) (1 : Nat)] })
  w33 fun (v13 : Value) (w34 : World) =>
  ∃ (q12 : Option Addr),
  ∃ (k23 : Nat),
  ∃ (k24 : Nat),
  v13 = Value.slice q12 k23 k24 ∧
  h3 w34 ∧
  StoreR a3
  [Value.slice q12 k23 k24, Value.int IntKind.i64 n26, Value.int IntKind.i64 (IntKind.wrap IntKind.i64 (n27 + (1 : Int))),
  Value.int IntKind.i64 n28]
  w34 fun (w35 : World) => h2 [Value.bool true] w35) ∧
  ∀ (w36 : World) (b2 : Bool) (v14 v15 v16 v17 v18 v19 v20 v21 v22 v23 v24 v25 v26 v27 v28 : Value),
  h2 [Value.bool b2] w36 →
  ∃ (q13 : Option Addr),
  ∃ (k25 : Nat),
  ∃ (k26 : Nat),
  ∃ (n29 : Int),
  ∃ (n30 : Int),
  ∃ (n31 : Int),
  (cellAt w36 (Addr.add a3 (0 : Nat)) (Value.slice q13 k25 k26) ∧
  cellAt w36 (Addr.add a3 (1 : Nat)) (Value.int IntKind.i64 n29) ∧
  cellAt w36 (Addr.add a3 (2 : Nat)) (Value.int IntKind.i64 n30) ∧
  cellAt w36 (Addr.add a3 (3 : Nat)) (Value.int IntKind.i64 n31)) ∧
  K
  (Value.tuple
  {
  toList :=
  [Value.agg
  {
  toList := [Value.slice q13 k25 k26, Value.int IntKind.i64 n29, Value.int IntKind.i64 n30, Value.int IntKind.i64 n31] },
  Value.bool b2] })
  w36))
theorem rfOffer_eq (q : Option Addr) (l c0 : Nat) (room sent full : Int) (k p c v n e o u d : Int) (w : World) (K : Value → World → Prop) : fw Try.prog Try.f44 (annL []) (ordL [(2000001, [(6, 0), (7, 0), (8, 0), (9, 0), (10, 0), (11, 0), (12, 0), (13, 5)]), (2000006, [(5, 5), (26, 0), (27, 0), (28, 0), (29, 0), (30, 0), (31, 0), (32, 0), (33, 0), (34, 0), (35, 0), (36, 0), (37, 0), (38, 0), (39, 0), (40, 0)]), (6, [(1, 0), (7, 0), (9, 0), (12, 0), (2, 1), (4, 1), (8, 1), (10, 1), (11, 0), (13, 1), (0, 6), (0, 2), (0, 6), (3, 2), (5, 2), (6, 2), (14, 0), (15, 3), (16, 0), (0, 7), (5, 2), (3, 2), (6, 2), (14, 0), (15, 3), (16, 0), (0, 7), (5, 2), (0, 2), (3, 2), (6, 2), (14, 0), (15, 3), (16, 0), (0, 7)])]) [.agg #[.slice q l c0, .int .i64 room, .int .i64 sent, .int .i64 full], .agg #[.int .i64 k, .int .u64 p, .int .u64 c, .int .i64 v, .int .i64 n, .int .i64 e, .int .i64 o, .int .i64 u, .int .i64 d]] w K = rfOffer_m q l c0 room sent full k p c v n e o u d w K := by kernel_rfl
theorem rfOffer_go (q : Option Addr) (l c0 : Nat) (room sent full : Int) (k p c v n e o u d : Int) {w : World} {K : Value → World → Prop} (h : rfOffer_m q l c0 room sent full k p c v n e o u d w K) : Rets Try.prog 44 #[.agg #[.slice q l c0, .int .i64 room, .int .i64 sent, .int .i64 full], .agg #[.int .i64 k, .int .u64 p, .int .u64 c, .int .i64 v, .int .i64 n, .int .i64 e, .int .i64 o, .int .i64 u, .int .i64 d]] w K :=
  calls_of_fw plain mixed Try.func44 (by kernel_rfl) (by rw [rfOffer_eq]; exact h)
end Go.Proofs.Ytipcbhaeoeghnaa.Eng
