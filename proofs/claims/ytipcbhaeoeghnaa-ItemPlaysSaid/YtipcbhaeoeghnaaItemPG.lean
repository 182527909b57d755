/- What the code of these functions asks for: printed by a program of this session's (gens.py) out of the seat's own functions; the kernel checks each row. -/
import Derived.Test.YtipcbhaeoeghnaaEngH
import Derived.Test.YtipcbhaeoeghnaaProg
import Derived.Test.YtipcbhaeoeghnaaBase
namespace Go.Proofs.Ytipcbhaeoeghnaa.Eng
open Go Go.Proofs
set_option linter.unusedVariables false
set_option maxRecDepth 1000000
def cortadolaw28_ItemPlays_m (room : Int) (q : Option Addr) (l c : Nat) (kind : Int) (w : World) (K : Value → World → Prop) : Prop :=
  NewR (4 : Nat) [Value.bool false] w fun (a1 : Addr) (w1 : World) =>
  (decide ((↑l : Int) > (60 : Int)) = true →
  Rets Try.prog (39 : Nat) { toList := [] } w1 fun (v1 : Value) (w2 : World) =>
  ∃ (b1 : Bool),
  v1 = Value.bool b1 ∧
  StoreR a1 [Value.bool b1] w2 fun (w3 : World) => ∃ (b2 : Bool), cellAt w3 a1 (Value.bool b2) ∧ K (Value.bool b2) w3) ∧
  (decide ((↑l : Int) > (60 : Int)) = false →
  Rets Try.prog (40 : Nat) { toList := [Value.int IntKind.i64 room] } w1 fun (v2 : Value) (w4 : World) =>
  ∃ (q1 : Option Addr),
  v2 = Value.pointer q1 ∧
  Rets Try.prog (41 : Nat) { toList := [Value.int IntKind.i64 room] } w4 fun (v3 : Value) (w5 : World) =>
  ∃ (q2 : Option Addr),
  ∃ (k1 : Nat),
  ∃ (k2 : Nat),
  ∃ (n1 : Int),
  ∃ (n2 : Int),
  ∃ (n3 : Int),
  v3 =
  Value.agg
  { toList := [Value.slice q2 k1 k2, Value.int IntKind.i64 n1, Value.int IntKind.i64 n2, Value.int IntKind.i64 n3] } ∧
  NewR (74 : Nat)
  [Value.slice none (0 : Nat) (0 : Nat), Value.int IntKind.i64 (0 : Int), Value.int IntKind.i64 (0 : Int),
  Value.int IntKind.i64 (0 : Int)]
  w5 fun (a2 : Addr) (w6 : World) =>
  StoreR a2 [Value.slice q2 k1 k2, Value.int IntKind.i64 n1, Value.int IntKind.i64 n2, Value.int IntKind.i64 n3] w6
  fun (w7 : World) =>
  ∃ (h1 : Nat → List Value → World → Prop),
  (∃ (k3 : Nat), h1 k3 [Value.int IntKind.i64 (0 : Int)] w7) ∧
  ∀ (k4 : Nat) (w8 : World) (n4 : Int)
  (v4 v5 v6 v7 v8 v9 v10 v11 v12 v13 v14 v15 v16 v17 v18 v19 v20 v21 v22 v23 v24 v25 v26 v27 v28 v29 v30 v31 v32 v33 v34
  v35 v36 v37 v38 v39 v40 v41 v42 v43 v44 v45 v46 v47 v48 v49 v50 v51 v52 v53 v54 v55 v56 v57 v58 v59 v60 v61 v62 v63 v64
  v65 v66 v67 v68 v69 v70 v71 v72 v73 v74 v75 v76 v77 v78 v79 v80 v81 v82 v83 v84 v85 v86 v87 v88 v89 v90 v91 v92 v93 v94
  v95 v96 v97 v98 v99 v100 v101 v102 v103 v104 v105 v106 v107 v108 v109 v110 v111 v112 v113 v114 v115 v116 v117 v118 v119
  v120 v121 v122 v123 v124 : Value),
  h1 k4 [Value.int IntKind.i64 n4] w8 →
  (decide (n4 < (↑l : Int)) = true →
  (0 : Int) ≤ n4 ∧
  n4 < (↑l : Int) ∧
  someR q fun (a3 : Addr) =>
  ∃ (n5 : Int),
  cellAt w8 (Addr.add (Addr.add a3 (Int.toNat n4 * (9 : Nat))) (8 : Nat)) (Value.int IntKind.i64 n5) ∧
  ∃ (h2 : List Value → World → Prop),
  ((decide (n5 < (0 : Int)) = true →
  ∃ (q3 : Option Addr),
  ∃ (k5 : Nat),
  ∃ (k6 : Nat),
  ∃ (n6 : Int),
  ∃ (n7 : Int),
  ∃ (n8 : Int),
  (cellAt w8 (Addr.add a2 (0 : Nat)) (Value.slice q3 k5 k6) ∧
  cellAt w8 (Addr.add a2 (1 : Nat)) (Value.int IntKind.i64 n6) ∧
  cellAt w8 (Addr.add a2 (2 : Nat)) (Value.int IntKind.i64 n7) ∧
  cellAt w8 (Addr.add a2 (3 : Nat)) (Value.int IntKind.i64 n8)) ∧
  Rets Try.prog (42 : Nat)
  {
  toList :=
  [Value.agg
  { toList := [Value.slice q3 k5 k6, Value.int IntKind.i64 n6, Value.int IntKind.i64 n7, Value.int IntKind.i64 n8] }] }
  w8 fun (v125 : Value) (w9 : World) =>
  ∃ (q4 : Option Addr),
  ∃ (k7 : Nat),
  ∃ (k8 : Nat),
  ∃ (n9 : Int),
  ∃ (n10 : Int),
  ∃ (n11 : Int),
  ∃ (n12 : Int),
  ∃ (n13 : Int),
  ∃ (n14 : Int),
  ∃ (n15 : Int),
  ∃ (n16 : Int),
  ∃ (n17 : Int),
  ∃ (n18 : Int),
  ∃ (n19 : Int),
  ∃ (n20 : Int),
  ∃ (b3 : Bool),
  v125 =
  Value.tuple
  {
  toList :=
  [Value.agg
  { toList := [Value.slice q4 k7 k8, Value.int IntKind.i64 n9, Value.int IntKind.i64 n10, Value.int IntKind.i64 n11] },
  Value.agg
  {
  toList :=
  [Value.int IntKind.i64 n12, Value.int IntKind.u64 n13, Value.int IntKind.u64 n14, Value.int IntKind.i64 n15,
  Value.int IntKind.i64 n16, Value.int IntKind.i64 n17, Value.int IntKind.i64 n18, Value.int IntKind.i64 n19,
  Value.int IntKind.i64 n20] },
  Value.bool b3] } ∧
  NewR (74 : Nat)
  [Value.slice none (0 : Nat) (0 : Nat), Value.int IntKind.i64 (0 : Int), Value.int IntKind.i64 (0 : Int),
  Value.int IntKind.i64 (0 : Int)]
  w9 fun (a4 : Addr) (w10 : World) =>
  NewR (80 : Nat)
  [Value.int IntKind.i64 (0 : Int), Value.int IntKind.u64 (0 : Int), Value.int IntKind.u64 (0 : Int),
  Value.int IntKind.i64 (0 : Int), Value.int IntKind.i64 (0 : Int), Value.int IntKind.i64 (0 : Int),
  Value.int IntKind.i64 (0 : Int), Value.int IntKind.i64 (0 : Int), Value.int IntKind.i64 (0 : Int)]
  w10 fun (a5 : Addr) (w11 : World) =>
  StoreR a4 [Value.slice q4 k7 k8, Value.int IntKind.i64 n9, Value.int IntKind.i64 n10, Value.int IntKind.i64 n11] w11
  fun (w12 : World) =>
  StoreR a5
  [Value.int IntKind.i64 n12, Value.int IntKind.u64 n13, Value.int IntKind.u64 n14, Value.int IntKind.i64 n15,
  Value.int IntKind.i64 n16, Value.int IntKind.i64 n17, Value.int IntKind.i64 n18, Value.int IntKind.i64 n19,
  Value.int IntKind.i64 n20]
  w12 fun (w13 : World) =>
  Rets Try.prog (43 : Nat) { toList := [Value.pointer q1] } w13 fun (v126 : Value) (w14 : World) =>
  ∃ (n21 : Int),
  ∃ (n22 : Int),
  ∃ (n23 : Int),
  ∃ (n24 : Int),
  ∃ (n25 : Int),
  ∃ (n26 : Int),
  ∃ (n27 : Int),
  ∃ (n28 : Int),
  ∃ (n29 : Int),
  ∃ (b4 : Bool),
  v126 =
  Value.tuple
  {
  toList :=
  [Value.agg
  {
  toList :=
  [Value.int IntKind.i64 n21, Value.int IntKind.u64 n22, Value.int IntKind.u64 n23, Value.int IntKind.i64 n24,
  Value.int IntKind.i64 n25, Value.int IntKind.i64 n26, Value.int IntKind.i64 n27, Value.int IntKind.i64 n28,
  Value.int IntKind.i64 n29] },
  Value.bool b4] } ∧
  NewR (83 : Nat)
  [Value.int IntKind.i64 (0 : Int), Value.int IntKind.u64 (0 : Int), Value.int IntKind.u64 (0 : Int),
  Value.int IntKind.i64 (0 : Int), Value.int IntKind.i64 (0 : Int), Value.int IntKind.i64 (0 : Int),
  Value.int IntKind.i64 (0 : Int), Value.int IntKind.i64 (0 : Int), Value.int IntKind.i64 (0 : Int)]
  w14 fun (a6 : Addr) (w15 : World) =>
  StoreR a6
  [Value.int IntKind.i64 n21, Value.int IntKind.u64 n22, Value.int IntKind.u64 n23, Value.int IntKind.i64 n24,
  Value.int IntKind.i64 n25, Value.int IntKind.i64 n26, Value.int IntKind.i64 n27, Value.int IntKind.i64 n28,
  Value.int IntKind.i64 n29]
  w15 fun (w16 : World) =>
  ∃ (q5 : Option Addr),
  ∃ (k9 : Nat),
  ∃ (k10 : Nat),
  ∃ (n30 : Int),
  ∃ (n31 : Int),
  ∃ (n32 : Int),
  (cellAt w16 (Addr.add a4 (0 : Nat)) (Value.slice q5 k9 k10) ∧
  cellAt w16 (Addr.add a4 (1 : Nat)) (Value.int IntKind.i64 n30) ∧
  cellAt w16 (Addr.add a4 (2 : Nat)) (Value.int IntKind.i64 n31) ∧
  cellAt w16 (Addr.add a4 (3 : Nat)) (Value.int IntKind.i64 n32)) ∧
  StoreR a2 [Value.slice q5 k9 k10, Value.int IntKind.i64 n30, Value.int IntKind.i64 n31, Value.int IntKind.i64 n32] w16
  fun (w17 : World) =>
  ∃ (h3 : List Value → World → Prop),
  (((!b4 == b3) = false →
  ∃ (n33 : Int),
  ∃ (n34 : Int),
  ∃ (n35 : Int),
  ∃ (n36 : Int),
  ∃ (n37 : Int),
  ∃ (n38 : Int),
  ∃ (n39 : Int),
  ∃ (n40 : Int),
  ∃ (n41 : Int),
  (cellAt w17 (Addr.add a6 (0 : Nat)) (Value.int IntKind.i64 n33) ∧
  cellAt w17 (Addr.add a6 (1 : Nat)) (Value.int IntKind.u64 n34) ∧
  cellAt w17 (Addr.add a6 (2 : Nat)) (Value.int IntKind.u64 n35) ∧
  cellAt w17 (Addr.add a6 (3 : Nat)) (Value.int IntKind.i64 n36) ∧
  cellAt w17 (Addr.add a6 (4 : Nat)) (Value.int IntKind.i64 n37) ∧
  cellAt w17 (Addr.add a6 (5 : Nat)) (Value.int IntKind.i64 n38) ∧
  cellAt w17 (Addr.add a6 (6 : Nat)) (Value.int IntKind.i64 n39) ∧
  cellAt w17 (Addr.add a6 (7 : Nat)) (Value.int IntKind.i64 n40) ∧
  cellAt w17 (Addr.add a6 (8 : Nat)) (Value.int IntKind.i64 n41)) ∧
  ∃ (n42 : Int),
  ∃ (n43 : Int),
  ∃ (n44 : Int),
  ∃ (n45 : Int),
  ∃ (n46 : Int),
  ∃ (n47 : Int),
  ∃ (n48 : Int),
  ∃ (n49 : Int),
  ∃ (n50 : Int),
  (cellAt w17 (Addr.add a5 (0 : Nat)) (Value.int IntKind.i64 n42) ∧
  cellAt w17 (Addr.add a5 (1 : Nat)) (Value.int IntKind.u64 n43) ∧
  cellAt w17 (Addr.add a5 (2 : Nat)) (Value.int IntKind.u64 n44) ∧
  cellAt w17 (Addr.add a5 (3 : Nat)) (Value.int IntKind.i64 n45) ∧
  cellAt w17 (Addr.add a5 (4 : Nat)) (Value.int IntKind.i64 n46) ∧
  cellAt w17 (Addr.add a5 (5 : Nat)) (Value.int IntKind.i64 n47) ∧
  cellAt w17 (Addr.add a5 (6 : Nat)) (Value.int IntKind.i64 n48) ∧
  cellAt w17 (Addr.add a5 (7 : Nat)) (Value.int IntKind.i64 n49) ∧
  cellAt w17 (Addr.add a5 (8 : Nat)) (Value.int IntKind.i64 n50)) ∧
  h3
  [Value.bool
  !(n33 == n42 &&
  (n34 == n43 && n35 == n44 &&
  (n36 == n45 && (n37 == n46 && (n38 == n47 && (n39 == n48 && (n40 == n49 && n41 == n50)))))))]
  w17) ∧
  ((!b4 == b3) = true → h3 [Value.bool true] w17)) ∧
  ∀ (w18 : World) (v127 v128 v129 v130 v131 v132 v133 : Value) (b5 : Bool),
  h3 [Value.bool b5] w18 →
  (b5 = true →
  StoreR a1 [Value.bool false] w18 fun (w19 : World) =>
  ∃ (b6 : Bool), cellAt w19 a1 (Value.bool b6) ∧ K (Value.bool b6) w19) ∧
  (b5 = false → h2 [] w18)) ∧
  (decide (n5 < (0 : Int)) = false →
  ∃ (h4 : List Value → World → Prop),
  (Drw w8 fun (w20 : World) =>
  ∃ (h5 : World → Prop),
  h5 w20 ∧
  (0 : Int) ≤ n4 ∧
  n4 < (↑l : Int) ∧
  someR q fun (a7 : Addr) =>
  ∃ (q6 : Option Addr),
  ∃ (k11 : Nat),
  ∃ (k12 : Nat),
  ∃ (n51 : Int),
  ∃ (n52 : Int),
  ∃ (n53 : Int),
  ((∀ (w21 : World), h5 w21 → World.cell? w21 (Addr.add a2 (0 : Nat)) = some (Value.slice q6 k11 k12)) ∧
  (∀ (w22 : World), h5 w22 → World.cell? w22 (Addr.add a2 ((0 : Nat) + (1 : Nat))) = some (Value.int IntKind.i64 n51)) ∧
  (∀ (w23 : World),
  h5 w23 → World.cell? w23 (Addr.add a2 ((0 : Nat) + (1 : Nat) + (1 : Nat))) = some (Value.int IntKind.i64 n52)) ∧
  ∀ (w24 : World),
  h5 w24 →
  World.cell? w24 (Addr.add a2 ((0 : Nat) + (1 : Nat) + (1 : Nat) + (1 : Nat))) = some (Value.int IntKind.i64 n53)) ∧
  ∃ (n54 : Int),
  ∃ (n55 : Int),
  ∃ (n56 : Int),
  ∃ (n57 : Int),
  ∃ (n58 : Int),
  ∃ (n59 : Int),
  ∃ (n60 : Int),
  ∃ (n61 : Int),
  ∃ (n62 : Int),
  ((∀ (w25 : World),
  h5 w25 →
  World.cell? w25 (Addr.add (Addr.add a7 (Int.toNat n4 * (9 : Nat))) (0 : Nat)) = some (Value.int IntKind.i64 n54)) ∧
  (∀ (w26 : World),
  h5 w26 →
  World.cell? w26 (Addr.add (Addr.add a7 (Int.toNat n4 * (9 : Nat))) ((0 : Nat) + (1 : Nat))) =
  some (Value.int IntKind.u64 n55)) ∧
  (∀ (w27 : World),
  h5 w27 →
  World.cell? w27 (Addr.add (Addr.add a7 (Int.toNat n4 * (9 : Nat))) ((0 : Nat) + (1 : Nat) + (1 : Nat))) =
  some (Value.int IntKind.u64 n56)) ∧
  (∀ (w28 : World),
  h5 w28 →
  World.cell? w28 (Addr.add (Addr.add a7 (Int.toNat n4 * (9 : Nat))) ((0 : Nat) + (1 : Nat) + (1 : Nat) + (1 : Nat))) =
  some (Value.int IntKind.i64 n57)) ∧
  (∀ (w29 : World),
  h5 w29 →
  World.cell? w29
  (Addr.add (Addr.add a7 (Int.toNat n4 * (9 : Nat))) ((0 : Nat) + (1 : Nat) + (1 : Nat) + (1 : Nat) + (1 : Nat))) =
  some (Value.int IntKind.i64 n58)) ∧
  (∀ (w30 : World),
  h5 w30 →
  World.cell? w30
  (Addr.add (Addr.add a7 (Int.toNat n4 * (9 : Nat)))
  ((0 : Nat) + (1 : Nat) + (1 : Nat) + (1 : Nat) + (1 : Nat) + (1 : Nat))) =
  some (Value.int IntKind.i64 n59)) ∧
  (∀ (w31 : World),
  h5 w31 →
  World.cell? w31
  (Addr.add (Addr.add a7 (Int.toNat n4 * (9 : Nat)))
  ((0 : Nat) + (1 : Nat) + (1 : Nat) + (1 : Nat) + (1 : Nat) + (1 : Nat) + (1 : Nat))) =
  some (Value.int IntKind.i64 n60)) ∧
  (∀ (w32 : World),
  h5 w32 →
  World.cell? w32
  (Addr.add (Addr.add a7 (Int.toNat n4 * (9 : Nat)))
  ((0 : Nat) + (1 : Nat) + (1 : Nat) + (1 : Nat) + (1 : Nat) + (1 : Nat) + (1 : Nat) + (1 : Nat))) =
  some (Value.int IntKind.i64 n61)) ∧
  ∀ (w33 : World),
  h5 w33 →
  World.cell? w33
  (Addr.add (Addr.add a7 (Int.toNat n4 * (9 : Nat)))
  ((0 : Nat) + (1 : Nat) + (1 : Nat) + (1 : Nat) + (1 : Nat) + (1 : Nat) + (1 : Nat) + (1 : Nat) + (1 : Nat))) =
  some (Value.int IntKind.i64 n62)) ∧
  (Rets Try.prog (44 : Nat)
  {
  toList :=
  [Value.agg
  { toList := [Value.slice q6 k11 k12, Value.int IntKind.i64 n51, Value.int IntKind.i64 n52, Value.int IntKind.i64 n53] },
  Value.agg
  {
  toList :=
  [Value.int IntKind.i64 n54, Value.int IntKind.u64 n55, Value.int IntKind.u64 n56, Value.int IntKind.i64 n57,
  Value.int IntKind.i64 n58, Value.int IntKind.i64 n59, Value.int IntKind.i64 n60, Value.int IntKind.i64 n61,
  Value.int IntKind.i64 n62] }] }
  w20 fun (v134 : Value) (w34 : World) =>
  ∃ (q7 : Option Addr),
  ∃ (k13 : Nat),
  ∃ (k14 : Nat),
  ∃ (n63 : Int),
  ∃ (n64 : Int),
  ∃ (n65 : Int),
  ∃ (b7 : Bool),
  v134 =
  Value.tuple
  {
  toList :=
  [Value.agg
  { toList := [Value.slice q7 k13 k14, Value.int IntKind.i64 n63, Value.int IntKind.i64 n64, Value.int IntKind.i64 n65] },
  Value.bool b7] } ∧
  h5 w34 ∧
  NewR (74 : Nat)
  [Value.slice none (0 : Nat) (0 : Nat), Value.int IntKind.i64 (0 : Int), Value.int IntKind.i64 (0 : Int),
  Value.int IntKind.i64 (0 : Int)]
  w34 fun (a8 : Addr) (w35 : World) =>
  h5 w35 ∧
  StoreR a8 [Value.slice q7 k13 k14, Value.int IntKind.i64 n63, Value.int IntKind.i64 n64, Value.int IntKind.i64 n65] w35
  fun (w36 : World) => h5 w36 ∧ h4 [Value.pointer (some a8), Value.bool b7] w36) ∧
  NewR (74 : Nat)
  [Value.slice none (0 : Nat) (0 : Nat), Value.int IntKind.i64 (0 : Int), Value.int IntKind.i64 (0 : Int),
  Value.int IntKind.i64 (0 : Int)]
  w20 fun (a9 : Addr) (w37 : World) =>
  h5 w37 ∧
  Rets Try.prog (44 : Nat)
  {
  toList :=
  [Value.agg
  { toList := [Value.slice q6 k11 k12, Value.int IntKind.i64 n51, Value.int IntKind.i64 n52, Value.int IntKind.i64 n53] },
  Value.agg
  {
  toList :=
  [Value.int IntKind.i64 n54, Value.int IntKind.u64 n55, Value.int IntKind.u64 n56, Value.int IntKind.i64 n57,
  Value.int IntKind.i64 n58, Value.int IntKind.i64 n59, Value.int IntKind.i64 n60, Value.int IntKind.i64 n61,
  Value.int IntKind.i64 n62] }] }
  w37 fun (v135 : Value) (w38 : World) =>
  ∃ (q8 : Option Addr),
  ∃ (k15 : Nat),
  ∃ (k16 : Nat),
  ∃ (n66 : Int),
  ∃ (n67 : Int),
  ∃ (n68 : Int),
  ∃ (b8 : Bool),
  v135 =
  Value.tuple
  {
  toList :=
  [Value.agg
  { toList := [Value.slice q8 k15 k16, Value.int IntKind.i64 n66, Value.int IntKind.i64 n67, Value.int IntKind.i64 n68] },
  Value.bool b8] } ∧
  h5 w38 ∧
  StoreR a9 [Value.slice q8 k15 k16, Value.int IntKind.i64 n66, Value.int IntKind.i64 n67, Value.int IntKind.i64 n68] w38
  fun (w39 : World) => h5 w39 ∧ h4 [Value.pointer (some a9), Value.bool b8] w39) ∧
  ∀ (w40 : World) (q9 : Option Addr) (b9 : Bool) (v136 v137 v138 v139 v140 v141 v142 v143 v144 : Value),
  h4 [Value.pointer q9, Value.bool b9] w40 →
  someR q9 fun (a10 : Addr) =>
  ∃ (q10 : Option Addr),
  ∃ (k17 : Nat),
  ∃ (k18 : Nat),
  ∃ (n69 : Int),
  ∃ (n70 : Int),
  ∃ (n71 : Int),
  (cellAt w40 (Addr.add a10 (0 : Nat)) (Value.slice q10 k17 k18) ∧
  cellAt w40 (Addr.add a10 (1 : Nat)) (Value.int IntKind.i64 n69) ∧
  cellAt w40 (Addr.add a10 (2 : Nat)) (Value.int IntKind.i64 n70) ∧
  cellAt w40 (Addr.add a10 (3 : Nat)) (Value.int IntKind.i64 n71)) ∧
  StoreR a2 [Value.slice q10 k17 k18, Value.int IntKind.i64 n69, Value.int IntKind.i64 n70, Value.int IntKind.i64 n71] w40
  fun (w41 : World) =>
  (0 : Int) ≤ n4 ∧
  n4 < (↑l : Int) ∧
  someR q fun (a11 : Addr) =>
  ∃ (n72 : Int),
  ∃ (n73 : Int),
  ∃ (n74 : Int),
  ∃ (n75 : Int),
  ∃ (n76 : Int),
  ∃ (n77 : Int),
  ∃ (n78 : Int),
  ∃ (n79 : Int),
  ∃ (n80 : Int),
  (cellAt w41 (Addr.add (Addr.add a11 (Int.toNat n4 * (9 : Nat))) (0 : Nat)) (Value.int IntKind.i64 n72) ∧
  cellAt w41 (Addr.add (Addr.add a11 (Int.toNat n4 * (9 : Nat))) (1 : Nat)) (Value.int IntKind.u64 n73) ∧
  cellAt w41 (Addr.add (Addr.add a11 (Int.toNat n4 * (9 : Nat))) (2 : Nat)) (Value.int IntKind.u64 n74) ∧
  cellAt w41 (Addr.add (Addr.add a11 (Int.toNat n4 * (9 : Nat))) (3 : Nat)) (Value.int IntKind.i64 n75) ∧
  cellAt w41 (Addr.add (Addr.add a11 (Int.toNat n4 * (9 : Nat))) (4 : Nat)) (Value.int IntKind.i64 n76) ∧
  cellAt w41 (Addr.add (Addr.add a11 (Int.toNat n4 * (9 : Nat))) (5 : Nat)) (Value.int IntKind.i64 n77) ∧
  cellAt w41 (Addr.add (Addr.add a11 (Int.toNat n4 * (9 : Nat))) (6 : Nat)) (Value.int IntKind.i64 n78) ∧
  cellAt w41 (Addr.add (Addr.add a11 (Int.toNat n4 * (9 : Nat))) (7 : Nat)) (Value.int IntKind.i64 n79) ∧
  cellAt w41 (Addr.add (Addr.add a11 (Int.toNat n4 * (9 : Nat))) (8 : Nat)) (Value.int IntKind.i64 n80)) ∧
  Rets Try.prog (45 : Nat)
  {
  toList :=
  [Value.pointer q1,
  Value.agg
  {
  toList :=
  [Value.int IntKind.i64 n72, Value.int IntKind.u64 n73, Value.int IntKind.u64 n74, Value.int IntKind.i64 n75,
  Value.int IntKind.i64 n76, Value.int IntKind.i64 n77, Value.int IntKind.i64 n78, Value.int IntKind.i64 n79,
  Value.int IntKind.i64 n80] }] }
  w41 fun (v145 : Value) (w42 : World) =>
  ∃ (b10 : Bool),
  v145 = Value.bool b10 ∧
  ((!b10 == b9) = true →
  StoreR a1 [Value.bool false] w42 fun (w43 : World) =>
  ∃ (b11 : Bool), cellAt w43 a1 (Value.bool b11) ∧ K (Value.bool b11) w43) ∧
  ((!b10 == b9) = false → h2 [] w42))) ∧
  ∀ (w44 : World)
  (v146 v147 v148 v149 v150 v151 v152 v153 v154 v155 v156 v157 v158 v159 v160 v161 v162 v163 v164 v165 v166 v167 v168 v169
  v170 v171 v172 v173 v174 v175 v176 v177 v178 v179 v180 v181 v182 v183 v184 v185 v186 v187 v188 v189 v190 : Value),
  h2 [] w44 →
  ∃ (h6 : List Value → World → Prop),
  (Drw w44 fun (w45 : World) =>
  ∃ (h7 : World → Prop),
  h7 w45 ∧
  ∃ (q11 : Option Addr),
  ∃ (k19 : Nat),
  ∃ (k20 : Nat),
  (∀ (w46 : World), h7 w46 → World.cell? w46 (Addr.add a2 (0 : Nat)) = some (Value.slice q11 k19 k20)) ∧
  Rets Try.prog (46 : Nat) { toList := [Value.pointer q1] } w45 fun (v191 : Value) (w47 : World) =>
  ∃ (n81 : Int),
  v191 = Value.int IntKind.i64 n81 ∧
  h7 w47 ∧
  ((n81 != (↑k19 : Int)) = false →
  ∃ (n82 : Int),
  (∀ (w48 : World), h7 w48 → World.cell? w48 (Addr.add a2 (1 : Nat)) = some (Value.int IntKind.i64 n82)) ∧
  Rets Try.prog (47 : Nat) { toList := [Value.pointer q1] } w47 fun (v192 : Value) (w49 : World) =>
  ∃ (n83 : Int),
  v192 = Value.int IntKind.i64 n83 ∧
  h7 w49 ∧
  ((n83 != n82) = false →
  ∃ (q12 : Option Addr),
  ∃ (k21 : Nat),
  ∃ (k22 : Nat),
  (∀ (w50 : World), h7 w50 → World.cell? w50 (Addr.add a2 (0 : Nat)) = some (Value.slice q12 k21 k22)) ∧
  ∃ (n84 : Int),
  (∀ (w51 : World), h7 w51 → World.cell? w51 (Addr.add a2 (1 : Nat)) = some (Value.int IntKind.i64 n84)) ∧
  Rets Try.prog (48 : Nat) { toList := [Value.pointer q1] } w49 fun (v193 : Value) (w52 : World) =>
  ∃ (b12 : Bool),
  v193 = Value.bool b12 ∧
  h7 w52 ∧
  ((!b12 == decide ((↑k21 : Int) < n84)) = false →
  ∃ (n85 : Int),
  (∀ (w53 : World), h7 w53 → World.cell? w53 (Addr.add a2 (2 : Nat)) = some (Value.int IntKind.i64 n85)) ∧
  Rets Try.prog (49 : Nat) { toList := [Value.pointer q1] } w52 fun (v194 : Value) (w54 : World) =>
  ∃ (n86 : Int),
  v194 = Value.int IntKind.i64 n86 ∧
  h7 w54 ∧
  ((n86 != n85) = false →
  ∃ (n87 : Int),
  (∀ (w55 : World), h7 w55 → World.cell? w55 (Addr.add a2 (3 : Nat)) = some (Value.int IntKind.i64 n87)) ∧
  Rets Try.prog (50 : Nat) { toList := [Value.pointer q1] } w54 fun (v195 : Value) (w56 : World) =>
  ∃ (n88 : Int),
  v195 = Value.int IntKind.i64 n88 ∧
  h7 w56 ∧
  ((n88 != n87) = false →
  ∃ (q13 : Option Addr),
  ∃ (k23 : Nat),
  ∃ (k24 : Nat),
  ∃ (n89 : Int),
  ∃ (n90 : Int),
  ∃ (n91 : Int),
  ((∀ (w57 : World), h7 w57 → World.cell? w57 (Addr.add a2 (0 : Nat)) = some (Value.slice q13 k23 k24)) ∧
  (∀ (w58 : World), h7 w58 → World.cell? w58 (Addr.add a2 ((0 : Nat) + (1 : Nat))) = some (Value.int IntKind.i64 n89)) ∧
  (∀ (w59 : World),
  h7 w59 → World.cell? w59 (Addr.add a2 ((0 : Nat) + (1 : Nat) + (1 : Nat))) = some (Value.int IntKind.i64 n90)) ∧
  ∀ (w60 : World),
  h7 w60 →
  World.cell? w60 (Addr.add a2 ((0 : Nat) + (1 : Nat) + (1 : Nat) + (1 : Nat))) = some (Value.int IntKind.i64 n91)) ∧
  Rets Try.prog (51 : Nat) { toList := [Value.pointer q1, Value.int IntKind.i64 kind] } w56
  fun (v196 : Value) (w61 : World) =>
  ∃ (n92 : Int),
  v196 = Value.int IntKind.i64 n92 ∧
  h7 w61 ∧
  Rets Try.prog (52 : Nat)
  {
  toList :=
  [Value.agg
  {
  toList := [Value.slice q13 k23 k24, Value.int IntKind.i64 n89, Value.int IntKind.i64 n90, Value.int IntKind.i64 n91] },
  Value.int IntKind.i64 kind] }
  w61 fun (v197 : Value) (w62 : World) =>
  ∃ (n93 : Int),
  v197 = Value.int IntKind.i64 n93 ∧
  h7 w62 ∧
  ((n92 != n93) = false →
  (0 : Int) ≤ n4 ∧
  n4 < (↑l : Int) ∧
  someR q fun (a12 : Addr) =>
  (0 : Int) ≤ n4 ∧
  n4 < (↑l : Int) ∧
  someR q fun (a13 : Addr) =>
  ∃ (n94 : Int),
  (∀ (w63 : World),
  h7 w63 →
  World.cell? w63 (Addr.add (Addr.add a12 (Int.toNat n4 * (9 : Nat))) (0 : Nat)) = some (Value.int IntKind.i64 n94)) ∧
  ∃ (q14 : Option Addr),
  ∃ (k25 : Nat),
  ∃ (k26 : Nat),
  ∃ (n95 : Int),
  ∃ (n96 : Int),
  ∃ (n97 : Int),
  ((∀ (w64 : World), h7 w64 → World.cell? w64 (Addr.add a2 (0 : Nat)) = some (Value.slice q14 k25 k26)) ∧
  (∀ (w65 : World), h7 w65 → World.cell? w65 (Addr.add a2 ((0 : Nat) + (1 : Nat))) = some (Value.int IntKind.i64 n95)) ∧
  (∀ (w66 : World),
  h7 w66 → World.cell? w66 (Addr.add a2 ((0 : Nat) + (1 : Nat) + (1 : Nat))) = some (Value.int IntKind.i64 n96)) ∧
  ∀ (w67 : World),
  h7 w67 →
  World.cell? w67 (Addr.add a2 ((0 : Nat) + (1 : Nat) + (1 : Nat) + (1 : Nat))) = some (Value.int IntKind.i64 n97)) ∧
  ∃ (n98 : Int),
  (∀ (w68 : World),
  h7 w68 →
  World.cell? w68 (Addr.add (Addr.add a13 (Int.toNat n4 * (9 : Nat))) (0 : Nat)) = some (Value.int IntKind.i64 n98)) ∧
  Rets Try.prog (51 : Nat) { toList := [Value.pointer q1, Value.int IntKind.i64 n94] } w62
  fun (v198 : Value) (w69 : World) =>
  ∃ (n99 : Int),
  v198 = Value.int IntKind.i64 n99 ∧
  h7 w69 ∧
  Rets Try.prog (52 : Nat)
  {
  toList :=
  [Value.agg
  {
  toList := [Value.slice q14 k25 k26, Value.int IntKind.i64 n95, Value.int IntKind.i64 n96, Value.int IntKind.i64 n97] },
  Value.int IntKind.i64 n98] }
  w69 fun (v199 : Value) (w70 : World) =>
  ∃ (n100 : Int), v199 = Value.int IntKind.i64 n100 ∧ h6 [Value.bool (n99 != n100)] w70) ∧
  ((n92 != n93) = true → h6 [Value.bool true] w62)) ∧
  ((n88 != n87) = true → h6 [Value.bool true] w56)) ∧
  ((n86 != n85) = true → h6 [Value.bool true] w54)) ∧
  ((!b12 == decide ((↑k21 : Int) < n84)) = true → h6 [Value.bool true] w52)) ∧
  ((n83 != n82) = true → h6 [Value.bool true] w49)) ∧
  ((n81 != (↑k19 : Int)) = true → h6 [Value.bool true] w47)) ∧
  ∀ (w71 : World)
  (v200 v201 v202 v203 v204 v205 v206 v207 v208 v209 v210 v211 v212 v213 v214 v215 v216 v217 v218 v219 v220 v221 v222 v223
  v224 v225 v226 v227 v228 v229 v230 v231 v232 v233 v234 v235 v236 v237 v238 v239 v240 v241 v242 v243 v244 v245 v246 v247
  v248 v249 v250 v251 v252 v253 v254 v255 v256 v257 v258 v259 v260 v261 v262 : Value)
  (b13 : Bool),
  h6 [Value.bool b13] w71 →
  (b13 = true →
  StoreR a1 [Value.bool false] w71 fun (w72 : World) =>
  ∃ (b14 : Bool), cellAt w72 a1 (Value.bool b14) ∧ K (Value.bool b14) w72) ∧
  (b13 = false →
  ∃ (k27 : Nat), k27 < k4 ∧ h1 k27 [Value.int IntKind.i64 (IntKind.wrap IntKind.i64 (n4 + (1 : Int)))] w71)) ∧
  (decide (n4 < (↑l : Int)) = false →
  Rets Try.prog (53 : Nat) { toList := [Value.pointer q1] } w8 fun (v263 : Value) (w73 : World) =>
  ∃ (k28 : Nat),
  ∃ (a14 : Array Value),
  ∃ (c1 : Array Value),
  v263 = Value.func (Fn.func k28) a14 c1 ∧
  (false = true →
  StoreR a1 [Value.bool false] w73 fun (w74 : World) =>
  ∃ (b15 : Bool), cellAt w74 a1 (Value.bool b15) ∧ K (Value.bool b15) w74) ∧
  (false = false →
  NewR (3 : Nat) [Value.int IntKind.i64 (0 : Int)] w73 fun (a15 : Addr) (w75 : World) =>
  StoreR a15 [Value.int IntKind.i64 (0 : Int)] w75 fun (w76 : World) =>
  ∃ (v264 : Value),
  Value.func (Fn.func k28) a14 c1 = Value.func (Fn.func (115 : Nat)) { toList := [] } { toList := [v264] } ∧
  LoopR w76 fun (k29 k30 : Nat) (L1 : Loop) (w77 : World) =>
  (∀ (n101 n102 n103 n104 n105 n106 n107 n108 n109 n110 : Int) (w78 : World) (h8 : Value → World → Prop),
  RecR k30 L1 w78 →
  (NewR (83 : Nat)
  [Value.int IntKind.i64 (0 : Int), Value.int IntKind.u64 (0 : Int), Value.int IntKind.u64 (0 : Int),
  Value.int IntKind.i64 (0 : Int), Value.int IntKind.i64 (0 : Int), Value.int IntKind.i64 (0 : Int),
  Value.int IntKind.i64 (0 : Int), Value.int IntKind.i64 (0 : Int), Value.int IntKind.i64 (0 : Int)]
  w78 fun (a16 : Addr) (w79 : World) =>
  StoreR a16
  [Value.int IntKind.i64 n102, Value.int IntKind.u64 n103, Value.int IntKind.u64 n104, Value.int IntKind.i64 n105,
  Value.int IntKind.i64 n106, Value.int IntKind.i64 n107, Value.int IntKind.i64 n108, Value.int IntKind.i64 n109,
  Value.int IntKind.i64 n110]
  w79 fun (w80 : World) =>
  BegR k30 L1 w80 fun (w81 : World) =>
  ∃ (h9 : List Value → World → Prop),
  (Drw w81 fun (w82 : World) =>
  ∃ (n111 : Int),
  cellAt w82 a15 (Value.int IntKind.i64 n111) ∧
  ((n101 != n111) = false →
  ∃ (n112 : Int),
  cellAt w82 a15 (Value.int IntKind.i64 n112) ∧
  ∃ (q15 : Option Addr),
  ∃ (k31 : Nat),
  ∃ (k32 : Nat),
  cellAt w82 (Addr.add a2 (0 : Nat)) (Value.slice q15 k31 k32) ∧
  (decide (n112 ≥ (↑k31 : Int)) = false →
  ∃ (n113 : Int),
  ∃ (n114 : Int),
  ∃ (n115 : Int),
  ∃ (n116 : Int),
  ∃ (n117 : Int),
  ∃ (n118 : Int),
  ∃ (n119 : Int),
  ∃ (n120 : Int),
  ∃ (n121 : Int),
  (cellAt w82 (Addr.add a16 (0 : Nat)) (Value.int IntKind.i64 n113) ∧
  cellAt w82 (Addr.add a16 (1 : Nat)) (Value.int IntKind.u64 n114) ∧
  cellAt w82 (Addr.add a16 (2 : Nat)) (Value.int IntKind.u64 n115) ∧
  cellAt w82 (Addr.add a16 (3 : Nat)) (Value.int IntKind.i64 n116) ∧
  cellAt w82 (Addr.add a16 (4 : Nat)) (Value.int IntKind.i64 n117) ∧
  cellAt w82 (Addr.add a16 (5 : Nat)) (Value.int IntKind.i64 n118) ∧
  cellAt w82 (Addr.add a16 (6 : Nat)) (Value.int IntKind.i64 n119) ∧
  cellAt w82 (Addr.add a16 (7 : Nat)) (Value.int IntKind.i64 n120) ∧
  cellAt w82 (Addr.add a16 (8 : Nat)) (Value.int IntKind.i64 n121)) ∧
  ∃ (q16 : Option Addr),
  ∃ (k33 : Nat),
  ∃ (k34 : Nat),
  cellAt w82 (Addr.add a2 (0 : Nat)) (Value.slice q16 k33 k34) ∧
  ∃ (n122 : Int),
  cellAt w82 a15 (Value.int IntKind.i64 n122) ∧
  (0 : Int) ≤ n122 ∧
  n122 < (↑k33 : Int) ∧
  someR q16 fun (a17 : Addr) =>
  ∃ (n123 : Int),
  ∃ (n124 : Int),
  ∃ (n125 : Int),
  ∃ (n126 : Int),
  ∃ (n127 : Int),
  ∃ (n128 : Int),
  ∃ (n129 : Int),
  ∃ (n130 : Int),
  ∃ (n131 : Int),
  (cellAt w82 (Addr.add (Addr.add a17 (Int.toNat n122 * (9 : Nat))) (0 : Nat)) (Value.int IntKind.i64 n123) ∧
  cellAt w82 (Addr.add (Addr.add a17 (Int.toNat n122 * (9 : Nat))) (1 : Nat)) (Value.int IntKind.u64 n124) ∧
  cellAt w82 (Addr.add (Addr.add a17 (Int.toNat n122 * (9 : Nat))) (2 : Nat)) (Value.int IntKind.u64 n125) ∧
  cellAt w82 (Addr.add (Addr.add a17 (Int.toNat n122 * (9 : Nat))) (3 : Nat)) (Value.int IntKind.i64 n126) ∧
  cellAt w82 (Addr.add (Addr.add a17 (Int.toNat n122 * (9 : Nat))) (4 : Nat)) (Value.int IntKind.i64 n127) ∧
  cellAt w82 (Addr.add (Addr.add a17 (Int.toNat n122 * (9 : Nat))) (5 : Nat)) (Value.int IntKind.i64 n128) ∧
  cellAt w82 (Addr.add (Addr.add a17 (Int.toNat n122 * (9 : Nat))) (6 : Nat)) (Value.int IntKind.i64 n129) ∧
  cellAt w82 (Addr.add (Addr.add a17 (Int.toNat n122 * (9 : Nat))) (7 : Nat)) (Value.int IntKind.i64 n130) ∧
  cellAt w82 (Addr.add (Addr.add a17 (Int.toNat n122 * (9 : Nat))) (8 : Nat)) (Value.int IntKind.i64 n131)) ∧
  h9
  [Value.bool
  !(n113 == n123 &&
  (n114 == n124 && n115 == n125 &&
  (n116 == n126 && (n117 == n127 && (n118 == n128 && (n119 == n129 && (n120 == n130 && n121 == n131)))))))]
  w82) ∧
  (decide (n112 ≥ (↑k31 : Int)) = true → h9 [Value.bool true] w82)) ∧
  ((n101 != n111) = true → h9 [Value.bool true] w82)) ∧
  ∀ (w83 : World) (v265 v266 v267 v268 v269 v270 v271 v272 v273 v274 v275 v276 v277 v278 v279 v280 v281 v282 : Value)
  (b16 : Bool),
  h9 [Value.bool b16] w83 →
  (b16 = true →
  StoreR a1 [Value.bool false] w83 fun (w84 : World) =>
  FinR k30 L1 (some Code.ret) w84 fun (w85 : World) => h8 (Value.bool false) w85) ∧
  (b16 = false →
  ∃ (n132 : Int),
  cellAt w83 a15 (Value.int IntKind.i64 n132) ∧
  StoreR a15 [Value.int IntKind.i64 (IntKind.wrap IntKind.i64 (n132 + (1 : Int)))] w83 fun (w86 : World) =>
  FinR k30 L1 none w86 fun (w87 : World) => h8 (Value.bool true) w87)) →
  RoundR Try.prog k30
  {
  toList :=
  [Value.int IntKind.i64 n101,
  Value.agg
  {
  toList :=
  [Value.int IntKind.i64 n102, Value.int IntKind.u64 n103, Value.int IntKind.u64 n104, Value.int IntKind.i64 n105,
  Value.int IntKind.i64 n106, Value.int IntKind.i64 n107, Value.int IntKind.i64 n108, Value.int IntKind.i64 n109,
  Value.int IntKind.i64 n110] }] }
  w78 h8) →
  Rets Try.prog (115 : Nat) { toList := [Value.func (Fn.yield k30) { toList := [] } { toList := [] }, v264] } w77
  fun (v283 : Value) (w88 : World) =>
  (EndR k30 L1 none w88 fun (w89 : World) =>
  ∃ (h10 : List Value → World → Prop),
  (∃ (n133 : Int),
  cellAt w89 a15 (Value.int IntKind.i64 n133) ∧
  ∃ (q17 : Option Addr),
  ∃ (k35 : Nat),
  ∃ (k36 : Nat),
  cellAt w89 (Addr.add a2 (0 : Nat)) (Value.slice q17 k35 k36) ∧
  ((n133 == (↑k35 : Int)) = true →
  Rets Try.prog (39 : Nat) { toList := [] } w89 fun (v284 : Value) (w90 : World) =>
  ∃ (b17 : Bool), v284 = Value.bool b17 ∧ StoreR a1 [Value.bool b17] w90 fun (w91 : World) => h10 [] w91) ∧
  ((n133 == (↑k35 : Int)) = false → StoreR a1 [Value.bool false] w89 fun (w92 : World) => h10 [] w92)) ∧
  ∀ (w93 : World) (v285 v286 v287 v288 v289 v290 v291 v292 : Value),
  h10 [] w93 →
  MarkR k29 w93 fun (w94 : World) => ∃ (b18 : Bool), cellAt w94 a1 (Value.bool b18) ∧ K (Value.bool b18) w94) ∨
  EndR k30 L1 (some Code.ret) w88 fun (w95 : World) =>
  MarkR k29 w95 fun (w96 : World) => ∃ (b19 : Bool), cellAt w96 a1 (Value.bool b19) ∧ K (Value.bool b19) w96)))
theorem cortadolaw28_ItemPlays_eq (room : Int) (q : Option Addr) (l c : Nat) (kind : Int) (w : World) (K : Value → World → Prop) : fw Try.prog Try.f7 (annL [(2, [(9, some 3), (10, none), (11, none), (12, none), (13, none), (14, none), (15, none), (16, none), (29, none), (30, none), (31, none), (32, none), (33, none), (34, none), (35, none), (36, none), (37, none), (38, none), (39, none), (40, none), (41, none), (42, none), (43, none), (44, none), (45, none), (46, none), (47, none), (48, none), (49, none), (50, none), (51, none), (52, none), (53, none), (54, none), (55, none), (56, none), (57, none), (58, none), (59, none), (60, none), (61, none), (62, none), (63, none), (64, none), (65, none), (66, none), (67, none), (68, none), (69, none), (70, none), (71, none), (72, none), (73, none), (74, none), (75, none), (76, none), (77, none), (78, none), (79, none), (80, none), (81, none), (82, none), (83, none), (84, none), (85, none), (86, none), (87, none), (88, none), (89, none), (90, none), (91, none), (92, none), (93, none), (94, none), (95, none), (96, none), (97, none), (98, none), (99, none), (100, none), (101, none), (102, none), (103, none), (104, none), (105, none), (106, none), (107, none), (108, none), (109, none), (110, none), (111, none), (112, none), (113, none), (114, none), (115, none), (116, none), (117, none), (118, none), (119, none), (120, none), (121, none), (122, none), (123, none), (124, none), (125, none), (126, none), (127, none), (128, none), (129, none), (130, none), (131, none), (132, none), (133, none), (134, none), (135, none), (136, none), (137, none), (138, none), (139, none), (140, none), (141, none), (142, none)]), (5, [(10, none), (11, none), (12, none), (13, none), (14, none), (15, none), (16, none), (41, none), (42, none), (43, none), (44, none), (45, none), (46, none), (47, none), (48, none), (49, none), (50, none), (51, none), (52, none), (53, none), (54, none), (55, none), (56, none), (57, none), (58, none), (59, none), (60, none), (61, none), (62, none), (63, none), (64, none), (65, none), (66, none), (67, none), (68, none), (69, none), (70, none), (71, none), (72, none), (73, none), (74, none), (75, none), (76, none), (77, none), (78, none)]), (11, [(148, some 3), (149, some 83)])]) (ordL [(2000011, [(53, 0), (54, 0), (55, 0), (56, 0), (57, 0), (58, 0), (59, 0), (60, 5)]), (2000013, [(15, 16), (16, 5), (61, 0), (62, 0), (63, 0), (64, 0), (65, 0), (66, 0), (67, 0), (68, 0), (69, 0)]), (13, [(1, 0), (2, 0), (3, 0), (0, 1), (4, 1), (0, 6), (5, 2), (6, 0), (7, 0), (8, 0), (9, 2), (10, 2), (11, 0), (0, 7), (9, 2), (5, 2), (6, 0), (7, 0), (8, 0), (10, 2), (11, 0), (0, 7)]), (2000017, [(79, 0), (80, 0), (81, 0), (82, 0), (83, 0), (84, 0), (85, 0), (86, 0), (87, 0), (88, 0), (89, 0), (90, 0), (91, 0), (92, 0), (93, 0), (94, 0), (95, 0), (96, 0), (97, 0), (98, 0), (99, 0), (100, 0), (101, 0), (102, 0), (103, 0), (104, 0), (105, 0), (106, 0), (107, 0), (108, 0), (109, 0), (110, 0), (111, 0), (112, 0), (113, 0), (114, 0), (115, 0), (116, 0), (117, 0), (118, 0), (119, 0), (120, 0), (121, 0), (122, 0), (123, 0), (124, 0), (125, 0), (126, 0), (127, 0), (128, 0), (129, 0), (130, 0), (131, 0), (132, 0), (133, 0), (134, 0), (135, 0), (136, 0), (137, 0), (138, 0), (139, 0), (140, 0), (141, 0), (142, 5)]), (17, [(0, 0), (2, 0), (3, 1), (4, 0), (1, 2), (5, 0), (6, 0), (7, 0), (9, 0), (10, 1), (8, 2), (11, 0), (12, 0), (13, 0), (14, 0), (16, 0), (19, 0), (17, 1), (18, 0), (20, 1), (21, 0), (15, 2), (22, 0), (23, 0), (24, 0), (25, 0), (27, 0), (28, 1), (26, 2), (29, 0), (30, 0), (31, 0), (32, 0), (34, 0), (35, 1), (33, 2), (36, 0), (37, 0), (38, 0), (39, 0), (40, 0), (43, 0), (42, 1), (41, 2), (44, 2), (45, 0), (46, 0), (47, 0), (48, 0), (49, 0), (50, 0), (51, 0), (52, 0), (56, 0), (57, 0), (58, 0), (59, 0), (53, 1), (55, 1), (60, 1), (54, 2), (61, 3), (62, 0), (63, 0)]), (1000011, [(115, 1)]), (2000026, [(150, 0), (151, 0), (152, 0), (153, 0), (154, 0), (155, 0), (156, 0), (157, 0), (158, 0), (159, 0), (160, 0), (161, 0), (162, 0), (163, 0), (164, 0), (165, 0), (166, 0), (167, 0), (168, 5)]), (26, [(0, 0), (1, 1), (2, 0), (3, 0), (5, 0), (4, 1), (6, 1), (7, 0), (8, 0), (9, 0), (10, 0), (12, 0), (11, 1), (13, 1), (14, 1), (15, 0), (16, 1), (17, 0), (18, 0)]), (2000029, [(171, 0), (172, 0), (173, 0), (174, 0), (175, 0), (176, 0), (177, 0), (178, 0)])]) [.int .i64 room, .slice q l c, .int .i64 kind] w K = cortadolaw28_ItemPlays_m room q l c kind w K := by kernel_rfl
theorem cortadolaw28_ItemPlays_go (room : Int) (q : Option Addr) (l c : Nat) (kind : Int) {w : World} {K : Value → World → Prop} (h : cortadolaw28_ItemPlays_m room q l c kind w K) : Rets Try.prog 7 #[.int .i64 room, .slice q l c, .int .i64 kind] w K :=
  calls_of_fw plain mixed Try.func7 (by kernel_rfl) (by rw [cortadolaw28_ItemPlays_eq]; exact h)
end Go.Proofs.Ytipcbhaeoeghnaa.Eng
