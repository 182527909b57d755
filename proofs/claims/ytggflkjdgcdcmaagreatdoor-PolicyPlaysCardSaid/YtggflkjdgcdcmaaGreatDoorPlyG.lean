/- What the code of these functions asks for: printed by a program of this session's (gens.py) out of the seat's own functions; the kernel checks each row. -/
import Derived.Test.YtggflkjdgcdcmaaGreatDoorEngH
import Derived.Test.YtggflkjdgcdcmaaGreatDoorProg
import Derived.Test.YtggflkjdgcdcmaaGreatDoorBase
namespace Go.Proofs.YtggflkjdgcdcmaaGreatDoor.Eng
open Go Go.Proofs
set_option linter.unusedVariables false
set_option maxRecDepth 1000000
def cortadolaw26_PolicyPlays_m (a b : Int) (q : Option Addr) (l c : Nat) (qs : Option Addr) (ls cs : Nat) (w : World) (K : Value → World → Prop) : Prop :=
  NewR (24 : Nat) [Value.int IntKind.i64 a, Value.int IntKind.i64 b, Value.slice q l c] w fun (a1 : Addr) (w1 : World) =>
  ∃ (h1 : List Value → World → Prop),
  (Rets Tryz.prog (4 : Nat) { toList := [Value.slice qs ls cs] } w1 fun (v1 : Value) (w2 : World) =>
  ∃ (b1 : Bool),
  v1 = Value.bool b1 ∧
  ((!b1) = false →
  ∃ (n1 : Int),
  cellAt w2 (Addr.add a1 (1 : Nat)) (Value.int IntKind.i64 n1) ∧ h1 [Value.bool (decide (n1 > (64 : Int)))] w2) ∧
  ((!b1) = true → h1 [Value.bool true] w2)) ∧
  ∀ (w3 : World) (v2 v3 v4 v5 v6 v7 v8 : Value) (b2 : Bool),
  h1 [Value.bool b2] w3 →
  (b2 = true →
  Rets Tryz.prog (5 : Nat) { toList := [] } w3 fun (v9 : Value) (w4 : World) =>
  ∃ (b3 : Bool), v9 = Value.bool b3 ∧ K (Value.bool b3) w4) ∧
  (b2 = false →
  ∃ (h2 : List Value → World → Prop),
  (Drw w3 fun (w5 : World) =>
  ∃ (h3 : World → Prop),
  h3 w5 ∧
  ∃ (n2 : Int),
  (∀ (w6 : World), h3 w6 → World.cell? w6 (Addr.add a1 (0 : Nat)) = some (Value.int IntKind.i64 n2)) ∧
  ∃ (n3 : Int),
  (∀ (w7 : World), h3 w7 → World.cell? w7 (Addr.add a1 (1 : Nat)) = some (Value.int IntKind.i64 n3)) ∧
  ∃ (n4 : Int),
  (∀ (w8 : World), h3 w8 → World.cell? w8 (Addr.add a1 (0 : Nat)) = some (Value.int IntKind.i64 n4)) ∧
  ∃ (n5 : Int),
  (∀ (w9 : World), h3 w9 → World.cell? w9 (Addr.add a1 (1 : Nat)) = some (Value.int IntKind.i64 n5)) ∧
  (Rets Tryz.prog (6 : Nat)
  { toList := [Value.int IntKind.i64 n2, Value.int IntKind.i64 n3, Value.int IntKind.u64 (5 : Int)] } w5
  fun (v10 : Value) (w10 : World) =>
  ∃ (q1 : Option Addr),
  v10 = Value.pointer q1 ∧
  h3 w10 ∧
  (Rets Tryz.prog (7 : Nat)
  { toList := [Value.int IntKind.i64 n4, Value.int IntKind.i64 n5, Value.int IntKind.u64 (5 : Int)] } w10
  fun (v11 : Value) (w11 : World) =>
  ∃ (q2 : Option Addr),
  ∃ (k1 : Nat),
  ∃ (k2 : Nat),
  ∃ (n6 : Int),
  ∃ (n7 : Int),
  ∃ (q3 : Option Addr),
  ∃ (k3 : Nat),
  ∃ (k4 : Nat),
  ∃ (n8 : Int),
  ∃ (n9 : Int),
  ∃ (n10 : Int),
  ∃ (n11 : Int),
  ∃ (n12 : Int),
  ∃ (n13 : Int),
  ∃ (q4 : Option Addr),
  ∃ (k5 : Nat),
  ∃ (k6 : Nat),
  ∃ (n14 : Int),
  v11 =
  Value.agg
  {
  toList :=
  [Value.slice q2 k1 k2, Value.int IntKind.i64 n6, Value.int IntKind.u64 n7, Value.slice q3 k3 k4,
  Value.int IntKind.u64 n8, Value.int IntKind.i64 n9, Value.int IntKind.i64 n10, Value.int IntKind.i64 n11,
  Value.int IntKind.i64 n12, Value.int IntKind.u64 n13, Value.slice q4 k5 k6, Value.int IntKind.i64 n14] } ∧
  h3 w11 ∧
  NewR (43 : Nat)
  [Value.slice none (0 : Nat) (0 : Nat), Value.int IntKind.i64 (0 : Int), Value.int IntKind.u64 (0 : Int),
  Value.slice none (0 : Nat) (0 : Nat), Value.int IntKind.u64 (0 : Int), Value.int IntKind.i64 (0 : Int),
  Value.int IntKind.i64 (0 : Int), Value.int IntKind.i64 (0 : Int), Value.int IntKind.i64 (0 : Int),
  Value.int IntKind.u64 (0 : Int), Value.slice none (0 : Nat) (0 : Nat), Value.int IntKind.i64 (0 : Int)]
  w11 fun (a2 : Addr) (w12 : World) =>
  h3 w12 ∧
  StoreR a2
  [Value.slice q2 k1 k2, Value.int IntKind.i64 n6, Value.int IntKind.u64 n7, Value.slice q3 k3 k4,
  Value.int IntKind.u64 n8, Value.int IntKind.i64 n9, Value.int IntKind.i64 n10, Value.int IntKind.i64 n11,
  Value.int IntKind.i64 n12, Value.int IntKind.u64 n13, Value.slice q4 k5 k6, Value.int IntKind.i64 n14]
  w12 fun (w13 : World) => h3 w13 ∧ h2 [Value.pointer q1, Value.pointer (some a2)] w13) ∧
  NewR (43 : Nat)
  [Value.slice none (0 : Nat) (0 : Nat), Value.int IntKind.i64 (0 : Int), Value.int IntKind.u64 (0 : Int),
  Value.slice none (0 : Nat) (0 : Nat), Value.int IntKind.u64 (0 : Int), Value.int IntKind.i64 (0 : Int),
  Value.int IntKind.i64 (0 : Int), Value.int IntKind.i64 (0 : Int), Value.int IntKind.i64 (0 : Int),
  Value.int IntKind.u64 (0 : Int), Value.slice none (0 : Nat) (0 : Nat), Value.int IntKind.i64 (0 : Int)]
  w10 fun (a3 : Addr) (w14 : World) =>
  h3 w14 ∧
  Rets Tryz.prog (7 : Nat)
  { toList := [Value.int IntKind.i64 n4, Value.int IntKind.i64 n5, Value.int IntKind.u64 (5 : Int)] } w14
  fun (v12 : Value) (w15 : World) =>
  ∃ (q5 : Option Addr),
  ∃ (k7 : Nat),
  ∃ (k8 : Nat),
  ∃ (n15 : Int),
  ∃ (n16 : Int),
  ∃ (q6 : Option Addr),
  ∃ (k9 : Nat),
  ∃ (k10 : Nat),
  ∃ (n17 : Int),
  ∃ (n18 : Int),
  ∃ (n19 : Int),
  ∃ (n20 : Int),
  ∃ (n21 : Int),
  ∃ (n22 : Int),
  ∃ (q7 : Option Addr),
  ∃ (k11 : Nat),
  ∃ (k12 : Nat),
  ∃ (n23 : Int),
  v12 =
  Value.agg
  {
  toList :=
  [Value.slice q5 k7 k8, Value.int IntKind.i64 n15, Value.int IntKind.u64 n16, Value.slice q6 k9 k10,
  Value.int IntKind.u64 n17, Value.int IntKind.i64 n18, Value.int IntKind.i64 n19, Value.int IntKind.i64 n20,
  Value.int IntKind.i64 n21, Value.int IntKind.u64 n22, Value.slice q7 k11 k12, Value.int IntKind.i64 n23] } ∧
  h3 w15 ∧
  StoreR a3
  [Value.slice q5 k7 k8, Value.int IntKind.i64 n15, Value.int IntKind.u64 n16, Value.slice q6 k9 k10,
  Value.int IntKind.u64 n17, Value.int IntKind.i64 n18, Value.int IntKind.i64 n19, Value.int IntKind.i64 n20,
  Value.int IntKind.i64 n21, Value.int IntKind.u64 n22, Value.slice q7 k11 k12, Value.int IntKind.i64 n23]
  w15 fun (w16 : World) => h3 w16 ∧ h2 [Value.pointer q1, Value.pointer (some a3)] w16) ∧
  NewR (43 : Nat)
  [Value.slice none (0 : Nat) (0 : Nat), Value.int IntKind.i64 (0 : Int), Value.int IntKind.u64 (0 : Int),
  Value.slice none (0 : Nat) (0 : Nat), Value.int IntKind.u64 (0 : Int), Value.int IntKind.i64 (0 : Int),
  Value.int IntKind.i64 (0 : Int), Value.int IntKind.i64 (0 : Int), Value.int IntKind.i64 (0 : Int),
  Value.int IntKind.u64 (0 : Int), Value.slice none (0 : Nat) (0 : Nat), Value.int IntKind.i64 (0 : Int)]
  w5 fun (a4 : Addr) (w17 : World) =>
  h3 w17 ∧
  Rets Tryz.prog (6 : Nat)
  { toList := [Value.int IntKind.i64 n2, Value.int IntKind.i64 n3, Value.int IntKind.u64 (5 : Int)] } w17
  fun (v13 : Value) (w18 : World) =>
  ∃ (q8 : Option Addr),
  v13 = Value.pointer q8 ∧
  h3 w18 ∧
  Rets Tryz.prog (7 : Nat)
  { toList := [Value.int IntKind.i64 n4, Value.int IntKind.i64 n5, Value.int IntKind.u64 (5 : Int)] } w18
  fun (v14 : Value) (w19 : World) =>
  ∃ (q9 : Option Addr),
  ∃ (k13 : Nat),
  ∃ (k14 : Nat),
  ∃ (n24 : Int),
  ∃ (n25 : Int),
  ∃ (q10 : Option Addr),
  ∃ (k15 : Nat),
  ∃ (k16 : Nat),
  ∃ (n26 : Int),
  ∃ (n27 : Int),
  ∃ (n28 : Int),
  ∃ (n29 : Int),
  ∃ (n30 : Int),
  ∃ (n31 : Int),
  ∃ (q11 : Option Addr),
  ∃ (k17 : Nat),
  ∃ (k18 : Nat),
  ∃ (n32 : Int),
  v14 =
  Value.agg
  {
  toList :=
  [Value.slice q9 k13 k14, Value.int IntKind.i64 n24, Value.int IntKind.u64 n25, Value.slice q10 k15 k16,
  Value.int IntKind.u64 n26, Value.int IntKind.i64 n27, Value.int IntKind.i64 n28, Value.int IntKind.i64 n29,
  Value.int IntKind.i64 n30, Value.int IntKind.u64 n31, Value.slice q11 k17 k18, Value.int IntKind.i64 n32] } ∧
  h3 w19 ∧
  StoreR a4
  [Value.slice q9 k13 k14, Value.int IntKind.i64 n24, Value.int IntKind.u64 n25, Value.slice q10 k15 k16,
  Value.int IntKind.u64 n26, Value.int IntKind.i64 n27, Value.int IntKind.i64 n28, Value.int IntKind.i64 n29,
  Value.int IntKind.i64 n30, Value.int IntKind.u64 n31, Value.slice q11 k17 k18, Value.int IntKind.i64 n32]
  w19 fun (w20 : World) => h3 w20 ∧ h2 [Value.pointer q8, Value.pointer (some a4)] w20) ∧
  ∀ (w21 : World) (q12 q13 : Option Addr) (v15 v16 v17 v18 v19 v20 v21 v22 v23 v24 : Value),
  h2 [Value.pointer q12, Value.pointer q13] w21 →
  ∃ (h4 : List Value → World → Prop),
  (Drw w21 fun (w22 : World) =>
  ∃ (h5 : World → Prop),
  h5 w22 ∧
  ∃ (q14 : Option Addr),
  ∃ (k19 : Nat),
  ∃ (k20 : Nat),
  (∀ (w23 : World), h5 w23 → World.cell? w23 (Addr.add a1 (2 : Nat)) = some (Value.slice q14 k19 k20)) ∧
  ∃ (q15 : Option Addr),
  ∃ (k21 : Nat),
  ∃ (k22 : Nat),
  (∀ (w24 : World), h5 w24 → World.cell? w24 (Addr.add a1 (2 : Nat)) = some (Value.slice q15 k21 k22)) ∧
  (Rets Tryz.prog (8 : Nat) { toList := [Value.slice q14 k19 k20, Value.int IntKind.u64 (9 : Int)] } w22
  fun (v25 : Value) (w25 : World) =>
  ∃ (q16 : Option Addr),
  v25 = Value.pointer q16 ∧
  h5 w25 ∧
  NewR (49 : Nat) [Value.slice q15 k21 k22, Value.int IntKind.u64 (9 : Int), Value.int IntKind.i64 (0 : Int)] w25
  fun (a5 : Addr) (w26 : World) => h5 w26 ∧ h4 [Value.pointer q16, Value.pointer (some a5)] w26) ∧
  NewR (49 : Nat) [Value.slice q15 k21 k22, Value.int IntKind.u64 (9 : Int), Value.int IntKind.i64 (0 : Int)] w22
  fun (a6 : Addr) (w27 : World) =>
  h5 w27 ∧
  Rets Tryz.prog (8 : Nat) { toList := [Value.slice q14 k19 k20, Value.int IntKind.u64 (9 : Int)] } w27
  fun (v26 : Value) (w28 : World) =>
  ∃ (q17 : Option Addr), v26 = Value.pointer q17 ∧ h5 w28 ∧ h4 [Value.pointer q17, Value.pointer (some a6)] w28) ∧
  ∀ (w29 : World) (q18 q19 : Option Addr) (v27 v28 v29 v30 v31 v32 v33 : Value),
  h4 [Value.pointer q18, Value.pointer q19] w29 →
  ∃ (h6 : Nat → List Value → World → Prop),
  (∃ (k23 : Nat), h6 k23 [Value.int IntKind.i64 (0 : Int)] w29) ∧
  ∀ (k24 : Nat) (w30 : World) (v34 : Value) (n33 : Int)
  (v35 v36 v37 v38 v39 v40 v41 v42 v43 v44 v45 v46 v47 v48 v49 v50 v51 v52 v53 v54 v55 v56 v57 v58 v59 v60 v61 v62 v63 v64
  v65 v66 v67 v68 v69 v70 v71 v72 v73 v74 v75 v76 v77 v78 v79 v80 v81 v82 v83 v84 v85 v86 v87 v88 v89 v90 v91 v92 v93 v94
  v95 v96 v97 v98 v99 v100 v101 v102 v103 v104 v105 v106 v107 v108 v109 v110 v111 v112 v113 v114 v115 v116 v117 v118 v119
  v120 v121 v122 v123 v124 v125 v126 v127 v128 v129 v130 v131 v132 v133 v134 v135 v136 v137 v138 v139 v140 v141 v142 v143
  v144 v145 v146 v147 v148 v149 v150 v151 v152 : Value),
  h6 k24 [Value.int IntKind.i64 n33] w30 →
  (decide (n33 < (↑ls : Int)) = true →
  ∃ (h7 : List Value → World → Prop),
  (Drw w30 fun (w31 : World) =>
  ∃ (h8 : World → Prop),
  h8 w31 ∧
  (0 : Int) ≤ n33 ∧
  n33 < (↑ls : Int) ∧
  someR qs fun (a7 : Addr) =>
  someR q13 fun (a8 : Addr) =>
  ∃ (q20 : Option Addr),
  ∃ (k25 : Nat),
  ∃ (k26 : Nat),
  ∃ (n34 : Int),
  ∃ (n35 : Int),
  ∃ (q21 : Option Addr),
  ∃ (k27 : Nat),
  ∃ (k28 : Nat),
  ∃ (n36 : Int),
  ∃ (n37 : Int),
  ∃ (n38 : Int),
  ∃ (n39 : Int),
  ∃ (n40 : Int),
  ∃ (n41 : Int),
  ∃ (q22 : Option Addr),
  ∃ (k29 : Nat),
  ∃ (k30 : Nat),
  ∃ (n42 : Int),
  ((∀ (w32 : World), h8 w32 → World.cell? w32 (Addr.add a8 (0 : Nat)) = some (Value.slice q20 k25 k26)) ∧
  (∀ (w33 : World), h8 w33 → World.cell? w33 (Addr.add a8 ((0 : Nat) + (1 : Nat))) = some (Value.int IntKind.i64 n34)) ∧
  (∀ (w34 : World),
  h8 w34 → World.cell? w34 (Addr.add a8 ((0 : Nat) + (1 : Nat) + (1 : Nat))) = some (Value.int IntKind.u64 n35)) ∧
  (∀ (w35 : World),
  h8 w35 →
  World.cell? w35 (Addr.add a8 ((0 : Nat) + (1 : Nat) + (1 : Nat) + (1 : Nat))) = some (Value.slice q21 k27 k28)) ∧
  (∀ (w36 : World),
  h8 w36 →
  World.cell? w36 (Addr.add a8 ((0 : Nat) + (1 : Nat) + (1 : Nat) + (1 : Nat) + (1 : Nat))) =
  some (Value.int IntKind.u64 n36)) ∧
  (∀ (w37 : World),
  h8 w37 →
  World.cell? w37 (Addr.add a8 ((0 : Nat) + (1 : Nat) + (1 : Nat) + (1 : Nat) + (1 : Nat) + (1 : Nat))) =
  some (Value.int IntKind.i64 n37)) ∧
  (∀ (w38 : World),
  h8 w38 →
  World.cell? w38 (Addr.add a8 ((0 : Nat) + (1 : Nat) + (1 : Nat) + (1 : Nat) + (1 : Nat) + (1 : Nat) + (1 : Nat))) =
  some (Value.int IntKind.i64 n38)) ∧
  (∀ (w39 : World),
  h8 w39 →
  World.cell? w39
  (Addr.add a8 ((0 : Nat) + (1 : Nat) + (1 : Nat) + (1 : Nat) + (1 : Nat) + (1 : Nat) + (1 : Nat) + (1 : Nat))) =
  some (Value.int IntKind.i64 n39)) ∧
  (∀ (w40 : World),
  h8 w40 →
  World.cell? w40
  (Addr.add a8
  ((0 : Nat) + (1 : Nat) + (1 : Nat) + (1 : Nat) + (1 : Nat) + (1 : Nat) + (1 : Nat) + (1 : Nat) + (1 : Nat))) =
  some (Value.int IntKind.i64 n40)) ∧
  (∀ (w41 : World),
  h8 w41 →
  World.cell? w41
  (Addr.add a8
  ((0 : Nat) + (1 : Nat) + (1 : Nat) + (1 : Nat) + (1 : Nat) + (1 : Nat) + (1 : Nat) + (1 : Nat) + (1 : Nat) +
  (1 : Nat))) =
  some (Value.int IntKind.u64 n41)) ∧
  (∀ (w42 : World),
  h8 w42 →
  World.cell? w42
  (Addr.add a8
  ((0 : Nat) + (1 : Nat) + (1 : Nat) + (1 : Nat) + (1 : Nat) + (1 : Nat) + (1 : Nat) + (1 : Nat) + (1 : Nat) + (1 : Nat) +
  (1 : Nat))) =
  some (Value.slice q22 k29 k30)) ∧
  ∀ (w43 : World),
  h8 w43 →
  World.cell? w43
  (Addr.add a8
  ((0 : Nat) + (1 : Nat) + (1 : Nat) + (1 : Nat) + (1 : Nat) + (1 : Nat) + (1 : Nat) + (1 : Nat) + (1 : Nat) + (1 : Nat) +
  (1 : Nat) +
  (1 : Nat))) =
  some (Value.int IntKind.i64 n42)) ∧
  ∃ (n43 : Int),
  ∃ (n44 : Int),
  ∃ (n45 : Int),
  ((∀ (w44 : World),
  h8 w44 →
  World.cell? w44 (Addr.add (Addr.add a7 (Int.toNat n33 * (3 : Nat))) (0 : Nat)) = some (Value.int IntKind.u64 n43)) ∧
  (∀ (w45 : World),
  h8 w45 →
  World.cell? w45 (Addr.add (Addr.add a7 (Int.toNat n33 * (3 : Nat))) ((0 : Nat) + (1 : Nat))) =
  some (Value.int IntKind.u64 n44)) ∧
  ∀ (w46 : World),
  h8 w46 →
  World.cell? w46 (Addr.add (Addr.add a7 (Int.toNat n33 * (3 : Nat))) ((0 : Nat) + (1 : Nat) + (1 : Nat))) =
  some (Value.int IntKind.i64 n45)) ∧
  (Rets Tryz.prog (9 : Nat)
  {
  toList :=
  [Value.pointer q12,
  Value.agg
  {
  toList :=
  [Value.slice q20 k25 k26, Value.int IntKind.i64 n34, Value.int IntKind.u64 n35, Value.slice q21 k27 k28,
  Value.int IntKind.u64 n36, Value.int IntKind.i64 n37, Value.int IntKind.i64 n38, Value.int IntKind.i64 n39,
  Value.int IntKind.i64 n40, Value.int IntKind.u64 n41, Value.slice q22 k29 k30, Value.int IntKind.i64 n42] },
  Value.agg { toList := [Value.int IntKind.u64 n43, Value.int IntKind.u64 n44, Value.int IntKind.i64 n45] },
  Value.pointer q18, Value.pointer q19] }
  w31 fun (v153 : Value) (w47 : World) =>
  ∃ (q23 : Option Addr),
  ∃ (k31 : Nat),
  ∃ (k32 : Nat),
  ∃ (n46 : Int),
  ∃ (n47 : Int),
  ∃ (q24 : Option Addr),
  ∃ (k33 : Nat),
  ∃ (k34 : Nat),
  ∃ (n48 : Int),
  ∃ (n49 : Int),
  ∃ (n50 : Int),
  ∃ (n51 : Int),
  ∃ (n52 : Int),
  ∃ (n53 : Int),
  ∃ (q25 : Option Addr),
  ∃ (k35 : Nat),
  ∃ (k36 : Nat),
  ∃ (n54 : Int),
  ∃ (b4 : Bool),
  v153 =
  Value.tuple
  {
  toList :=
  [Value.agg
  {
  toList :=
  [Value.slice q23 k31 k32, Value.int IntKind.i64 n46, Value.int IntKind.u64 n47, Value.slice q24 k33 k34,
  Value.int IntKind.u64 n48, Value.int IntKind.i64 n49, Value.int IntKind.i64 n50, Value.int IntKind.i64 n51,
  Value.int IntKind.i64 n52, Value.int IntKind.u64 n53, Value.slice q25 k35 k36, Value.int IntKind.i64 n54] },
  Value.bool b4] } ∧
  h8 w47 ∧
  NewR (43 : Nat)
  [Value.slice none (0 : Nat) (0 : Nat), Value.int IntKind.i64 (0 : Int), Value.int IntKind.u64 (0 : Int),
  Value.slice none (0 : Nat) (0 : Nat), Value.int IntKind.u64 (0 : Int), Value.int IntKind.i64 (0 : Int),
  Value.int IntKind.i64 (0 : Int), Value.int IntKind.i64 (0 : Int), Value.int IntKind.i64 (0 : Int),
  Value.int IntKind.u64 (0 : Int), Value.slice none (0 : Nat) (0 : Nat), Value.int IntKind.i64 (0 : Int)]
  w47 fun (a9 : Addr) (w48 : World) =>
  h8 w48 ∧
  StoreR a9
  [Value.slice q23 k31 k32, Value.int IntKind.i64 n46, Value.int IntKind.u64 n47, Value.slice q24 k33 k34,
  Value.int IntKind.u64 n48, Value.int IntKind.i64 n49, Value.int IntKind.i64 n50, Value.int IntKind.i64 n51,
  Value.int IntKind.i64 n52, Value.int IntKind.u64 n53, Value.slice q25 k35 k36, Value.int IntKind.i64 n54]
  w48 fun (w49 : World) => h8 w49 ∧ h7 [Value.pointer (some a9), Value.bool b4] w49) ∧
  NewR (43 : Nat)
  [Value.slice none (0 : Nat) (0 : Nat), Value.int IntKind.i64 (0 : Int), Value.int IntKind.u64 (0 : Int),
  Value.slice none (0 : Nat) (0 : Nat), Value.int IntKind.u64 (0 : Int), Value.int IntKind.i64 (0 : Int),
  Value.int IntKind.i64 (0 : Int), Value.int IntKind.i64 (0 : Int), Value.int IntKind.i64 (0 : Int),
  Value.int IntKind.u64 (0 : Int), Value.slice none (0 : Nat) (0 : Nat), Value.int IntKind.i64 (0 : Int)]
  w31 fun (a10 : Addr) (w50 : World) =>
  h8 w50 ∧
  Rets Tryz.prog (9 : Nat)
  {
  toList :=
  [Value.pointer q12,
  Value.agg
  {
  toList :=
  [Value.slice q20 k25 k26, Value.int IntKind.i64 n34, Value.int IntKind.u64 n35, Value.slice q21 k27 k28,
  Value.int IntKind.u64 n36, Value.int IntKind.i64 n37, Value.int IntKind.i64 n38, Value.int IntKind.i64 n39,
  Value.int IntKind.i64 n40, Value.int IntKind.u64 n41, Value.slice q22 k29 k30, Value.int IntKind.i64 n42] },
  Value.agg { toList := [Value.int IntKind.u64 n43, Value.int IntKind.u64 n44, Value.int IntKind.i64 n45] },
  Value.pointer q18, Value.pointer q19] }
  w50 fun (v154 : Value) (w51 : World) =>
  ∃ (q26 : Option Addr),
  ∃ (k37 : Nat),
  ∃ (k38 : Nat),
  ∃ (n55 : Int),
  ∃ (n56 : Int),
  ∃ (q27 : Option Addr),
  ∃ (k39 : Nat),
  ∃ (k40 : Nat),
  ∃ (n57 : Int),
  ∃ (n58 : Int),
  ∃ (n59 : Int),
  ∃ (n60 : Int),
  ∃ (n61 : Int),
  ∃ (n62 : Int),
  ∃ (q28 : Option Addr),
  ∃ (k41 : Nat),
  ∃ (k42 : Nat),
  ∃ (n63 : Int),
  ∃ (b5 : Bool),
  v154 =
  Value.tuple
  {
  toList :=
  [Value.agg
  {
  toList :=
  [Value.slice q26 k37 k38, Value.int IntKind.i64 n55, Value.int IntKind.u64 n56, Value.slice q27 k39 k40,
  Value.int IntKind.u64 n57, Value.int IntKind.i64 n58, Value.int IntKind.i64 n59, Value.int IntKind.i64 n60,
  Value.int IntKind.i64 n61, Value.int IntKind.u64 n62, Value.slice q28 k41 k42, Value.int IntKind.i64 n63] },
  Value.bool b5] } ∧
  h8 w51 ∧
  StoreR a10
  [Value.slice q26 k37 k38, Value.int IntKind.i64 n55, Value.int IntKind.u64 n56, Value.slice q27 k39 k40,
  Value.int IntKind.u64 n57, Value.int IntKind.i64 n58, Value.int IntKind.i64 n59, Value.int IntKind.i64 n60,
  Value.int IntKind.i64 n61, Value.int IntKind.u64 n62, Value.slice q28 k41 k42, Value.int IntKind.i64 n63]
  w51 fun (w52 : World) => h8 w52 ∧ h7 [Value.pointer (some a10), Value.bool b5] w52) ∧
  ∀ (w53 : World) (q29 : Option Addr) (b6 : Bool) (v155 v156 v157 v158 v159 v160 v161 v162 v163 v164 v165 v166 : Value),
  h7 [Value.pointer q29, Value.bool b6] w53 →
  someR q29 fun (a11 : Addr) =>
  ∃ (q30 : Option Addr),
  ∃ (k43 : Nat),
  ∃ (k44 : Nat),
  ∃ (n64 : Int),
  ∃ (n65 : Int),
  ∃ (q31 : Option Addr),
  ∃ (k45 : Nat),
  ∃ (k46 : Nat),
  ∃ (n66 : Int),
  ∃ (n67 : Int),
  ∃ (n68 : Int),
  ∃ (n69 : Int),
  ∃ (n70 : Int),
  ∃ (n71 : Int),
  ∃ (q32 : Option Addr),
  ∃ (k47 : Nat),
  ∃ (k48 : Nat),
  ∃ (n72 : Int),
  (cellAt w53 (Addr.add a11 (0 : Nat)) (Value.slice q30 k43 k44) ∧
  cellAt w53 (Addr.add a11 (1 : Nat)) (Value.int IntKind.i64 n64) ∧
  cellAt w53 (Addr.add a11 (2 : Nat)) (Value.int IntKind.u64 n65) ∧
  cellAt w53 (Addr.add a11 (3 : Nat)) (Value.slice q31 k45 k46) ∧
  cellAt w53 (Addr.add a11 (4 : Nat)) (Value.int IntKind.u64 n66) ∧
  cellAt w53 (Addr.add a11 (5 : Nat)) (Value.int IntKind.i64 n67) ∧
  cellAt w53 (Addr.add a11 (6 : Nat)) (Value.int IntKind.i64 n68) ∧
  cellAt w53 (Addr.add a11 (7 : Nat)) (Value.int IntKind.i64 n69) ∧
  cellAt w53 (Addr.add a11 (8 : Nat)) (Value.int IntKind.i64 n70) ∧
  cellAt w53 (Addr.add a11 (9 : Nat)) (Value.int IntKind.u64 n71) ∧
  cellAt w53 (Addr.add a11 (10 : Nat)) (Value.slice q32 k47 k48) ∧
  cellAt w53 (Addr.add a11 (11 : Nat)) (Value.int IntKind.i64 n72)) ∧
  someR q13 fun (a12 : Addr) =>
  StoreR a12
  [Value.slice q30 k43 k44, Value.int IntKind.i64 n64, Value.int IntKind.u64 n65, Value.slice q31 k45 k46,
  Value.int IntKind.u64 n66, Value.int IntKind.i64 n67, Value.int IntKind.i64 n68, Value.int IntKind.i64 n69,
  Value.int IntKind.i64 n70, Value.int IntKind.u64 n71, Value.slice q32 k47 k48, Value.int IntKind.i64 n72]
  w53 fun (w54 : World) =>
  Rets Tryz.prog (10 : Nat) { toList := [Value.pointer q12] } w54 fun (v167 : Value) (w55 : World) =>
  ∃ (q33 : Option Addr),
  v167 = Value.pointer q33 ∧
  ∃ (h9 : List Value → World → Prop),
  (Drw w55 fun (w56 : World) =>
  ∃ (h10 : World → Prop),
  h10 w56 ∧
  ((!b6) = false →
  (Option.isNone q33 = false →
  someR q19 fun (a13 : Addr) =>
  ∃ (n73 : Int),
  (∀ (w57 : World), h10 w57 → World.cell? w57 (Addr.add a13 (2 : Nat)) = some (Value.int IntKind.i64 n73)) ∧
  Rets Tryz.prog (11 : Nat) { toList := [Value.pointer q18] } w56 fun (v168 : Value) (w58 : World) =>
  ∃ (n74 : Int),
  v168 = Value.int IntKind.i64 n74 ∧
  h10 w58 ∧
  ((n74 != n73) = false →
  (0 : Int) ≤ n33 ∧
  n33 < (↑ls : Int) ∧
  someR qs fun (a14 : Addr) =>
  someR q13 fun (a15 : Addr) =>
  (0 : Int) ≤ n33 ∧
  n33 < (↑ls : Int) ∧
  someR qs fun (a16 : Addr) =>
  ∃ (n75 : Int),
  (∀ (w59 : World),
  h10 w59 →
  World.cell? w59 (Addr.add (Addr.add a14 (Int.toNat n33 * (3 : Nat))) (1 : Nat)) = some (Value.int IntKind.u64 n75)) ∧
  ∃ (q34 : Option Addr),
  ∃ (k49 : Nat),
  ∃ (k50 : Nat),
  ∃ (n76 : Int),
  ∃ (n77 : Int),
  ∃ (q35 : Option Addr),
  ∃ (k51 : Nat),
  ∃ (k52 : Nat),
  ∃ (n78 : Int),
  ∃ (n79 : Int),
  ∃ (n80 : Int),
  ∃ (n81 : Int),
  ∃ (n82 : Int),
  ∃ (n83 : Int),
  ((∀ (w60 : World),
  h10 w60 → World.cell? w60 (Addr.add (Addr.add a15 (0 : Nat)) (0 : Nat)) = some (Value.slice q34 k49 k50)) ∧
  (∀ (w61 : World),
  h10 w61 →
  World.cell? w61 (Addr.add (Addr.add a15 (0 : Nat)) ((0 : Nat) + (1 : Nat))) = some (Value.int IntKind.i64 n76)) ∧
  (∀ (w62 : World),
  h10 w62 →
  World.cell? w62 (Addr.add (Addr.add a15 (0 : Nat)) ((0 : Nat) + (1 : Nat) + (1 : Nat))) =
  some (Value.int IntKind.u64 n77)) ∧
  (∀ (w63 : World),
  h10 w63 →
  World.cell? w63 (Addr.add (Addr.add a15 (0 : Nat)) ((0 : Nat) + (1 : Nat) + (1 : Nat) + (1 : Nat))) =
  some (Value.slice q35 k51 k52)) ∧
  (∀ (w64 : World),
  h10 w64 →
  World.cell? w64 (Addr.add (Addr.add a15 (0 : Nat)) ((0 : Nat) + (1 : Nat) + (1 : Nat) + (1 : Nat) + (1 : Nat))) =
  some (Value.int IntKind.u64 n78)) ∧
  (∀ (w65 : World),
  h10 w65 →
  World.cell? w65
  (Addr.add (Addr.add a15 (0 : Nat)) ((0 : Nat) + (1 : Nat) + (1 : Nat) + (1 : Nat) + (1 : Nat) + (1 : Nat))) =
  some (Value.int IntKind.i64 n79)) ∧
  (∀ (w66 : World),
  h10 w66 →
  World.cell? w66
  (Addr.add (Addr.add a15 (0 : Nat))
  ((0 : Nat) + (1 : Nat) + (1 : Nat) + (1 : Nat) + (1 : Nat) + (1 : Nat) + (1 : Nat))) =
  some (Value.int IntKind.i64 n80)) ∧
  (∀ (w67 : World),
  h10 w67 →
  World.cell? w67
  (Addr.add (Addr.add a15 (0 : Nat))
  ((0 : Nat) + (1 : Nat) + (1 : Nat) + (1 : Nat) + (1 : Nat) + (1 : Nat) + (1 : Nat) + (1 : Nat))) =
  some (Value.int IntKind.i64 n81)) ∧
  (∀ (w68 : World),
  h10 w68 →
  World.cell? w68
  (Addr.add (Addr.add a15 (0 : Nat))
  ((0 : Nat) + (1 : Nat) + (1 : Nat) + (1 : Nat) + (1 : Nat) + (1 : Nat) + (1 : Nat) + (1 : Nat) + (1 : Nat))) =
  some (Value.int IntKind.i64 n82)) ∧
  ∀ (w69 : World),
  h10 w69 →
  World.cell? w69
  (Addr.add (Addr.add a15 (0 : Nat))
  ((0 : Nat) + (1 : Nat) + (1 : Nat) + (1 : Nat) + (1 : Nat) + (1 : Nat) + (1 : Nat) + (1 : Nat) + (1 : Nat) +
  (1 : Nat))) =
  some (Value.int IntKind.u64 n83)) ∧
  ∃ (n84 : Int),
  (∀ (w70 : World),
  h10 w70 →
  World.cell? w70 (Addr.add (Addr.add a16 (Int.toNat n33 * (3 : Nat))) (1 : Nat)) = some (Value.int IntKind.u64 n84)) ∧
  Rets Tryz.prog (12 : Nat) { toList := [Value.pointer q12, Value.int IntKind.u64 n75] } w58
  fun (v169 : Value) (w71 : World) =>
  ∃ (n85 : Int),
  v169 = Value.int IntKind.i64 n85 ∧
  h10 w71 ∧
  Rets Tryz.prog (13 : Nat)
  {
  toList :=
  [Value.agg
  {
  toList :=
  [Value.slice q34 k49 k50, Value.int IntKind.i64 n76, Value.int IntKind.u64 n77, Value.slice q35 k51 k52,
  Value.int IntKind.u64 n78, Value.int IntKind.i64 n79, Value.int IntKind.i64 n80, Value.int IntKind.i64 n81,
  Value.int IntKind.i64 n82, Value.int IntKind.u64 n83] },
  Value.int IntKind.u64 n84] }
  w71 fun (v170 : Value) (w72 : World) =>
  ∃ (n86 : Int),
  v170 = Value.int IntKind.i64 n86 ∧
  h10 w72 ∧
  ((n85 != n86) = false →
  someR q13 fun (a17 : Addr) =>
  ∃ (q36 : Option Addr),
  ∃ (k53 : Nat),
  ∃ (k54 : Nat),
  ∃ (n87 : Int),
  ((∀ (w73 : World),
  h10 w73 → World.cell? w73 (Addr.add (Addr.add a17 (10 : Nat)) (0 : Nat)) = some (Value.slice q36 k53 k54)) ∧
  ∀ (w74 : World),
  h10 w74 →
  World.cell? w74 (Addr.add (Addr.add a17 (10 : Nat)) ((0 : Nat) + (1 : Nat))) = some (Value.int IntKind.i64 n87)) ∧
  Rets Tryz.prog (14 : Nat) { toList := [Value.pointer q33] } w72 fun (v171 : Value) (w75 : World) =>
  ∃ (n88 : Int),
  v171 = Value.int IntKind.i64 n88 ∧
  h10 w75 ∧
  Rets Tryz.prog (15 : Nat) { toList := [Value.agg { toList := [Value.slice q36 k53 k54, Value.int IntKind.i64 n87] }] }
  w75 fun (v172 : Value) (w76 : World) =>
  ∃ (n89 : Int),
  v172 = Value.int IntKind.i64 n89 ∧
  h10 w76 ∧
  ((n88 != n89) = false →
  someR q13 fun (a18 : Addr) =>
  ∃ (n90 : Int),
  (∀ (w77 : World),
  h10 w77 → World.cell? w77 (Addr.add (Addr.add a18 (10 : Nat)) (1 : Nat)) = some (Value.int IntKind.i64 n90)) ∧
  Rets Tryz.prog (16 : Nat) { toList := [Value.pointer q33] } w76 fun (v173 : Value) (w78 : World) =>
  ∃ (n91 : Int),
  v173 = Value.int IntKind.i64 n91 ∧
  h10 w78 ∧
  ((n91 != n90) = false →
  someR q13 fun (a19 : Addr) =>
  ∃ (q37 : Option Addr),
  ∃ (k55 : Nat),
  ∃ (k56 : Nat),
  (∀ (w79 : World),
  h10 w79 → World.cell? w79 (Addr.add (Addr.add a19 (10 : Nat)) (0 : Nat)) = some (Value.slice q37 k55 k56)) ∧
  Rets Tryz.prog (17 : Nat) { toList := [Value.pointer q33] } w78 fun (v174 : Value) (w80 : World) =>
  ∃ (n92 : Int), v174 = Value.int IntKind.i64 n92 ∧ h10 w80 ∧ h9 [Value.bool (n92 != (↑k55 : Int))] w80) ∧
  ((n91 != n90) = true → h9 [Value.bool true] w78)) ∧
  ((n88 != n89) = true → h9 [Value.bool true] w76)) ∧
  ((n85 != n86) = true → h9 [Value.bool true] w72)) ∧
  ((n74 != n73) = true → h9 [Value.bool true] w58)) ∧
  (Option.isNone q33 = true → h9 [Value.bool true] w56)) ∧
  ((!b6) = true → h9 [Value.bool true] w56)) ∧
  ∀ (w81 : World)
  (v175 v176 v177 v178 v179 v180 v181 v182 v183 v184 v185 v186 v187 v188 v189 v190 v191 v192 v193 v194 v195 v196 v197 v198
  v199 v200 v201 v202 v203 v204 v205 v206 v207 v208 v209 v210 v211 v212 v213 v214 v215 v216 v217 v218 v219 v220 v221 v222
  v223 v224 v225 v226 v227 v228 v229 v230 v231 : Value)
  (b7 : Bool),
  h9 [Value.bool b7] w81 →
  (b7 = true → K (Value.bool false) w81) ∧
  (b7 = false →
  ∃ (h11 : Nat → List Value → World → Prop),
  (∃ (k57 : Nat), h11 k57 [Value.int IntKind.i64 (0 : Int)] w81) ∧
  ∀ (k58 : Nat) (w82 : World) (v232 : Value) (n93 : Int)
  (v233 v234 v235 v236 v237 v238 v239 v240 v241 v242 v243 v244 v245 v246 v247 v248 v249 v250 v251 v252 v253 v254 v255 v256
  v257 v258 v259 v260 v261 v262 v263 v264 v265 v266 v267 : Value),
  h11 k58 [Value.int IntKind.i64 n93] w82 →
  someR q13 fun (a20 : Addr) =>
  ∃ (q38 : Option Addr),
  ∃ (k59 : Nat),
  ∃ (k60 : Nat),
  cellAt w82 (Addr.add (Addr.add a20 (10 : Nat)) (0 : Nat)) (Value.slice q38 k59 k60) ∧
  (decide (n93 < (↑k59 : Int)) = true →
  someR q13 fun (a21 : Addr) =>
  ∃ (q39 : Option Addr),
  ∃ (k61 : Nat),
  ∃ (k62 : Nat),
  cellAt w82 (Addr.add (Addr.add a21 (10 : Nat)) (0 : Nat)) (Value.slice q39 k61 k62) ∧
  (0 : Int) ≤ n93 ∧
  n93 < (↑k61 : Int) ∧
  someR q39 fun (a22 : Addr) =>
  ∃ (n94 : Int),
  cellAt w82 (Addr.add (Addr.add a22 (Int.toNat n93 * (2 : Nat))) (0 : Nat)) (Value.int IntKind.u64 n94) ∧
  Rets Tryz.prog (18 : Nat) { toList := [Value.pointer q33, Value.int IntKind.u64 n94] } w82
  fun (v268 : Value) (w83 : World) =>
  ∃ (n95 : Int),
  ∃ (b8 : Bool),
  v268 = Value.tuple { toList := [Value.int IntKind.i64 n95, Value.bool b8] } ∧
  ∃ (h12 : List Value → World → Prop),
  (((!b8) = false →
  someR q13 fun (a23 : Addr) =>
  ∃ (q40 : Option Addr),
  ∃ (k63 : Nat),
  ∃ (k64 : Nat),
  cellAt w83 (Addr.add (Addr.add a23 (10 : Nat)) (0 : Nat)) (Value.slice q40 k63 k64) ∧
  (0 : Int) ≤ n93 ∧
  n93 < (↑k63 : Int) ∧
  someR q40 fun (a24 : Addr) =>
  ∃ (n96 : Int),
  cellAt w83 (Addr.add (Addr.add a24 (Int.toNat n93 * (2 : Nat))) (1 : Nat)) (Value.int IntKind.i64 n96) ∧
  h12 [Value.bool (n95 != n96)] w83) ∧
  ((!b8) = true → h12 [Value.bool true] w83)) ∧
  ∀ (w84 : World) (v269 v270 v271 v272 v273 v274 v275 v276 v277 v278 v279 v280 : Value) (b9 : Bool),
  h12 [Value.bool b9] w84 →
  (b9 = true → K (Value.bool false) w84) ∧
  (b9 = false →
  ∃ (k65 : Nat), k65 < k58 ∧ h11 k65 [Value.int IntKind.i64 (IntKind.wrap IntKind.i64 (n93 + (1 : Int)))] w84)) ∧
  (decide (n93 < (↑k59 : Int)) = false →
  ∃ (k66 : Nat), k66 < k24 ∧ h6 k66 [Value.int IntKind.i64 (IntKind.wrap IntKind.i64 (n33 + (1 : Int)))] w82))) ∧
  (decide (n33 < (↑ls : Int)) = false →
  ∃ (h13 : List Value → World → Prop),
  (Rets Tryz.prog (19 : Nat) { toList := [Value.pointer q12] } w30 fun (v281 : Value) (w85 : World) =>
  ∃ (q41 : Option Addr),
  v281 = Value.pointer q41 ∧
  ((!Option.isNone q41) = true →
  Rets Tryz.prog (5 : Nat) { toList := [] } w85 fun (v282 : Value) (w86 : World) =>
  ∃ (b10 : Bool), v282 = Value.bool b10 ∧ h13 [Value.bool b10] w86) ∧
  ((!Option.isNone q41) = false → h13 [Value.bool false] w85)) ∧
  ∀ (w87 : World) (b11 : Bool) (v283 v284 v285 v286 v287 v288 : Value),
  h13 [Value.bool b11] w87 → K (Value.bool b11) w87))
theorem cortadolaw26_PolicyPlays_eq (a b : Int) (q : Option Addr) (l c : Nat) (qs : Option Addr) (ls cs : Nat) (w : World) (K : Value → World → Prop) : fw Tryz.prog Tryz.f3 (annL [(2, [(4, none), (9, some 3), (10, none), (11, none), (12, none), (13, none), (14, none), (15, none), (42, none), (43, none), (44, none), (45, none), (46, none), (47, none), (48, none), (49, none), (50, none), (51, none), (52, none), (53, none), (54, none), (55, none), (56, none), (57, none), (58, none), (59, none), (60, none), (61, none), (62, none), (63, none), (64, none), (65, none), (66, none), (67, none), (68, none), (69, none), (70, none), (71, none), (72, none), (73, none), (74, none), (75, none), (76, none), (77, none), (78, none), (79, none), (80, none), (81, none), (82, none), (83, none), (84, none), (85, none), (86, none), (87, none), (88, none), (89, none), (90, none), (91, none), (92, none), (93, none), (94, none), (95, none), (96, none), (97, none), (98, none), (99, none), (100, none), (101, none), (102, none), (103, none), (104, none), (105, none), (106, none), (107, none), (108, none), (109, none), (110, none), (111, none), (112, none), (113, none), (114, none), (115, none), (116, none), (117, none), (118, none), (119, none), (120, none), (121, none), (122, none), (123, none), (124, none), (125, none), (126, none), (127, none), (128, none), (129, none), (130, none), (131, none), (132, none), (133, none), (134, none), (135, none), (136, none), (137, none), (138, none), (139, none), (140, none), (141, none), (142, none), (143, none), (144, none), (145, none), (146, none), (147, none), (148, none), (149, none), (150, none), (151, none), (152, none), (153, none)]), (7, [(4, none), (13, some 3), (14, none), (15, none), (121, none), (122, none), (123, none), (124, none), (125, none), (126, none), (127, none), (128, none), (129, none), (130, none), (131, none), (132, none), (133, none), (134, none), (135, none), (136, none), (137, none), (138, none), (139, none), (140, none), (141, none), (142, none), (143, none), (144, none), (145, none), (146, none), (147, none), (148, none), (149, none), (150, none), (151, none), (152, none), (153, none)])]) (ordL [(2000001, [(16, 0), (17, 0), (18, 0), (19, 0), (20, 0), (21, 0), (22, 0), (23, 5)]), (2000003, [(5, 29), (6, 16), (25, 0), (26, 0), (27, 0), (28, 0), (29, 0), (30, 0), (31, 0), (32, 0), (33, 0), (34, 0)]), (3, [(0, 0), (2, 0), (5, 0), (7, 0), (1, 1), (3, 1), (6, 1), (8, 1), (0, 6), (4, 2), (0, 6), (9, 2), (10, 2), (11, 0), (12, 2), (0, 7), (10, 2), (9, 2), (11, 0), (12, 2), (0, 7), (10, 2), (4, 2), (9, 2), (11, 0), (12, 2), (0, 7)]), (2000004, [(7, 46), (8, 48), (35, 0), (36, 0), (37, 0), (38, 0), (39, 0), (40, 0), (41, 0)]), (4, [(0, 0), (3, 0), (1, 1), (4, 1), (5, 0), (0, 6), (2, 2), (7, 0), (6, 2), (8, 0), (0, 7), (6, 2), (2, 2), (7, 0), (8, 0), (0, 7)]), (2000008, [(10, 16), (11, 5), (48, 0), (49, 0), (50, 0), (51, 0), (52, 0), (53, 0), (54, 0), (55, 0), (56, 0), (57, 0), (58, 0), (59, 0)]), (8, [(0, 0), (2, 0), (3, 0), (4, 0), (6, 0), (7, 0), (1, 1), (5, 1), (0, 6), (8, 2), (9, 0), (10, 0), (11, 0), (12, 2), (13, 2), (14, 0), (0, 7), (12, 2), (8, 2), (9, 0), (10, 0), (11, 0), (13, 2), (14, 0), (0, 7)]), (2000011, [(63, 0), (64, 0), (65, 0), (66, 0), (67, 0), (68, 0), (69, 0), (70, 0), (71, 0), (72, 0), (73, 0), (74, 0), (75, 0), (76, 0), (77, 0), (78, 0), (79, 0), (80, 0), (81, 0), (82, 0), (83, 0), (84, 0), (85, 0), (86, 0), (87, 0), (88, 0), (89, 0), (90, 0), (91, 0), (92, 0), (93, 0), (94, 0), (95, 0), (96, 0), (97, 0), (98, 0), (99, 0), (100, 0), (101, 0), (102, 0), (103, 0), (104, 0), (105, 0), (106, 0), (107, 0), (108, 0), (109, 0), (110, 0), (111, 0), (112, 0), (113, 0), (114, 0), (115, 0), (116, 0), (117, 0), (118, 0), (119, 0), (120, 5)]), (11, [(0, 0), (1, 0), (2, 0), (3, 0), (4, 0), (5, 0), (6, 0), (7, 0), (9, 0), (10, 0), (11, 0), (12, 1), (8, 2), (13, 0), (14, 0), (15, 0), (16, 0), (17, 0), (18, 0), (19, 0), (20, 0), (23, 0), (25, 0), (26, 0), (27, 0), (28, 0), (21, 1), (24, 1), (29, 1), (22, 2), (30, 2), (31, 0), (32, 0), (33, 0), (34, 0), (36, 0), (37, 1), (35, 2), (38, 2), (39, 0), (40, 0), (41, 0), (42, 0), (44, 0), (45, 0), (46, 1), (43, 2), (47, 0), (48, 0), (49, 0), (50, 0), (52, 0), (53, 0), (54, 1), (55, 0), (51, 2), (56, 0), (57, 0)]), (2000017, [(141, 0), (142, 0), (143, 0), (144, 0), (145, 0), (146, 0), (147, 0), (148, 0), (149, 0), (150, 0), (151, 0), (152, 0), (153, 5)]), (2000019, [(4, 5), (154, 0), (155, 0), (156, 0), (157, 0), (158, 0), (159, 0)])]) [.agg #[.int .i64 a, .int .i64 b, .slice q l c], .slice qs ls cs] w K = cortadolaw26_PolicyPlays_m a b q l c qs ls cs w K := by kernel_rfl
theorem cortadolaw26_PolicyPlays_go (a b : Int) (q : Option Addr) (l c : Nat) (qs : Option Addr) (ls cs : Nat) {w : World} {K : Value → World → Prop} (h : cortadolaw26_PolicyPlays_m a b q l c qs ls cs w K) : Rets Tryz.prog 3 #[.agg #[.int .i64 a, .int .i64 b, .slice q l c], .slice qs ls cs] w K :=
  calls_of_fw plain mixed Tryz.func3 (by kernel_rfl) (by rw [cortadolaw26_PolicyPlays_eq]; exact h)
end Go.Proofs.YtggflkjdgcdcmaaGreatDoor.Eng
