/- What the code of these functions asks for: printed by a program of this session's (gens.py) out of the seat's own functions; the kernel checks each row. -/
import Derived.Test.YtkcaeknkfgpnhaaEngH
import Derived.Test.YtkcaeknkfgpnhaaProg
import Derived.Test.YtkcaeknkfgpnhaaBase
namespace Go.Proofs.Ytkcaeknkfgpnhaa.Eng
open Go Go.Proofs
set_option linter.unusedVariables false
set_option maxRecDepth 1000000
def cortadolaw08_RankPlays_m (q : Option Addr) (l c : Nat) (w : World) (K : Value → World → Prop) : Prop :=
  (decide ((↑l : Int) > (40 : Int)) = true →
  Rets Try.prog (17 : Nat) { toList := [] } w fun (v1 : Value) (w1 : World) =>
  ∃ (b1 : Bool), v1 = Value.bool b1 ∧ K (Value.bool b1) w1) ∧
  (decide ((↑l : Int) > (40 : Int)) = false →
  Rets Try.prog (18 : Nat) { toList := [Value.func (Fn.func (19 : Nat)) { toList := [] } { toList := [] }] } w
  fun (v2 : Value) (w2 : World) =>
  ∃ (q1 : Option Addr),
  v2 = Value.pointer q1 ∧
  ∃ (h1 : Nat → List Value → World → Prop),
  (∃ (k1 : Nat), h1 k1 [Value.pointer q1, Value.slice none (0 : Nat) (0 : Nat), Value.int IntKind.i64 (0 : Int)] w2) ∧
  ∀ (k2 : Nat) (w3 : World) (v3 : Value) (q2 q3 : Option Addr) (k3 k4 : Nat) (n1 : Int)
  (v4 v5 v6 v7 v8 v9 v10 v11 v12 v13 v14 v15 v16 v17 v18 v19 v20 v21 v22 v23 v24 v25 v26 v27 v28 v29 v30 v31 v32 v33 v34
  v35 v36 v37 v38 v39 v40 v41 v42 v43 v44 v45 v46 v47 v48 v49 v50 v51 v52 v53 v54 v55 v56 v57 v58 v59 v60 v61 v62 v63 v64
  v65 v66 v67 v68 v69 v70 v71 v72 v73 v74 v75 v76 v77 v78 v79 v80 v81 v82 v83 v84 v85 v86 v87 v88 v89 v90 v91 v92 v93 v94
  v95 v96 v97 v98 v99 v100 v101 v102 v103 v104 v105 v106 v107 v108 v109 v110 v111 v112 v113 v114 v115 v116 v117 v118 v119
  v120 v121 v122 v123 v124 v125 v126 v127 v128 v129 v130 v131 v132 v133 v134 v135 v136 v137 v138 v139 v140 v141 v142 v143
  v144 v145 v146 v147 v148 v149 v150 v151 : Value),
  h1 k2 [Value.pointer q2, Value.slice q3 k3 k4, Value.int IntKind.i64 n1] w3 →
  (decide (n1 < (↑l : Int)) = true →
  (0 : Int) ≤ n1 ∧
  n1 < (↑l : Int) ∧
  someR q fun (a1 : Addr) =>
  ∃ (n2 : Int),
  cellAt w3 (Addr.add (Addr.add a1 (Int.toNat n1 * (3 : Nat))) (0 : Nat)) (Value.int IntKind.u64 n2) ∧
  (3 : Int) ≠ (0 : Int) ∧
  ((Int.tmod n2 (3 : Int) == (0 : Int)) = true →
  Drw w3 fun (w4 : World) =>
  ∃ (h2 : World → Prop),
  h2 w4 ∧
  (0 : Int) ≤ n1 ∧
  n1 < (↑l : Int) ∧
  someR q fun (a2 : Addr) =>
  (0 : Int) ≤ n1 ∧
  n1 < (↑l : Int) ∧
  someR q fun (a3 : Addr) =>
  (0 : Int) ≤ n1 ∧
  n1 < (↑l : Int) ∧
  someR q fun (a4 : Addr) =>
  (0 : Int) ≤ n1 ∧
  n1 < (↑l : Int) ∧
  someR q fun (a5 : Addr) =>
  ∃ (n3 : Int),
  (∀ (w5 : World),
  h2 w5 →
  World.cell? w5 (Addr.add (Addr.add a2 (Int.toNat n1 * (3 : Nat))) (1 : Nat)) = some (Value.int IntKind.i64 n3)) ∧
  ∃ (n4 : Int),
  (∀ (w6 : World),
  h2 w6 →
  World.cell? w6 (Addr.add (Addr.add a3 (Int.toNat n1 * (3 : Nat))) (2 : Nat)) = some (Value.int IntKind.i64 n4)) ∧
  ∃ (n5 : Int),
  (∀ (w7 : World),
  h2 w7 →
  World.cell? w7 (Addr.add (Addr.add a4 (Int.toNat n1 * (3 : Nat))) (1 : Nat)) = some (Value.int IntKind.i64 n5)) ∧
  ∃ (n6 : Int),
  (∀ (w8 : World),
  h2 w8 →
  World.cell? w8 (Addr.add (Addr.add a5 (Int.toNat n1 * (3 : Nat))) (2 : Nat)) = some (Value.int IntKind.i64 n6)) ∧
  Rets Try.prog (20 : Nat) { toList := [Value.pointer q2, Value.int IntKind.i64 n3, Value.int IntKind.i64 n4] } w4
  fun (v152 : Value) (w9 : World) =>
  ∃ (q4 : Option Addr),
  v152 = Value.pointer q4 ∧
  h2 w9 ∧
  Rets Try.prog (21 : Nat) { toList := [Value.slice q3 k3 k4, Value.int IntKind.i64 n5, Value.int IntKind.i64 n6] } w9
  fun (v153 : Value) (w10 : World) =>
  ∃ (q5 : Option Addr),
  ∃ (k5 : Nat),
  ∃ (k6 : Nat),
  v153 = Value.slice q5 k5 k6 ∧
  (0 : Int) ≤ n1 ∧
  n1 < (↑l : Int) ∧
  someR q fun (a6 : Addr) =>
  ∃ (n7 : Int),
  cellAt w10 (Addr.add (Addr.add a6 (Int.toNat n1 * (3 : Nat))) (1 : Nat)) (Value.int IntKind.i64 n7) ∧
  Rets Try.prog (24 : Nat) { toList := [Value.pointer q4, Value.int IntKind.i64 n7] } w10
  fun (v154 : Value) (w11 : World) =>
  ∃ (n8 : Int),
  ∃ (b2 : Bool),
  v154 = Value.tuple { toList := [Value.int IntKind.i64 n8, Value.bool b2] } ∧
  (0 : Int) ≤ n1 ∧
  n1 < (↑l : Int) ∧
  someR q fun (a7 : Addr) =>
  ∃ (n9 : Int),
  cellAt w11 (Addr.add (Addr.add a7 (Int.toNat n1 * (3 : Nat))) (1 : Nat)) (Value.int IntKind.i64 n9) ∧
  Rets Try.prog (25 : Nat) { toList := [Value.slice q5 k5 k6, Value.int IntKind.i64 n9] } w11
  fun (v155 : Value) (w12 : World) =>
  ∃ (n10 : Int),
  ∃ (b3 : Bool),
  v155 = Value.tuple { toList := [Value.int IntKind.i64 n10, Value.bool b3] } ∧
  (0 : Int) ≤ n1 ∧
  n1 < (↑l : Int) ∧
  someR q fun (a8 : Addr) =>
  ∃ (n11 : Int),
  cellAt w12 (Addr.add (Addr.add a8 (Int.toNat n1 * (3 : Nat))) (1 : Nat)) (Value.int IntKind.i64 n11) ∧
  Rets Try.prog (26 : Nat) { toList := [Value.pointer q4, Value.int IntKind.i64 n11] } w12
  fun (v156 : Value) (w13 : World) =>
  ∃ (n12 : Int),
  ∃ (b4 : Bool),
  v156 = Value.tuple { toList := [Value.int IntKind.i64 n12, Value.bool b4] } ∧
  (0 : Int) ≤ n1 ∧
  n1 < (↑l : Int) ∧
  someR q fun (a9 : Addr) =>
  ∃ (n13 : Int),
  cellAt w13 (Addr.add (Addr.add a9 (Int.toNat n1 * (3 : Nat))) (1 : Nat)) (Value.int IntKind.i64 n13) ∧
  Rets Try.prog (27 : Nat) { toList := [Value.slice q5 k5 k6, Value.int IntKind.i64 n13] } w13
  fun (v157 : Value) (w14 : World) =>
  ∃ (n14 : Int),
  ∃ (b5 : Bool),
  v157 = Value.tuple { toList := [Value.int IntKind.i64 n14, Value.bool b5] } ∧
  ((n8 != n10) = false →
  ((!b2 == b3) = false →
  ((n12 != n14) = false →
  ((!b4 == b5) = false →
  Rets Try.prog (28 : Nat) { toList := [Value.pointer q4, Value.slice q5 k5 k6] } w14 fun (v158 : Value) (w15 : World) =>
  ∃ (b6 : Bool),
  v158 = Value.bool b6 ∧
  ((!b6) = false →
  Rets Try.prog (28 : Nat) { toList := [Value.pointer q2, Value.slice q3 k3 k4] } w15 fun (v159 : Value) (w16 : World) =>
  ∃ (b7 : Bool),
  v159 = Value.bool b7 ∧
  ((!b7) = false →
  Rets Try.prog (29 : Nat) { toList := [Value.pointer q4] } w16 fun (v160 : Value) (w17 : World) =>
  ∃ (n15 : Int),
  v160 = Value.int IntKind.i64 n15 ∧
  Rets Try.prog (30 : Nat)
  { toList := [Value.int IntKind.u64 (IntKind.wrap IntKind.u64 (IntKind.wrap IntKind.i64 ((↑k5 : Int) + (1 : Int))))] }
  w17 fun (v161 : Value) (w18 : World) =>
  ∃ (n16 : Int),
  v161 = Value.int IntKind.i64 n16 ∧
  (decide (n15 > IntKind.wrap IntKind.i64 (IntKind.wrap IntKind.i64 ((2 : Int) * n16) + (1 : Int))) = true →
  K (Value.bool false) w18) ∧
  (decide (n15 > IntKind.wrap IntKind.i64 (IntKind.wrap IntKind.i64 ((2 : Int) * n16) + (1 : Int))) = false →
  ∃ (k7 : Nat),
  k7 < k2 ∧
  h1 k7 [Value.pointer q4, Value.slice q5 k5 k6, Value.int IntKind.i64 (IntKind.wrap IntKind.i64 (n1 + (1 : Int)))]
  w18)) ∧
  ((!b7) = true → K (Value.bool false) w16)) ∧
  ((!b6) = true → K (Value.bool false) w15)) ∧
  ((!b4 == b5) = true → K (Value.bool false) w14)) ∧
  ((n12 != n14) = true → K (Value.bool false) w14)) ∧
  ((!b2 == b3) = true → K (Value.bool false) w14)) ∧
  ((n8 != n10) = true → K (Value.bool false) w14)) ∧
  ((Int.tmod n2 (3 : Int) == (0 : Int)) = false →
  ((Int.tmod n2 (3 : Int) == (1 : Int)) = true →
  Drw w3 fun (w19 : World) =>
  ∃ (h3 : World → Prop),
  h3 w19 ∧
  (0 : Int) ≤ n1 ∧
  n1 < (↑l : Int) ∧
  someR q fun (a10 : Addr) =>
  (0 : Int) ≤ n1 ∧
  n1 < (↑l : Int) ∧
  someR q fun (a11 : Addr) =>
  ∃ (n17 : Int),
  (∀ (w20 : World),
  h3 w20 →
  World.cell? w20 (Addr.add (Addr.add a10 (Int.toNat n1 * (3 : Nat))) (1 : Nat)) = some (Value.int IntKind.i64 n17)) ∧
  ∃ (n18 : Int),
  (∀ (w21 : World),
  h3 w21 →
  World.cell? w21 (Addr.add (Addr.add a11 (Int.toNat n1 * (3 : Nat))) (1 : Nat)) = some (Value.int IntKind.i64 n18)) ∧
  Rets Try.prog (22 : Nat) { toList := [Value.pointer q2, Value.int IntKind.i64 n17] } w19
  fun (v162 : Value) (w22 : World) =>
  ∃ (q6 : Option Addr),
  v162 = Value.pointer q6 ∧
  h3 w22 ∧
  Rets Try.prog (23 : Nat) { toList := [Value.slice q3 k3 k4, Value.int IntKind.i64 n18] } w22
  fun (v163 : Value) (w23 : World) =>
  ∃ (q7 : Option Addr),
  ∃ (k8 : Nat),
  ∃ (k9 : Nat),
  v163 = Value.slice q7 k8 k9 ∧
  (0 : Int) ≤ n1 ∧
  n1 < (↑l : Int) ∧
  someR q fun (a12 : Addr) =>
  ∃ (n19 : Int),
  cellAt w23 (Addr.add (Addr.add a12 (Int.toNat n1 * (3 : Nat))) (1 : Nat)) (Value.int IntKind.i64 n19) ∧
  Rets Try.prog (24 : Nat) { toList := [Value.pointer q6, Value.int IntKind.i64 n19] } w23
  fun (v164 : Value) (w24 : World) =>
  ∃ (n20 : Int),
  ∃ (b8 : Bool),
  v164 = Value.tuple { toList := [Value.int IntKind.i64 n20, Value.bool b8] } ∧
  (0 : Int) ≤ n1 ∧
  n1 < (↑l : Int) ∧
  someR q fun (a13 : Addr) =>
  ∃ (n21 : Int),
  cellAt w24 (Addr.add (Addr.add a13 (Int.toNat n1 * (3 : Nat))) (1 : Nat)) (Value.int IntKind.i64 n21) ∧
  Rets Try.prog (25 : Nat) { toList := [Value.slice q7 k8 k9, Value.int IntKind.i64 n21] } w24
  fun (v165 : Value) (w25 : World) =>
  ∃ (n22 : Int),
  ∃ (b9 : Bool),
  v165 = Value.tuple { toList := [Value.int IntKind.i64 n22, Value.bool b9] } ∧
  (0 : Int) ≤ n1 ∧
  n1 < (↑l : Int) ∧
  someR q fun (a14 : Addr) =>
  ∃ (n23 : Int),
  cellAt w25 (Addr.add (Addr.add a14 (Int.toNat n1 * (3 : Nat))) (1 : Nat)) (Value.int IntKind.i64 n23) ∧
  Rets Try.prog (26 : Nat) { toList := [Value.pointer q6, Value.int IntKind.i64 n23] } w25
  fun (v166 : Value) (w26 : World) =>
  ∃ (n24 : Int),
  ∃ (b10 : Bool),
  v166 = Value.tuple { toList := [Value.int IntKind.i64 n24, Value.bool b10] } ∧
  (0 : Int) ≤ n1 ∧
  n1 < (↑l : Int) ∧
  someR q fun (a15 : Addr) =>
  ∃ (n25 : Int),
  cellAt w26 (Addr.add (Addr.add a15 (Int.toNat n1 * (3 : Nat))) (1 : Nat)) (Value.int IntKind.i64 n25) ∧
  Rets Try.prog (27 : Nat) { toList := [Value.slice q7 k8 k9, Value.int IntKind.i64 n25] } w26
  fun (v167 : Value) (w27 : World) =>
  ∃ (n26 : Int),
  ∃ (b11 : Bool),
  v167 = Value.tuple { toList := [Value.int IntKind.i64 n26, Value.bool b11] } ∧
  ((n20 != n22) = false →
  ((!b8 == b9) = false →
  ((n24 != n26) = false →
  ((!b10 == b11) = false →
  Rets Try.prog (28 : Nat) { toList := [Value.pointer q6, Value.slice q7 k8 k9] } w27 fun (v168 : Value) (w28 : World) =>
  ∃ (b12 : Bool),
  v168 = Value.bool b12 ∧
  ((!b12) = false →
  Rets Try.prog (28 : Nat) { toList := [Value.pointer q2, Value.slice q3 k3 k4] } w28 fun (v169 : Value) (w29 : World) =>
  ∃ (b13 : Bool),
  v169 = Value.bool b13 ∧
  ((!b13) = false →
  Rets Try.prog (29 : Nat) { toList := [Value.pointer q6] } w29 fun (v170 : Value) (w30 : World) =>
  ∃ (n27 : Int),
  v170 = Value.int IntKind.i64 n27 ∧
  Rets Try.prog (30 : Nat)
  { toList := [Value.int IntKind.u64 (IntKind.wrap IntKind.u64 (IntKind.wrap IntKind.i64 ((↑k8 : Int) + (1 : Int))))] }
  w30 fun (v171 : Value) (w31 : World) =>
  ∃ (n28 : Int),
  v171 = Value.int IntKind.i64 n28 ∧
  (decide (n27 > IntKind.wrap IntKind.i64 (IntKind.wrap IntKind.i64 ((2 : Int) * n28) + (1 : Int))) = true →
  K (Value.bool false) w31) ∧
  (decide (n27 > IntKind.wrap IntKind.i64 (IntKind.wrap IntKind.i64 ((2 : Int) * n28) + (1 : Int))) = false →
  ∃ (k10 : Nat),
  k10 < k2 ∧
  h1 k10 [Value.pointer q6, Value.slice q7 k8 k9, Value.int IntKind.i64 (IntKind.wrap IntKind.i64 (n1 + (1 : Int)))]
  w31)) ∧
  ((!b13) = true → K (Value.bool false) w29)) ∧
  ((!b12) = true → K (Value.bool false) w28)) ∧
  ((!b10 == b11) = true → K (Value.bool false) w27)) ∧
  ((n24 != n26) = true → K (Value.bool false) w27)) ∧
  ((!b8 == b9) = true → K (Value.bool false) w27)) ∧
  ((n20 != n22) = true → K (Value.bool false) w27)) ∧
  ((Int.tmod n2 (3 : Int) == (1 : Int)) = false →
  (0 : Int) ≤ n1 ∧
  n1 < (↑l : Int) ∧
  someR q fun (a16 : Addr) =>
  ∃ (n29 : Int),
  cellAt w3 (Addr.add (Addr.add a16 (Int.toNat n1 * (3 : Nat))) (1 : Nat)) (Value.int IntKind.i64 n29) ∧
  Rets Try.prog (24 : Nat) { toList := [Value.pointer q2, Value.int IntKind.i64 n29] } w3
  fun (v172 : Value) (w32 : World) =>
  ∃ (n30 : Int),
  ∃ (b14 : Bool),
  v172 = Value.tuple { toList := [Value.int IntKind.i64 n30, Value.bool b14] } ∧
  (0 : Int) ≤ n1 ∧
  n1 < (↑l : Int) ∧
  someR q fun (a17 : Addr) =>
  ∃ (n31 : Int),
  cellAt w32 (Addr.add (Addr.add a17 (Int.toNat n1 * (3 : Nat))) (1 : Nat)) (Value.int IntKind.i64 n31) ∧
  Rets Try.prog (25 : Nat) { toList := [Value.slice q3 k3 k4, Value.int IntKind.i64 n31] } w32
  fun (v173 : Value) (w33 : World) =>
  ∃ (n32 : Int),
  ∃ (b15 : Bool),
  v173 = Value.tuple { toList := [Value.int IntKind.i64 n32, Value.bool b15] } ∧
  (0 : Int) ≤ n1 ∧
  n1 < (↑l : Int) ∧
  someR q fun (a18 : Addr) =>
  ∃ (n33 : Int),
  cellAt w33 (Addr.add (Addr.add a18 (Int.toNat n1 * (3 : Nat))) (1 : Nat)) (Value.int IntKind.i64 n33) ∧
  Rets Try.prog (26 : Nat) { toList := [Value.pointer q2, Value.int IntKind.i64 n33] } w33
  fun (v174 : Value) (w34 : World) =>
  ∃ (n34 : Int),
  ∃ (b16 : Bool),
  v174 = Value.tuple { toList := [Value.int IntKind.i64 n34, Value.bool b16] } ∧
  (0 : Int) ≤ n1 ∧
  n1 < (↑l : Int) ∧
  someR q fun (a19 : Addr) =>
  ∃ (n35 : Int),
  cellAt w34 (Addr.add (Addr.add a19 (Int.toNat n1 * (3 : Nat))) (1 : Nat)) (Value.int IntKind.i64 n35) ∧
  Rets Try.prog (27 : Nat) { toList := [Value.slice q3 k3 k4, Value.int IntKind.i64 n35] } w34
  fun (v175 : Value) (w35 : World) =>
  ∃ (n36 : Int),
  ∃ (b17 : Bool),
  v175 = Value.tuple { toList := [Value.int IntKind.i64 n36, Value.bool b17] } ∧
  ((n30 != n32) = false →
  ((!b14 == b15) = false →
  ((n34 != n36) = false →
  ((!b16 == b17) = false →
  Rets Try.prog (28 : Nat) { toList := [Value.pointer q2, Value.slice q3 k3 k4] } w35 fun (v176 : Value) (w36 : World) =>
  ∃ (b18 : Bool),
  v176 = Value.bool b18 ∧
  ((!b18) = false →
  Rets Try.prog (28 : Nat) { toList := [Value.pointer q2, Value.slice q3 k3 k4] } w36 fun (v177 : Value) (w37 : World) =>
  ∃ (b19 : Bool),
  v177 = Value.bool b19 ∧
  ((!b19) = false →
  Rets Try.prog (29 : Nat) { toList := [Value.pointer q2] } w37 fun (v178 : Value) (w38 : World) =>
  ∃ (n37 : Int),
  v178 = Value.int IntKind.i64 n37 ∧
  Rets Try.prog (30 : Nat)
  { toList := [Value.int IntKind.u64 (IntKind.wrap IntKind.u64 (IntKind.wrap IntKind.i64 ((↑k3 : Int) + (1 : Int))))] }
  w38 fun (v179 : Value) (w39 : World) =>
  ∃ (n38 : Int),
  v179 = Value.int IntKind.i64 n38 ∧
  (decide (n37 > IntKind.wrap IntKind.i64 (IntKind.wrap IntKind.i64 ((2 : Int) * n38) + (1 : Int))) = true →
  K (Value.bool false) w39) ∧
  (decide (n37 > IntKind.wrap IntKind.i64 (IntKind.wrap IntKind.i64 ((2 : Int) * n38) + (1 : Int))) = false →
  ∃ (k11 : Nat),
  k11 < k2 ∧
  h1 k11 [Value.pointer q2, Value.slice q3 k3 k4, Value.int IntKind.i64 (IntKind.wrap IntKind.i64 (n1 + (1 : Int)))]
  w39)) ∧
  ((!b19) = true → K (Value.bool false) w37)) ∧
  ((!b18) = true → K (Value.bool false) w36)) ∧
  ((!b16 == b17) = true → K (Value.bool false) w35)) ∧
  ((n34 != n36) = true → K (Value.bool false) w35)) ∧
  ((!b14 == b15) = true → K (Value.bool false) w35)) ∧
  ((n30 != n32) = true → K (Value.bool false) w35)))) ∧
  (decide (n1 < (↑l : Int)) = false →
  Rets Try.prog (17 : Nat) { toList := [] } w3 fun (v180 : Value) (w40 : World) =>
  ∃ (b20 : Bool), v180 = Value.bool b20 ∧ K (Value.bool b20) w40))
theorem cortadolaw08_RankPlays_eq (q : Option Addr) (l c : Nat) (w : World) (K : Value → World → Prop) : fw Try.prog Try.f5 (annL [(2, [(2, none), (3, some 37), (4, some 40), (5, some 3), (6, none), (7, none), (8, none), (9, none), (10, none), (11, none), (12, none), (13, none), (14, none), (15, none), (21, none), (22, none), (23, none), (24, none), (25, none), (26, none), (27, none), (28, none), (29, none), (30, none), (31, none), (32, none), (33, none), (34, none), (35, none), (36, none), (37, none), (38, none), (39, none), (40, none), (41, none), (42, none), (43, none), (44, none), (45, none), (46, none), (47, none), (48, none), (49, none), (50, none), (51, none), (52, none), (53, none), (54, none), (55, none), (56, none), (57, none), (58, none), (59, none), (60, none), (61, none), (62, none), (63, none), (64, none), (65, none), (66, none), (67, none), (68, none), (69, none), (70, none), (71, none), (72, none), (73, none), (74, none), (75, none), (76, none), (77, none), (78, none), (79, none), (80, none), (81, none), (82, none), (83, none), (84, none), (85, none), (86, none), (87, none), (88, none), (89, none), (90, none), (91, none), (92, none), (93, none), (94, none), (95, none), (96, none), (97, none), (98, none), (99, none), (100, none), (101, none), (102, none), (103, none), (104, none), (105, none), (106, none), (107, none), (108, none), (109, none), (110, none), (111, none), (112, none), (113, none), (114, none), (115, none), (116, none), (117, none), (118, none), (119, none), (120, none), (121, none), (122, none), (123, none), (124, none), (125, none), (126, none), (127, none), (128, none), (129, none), (130, none), (131, none), (132, none), (133, none), (134, none), (135, none), (136, none), (137, none), (138, none), (139, none), (140, none), (141, none), (142, none), (143, none), (144, none), (145, none), (146, none), (147, none), (148, none), (149, none), (150, none), (151, none), (152, none), (153, none), (154, none), (155, none), (156, none), (157, none), (158, none)])]) (ordL [(11, [(0, 0), (1, 0), (2, 0), (3, 0), (4, 0), (6, 0), (7, 0), (8, 0), (9, 0), (12, 0), (13, 0), (14, 0), (15, 0), (16, 0), (18, 0), (19, 0), (20, 0), (21, 0), (5, 1), (10, 1), (17, 1), (22, 1), (11, 2), (23, 3), (24, 0), (25, 0)]), (13, [(0, 0), (1, 0), (2, 0), (3, 0), (4, 0), (7, 0), (8, 0), (9, 0), (10, 0), (11, 0), (5, 1), (12, 1), (6, 2), (13, 3), (14, 0), (15, 0)])]) [.slice q l c] w K = cortadolaw08_RankPlays_m q l c w K := by kernel_rfl
theorem cortadolaw08_RankPlays_go (q : Option Addr) (l c : Nat) {w : World} {K : Value → World → Prop} (h : cortadolaw08_RankPlays_m q l c w K) : Rets Try.prog 5 #[.slice q l c] w K :=
  calls_of_fw plain mixed Try.func5 (by kernel_rfl) (by rw [cortadolaw08_RankPlays_eq]; exact h)
end Go.Proofs.Ytkcaeknkfgpnhaa.Eng
