/- What the code of these functions asks for: printed by a program of this session's (gens.py) out of the seat's own functions; the kernel checks each row. -/
import Derived.Test.YtfcddffcjmgpkaaDoorEngH
import Derived.Test.YtfcddffcjmgpkaaDoorProg
import Derived.Test.YtfcddffcjmgpkaaDoorBase
namespace Go.Proofs.YtfcddffcjmgpkaaDoor.Eng
open Go Go.Proofs
set_option linter.unusedVariables false
set_option maxRecDepth 1000000
def cortadolaw12_DoorPlays_m (k s : Int) (q : Option Addr) (l c : Nat) (w : World) (K : Value → World → Prop) : Prop :=
  (decide (k > (100 : Int)) = false →
  (decide ((↑l : Int) > (40 : Int)) = true →
  Rets Tryd.prog (5 : Nat) { toList := [] } w fun (v1 : Value) (w1 : World) =>
  ∃ (b1 : Bool), v1 = Value.bool b1 ∧ K (Value.bool b1) w1) ∧
  (decide ((↑l : Int) > (40 : Int)) = false →
  Rets Tryd.prog (6 : Nat) { toList := [Value.int IntKind.i64 k, Value.int IntKind.u64 s] } w
  fun (v2 : Value) (w2 : World) =>
  ∃ (q1 : Option Addr),
  v2 = Value.pointer q1 ∧
  Rets Tryd.prog (7 : Nat) { toList := [Value.int IntKind.i64 k, Value.int IntKind.u64 s] } w2
  fun (v3 : Value) (w3 : World) =>
  ∃ (q2 : Option Addr),
  ∃ (k1 : Nat),
  ∃ (k2 : Nat),
  ∃ (n1 : Int),
  v3 = Value.agg { toList := [Value.slice q2 k1 k2, Value.int IntKind.u64 n1] } ∧
  NewR (29 : Nat) [Value.slice none (0 : Nat) (0 : Nat), Value.int IntKind.u64 (0 : Int)] w3
  fun (a1 : Addr) (w4 : World) =>
  StoreR a1 [Value.slice q2 k1 k2, Value.int IntKind.u64 n1] w4 fun (w5 : World) =>
  ∃ (h1 : Nat → List Value → World → Prop),
  (∃ (k3 : Nat), h1 k3 [Value.int IntKind.i64 (0 : Int)] w5) ∧
  ∀ (k4 : Nat) (w6 : World) (v4 : Value) (n2 : Int)
  (v5 v6 v7 v8 v9 v10 v11 v12 v13 v14 v15 v16 v17 v18 v19 v20 v21 v22 v23 v24 v25 v26 v27 v28 v29 v30 v31 v32 v33 v34 v35
  v36 v37 v38 v39 v40 v41 v42 v43 v44 v45 v46 v47 v48 v49 v50 v51 v52 v53 v54 v55 v56 v57 v58 v59 v60 v61 v62 v63 v64 v65
  v66 v67 v68 v69 v70 v71 v72 v73 v74 v75 v76 v77 v78 v79 v80 v81 v82 v83 v84 v85 v86 v87 v88 v89 v90 v91 v92 v93 v94 v95
  v96 v97 v98 v99 v100 v101 v102 v103 v104 v105 v106 v107 v108 v109 v110 v111 v112 v113 v114 v115 v116 v117 v118 v119 v120
  v121 v122 v123 v124 v125 v126 v127 v128 v129 v130 v131 v132 v133 v134 v135 v136 v137 v138 v139 v140 v141 v142 v143 v144
  v145 v146 v147 v148 v149 v150 v151 v152 v153 v154 v155 v156 : Value),
  h1 k4 [Value.int IntKind.i64 n2] w6 →
  (decide (n2 < (↑l : Int)) = true →
  ∃ (h2 : List Value → World → Prop),
  (Drw w6 fun (w7 : World) =>
  ∃ (h3 : World → Prop),
  h3 w7 ∧
  (0 : Int) ≤ n2 ∧
  n2 < (↑l : Int) ∧
  someR q fun (a2 : Addr) =>
  (0 : Int) ≤ n2 ∧
  n2 < (↑l : Int) ∧
  someR q fun (a3 : Addr) =>
  (0 : Int) ≤ n2 ∧
  n2 < (↑l : Int) ∧
  someR q fun (a4 : Addr) =>
  ∃ (n3 : Int),
  (∀ (w8 : World), h3 w8 → World.cell? w8 (Addr.add a2 (Int.toNat n2 * (1 : Nat))) = some (Value.int IntKind.u64 n3)) ∧
  ∃ (q3 : Option Addr),
  ∃ (k5 : Nat),
  ∃ (k6 : Nat),
  ∃ (n4 : Int),
  ((∀ (w9 : World), h3 w9 → World.cell? w9 (Addr.add a1 (0 : Nat)) = some (Value.slice q3 k5 k6)) ∧
  ∀ (w10 : World), h3 w10 → World.cell? w10 (Addr.add a1 ((0 : Nat) + (1 : Nat))) = some (Value.int IntKind.u64 n4)) ∧
  ∃ (n5 : Int),
  (∀ (w11 : World), h3 w11 → World.cell? w11 (Addr.add a3 (Int.toNat n2 * (1 : Nat))) = some (Value.int IntKind.u64 n5)) ∧
  ∃ (q4 : Option Addr),
  ∃ (k7 : Nat),
  ∃ (k8 : Nat),
  ∃ (n6 : Int),
  ((∀ (w12 : World), h3 w12 → World.cell? w12 (Addr.add a1 (0 : Nat)) = some (Value.slice q4 k7 k8)) ∧
  ∀ (w13 : World), h3 w13 → World.cell? w13 (Addr.add a1 ((0 : Nat) + (1 : Nat))) = some (Value.int IntKind.u64 n6)) ∧
  ∃ (n7 : Int),
  (∀ (w14 : World), h3 w14 → World.cell? w14 (Addr.add a4 (Int.toNat n2 * (1 : Nat))) = some (Value.int IntKind.u64 n7)) ∧
  (Rets Tryd.prog (8 : Nat) { toList := [Value.pointer q1, Value.int IntKind.u64 n3] } w7
  fun (v157 : Value) (w15 : World) =>
  ∃ (n8 : Int),
  ∃ (n9 : Int),
  ∃ (n10 : Int),
  ∃ (n11 : Int),
  v157 =
  Value.agg
  {
  toList := [Value.int IntKind.i64 n8, Value.int IntKind.i64 n9, Value.int IntKind.i64 n10, Value.int IntKind.i64 n11] } ∧
  h3 w15 ∧
  (Rets Tryd.prog (9 : Nat)
  { toList := [Value.agg { toList := [Value.slice q3 k5 k6, Value.int IntKind.u64 n4] }, Value.int IntKind.u64 n5] } w15
  fun (v158 : Value) (w16 : World) =>
  ∃ (q5 : Option Addr),
  ∃ (k9 : Nat),
  ∃ (k10 : Nat),
  v158 = Value.slice q5 k9 k10 ∧
  h3 w16 ∧
  (Rets Tryd.prog (9 : Nat)
  {
  toList :=
  [Value.agg { toList := [Value.slice q4 k7 k8, Value.int IntKind.u64 n6] },
  Value.int IntKind.u64 (IntKind.wrap IntKind.u64 (n7 + (1 : Int)))] }
  w16 fun (v159 : Value) (w17 : World) =>
  ∃ (q6 : Option Addr),
  ∃ (k11 : Nat),
  ∃ (k12 : Nat),
  v159 = Value.slice q6 k11 k12 ∧
  h3 w17 ∧
  NewR (31 : Nat)
  [Value.int IntKind.i64 (0 : Int), Value.int IntKind.i64 (0 : Int), Value.int IntKind.i64 (0 : Int),
  Value.int IntKind.i64 (0 : Int)]
  w17 fun (a5 : Addr) (w18 : World) =>
  h3 w18 ∧
  StoreR a5 [Value.int IntKind.i64 n8, Value.int IntKind.i64 n9, Value.int IntKind.i64 n10, Value.int IntKind.i64 n11] w18
  fun (w19 : World) => h3 w19 ∧ h2 [Value.pointer (some a5), Value.slice q5 k9 k10, Value.slice q6 k11 k12] w19) ∧
  NewR (31 : Nat)
  [Value.int IntKind.i64 (0 : Int), Value.int IntKind.i64 (0 : Int), Value.int IntKind.i64 (0 : Int),
  Value.int IntKind.i64 (0 : Int)]
  w16 fun (a6 : Addr) (w20 : World) =>
  h3 w20 ∧
  Rets Tryd.prog (9 : Nat)
  {
  toList :=
  [Value.agg { toList := [Value.slice q4 k7 k8, Value.int IntKind.u64 n6] },
  Value.int IntKind.u64 (IntKind.wrap IntKind.u64 (n7 + (1 : Int)))] }
  w20 fun (v160 : Value) (w21 : World) =>
  ∃ (q7 : Option Addr),
  ∃ (k13 : Nat),
  ∃ (k14 : Nat),
  v160 = Value.slice q7 k13 k14 ∧
  h3 w21 ∧
  StoreR a6 [Value.int IntKind.i64 n8, Value.int IntKind.i64 n9, Value.int IntKind.i64 n10, Value.int IntKind.i64 n11] w21
  fun (w22 : World) => h3 w22 ∧ h2 [Value.pointer (some a6), Value.slice q5 k9 k10, Value.slice q7 k13 k14] w22) ∧
  NewR (31 : Nat)
  [Value.int IntKind.i64 (0 : Int), Value.int IntKind.i64 (0 : Int), Value.int IntKind.i64 (0 : Int),
  Value.int IntKind.i64 (0 : Int)]
  w15 fun (a7 : Addr) (w23 : World) =>
  h3 w23 ∧
  Rets Tryd.prog (9 : Nat)
  { toList := [Value.agg { toList := [Value.slice q3 k5 k6, Value.int IntKind.u64 n4] }, Value.int IntKind.u64 n5] } w23
  fun (v161 : Value) (w24 : World) =>
  ∃ (q8 : Option Addr),
  ∃ (k15 : Nat),
  ∃ (k16 : Nat),
  v161 = Value.slice q8 k15 k16 ∧
  h3 w24 ∧
  Rets Tryd.prog (9 : Nat)
  {
  toList :=
  [Value.agg { toList := [Value.slice q4 k7 k8, Value.int IntKind.u64 n6] },
  Value.int IntKind.u64 (IntKind.wrap IntKind.u64 (n7 + (1 : Int)))] }
  w24 fun (v162 : Value) (w25 : World) =>
  ∃ (q9 : Option Addr),
  ∃ (k17 : Nat),
  ∃ (k18 : Nat),
  v162 = Value.slice q9 k17 k18 ∧
  h3 w25 ∧
  StoreR a7 [Value.int IntKind.i64 n8, Value.int IntKind.i64 n9, Value.int IntKind.i64 n10, Value.int IntKind.i64 n11] w25
  fun (w26 : World) => h3 w26 ∧ h2 [Value.pointer (some a7), Value.slice q8 k15 k16, Value.slice q9 k17 k18] w26) ∧
  NewR (31 : Nat)
  [Value.int IntKind.i64 (0 : Int), Value.int IntKind.i64 (0 : Int), Value.int IntKind.i64 (0 : Int),
  Value.int IntKind.i64 (0 : Int)]
  w7 fun (a8 : Addr) (w27 : World) =>
  h3 w27 ∧
  Rets Tryd.prog (8 : Nat) { toList := [Value.pointer q1, Value.int IntKind.u64 n3] } w27
  fun (v163 : Value) (w28 : World) =>
  ∃ (n12 : Int),
  ∃ (n13 : Int),
  ∃ (n14 : Int),
  ∃ (n15 : Int),
  v163 =
  Value.agg
  {
  toList :=
  [Value.int IntKind.i64 n12, Value.int IntKind.i64 n13, Value.int IntKind.i64 n14, Value.int IntKind.i64 n15] } ∧
  h3 w28 ∧
  Rets Tryd.prog (9 : Nat)
  { toList := [Value.agg { toList := [Value.slice q3 k5 k6, Value.int IntKind.u64 n4] }, Value.int IntKind.u64 n5] } w28
  fun (v164 : Value) (w29 : World) =>
  ∃ (q10 : Option Addr),
  ∃ (k19 : Nat),
  ∃ (k20 : Nat),
  v164 = Value.slice q10 k19 k20 ∧
  h3 w29 ∧
  Rets Tryd.prog (9 : Nat)
  {
  toList :=
  [Value.agg { toList := [Value.slice q4 k7 k8, Value.int IntKind.u64 n6] },
  Value.int IntKind.u64 (IntKind.wrap IntKind.u64 (n7 + (1 : Int)))] }
  w29 fun (v165 : Value) (w30 : World) =>
  ∃ (q11 : Option Addr),
  ∃ (k21 : Nat),
  ∃ (k22 : Nat),
  v165 = Value.slice q11 k21 k22 ∧
  h3 w30 ∧
  StoreR a8 [Value.int IntKind.i64 n12, Value.int IntKind.i64 n13, Value.int IntKind.i64 n14, Value.int IntKind.i64 n15]
  w30 fun (w31 : World) => h3 w31 ∧ h2 [Value.pointer (some a8), Value.slice q10 k19 k20, Value.slice q11 k21 k22] w31) ∧
  ∀ (w32 : World) (q12 q13 : Option Addr) (k23 k24 : Nat) (q14 : Option Addr) (k25 k26 : Nat)
  (v166 v167 v168 v169 v170 v171 v172 v173 v174 v175 v176 v177 v178 v179 v180 v181 v182 v183 v184 : Value),
  h2 [Value.pointer q12, Value.slice q13 k23 k24, Value.slice q14 k25 k26] w32 →
  ∃ (h4 : List Value → World → Prop),
  (Drw w32 fun (w33 : World) =>
  (0 : Int) ≤ (0 : Int) ∧
  (0 : Int) < (↑k23 : Int) ∧
  someR q13 fun (a9 : Addr) =>
  (0 : Int) ≤ (0 : Int) ∧
  (0 : Int) < (↑k25 : Int) ∧
  someR q14 fun (a10 : Addr) =>
  ∃ (n16 : Int),
  cellAt w33 (Addr.add a9 (0 : Nat)) (Value.int IntKind.i64 n16) ∧
  ∃ (n17 : Int),
  cellAt w33 (Addr.add a10 (0 : Nat)) (Value.int IntKind.i64 n17) ∧
  ((n16 == n17) = true →
  (0 : Int) ≤ (1 : Int) ∧
  (1 : Int) < (↑k23 : Int) ∧
  someR q13 fun (a11 : Addr) =>
  (0 : Int) ≤ (1 : Int) ∧
  (1 : Int) < (↑k25 : Int) ∧
  someR q14 fun (a12 : Addr) =>
  ∃ (n18 : Int),
  cellAt w33 (Addr.add a11 (1 : Nat)) (Value.int IntKind.i64 n18) ∧
  ∃ (n19 : Int),
  cellAt w33 (Addr.add a12 (1 : Nat)) (Value.int IntKind.i64 n19) ∧
  ((n18 == n19) = true →
  (0 : Int) ≤ (2 : Int) ∧
  (2 : Int) < (↑k23 : Int) ∧
  someR q13 fun (a13 : Addr) =>
  (0 : Int) ≤ (2 : Int) ∧
  (2 : Int) < (↑k25 : Int) ∧
  someR q14 fun (a14 : Addr) =>
  ∃ (n20 : Int),
  cellAt w33 (Addr.add a13 (2 : Nat)) (Value.int IntKind.i64 n20) ∧
  ∃ (n21 : Int),
  cellAt w33 (Addr.add a14 (2 : Nat)) (Value.int IntKind.i64 n21) ∧
  ((n20 == n21) = true →
  (0 : Int) ≤ (3 : Int) ∧
  (3 : Int) < (↑k23 : Int) ∧
  someR q13 fun (a15 : Addr) =>
  (0 : Int) ≤ (3 : Int) ∧
  (3 : Int) < (↑k25 : Int) ∧
  someR q14 fun (a16 : Addr) =>
  ∃ (n22 : Int),
  cellAt w33 (Addr.add a15 (3 : Nat)) (Value.int IntKind.i64 n22) ∧
  ∃ (n23 : Int), cellAt w33 (Addr.add a16 (3 : Nat)) (Value.int IntKind.i64 n23) ∧ h4 [Value.bool (n22 == n23)] w33) ∧
  ((n20 == n21) = false → h4 [Value.bool false] w33)) ∧
  ((n18 == n19) = false → h4 [Value.bool false] w33)) ∧
  ((n16 == n17) = false → h4 [Value.bool false] w33)) ∧
  ∀ (w34 : World) (b2 : Bool)
  (v185 v186 v187 v188 v189 v190 v191 v192 v193 v194 v195 v196 v197 v198 v199 v200 v201 v202 v203 v204 v205 v206 v207 v208
  v209 v210 v211 v212 v213 v214 v215 v216 v217 v218 : Value),
  h4 [Value.bool b2] w34 →
  ∃ (h5 : List Value → World → Prop),
  (Drw w34 fun (w35 : World) =>
  ∃ (h6 : World → Prop),
  h6 w35 ∧
  (0 : Int) ≤ (0 : Int) ∧
  (0 : Int) < (↑k23 : Int) ∧
  someR q13 fun (a17 : Addr) =>
  (0 : Int) ≤ (1 : Int) ∧
  (1 : Int) < (↑k23 : Int) ∧
  someR q13 fun (a18 : Addr) =>
  (0 : Int) ≤ (2 : Int) ∧
  (2 : Int) < (↑k23 : Int) ∧
  someR q13 fun (a19 : Addr) =>
  (0 : Int) ≤ (3 : Int) ∧
  (3 : Int) < (↑k23 : Int) ∧
  someR q13 fun (a20 : Addr) =>
  someR q12 fun (a21 : Addr) =>
  ∃ (n24 : Int),
  ∃ (n25 : Int),
  ∃ (n26 : Int),
  ∃ (n27 : Int),
  ((∀ (w36 : World), h6 w36 → World.cell? w36 (Addr.add a21 (0 : Nat)) = some (Value.int IntKind.i64 n24)) ∧
  (∀ (w37 : World), h6 w37 → World.cell? w37 (Addr.add a21 ((0 : Nat) + (1 : Nat))) = some (Value.int IntKind.i64 n25)) ∧
  (∀ (w38 : World),
  h6 w38 → World.cell? w38 (Addr.add a21 ((0 : Nat) + (1 : Nat) + (1 : Nat))) = some (Value.int IntKind.i64 n26)) ∧
  ∀ (w39 : World),
  h6 w39 →
  World.cell? w39 (Addr.add a21 ((0 : Nat) + (1 : Nat) + (1 : Nat) + (1 : Nat))) = some (Value.int IntKind.i64 n27)) ∧
  ∃ (n28 : Int),
  (∀ (w40 : World), h6 w40 → World.cell? w40 (Addr.add a17 (0 : Nat)) = some (Value.int IntKind.i64 n28)) ∧
  ∃ (n29 : Int),
  (∀ (w41 : World), h6 w41 → World.cell? w41 (Addr.add a18 (1 : Nat)) = some (Value.int IntKind.i64 n29)) ∧
  ∃ (n30 : Int),
  (∀ (w42 : World), h6 w42 → World.cell? w42 (Addr.add a19 (2 : Nat)) = some (Value.int IntKind.i64 n30)) ∧
  ∃ (n31 : Int),
  (∀ (w43 : World), h6 w43 → World.cell? w43 (Addr.add a20 (3 : Nat)) = some (Value.int IntKind.i64 n31)) ∧
  ∃ (v219 : Value),
  SameRun Tryd.prog h6
  (binV BinOp.neq (31 : Nat) (Operand.tmp (90 : Nat)) (Operand.tmp (103 : Nat))
  (Value.agg
  {
  toList :=
  [Value.int IntKind.i64 n24, Value.int IntKind.i64 n25, Value.int IntKind.i64 n26, Value.int IntKind.i64 n27] })
  (Value.agg
  {
  toList :=
  [Value.int IntKind.i64 n28, Value.int IntKind.i64 n29, Value.int IntKind.i64 n30, Value.int IntKind.i64 n31] }))
  v219 ∧
  ∃ (b3 : Bool),
  v219 = Value.bool b3 ∧
  (b3 = false →
  (0 : Int) ≤ n2 ∧
  n2 < (↑l : Int) ∧
  someR q fun (a22 : Addr) =>
  (0 : Int) ≤ n2 ∧
  n2 < (↑l : Int) ∧
  someR q fun (a23 : Addr) =>
  ∃ (n32 : Int),
  (∀ (w44 : World),
  h6 w44 → World.cell? w44 (Addr.add a22 (Int.toNat n2 * (1 : Nat))) = some (Value.int IntKind.u64 n32)) ∧
  ∃ (n33 : Int),
  (∀ (w45 : World),
  h6 w45 → World.cell? w45 (Addr.add a23 (Int.toNat n2 * (1 : Nat))) = some (Value.int IntKind.u64 n33)) ∧
  Rets Tryd.prog (10 : Nat)
  {
  toList :=
  [Value.pointer q1, Value.int IntKind.u64 n32, Value.int IntKind.u64 (IntKind.wrap IntKind.u64 (n33 + (1 : Int)))] }
  w35 fun (v220 : Value) (w46 : World) =>
  ∃ (b4 : Bool),
  v220 = Value.bool b4 ∧
  ∃ (h7 : World → Prop),
  (∀ (w47 : World), h7 w47 → h6 w47) ∧
  h7 w46 ∧
  ((!b4 == b2) = false →
  (0 : Int) ≤ n2 ∧
  n2 < (↑l : Int) ∧
  someR q fun (a24 : Addr) =>
  (0 : Int) ≤ n2 ∧
  n2 < (↑l : Int) ∧
  someR q fun (a25 : Addr) =>
  ∃ (n34 : Int),
  (∀ (w48 : World),
  h7 w48 → World.cell? w48 (Addr.add a24 (Int.toNat n2 * (1 : Nat))) = some (Value.int IntKind.u64 n34)) ∧
  ∃ (q15 : Option Addr),
  ∃ (k27 : Nat),
  ∃ (k28 : Nat),
  ∃ (n35 : Int),
  ((∀ (w49 : World), h7 w49 → World.cell? w49 (Addr.add a1 (0 : Nat)) = some (Value.slice q15 k27 k28)) ∧
  ∀ (w50 : World), h7 w50 → World.cell? w50 (Addr.add a1 ((0 : Nat) + (1 : Nat))) = some (Value.int IntKind.u64 n35)) ∧
  ∃ (n36 : Int),
  (∀ (w51 : World),
  h7 w51 → World.cell? w51 (Addr.add a25 (Int.toNat n2 * (1 : Nat))) = some (Value.int IntKind.u64 n36)) ∧
  Rets Tryd.prog (11 : Nat) { toList := [Value.pointer q1, Value.int IntKind.u64 n34] } w46
  fun (v221 : Value) (w52 : World) =>
  ∃ (b5 : Bool),
  v221 = Value.bool b5 ∧
  ∃ (h8 : World → Prop),
  (∀ (w53 : World), h8 w53 → h7 w53) ∧
  h8 w52 ∧
  Rets Tryd.prog (12 : Nat)
  { toList := [Value.agg { toList := [Value.slice q15 k27 k28, Value.int IntKind.u64 n35] }, Value.int IntKind.u64 n36] }
  w52 fun (v222 : Value) (w54 : World) =>
  ∃ (b6 : Bool),
  v222 = Value.bool b6 ∧
  ∃ (h9 : World → Prop),
  (∀ (w55 : World), h9 w55 → h8 w55) ∧
  h9 w54 ∧
  ((!b5 == b6) = false →
  (0 : Int) ≤ n2 ∧
  n2 < (↑l : Int) ∧
  someR q fun (a26 : Addr) =>
  (0 : Int) ≤ n2 ∧
  n2 < (↑l : Int) ∧
  someR q fun (a27 : Addr) =>
  ∃ (n37 : Int),
  (∀ (w56 : World),
  h9 w56 → World.cell? w56 (Addr.add a26 (Int.toNat n2 * (1 : Nat))) = some (Value.int IntKind.u64 n37)) ∧
  ∃ (q16 : Option Addr),
  ∃ (k29 : Nat),
  ∃ (k30 : Nat),
  ∃ (n38 : Int),
  ((∀ (w57 : World), h9 w57 → World.cell? w57 (Addr.add a1 (0 : Nat)) = some (Value.slice q16 k29 k30)) ∧
  ∀ (w58 : World), h9 w58 → World.cell? w58 (Addr.add a1 ((0 : Nat) + (1 : Nat))) = some (Value.int IntKind.u64 n38)) ∧
  ∃ (n39 : Int),
  (∀ (w59 : World),
  h9 w59 → World.cell? w59 (Addr.add a27 (Int.toNat n2 * (1 : Nat))) = some (Value.int IntKind.u64 n39)) ∧
  Rets Tryd.prog (11 : Nat)
  { toList := [Value.pointer q1, Value.int IntKind.u64 (IntKind.wrap IntKind.u64 (n37 + (1 : Int)))] } w54
  fun (v223 : Value) (w60 : World) =>
  ∃ (b7 : Bool),
  v223 = Value.bool b7 ∧
  h9 w60 ∧
  Rets Tryd.prog (12 : Nat)
  {
  toList :=
  [Value.agg { toList := [Value.slice q16 k29 k30, Value.int IntKind.u64 n38] },
  Value.int IntKind.u64 (IntKind.wrap IntKind.u64 (n39 + (1 : Int)))] }
  w60 fun (v224 : Value) (w61 : World) => ∃ (b8 : Bool), v224 = Value.bool b8 ∧ h5 [Value.bool !b7 == b8] w61) ∧
  ((!b5 == b6) = true → h5 [Value.bool true] w54)) ∧
  ((!b4 == b2) = true → h5 [Value.bool true] w46)) ∧
  (b3 = true → h5 [Value.bool true] w35)) ∧
  ∀ (w62 : World)
  (v225 v226 v227 v228 v229 v230 v231 v232 v233 v234 v235 v236 v237 v238 v239 v240 v241 v242 v243 v244 v245 v246 v247 v248
  v249 v250 v251 v252 v253 v254 v255 v256 v257 v258 v259 v260 v261 v262 v263 v264 v265 v266 v267 v268 v269 v270 v271 v272
  v273 v274 v275 v276 v277 v278 v279 v280 v281 v282 v283 v284 v285 : Value)
  (b9 : Bool),
  h5 [Value.bool b9] w62 →
  (b9 = true → K (Value.bool false) w62) ∧
  (b9 = false →
  ∃ (h10 : List Value → World → Prop),
  (Drw w62 fun (w63 : World) =>
  ∃ (h11 : World → Prop),
  h11 w63 ∧
  (0 : Int) ≤ n2 ∧
  n2 < (↑l : Int) ∧
  someR q fun (a28 : Addr) =>
  ∃ (q17 : Option Addr),
  ∃ (k31 : Nat),
  ∃ (k32 : Nat),
  ∃ (n40 : Int),
  ((∀ (w64 : World), h11 w64 → World.cell? w64 (Addr.add a1 (0 : Nat)) = some (Value.slice q17 k31 k32)) ∧
  ∀ (w65 : World), h11 w65 → World.cell? w65 (Addr.add a1 ((0 : Nat) + (1 : Nat))) = some (Value.int IntKind.u64 n40)) ∧
  ∃ (n41 : Int),
  (∀ (w66 : World),
  h11 w66 → World.cell? w66 (Addr.add a28 (Int.toNat n2 * (1 : Nat))) = some (Value.int IntKind.u64 n41)) ∧
  (Rets Tryd.prog (13 : Nat)
  { toList := [Value.agg { toList := [Value.slice q17 k31 k32, Value.int IntKind.u64 n40] }, Value.int IntKind.u64 n41] }
  w63 fun (v286 : Value) (w67 : World) =>
  ∃ (q18 : Option Addr),
  ∃ (k33 : Nat),
  ∃ (k34 : Nat),
  ∃ (n42 : Int),
  ∃ (b10 : Bool),
  v286 =
  Value.tuple
  { toList := [Value.agg { toList := [Value.slice q18 k33 k34, Value.int IntKind.u64 n42] }, Value.bool b10] } ∧
  h11 w67 ∧
  NewR (29 : Nat) [Value.slice none (0 : Nat) (0 : Nat), Value.int IntKind.u64 (0 : Int)] w67
  fun (a29 : Addr) (w68 : World) =>
  h11 w68 ∧
  StoreR a29 [Value.slice q18 k33 k34, Value.int IntKind.u64 n42] w68 fun (w69 : World) =>
  h11 w69 ∧ h10 [Value.pointer (some a29), Value.bool b10] w69) ∧
  NewR (29 : Nat) [Value.slice none (0 : Nat) (0 : Nat), Value.int IntKind.u64 (0 : Int)] w63
  fun (a30 : Addr) (w70 : World) =>
  h11 w70 ∧
  Rets Tryd.prog (13 : Nat)
  { toList := [Value.agg { toList := [Value.slice q17 k31 k32, Value.int IntKind.u64 n40] }, Value.int IntKind.u64 n41] }
  w70 fun (v287 : Value) (w71 : World) =>
  ∃ (q19 : Option Addr),
  ∃ (k35 : Nat),
  ∃ (k36 : Nat),
  ∃ (n43 : Int),
  ∃ (b11 : Bool),
  v287 =
  Value.tuple
  { toList := [Value.agg { toList := [Value.slice q19 k35 k36, Value.int IntKind.u64 n43] }, Value.bool b11] } ∧
  h11 w71 ∧
  StoreR a30 [Value.slice q19 k35 k36, Value.int IntKind.u64 n43] w71 fun (w72 : World) =>
  h11 w72 ∧ h10 [Value.pointer (some a30), Value.bool b11] w72) ∧
  ∀ (w73 : World) (q20 : Option Addr) (b12 : Bool) (v288 v289 v290 v291 v292 v293 v294 v295 v296 : Value),
  h10 [Value.pointer q20, Value.bool b12] w73 →
  ∃ (h12 : List Value → World → Prop),
  (Drw w73 fun (w74 : World) =>
  ∃ (h13 : World → Prop),
  h13 w74 ∧
  (0 : Int) ≤ n2 ∧
  n2 < (↑l : Int) ∧
  someR q fun (a31 : Addr) =>
  ∃ (n44 : Int),
  (∀ (w75 : World),
  h13 w75 → World.cell? w75 (Addr.add a31 (Int.toNat n2 * (1 : Nat))) = some (Value.int IntKind.u64 n44)) ∧
  Rets Tryd.prog (14 : Nat) { toList := [Value.pointer q1, Value.int IntKind.u64 n44] } w74
  fun (v297 : Value) (w76 : World) =>
  ∃ (b13 : Bool),
  v297 = Value.bool b13 ∧
  ∃ (h14 : World → Prop),
  (∀ (w77 : World), h14 w77 → h13 w77) ∧
  h14 w76 ∧
  ((!b13 == b12) = false →
  someR q20 fun (a32 : Addr) =>
  ∃ (q21 : Option Addr),
  ∃ (k37 : Nat),
  ∃ (k38 : Nat),
  ∃ (n45 : Int),
  ((∀ (w78 : World), h14 w78 → World.cell? w78 (Addr.add a32 (0 : Nat)) = some (Value.slice q21 k37 k38)) ∧
  ∀ (w79 : World), h14 w79 → World.cell? w79 (Addr.add a32 ((0 : Nat) + (1 : Nat))) = some (Value.int IntKind.u64 n45)) ∧
  Rets Tryd.prog (15 : Nat) { toList := [Value.pointer q1] } w76 fun (v298 : Value) (w80 : World) =>
  ∃ (n46 : Int),
  v298 = Value.int IntKind.i64 n46 ∧
  h14 w80 ∧
  Rets Tryd.prog (16 : Nat) { toList := [Value.agg { toList := [Value.slice q21 k37 k38, Value.int IntKind.u64 n45] }] }
  w80 fun (v299 : Value) (w81 : World) =>
  ∃ (n47 : Int), v299 = Value.int IntKind.i64 n47 ∧ h12 [Value.bool (n46 != n47)] w81) ∧
  ((!b13 == b12) = true → h12 [Value.bool true] w76)) ∧
  ∀ (w82 : World) (v300 v301 v302 v303 v304 v305 v306 v307 v308 v309 v310 v311 v312 v313 : Value) (b14 : Bool),
  h12 [Value.bool b14] w82 →
  (b14 = true → K (Value.bool false) w82) ∧
  (b14 = false →
  someR q20 fun (a33 : Addr) =>
  ∃ (q22 : Option Addr),
  ∃ (k39 : Nat),
  ∃ (k40 : Nat),
  ∃ (n48 : Int),
  (cellAt w82 (Addr.add a33 (0 : Nat)) (Value.slice q22 k39 k40) ∧
  cellAt w82 (Addr.add a33 (1 : Nat)) (Value.int IntKind.u64 n48)) ∧
  StoreR a1 [Value.slice q22 k39 k40, Value.int IntKind.u64 n48] w82 fun (w83 : World) =>
  ∃ (k41 : Nat), k41 < k4 ∧ h1 k41 [Value.int IntKind.i64 (IntKind.wrap IntKind.i64 (n2 + (1 : Int)))] w83))) ∧
  (decide (n2 < (↑l : Int)) = false →
  Drw w6 fun (w84 : World) =>
  ∃ (h15 : World → Prop),
  h15 w84 ∧
  ∃ (q23 : Option Addr),
  ∃ (k42 : Nat),
  ∃ (k43 : Nat),
  (∀ (w85 : World), h15 w85 → World.cell? w85 (Addr.add a1 (0 : Nat)) = some (Value.slice q23 k42 k43)) ∧
  Rets Tryd.prog (17 : Nat) { toList := [Value.pointer q1] } w84 fun (v314 : Value) (w86 : World) =>
  ∃ (n49 : Int),
  v314 = Value.int IntKind.i64 n49 ∧
  h15 w86 ∧
  ((n49 != (↑k42 : Int)) = true → K (Value.bool false) w86) ∧
  ((n49 != (↑k42 : Int)) = false →
  Rets Tryd.prog (18 : Nat) { toList := [Value.pointer q1] } w86 fun (v315 : Value) (w87 : World) =>
  v315 = Value.tuple { toList := [] } ∧
  ∃ (h16 : Nat → List Value → World → Prop),
  (∃ (k44 : Nat), h16 k44 [Value.int IntKind.i64 (0 : Int)] w87) ∧
  ∀ (k45 : Nat) (w88 : World) (v316 : Value) (n50 : Int)
  (v317 v318 v319 v320 v321 v322 v323 v324 v325 v326 v327 v328 : Value),
  h16 k45 [Value.int IntKind.i64 n50] w88 →
  (decide (n50 < (↑l : Int)) = true →
  (0 : Int) ≤ n50 ∧
  n50 < (↑l : Int) ∧
  someR q fun (a34 : Addr) =>
  ∃ (n51 : Int),
  cellAt w88 (Addr.add a34 (Int.toNat n50 * (1 : Nat))) (Value.int IntKind.u64 n51) ∧
  Rets Tryd.prog (11 : Nat) { toList := [Value.pointer q1, Value.int IntKind.u64 n51] } w88
  fun (v329 : Value) (w89 : World) =>
  ∃ (b15 : Bool),
  v329 = Value.bool b15 ∧
  (b15 = true → K (Value.bool false) w89) ∧
  (b15 = false →
  ∃ (k46 : Nat), k46 < k45 ∧ h16 k46 [Value.int IntKind.i64 (IntKind.wrap IntKind.i64 (n50 + (1 : Int)))] w89)) ∧
  (decide (n50 < (↑l : Int)) = false →
  Rets Tryd.prog (15 : Nat) { toList := [Value.pointer q1] } w88 fun (v330 : Value) (w90 : World) =>
  ∃ (n52 : Int),
  v330 = Value.int IntKind.i64 n52 ∧
  ((n52 == (0 : Int)) = true →
  Rets Tryd.prog (5 : Nat) { toList := [] } w90 fun (v331 : Value) (w91 : World) =>
  ∃ (b16 : Bool), v331 = Value.bool b16 ∧ K (Value.bool b16) w91) ∧
  ((n52 == (0 : Int)) = false → K (Value.bool false) w90)))))) ∧
  (decide (k > (100 : Int)) = true →
  Rets Tryd.prog (5 : Nat) { toList := [] } w fun (v332 : Value) (w92 : World) =>
  ∃ (b17 : Bool), v332 = Value.bool b17 ∧ K (Value.bool b17) w92)
theorem cortadolaw12_DoorPlays_eq (k s : Int) (q : Option Addr) (l c : Nat) (w : World) (K : Value → World → Prop) : fw Tryd.prog Tryd.f3 (annL [(2, [(6, none), (9, some 3), (10, none), (11, none), (12, none), (13, none), (14, none), (15, none), (31, none), (32, none), (33, none), (34, none), (35, none), (36, none), (37, none), (38, none), (39, none), (40, none), (41, none), (42, none), (43, none), (44, none), (45, none), (46, none), (47, none), (48, none), (49, none), (50, none), (51, none), (52, none), (53, none), (54, none), (55, none), (56, none), (57, none), (58, none), (59, none), (60, none), (61, none), (62, none), (63, none), (64, none), (65, none), (66, none), (67, none), (68, none), (69, none), (70, none), (71, none), (72, none), (73, none), (74, none), (75, none), (76, none), (77, none), (78, none), (79, none), (80, none), (81, none), (82, none), (83, none), (84, none), (85, none), (86, none), (87, none), (88, none), (89, none), (90, none), (91, none), (92, none), (93, none), (94, none), (95, none), (96, none), (97, none), (98, none), (99, none), (100, none), (101, none), (102, none), (103, none), (104, none), (105, none), (106, none), (107, none), (108, none), (109, none), (110, none), (111, none), (112, none), (113, none), (114, none), (115, none), (116, none), (117, none), (118, none), (119, none), (120, none), (121, none), (122, none), (123, none), (124, none), (125, none), (126, none), (127, none), (128, none), (129, none), (130, none), (131, none), (132, none), (133, none), (134, none), (135, none), (136, none), (137, none), (138, none), (139, none), (140, none), (141, none), (142, none), (143, none), (144, none), (145, none), (146, none), (147, none), (148, none), (149, none), (150, none), (151, none), (152, none), (153, none), (154, none), (155, none), (156, none), (157, none), (158, none), (159, none), (160, none), (161, none), (162, none), (163, none), (164, none), (165, none), (166, none), (167, none), (168, none), (169, none), (170, none), (171, none), (172, none), (173, none), (174, none), (175, none), (176, none)]), (9, [(6, none), (16, some 3), (185, none), (186, none), (187, none), (188, none), (189, none), (190, none), (191, none), (192, none), (193, none), (194, none), (195, none), (196, none)])]) (ordL [(2000007, [(10, 16), (11, 34), (12, 34), (37, 0), (38, 0), (39, 0), (40, 0), (41, 0), (42, 0), (43, 0), (44, 0), (45, 0), (46, 0), (47, 0), (48, 0), (49, 0), (50, 0), (51, 0), (52, 0), (53, 0), (54, 0), (55, 0)]), (7, [(0, 0), (1, 0), (2, 0), (3, 0), (7, 0), (8, 0), (9, 0), (13, 0), (14, 0), (15, 0), (4, 1), (6, 1), (10, 1), (12, 1), (16, 1), (17, 0), (0, 6), (5, 2), (0, 6), (11, 2), (0, 6), (18, 2), (19, 2), (20, 2), (21, 0), (22, 0), (0, 7), (19, 2), (18, 2), (20, 2), (21, 0), (22, 0), (0, 7), (19, 2), (11, 2), (18, 2), (20, 2), (21, 0), (22, 0), (0, 7), (19, 2), (5, 2), (11, 2), (18, 2), (20, 2), (21, 0), (22, 0), (0, 7)]), (2000008, [(13, 5), (56, 0), (57, 0), (58, 0), (59, 0), (60, 0), (61, 0), (62, 0), (63, 0), (64, 0), (65, 0), (66, 0), (67, 0), (68, 0), (69, 0), (70, 0), (71, 0), (72, 0), (73, 0), (74, 0), (75, 0), (76, 0), (77, 0), (78, 0), (79, 0), (80, 0), (81, 0), (82, 0), (83, 0), (84, 0), (85, 0), (86, 0), (87, 0), (88, 0), (89, 0)]), (8, [(0, 0), (1, 0), (3, 0), (4, 0), (2, 1), (5, 1), (6, 0), (7, 0), (8, 0), (9, 0), (11, 0), (12, 0), (10, 1), (13, 1), (14, 0), (15, 0), (16, 0), (17, 0), (18, 0), (20, 0), (21, 0), (19, 1), (22, 1), (23, 0), (24, 0), (25, 0), (26, 0), (27, 0), (29, 0), (30, 0), (28, 1), (31, 1), (32, 0), (33, 0), (34, 0)]), (2000009, [(90, 0), (91, 0), (92, 0), (93, 0), (94, 0), (95, 0), (96, 0), (97, 0), (98, 0), (99, 0), (100, 0), (101, 0), (102, 0), (103, 0), (104, 0), (105, 0), (106, 0), (107, 0), (108, 0), (109, 0), (110, 0), (111, 0), (112, 0), (113, 0), (114, 0), (115, 0), (116, 0), (117, 0), (118, 0), (119, 0), (120, 0), (121, 0), (122, 0), (123, 0), (124, 0), (125, 0), (126, 0), (127, 0), (128, 0), (129, 0), (130, 0), (131, 0), (132, 0), (133, 0), (134, 0), (135, 0), (136, 0), (137, 0), (138, 0), (139, 0), (140, 0), (141, 0), (142, 0), (143, 0), (144, 0), (145, 0), (146, 0), (147, 0), (148, 0), (149, 0), (150, 0), (151, 5)]), (9, [(1, 0), (2, 0), (4, 0), (5, 0), (7, 0), (8, 0), (10, 0), (11, 0), (0, 1), (3, 1), (6, 1), (9, 1), (12, 1), (13, 0), (14, 1), (15, 0), (16, 0), (17, 0), (18, 0), (19, 0), (21, 0), (22, 0), (23, 0), (27, 0), (20, 1), (24, 1), (25, 0), (26, 4), (28, 0), (29, 0), (30, 0), (31, 0), (32, 0), (33, 0), (34, 0), (38, 0), (39, 0), (40, 0), (35, 1), (37, 1), (41, 1), (36, 4), (42, 4), (43, 0), (44, 0), (45, 0), (46, 0), (47, 0), (48, 0), (49, 0), (54, 0), (55, 0), (56, 0), (50, 1), (51, 0), (53, 1), (57, 1), (58, 0), (52, 2), (59, 3), (60, 0), (61, 0)]), (2000011, [(14, 16), (15, 5), (152, 0), (153, 0), (154, 0), (155, 0), (156, 0), (157, 0), (158, 0), (159, 0), (160, 0)]), (11, [(1, 0), (2, 0), (3, 0), (0, 1), (4, 1), (0, 6), (5, 2), (6, 0), (7, 0), (8, 0), (9, 2), (10, 2), (11, 0), (0, 7), (9, 2), (5, 2), (6, 0), (7, 0), (8, 0), (10, 2), (11, 0), (0, 7)]), (2000012, [(161, 0), (162, 0), (163, 0), (164, 0), (165, 0), (166, 0), (167, 0), (168, 0), (169, 0), (170, 0), (171, 0), (172, 0), (173, 0), (174, 0), (175, 5)]), (12, [(0, 0), (1, 0), (2, 0), (3, 0), (6, 0), (4, 1), (5, 4), (7, 0), (8, 0), (9, 0), (11, 1), (10, 2), (12, 3), (13, 0), (14, 0)]), (15, [(0, 0), (2, 0), (3, 1), (4, 0), (1, 2), (5, 0)])]) [.int .i64 k, .int .u64 s, .slice q l c] w K = cortadolaw12_DoorPlays_m k s q l c w K := by kernel_rfl
theorem cortadolaw12_DoorPlays_go (k s : Int) (q : Option Addr) (l c : Nat) {w : World} {K : Value → World → Prop} (h : cortadolaw12_DoorPlays_m k s q l c w K) : Rets Tryd.prog 3 #[.int .i64 k, .int .u64 s, .slice q l c] w K :=
  calls_of_fw plain mixed Tryd.func3 (by kernel_rfl) (by rw [cortadolaw12_DoorPlays_eq]; exact h)
end Go.Proofs.YtfcddffcjmgpkaaDoor.Eng
