/- What the code of these functions asks for: printed by a program of this session's (gens.py) out of the seat's own functions; the kernel checks each row. -/
import Derived.Test.YtianklbklggboaaEngH
import Derived.Test.YtianklbklggboaaProg
import Derived.Test.YtianklbklggboaaBase
namespace Go.Proofs.Ytianklbklggboaa.Eng
open Go Go.Proofs
set_option linter.unusedVariables false
set_option maxRecDepth 1000000
def cortadolaw49_LruPlays_m (most : Int) (q : Option Addr) (l c : Nat) (told : Int) (w : World) (K : Value → World → Prop) : Prop :=
  NewR (23 : Nat) [Value.int IntKind.u64 told] w fun (a1 : Addr) (w1 : World) =>
  NewR (4 : Nat) [Value.bool false] w1 fun (a2 : Addr) (w2 : World) =>
  (decide ((↑l : Int) > (50 : Int)) = true →
  Rets Try.prog (5 : Nat) { toList := [] } w2 fun (v1 : Value) (w3 : World) =>
  ∃ (b1 : Bool),
  v1 = Value.bool b1 ∧
  StoreR a2 [Value.bool b1] w3 fun (w4 : World) => ∃ (b2 : Bool), cellAt w4 a2 (Value.bool b2) ∧ K (Value.bool b2) w4) ∧
  (decide ((↑l : Int) > (50 : Int)) = false →
  Rets Try.prog (6 : Nat) { toList := [Value.int IntKind.i64 most] } w2 fun (v2 : Value) (w5 : World) =>
  ∃ (q1 : Option Addr),
  v2 = Value.pointer q1 ∧
  Rets Try.prog (11 : Nat) { toList := [Value.int IntKind.i64 most] } w5 fun (v3 : Value) (w6 : World) =>
  ∃ (n1 : Int),
  v3 = Value.int IntKind.i64 n1 ∧
  NewR (35 : Nat) [Value.slice none (0 : Nat) (0 : Nat)] w6 fun (a3 : Addr) (w7 : World) =>
  ∃ (h1 : Nat → List Value → World → Prop),
  (∃ (k1 : Nat), h1 k1 [Value.int IntKind.i64 (0 : Int)] w7) ∧
  ∀ (k2 : Nat) (w8 : World) (n2 : Int)
  (v4 v5 v6 v7 v8 v9 v10 v11 v12 v13 v14 v15 v16 v17 v18 v19 v20 v21 v22 v23 v24 v25 v26 v27 v28 v29 v30 v31 v32 v33 v34
  v35 v36 v37 v38 v39 v40 v41 v42 v43 v44 v45 v46 v47 v48 v49 v50 v51 : Value),
  h1 k2 [Value.int IntKind.i64 n2] w8 →
  (decide (n2 < (↑l : Int)) = true →
  Drw w8 fun (w9 : World) =>
  (0 : Int) ≤ n2 ∧
  n2 < (↑l : Int) ∧
  someR q fun (a4 : Addr) =>
  ∃ (q2 : Option Addr),
  ∃ (k3 : Nat),
  ∃ (k4 : Nat),
  cellAt w9 a3 (Value.slice q2 k3 k4) ∧
  ∃ (n3 : Int),
  ∃ (n4 : Int),
  ∃ (n5 : Int),
  ∃ (n6 : Int),
  (cellAt w9 (Addr.add (Addr.add a4 (Int.toNat n2 * (4 : Nat))) (0 : Nat)) (Value.int IntKind.u64 n3) ∧
  cellAt w9 (Addr.add (Addr.add a4 (Int.toNat n2 * (4 : Nat))) (1 : Nat)) (Value.int IntKind.i64 n4) ∧
  cellAt w9 (Addr.add (Addr.add a4 (Int.toNat n2 * (4 : Nat))) (2 : Nat)) (Value.int IntKind.i64 n5) ∧
  cellAt w9 (Addr.add (Addr.add a4 (Int.toNat n2 * (4 : Nat))) (3 : Nat)) (Value.int IntKind.i64 n6)) ∧
  Rets Try.prog (12 : Nat)
  {
  toList :=
  [Value.pointer q1, Value.slice q2 k3 k4, Value.int IntKind.i64 n1,
  Value.agg
  {
  toList := [Value.int IntKind.u64 n3, Value.int IntKind.i64 n4, Value.int IntKind.i64 n5, Value.int IntKind.i64 n6] }] }
  w9 fun (v52 : Value) (w10 : World) =>
  ∃ (q3 : Option Addr),
  ∃ (k5 : Nat),
  ∃ (k6 : Nat),
  ∃ (b3 : Bool),
  v52 = Value.tuple { toList := [Value.slice q3 k5 k6, Value.bool b3] } ∧
  StoreR a3 [Value.slice q3 k5 k6] w10 fun (w11 : World) =>
  ∃ (h2 : List Value → World → Prop),
  (Drw w11 fun (w12 : World) =>
  ∃ (h3 : World → Prop),
  h3 w12 ∧
  ((!b3) = false →
  ∃ (q4 : Option Addr),
  ∃ (k7 : Nat),
  ∃ (k8 : Nat),
  (∀ (w13 : World), h3 w13 → World.cell? w13 a3 = some (Value.slice q4 k7 k8)) ∧
  Rets Try.prog (13 : Nat) { toList := [Value.pointer q1] } w12 fun (v53 : Value) (w14 : World) =>
  ∃ (n7 : Int),
  v53 = Value.int IntKind.i64 n7 ∧
  h3 w14 ∧
  ((n7 != (↑k7 : Int)) = false →
  ∃ (q5 : Option Addr),
  ∃ (k9 : Nat),
  ∃ (k10 : Nat),
  (∀ (w15 : World), h3 w15 → World.cell? w15 a3 = some (Value.slice q5 k9 k10)) ∧
  Rets Try.prog (10 : Nat) { toList := [Value.pointer q1] } w14 fun (v54 : Value) (w16 : World) =>
  ∃ (n8 : Int),
  v54 = Value.int IntKind.i64 n8 ∧
  h3 w16 ∧
  Rets Try.prog (14 : Nat) { toList := [Value.slice q5 k9 k10] } w16 fun (v55 : Value) (w17 : World) =>
  ∃ (n9 : Int),
  v55 = Value.int IntKind.i64 n9 ∧
  ((n8 != n9) = false →
  Rets Try.prog (15 : Nat) { toList := [Value.pointer q1] } w17 fun (v56 : Value) (w18 : World) =>
  ∃ (n10 : Int),
  v56 = Value.int IntKind.i64 n10 ∧
  ((n10 != n1) = false →
  Rets Try.prog (10 : Nat) { toList := [Value.pointer q1] } w18 fun (v57 : Value) (w19 : World) =>
  ∃ (n11 : Int), v57 = Value.int IntKind.i64 n11 ∧ h2 [Value.bool (decide (n11 > n1))] w19) ∧
  ((n10 != n1) = true → h2 [Value.bool true] w18)) ∧
  ((n8 != n9) = true → h2 [Value.bool true] w17)) ∧
  ((n7 != (↑k7 : Int)) = true → h2 [Value.bool true] w14)) ∧
  ((!b3) = true → h2 [Value.bool true] w12)) ∧
  ∀ (w20 : World)
  (v58 v59 v60 v61 v62 v63 v64 v65 v66 v67 v68 v69 v70 v71 v72 v73 v74 v75 v76 v77 v78 v79 v80 v81 v82 v83 v84 : Value)
  (b4 : Bool),
  h2 [Value.bool b4] w20 →
  (b4 = true →
  StoreR a2 [Value.bool false] w20 fun (w21 : World) =>
  ∃ (b5 : Bool), cellAt w21 a2 (Value.bool b5) ∧ K (Value.bool b5) w21) ∧
  (b4 = false →
  ∃ (k11 : Nat), k11 < k2 ∧ h1 k11 [Value.int IntKind.i64 (IntKind.wrap IntKind.i64 (n2 + (1 : Int)))] w20)) ∧
  (decide (n2 < (↑l : Int)) = false →
  Rets Try.prog (16 : Nat) { toList := [Value.pointer q1] } w8 fun (v85 : Value) (w22 : World) =>
  ∃ (k12 : Nat),
  ∃ (a5 : Array Value),
  ∃ (c1 : Array Value),
  v85 = Value.func (Fn.func k12) a5 c1 ∧
  (false = true →
  StoreR a2 [Value.bool false] w22 fun (w23 : World) =>
  ∃ (b6 : Bool), cellAt w23 a2 (Value.bool b6) ∧ K (Value.bool b6) w23) ∧
  (false = false →
  NewR (3 : Nat) [Value.int IntKind.i64 (0 : Int)] w22 fun (a6 : Addr) (w24 : World) =>
  StoreR a6 [Value.int IntKind.i64 (0 : Int)] w24 fun (w25 : World) =>
  ∃ (v86 : Value),
  Value.func (Fn.func k12) a5 c1 = Value.func (Fn.func (32 : Nat)) { toList := [] } { toList := [v86] } ∧
  LoopR w25 fun (k13 k14 : Nat) (L1 : Loop) (w26 : World) =>
  (∀ (n12 n13 : Int) (w27 : World) (h4 : Value → World → Prop),
  RecR k14 L1 w27 →
  (BegR k14 L1 w27 fun (w28 : World) =>
  ∃ (n14 : Int),
  cellAt w28 a6 (Value.int IntKind.i64 n14) ∧
  ∃ (n15 : Int),
  cellAt w28 a1 (Value.int IntKind.u64 n15) ∧
  (55 : Int) ≠ (0 : Int) ∧
  (decide (n14 ≥ IntKind.wrap IntKind.i64 (Int.tmod n15 (55 : Int))) = true →
  FinR k14 L1 (some (Code.exit (2 : Nat))) w28 fun (w29 : World) => h4 (Value.bool false) w29) ∧
  (decide (n14 ≥ IntKind.wrap IntKind.i64 (Int.tmod n15 (55 : Int))) = false →
  ∃ (h5 : List Value → World → Prop),
  (∃ (n16 : Int),
  cellAt w28 a6 (Value.int IntKind.i64 n16) ∧
  ∃ (q6 : Option Addr),
  ∃ (k15 : Nat),
  ∃ (k16 : Nat),
  cellAt w28 a3 (Value.slice q6 k15 k16) ∧
  (decide (n16 ≥ (↑k15 : Int)) = false →
  ∃ (q7 : Option Addr),
  ∃ (k17 : Nat),
  ∃ (k18 : Nat),
  cellAt w28 a3 (Value.slice q7 k17 k18) ∧
  ∃ (n17 : Int),
  cellAt w28 a6 (Value.int IntKind.i64 n17) ∧
  (0 : Int) ≤ n17 ∧
  n17 < (↑k17 : Int) ∧
  someR q7 fun (a7 : Addr) =>
  ∃ (n18 : Int),
  cellAt w28 (Addr.add (Addr.add a7 (Int.toNat n17 * (3 : Nat))) (0 : Nat)) (Value.int IntKind.i64 n18) ∧
  ((n12 != n18) = false →
  ∃ (q8 : Option Addr),
  ∃ (k19 : Nat),
  ∃ (k20 : Nat),
  cellAt w28 a3 (Value.slice q8 k19 k20) ∧
  ∃ (n19 : Int),
  cellAt w28 a6 (Value.int IntKind.i64 n19) ∧
  (0 : Int) ≤ n19 ∧
  n19 < (↑k19 : Int) ∧
  someR q8 fun (a8 : Addr) =>
  ∃ (n20 : Int),
  cellAt w28 (Addr.add (Addr.add a8 (Int.toNat n19 * (3 : Nat))) (1 : Nat)) (Value.int IntKind.i64 n20) ∧
  h5 [Value.bool (n13 != n20)] w28) ∧
  ((n12 != n18) = true → h5 [Value.bool true] w28)) ∧
  (decide (n16 ≥ (↑k15 : Int)) = true → h5 [Value.bool true] w28)) ∧
  ∀ (w30 : World) (v87 v88 v89 v90 v91 v92 v93 v94 v95 v96 v97 v98 v99 v100 v101 v102 v103 v104 v105 v106 v107 : Value)
  (b7 : Bool),
  h5 [Value.bool b7] w30 →
  (b7 = true →
  StoreR a2 [Value.bool false] w30 fun (w31 : World) =>
  FinR k14 L1 (some Code.ret) w31 fun (w32 : World) => h4 (Value.bool false) w32) ∧
  (b7 = false →
  ∃ (n21 : Int),
  cellAt w30 a6 (Value.int IntKind.i64 n21) ∧
  StoreR a6 [Value.int IntKind.i64 (IntKind.wrap IntKind.i64 (n21 + (1 : Int)))] w30 fun (w33 : World) =>
  FinR k14 L1 none w33 fun (w34 : World) => h4 (Value.bool true) w34))) →
  RoundR Try.prog k14 { toList := [Value.int IntKind.i64 n12, Value.int IntKind.i64 n13] } w27 h4) →
  Rets Try.prog (32 : Nat) { toList := [Value.func (Fn.yield k14) { toList := [] } { toList := [] }, v86] } w26
  fun (v108 : Value) (w35 : World) =>
  (EndR k14 L1 none w35 fun (w36 : World) =>
  Rets Try.prog (7 : Nat) { toList := [Value.pointer none, Value.int IntKind.i64 (1 : Int)] } w36
  fun (v109 : Value) (w37 : World) =>
  ∃ (n22 : Int),
  ∃ (b8 : Bool),
  v109 = Value.tuple { toList := [Value.int IntKind.i64 n22, Value.bool b8] } ∧
  Rets Try.prog (8 : Nat)
  {
  toList :=
  [Value.pointer none, Value.int IntKind.i64 (1 : Int), Value.int IntKind.i64 (1 : Int),
  Value.int IntKind.i64 (0 : Int)] }
  w37 fun (v110 : Value) (w38 : World) =>
  ∃ (q9 : Option Addr),
  ∃ (k21 : Nat),
  ∃ (k22 : Nat),
  ∃ (b9 : Bool),
  v110 = Value.tuple { toList := [Value.slice q9 k21 k22, Value.bool b9] } ∧
  ∃ (h6 : List Value → World → Prop),
  (∃ (n23 : Int),
  cellAt w38 a6 (Value.int IntKind.i64 n23) ∧
  ∃ (q10 : Option Addr),
  ∃ (k23 : Nat),
  ∃ (k24 : Nat),
  cellAt w38 a3 (Value.slice q10 k23 k24) ∧
  ∃ (n24 : Int),
  cellAt w38 a1 (Value.int IntKind.u64 n24) ∧
  (55 : Int) ≠ (0 : Int) ∧
  ((n23 == minI (↑k23 : Int) (IntKind.wrap IntKind.i64 (Int.tmod n24 (55 : Int)))) = true →
  ((!b8) = true →
  ((!b9) = true →
  Rets Try.prog (17 : Nat) { toList := [Value.pointer none, Value.int IntKind.i64 (1 : Int)] } w38
  fun (v111 : Value) (w39 : World) =>
  ∃ (b10 : Bool),
  v111 = Value.bool b10 ∧
  ((!b10) = true →
  Rets Try.prog (13 : Nat) { toList := [Value.pointer none] } w39 fun (v112 : Value) (w40 : World) =>
  ∃ (n25 : Int),
  v112 = Value.int IntKind.i64 n25 ∧
  Rets Try.prog (10 : Nat) { toList := [Value.pointer none] } w40 fun (v113 : Value) (w41 : World) =>
  ∃ (n26 : Int),
  v113 = Value.int IntKind.i64 n26 ∧
  Rets Try.prog (15 : Nat) { toList := [Value.pointer none] } w41 fun (v114 : Value) (w42 : World) =>
  ∃ (n27 : Int),
  v114 = Value.int IntKind.i64 n27 ∧
  ((IntKind.wrap IntKind.i64 (IntKind.wrap IntKind.i64 (n25 + n26) + n27) == (0 : Int)) = true →
  Rets Try.prog (5 : Nat) { toList := [] } w42 fun (v115 : Value) (w43 : World) =>
  ∃ (b11 : Bool), v115 = Value.bool b11 ∧ StoreR a2 [Value.bool b11] w43 fun (w44 : World) => h6 [] w44) ∧
  ((IntKind.wrap IntKind.i64 (IntKind.wrap IntKind.i64 (n25 + n26) + n27) == (0 : Int)) = false →
  StoreR a2 [Value.bool false] w42 fun (w45 : World) => h6 [] w45)) ∧
  ((!b10) = false → StoreR a2 [Value.bool false] w39 fun (w46 : World) => h6 [] w46)) ∧
  ((!b9) = false → StoreR a2 [Value.bool false] w38 fun (w47 : World) => h6 [] w47)) ∧
  ((!b8) = false → StoreR a2 [Value.bool false] w38 fun (w48 : World) => h6 [] w48)) ∧
  ((n23 == minI (↑k23 : Int) (IntKind.wrap IntKind.i64 (Int.tmod n24 (55 : Int)))) = false →
  StoreR a2 [Value.bool false] w38 fun (w49 : World) => h6 [] w49)) ∧
  ∀ (w50 : World)
  (v116 v117 v118 v119 v120 v121 v122 v123 v124 v125 v126 v127 v128 v129 v130 v131 v132 v133 v134 v135 v136 v137 v138 v139
  v140 v141 v142 v143 v144 v145 v146 v147 v148 v149 v150 : Value),
  h6 [] w50 →
  MarkR k13 w50 fun (w51 : World) => ∃ (b12 : Bool), cellAt w51 a2 (Value.bool b12) ∧ K (Value.bool b12) w51) ∨
  (EndR k14 L1 (some Code.ret) w35 fun (w52 : World) =>
  MarkR k13 w52 fun (w53 : World) => ∃ (b13 : Bool), cellAt w53 a2 (Value.bool b13) ∧ K (Value.bool b13) w53) ∨
  EndR k14 L1 (some (Code.exit (2 : Nat))) w35 fun (w54 : World) =>
  Rets Try.prog (7 : Nat) { toList := [Value.pointer none, Value.int IntKind.i64 (1 : Int)] } w54
  fun (v151 : Value) (w55 : World) =>
  ∃ (n28 : Int),
  ∃ (b14 : Bool),
  v151 = Value.tuple { toList := [Value.int IntKind.i64 n28, Value.bool b14] } ∧
  Rets Try.prog (8 : Nat)
  {
  toList :=
  [Value.pointer none, Value.int IntKind.i64 (1 : Int), Value.int IntKind.i64 (1 : Int),
  Value.int IntKind.i64 (0 : Int)] }
  w55 fun (v152 : Value) (w56 : World) =>
  ∃ (q11 : Option Addr),
  ∃ (k25 : Nat),
  ∃ (k26 : Nat),
  ∃ (b15 : Bool),
  v152 = Value.tuple { toList := [Value.slice q11 k25 k26, Value.bool b15] } ∧
  ∃ (h7 : List Value → World → Prop),
  (∃ (n29 : Int),
  cellAt w56 a6 (Value.int IntKind.i64 n29) ∧
  ∃ (q12 : Option Addr),
  ∃ (k27 : Nat),
  ∃ (k28 : Nat),
  cellAt w56 a3 (Value.slice q12 k27 k28) ∧
  ∃ (n30 : Int),
  cellAt w56 a1 (Value.int IntKind.u64 n30) ∧
  (55 : Int) ≠ (0 : Int) ∧
  ((n29 == minI (↑k27 : Int) (IntKind.wrap IntKind.i64 (Int.tmod n30 (55 : Int)))) = true →
  ((!b14) = true →
  ((!b15) = true →
  Rets Try.prog (17 : Nat) { toList := [Value.pointer none, Value.int IntKind.i64 (1 : Int)] } w56
  fun (v153 : Value) (w57 : World) =>
  ∃ (b16 : Bool),
  v153 = Value.bool b16 ∧
  ((!b16) = true →
  Rets Try.prog (13 : Nat) { toList := [Value.pointer none] } w57 fun (v154 : Value) (w58 : World) =>
  ∃ (n31 : Int),
  v154 = Value.int IntKind.i64 n31 ∧
  Rets Try.prog (10 : Nat) { toList := [Value.pointer none] } w58 fun (v155 : Value) (w59 : World) =>
  ∃ (n32 : Int),
  v155 = Value.int IntKind.i64 n32 ∧
  Rets Try.prog (15 : Nat) { toList := [Value.pointer none] } w59 fun (v156 : Value) (w60 : World) =>
  ∃ (n33 : Int),
  v156 = Value.int IntKind.i64 n33 ∧
  ((IntKind.wrap IntKind.i64 (IntKind.wrap IntKind.i64 (n31 + n32) + n33) == (0 : Int)) = true →
  Rets Try.prog (5 : Nat) { toList := [] } w60 fun (v157 : Value) (w61 : World) =>
  ∃ (b17 : Bool), v157 = Value.bool b17 ∧ StoreR a2 [Value.bool b17] w61 fun (w62 : World) => h7 [] w62) ∧
  ((IntKind.wrap IntKind.i64 (IntKind.wrap IntKind.i64 (n31 + n32) + n33) == (0 : Int)) = false →
  StoreR a2 [Value.bool false] w60 fun (w63 : World) => h7 [] w63)) ∧
  ((!b16) = false → StoreR a2 [Value.bool false] w57 fun (w64 : World) => h7 [] w64)) ∧
  ((!b15) = false → StoreR a2 [Value.bool false] w56 fun (w65 : World) => h7 [] w65)) ∧
  ((!b14) = false → StoreR a2 [Value.bool false] w56 fun (w66 : World) => h7 [] w66)) ∧
  ((n29 == minI (↑k27 : Int) (IntKind.wrap IntKind.i64 (Int.tmod n30 (55 : Int)))) = false →
  StoreR a2 [Value.bool false] w56 fun (w67 : World) => h7 [] w67)) ∧
  ∀ (w68 : World)
  (v158 v159 v160 v161 v162 v163 v164 v165 v166 v167 v168 v169 v170 v171 v172 v173 v174 v175 v176 v177 v178 v179 v180 v181
  v182 v183 v184 v185 v186 v187 v188 v189 v190 v191 v192 : Value),
  h7 [] w68 →
  MarkR k13 w68 fun (w69 : World) => ∃ (b18 : Bool), cellAt w69 a2 (Value.bool b18) ∧ K (Value.bool b18) w69)))
theorem cortadolaw49_LruPlays_eq (most : Int) (q : Option Addr) (l c : Nat) (told : Int) (w : World) (K : Value → World → Prop) : fw Try.prog Try.f4 (annL [(2, [(10, some 3), (11, none), (12, none), (30, none), (31, none), (32, none), (33, none), (34, none), (35, none), (36, none), (37, none), (38, none), (39, none), (40, none), (41, none), (42, none), (43, none), (44, none), (45, none), (46, none), (47, none), (48, none), (49, none), (50, none), (51, none), (52, none), (53, none), (54, none), (55, none), (56, none), (57, none), (58, none), (59, none), (60, none), (61, none), (62, none), (63, none), (64, none), (65, none), (66, none), (67, none), (68, none), (69, none), (70, none), (71, none), (72, none), (73, none), (74, none), (75, none)]), (8, [(81, some 3), (82, some 3)])]) (ordL [(9, [(0, 0), (2, 0), (3, 0), (4, 0), (5, 0), (1, 1), (6, 1), (7, 3), (8, 0), (9, 0), (10, 0), (11, 0), (12, 0)]), (2000011, [(48, 0), (49, 0), (50, 0), (51, 0), (52, 0), (53, 0), (54, 0), (55, 0), (56, 0), (57, 0), (58, 0), (59, 0), (60, 0), (61, 0), (62, 0), (63, 0), (64, 0), (65, 0), (66, 0), (67, 0), (68, 0), (69, 0), (70, 0), (71, 0), (72, 0), (73, 0), (74, 0), (75, 5)]), (11, [(0, 0), (1, 0), (2, 0), (3, 0), (5, 1), (6, 0), (4, 2), (7, 0), (8, 0), (9, 0), (10, 0), (12, 1), (11, 2), (13, 3), (14, 0), (15, 0), (16, 0), (17, 0), (19, 0), (18, 3), (20, 0), (21, 0), (22, 0), (23, 0), (25, 0), (24, 3), (26, 0), (27, 0)]), (1000008, [(32, 1)]), (2000021, [(88, 0), (89, 0), (90, 0), (91, 0), (92, 0), (93, 0), (94, 0), (95, 0), (96, 0), (97, 0), (98, 0), (99, 0), (100, 0), (101, 0), (102, 0), (103, 0), (104, 0), (105, 0), (106, 0), (107, 0), (108, 0), (109, 5)]), (2000027, [(122, 0), (123, 0), (124, 0), (125, 0), (126, 0), (127, 0), (128, 0), (129, 0), (130, 0), (131, 0), (132, 0), (133, 0), (134, 0), (135, 0), (136, 0), (137, 0), (138, 0), (139, 0), (140, 0), (141, 0), (142, 0), (143, 0), (144, 0), (145, 0), (146, 0), (147, 0), (148, 0), (149, 0), (150, 0), (151, 0), (152, 0), (153, 0), (154, 0), (155, 0), (156, 0)])]) [.int .i64 most, .slice q l c, .int .u64 told] w K = cortadolaw49_LruPlays_m most q l c told w K := by kernel_rfl
theorem cortadolaw49_LruPlays_go (most : Int) (q : Option Addr) (l c : Nat) (told : Int) {w : World} {K : Value → World → Prop} (h : cortadolaw49_LruPlays_m most q l c told w K) : Rets Try.prog 4 #[.int .i64 most, .slice q l c, .int .u64 told] w K :=
  calls_of_fw plain mixed Try.func4 (by kernel_rfl) (by rw [cortadolaw49_LruPlays_eq]; exact h)
end Go.Proofs.Ytianklbklggboaa.Eng
