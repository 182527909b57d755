/- What the code of these functions asks for: printed by a program of this session's (gens.py) out of the seat's own functions; the kernel checks each row. -/
import Derived.Test.YtipcbhaeoeghnaaEngH
import Derived.Test.YtipcbhaeoeghnaaProg
import Derived.Test.YtipcbhaeoeghnaaBase
namespace Go.Proofs.Ytipcbhaeoeghnaa.Eng
open Go Go.Proofs
set_option linter.unusedVariables false
set_option maxRecDepth 1000000
def cortadolaw28_ItemOrder_m (room : Int) (q : Option Addr) (l c : Nat) (q2 : Option Addr) (l2 c2 : Nat) (w : World) (K : Value → World → Prop) : Prop :=
  (decide ((↑l : Int) > (60 : Int)) = true →
  Rets Try.prog (39 : Nat) { toList := [] } w fun (v1 : Value) (w1 : World) =>
  ∃ (b1 : Bool), v1 = Value.bool b1 ∧ K (Value.bool b1) w1) ∧
  (decide ((↑l : Int) > (60 : Int)) = false →
  Rets Try.prog (54 : Nat) { toList := [Value.int IntKind.i64 room] } w fun (v2 : Value) (w2 : World) =>
  ∃ (q1 : Option Addr),
  v2 = Value.pointer q1 ∧
  ∃ (h1 : Nat → List Value → World → Prop),
  (∃ (k1 : Nat),
  h1 k1 [Value.int IntKind.i64 (0 : Int), Value.int IntKind.i64 (0 : Int), Value.int IntKind.i64 (0 : Int)] w2) ∧
  ∀ (k2 : Nat) (w3 : World) (v3 : Value) (n1 n2 n3 : Int)
  (v4 v5 v6 v7 v8 v9 v10 v11 v12 v13 v14 v15 v16 v17 v18 v19 v20 v21 v22 v23 v24 v25 v26 v27 v28 v29 v30 v31 v32 v33 v34
  v35 v36 v37 v38 v39 v40 v41 v42 v43 v44 v45 v46 v47 v48 v49 v50 v51 v52 v53 v54 v55 v56 v57 v58 v59 v60 v61 v62 v63 v64
  v65 v66 v67 v68 v69 v70 v71 v72 v73 v74 v75 v76 v77 v78 v79 v80 v81 v82 v83 v84 v85 v86 v87 v88 v89 v90 v91 v92 v93 v94
  v95 v96 v97 v98 v99 v100 v101 v102 v103 v104 v105 v106 v107 v108 v109 v110 v111 v112 v113 v114 v115 v116 v117 v118 v119
  v120 v121 v122 v123 v124 v125 v126 v127 : Value),
  h1 k2 [Value.int IntKind.i64 n1, Value.int IntKind.i64 n2, Value.int IntKind.i64 n3] w3 →
  (decide (n3 < (↑l : Int)) = true →
  ∃ (h2 : List Value → World → Prop),
  ((0 : Int) ≤ n3 ∧
  n3 < (↑l : Int) ∧
  someR q fun (a1 : Addr) =>
  ∃ (n4 : Int),
  cellAt w3 (Addr.add a1 (Int.toNat n3 * (1 : Nat))) (Value.int IntKind.i64 n4) ∧
  (decide (n4 ≥ (1 : Int)) = true →
  (0 : Int) ≤ n3 ∧
  n3 < (↑l : Int) ∧
  someR q fun (a2 : Addr) =>
  ∃ (n5 : Int),
  cellAt w3 (Addr.add a2 (Int.toNat n3 * (1 : Nat))) (Value.int IntKind.i64 n5) ∧
  h2 [Value.bool (decide (n5 ≤ (6 : Int)))] w3) ∧
  (decide (n4 ≥ (1 : Int)) = false → h2 [Value.bool false] w3)) ∧
  ∀ (w4 : World) (b2 : Bool) (v128 v129 v130 v131 v132 v133 v134 v135 v136 v137 v138 v139 : Value),
  h2 [Value.bool b2] w4 →
  ∃ (h3 : List Value → World → Prop),
  (Drw w4 fun (w5 : World) =>
  ∃ (h4 : World → Prop),
  h4 w5 ∧
  (0 : Int) ≤ n3 ∧
  n3 < (↑l : Int) ∧
  someR q fun (a3 : Addr) =>
  ∃ (n6 : Int),
  (∀ (w6 : World), h4 w6 → World.cell? w6 (Addr.add a3 (Int.toNat n3 * (1 : Nat))) = some (Value.int IntKind.i64 n6)) ∧
  Rets Try.prog (55 : Nat) { toList := [Value.int IntKind.i64 n6] } w5 fun (v140 : Value) (w7 : World) =>
  ∃ (b3 : Bool),
  v140 = Value.bool b3 ∧
  h4 w7 ∧
  ((!b3 == b2) = false →
  (0 : Int) ≤ n3 ∧
  n3 < (↑l : Int) ∧
  someR q fun (a4 : Addr) =>
  (0 : Int) ≤ n3 ∧
  n3 < (↑l : Int) ∧
  someR q fun (a5 : Addr) =>
  ∃ (n7 : Int),
  (∀ (w8 : World), h4 w8 → World.cell? w8 (Addr.add a4 (Int.toNat n3 * (1 : Nat))) = some (Value.int IntKind.i64 n7)) ∧
  ∃ (n8 : Int),
  (∀ (w9 : World), h4 w9 → World.cell? w9 (Addr.add a5 (Int.toNat n3 * (1 : Nat))) = some (Value.int IntKind.i64 n8)) ∧
  Rets Try.prog (56 : Nat) { toList := [Value.int IntKind.i64 n7] } w7 fun (v141 : Value) (w10 : World) =>
  ∃ (b4 : Bool),
  v141 = Value.bool b4 ∧
  h4 w10 ∧
  (decide (n8 ≥ (4 : Int)) = true →
  (0 : Int) ≤ n3 ∧
  n3 < (↑l : Int) ∧
  someR q fun (a6 : Addr) =>
  ∃ (n9 : Int),
  (∀ (w11 : World), h4 w11 → World.cell? w11 (Addr.add a6 (Int.toNat n3 * (1 : Nat))) = some (Value.int IntKind.i64 n9)) ∧
  ((!b4 == decide (n9 ≤ (6 : Int))) = false →
  (0 : Int) ≤ n3 ∧
  n3 < (↑l : Int) ∧
  someR q fun (a7 : Addr) =>
  ∃ (n10 : Int),
  (∀ (w12 : World),
  h4 w12 → World.cell? w12 (Addr.add a7 (Int.toNat n3 * (1 : Nat))) = some (Value.int IntKind.i64 n10)) ∧
  Rets Try.prog (57 : Nat) { toList := [Value.int IntKind.i64 n10] } w10 fun (v142 : Value) (w13 : World) =>
  ∃ (s1 : ByteArray),
  v142 = Value.string s1 ∧ h3 [Value.bool !(!ByteArray.toList s1 == ByteArray.toList { data := #[] }) == b2] w13) ∧
  ((!b4 == decide (n9 ≤ (6 : Int))) = true → h3 [Value.bool true] w10)) ∧
  (decide (n8 ≥ (4 : Int)) = false →
  ((!b4 == false) = false →
  (0 : Int) ≤ n3 ∧
  n3 < (↑l : Int) ∧
  someR q fun (a8 : Addr) =>
  ∃ (n11 : Int),
  (∀ (w14 : World),
  h4 w14 → World.cell? w14 (Addr.add a8 (Int.toNat n3 * (1 : Nat))) = some (Value.int IntKind.i64 n11)) ∧
  Rets Try.prog (57 : Nat) { toList := [Value.int IntKind.i64 n11] } w10 fun (v143 : Value) (w15 : World) =>
  ∃ (s2 : ByteArray),
  v143 = Value.string s2 ∧ h3 [Value.bool !(!ByteArray.toList s2 == ByteArray.toList { data := #[] }) == b2] w15) ∧
  ((!b4 == false) = true → h3 [Value.bool true] w10))) ∧
  ((!b3 == b2) = true → h3 [Value.bool true] w7)) ∧
  ∀ (w16 : World)
  (v144 v145 v146 v147 v148 v149 v150 v151 v152 v153 v154 v155 v156 v157 v158 v159 v160 v161 v162 v163 v164 v165 v166 v167
  v168 v169 v170 v171 v172 v173 v174 v175 v176 v177 v178 v179 : Value)
  (b5 : Bool),
  h3 [Value.bool b5] w16 →
  (b5 = true → K (Value.bool false) w16) ∧
  (b5 = false →
  Rets Try.prog (58 : Nat) { toList := [Value.pointer q1] } w16 fun (v180 : Value) (w17 : World) =>
  ∃ (b6 : Bool),
  v180 = Value.bool b6 ∧
  ∃ (h5 : List Value → World → Prop),
  ((0 : Int) ≤ n3 ∧
  n3 < (↑l : Int) ∧
  someR q fun (a9 : Addr) =>
  ∃ (n12 : Int),
  cellAt w17 (Addr.add a9 (Int.toNat n3 * (1 : Nat))) (Value.int IntKind.i64 n12) ∧
  Rets Try.prog (59 : Nat)
  {
  toList :=
  [Value.pointer q1,
  Value.agg
  {
  toList :=
  [Value.int IntKind.i64 n12, Value.int IntKind.u64 (0 : Int), Value.int IntKind.u64 (0 : Int),
  Value.string { data := #[] }, Value.int IntKind.i64 (0 : Int), Value.int IntKind.i64 (0 : Int),
  Value.int IntKind.i64 (0 : Int), Value.int IntKind.i64 (0 : Int), Value.int IntKind.i64 n1] }] }
  w17 fun (v181 : Value) (w18 : World) =>
  ∃ (b7 : Bool),
  v181 = Value.bool b7 ∧ (b6 = true → h5 [Value.bool !b7 == b2] w18) ∧ (b6 = false → h5 [Value.bool !b7 == false] w18)) ∧
  ∀ (w19 : World) (v182 v183 v184 v185 v186 v187 v188 v189 v190 v191 v192 v193 : Value) (b8 : Bool),
  h5 [Value.bool b8] w19 →
  (b8 = true → K (Value.bool false) w19) ∧
  (b8 = false →
  ∃ (h6 : List Value → World → Prop),
  ((b6 = true → h6 [Value.bool b2] w19) ∧ (b6 = false → h6 [Value.bool false] w19)) ∧
  ∀ (w20 : World) (v194 v195 v196 : Value) (b9 : Bool),
  h6 [Value.bool b9] w20 →
  ∃ (h7 : List Value → World → Prop),
  ((b9 = true → h7 [Value.int IntKind.i64 (IntKind.wrap IntKind.i64 (n1 + (1 : Int)))] w20) ∧
  (b9 = false → h7 [Value.int IntKind.i64 n1] w20)) ∧
  ∀ (w21 : World) (n13 : Int) (v197 v198 : Value),
  h7 [Value.int IntKind.i64 n13] w21 →
  ∃ (h8 : List Value → World → Prop),
  ((decide (n3 < (↑l2 : Int)) = true →
  (0 : Int) ≤ n3 ∧
  n3 < (↑l2 : Int) ∧
  someR q2 fun (a10 : Addr) =>
  ∃ (b10 : Bool), cellAt w21 (Addr.add a10 (Int.toNat n3 * (1 : Nat))) (Value.bool b10) ∧ h8 [Value.bool b10] w21) ∧
  (decide (n3 < (↑l2 : Int)) = false → h8 [Value.bool false] w21)) ∧
  ∀ (w22 : World) (v199 v200 v201 v202 v203 v204 v205 v206 v207 : Value) (b11 : Bool),
  h8 [Value.bool b11] w22 →
  ∃ (h9 : List Value → World → Prop),
  ((b11 = true →
  Rets Try.prog (60 : Nat) { toList := [Value.pointer q1] } w22 fun (v208 : Value) (w23 : World) =>
  ∃ (n14 : Int),
  ∃ (n15 : Int),
  ∃ (n16 : Int),
  ∃ (s3 : ByteArray),
  ∃ (n17 : Int),
  ∃ (n18 : Int),
  ∃ (n19 : Int),
  ∃ (n20 : Int),
  ∃ (n21 : Int),
  ∃ (b12 : Bool),
  v208 =
  Value.tuple
  {
  toList :=
  [Value.agg
  {
  toList :=
  [Value.int IntKind.i64 n14, Value.int IntKind.u64 n15, Value.int IntKind.u64 n16, Value.string s3,
  Value.int IntKind.i64 n17, Value.int IntKind.i64 n18, Value.int IntKind.i64 n19, Value.int IntKind.i64 n20,
  Value.int IntKind.i64 n21] },
  Value.bool b12] } ∧
  NewR (99 : Nat)
  [Value.int IntKind.i64 (0 : Int), Value.int IntKind.u64 (0 : Int), Value.int IntKind.u64 (0 : Int),
  Value.string { data := #[] }, Value.int IntKind.i64 (0 : Int), Value.int IntKind.i64 (0 : Int),
  Value.int IntKind.i64 (0 : Int), Value.int IntKind.i64 (0 : Int), Value.int IntKind.i64 (0 : Int)]
  w23 fun (a11 : Addr) (w24 : World) =>
  StoreR a11
  [Value.int IntKind.i64 n14, Value.int IntKind.u64 n15, Value.int IntKind.u64 n16, Value.string s3,
  Value.int IntKind.i64 n17, Value.int IntKind.i64 n18, Value.int IntKind.i64 n19, Value.int IntKind.i64 n20,
  Value.int IntKind.i64 n21]
  w24 fun (w25 : World) =>
  ∃ (h10 : List Value → World → Prop),
  (((!b12 == decide (n2 < n13)) = false →
  (b12 = true →
  ∃ (n22 : Int), cellAt w25 (Addr.add a11 (8 : Nat)) (Value.int IntKind.i64 n22) ∧ h10 [Value.bool (n22 != n2)] w25) ∧
  (b12 = false → h10 [Value.bool false] w25)) ∧
  ((!b12 == decide (n2 < n13)) = true → h10 [Value.bool true] w25)) ∧
  ∀ (w26 : World) (v209 v210 v211 v212 v213 v214 v215 v216 v217 v218 v219 v220 v221 : Value) (b13 : Bool),
  h10 [Value.bool b13] w26 →
  (b13 = true → K (Value.bool false) w26) ∧
  (b13 = false →
  ∃ (h11 : List Value → World → Prop),
  ((b12 = true → h11 [Value.int IntKind.i64 (IntKind.wrap IntKind.i64 (n2 + (1 : Int)))] w26) ∧
  (b12 = false → h11 [Value.int IntKind.i64 n2] w26)) ∧
  ∀ (w27 : World) (n23 : Int) (v222 v223 : Value),
  h11 [Value.int IntKind.i64 n23] w27 → h9 [Value.int IntKind.i64 n23] w27)) ∧
  (b11 = false → h9 [Value.int IntKind.i64 n2] w22)) ∧
  ∀ (w28 : World) (v224 : Value) (n24 : Int)
  (v225 v226 v227 v228 v229 v230 v231 v232 v233 v234 v235 v236 v237 v238 v239 v240 v241 v242 v243 v244 v245 v246 v247
  v248 : Value),
  h9 [Value.int IntKind.i64 n24] w28 →
  ∃ (h12 : List Value → World → Prop),
  (Rets Try.prog (61 : Nat) { toList := [Value.pointer q1] } w28 fun (v249 : Value) (w29 : World) =>
  ∃ (n25 : Int),
  v249 = Value.int IntKind.i64 n25 ∧
  ((n25 != n13) = false →
  Rets Try.prog (62 : Nat) { toList := [Value.pointer q1] } w29 fun (v250 : Value) (w30 : World) =>
  ∃ (n26 : Int), v250 = Value.int IntKind.i64 n26 ∧ h12 [Value.bool (n26 != IntKind.wrap IntKind.i64 (n13 - n24))] w30) ∧
  ((n25 != n13) = true → h12 [Value.bool true] w29)) ∧
  ∀ (w31 : World) (v251 v252 v253 v254 v255 v256 v257 v258 v259 v260 v261 : Value) (b14 : Bool),
  h12 [Value.bool b14] w31 →
  (b14 = true → K (Value.bool false) w31) ∧
  (b14 = false →
  ∃ (k3 : Nat),
  k3 < k2 ∧
  h1 k3
  [Value.int IntKind.i64 n13, Value.int IntKind.i64 n24,
  Value.int IntKind.i64 (IntKind.wrap IntKind.i64 (n3 + (1 : Int)))]
  w31)))) ∧
  (decide (n3 < (↑l : Int)) = false →
  Rets Try.prog (43 : Nat) { toList := [Value.pointer none] } w3 fun (v262 : Value) (w32 : World) =>
  ∃ (n27 : Int),
  ∃ (n28 : Int),
  ∃ (n29 : Int),
  ∃ (n30 : Int),
  ∃ (n31 : Int),
  ∃ (n32 : Int),
  ∃ (n33 : Int),
  ∃ (n34 : Int),
  ∃ (n35 : Int),
  ∃ (b15 : Bool),
  v262 =
  Value.tuple
  {
  toList :=
  [Value.agg
  {
  toList :=
  [Value.int IntKind.i64 n27, Value.int IntKind.u64 n28, Value.int IntKind.u64 n29, Value.int IntKind.i64 n30,
  Value.int IntKind.i64 n31, Value.int IntKind.i64 n32, Value.int IntKind.i64 n33, Value.int IntKind.i64 n34,
  Value.int IntKind.i64 n35] },
  Value.bool b15] } ∧
  NewR (83 : Nat)
  [Value.int IntKind.i64 (0 : Int), Value.int IntKind.u64 (0 : Int), Value.int IntKind.u64 (0 : Int),
  Value.int IntKind.i64 (0 : Int), Value.int IntKind.i64 (0 : Int), Value.int IntKind.i64 (0 : Int),
  Value.int IntKind.i64 (0 : Int), Value.int IntKind.i64 (0 : Int), Value.int IntKind.i64 (0 : Int)]
  w32 fun (a12 : Addr) (w33 : World) =>
  StoreR a12
  [Value.int IntKind.i64 n27, Value.int IntKind.u64 n28, Value.int IntKind.u64 n29, Value.int IntKind.i64 n30,
  Value.int IntKind.i64 n31, Value.int IntKind.i64 n32, Value.int IntKind.i64 n33, Value.int IntKind.i64 n34,
  Value.int IntKind.i64 n35]
  w33 fun (w34 : World) =>
  Rets Try.prog (57 : Nat) { toList := [Value.int IntKind.i64 (6 : Int)] } w34 fun (v263 : Value) (w35 : World) =>
  ∃ (s4 : ByteArray),
  v263 = Value.string s4 ∧
  ((ByteArray.toList s4 ==
  ByteArray.toList { data := #[(108 : UInt8), (105 : UInt8), (109 : UInt8), (105 : UInt8), (116 : UInt8)] }) =
  true →
  ((!b15) = true →
  Rets Try.prog (45 : Nat)
  {
  toList :=
  [Value.pointer none,
  Value.agg
  {
  toList :=
  [Value.int IntKind.i64 (1 : Int), Value.int IntKind.u64 (0 : Int), Value.int IntKind.u64 (0 : Int),
  Value.int IntKind.i64 (0 : Int), Value.int IntKind.i64 (0 : Int), Value.int IntKind.i64 (0 : Int),
  Value.int IntKind.i64 (0 : Int), Value.int IntKind.i64 (0 : Int), Value.int IntKind.i64 (0 : Int)] }] }
  w35 fun (v264 : Value) (w36 : World) =>
  ∃ (b16 : Bool),
  v264 = Value.bool b16 ∧
  ((!b16) = true →
  Rets Try.prog (48 : Nat) { toList := [Value.pointer none] } w36 fun (v265 : Value) (w37 : World) =>
  ∃ (b17 : Bool),
  v265 = Value.bool b17 ∧
  ((!b17) = true →
  Rets Try.prog (46 : Nat) { toList := [Value.pointer none] } w37 fun (v266 : Value) (w38 : World) =>
  ∃ (n36 : Int),
  v266 = Value.int IntKind.i64 n36 ∧
  Rets Try.prog (47 : Nat) { toList := [Value.pointer none] } w38 fun (v267 : Value) (w39 : World) =>
  ∃ (n37 : Int),
  v267 = Value.int IntKind.i64 n37 ∧
  Rets Try.prog (51 : Nat) { toList := [Value.pointer none, Value.int IntKind.i64 (1 : Int)] } w39
  fun (v268 : Value) (w40 : World) =>
  ∃ (n38 : Int),
  v268 = Value.int IntKind.i64 n38 ∧
  Rets Try.prog (49 : Nat) { toList := [Value.pointer none] } w40 fun (v269 : Value) (w41 : World) =>
  ∃ (n39 : Int),
  v269 = Value.int IntKind.i64 n39 ∧
  Rets Try.prog (50 : Nat) { toList := [Value.pointer none] } w41 fun (v270 : Value) (w42 : World) =>
  ∃ (n40 : Int),
  v270 = Value.int IntKind.i64 n40 ∧
  ((IntKind.wrap IntKind.i64
  (IntKind.wrap IntKind.i64 (IntKind.wrap IntKind.i64 (IntKind.wrap IntKind.i64 (n36 + n37) + n38) + n39) + n40) ==
  (0 : Int)) =
  true →
  Rets Try.prog (39 : Nat) { toList := [] } w42 fun (v271 : Value) (w43 : World) =>
  ∃ (b18 : Bool), v271 = Value.bool b18 ∧ K (Value.bool b18) w43) ∧
  ((IntKind.wrap IntKind.i64
  (IntKind.wrap IntKind.i64 (IntKind.wrap IntKind.i64 (IntKind.wrap IntKind.i64 (n36 + n37) + n38) + n39) + n40) ==
  (0 : Int)) =
  false →
  K (Value.bool false) w42)) ∧
  ((!b17) = false → K (Value.bool false) w37)) ∧
  ((!b16) = false → K (Value.bool false) w36)) ∧
  ((!b15) = false → K (Value.bool false) w35)) ∧
  ((ByteArray.toList s4 ==
  ByteArray.toList { data := #[(108 : UInt8), (105 : UInt8), (109 : UInt8), (105 : UInt8), (116 : UInt8)] }) =
  false →
  K (Value.bool false) w35)))
theorem cortadolaw28_ItemOrder_eq (room : Int) (q : Option Addr) (l c : Nat) (q2 : Option Addr) (l2 c2 : Nat) (w : World) (K : Value → World → Prop) : fw Try.prog Try.f8 (annL [(2, [(6, none), (8, some 3), (9, some 3), (10, some 3), (11, none), (12, none), (13, none), (14, none), (24, none), (25, none), (26, none), (27, none), (28, none), (29, none), (30, none), (31, none), (32, none), (33, none), (34, none), (35, none), (36, none), (37, none), (38, none), (39, none), (40, none), (41, none), (42, none), (43, none), (44, none), (45, none), (46, none), (47, none), (48, none), (49, none), (50, none), (51, none), (52, none), (53, none), (54, none), (55, none), (56, none), (57, none), (58, none), (59, none), (60, none), (61, none), (62, none), (63, none), (64, none), (65, none), (66, none), (67, none), (68, none), (69, none), (70, none), (71, none), (72, none), (73, none), (74, none), (75, none), (76, none), (77, none), (78, none), (79, none), (80, none), (81, none), (82, none), (83, none), (84, none), (85, none), (86, none), (87, none), (88, none), (89, none), (90, none), (91, none), (92, none), (93, none), (94, none), (95, none), (96, none), (97, none), (98, none), (99, none), (100, none), (101, none), (102, none), (103, none), (104, none), (105, none), (106, none), (107, none), (108, none), (109, none), (110, none), (111, none), (112, none), (113, none), (114, none), (115, none), (116, none), (117, none), (118, none), (119, none), (120, none), (121, none), (122, none), (123, none), (124, none), (125, none), (126, none), (127, none), (128, none), (129, none), (130, none), (131, none), (132, none), (133, none), (134, none), (135, none), (136, none), (137, none), (138, none), (139, none), (140, none), (141, none), (142, none), (143, none)]), (7, [(8, some 3), (98, none), (99, none)]), (8, [(6, none), (9, some 3), (13, none), (14, none), (110, none), (111, none), (112, none), (113, none), (114, none), (115, none), (116, none), (117, none), (118, none), (119, none), (120, none), (121, none), (122, none), (123, none), (124, none), (125, none), (126, none), (127, none), (128, none), (129, none), (130, none), (131, none)]), (10, [(9, some 3), (130, none), (131, none)])]) (ordL [(2000008, [(11, 5), (30, 0), (31, 0), (32, 0), (33, 0), (34, 0), (35, 0), (36, 0), (37, 0), (38, 0), (39, 0), (40, 0), (41, 0)]), (2000009, [(42, 0), (43, 0), (44, 0), (45, 0), (46, 0), (47, 0), (48, 0), (49, 0), (50, 0), (51, 0), (52, 0), (53, 0), (54, 0), (55, 0), (56, 0), (57, 0), (58, 0), (59, 0), (60, 0), (61, 0), (62, 0), (63, 0), (64, 0), (65, 0), (66, 0), (67, 0), (68, 0), (69, 0), (70, 0), (71, 0), (72, 0), (73, 0), (74, 0), (75, 0), (76, 0), (77, 0), (78, 5)]), (9, [(0, 0), (1, 0), (2, 0), (5, 0), (3, 1), (4, 2), (6, 0), (7, 0), (8, 0), (9, 0), (10, 0), (13, 0), (14, 0), (15, 0), (11, 1), (16, 1), (17, 0), (12, 2), (18, 0), (19, 0), (20, 0), (21, 0), (22, 1), (23, 0), (24, 0), (25, 0), (26, 0), (27, 0), (28, 0), (29, 0), (30, 0), (34, 0), (31, 1), (32, 3), (33, 0), (35, 0), (36, 0)]), (2000012, [(81, 0), (82, 0), (83, 0), (84, 0), (85, 0), (86, 0), (87, 0), (88, 0), (89, 0), (90, 0), (91, 0), (92, 0), (93, 5)]), (2000014, [(94, 0), (95, 0), (96, 0), (97, 5)]), (2000016, [(100, 0), (101, 0), (102, 0), (103, 0), (104, 0), (105, 0), (106, 0), (107, 0), (108, 0), (109, 5)]), (2000018, [(115, 0), (116, 0), (117, 0), (118, 0), (119, 0), (120, 0), (121, 0), (122, 0), (123, 0), (124, 0), (125, 0), (126, 0), (127, 0), (128, 5)]), (2000022, [(132, 0), (133, 0), (134, 0), (135, 0), (136, 0), (137, 0), (138, 0), (139, 0), (140, 0), (141, 0), (142, 0), (143, 5)])]) [.int .i64 room, .slice q l c, .slice q2 l2 c2] w K = cortadolaw28_ItemOrder_m room q l c q2 l2 c2 w K := by kernel_rfl
theorem cortadolaw28_ItemOrder_go (room : Int) (q : Option Addr) (l c : Nat) (q2 : Option Addr) (l2 c2 : Nat) {w : World} {K : Value → World → Prop} (h : cortadolaw28_ItemOrder_m room q l c q2 l2 c2 w K) : Rets Try.prog 8 #[.int .i64 room, .slice q l c, .slice q2 l2 c2] w K :=
  calls_of_fw plain mixed Try.func8 (by kernel_rfl) (by rw [cortadolaw28_ItemOrder_eq]; exact h)
end Go.Proofs.Ytipcbhaeoeghnaa.Eng
