/- What the code of these functions asks for: printed by a program of this session's (gens.py) out of the seat's own functions; the kernel checks each row. -/
import Derived.Test.YtajckpjlliiekaaDoorEngH
import Derived.Test.YtajckpjlliiekaaDoorProg
import Derived.Test.YtajckpjlliiekaaDoorBase
namespace Go.Proofs.YtajckpjlliiekaaDoor.Eng
open Go Go.Proofs
set_option linter.unusedVariables false
set_option maxRecDepth 1000000
def cortadolaw26_PolicyKeeps_m (a b : Int) (q : Option Addr) (l c : Nat) (q2 : Option Addr) (l2 c2 : Nat) (w : World) (K : Value → World → Prop) : Prop :=
  NewR (65 : Nat) [Value.int IntKind.i64 a, Value.int IntKind.i64 b, Value.slice q l c] w fun (a1 : Addr) (w1 : World) =>
  ∃ (h1 : List Value → World → Prop),
  (Rets Tryd.prog (29 : Nat) { toList := [Value.slice q2 l2 c2] } w1 fun (v1 : Value) (w2 : World) =>
  ∃ (b1 : Bool),
  v1 = Value.bool b1 ∧
  ((!b1) = false →
  ∃ (n1 : Int),
  cellAt w2 (Addr.add a1 (1 : Nat)) (Value.int IntKind.i64 n1) ∧ h1 [Value.bool (decide (n1 > (64 : Int)))] w2) ∧
  ((!b1) = true → h1 [Value.bool true] w2)) ∧
  ∀ (w3 : World) (v2 v3 v4 v5 v6 v7 v8 : Value) (b2 : Bool),
  h1 [Value.bool b2] w3 →
  (b2 = true →
  Rets Tryd.prog (22 : Nat) { toList := [] } w3 fun (v9 : Value) (w4 : World) =>
  ∃ (b3 : Bool), v9 = Value.bool b3 ∧ K (Value.bool b3) w4) ∧
  (b2 = false →
  ∃ (n2 : Int),
  cellAt w3 (Addr.add a1 (0 : Nat)) (Value.int IntKind.i64 n2) ∧
  ∃ (n3 : Int),
  cellAt w3 (Addr.add a1 (1 : Nat)) (Value.int IntKind.i64 n3) ∧
  Rets Tryd.prog (23 : Nat)
  { toList := [Value.int IntKind.i64 n2, Value.int IntKind.i64 n3, Value.int IntKind.u64 (5 : Int)] } w3
  fun (v10 : Value) (w5 : World) =>
  ∃ (q1 : Option Addr),
  v10 = Value.pointer q1 ∧
  ∃ (q2_1 : Option Addr),
  ∃ (k1 : Nat),
  ∃ (k2 : Nat),
  cellAt w5 (Addr.add a1 (2 : Nat)) (Value.slice q2_1 k1 k2) ∧
  Rets Tryd.prog (11 : Nat) { toList := [Value.slice q2_1 k1 k2, Value.int IntKind.u64 (9 : Int)] } w5
  fun (v11 : Value) (w6 : World) =>
  ∃ (q3 : Option Addr),
  v11 = Value.pointer q3 ∧
  ∃ (h2 : Nat → List Value → World → Prop),
  (∃ (k3 : Nat), h2 k3 [Value.slice none (0 : Nat) (0 : Nat), Value.int IntKind.i64 (0 : Int)] w6) ∧
  ∀ (k4 : Nat) (w7 : World) (v12 : Value) (q4 : Option Addr) (k5 k6 : Nat) (n4 : Int)
  (v13 v14 v15 v16 v17 v18 v19 v20 v21 v22 v23 v24 v25 v26 v27 v28 v29 v30 v31 v32 v33 v34 v35 v36 v37 v38 v39 v40 v41 v42
  v43 v44 v45 v46 v47 v48 v49 v50 v51 v52 v53 v54 v55 v56 v57 v58 v59 v60 v61 v62 v63 v64 v65 v66 v67 v68 v69 v70 v71 v72
  v73 v74 v75 v76 v77 v78 v79 v80 v81 v82 v83 v84 v85 v86 v87 v88 v89 v90 v91 v92 v93 v94 v95 v96 v97 v98 v99 v100 v101
  v102 v103 v104 v105 v106 v107 v108 v109 v110 v111 v112 v113 v114 v115 v116 v117 v118 v119 v120 v121 v122 v123 v124 v125
  v126 v127 v128 v129 v130 v131 v132 v133 v134 v135 v136 v137 v138 v139 v140 v141 v142 v143 v144 v145 v146 v147 v148 v149
  v150 v151 v152 v153 v154 v155 v156 v157 v158 v159 v160 v161 v162 v163 v164 v165 v166 v167 v168 v169 v170 v171 v172 v173
  v174 v175 v176 v177 v178 v179 v180 v181 v182 v183 v184 v185 v186 v187 v188 v189 v190 v191 v192 v193 v194 v195 v196 v197
  v198 v199 v200 v201 v202 v203 v204 v205 v206 v207 v208 v209 v210 v211 v212 v213 v214 v215 v216 : Value),
  h2 k4 [Value.slice q4 k5 k6, Value.int IntKind.i64 n4] w7 →
  (decide (n4 < (↑l2 : Int)) = true →
  ∃ (h3 : List Value → World → Prop),
  (Drw w7 fun (w8 : World) =>
  ∃ (h4 : World → Prop),
  h4 w8 ∧
  (0 : Int) ≤ n4 ∧
  n4 < (↑l2 : Int) ∧
  someR q2 fun (a2 : Addr) =>
  ∃ (n5 : Int),
  (∀ (w9 : World),
  h4 w9 →
  World.cell? w9 (Addr.add (Addr.add a2 (Int.toNat n4 * (3 : Nat))) (0 : Nat)) = some (Value.int IntKind.u64 n5)) ∧
  (3 : Int) ≠ (0 : Int) ∧
  Rets Tryd.prog (26 : Nat) { toList := [Value.pointer q1] } w8 fun (v217 : Value) (w10 : World) =>
  ∃ (q5 : Option Addr),
  v217 = Value.pointer q5 ∧
  h4 w10 ∧
  Rets Tryd.prog (30 : Nat) { toList := [Value.pointer q5] } w10 fun (v218 : Value) (w11 : World) =>
  ∃ (n6 : Int),
  v218 = Value.int IntKind.i64 n6 ∧
  h4 w11 ∧ h3 [Value.int IntKind.u64 (Int.tmod n5 (3 : Int)), Value.int IntKind.i64 n6] w11) ∧
  ∀ (w12 : World) (n7 n8 : Int) (v219 v220 v221 v222 v223 v224 v225 v226 v227 : Value),
  h3 [Value.int IntKind.u64 n7, Value.int IntKind.i64 n8] w12 →
  ∃ (h5 : List Value → World → Prop),
  (((n7 == (0 : Int)) = true →
  Drw w12 fun (w13 : World) =>
  (0 : Int) ≤ n4 ∧
  n4 < (↑l2 : Int) ∧
  someR q2 fun (a3 : Addr) =>
  (0 : Int) ≤ n4 ∧
  n4 < (↑l2 : Int) ∧
  someR q2 fun (a4 : Addr) =>
  ∃ (n9 : Int),
  cellAt w13 (Addr.add (Addr.add a3 (Int.toNat n4 * (3 : Nat))) (1 : Nat)) (Value.int IntKind.u64 n9) ∧
  ∃ (n10 : Int),
  cellAt w13 (Addr.add (Addr.add a4 (Int.toNat n4 * (3 : Nat))) (2 : Nat)) (Value.int IntKind.i64 n10) ∧
  Rets Tryd.prog (24 : Nat)
  { toList := [Value.pointer q1, Value.int IntKind.u64 n9, Value.int IntKind.i64 n10, Value.pointer q3] } w13
  fun (v228 : Value) (w14 : World) =>
  ∃ (q6 : Option Addr),
  ∃ (k7 : Nat),
  ∃ (k8 : Nat),
  ∃ (b4 : Bool),
  v228 = Value.tuple { toList := [Value.slice q6 k7 k8, Value.bool b4] } ∧ h5 [Value.slice q6 k7 k8, Value.bool b4] w14) ∧
  ((n7 == (0 : Int)) = false →
  ((n7 == (1 : Int)) = true →
  Drw w12 fun (w15 : World) =>
  (0 : Int) ≤ n4 ∧
  n4 < (↑l2 : Int) ∧
  someR q2 fun (a5 : Addr) =>
  (0 : Int) ≤ n4 ∧
  n4 < (↑l2 : Int) ∧
  someR q2 fun (a6 : Addr) =>
  ∃ (n11 : Int),
  cellAt w15 (Addr.add (Addr.add a5 (Int.toNat n4 * (3 : Nat))) (1 : Nat)) (Value.int IntKind.u64 n11) ∧
  ∃ (n12 : Int),
  cellAt w15 (Addr.add (Addr.add a6 (Int.toNat n4 * (3 : Nat))) (2 : Nat)) (Value.int IntKind.i64 n12) ∧
  Rets Tryd.prog (31 : Nat)
  { toList := [Value.pointer q1, Value.int IntKind.u64 n11, Value.int IntKind.i64 n12, Value.pointer q3] } w15
  fun (v229 : Value) (w16 : World) =>
  ∃ (q7 : Option Addr),
  ∃ (k9 : Nat),
  ∃ (k10 : Nat),
  ∃ (b5 : Bool),
  v229 = Value.tuple { toList := [Value.slice q7 k9 k10, Value.bool b5] } ∧
  h5 [Value.slice q7 k9 k10, Value.bool b5] w16) ∧
  ((n7 == (1 : Int)) = false →
  (0 : Int) ≤ n4 ∧
  n4 < (↑l2 : Int) ∧
  someR q2 fun (a7 : Addr) =>
  ∃ (n13 : Int),
  cellAt w12 (Addr.add (Addr.add a7 (Int.toNat n4 * (3 : Nat))) (2 : Nat)) (Value.int IntKind.i64 n13) ∧
  Rets Tryd.prog (32 : Nat) { toList := [Value.pointer q1, Value.int IntKind.i64 n13, Value.pointer q3] } w12
  fun (v230 : Value) (w17 : World) =>
  ∃ (q8 : Option Addr),
  ∃ (k11 : Nat),
  ∃ (k12 : Nat),
  ∃ (b6 : Bool),
  v230 = Value.tuple { toList := [Value.slice q8 k11 k12, Value.bool b6] } ∧
  h5 [Value.slice q8 k11 k12, Value.bool b6] w17))) ∧
  ∀ (w18 : World) (q9 : Option Addr) (k13 k14 : Nat) (b7 : Bool)
  (v231 v232 v233 v234 v235 v236 v237 v238 v239 v240 v241 v242 v243 v244 v245 v246 v247 v248 v249 v250 v251 v252 v253 v254
  v255 v256 v257 v258 v259 v260 v261 v262 v263 v264 v265 v266 v267 v268 v269 v270 v271 v272 v273 v274 v275 v276 v277 :
  Value),
  h5 [Value.slice q9 k13 k14, Value.bool b7] w18 →
  ∃ (h6 : Nat → List Value → World → Prop),
  (∃ (k15 : Nat), h6 k15 [Value.slice q4 k5 k6, Value.int IntKind.i64 (0 : Int)] w18) ∧
  ∀ (k16 : Nat) (w19 : World) (v278 : Value) (q10 : Option Addr) (k17 k18 : Nat) (n14 : Int)
  (v279 v280 v281 v282 v283 v284 v285 v286 v287 v288 v289 v290 v291 v292 v293 v294 v295 v296 v297 v298 v299 v300 v301 v302
  v303 v304 v305 v306 v307 v308 v309 v310 v311 v312 v313 v314 v315 v316 v317 v318 v319 v320 v321 v322 v323 v324 v325 v326
  v327 v328 v329 v330 v331 v332 v333 : Value),
  h6 k16 [Value.slice q10 k17 k18, Value.int IntKind.i64 n14] w19 →
  (decide (n14 < (↑k13 : Int)) = true →
  (0 : Int) ≤ n14 ∧
  n14 < (↑k13 : Int) ∧
  someR q9 fun (a8 : Addr) =>
  ∃ (n15 : Int),
  cellAt w19 (Addr.add (Addr.add a8 (Int.toNat n14 * (2 : Nat))) (0 : Nat)) (Value.int IntKind.u64 n15) ∧
  Rets Tryd.prog (33 : Nat)
  {
  toList :=
  [Value.agg { toList := [Value.slice q10 k17 k18, Value.int IntKind.i64 (0 : Int)] }, Value.int IntKind.u64 n15] }
  w19 fun (v334 : Value) (w20 : World) =>
  ∃ (n16 : Int),
  ∃ (b8 : Bool),
  v334 = Value.tuple { toList := [Value.int IntKind.i64 n16, Value.bool b8] } ∧
  Drw w20 fun (w21 : World) =>
  ∃ (h7 : World → Prop),
  h7 w21 ∧
  (0 : Int) ≤ n14 ∧
  n14 < (↑k13 : Int) ∧
  someR q9 fun (a9 : Addr) =>
  ∃ (n17 : Int),
  (∀ (w22 : World),
  h7 w22 →
  World.cell? w22 (Addr.add (Addr.add a9 (Int.toNat n14 * (2 : Nat))) (0 : Nat)) = some (Value.int IntKind.u64 n17)) ∧
  Rets Tryd.prog (26 : Nat) { toList := [Value.pointer q1] } w21 fun (v335 : Value) (w23 : World) =>
  ∃ (q11 : Option Addr),
  v335 = Value.pointer q11 ∧
  h7 w23 ∧
  Rets Tryd.prog (12 : Nat) { toList := [Value.pointer q11, Value.int IntKind.u64 n17] } w23
  fun (v336 : Value) (w24 : World) =>
  ∃ (n18 : Int),
  ∃ (b9 : Bool),
  v336 = Value.tuple { toList := [Value.int IntKind.i64 n18, Value.bool b9] } ∧
  ∃ (h8 : List Value → World → Prop),
  (((!b8) = false →
  (b9 = false →
  (0 : Int) ≤ n14 ∧
  n14 < (↑k13 : Int) ∧
  someR q9 fun (a10 : Addr) =>
  ∃ (n19 : Int),
  cellAt w24 (Addr.add (Addr.add a10 (Int.toNat n14 * (2 : Nat))) (1 : Nat)) (Value.int IntKind.i64 n19) ∧
  h8 [Value.bool (n16 != n19)] w24) ∧
  (b9 = true → h8 [Value.bool true] w24)) ∧
  ((!b8) = true → h8 [Value.bool true] w24)) ∧
  ∀ (w25 : World) (v337 v338 v339 v340 v341 v342 v343 v344 v345 v346 v347 v348 v349 : Value) (b10 : Bool),
  h8 [Value.bool b10] w25 →
  (b10 = true → K (Value.bool false) w25) ∧
  (b10 = false →
  (0 : Int) ≤ n14 ∧
  n14 < (↑k13 : Int) ∧
  someR q9 fun (a11 : Addr) =>
  ∃ (n20 : Int),
  cellAt w25 (Addr.add (Addr.add a11 (Int.toNat n14 * (2 : Nat))) (0 : Nat)) (Value.int IntKind.u64 n20) ∧
  Rets Tryd.prog (34 : Nat)
  {
  toList :=
  [Value.agg { toList := [Value.slice q10 k17 k18, Value.int IntKind.i64 (0 : Int)] }, Value.int IntKind.u64 n20] }
  w25 fun (v350 : Value) (w26 : World) =>
  ∃ (q12 : Option Addr),
  ∃ (k19 : Nat),
  ∃ (k20 : Nat),
  ∃ (n21 : Int),
  v350 = Value.agg { toList := [Value.slice q12 k19 k20, Value.int IntKind.i64 n21] } ∧
  ∃ (k21 : Nat),
  k21 < k16 ∧ h6 k21 [Value.slice q12 k19 k20, Value.int IntKind.i64 (IntKind.wrap IntKind.i64 (n14 + (1 : Int)))] w26)) ∧
  (decide (n14 < (↑k13 : Int)) = false →
  (b7 = true →
  ∃ (h9 : List Value → World → Prop),
  ((decide (n7 < (2 : Int)) = true →
  Drw w19 fun (w27 : World) =>
  ∃ (h10 : World → Prop),
  h10 w27 ∧
  (0 : Int) ≤ n4 ∧
  n4 < (↑l2 : Int) ∧
  someR q2 fun (a12 : Addr) =>
  ∃ (n22 : Int),
  (∀ (w28 : World),
  h10 w28 →
  World.cell? w28 (Addr.add (Addr.add a12 (Int.toNat n4 * (3 : Nat))) (1 : Nat)) = some (Value.int IntKind.u64 n22)) ∧
  Rets Tryd.prog (26 : Nat) { toList := [Value.pointer q1] } w27 fun (v351 : Value) (w29 : World) =>
  ∃ (q13 : Option Addr),
  v351 = Value.pointer q13 ∧
  h10 w29 ∧
  Rets Tryd.prog (12 : Nat) { toList := [Value.pointer q13, Value.int IntKind.u64 n22] } w29
  fun (v352 : Value) (w30 : World) =>
  ∃ (n23 : Int),
  ∃ (b11 : Bool),
  v352 = Value.tuple { toList := [Value.int IntKind.i64 n23, Value.bool b11] } ∧
  ∃ (h11 : List Value → World → Prop),
  (((!b11) = false →
  (0 : Int) ≤ n4 ∧
  n4 < (↑l2 : Int) ∧
  someR q2 fun (a13 : Addr) =>
  ∃ (n24 : Int),
  cellAt w30 (Addr.add (Addr.add a13 (Int.toNat n4 * (3 : Nat))) (2 : Nat)) (Value.int IntKind.i64 n24) ∧
  ((n23 != n24) = false → h11 [Value.bool (decide (n23 > n8))] w30) ∧ ((n23 != n24) = true → h11 [Value.bool true] w30)) ∧
  ((!b11) = true → h11 [Value.bool true] w30)) ∧
  ∀ (w31 : World) (v353 v354 v355 v356 v357 v358 v359 v360 v361 v362 v363 v364 v365 v366 v367 : Value) (b12 : Bool),
  h11 [Value.bool b12] w31 →
  (b12 = true → K (Value.bool false) w31) ∧
  (b12 = false →
  (0 : Int) ≤ n4 ∧
  n4 < (↑l2 : Int) ∧
  someR q2 fun (a14 : Addr) =>
  ∃ (n25 : Int),
  cellAt w31 (Addr.add (Addr.add a14 (Int.toNat n4 * (3 : Nat))) (1 : Nat)) (Value.int IntKind.u64 n25) ∧
  Rets Tryd.prog (34 : Nat)
  {
  toList :=
  [Value.agg { toList := [Value.slice q10 k17 k18, Value.int IntKind.i64 (0 : Int)] }, Value.int IntKind.u64 n25] }
  w31 fun (v368 : Value) (w32 : World) =>
  ∃ (q14 : Option Addr),
  ∃ (k22 : Nat),
  ∃ (k23 : Nat),
  ∃ (n26 : Int),
  v368 = Value.agg { toList := [Value.slice q14 k22 k23, Value.int IntKind.i64 n26] } ∧
  Drw w32 fun (w33 : World) =>
  (0 : Int) ≤ n4 ∧
  n4 < (↑l2 : Int) ∧
  someR q2 fun (a15 : Addr) =>
  (0 : Int) ≤ n4 ∧
  n4 < (↑l2 : Int) ∧
  someR q2 fun (a16 : Addr) =>
  ∃ (n27 : Int),
  cellAt w33 (Addr.add (Addr.add a15 (Int.toNat n4 * (3 : Nat))) (1 : Nat)) (Value.int IntKind.u64 n27) ∧
  ∃ (n28 : Int),
  cellAt w33 (Addr.add (Addr.add a16 (Int.toNat n4 * (3 : Nat))) (2 : Nat)) (Value.int IntKind.i64 n28) ∧
  NewR (34 : Nat) [Value.int IntKind.u64 n27, Value.int IntKind.i64 n28] w33 fun (a17 : Addr) (w34 : World) =>
  RunR Tryd.prog
  (builtinV Builtin.append { toList := [(27 : Nat), (27 : Nat)] } (nat_lit 27)
  { toList := [Value.slice q14 k22 k23, Value.slice (some a17) (1 : Nat) (1 : Nat)] })
  w34 fun (v369 : Value) (w35 : World) =>
  ∃ (q15 : Option Addr),
  ∃ (k24 : Nat), ∃ (k25 : Nat), v369 = Value.slice q15 k24 k25 ∧ h9 [Value.slice q15 k24 k25] w35)) ∧
  (decide (n7 < (2 : Int)) = false → h9 [Value.slice q10 k17 k18] w19)) ∧
  ∀ (w36 : World) (v370 : Value) (q16 : Option Addr) (k26 k27 : Nat)
  (v371 v372 v373 v374 v375 v376 v377 v378 v379 v380 v381 v382 v383 v384 v385 v386 v387 v388 v389 v390 v391 v392 v393 v394
  v395 v396 v397 v398 v399 v400 v401 v402 v403 v404 v405 v406 v407 v408 v409 v410 v411 v412 v413 v414 v415 v416 v417 v418
  v419 v420 v421 v422 : Value),
  h9 [Value.slice q16 k26 k27] w36 →
  ∃ (h12 : List Value → World → Prop),
  (Rets Tryd.prog (26 : Nat) { toList := [Value.pointer q1] } w36 fun (v423 : Value) (w37 : World) =>
  ∃ (q17 : Option Addr),
  v423 = Value.pointer q17 ∧
  Rets Tryd.prog (28 : Nat) { toList := [Value.pointer q17] } w37 fun (v424 : Value) (w38 : World) =>
  ∃ (n29 : Int),
  v424 = Value.int IntKind.i64 n29 ∧
  ((n29 != (↑k26 : Int)) = false →
  Rets Tryd.prog (26 : Nat) { toList := [Value.pointer q1] } w38 fun (v425 : Value) (w39 : World) =>
  ∃ (q18 : Option Addr),
  v425 = Value.pointer q18 ∧
  Rets Tryd.prog (35 : Nat) { toList := [Value.pointer q18] } w39 fun (v426 : Value) (w40 : World) =>
  ∃ (n30 : Int),
  v426 = Value.int IntKind.i64 n30 ∧
  Rets Tryd.prog (26 : Nat) { toList := [Value.pointer q1] } w40 fun (v427 : Value) (w41 : World) =>
  ∃ (q19 : Option Addr),
  v427 = Value.pointer q19 ∧
  Rets Tryd.prog (30 : Nat) { toList := [Value.pointer q19] } w41 fun (v428 : Value) (w42 : World) =>
  ∃ (n31 : Int),
  v428 = Value.int IntKind.i64 n31 ∧
  (decide (n30 > n31) = false →
  Rets Tryd.prog (26 : Nat) { toList := [Value.pointer q1] } w42 fun (v429 : Value) (w43 : World) =>
  ∃ (q20 : Option Addr),
  v429 = Value.pointer q20 ∧
  Rets Tryd.prog (35 : Nat) { toList := [Value.pointer q20] } w43 fun (v430 : Value) (w44 : World) =>
  ∃ (n32 : Int),
  v430 = Value.int IntKind.i64 n32 ∧
  Rets Tryd.prog (36 : Nat)
  { toList := [Value.agg { toList := [Value.slice q16 k26 k27, Value.int IntKind.i64 (0 : Int)] }] } w44
  fun (v431 : Value) (w45 : World) =>
  ∃ (n33 : Int), v431 = Value.int IntKind.i64 n33 ∧ h12 [Value.bool (n32 != n33)] w45) ∧
  (decide (n30 > n31) = true → h12 [Value.bool true] w42)) ∧
  ((n29 != (↑k26 : Int)) = true → h12 [Value.bool true] w38)) ∧
  ∀ (w46 : World)
  (v432 v433 v434 v435 v436 v437 v438 v439 v440 v441 v442 v443 v444 v445 v446 v447 v448 v449 v450 v451 v452 v453 v454 :
  Value)
  (b13 : Bool),
  h12 [Value.bool b13] w46 →
  (b13 = true → K (Value.bool false) w46) ∧
  (b13 = false →
  ∃ (k28 : Nat),
  k28 < k4 ∧ h2 k28 [Value.slice q16 k26 k27, Value.int IntKind.i64 (IntKind.wrap IntKind.i64 (n4 + (1 : Int)))] w46)) ∧
  (b7 = false →
  ∃ (h13 : List Value → World → Prop),
  h13 [Value.slice q10 k17 k18] w19 ∧
  ∀ (w47 : World) (v455 : Value) (q21 : Option Addr) (k29 k30 : Nat)
  (v456 v457 v458 v459 v460 v461 v462 v463 v464 v465 v466 v467 v468 v469 v470 v471 v472 v473 v474 v475 v476 v477 v478 v479
  v480 v481 v482 v483 v484 v485 v486 v487 v488 v489 v490 v491 v492 v493 v494 v495 v496 v497 v498 v499 v500 v501 v502 v503
  v504 v505 v506 v507 : Value),
  h13 [Value.slice q21 k29 k30] w47 →
  ∃ (h14 : List Value → World → Prop),
  (Rets Tryd.prog (26 : Nat) { toList := [Value.pointer q1] } w47 fun (v508 : Value) (w48 : World) =>
  ∃ (q22 : Option Addr),
  v508 = Value.pointer q22 ∧
  Rets Tryd.prog (28 : Nat) { toList := [Value.pointer q22] } w48 fun (v509 : Value) (w49 : World) =>
  ∃ (n34 : Int),
  v509 = Value.int IntKind.i64 n34 ∧
  ((n34 != (↑k29 : Int)) = false →
  Rets Tryd.prog (26 : Nat) { toList := [Value.pointer q1] } w49 fun (v510 : Value) (w50 : World) =>
  ∃ (q23 : Option Addr),
  v510 = Value.pointer q23 ∧
  Rets Tryd.prog (35 : Nat) { toList := [Value.pointer q23] } w50 fun (v511 : Value) (w51 : World) =>
  ∃ (n35 : Int),
  v511 = Value.int IntKind.i64 n35 ∧
  Rets Tryd.prog (26 : Nat) { toList := [Value.pointer q1] } w51 fun (v512 : Value) (w52 : World) =>
  ∃ (q24 : Option Addr),
  v512 = Value.pointer q24 ∧
  Rets Tryd.prog (30 : Nat) { toList := [Value.pointer q24] } w52 fun (v513 : Value) (w53 : World) =>
  ∃ (n36 : Int),
  v513 = Value.int IntKind.i64 n36 ∧
  (decide (n35 > n36) = false →
  Rets Tryd.prog (26 : Nat) { toList := [Value.pointer q1] } w53 fun (v514 : Value) (w54 : World) =>
  ∃ (q25 : Option Addr),
  v514 = Value.pointer q25 ∧
  Rets Tryd.prog (35 : Nat) { toList := [Value.pointer q25] } w54 fun (v515 : Value) (w55 : World) =>
  ∃ (n37 : Int),
  v515 = Value.int IntKind.i64 n37 ∧
  Rets Tryd.prog (36 : Nat)
  { toList := [Value.agg { toList := [Value.slice q21 k29 k30, Value.int IntKind.i64 (0 : Int)] }] } w55
  fun (v516 : Value) (w56 : World) =>
  ∃ (n38 : Int), v516 = Value.int IntKind.i64 n38 ∧ h14 [Value.bool (n37 != n38)] w56) ∧
  (decide (n35 > n36) = true → h14 [Value.bool true] w53)) ∧
  ((n34 != (↑k29 : Int)) = true → h14 [Value.bool true] w49)) ∧
  ∀ (w57 : World)
  (v517 v518 v519 v520 v521 v522 v523 v524 v525 v526 v527 v528 v529 v530 v531 v532 v533 v534 v535 v536 v537 v538 v539 :
  Value)
  (b14 : Bool),
  h14 [Value.bool b14] w57 →
  (b14 = true → K (Value.bool false) w57) ∧
  (b14 = false →
  ∃ (k31 : Nat),
  k31 < k4 ∧ h2 k31 [Value.slice q21 k29 k30, Value.int IntKind.i64 (IntKind.wrap IntKind.i64 (n4 + (1 : Int)))] w57)))) ∧
  (decide (n4 < (↑l2 : Int)) = false →
  NewR (32 : Nat) [Value.int IntKind.u64 (1 : Int)] w7 fun (a18 : Addr) (w58 : World) =>
  Rets Tryd.prog (25 : Nat) { toList := [Value.pointer none, Value.slice (some a18) (1 : Nat) (1 : Nat)] } w58
  fun (v540 : Value) (w59 : World) =>
  v540 = Value.tuple { toList := [] } ∧
  Rets Tryd.prog (37 : Nat) { toList := [Value.pointer none] } w59 fun (v541 : Value) (w60 : World) =>
  v541 = Value.tuple { toList := [] } ∧
  Rets Tryd.prog (24 : Nat)
  { toList := [Value.pointer none, Value.int IntKind.u64 (1 : Int), Value.int IntKind.i64 (1 : Int), Value.pointer q3] }
  w60 fun (v542 : Value) (w61 : World) =>
  ∃ (q26 : Option Addr),
  ∃ (k32 : Nat),
  ∃ (k33 : Nat),
  ∃ (b15 : Bool),
  v542 = Value.tuple { toList := [Value.slice q26 k32 k33, Value.bool b15] } ∧
  Rets Tryd.prog (31 : Nat)
  { toList := [Value.pointer none, Value.int IntKind.u64 (1 : Int), Value.int IntKind.i64 (1 : Int), Value.pointer q3] }
  w61 fun (v543 : Value) (w62 : World) =>
  ∃ (q27 : Option Addr),
  ∃ (k34 : Nat),
  ∃ (k35 : Nat),
  ∃ (b16 : Bool),
  v543 = Value.tuple { toList := [Value.slice q27 k34 k35, Value.bool b16] } ∧
  Rets Tryd.prog (32 : Nat) { toList := [Value.pointer none, Value.int IntKind.i64 (1 : Int), Value.pointer q3] } w62
  fun (v544 : Value) (w63 : World) =>
  ∃ (q28 : Option Addr),
  ∃ (k36 : Nat),
  ∃ (k37 : Nat),
  ∃ (b17 : Bool),
  v544 = Value.tuple { toList := [Value.slice q28 k36 k37, Value.bool b17] } ∧
  Rets Tryd.prog (38 : Nat) { toList := [Value.pointer none, Value.int IntKind.u64 (1 : Int)] } w63
  fun (v545 : Value) (w64 : World) =>
  ∃ (n39 : Int),
  ∃ (b18 : Bool),
  v545 = Value.tuple { toList := [Value.int IntKind.i64 n39, Value.bool b18] } ∧
  ∃ (h15 : List Value → World → Prop),
  (((!b15) = true →
  ((!b16) = true →
  ((!b17) = true →
  ((!b18) = true →
  Rets Tryd.prog (27 : Nat) { toList := [Value.pointer none, Value.int IntKind.u64 (1 : Int)] } w64
  fun (v546 : Value) (w65 : World) =>
  ∃ (n40 : Int),
  v546 = Value.int IntKind.i64 n40 ∧
  ((n40 == (0 : Int)) = true →
  Rets Tryd.prog (26 : Nat) { toList := [Value.pointer none] } w65 fun (v547 : Value) (w66 : World) =>
  ∃ (q29 : Option Addr),
  v547 = Value.pointer q29 ∧
  (Option.isNone q29 = true →
  Rets Tryd.prog (39 : Nat) { toList := [Value.pointer none] } w66 fun (v548 : Value) (w67 : World) =>
  ∃ (q30 : Option Addr),
  v548 = Value.pointer q30 ∧
  (Option.isNone q30 = true →
  Rets Tryd.prog (22 : Nat) { toList := [] } w67 fun (v549 : Value) (w68 : World) =>
  ∃ (b19 : Bool), v549 = Value.bool b19 ∧ h15 [Value.bool b19] w68) ∧
  (Option.isNone q30 = false → h15 [Value.bool false] w67)) ∧
  (Option.isNone q29 = false → h15 [Value.bool false] w66)) ∧
  ((n40 == (0 : Int)) = false → h15 [Value.bool false] w65)) ∧
  ((!b18) = false → h15 [Value.bool false] w64)) ∧
  ((!b17) = false → h15 [Value.bool false] w64)) ∧
  ((!b16) = false → h15 [Value.bool false] w64)) ∧
  ((!b15) = false → h15 [Value.bool false] w64)) ∧
  ∀ (w69 : World) (b20 : Bool)
  (v550 v551 v552 v553 v554 v555 v556 v557 v558 v559 v560 v561 v562 v563 v564 v565 v566 v567 v568 v569 v570 v571 v572 v573
  v574 v575 v576 v577 v578 v579 v580 v581 : Value),
  h15 [Value.bool b20] w69 → K (Value.bool b20) w69))
theorem cortadolaw26_PolicyKeeps_eq (a b : Int) (q : Option Addr) (l c : Nat) (q2 : Option Addr) (l2 c2 : Nat) (w : World) (K : Value → World → Prop) : fw Tryd.prog Tryd.f7 (annL [(2, [(4, none), (7, some 27), (8, some 3), (9, none), (10, none), (11, none), (12, none), (13, none), (14, none), (15, none), (16, none), (17, none), (18, none), (19, none), (46, none), (47, none), (48, none), (49, none), (50, none), (51, none), (52, none), (53, none), (54, none), (55, none), (56, none), (57, none), (58, none), (59, none), (60, none), (61, none), (62, none), (63, none), (64, none), (65, none), (66, none), (67, none), (68, none), (69, none), (70, none), (71, none), (72, none), (73, none), (74, none), (75, none), (76, none), (77, none), (78, none), (79, none), (80, none), (81, none), (82, none), (83, none), (84, none), (85, none), (86, none), (87, none), (88, none), (89, none), (90, none), (91, none), (92, none), (93, none), (94, none), (95, none), (96, none), (97, none), (98, none), (99, none), (100, none), (101, none), (102, none), (103, none), (104, none), (105, none), (106, none), (107, none), (108, none), (109, none), (110, none), (111, none), (112, none), (113, none), (114, none), (115, none), (116, none), (117, none), (118, none), (119, none), (120, none), (121, none), (122, none), (123, none), (124, none), (125, none), (126, none), (127, none), (128, none), (129, none), (130, none), (131, none), (132, none), (133, none), (134, none), (135, none), (136, none), (137, none), (138, none), (139, none), (140, none), (141, none), (142, none), (143, none), (144, none), (145, none), (146, none), (147, none), (148, none), (149, none), (150, none), (151, none), (152, none), (153, none), (154, none), (155, none), (156, none), (157, none), (158, none), (159, none), (160, none), (161, none), (162, none), (163, none), (164, none), (165, none), (166, none), (167, none), (168, none), (169, none), (170, none), (171, none), (172, none), (173, none), (174, none), (175, none), (176, none), (177, none), (178, none), (179, none), (180, none), (181, none), (182, none), (183, none), (184, none), (185, none), (186, none), (187, none), (188, none), (189, none), (190, none), (191, none), (192, none), (193, none), (194, none), (195, none), (196, none), (197, none), (198, none), (199, none), (200, none), (201, none), (202, none), (203, none), (204, none), (205, none), (206, none), (207, none), (208, none), (209, none), (210, none), (211, none), (212, none), (213, none), (214, none), (215, none), (216, none), (217, none), (218, none), (219, none), (220, none), (221, none), (222, none), (223, none), (224, none), (225, none), (226, none), (227, none), (228, none), (229, none), (230, none), (231, none), (232, none), (233, none), (234, none), (235, none), (236, none), (237, none), (238, none)]), (5, [(9, some 58), (10, some 4), (62, none), (63, none), (64, none), (65, none), (66, none), (67, none), (68, none), (69, none), (70, none), (71, none), (72, none), (73, none), (74, none), (75, none), (76, none), (77, none), (78, none), (79, none), (80, none), (81, none), (82, none), (83, none), (84, none), (85, none), (86, none), (87, none), (88, none), (89, none), (90, none), (91, none), (92, none), (93, none), (94, none), (95, none), (96, none), (97, none), (98, none), (99, none), (100, none), (101, none), (102, none), (103, none), (104, none), (105, none), (106, none), (107, none), (108, none)]), (9, [(4, none), (7, some 27), (13, some 3), (14, none), (15, none), (16, none), (17, none), (109, none), (110, none), (111, none), (112, none), (113, none), (114, none), (115, none), (116, none), (117, none), (118, none), (119, none), (120, none), (121, none), (122, none), (123, none), (124, none), (125, none), (126, none), (127, none), (128, none), (129, none), (130, none), (131, none), (132, none), (133, none), (134, none), (135, none), (136, none), (137, none), (138, none), (139, none), (140, none), (141, none), (142, none), (143, none), (144, none), (145, none), (146, none), (147, none), (148, none), (149, none), (150, none), (151, none), (152, none), (153, none), (154, none), (155, none), (156, none), (157, none), (158, none), (159, none)]), (13, [(4, none), (7, some 27), (18, none), (19, none), (165, none), (166, none), (167, none), (168, none), (169, none), (170, none), (171, none), (172, none), (173, none), (174, none), (175, none), (176, none), (177, none), (178, none), (179, none), (180, none), (181, none), (182, none), (183, none), (184, none), (185, none), (186, none), (187, none), (188, none), (189, none), (190, none), (191, none), (192, none), (193, none), (194, none), (195, none), (196, none), (197, none), (198, none), (199, none), (200, none), (201, none), (202, none), (203, none), (204, none), (205, none), (206, none), (207, none), (208, none), (209, none), (210, none), (211, none), (212, none), (213, none), (214, none)])]) (ordL [(2000001, [(29, 0), (30, 0), (31, 0), (32, 0), (33, 0), (34, 0), (35, 0), (36, 5)]), (2000011, [(11, 24), (12, 4), (52, 0), (53, 0), (54, 0), (55, 0), (56, 0), (57, 0), (58, 0), (59, 0), (60, 0)]), (11, [(0, 0), (1, 0), (2, 0), (3, 0), (6, 0), (4, 1), (5, 0), (7, 2), (8, 2), (9, 0), (10, 0)]), (15, [(0, 0), (1, 0), (2, 0), (3, 0), (4, 0), (6, 0), (7, 0), (8, 0), (9, 0), (11, 0), (5, 1), (10, 1), (12, 3), (13, 0), (14, 0), (15, 0), (16, 0), (17, 0)]), (17, [(0, 0), (1, 0), (2, 0), (3, 0), (4, 0), (6, 0), (7, 0), (8, 0), (9, 0), (11, 0), (5, 1), (10, 1), (12, 3), (13, 0), (14, 0), (15, 0), (16, 0), (17, 0)]), (22, [(0, 0), (2, 0), (3, 0), (4, 0), (5, 0), (6, 1), (1, 2), (7, 3), (8, 0), (9, 0), (10, 0), (11, 0), (12, 0)]), (2000023, [(137, 0), (138, 0), (139, 0), (140, 0), (141, 0), (142, 0), (143, 0), (144, 0), (145, 0), (146, 0), (147, 0), (148, 0), (149, 0), (150, 5)]), (27, [(0, 0), (2, 0), (3, 0), (4, 0), (5, 0), (6, 1), (1, 2), (7, 3), (8, 0), (9, 0), (10, 0), (11, 0), (12, 0)]), (2000028, [(176, 0), (177, 0), (178, 0), (179, 0), (180, 0), (181, 0), (182, 0), (183, 0), (184, 0), (185, 0), (186, 0), (187, 0), (188, 0), (189, 0), (190, 0), (191, 5)]), (31, [(0, 0), (1, 0), (2, 0), (3, 0), (4, 0), (6, 0), (7, 0), (8, 0), (9, 0), (5, 1), (10, 1), (11, 0), (12, 3), (13, 3), (14, 0)]), (2000032, [(215, 0), (216, 0), (217, 0), (218, 0), (219, 0), (220, 0), (221, 0), (222, 0), (223, 0), (224, 0), (225, 0), (226, 0), (227, 0), (228, 0), (229, 0), (230, 0), (231, 0), (232, 0), (233, 0), (234, 0), (235, 0), (236, 0), (237, 0), (238, 5)]), (2000041, [(4, 5), (267, 0), (268, 0), (269, 0), (270, 0), (271, 0), (272, 0), (273, 0), (274, 0), (275, 0), (276, 0), (277, 0), (278, 0), (279, 0), (280, 0), (281, 0), (282, 0), (283, 0), (284, 0), (285, 0), (286, 0), (287, 0), (288, 0), (289, 0), (290, 0), (291, 0), (292, 0), (293, 0), (294, 0), (295, 0), (296, 0), (297, 0), (298, 0)])]) [.agg #[.int .i64 a, .int .i64 b, .slice q l c], .slice q2 l2 c2] w K = cortadolaw26_PolicyKeeps_m a b q l c q2 l2 c2 w K := by kernel_rfl
theorem cortadolaw26_PolicyKeeps_go (a b : Int) (q : Option Addr) (l c : Nat) (q2 : Option Addr) (l2 c2 : Nat) {w : World} {K : Value → World → Prop} (h : cortadolaw26_PolicyKeeps_m a b q l c q2 l2 c2 w K) : Rets Tryd.prog 7 #[.agg #[.int .i64 a, .int .i64 b, .slice q l c], .slice q2 l2 c2] w K :=
  calls_of_fw plain mixed Tryd.func7 (by kernel_rfl) (by rw [cortadolaw26_PolicyKeeps_eq]; exact h)
end Go.Proofs.YtajckpjlliiekaaDoor.Eng
