/- What the code of these functions asks for: printed by a program of this session's (gens.py) out of the seat's own functions; the kernel checks each row. -/
import Derived.Test.YtajckpjlliiekaaEngH
import Derived.Test.YtajckpjlliiekaaProg
import Derived.Test.YtajckpjlliiekaaBase
namespace Go.Proofs.Ytajckpjlliiekaa.Eng
open Go Go.Proofs
set_option linter.unusedVariables false
set_option maxRecDepth 1000000
def cortadolaw24_LedgerBound_m (n : Int) (q : Option Addr) (l c : Nat) (w : World) (K : Value → World → Prop) : Prop :=
  (decide ((↑l : Int) > (40 : Int)) = true →
  Rets Try.prog (5 : Nat) { toList := [] } w fun (v1 : Value) (w1 : World) =>
  ∃ (b1 : Bool), v1 = Value.bool b1 ∧ K (Value.bool b1) w1) ∧
  (decide ((↑l : Int) > (40 : Int)) = false →
  Rets Try.prog (6 : Nat) { toList := [Value.int IntKind.i64 n] } w fun (v2 : Value) (w2 : World) =>
  ∃ (q1 : Option Addr),
  v2 = Value.pointer q1 ∧
  ∃ (h1 : Nat → List Value → World → Prop),
  (∃ (k1 : Nat), h1 k1 [Value.int IntKind.i64 (0 : Int)] w2) ∧
  ∀ (k2 : Nat) (w3 : World) (v3 : Value) (n1 : Int)
  (v4 v5 v6 v7 v8 v9 v10 v11 v12 v13 v14 v15 v16 v17 v18 v19 v20 v21 v22 v23 v24 v25 v26 v27 v28 v29 v30 v31 v32 v33 v34
  v35 v36 v37 v38 v39 v40 v41 v42 v43 v44 v45 v46 v47 v48 v49 v50 v51 v52 v53 v54 v55 v56 v57 v58 v59 v60 v61 v62 v63 v64
  v65 v66 v67 v68 v69 v70 v71 v72 v73 v74 v75 v76 v77 v78 v79 v80 v81 v82 v83 v84 v85 v86 v87 v88 v89 v90 v91 v92 v93 v94
  v95 v96 v97 v98 v99 v100 v101 v102 v103 v104 v105 v106 v107 v108 v109 v110 v111 v112 v113 v114 v115 v116 v117 v118 v119
  v120 v121 v122 v123 v124 v125 v126 v127 v128 v129 v130 v131 v132 v133 v134 v135 v136 v137 v138 v139 v140 v141 v142 v143
  v144 v145 v146 v147 v148 v149 v150 v151 : Value),
  h1 k2 [Value.int IntKind.i64 n1] w3 →
  (decide (n1 < (↑l : Int)) = true →
  Rets Try.prog (7 : Nat) { toList := [Value.pointer q1] } w3 fun (v152 : Value) (w4 : World) =>
  ∃ (n2 : Int),
  v152 = Value.int IntKind.i64 n2 ∧
  Rets Try.prog (8 : Nat) { toList := [Value.pointer q1] } w4 fun (v153 : Value) (w5 : World) =>
  ∃ (n3 : Int),
  v153 = Value.int IntKind.i64 n3 ∧
  Rets Try.prog (9 : Nat) { toList := [Value.pointer q1] } w5 fun (v154 : Value) (w6 : World) =>
  ∃ (n4 : Int),
  v154 = Value.int IntKind.i64 n4 ∧
  (0 : Int) ≤ n1 ∧
  n1 < (↑l : Int) ∧
  someR q fun (a1 : Addr) =>
  ∃ (n5 : Int),
  cellAt w6 (Addr.add (Addr.add a1 (Int.toNat n1 * (3 : Nat))) (0 : Nat)) (Value.int IntKind.u64 n5) ∧
  (7 : Int) ≠ (0 : Int) ∧
  ∃ (h2 : List Value → World → Prop),
  (((Int.tmod n5 (7 : Int) == (3 : Int)) = true →
  Drw w6 fun (w7 : World) =>
  (0 : Int) ≤ n1 ∧
  n1 < (↑l : Int) ∧
  someR q fun (a2 : Addr) =>
  (0 : Int) ≤ n1 ∧
  n1 < (↑l : Int) ∧
  someR q fun (a3 : Addr) =>
  ∃ (n6 : Int),
  cellAt w7 (Addr.add (Addr.add a2 (Int.toNat n1 * (3 : Nat))) (1 : Nat)) (Value.int IntKind.u64 n6) ∧
  ∃ (n7 : Int),
  cellAt w7 (Addr.add (Addr.add a3 (Int.toNat n1 * (3 : Nat))) (2 : Nat)) (Value.int IntKind.i64 n7) ∧
  Rets Try.prog (10 : Nat) { toList := [Value.pointer q1, Value.int IntKind.u64 n6, Value.int IntKind.i64 n7] } w7
  fun (v155 : Value) (w8 : World) => ∃ (b2 : Bool), v155 = Value.bool b2 ∧ h2 [Value.bool b2] w8) ∧
  ((Int.tmod n5 (7 : Int) == (3 : Int)) = false →
  ((Int.tmod n5 (7 : Int) == (4 : Int)) = true →
  (0 : Int) ≤ n1 ∧
  n1 < (↑l : Int) ∧
  someR q fun (a4 : Addr) =>
  ∃ (n8 : Int),
  cellAt w6 (Addr.add (Addr.add a4 (Int.toNat n1 * (3 : Nat))) (1 : Nat)) (Value.int IntKind.u64 n8) ∧
  Rets Try.prog (11 : Nat) { toList := [Value.pointer q1, Value.int IntKind.u64 n8] } w6
  fun (v156 : Value) (w9 : World) =>
  ∃ (n9 : Int),
  ∃ (b3 : Bool), v156 = Value.tuple { toList := [Value.int IntKind.i64 n9, Value.bool b3] } ∧ h2 [Value.bool b3] w9) ∧
  ((Int.tmod n5 (7 : Int) == (4 : Int)) = false →
  ((Int.tmod n5 (7 : Int) == (5 : Int)) = true →
  (0 : Int) ≤ n1 ∧
  n1 < (↑l : Int) ∧
  someR q fun (a5 : Addr) =>
  ∃ (n10 : Int),
  cellAt w6 (Addr.add (Addr.add a5 (Int.toNat n1 * (3 : Nat))) (2 : Nat)) (Value.int IntKind.i64 n10) ∧
  Rets Try.prog (12 : Nat) { toList := [Value.pointer q1, Value.int IntKind.i64 n10] } w6
  fun (v157 : Value) (w10 : World) => ∃ (b4 : Bool), v157 = Value.bool b4 ∧ h2 [Value.bool b4] w10) ∧
  ((Int.tmod n5 (7 : Int) == (5 : Int)) = false →
  ((Int.tmod n5 (7 : Int) == (6 : Int)) = true →
  Rets Try.prog (13 : Nat) { toList := [Value.pointer q1] } w6 fun (v158 : Value) (w11 : World) =>
  v158 = Value.tuple { toList := [] } ∧ h2 [Value.bool true] w11) ∧
  ((Int.tmod n5 (7 : Int) == (6 : Int)) = false →
  Drw w6 fun (w12 : World) =>
  (0 : Int) ≤ n1 ∧
  n1 < (↑l : Int) ∧
  someR q fun (a6 : Addr) =>
  (0 : Int) ≤ n1 ∧
  n1 < (↑l : Int) ∧
  someR q fun (a7 : Addr) =>
  ∃ (n11 : Int),
  cellAt w12 (Addr.add (Addr.add a6 (Int.toNat n1 * (3 : Nat))) (1 : Nat)) (Value.int IntKind.u64 n11) ∧
  ∃ (n12 : Int),
  cellAt w12 (Addr.add (Addr.add a7 (Int.toNat n1 * (3 : Nat))) (2 : Nat)) (Value.int IntKind.i64 n12) ∧
  Rets Try.prog (14 : Nat) { toList := [Value.pointer q1, Value.int IntKind.u64 n11, Value.int IntKind.i64 n12] } w12
  fun (v159 : Value) (w13 : World) => ∃ (b5 : Bool), v159 = Value.bool b5 ∧ h2 [Value.bool b5] w13))))) ∧
  ∀ (w14 : World) (b6 : Bool)
  (v160 v161 v162 v163 v164 v165 v166 v167 v168 v169 v170 v171 v172 v173 v174 v175 v176 v177 v178 v179 v180 v181 v182 v183
  v184 v185 v186 v187 v188 v189 v190 v191 v192 v193 v194 v195 v196 v197 v198 v199 v200 v201 v202 v203 v204 v205 v206 v207
  v208 v209 v210 : Value),
  h2 [Value.bool b6] w14 →
  ∃ (h3 : List Value → World → Prop),
  (((!b6) = true →
  Rets Try.prog (7 : Nat) { toList := [Value.pointer q1] } w14 fun (v211 : Value) (w15 : World) =>
  ∃ (n13 : Int),
  v211 = Value.int IntKind.i64 n13 ∧
  ((n13 != n2) = false →
  Rets Try.prog (8 : Nat) { toList := [Value.pointer q1] } w15 fun (v212 : Value) (w16 : World) =>
  ∃ (n14 : Int),
  v212 = Value.int IntKind.i64 n14 ∧
  ((n14 != n3) = false →
  Rets Try.prog (9 : Nat) { toList := [Value.pointer q1] } w16 fun (v213 : Value) (w17 : World) =>
  ∃ (n15 : Int),
  v213 = Value.int IntKind.i64 n15 ∧
  ((n15 != n4) = false →
  Rets Try.prog (9 : Nat) { toList := [Value.pointer q1] } w17 fun (v214 : Value) (w18 : World) =>
  ∃ (n16 : Int),
  v214 = Value.int IntKind.i64 n16 ∧
  Rets Try.prog (15 : Nat) { toList := [Value.int IntKind.i64 n16] } w18 fun (v215 : Value) (w19 : World) =>
  ∃ (b7 : Bool),
  v215 = Value.bool b7 ∧
  ((!b7) = false →
  Rets Try.prog (7 : Nat) { toList := [Value.pointer q1] } w19 fun (v216 : Value) (w20 : World) =>
  ∃ (n17 : Int),
  v216 = Value.int IntKind.i64 n17 ∧
  Rets Try.prog (9 : Nat) { toList := [Value.pointer q1] } w20 fun (v217 : Value) (w21 : World) =>
  ∃ (n18 : Int), v217 = Value.int IntKind.i64 n18 ∧ h3 [Value.bool (decide (n17 > n18))] w21) ∧
  ((!b7) = true → h3 [Value.bool true] w19)) ∧
  ((n15 != n4) = true → h3 [Value.bool true] w17)) ∧
  ((n14 != n3) = true → h3 [Value.bool true] w16)) ∧
  ((n13 != n2) = true → h3 [Value.bool true] w15)) ∧
  ((!b6) = false →
  Rets Try.prog (9 : Nat) { toList := [Value.pointer q1] } w14 fun (v218 : Value) (w22 : World) =>
  ∃ (n19 : Int),
  v218 = Value.int IntKind.i64 n19 ∧
  Rets Try.prog (15 : Nat) { toList := [Value.int IntKind.i64 n19] } w22 fun (v219 : Value) (w23 : World) =>
  ∃ (b8 : Bool),
  v219 = Value.bool b8 ∧
  ((!b8) = false →
  Rets Try.prog (7 : Nat) { toList := [Value.pointer q1] } w23 fun (v220 : Value) (w24 : World) =>
  ∃ (n20 : Int),
  v220 = Value.int IntKind.i64 n20 ∧
  Rets Try.prog (9 : Nat) { toList := [Value.pointer q1] } w24 fun (v221 : Value) (w25 : World) =>
  ∃ (n21 : Int), v221 = Value.int IntKind.i64 n21 ∧ h3 [Value.bool (decide (n20 > n21))] w25) ∧
  ((!b8) = true → h3 [Value.bool true] w23))) ∧
  ∀ (w26 : World)
  (v222 v223 v224 v225 v226 v227 v228 v229 v230 v231 v232 v233 v234 v235 v236 v237 v238 v239 v240 v241 v242 v243 v244 v245
  v246 v247 v248 v249 v250 v251 v252 v253 : Value)
  (b9 : Bool),
  h3 [Value.bool b9] w26 →
  (b9 = true → K (Value.bool false) w26) ∧
  (b9 = false →
  Rets Try.prog (7 : Nat) { toList := [Value.pointer q1] } w26 fun (v254 : Value) (w27 : World) =>
  ∃ (n22 : Int),
  v254 = Value.int IntKind.i64 n22 ∧
  ∃ (h4 : Nat → List Value → World → Prop),
  (∃ (k3 : Nat), h4 k3 [Value.int IntKind.i64 n22, Value.int IntKind.i64 (0 : Int)] w27) ∧
  ∀ (k4 : Nat) (w28 : World) (v255 : Value) (n23 n24 : Int)
  (v256 v257 v258 v259 v260 v261 v262 v263 v264 v265 v266 v267 v268 v269 v270 v271 v272 v273 v274 v275 v276 v277 v278 v279
  v280 v281 v282 v283 v284 v285 v286 v287 v288 v289 v290 v291 : Value),
  h4 k4 [Value.int IntKind.i64 n23, Value.int IntKind.i64 n24] w28 →
  Rets Try.prog (8 : Nat) { toList := [Value.pointer q1] } w28 fun (v292 : Value) (w29 : World) =>
  ∃ (n25 : Int),
  v292 = Value.int IntKind.i64 n25 ∧
  (decide (n24 < n25) = true →
  Rets Try.prog (16 : Nat) { toList := [Value.pointer q1, Value.int IntKind.i64 n24] } w29
  fun (v293 : Value) (w30 : World) =>
  ∃ (n26 : Int),
  ∃ (b10 : Bool),
  v293 = Value.tuple { toList := [Value.int IntKind.u64 n26, Value.bool b10] } ∧
  Rets Try.prog (17 : Nat) { toList := [Value.pointer q1, Value.int IntKind.u64 n26] } w30
  fun (v294 : Value) (w31 : World) =>
  ∃ (n27 : Int),
  ∃ (b11 : Bool),
  v294 = Value.tuple { toList := [Value.int IntKind.i64 n27, Value.bool b11] } ∧
  ∃ (h5 : List Value → World → Prop),
  (((!b11) = false →
  (decide (n27 < (0 : Int)) = false → h5 [Value.bool (decide (n27 > n23))] w31) ∧
  (decide (n27 < (0 : Int)) = true → h5 [Value.bool true] w31)) ∧
  ((!b11) = true → h5 [Value.bool true] w31)) ∧
  ∀ (w32 : World) (v295 v296 v297 v298 v299 v300 v301 v302 v303 v304 : Value) (b12 : Bool),
  h5 [Value.bool b12] w32 →
  (b12 = true → K (Value.bool false) w32) ∧
  (b12 = false →
  ∃ (k5 : Nat),
  k5 < k4 ∧
  h4 k5
  [Value.int IntKind.i64 (IntKind.wrap IntKind.i64 (n23 - n27)),
  Value.int IntKind.i64 (IntKind.wrap IntKind.i64 (n24 + (1 : Int)))]
  w32)) ∧
  (decide (n24 < n25) = false →
  ((n23 != (0 : Int)) = true → K (Value.bool false) w29) ∧
  ((n23 != (0 : Int)) = false →
  ∃ (k6 : Nat), k6 < k2 ∧ h1 k6 [Value.int IntKind.i64 (IntKind.wrap IntKind.i64 (n1 + (1 : Int)))] w29)))) ∧
  (decide (n1 < (↑l : Int)) = false →
  Rets Try.prog (13 : Nat) { toList := [Value.pointer none] } w3 fun (v305 : Value) (w33 : World) =>
  v305 = Value.tuple { toList := [] } ∧
  Rets Try.prog (17 : Nat) { toList := [Value.pointer none, Value.int IntKind.u64 (1 : Int)] } w33
  fun (v306 : Value) (w34 : World) =>
  ∃ (n28 : Int),
  ∃ (b13 : Bool),
  v306 = Value.tuple { toList := [Value.int IntKind.i64 n28, Value.bool b13] } ∧
  Rets Try.prog (11 : Nat) { toList := [Value.pointer none, Value.int IntKind.u64 (1 : Int)] } w34
  fun (v307 : Value) (w35 : World) =>
  ∃ (n29 : Int),
  ∃ (b14 : Bool),
  v307 = Value.tuple { toList := [Value.int IntKind.i64 n29, Value.bool b14] } ∧
  Rets Try.prog (16 : Nat) { toList := [Value.pointer none, Value.int IntKind.i64 (0 : Int)] } w35
  fun (v308 : Value) (w36 : World) =>
  ∃ (n30 : Int),
  ∃ (b15 : Bool),
  v308 = Value.tuple { toList := [Value.int IntKind.u64 n30, Value.bool b15] } ∧
  ∃ (h6 : List Value → World → Prop),
  (((!b13) = true →
  ((!b14) = true →
  ((!b15) = true →
  Rets Try.prog (14 : Nat)
  { toList := [Value.pointer none, Value.int IntKind.u64 (1 : Int), Value.int IntKind.i64 (1 : Int)] } w36
  fun (v309 : Value) (w37 : World) =>
  ∃ (b16 : Bool),
  v309 = Value.bool b16 ∧
  ((!b16) = true →
  Rets Try.prog (10 : Nat)
  { toList := [Value.pointer none, Value.int IntKind.u64 (1 : Int), Value.int IntKind.i64 (1 : Int)] } w37
  fun (v310 : Value) (w38 : World) =>
  ∃ (b17 : Bool),
  v310 = Value.bool b17 ∧
  ((!b17) = true →
  Rets Try.prog (12 : Nat) { toList := [Value.pointer none, Value.int IntKind.i64 (1 : Int)] } w38
  fun (v311 : Value) (w39 : World) =>
  ∃ (b18 : Bool),
  v311 = Value.bool b18 ∧
  ((!b18) = true →
  Rets Try.prog (7 : Nat) { toList := [Value.pointer none] } w39 fun (v312 : Value) (w40 : World) =>
  ∃ (n31 : Int),
  v312 = Value.int IntKind.i64 n31 ∧
  Rets Try.prog (9 : Nat) { toList := [Value.pointer none] } w40 fun (v313 : Value) (w41 : World) =>
  ∃ (n32 : Int),
  v313 = Value.int IntKind.i64 n32 ∧
  Rets Try.prog (18 : Nat) { toList := [Value.pointer none] } w41 fun (v314 : Value) (w42 : World) =>
  ∃ (n33 : Int),
  v314 = Value.int IntKind.i64 n33 ∧
  Rets Try.prog (8 : Nat) { toList := [Value.pointer none] } w42 fun (v315 : Value) (w43 : World) =>
  ∃ (n34 : Int),
  v315 = Value.int IntKind.i64 n34 ∧
  ((IntKind.wrap IntKind.i64 (IntKind.wrap IntKind.i64 (IntKind.wrap IntKind.i64 (n31 + n32) + n33) + n34) == (0 : Int)) =
  true →
  Rets Try.prog (5 : Nat) { toList := [] } w43 fun (v316 : Value) (w44 : World) =>
  ∃ (b19 : Bool), v316 = Value.bool b19 ∧ h6 [Value.bool b19] w44) ∧
  ((IntKind.wrap IntKind.i64 (IntKind.wrap IntKind.i64 (IntKind.wrap IntKind.i64 (n31 + n32) + n33) + n34) == (0 : Int)) =
  false →
  h6 [Value.bool false] w43)) ∧
  ((!b18) = false → h6 [Value.bool false] w39)) ∧
  ((!b17) = false → h6 [Value.bool false] w38)) ∧
  ((!b16) = false → h6 [Value.bool false] w37)) ∧
  ((!b15) = false → h6 [Value.bool false] w36)) ∧
  ((!b14) = false → h6 [Value.bool false] w36)) ∧
  ((!b13) = false → h6 [Value.bool false] w36)) ∧
  ∀ (w45 : World) (b20 : Bool)
  (v317 v318 v319 v320 v321 v322 v323 v324 v325 v326 v327 v328 v329 v330 v331 v332 v333 v334 v335 v336 v337 v338 v339 v340
  v341 v342 v343 v344 v345 v346 v347 v348 v349 v350 v351 v352 v353 v354 v355 v356 v357 v358 : Value),
  h6 [Value.bool b20] w45 → K (Value.bool b20) w45))
theorem cortadolaw24_LedgerBound_eq (n : Int) (q : Option Addr) (l c : Nat) (w : World) (K : Value → World → Prop) : fw Try.prog Try.f3 (annL [(2, [(4, none), (6, some 3), (7, none), (8, none), (9, none), (10, none), (11, none), (12, none), (13, none), (14, none), (15, none), (16, none), (30, none), (31, none), (32, none), (33, none), (34, none), (35, none), (36, none), (37, none), (38, none), (39, none), (40, none), (41, none), (42, none), (43, none), (44, none), (45, none), (46, none), (47, none), (48, none), (49, none), (50, none), (51, none), (52, none), (53, none), (54, none), (55, none), (56, none), (57, none), (58, none), (59, none), (60, none), (61, none), (62, none), (63, none), (64, none), (65, none), (66, none), (67, none), (68, none), (69, none), (70, none), (71, none), (72, none), (73, none), (74, none), (75, none), (76, none), (77, none), (78, none), (79, none), (80, none), (81, none), (82, none), (83, none), (84, none), (85, none), (86, none), (87, none), (88, none), (89, none), (90, none), (91, none), (92, none), (93, none), (94, none), (95, none), (96, none), (97, none), (98, none), (99, none), (100, none), (101, none), (102, none), (103, none), (104, none), (105, none), (106, none), (107, none), (108, none), (109, none), (110, none), (111, none), (112, none), (113, none), (114, none), (115, none), (116, none), (117, none), (118, none), (119, none), (120, none), (121, none), (122, none), (123, none), (124, none), (125, none), (126, none), (127, none), (128, none), (129, none), (130, none), (131, none), (132, none), (133, none), (134, none), (135, none), (136, none), (137, none), (138, none), (139, none), (140, none), (141, none), (142, none), (143, none), (144, none), (145, none), (146, none), (147, none), (148, none), (149, none), (150, none), (151, none), (152, none), (153, none), (154, none), (155, none), (156, none), (157, none), (158, none), (159, none), (160, none), (161, none), (162, none), (163, none), (164, none), (165, none), (166, none), (167, none)]), (5, [(10, some 4), (48, none), (49, none), (50, none), (51, none), (52, none), (53, none), (54, none), (55, none), (56, none), (57, none), (58, none), (59, none), (60, none), (61, none), (62, none), (63, none), (64, none), (65, none), (66, none), (67, none), (68, none), (69, none), (70, none), (71, none), (72, none), (73, none), (74, none), (75, none), (76, none), (77, none), (78, none), (79, none), (80, none), (81, none), (82, none), (83, none), (84, none), (85, none), (86, none), (87, none), (88, none), (89, none), (90, none), (91, none), (92, none), (93, none), (94, none), (95, none), (96, none), (97, none), (98, none)]), (12, [(4, none), (11, some 3), (12, some 3), (13, none), (14, none), (15, none), (16, none), (134, none), (135, none), (136, none), (137, none), (138, none), (139, none), (140, none), (141, none), (142, none), (143, none), (144, none), (145, none), (146, none), (147, none), (148, none), (149, none), (150, none), (151, none), (152, none), (153, none), (154, none), (155, none), (156, none), (157, none), (158, none), (159, none), (160, none), (161, none), (162, none), (163, none), (164, none), (165, none)])]) (ordL [(12, [(0, 0), (1, 0), (2, 0), (3, 0), (4, 0), (6, 0), (7, 0), (8, 0), (9, 0), (5, 1), (10, 1), (11, 3), (12, 0)]), (10, [(0, 0), (1, 0), (2, 0), (3, 0), (4, 0), (6, 0), (7, 0), (8, 0), (9, 0), (5, 1), (10, 1), (11, 3), (12, 0)]), (2000019, [(99, 0), (100, 0), (101, 0), (102, 0), (103, 0), (104, 0), (105, 0), (106, 0), (107, 0), (108, 0), (109, 0), (110, 0), (111, 0), (112, 0), (113, 0), (114, 0), (115, 0), (116, 0), (117, 0), (118, 0), (119, 0), (120, 0), (121, 0), (122, 0), (123, 0), (124, 0), (125, 0), (126, 0), (127, 0), (128, 0), (129, 0), (130, 0), (131, 5)]), (2000027, [(152, 0), (153, 0), (154, 0), (155, 0), (156, 0), (157, 0), (158, 0), (159, 0), (160, 0), (161, 0), (162, 5)]), (2000037, [(4, 5), (185, 0), (186, 0), (187, 0), (188, 0), (189, 0), (190, 0), (191, 0), (192, 0), (193, 0), (194, 0), (195, 0), (196, 0), (197, 0), (198, 0), (199, 0), (200, 0), (201, 0), (202, 0), (203, 0), (204, 0), (205, 0), (206, 0), (207, 0), (208, 0), (209, 0), (210, 0), (211, 0), (212, 0), (213, 0), (214, 0), (215, 0), (216, 0), (217, 0), (218, 0), (219, 0), (220, 0), (221, 0), (222, 0), (223, 0), (224, 0), (225, 0), (226, 0)])]) [.int .i64 n, .slice q l c] w K = cortadolaw24_LedgerBound_m n q l c w K := by kernel_rfl
theorem cortadolaw24_LedgerBound_go (n : Int) (q : Option Addr) (l c : Nat) {w : World} {K : Value → World → Prop} (h : cortadolaw24_LedgerBound_m n q l c w K) : Rets Try.prog 3 #[.int .i64 n, .slice q l c] w K :=
  calls_of_fw plain mixed Try.func3 (by kernel_rfl) (by rw [cortadolaw24_LedgerBound_eq]; exact h)
def cortadolaw24_awake_m  (w : World) (K : Value → World → Prop) : Prop :=
  Rets Try.prog (6 : Nat) { toList := [Value.int IntKind.i64 (10 : Int)] } w fun (v1 : Value) (w1 : World) =>
  ∃ (q1 : Option Addr),
  v1 = Value.pointer q1 ∧
  Rets Try.prog (14 : Nat)
  { toList := [Value.pointer q1, Value.int IntKind.u64 (1 : Int), Value.int IntKind.i64 (6 : Int)] } w1
  fun (v2 : Value) (w2 : World) =>
  ∃ (b1 : Bool),
  v2 = Value.bool b1 ∧
  (b1 = true →
  Rets Try.prog (14 : Nat)
  { toList := [Value.pointer q1, Value.int IntKind.u64 (2 : Int), Value.int IntKind.i64 (5 : Int)] } w2
  fun (v3 : Value) (w3 : World) =>
  ∃ (b2 : Bool),
  v3 = Value.bool b2 ∧
  ((!b2) = true →
  Rets Try.prog (10 : Nat)
  { toList := [Value.pointer q1, Value.int IntKind.u64 (1 : Int), Value.int IntKind.i64 (4 : Int)] } w3
  fun (v4 : Value) (w4 : World) =>
  ∃ (b3 : Bool),
  v4 = Value.bool b3 ∧
  (b3 = true →
  Rets Try.prog (14 : Nat)
  { toList := [Value.pointer q1, Value.int IntKind.u64 (2 : Int), Value.int IntKind.i64 (5 : Int)] } w4
  fun (v5 : Value) (w5 : World) =>
  ∃ (b4 : Bool),
  v5 = Value.bool b4 ∧
  (b4 = true →
  Rets Try.prog (7 : Nat) { toList := [Value.pointer q1] } w5 fun (v6 : Value) (w6 : World) =>
  ∃ (n1 : Int), v6 = Value.int IntKind.i64 n1 ∧ K (Value.bool (n1 == (9 : Int))) w6) ∧
  (b4 = false → K (Value.bool false) w5)) ∧
  (b3 = false → K (Value.bool false) w4)) ∧
  ((!b2) = false → K (Value.bool false) w3)) ∧
  (b1 = false → K (Value.bool false) w2)
theorem cortadolaw24_awake_eq  (w : World) (K : Value → World → Prop) : fw Try.prog Try.f5 (annL []) (ordL []) [] w K = cortadolaw24_awake_m  w K := by kernel_rfl
theorem cortadolaw24_awake_go  {w : World} {K : Value → World → Prop} (h : cortadolaw24_awake_m  w K) : Rets Try.prog 5 #[] w K :=
  calls_of_fw plain mixed Try.func5 (by kernel_rfl) (by rw [cortadolaw24_awake_eq]; exact h)
end Go.Proofs.Ytajckpjlliiekaa.Eng
