/- What the code of these functions asks for: printed by a program of this session's (gens.py) out of the seat's own functions; the kernel checks each row. -/
import Derived.Test.YtkcaeknkfgpnhaaEngH
import Derived.Test.YtkcaeknkfgpnhaaProg
import Derived.Test.YtkcaeknkfgpnhaaBase
namespace Go.Proofs.Ytkcaeknkfgpnhaa.Eng
open Go Go.Proofs
set_option linter.unusedVariables false
set_option maxRecDepth 1000000
def cortadolaw14_ExactTells_m (n : Int) (q : Option Addr) (l c : Nat) (w : World) (K : Value → World → Prop) : Prop :=
  (decide ((↑l : Int) > (40 : Int)) = true →
  Rets Try.prog (57 : Nat) { toList := [] } w fun (v1 : Value) (w1 : World) =>
  ∃ (b1 : Bool), v1 = Value.bool b1 ∧ K (Value.bool b1) w1) ∧
  (decide ((↑l : Int) > (40 : Int)) = false →
  Rets Try.prog (58 : Nat) { toList := [Value.int IntKind.i64 n] } w fun (v2 : Value) (w2 : World) =>
  ∃ (q1 : Option Addr),
  v2 = Value.pointer q1 ∧
  ∃ (h1 : Nat → List Value → World → Prop),
  (∃ (k1 : Nat), h1 k1 [Value.int IntKind.i64 (0 : Int)] w2) ∧
  ∀ (k2 : Nat) (w3 : World) (v3 : Value) (n1 : Int)
  (v4 v5 v6 v7 v8 v9 v10 v11 v12 v13 v14 v15 v16 v17 v18 v19 v20 v21 v22 v23 v24 v25 v26 v27 v28 v29 v30 v31 v32 v33 v34
  v35 v36 v37 v38 v39 v40 v41 v42 v43 v44 v45 v46 v47 v48 v49 v50 v51 v52 v53 v54 v55 v56 v57 v58 v59 v60 v61 v62 v63 v64
  v65 v66 v67 v68 v69 v70 v71 v72 v73 v74 v75 v76 v77 v78 v79 : Value),
  h1 k2 [Value.int IntKind.i64 n1] w3 →
  (decide (n1 < (↑l : Int)) = true →
  (0 : Int) ≤ n1 ∧
  n1 < (↑l : Int) ∧
  someR q fun (a1 : Addr) =>
  ∃ (n2 : Int),
  cellAt w3 (Addr.add a1 (Int.toNat n1 * (1 : Nat))) (Value.int IntKind.u64 n2) ∧
  Rets Try.prog (59 : Nat) { toList := [Value.pointer q1, Value.int IntKind.u64 n2] } w3 fun (v80 : Value) (w4 : World) =>
  v80 = Value.tuple { toList := [] } ∧
  Drw w4 fun (w5 : World) =>
  maxI (1 : Int) (minI n (4096 : Int)) ≠ (0 : Int) ∧
  Rets Try.prog (60 : Nat) { toList := [Value.pointer q1] } w5 fun (v81 : Value) (w6 : World) =>
  ∃ (n3 : Int),
  v81 = Value.int IntKind.i64 n3 ∧
  ((n3 != Int.tmod (IntKind.wrap IntKind.i64 (n1 + (1 : Int))) (maxI (1 : Int) (minI n (4096 : Int)))) = true →
  K (Value.bool false) w6) ∧
  ((n3 != Int.tmod (IntKind.wrap IntKind.i64 (n1 + (1 : Int))) (maxI (1 : Int) (minI n (4096 : Int)))) = false →
  ∃ (h2 : Nat → List Value → World → Prop),
  (∃ (k3 : Nat), h2 k3 [Value.int IntKind.i64 (0 : Int), Value.int IntKind.i64 (0 : Int)] w6) ∧
  ∀ (k4 : Nat) (w7 : World) (v82 : Value) (n4 n5 : Int)
  (v83 v84 v85 v86 v87 v88 v89 v90 v91 v92 v93 v94 v95 v96 v97 v98 v99 v100 v101 v102 v103 v104 v105 v106 v107 v108 v109
  v110 v111 v112 v113 v114 v115 v116 v117 v118 v119 v120 v121 v122 v123 v124 v125 v126 v127 v128 v129 v130 v131 v132
  v133 : Value),
  h2 k4 [Value.int IntKind.i64 n4, Value.int IntKind.i64 n5] w7 →
  (decide (n5 < (↑l : Int)) = true →
  Drw w7 fun (w8 : World) =>
  (0 : Int) ≤ IntKind.wrap IntKind.i64 (n1 + (1 : Int)) ∧
  IntKind.wrap IntKind.i64 (n1 + (1 : Int)) ≤ (↑c : Int) ∧
  (0 : Int) ≤ n5 ∧
  n5 < (↑l : Int) ∧
  someR q fun (a2 : Addr) =>
  ∃ (n6 : Int),
  cellAt w8 (Addr.add a2 (Int.toNat n5 * (1 : Nat))) (Value.int IntKind.u64 n6) ∧
  Rets Try.prog (61 : Nat)
  {
  toList :=
  [Value.int IntKind.i64 n,
  Value.slice (slcA q (0 : Nat) c (1 : Nat)) (Int.toNat (IntKind.wrap IntKind.i64 (n1 + (1 : Int))) - (0 : Nat))
  (c - (0 : Nat)),
  Value.int IntKind.u64 n6] }
  w8 fun (v134 : Value) (w9 : World) =>
  ∃ (n7 : Int),
  v134 = Value.int IntKind.i64 n7 ∧
  (0 : Int) ≤ n5 ∧
  n5 < (↑l : Int) ∧
  someR q fun (a3 : Addr) =>
  ∃ (n8 : Int),
  cellAt w9 (Addr.add a3 (Int.toNat n5 * (1 : Nat))) (Value.int IntKind.u64 n8) ∧
  Rets Try.prog (62 : Nat) { toList := [Value.pointer q1, Value.int IntKind.u64 n8] } w9
  fun (v135 : Value) (w10 : World) =>
  ∃ (n9 : Int),
  v135 = Value.int IntKind.i64 n9 ∧
  ((n9 != n7) = true → K (Value.bool false) w10) ∧
  ((n9 != n7) = false →
  ∃ (h3 : Nat → List Value → World → Prop),
  (∃ (k5 : Nat), h3 k5 [Value.bool true, Value.int IntKind.i64 (0 : Int)] w10) ∧
  ∀ (k6 : Nat) (w11 : World) (b2 : Bool) (n10 : Int)
  (v136 v137 v138 v139 v140 v141 v142 v143 v144 v145 v146 v147 v148 v149 v150 v151 v152 : Value),
  h3 k6 [Value.bool b2, Value.int IntKind.i64 n10] w11 →
  (decide (n10 < n5) = true →
  ∃ (h4 : List Value → World → Prop),
  (Drw w11 fun (w12 : World) =>
  (b2 = true →
  (0 : Int) ≤ n10 ∧
  n10 < (↑l : Int) ∧
  someR q fun (a4 : Addr) =>
  (0 : Int) ≤ n5 ∧
  n5 < (↑l : Int) ∧
  someR q fun (a5 : Addr) =>
  ∃ (n11 : Int),
  cellAt w12 (Addr.add a4 (Int.toNat n10 * (1 : Nat))) (Value.int IntKind.u64 n11) ∧
  ∃ (n12 : Int),
  cellAt w12 (Addr.add a5 (Int.toNat n5 * (1 : Nat))) (Value.int IntKind.u64 n12) ∧ h4 [Value.bool (n11 != n12)] w12) ∧
  (b2 = false → h4 [Value.bool false] w12)) ∧
  ∀ (w13 : World) (b3 : Bool) (v153 v154 v155 v156 v157 v158 v159 v160 v161 v162 v163 v164 : Value),
  h4 [Value.bool b3] w13 →
  ∃ (k7 : Nat), k7 < k6 ∧ h3 k7 [Value.bool b3, Value.int IntKind.i64 (IntKind.wrap IntKind.i64 (n10 + (1 : Int)))] w13) ∧
  (decide (n10 < n5) = false →
  ∃ (h5 : List Value → World → Prop),
  ((decide (n7 > (0 : Int)) = true → h5 [Value.bool b2] w11) ∧
  (decide (n7 > (0 : Int)) = false → h5 [Value.bool false] w11)) ∧
  ∀ (w14 : World) (v165 v166 v167 v168 : Value) (b4 : Bool),
  h5 [Value.bool b4] w14 →
  ∃ (h6 : List Value → World → Prop),
  ((b4 = true → h6 [Value.int IntKind.i64 (IntKind.wrap IntKind.i64 (n4 + (1 : Int)))] w14) ∧
  (b4 = false → h6 [Value.int IntKind.i64 n4] w14)) ∧
  ∀ (w15 : World) (n13 : Int) (v169 v170 : Value),
  h6 [Value.int IntKind.i64 n13] w15 →
  ∃ (k8 : Nat),
  k8 < k4 ∧ h2 k8 [Value.int IntKind.i64 n13, Value.int IntKind.i64 (IntKind.wrap IntKind.i64 (n5 + (1 : Int)))] w15))) ∧
  (decide (n5 < (↑l : Int)) = false →
  Rets Try.prog (63 : Nat) { toList := [Value.pointer q1] } w7 fun (v171 : Value) (w16 : World) =>
  ∃ (n14 : Int),
  v171 = Value.int IntKind.i64 n14 ∧
  ((n14 != n4) = true → K (Value.bool false) w16) ∧
  ((n14 != n4) = false →
  ∃ (k9 : Nat), k9 < k2 ∧ h1 k9 [Value.int IntKind.i64 (IntKind.wrap IntKind.i64 (n1 + (1 : Int)))] w16)))) ∧
  (decide (n1 < (↑l : Int)) = false →
  Rets Try.prog (64 : Nat) { toList := [Value.pointer q1] } w3 fun (v172 : Value) (w17 : World) =>
  v172 = Value.tuple { toList := [] } ∧
  Rets Try.prog (59 : Nat) { toList := [Value.pointer none, Value.int IntKind.u64 (1 : Int)] } w17
  fun (v173 : Value) (w18 : World) =>
  v173 = Value.tuple { toList := [] } ∧
  Rets Try.prog (65 : Nat) { toList := [Value.pointer none, Value.slice q l c] } w18 fun (v174 : Value) (w19 : World) =>
  v174 = Value.tuple { toList := [] } ∧
  Rets Try.prog (64 : Nat) { toList := [Value.pointer none] } w19 fun (v175 : Value) (w20 : World) =>
  v175 = Value.tuple { toList := [] } ∧
  ∃ (h7 : List Value → World → Prop),
  (Rets Try.prog (60 : Nat) { toList := [Value.pointer q1] } w20 fun (v176 : Value) (w21 : World) =>
  ∃ (n15 : Int),
  v176 = Value.int IntKind.i64 n15 ∧
  Rets Try.prog (63 : Nat) { toList := [Value.pointer q1] } w21 fun (v177 : Value) (w22 : World) =>
  ∃ (n16 : Int),
  v177 = Value.int IntKind.i64 n16 ∧
  ((IntKind.wrap IntKind.i64 (n15 + n16) == (0 : Int)) = true →
  Rets Try.prog (62 : Nat) { toList := [Value.pointer none, Value.int IntKind.u64 (1 : Int)] } w22
  fun (v178 : Value) (w23 : World) =>
  ∃ (n17 : Int),
  v178 = Value.int IntKind.i64 n17 ∧
  Rets Try.prog (60 : Nat) { toList := [Value.pointer none] } w23 fun (v179 : Value) (w24 : World) =>
  ∃ (n18 : Int),
  v179 = Value.int IntKind.i64 n18 ∧
  Rets Try.prog (63 : Nat) { toList := [Value.pointer none] } w24 fun (v180 : Value) (w25 : World) =>
  ∃ (n19 : Int),
  v180 = Value.int IntKind.i64 n19 ∧
  ((IntKind.wrap IntKind.i64 (IntKind.wrap IntKind.i64 (n17 + n18) + n19) == (0 : Int)) = true →
  Rets Try.prog (57 : Nat) { toList := [] } w25 fun (v181 : Value) (w26 : World) =>
  ∃ (b5 : Bool), v181 = Value.bool b5 ∧ h7 [Value.bool b5] w26) ∧
  ((IntKind.wrap IntKind.i64 (IntKind.wrap IntKind.i64 (n17 + n18) + n19) == (0 : Int)) = false →
  h7 [Value.bool false] w25)) ∧
  ((IntKind.wrap IntKind.i64 (n15 + n16) == (0 : Int)) = false → h7 [Value.bool false] w22)) ∧
  ∀ (w27 : World) (b6 : Bool)
  (v182 v183 v184 v185 v186 v187 v188 v189 v190 v191 v192 v193 v194 v195 v196 v197 v198 v199 v200 v201 : Value),
  h7 [Value.bool b6] w27 → K (Value.bool b6) w27))
theorem cortadolaw14_ExactTells_eq (n : Int) (q : Option Addr) (l c : Nat) (w : World) (K : Value → World → Prop) : fw Try.prog Try.f9 (annL [(2, [(4, none), (7, some 3), (8, none), (9, none), (10, none), (11, none), (12, none), (23, none), (24, none), (25, none), (26, none), (27, none), (28, none), (29, none), (30, none), (31, none), (32, none), (33, none), (34, none), (35, none), (36, none), (37, none), (38, none), (39, none), (40, none), (41, none), (42, none), (43, none), (44, none), (45, none), (46, none), (47, none), (48, none), (49, none), (50, none), (51, none), (52, none), (53, none), (54, none), (55, none), (56, none), (57, none), (58, none), (59, none), (60, none), (61, none), (62, none), (63, none), (64, none), (65, none), (66, none), (67, none), (68, none), (69, none), (70, none), (71, none), (72, none), (73, none), (74, none), (75, none), (76, none), (77, none), (78, none), (79, none), (80, none), (81, none), (82, none), (83, none), (84, none), (85, none), (86, none), (87, none), (88, none), (89, none), (90, none), (91, none), (92, none), (93, none)]), (7, [(4, none), (8, some 3), (9, some 3), (10, none), (11, none), (12, none), (42, none), (43, none), (44, none), (45, none), (46, none), (47, none), (48, none), (49, none), (50, none), (51, none), (52, none), (53, none), (54, none), (55, none), (56, none), (57, none), (58, none), (59, none), (60, none), (61, none), (62, none), (63, none), (64, none), (65, none), (66, none), (67, none), (68, none), (69, none), (70, none), (71, none), (72, none), (73, none), (74, none), (75, none), (76, none), (77, none), (78, none), (79, none), (80, none), (81, none), (82, none), (83, none), (84, none), (85, none), (86, none), (87, none), (88, none), (89, none)]), (12, [(11, some 4), (12, some 3), (66, none), (67, none), (68, none), (69, none), (70, none), (71, none), (72, none), (73, none), (74, none), (75, none), (76, none), (77, none), (78, none), (79, none), (80, none), (81, none), (82, none)]), (15, [(8, some 3), (88, none), (89, none)])]) (ordL [(9, [(0, 0), (2, 0), (3, 0), (4, 0), (5, 0), (1, 3), (6, 0)]), (15, [(0, 0), (1, 0), (2, 0), (3, 0), (4, 0), (5, 0), (6, 0), (7, 0), (8, 1), (9, 3), (10, 0)]), (2000022, [(11, 5), (71, 0), (72, 0), (73, 0), (74, 0), (75, 0), (76, 0), (77, 0), (78, 0), (79, 0), (80, 0), (81, 0), (82, 0)]), (22, [(0, 0), (1, 0), (2, 0), (3, 0), (4, 0), (6, 0), (7, 0), (8, 0), (5, 1), (9, 1), (10, 0), (11, 0), (12, 0)]), (2000023, [(83, 0), (84, 0), (85, 0), (86, 0), (87, 5)]), (2000032, [(4, 5), (103, 0), (104, 0), (105, 0), (106, 0), (107, 0), (108, 0), (109, 0), (110, 0), (111, 0), (112, 0), (113, 0), (114, 0), (115, 0), (116, 0), (117, 0), (118, 0), (119, 0), (120, 0), (121, 0), (122, 0)])]) [.int .i64 n, .slice q l c] w K = cortadolaw14_ExactTells_m n q l c w K := by kernel_rfl
theorem cortadolaw14_ExactTells_go (n : Int) (q : Option Addr) (l c : Nat) {w : World} {K : Value → World → Prop} (h : cortadolaw14_ExactTells_m n q l c w K) : Rets Try.prog 9 #[.int .i64 n, .slice q l c] w K :=
  calls_of_fw plain mixed Try.func9 (by kernel_rfl) (by rw [cortadolaw14_ExactTells_eq]; exact h)
end Go.Proofs.Ytkcaeknkfgpnhaa.Eng
