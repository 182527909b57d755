/- What the code of these functions asks for: printed by a program of this session's (gens.py) out of the seat's own functions; the kernel checks each row. -/
import Derived.Test.YtajckpjlliiekaaDoorEngH
import Derived.Test.YtajckpjlliiekaaDoorProg
import Derived.Test.YtajckpjlliiekaaDoorBase
namespace Go.Proofs.YtajckpjlliiekaaDoor.Eng
open Go Go.Proofs
set_option linter.unusedVariables false
set_option maxRecDepth 1000000
def cortadolaw26_PolicyAdmits_m (n : Int) (q : Option Addr) (l c : Nat) (m : Int) (w : World) (K : Value → World → Prop) : Prop :=
  ∃ (h1 : List Value → World → Prop),
  ((decide ((↑l : Int) > (12 : Int)) = false →
  (decide (n < (1 : Int)) = false → h1 [Value.bool (decide (n > (1000 : Int)))] w) ∧
  (decide (n < (1 : Int)) = true → h1 [Value.bool true] w)) ∧
  (decide ((↑l : Int) > (12 : Int)) = true → h1 [Value.bool true] w)) ∧
  ∀ (w1 : World) (v1 v2 v3 v4 v5 v6 v7 v8 v9 v10 : Value) (b1 : Bool),
  h1 [Value.bool b1] w1 →
  (b1 = true →
  Rets Tryd.prog (22 : Nat) { toList := [] } w1 fun (v11 : Value) (w2 : World) =>
  ∃ (b2 : Bool), v11 = Value.bool b2 ∧ K (Value.bool b2) w2) ∧
  (b1 = false →
  Rets Tryd.prog (23 : Nat)
  { toList := [Value.int IntKind.i64 n, Value.int IntKind.i64 (4096 : Int), Value.int IntKind.u64 (5 : Int)] } w1
  fun (v12 : Value) (w3 : World) =>
  ∃ (q1 : Option Addr),
  v12 = Value.pointer q1 ∧
  Rets Tryd.prog (11 : Nat)
  { toList := [Value.slice none (0 : Nat) (0 : Nat), Value.int IntKind.u64 (IntKind.wrap IntKind.u64 (↑l : Int))] } w3
  fun (v13 : Value) (w4 : World) =>
  ∃ (q2 : Option Addr),
  v13 = Value.pointer q2 ∧
  ∃ (h2 : Nat → List Value → World → Prop),
  (∃ (k1 : Nat), h2 k1 [Value.int IntKind.i64 (0 : Int)] w4) ∧
  ∀ (k2 : Nat) (w5 : World) (n1 : Int)
  (v14 v15 v16 v17 v18 v19 v20 v21 v22 v23 v24 v25 v26 v27 v28 v29 v30 v31 v32 v33 v34 v35 v36 v37 v38 v39 v40 v41 v42 :
  Value),
  h2 k2 [Value.int IntKind.i64 n1] w5 →
  (decide (n1 < (↑l : Int)) = true →
  Rets Tryd.prog (24 : Nat)
  {
  toList :=
  [Value.pointer q1, Value.int IntKind.u64 (IntKind.wrap IntKind.u64 (IntKind.wrap IntKind.i64 (n1 + (1 : Int)))),
  Value.int IntKind.i64 (1 : Int), Value.pointer q2] }
  w5 fun (v43 : Value) (w6 : World) =>
  ∃ (q3 : Option Addr),
  ∃ (k3 : Nat),
  ∃ (k4 : Nat),
  ∃ (b3 : Bool),
  v43 = Value.tuple { toList := [Value.slice q3 k3 k4, Value.bool b3] } ∧
  ∃ (h3 : Nat → List Value → World → Prop),
  (∃ (k5 : Nat), h3 k5 [Value.int IntKind.i64 (0 : Int)] w6) ∧
  ∀ (k6 : Nat) (w7 : World) (n2 : Int) (v44 v45 v46 v47 v48 v49 v50 v51 v52 v53 v54 v55 v56 v57 v58 v59 : Value),
  h3 k6 [Value.int IntKind.i64 n2] w7 →
  (0 : Int) ≤ n1 ∧
  n1 < (↑l : Int) ∧
  someR q fun (a1 : Addr) =>
  ∃ (n3 : Int),
  cellAt w7 (Addr.add a1 (Int.toNat n1 * (1 : Nat))) (Value.int IntKind.u64 n3) ∧
  (12 : Int) ≠ (0 : Int) ∧
  (decide (n2 < IntKind.wrap IntKind.i64 (Int.tmod n3 (12 : Int))) = true →
  NewR (32 : Nat) [Value.int IntKind.u64 (IntKind.wrap IntKind.u64 (IntKind.wrap IntKind.i64 (n1 + (1 : Int))))] w7
  fun (a2 : Addr) (w8 : World) =>
  Rets Tryd.prog (25 : Nat) { toList := [Value.pointer q1, Value.slice (some a2) (1 : Nat) (1 : Nat)] } w8
  fun (v60 : Value) (w9 : World) =>
  v60 = Value.tuple { toList := [] } ∧
  ∃ (k7 : Nat), k7 < k6 ∧ h3 k7 [Value.int IntKind.i64 (IntKind.wrap IntKind.i64 (n2 + (1 : Int)))] w9) ∧
  (decide (n2 < IntKind.wrap IntKind.i64 (Int.tmod n3 (12 : Int))) = false →
  ∃ (k8 : Nat), k8 < k2 ∧ h2 k8 [Value.int IntKind.i64 (IntKind.wrap IntKind.i64 (n1 + (1 : Int)))] w7)) ∧
  (decide (n1 < (↑l : Int)) = false →
  ∃ (h4 : Nat → List Value → World → Prop),
  (∃ (k9 : Nat),
  h4 k9 [Value.int IntKind.i64 (0 : Int), Value.int IntKind.i64 (99 : Int), Value.int IntKind.i64 (0 : Int)] w5) ∧
  ∀ (k10 : Nat) (w10 : World) (n4 n5 n6 : Int)
  (v61 v62 v63 v64 v65 v66 v67 v68 v69 v70 v71 v72 v73 v74 v75 v76 v77 v78 v79 v80 v81 v82 v83 v84 v85 v86 v87 v88 v89 v90
  v91 v92 : Value),
  h4 k10 [Value.int IntKind.i64 n4, Value.int IntKind.i64 n5, Value.int IntKind.i64 n6] w10 →
  (decide (n6 < (↑l : Int)) = true →
  Rets Tryd.prog (26 : Nat) { toList := [Value.pointer q1] } w10 fun (v93 : Value) (w11 : World) =>
  ∃ (q4 : Option Addr),
  v93 = Value.pointer q4 ∧
  Rets Tryd.prog (12 : Nat)
  {
  toList :=
  [Value.pointer q4, Value.int IntKind.u64 (IntKind.wrap IntKind.u64 (IntKind.wrap IntKind.i64 (n6 + (1 : Int))))] }
  w11 fun (v94 : Value) (w12 : World) =>
  ∃ (n7 : Int),
  ∃ (b4 : Bool),
  v94 = Value.tuple { toList := [Value.int IntKind.i64 n7, Value.bool b4] } ∧
  ∃ (h5 : List Value → World → Prop),
  ((b4 = true →
  Rets Tryd.prog (27 : Nat)
  {
  toList :=
  [Value.pointer q1, Value.int IntKind.u64 (IntKind.wrap IntKind.u64 (IntKind.wrap IntKind.i64 (n6 + (1 : Int))))] }
  w12 fun (v95 : Value) (w13 : World) =>
  ∃ (n8 : Int),
  v95 = Value.int IntKind.i64 n8 ∧
  Rets Tryd.prog (27 : Nat)
  {
  toList :=
  [Value.pointer q1, Value.int IntKind.u64 (IntKind.wrap IntKind.u64 (IntKind.wrap IntKind.i64 (n6 + (1 : Int))))] }
  w13 fun (v96 : Value) (w14 : World) =>
  ∃ (n9 : Int),
  v96 = Value.int IntKind.i64 n9 ∧ h5 [Value.int IntKind.i64 (maxI n4 n8), Value.int IntKind.i64 (minI n5 n9)] w14) ∧
  (b4 = false → h5 [Value.int IntKind.i64 n4, Value.int IntKind.i64 n5] w12)) ∧
  ∀ (w15 : World) (n10 n11 : Int) (v97 v98 v99 v100 v101 v102 v103 v104 v105 v106 v107 v108 v109 v110 : Value),
  h5 [Value.int IntKind.i64 n10, Value.int IntKind.i64 n11] w15 →
  ∃ (k11 : Nat),
  k11 < k10 ∧
  h4 k11
  [Value.int IntKind.i64 n10, Value.int IntKind.i64 n11,
  Value.int IntKind.i64 (IntKind.wrap IntKind.i64 (n6 + (1 : Int)))]
  w15) ∧
  (decide (n6 < (↑l : Int)) = false →
  Rets Tryd.prog (26 : Nat) { toList := [Value.pointer q1] } w10 fun (v111 : Value) (w16 : World) =>
  ∃ (q5 : Option Addr),
  v111 = Value.pointer q5 ∧
  Rets Tryd.prog (28 : Nat) { toList := [Value.pointer q5] } w16 fun (v112 : Value) (w17 : World) =>
  ∃ (n12 : Int),
  v112 = Value.int IntKind.i64 n12 ∧
  Rets Tryd.prog (27 : Nat) { toList := [Value.pointer q1, Value.int IntKind.u64 (777 : Int)] } w17
  fun (v113 : Value) (w18 : World) =>
  ∃ (n13 : Int),
  v113 = Value.int IntKind.i64 n13 ∧
  Rets Tryd.prog (24 : Nat)
  { toList := [Value.pointer q1, Value.int IntKind.u64 (777 : Int), Value.int IntKind.i64 m, Value.pointer q2] } w18
  fun (v114 : Value) (w19 : World) =>
  ∃ (q6 : Option Addr),
  ∃ (k12 : Nat),
  ∃ (k13 : Nat),
  ∃ (b5 : Bool),
  v114 = Value.tuple { toList := [Value.slice q6 k12 k13, Value.bool b5] } ∧
  ∃ (h6 : List Value → World → Prop),
  ((decide (m ≥ (0 : Int)) = true →
  (decide (m ≤ n) = true →
  (decide (n13 ≥ n4) = true →
  ((!b5) = false →
  (decide (m < (0 : Int)) = false →
  (decide (m > n) = true →
  (b5 = false → h6 [Value.bool (decide ((↑k12 : Int) > (0 : Int)))] w19) ∧ (b5 = true → h6 [Value.bool true] w19)) ∧
  (decide (m > n) = false → h6 [Value.bool false] w19)) ∧
  (decide (m < (0 : Int)) = true →
  (b5 = false → h6 [Value.bool (decide ((↑k12 : Int) > (0 : Int)))] w19) ∧ (b5 = true → h6 [Value.bool true] w19))) ∧
  ((!b5) = true → h6 [Value.bool true] w19)) ∧
  (decide (n13 ≥ n4) = false →
  (decide (m < (0 : Int)) = false →
  (decide (m > n) = true →
  (b5 = false → h6 [Value.bool (decide ((↑k12 : Int) > (0 : Int)))] w19) ∧ (b5 = true → h6 [Value.bool true] w19)) ∧
  (decide (m > n) = false → h6 [Value.bool false] w19)) ∧
  (decide (m < (0 : Int)) = true →
  (b5 = false → h6 [Value.bool (decide ((↑k12 : Int) > (0 : Int)))] w19) ∧ (b5 = true → h6 [Value.bool true] w19)))) ∧
  (decide (m ≤ n) = false →
  (decide (m < (0 : Int)) = false →
  (decide (m > n) = true →
  (b5 = false → h6 [Value.bool (decide ((↑k12 : Int) > (0 : Int)))] w19) ∧ (b5 = true → h6 [Value.bool true] w19)) ∧
  (decide (m > n) = false → h6 [Value.bool false] w19)) ∧
  (decide (m < (0 : Int)) = true →
  (b5 = false → h6 [Value.bool (decide ((↑k12 : Int) > (0 : Int)))] w19) ∧ (b5 = true → h6 [Value.bool true] w19)))) ∧
  (decide (m ≥ (0 : Int)) = false →
  (decide (m < (0 : Int)) = false →
  (decide (m > n) = true →
  (b5 = false → h6 [Value.bool (decide ((↑k12 : Int) > (0 : Int)))] w19) ∧ (b5 = true → h6 [Value.bool true] w19)) ∧
  (decide (m > n) = false → h6 [Value.bool false] w19)) ∧
  (decide (m < (0 : Int)) = true →
  (b5 = false → h6 [Value.bool (decide ((↑k12 : Int) > (0 : Int)))] w19) ∧ (b5 = true → h6 [Value.bool true] w19)))) ∧
  ∀ (w20 : World)
  (v115 v116 v117 v118 v119 v120 v121 v122 v123 v124 v125 v126 v127 v128 v129 v130 v131 v132 v133 v134 v135 v136 v137 v138
  v139 v140 v141 v142 v143 v144 v145 v146 : Value)
  (b6 : Bool),
  h6 [Value.bool b6] w20 →
  (b6 = true → K (Value.bool false) w20) ∧
  (b6 = false →
  ∃ (h7 : List Value → World → Prop),
  ((decide (m ≥ (0 : Int)) = true →
  (decide (m ≤ n) = true →
  (decide (m > IntKind.wrap IntKind.i64 (n - n12)) = true →
  (decide (n13 < n5) = true →
  (b5 = false → h7 [Value.bool (decide ((↑k12 : Int) > (0 : Int)))] w20) ∧ (b5 = true → h7 [Value.bool true] w20)) ∧
  (decide (n13 < n5) = false → h7 [Value.bool false] w20)) ∧
  (decide (m > IntKind.wrap IntKind.i64 (n - n12)) = false → h7 [Value.bool false] w20)) ∧
  (decide (m ≤ n) = false → h7 [Value.bool false] w20)) ∧
  (decide (m ≥ (0 : Int)) = false → h7 [Value.bool false] w20)) ∧
  ∀ (w21 : World)
  (v147 v148 v149 v150 v151 v152 v153 v154 v155 v156 v157 v158 v159 v160 v161 v162 v163 v164 v165 v166 v167 v168 v169 v170
  v171 v172 : Value)
  (b7 : Bool),
  h7 [Value.bool b7] w21 →
  (b7 = true → K (Value.bool false) w21) ∧
  (b7 = false →
  Rets Tryd.prog (22 : Nat) { toList := [] } w21 fun (v173 : Value) (w22 : World) =>
  ∃ (b8 : Bool), v173 = Value.bool b8 ∧ K (Value.bool b8) w22)))))
theorem cortadolaw26_PolicyAdmits_eq (n : Int) (q : Option Addr) (l c : Nat) (m : Int) (w : World) (K : Value → World → Prop) : fw Tryd.prog Tryd.f6 (annL [(2, [(10, some 3), (11, none), (38, none), (39, none), (40, none), (41, none), (42, none), (43, none), (44, none), (45, none), (46, none), (47, none), (48, none), (49, none), (50, none), (51, none), (52, none), (53, none), (54, none), (55, none), (56, none), (57, none), (58, none), (59, none), (60, none), (61, none), (62, none), (63, none), (64, none), (65, none)]), (6, [(11, some 3), (50, none), (51, none), (52, none), (53, none), (54, none), (55, none), (56, none), (57, none), (58, none), (59, none), (60, none), (61, none), (62, none), (63, none), (64, none), (65, none)]), (10, [(9, some 3), (12, some 3), (13, some 3), (14, none), (15, none), (66, none), (67, none), (68, none), (69, none), (70, none), (71, none), (72, none), (73, none), (74, none), (75, none), (76, none), (77, none), (78, none), (79, none), (80, none), (81, none), (82, none), (83, none), (84, none), (85, none), (86, none), (87, none), (88, none), (89, none), (90, none), (91, none), (92, none), (93, none), (94, none), (95, none)]), (13, [(9, some 3), (12, some 3), (82, none), (83, none), (84, none), (85, none), (86, none), (87, none), (88, none), (89, none), (90, none), (91, none), (92, none), (93, none), (94, none), (95, none)])]) (ordL [(2000001, [(20, 0), (21, 0), (22, 0), (23, 0), (24, 0), (25, 0), (26, 0), (27, 0), (28, 0), (29, 0), (30, 5)]), (2000025, [(108, 0), (109, 0), (110, 0), (111, 0), (112, 0), (113, 0), (114, 0), (115, 0), (116, 0), (117, 0), (118, 0), (119, 0), (120, 0), (121, 0), (122, 0), (123, 0), (124, 0), (125, 0), (126, 0), (127, 0), (128, 0), (129, 0), (130, 0), (131, 0), (132, 0), (133, 0), (134, 0), (135, 0), (136, 0), (137, 0), (138, 0), (139, 0), (140, 5)]), (2000027, [(141, 0), (142, 0), (143, 0), (144, 0), (145, 0), (146, 0), (147, 0), (148, 0), (149, 0), (150, 0), (151, 0), (152, 0), (153, 0), (154, 0), (155, 0), (156, 0), (157, 0), (158, 0), (159, 0), (160, 0), (161, 0), (162, 0), (163, 0), (164, 0), (165, 0), (166, 0), (167, 5)])]) [.int .i64 n, .slice q l c, .int .i64 m] w K = cortadolaw26_PolicyAdmits_m n q l c m w K := by kernel_rfl
theorem cortadolaw26_PolicyAdmits_go (n : Int) (q : Option Addr) (l c : Nat) (m : Int) {w : World} {K : Value → World → Prop} (h : cortadolaw26_PolicyAdmits_m n q l c m w K) : Rets Tryd.prog 6 #[.int .i64 n, .slice q l c, .int .i64 m] w K :=
  calls_of_fw plain mixed Tryd.func6 (by kernel_rfl) (by rw [cortadolaw26_PolicyAdmits_eq]; exact h)
end Go.Proofs.YtajckpjlliiekaaDoor.Eng
