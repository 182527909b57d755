/- What the code of these functions asks for: printed by a program of this session's (gens.py) out of the seat's own functions; the kernel checks each row. -/
import Derived.Test.YtppkeemdbhmkgaaEngH
import Derived.Test.YtppkeemdbhmkgaaProg
import Derived.Test.YtppkeemdbhmkgaaBase
namespace Go.Proofs.Ytppkeemdbhmkgaa.Eng
open Go Go.Proofs
set_option linter.unusedVariables false
set_option maxRecDepth 1000000
def cortadolaw27_awake_m  (w : World) (K : Value → World → Prop) : Prop :=
  Rets Try.prog (19 : Nat)
  { toList := [Value.int IntKind.i64 (1 : Int), Value.int IntKind.i64 (2 : Int), Value.int IntKind.i64 (1 : Int)] } w
  fun (v1 : Value) (w1 : World) =>
  ∃ (q1 : Option Addr),
  v1 = Value.pointer q1 ∧
  Rets Try.prog (13 : Nat)
  { toList := [Value.pointer q1, Value.int IntKind.i64 (0 : Int), Value.int IntKind.i64 (1 : Int)] } w1
  fun (v2 : Value) (w2 : World) =>
  ∃ (n1 : Int),
  v2 = Value.int IntKind.i64 n1 ∧
  ((n1 == (0 : Int)) = true →
  Rets Try.prog (13 : Nat)
  { toList := [Value.pointer q1, Value.int IntKind.i64 (0 : Int), Value.int IntKind.i64 (2 : Int)] } w2
  fun (v3 : Value) (w3 : World) =>
  ∃ (n2 : Int),
  v3 = Value.int IntKind.i64 n2 ∧
  ((n2 == (1 : Int)) = true →
  Rets Try.prog (13 : Nat)
  { toList := [Value.pointer q1, Value.int IntKind.i64 (0 : Int), Value.int IntKind.i64 (3 : Int)] } w3
  fun (v4 : Value) (w4 : World) =>
  ∃ (n3 : Int),
  v4 = Value.int IntKind.i64 n3 ∧
  ((n3 == (0 : Int)) = true →
  Rets Try.prog (13 : Nat)
  { toList := [Value.pointer q1, Value.int IntKind.i64 (0 : Int), Value.int IntKind.i64 (4 : Int)] } w4
  fun (v5 : Value) (w5 : World) => ∃ (n4 : Int), v5 = Value.int IntKind.i64 n4 ∧ K (Value.bool (n4 == (2 : Int))) w5) ∧
  ((n3 == (0 : Int)) = false → K (Value.bool false) w4)) ∧
  ((n2 == (1 : Int)) = false → K (Value.bool false) w3)) ∧
  ((n1 == (0 : Int)) = false → K (Value.bool false) w2)
theorem cortadolaw27_awake_eq  (w : World) (K : Value → World → Prop) : fw Try.prog Try.f4 (annL []) (ordL []) [] w K = cortadolaw27_awake_m  w K := by kernel_rfl
theorem cortadolaw27_awake_go  {w : World} {K : Value → World → Prop} (h : cortadolaw27_awake_m  w K) : Rets Try.prog 4 #[] w K :=
  calls_of_fw plain mixed Try.func4 (by kernel_rfl) (by rw [cortadolaw27_awake_eq]; exact h)
def cortadolaw27_StripeOrder_m (b : Int) (q : Option Addr) (l c : Nat) (w : World) (K : Value → World → Prop) : Prop :=
  (decide ((↑l : Int) > (80 : Int)) = true →
  Rets Try.prog (4 : Nat) { toList := [] } w fun (v1 : Value) (w1 : World) =>
  ∃ (b1 : Bool), v1 = Value.bool b1 ∧ K (Value.bool b1) w1) ∧
  (decide ((↑l : Int) > (80 : Int)) = false →
  Rets Try.prog (5 : Nat)
  { toList := [Value.int IntKind.i64 (2 : Int), Value.int IntKind.i64 b, Value.int IntKind.i64 (100 : Int)] } w
  fun (v2 : Value) (w2 : World) =>
  ∃ (q1 : Option Addr),
  v2 = Value.pointer q1 ∧
  ∃ (h1 : Nat → List Value → World → Prop),
  (∃ (k1 : Nat), h1 k1 [Value.int IntKind.i64 (0 : Int), Value.int IntKind.i64 (0 : Int)] w2) ∧
  ∀ (k2 : Nat) (w3 : World) (v3 : Value) (n1 n2 : Int)
  (v4 v5 v6 v7 v8 v9 v10 v11 v12 v13 v14 v15 v16 v17 v18 v19 v20 v21 v22 v23 v24 v25 v26 v27 v28 v29 v30 v31 v32 v33 v34
  v35 v36 v37 v38 v39 v40 v41 : Value),
  h1 k2 [Value.int IntKind.i64 n1, Value.int IntKind.i64 n2] w3 →
  (decide (n2 < (↑l : Int)) = true →
  (0 : Int) ≤ n2 ∧
  n2 < (↑l : Int) ∧
  someR q fun (a1 : Addr) =>
  ∃ (s1 : ByteArray),
  cellAt w3 (Addr.add a1 (Int.toNat n2 * (1 : Nat))) (Value.string s1) ∧
  Rets Try.prog (6 : Nat) { toList := [Value.pointer q1, Value.int IntKind.i64 (0 : Int), Value.string s1] } w3
  fun (v42 : Value) (w4 : World) =>
  ∃ (n3 : Int),
  v42 = Value.int IntKind.i64 n3 ∧
  ((n3 != (0 : Int)) = true →
  ((n3 != (1 : Int)) = false →
  maxI (1 : Int) (minI b (16 : Int)) ≠ (0 : Int) ∧
  ((!(n3 == (1 : Int)) ==
  (Int.tmod (IntKind.wrap IntKind.i64 (n2 + (1 : Int))) (maxI (1 : Int) (minI b (16 : Int))) == (0 : Int))) =
  true →
  K (Value.bool false) w4) ∧
  ((!(n3 == (1 : Int)) ==
  (Int.tmod (IntKind.wrap IntKind.i64 (n2 + (1 : Int))) (maxI (1 : Int) (minI b (16 : Int))) == (0 : Int))) =
  false →
  (decide (n1 < IntKind.wrap IntKind.i64 (maxI (1 : Int) (minI b (16 : Int)) - (1 : Int))) = true →
  Rets Try.prog (6 : Nat)
  { toList := [Value.pointer q1, Value.int IntKind.i64 (1 : Int), Value.string { data := #[(120 : UInt8)] }] } w4
  fun (v43 : Value) (w5 : World) =>
  ∃ (n4 : Int),
  v43 = Value.int IntKind.i64 n4 ∧
  ((n4 != (0 : Int)) = true → K (Value.bool false) w5) ∧
  ((n4 != (0 : Int)) = false →
  ∃ (k3 : Nat),
  k3 < k2 ∧
  h1 k3
  [Value.int IntKind.i64 (IntKind.wrap IntKind.i64 (n1 + (1 : Int))),
  Value.int IntKind.i64 (IntKind.wrap IntKind.i64 (n2 + (1 : Int)))]
  w5)) ∧
  (decide (n1 < IntKind.wrap IntKind.i64 (maxI (1 : Int) (minI b (16 : Int)) - (1 : Int))) = false →
  ∃ (k4 : Nat),
  k4 < k2 ∧ h1 k4 [Value.int IntKind.i64 n1, Value.int IntKind.i64 (IntKind.wrap IntKind.i64 (n2 + (1 : Int)))] w4))) ∧
  ((n3 != (1 : Int)) = true → K (Value.bool false) w4)) ∧
  ((n3 != (0 : Int)) = false →
  maxI (1 : Int) (minI b (16 : Int)) ≠ (0 : Int) ∧
  ((!(n3 == (1 : Int)) ==
  (Int.tmod (IntKind.wrap IntKind.i64 (n2 + (1 : Int))) (maxI (1 : Int) (minI b (16 : Int))) == (0 : Int))) =
  true →
  K (Value.bool false) w4) ∧
  ((!(n3 == (1 : Int)) ==
  (Int.tmod (IntKind.wrap IntKind.i64 (n2 + (1 : Int))) (maxI (1 : Int) (minI b (16 : Int))) == (0 : Int))) =
  false →
  (decide (n1 < IntKind.wrap IntKind.i64 (maxI (1 : Int) (minI b (16 : Int)) - (1 : Int))) = true →
  Rets Try.prog (6 : Nat)
  { toList := [Value.pointer q1, Value.int IntKind.i64 (1 : Int), Value.string { data := #[(120 : UInt8)] }] } w4
  fun (v44 : Value) (w6 : World) =>
  ∃ (n5 : Int),
  v44 = Value.int IntKind.i64 n5 ∧
  ((n5 != (0 : Int)) = true → K (Value.bool false) w6) ∧
  ((n5 != (0 : Int)) = false →
  ∃ (k5 : Nat),
  k5 < k2 ∧
  h1 k5
  [Value.int IntKind.i64 (IntKind.wrap IntKind.i64 (n1 + (1 : Int))),
  Value.int IntKind.i64 (IntKind.wrap IntKind.i64 (n2 + (1 : Int)))]
  w6)) ∧
  (decide (n1 < IntKind.wrap IntKind.i64 (maxI (1 : Int) (minI b (16 : Int)) - (1 : Int))) = false →
  ∃ (k6 : Nat),
  k6 < k2 ∧ h1 k6 [Value.int IntKind.i64 n1, Value.int IntKind.i64 (IntKind.wrap IntKind.i64 (n2 + (1 : Int)))] w4)))) ∧
  (decide (n2 < (↑l : Int)) = false →
  Drw w3 fun (w7 : World) =>
  maxI (1 : Int) (minI b (16 : Int)) ≠ (0 : Int) ∧
  Rets Try.prog (7 : Nat) { toList := [Value.pointer q1] } w7 fun (v45 : Value) (w8 : World) =>
  ∃ (n6 : Int),
  v45 = Value.int IntKind.i64 n6 ∧
  ((n6 != IntKind.wrap IntKind.i64 (Int.tdiv (↑l : Int) (maxI (1 : Int) (minI b (16 : Int))))) = false →
  maxI (1 : Int) (minI b (16 : Int)) ≠ (0 : Int) ∧
  Rets Try.prog (8 : Nat) { toList := [Value.pointer q1, Value.int IntKind.i64 (0 : Int)] } w8
  fun (v46 : Value) (w9 : World) =>
  ∃ (n7 : Int),
  v46 = Value.int IntKind.i64 n7 ∧
  ((n7 != Int.tmod (↑l : Int) (maxI (1 : Int) (minI b (16 : Int)))) = false →
  Rets Try.prog (8 : Nat) { toList := [Value.pointer q1, Value.int IntKind.i64 (1 : Int)] } w9
  fun (v47 : Value) (w10 : World) =>
  ∃ (n8 : Int),
  v47 = Value.int IntKind.i64 n8 ∧
  ((n8 != n1) = true → K (Value.bool false) w10) ∧
  ((n8 != n1) = false →
  ∃ (h2 : Nat → List Value → World → Prop),
  (∃ (k7 : Nat), h2 k7 [Value.int IntKind.i64 (0 : Int), Value.int IntKind.i64 (0 : Int)] w10) ∧
  ∀ (k8 : Nat) (w11 : World) (v48 : Value) (n9 n10 : Int)
  (v49 v50 v51 v52 v53 v54 v55 v56 v57 v58 v59 v60 v61 v62 v63 v64 v65 v66 v67 v68 v69 v70 v71 v72 v73 v74 v75 v76 v77 v78
  v79 v80 v81 v82 v83 v84 v85 v86 v87 v88 v89 v90 v91 v92 : Value),
  h2 k8 [Value.int IntKind.i64 n9, Value.int IntKind.i64 n10] w11 →
  maxI (1 : Int) (minI b (16 : Int)) ≠ (0 : Int) ∧
  (decide (n10 < IntKind.wrap IntKind.i64 (Int.tdiv (↑l : Int) (maxI (1 : Int) (minI b (16 : Int))))) = true →
  Rets Try.prog (9 : Nat) { toList := [Value.pointer q1] } w11 fun (v93 : Value) (w12 : World) =>
  ∃ (q2 : Option Addr),
  ∃ (k9 : Nat),
  ∃ (k10 : Nat),
  ∃ (b2 : Bool),
  v93 = Value.tuple { toList := [Value.slice q2 k9 k10, Value.bool b2] } ∧
  ((!b2) = false →
  (((↑k9 : Int) != maxI (1 : Int) (minI b (16 : Int))) = true → K (Value.bool false) w12) ∧
  (((↑k9 : Int) != maxI (1 : Int) (minI b (16 : Int))) = false →
  ∃ (h3 : Nat → List Value → World → Prop),
  (∃ (k11 : Nat), h3 k11 [Value.int IntKind.i64 n9, Value.int IntKind.i64 (0 : Int)] w12) ∧
  ∀ (k12 : Nat) (w13 : World) (v94 : Value) (n11 n12 : Int)
  (v95 v96 v97 v98 v99 v100 v101 v102 v103 v104 v105 v106 v107 v108 v109 v110 : Value),
  h3 k12 [Value.int IntKind.i64 n11, Value.int IntKind.i64 n12] w13 →
  (decide (n12 < maxI (1 : Int) (minI b (16 : Int))) = true →
  Drw w13 fun (w14 : World) =>
  (0 : Int) ≤ n12 ∧
  n12 < (↑k9 : Int) ∧
  someR q2 fun (a2 : Addr) =>
  (0 : Int) ≤ n11 ∧
  n11 < (↑l : Int) ∧
  someR q fun (a3 : Addr) =>
  ∃ (s2 : ByteArray),
  cellAt w14 (Addr.add a2 (Int.toNat n12 * (1 : Nat))) (Value.string s2) ∧
  ∃ (s3 : ByteArray),
  cellAt w14 (Addr.add a3 (Int.toNat n11 * (1 : Nat))) (Value.string s3) ∧
  ((!ByteArray.toList s2 == ByteArray.toList s3) = true → K (Value.bool false) w14) ∧
  ((!ByteArray.toList s2 == ByteArray.toList s3) = false →
  ∃ (k13 : Nat),
  k13 < k12 ∧
  h3 k13
  [Value.int IntKind.i64 (IntKind.wrap IntKind.i64 (n11 + (1 : Int))),
  Value.int IntKind.i64 (IntKind.wrap IntKind.i64 (n12 + (1 : Int)))]
  w14)) ∧
  (decide (n12 < maxI (1 : Int) (minI b (16 : Int))) = false →
  Rets Try.prog (10 : Nat) { toList := [Value.pointer q1, Value.slice q2 k9 k10] } w13 fun (v111 : Value) (w15 : World) =>
  ∃ (b3 : Bool),
  v111 = Value.bool b3 ∧
  ((!b3) = true → K (Value.bool false) w15) ∧
  ((!b3) = false →
  ∃ (k14 : Nat),
  k14 < k8 ∧
  h2 k14 [Value.int IntKind.i64 n11, Value.int IntKind.i64 (IntKind.wrap IntKind.i64 (n10 + (1 : Int)))] w15)))) ∧
  ((!b2) = true → K (Value.bool false) w12)) ∧
  (decide (n10 < IntKind.wrap IntKind.i64 (Int.tdiv (↑l : Int) (maxI (1 : Int) (minI b (16 : Int))))) = false →
  Rets Try.prog (11 : Nat) { toList := [Value.pointer q1] } w11 fun (v112 : Value) (w16 : World) =>
  ∃ (n13 : Int),
  v112 = Value.int IntKind.i64 n13 ∧
  ∃ (h4 : Nat → List Value → World → Prop),
  (∃ (k15 : Nat), h4 k15 [Value.int IntKind.i64 (0 : Int)] w16) ∧
  ∀ (k16 : Nat) (w17 : World) (n14 : Int) (v113 v114 v115 v116 v117 v118 v119 v120 v121 v122 v123 v124 : Value),
  h4 k16 [Value.int IntKind.i64 n14] w17 →
  maxI (1 : Int) (minI b (16 : Int)) ≠ (0 : Int) ∧
  (decide
  (n14 <
  IntKind.wrap IntKind.i64
  (IntKind.wrap IntKind.i64 (Int.tdiv (↑l : Int) (maxI (1 : Int) (minI b (16 : Int)))) *
  maxI (1 : Int) (minI b (16 : Int)))) =
  true →
  Rets Try.prog (6 : Nat)
  { toList := [Value.pointer q1, Value.int IntKind.i64 (1 : Int), Value.string { data := #[(121 : UInt8)] }] } w17
  fun (v125 : Value) (w18 : World) =>
  ∃ (n15 : Int),
  v125 = Value.int IntKind.i64 n15 ∧
  ∃ (k17 : Nat), k17 < k16 ∧ h4 k17 [Value.int IntKind.i64 (IntKind.wrap IntKind.i64 (n14 + (1 : Int)))] w18) ∧
  (decide
  (n14 <
  IntKind.wrap IntKind.i64
  (IntKind.wrap IntKind.i64 (Int.tdiv (↑l : Int) (maxI (1 : Int) (minI b (16 : Int)))) *
  maxI (1 : Int) (minI b (16 : Int)))) =
  false →
  Rets Try.prog (12 : Nat) { toList := [Value.pointer none] } w17 fun (v126 : Value) (w19 : World) =>
  ∃ (q3 : Option Addr),
  ∃ (k18 : Nat),
  ∃ (k19 : Nat),
  ∃ (b4 : Bool),
  v126 = Value.tuple { toList := [Value.slice q3 k18 k19, Value.bool b4] } ∧
  Rets Try.prog (11 : Nat) { toList := [Value.pointer q1] } w19 fun (v127 : Value) (w20 : World) =>
  ∃ (n16 : Int),
  v127 = Value.int IntKind.i64 n16 ∧
  (decide (n16 ≤ IntKind.wrap IntKind.i64 (n13 + (1 : Int))) = true →
  ((!b4) = true →
  Rets Try.prog (13 : Nat)
  { toList := [Value.pointer none, Value.int IntKind.i64 (0 : Int), Value.int IntKind.i64 (1 : Int)] } w20
  fun (v128 : Value) (w21 : World) =>
  ∃ (n17 : Int),
  v128 = Value.int IntKind.i64 n17 ∧
  ((n17 == (2 : Int)) = true →
  Rets Try.prog (14 : Nat) { toList := [Value.pointer none, Value.slice none (0 : Nat) (0 : Nat)] } w21
  fun (v129 : Value) (w22 : World) =>
  ∃ (b5 : Bool),
  v129 = Value.bool b5 ∧
  ((!b5) = true →
  Rets Try.prog (15 : Nat) { toList := [Value.pointer none] } w22 fun (v130 : Value) (w23 : World) =>
  ∃ (n18 : Int),
  v130 = Value.int IntKind.i64 n18 ∧
  Rets Try.prog (16 : Nat) { toList := [Value.pointer none, Value.int IntKind.i64 (0 : Int)] } w23
  fun (v131 : Value) (w24 : World) =>
  ∃ (n19 : Int),
  v131 = Value.int IntKind.i64 n19 ∧
  Rets Try.prog (17 : Nat) { toList := [Value.pointer none] } w24 fun (v132 : Value) (w25 : World) =>
  ∃ (n20 : Int),
  v132 = Value.int IntKind.i64 n20 ∧
  Rets Try.prog (18 : Nat) { toList := [Value.pointer none] } w25 fun (v133 : Value) (w26 : World) =>
  ∃ (n21 : Int),
  v133 = Value.int IntKind.i64 n21 ∧
  ((IntKind.wrap IntKind.i64 (IntKind.wrap IntKind.i64 (IntKind.wrap IntKind.i64 (n18 + n19) + n20) + n21) == (0 : Int)) =
  true →
  Rets Try.prog (4 : Nat) { toList := [] } w26 fun (v134 : Value) (w27 : World) =>
  ∃ (b6 : Bool), v134 = Value.bool b6 ∧ K (Value.bool b6) w27) ∧
  ((IntKind.wrap IntKind.i64 (IntKind.wrap IntKind.i64 (IntKind.wrap IntKind.i64 (n18 + n19) + n20) + n21) == (0 : Int)) =
  false →
  K (Value.bool false) w26)) ∧
  ((!b5) = false → K (Value.bool false) w22)) ∧
  ((n17 == (2 : Int)) = false → K (Value.bool false) w21)) ∧
  ((!b4) = false → K (Value.bool false) w20)) ∧
  (decide (n16 ≤ IntKind.wrap IntKind.i64 (n13 + (1 : Int))) = false → K (Value.bool false) w20))))) ∧
  ((n7 != Int.tmod (↑l : Int) (maxI (1 : Int) (minI b (16 : Int)))) = true → K (Value.bool false) w9)) ∧
  ((n6 != IntKind.wrap IntKind.i64 (Int.tdiv (↑l : Int) (maxI (1 : Int) (minI b (16 : Int))))) = true →
  K (Value.bool false) w8)))
theorem cortadolaw27_StripeOrder_eq (b : Int) (q : Option Addr) (l c : Nat) (w : World) (K : Value → World → Prop) : fw Try.prog Try.f3 (annL [(2, [(4, none), (7, some 3), (8, some 3), (9, none), (29, none), (30, none), (31, none), (32, none), (33, none), (34, none), (35, none), (36, none), (37, none), (38, none), (39, none), (40, none), (41, none), (42, none), (43, none), (44, none), (45, none), (46, none), (47, none), (48, none), (49, none), (50, none), (51, none), (52, none), (53, none), (54, none), (55, none), (56, none), (57, none), (58, none), (59, none), (60, none), (61, none), (62, none), (63, none), (64, none), (65, none)]), (10, [(4, none), (10, some 3), (11, some 3), (12, none), (13, none), (14, none), (88, none), (89, none), (90, none), (91, none), (92, none), (93, none), (94, none), (95, none), (96, none), (97, none), (98, none), (99, none), (100, none), (101, none), (102, none), (103, none), (104, none), (105, none), (106, none), (107, none), (108, none), (109, none), (110, none), (111, none), (112, none), (113, none), (114, none), (115, none), (116, none), (117, none), (118, none), (119, none), (120, none), (121, none), (122, none), (123, none), (124, none), (125, none), (126, none), (127, none), (128, none)]), (15, [(4, none), (10, some 3), (14, some 3), (109, none), (110, none), (111, none), (112, none), (113, none), (114, none), (115, none), (116, none), (117, none), (118, none), (119, none), (120, none), (121, none), (122, none), (123, none), (124, none)]), (21, [(16, some 3), (131, none), (132, none), (133, none), (134, none), (135, none), (136, none), (137, none), (138, none), (139, none), (140, none), (141, none), (142, none)])]) (ordL [(16, [(0, 0), (2, 0), (3, 0), (4, 0), (5, 0), (1, 3), (6, 0), (7, 0), (8, 0), (10, 0), (11, 0), (12, 0), (13, 0), (9, 3), (14, 0), (15, 0), (16, 0), (17, 0), (19, 0), (18, 3), (20, 0), (21, 0)]), (28, [(0, 0), (1, 0), (2, 0), (4, 0), (5, 0), (6, 0), (3, 1), (7, 1), (8, 0)])]) [.int .i64 b, .slice q l c] w K = cortadolaw27_StripeOrder_m b q l c w K := by kernel_rfl
theorem cortadolaw27_StripeOrder_go (b : Int) (q : Option Addr) (l c : Nat) {w : World} {K : Value → World → Prop} (h : cortadolaw27_StripeOrder_m b q l c w K) : Rets Try.prog 3 #[.int .i64 b, .slice q l c] w K :=
  calls_of_fw plain mixed Try.func3 (by kernel_rfl) (by rw [cortadolaw27_StripeOrder_eq]; exact h)
end Go.Proofs.Ytppkeemdbhmkgaa.Eng
