/- What the code of these functions asks for: printed by a program of this session's (gens.py) out of the seat's own functions; the kernel checks each row. -/
import Derived.Test.YtianklbklggboaaEngH
import Derived.Test.YtianklbklggboaaProg
import Derived.Test.YtianklbklggboaaBase
namespace Go.Proofs.Ytianklbklggboaa.Eng
open Go Go.Proofs
set_option linter.unusedVariables false
set_option maxRecDepth 1000000
def cortadolaw49_awake_m  (w : World) (K : Value → World → Prop) : Prop :=
  Rets Try.prog (18 : Nat) { toList := [Value.int IntKind.i64 (2 : Int)] } w fun (v1 : Value) (w1 : World) =>
  ∃ (q1 : Option Addr),
  v1 = Value.pointer q1 ∧
  Rets Try.prog (19 : Nat)
  {
  toList :=
  [Value.pointer q1, Value.string { data := #[(97 : UInt8)] }, Value.int IntKind.i64 (1 : Int),
  Value.int IntKind.i64 (1 : Int)] }
  w1 fun (v2 : Value) (w2 : World) =>
  ∃ (q2 : Option Addr),
  ∃ (k1 : Nat),
  ∃ (k2 : Nat),
  ∃ (b1 : Bool),
  v2 = Value.tuple { toList := [Value.slice q2 k1 k2, Value.bool b1] } ∧
  Rets Try.prog (19 : Nat)
  {
  toList :=
  [Value.pointer q1, Value.string { data := #[(98 : UInt8)] }, Value.int IntKind.i64 (2 : Int),
  Value.int IntKind.i64 (1 : Int)] }
  w2 fun (v3 : Value) (w3 : World) =>
  ∃ (q3 : Option Addr),
  ∃ (k3 : Nat),
  ∃ (k4 : Nat),
  ∃ (b2 : Bool),
  v3 = Value.tuple { toList := [Value.slice q3 k3 k4, Value.bool b2] } ∧
  Rets Try.prog (20 : Nat) { toList := [Value.pointer q1, Value.string { data := #[(97 : UInt8)] }] } w3
  fun (v4 : Value) (w4 : World) =>
  ∃ (n1 : Int),
  ∃ (b3 : Bool),
  v4 = Value.tuple { toList := [Value.int IntKind.i64 n1, Value.bool b3] } ∧
  Rets Try.prog (19 : Nat)
  {
  toList :=
  [Value.pointer q1, Value.string { data := #[(99 : UInt8)] }, Value.int IntKind.i64 (3 : Int),
  Value.int IntKind.i64 (1 : Int)] }
  w4 fun (v5 : Value) (w5 : World) =>
  ∃ (q4 : Option Addr),
  ∃ (k5 : Nat),
  ∃ (k6 : Nat),
  ∃ (b4 : Bool),
  v5 = Value.tuple { toList := [Value.slice q4 k5 k6, Value.bool b4] } ∧
  (b4 = true →
  (((↑k5 : Int) == (1 : Int)) = true →
  (0 : Int) ≤ (0 : Int) ∧
  (0 : Int) < (↑k5 : Int) ∧
  someR q4 fun (a1 : Addr) =>
  ∃ (s1 : ByteArray),
  cellAt w5 (Addr.add a1 (0 : Nat)) (Value.string s1) ∧
  ((ByteArray.toList s1 == ByteArray.toList { data := #[(98 : UInt8)] }) = true →
  Rets Try.prog (21 : Nat) { toList := [Value.pointer q1] } w5 fun (v6 : Value) (w6 : World) =>
  ∃ (n2 : Int), v6 = Value.int IntKind.i64 n2 ∧ K (Value.bool (n2 == (2 : Int))) w6) ∧
  ((ByteArray.toList s1 == ByteArray.toList { data := #[(98 : UInt8)] }) = false → K (Value.bool false) w5)) ∧
  (((↑k5 : Int) == (1 : Int)) = false → K (Value.bool false) w5)) ∧
  (b4 = false → K (Value.bool false) w5)
theorem cortadolaw49_awake_eq  (w : World) (K : Value → World → Prop) : fw Try.prog Try.f5 (annL []) (ordL []) [] w K = cortadolaw49_awake_m  w K := by kernel_rfl
theorem cortadolaw49_awake_go  {w : World} {K : Value → World → Prop} (h : cortadolaw49_awake_m  w K) : Rets Try.prog 5 #[] w K :=
  calls_of_fw plain mixed Try.func5 (by kernel_rfl) (by rw [cortadolaw49_awake_eq]; exact h)
def cortadolaw49_LruIncludes_m (q : Option Addr) (l c : Nat) (room more : Int) (w : World) (K : Value → World → Prop) : Prop :=
  (decide ((↑l : Int) > (60 : Int)) = true →
  Rets Try.prog (5 : Nat) { toList := [] } w fun (v1 : Value) (w1 : World) =>
  ∃ (b1 : Bool), v1 = Value.bool b1 ∧ K (Value.bool b1) w1) ∧
  (decide ((↑l : Int) > (60 : Int)) = false →
  (12 : Int) ≠ (0 : Int) ∧
  (12 : Int) ≠ (0 : Int) ∧
  Rets Try.prog (6 : Nat) { toList := [Value.int IntKind.i64 (IntKind.wrap IntKind.i64 (Int.tmod room (12 : Int)))] } w
  fun (v2 : Value) (w2 : World) =>
  ∃ (q1 : Option Addr),
  v2 = Value.pointer q1 ∧
  Rets Try.prog (6 : Nat)
  {
  toList :=
  [Value.int IntKind.i64
  (IntKind.wrap IntKind.i64
  (IntKind.wrap IntKind.i64 (Int.tmod room (12 : Int)) + IntKind.wrap IntKind.i64 (Int.tmod more (12 : Int))))] }
  w2 fun (v3 : Value) (w3 : World) =>
  ∃ (q2 : Option Addr),
  v3 = Value.pointer q2 ∧
  ∃ (h1 : Nat → List Value → World → Prop),
  (∃ (k1 : Nat), h1 k1 [Value.int IntKind.i64 (0 : Int)] w3) ∧
  ∀ (k2 : Nat) (w4 : World) (v4 : Value) (n1 : Int)
  (v5 v6 v7 v8 v9 v10 v11 v12 v13 v14 v15 v16 v17 v18 v19 v20 v21 v22 v23 v24 v25 v26 v27 v28 v29 v30 v31 v32 v33 v34 v35
  v36 v37 v38 v39 v40 v41 v42 v43 v44 v45 v46 v47 v48 v49 v50 v51 v52 v53 v54 v55 v56 v57 v58 v59 v60 v61 v62 v63 v64 v65
  v66 v67 v68 v69 v70 v71 v72 v73 v74 v75 v76 v77 v78 v79 v80 v81 v82 v83 v84 v85 v86 v87 v88 v89 v90 v91 v92 v93 v94 v95
  v96 v97 v98 : Value),
  h1 k2 [Value.int IntKind.i64 n1] w4 →
  (decide (n1 < (↑l : Int)) = true →
  (0 : Int) ≤ n1 ∧
  n1 < (↑l : Int) ∧
  someR q fun (a1 : Addr) =>
  ∃ (n2 : Int),
  cellAt w4 (Addr.add a1 (Int.toNat n1 * (1 : Nat))) (Value.int IntKind.i64 n2) ∧
  Rets Try.prog (7 : Nat) { toList := [Value.pointer q1, Value.int IntKind.i64 n2] } w4 fun (v99 : Value) (w5 : World) =>
  ∃ (n3 : Int),
  ∃ (b2 : Bool),
  v99 = Value.tuple { toList := [Value.int IntKind.i64 n3, Value.bool b2] } ∧
  (0 : Int) ≤ n1 ∧
  n1 < (↑l : Int) ∧
  someR q fun (a2 : Addr) =>
  ∃ (n4 : Int),
  cellAt w5 (Addr.add a2 (Int.toNat n1 * (1 : Nat))) (Value.int IntKind.i64 n4) ∧
  Rets Try.prog (7 : Nat) { toList := [Value.pointer q2, Value.int IntKind.i64 n4] } w5 fun (v100 : Value) (w6 : World) =>
  ∃ (n5 : Int),
  ∃ (b3 : Bool),
  v100 = Value.tuple { toList := [Value.int IntKind.i64 n5, Value.bool b3] } ∧
  ∃ (h2 : List Value → World → Prop),
  ((b2 = true → h2 [Value.bool !b3] w6) ∧ (b2 = false → h2 [Value.bool false] w6)) ∧
  ∀ (w7 : World) (v101 v102 v103 v104 : Value) (b4 : Bool),
  h2 [Value.bool b4] w7 →
  ∃ (h3 : List Value → World → Prop),
  ((b4 = true → K (Value.bool false) w7) ∧ (b4 = false → h3 [] w7)) ∧
  ∀ (w8 : World) (v105 : Value),
  h3 [] w8 →
  ∃ (h4 : List Value → World → Prop),
  (((!b2) = true →
  (0 : Int) ≤ n1 ∧
  n1 < (↑l : Int) ∧
  someR q fun (a3 : Addr) =>
  ∃ (n6 : Int),
  cellAt w8 (Addr.add a3 (Int.toNat n1 * (1 : Nat))) (Value.int IntKind.i64 n6) ∧
  Rets Try.prog (8 : Nat)
  { toList := [Value.pointer q1, Value.int IntKind.i64 n6, Value.int IntKind.i64 n1, Value.int IntKind.i64 (1 : Int)] } w8
  fun (v106 : Value) (w9 : World) =>
  ∃ (q3 : Option Addr),
  ∃ (k3 : Nat),
  ∃ (k4 : Nat), ∃ (b5 : Bool), v106 = Value.tuple { toList := [Value.slice q3 k3 k4, Value.bool b5] } ∧ h4 [] w9) ∧
  ((!b2) = false → h4 [] w8)) ∧
  ∀ (w10 : World) (v107 v108 v109 v110 v111 v112 v113 : Value),
  h4 [] w10 →
  ∃ (h5 : List Value → World → Prop),
  (((!b3) = true →
  (0 : Int) ≤ n1 ∧
  n1 < (↑l : Int) ∧
  someR q fun (a4 : Addr) =>
  ∃ (n7 : Int),
  cellAt w10 (Addr.add a4 (Int.toNat n1 * (1 : Nat))) (Value.int IntKind.i64 n7) ∧
  Rets Try.prog (8 : Nat)
  { toList := [Value.pointer q2, Value.int IntKind.i64 n7, Value.int IntKind.i64 n1, Value.int IntKind.i64 (1 : Int)] }
  w10 fun (v114 : Value) (w11 : World) =>
  ∃ (q4 : Option Addr),
  ∃ (k5 : Nat),
  ∃ (k6 : Nat), ∃ (b6 : Bool), v114 = Value.tuple { toList := [Value.slice q4 k5 k6, Value.bool b6] } ∧ h5 [] w11) ∧
  ((!b3) = false → h5 [] w10)) ∧
  ∀ (w12 : World) (v115 v116 v117 v118 v119 v120 v121 : Value),
  h5 [] w12 →
  ∃ (h6 : Nat → List Value → World → Prop),
  (∃ (k7 : Nat), h6 k7 [Value.int IntKind.i64 (0 : Int)] w12) ∧
  ∀ (k8 : Nat) (w13 : World) (v122 : Value) (n8 : Int)
  (v123 v124 v125 v126 v127 v128 v129 v130 v131 v132 v133 v134 v135 v136 v137 v138 v139 v140 v141 v142 v143 v144 v145 v146
  v147 v148 v149 v150 v151 v152 v153 v154 : Value),
  h6 k8 [Value.int IntKind.i64 n8] w13 →
  (decide (n8 ≤ n1) = true →
  (0 : Int) ≤ n8 ∧
  n8 < (↑l : Int) ∧
  someR q fun (a5 : Addr) =>
  ∃ (n9 : Int),
  cellAt w13 (Addr.add a5 (Int.toNat n8 * (1 : Nat))) (Value.int IntKind.i64 n9) ∧
  Rets Try.prog (9 : Nat) { toList := [Value.pointer q1, Value.int IntKind.i64 n9] } w13
  fun (v155 : Value) (w14 : World) =>
  ∃ (n10 : Int),
  ∃ (b7 : Bool),
  v155 = Value.tuple { toList := [Value.int IntKind.i64 n10, Value.bool b7] } ∧
  (0 : Int) ≤ n8 ∧
  n8 < (↑l : Int) ∧
  someR q fun (a6 : Addr) =>
  ∃ (n11 : Int),
  cellAt w14 (Addr.add a6 (Int.toNat n8 * (1 : Nat))) (Value.int IntKind.i64 n11) ∧
  Rets Try.prog (9 : Nat) { toList := [Value.pointer q2, Value.int IntKind.i64 n11] } w14
  fun (v156 : Value) (w15 : World) =>
  ∃ (n12 : Int),
  ∃ (b8 : Bool),
  v156 = Value.tuple { toList := [Value.int IntKind.i64 n12, Value.bool b8] } ∧
  ∃ (h7 : List Value → World → Prop),
  ((b7 = true → h7 [Value.bool !b8] w15) ∧ (b7 = false → h7 [Value.bool false] w15)) ∧
  ∀ (w16 : World) (v157 v158 v159 v160 : Value) (b9 : Bool),
  h7 [Value.bool b9] w16 →
  (b9 = true → K (Value.bool false) w16) ∧
  (b9 = false → ∃ (k9 : Nat), k9 < k8 ∧ h6 k9 [Value.int IntKind.i64 (IntKind.wrap IntKind.i64 (n8 + (1 : Int)))] w16)) ∧
  (decide (n8 ≤ n1) = false →
  ∃ (h8 : List Value → World → Prop),
  (Rets Try.prog (10 : Nat) { toList := [Value.pointer q1] } w13 fun (v161 : Value) (w17 : World) =>
  ∃ (n13 : Int),
  v161 = Value.int IntKind.i64 n13 ∧
  (decide (n13 > IntKind.wrap IntKind.i64 (Int.tmod room (12 : Int))) = false →
  Rets Try.prog (10 : Nat) { toList := [Value.pointer q2] } w17 fun (v162 : Value) (w18 : World) =>
  ∃ (n14 : Int),
  v162 = Value.int IntKind.i64 n14 ∧
  h8
  [Value.bool
  (decide
  (n14 >
  IntKind.wrap IntKind.i64
  (IntKind.wrap IntKind.i64 (Int.tmod room (12 : Int)) + IntKind.wrap IntKind.i64 (Int.tmod more (12 : Int)))))]
  w18) ∧
  (decide (n13 > IntKind.wrap IntKind.i64 (Int.tmod room (12 : Int))) = true → h8 [Value.bool true] w17)) ∧
  ∀ (w19 : World) (v163 v164 v165 v166 v167 v168 v169 v170 v171 : Value) (b10 : Bool),
  h8 [Value.bool b10] w19 →
  (b10 = true → K (Value.bool false) w19) ∧
  (b10 = false →
  ∃ (k10 : Nat), k10 < k2 ∧ h1 k10 [Value.int IntKind.i64 (IntKind.wrap IntKind.i64 (n1 + (1 : Int)))] w19))) ∧
  (decide (n1 < (↑l : Int)) = false →
  Rets Try.prog (5 : Nat) { toList := [] } w4 fun (v172 : Value) (w20 : World) =>
  ∃ (b11 : Bool), v172 = Value.bool b11 ∧ K (Value.bool b11) w20))
theorem cortadolaw49_LruIncludes_eq (q : Option Addr) (l c : Nat) (room more : Int) (w : World) (K : Value → World → Prop) : fw Try.prog Try.f3 (annL [(2, [(6, none), (11, some 3), (12, none), (13, none), (14, none), (15, none), (16, none), (17, none), (18, none), (19, none), (20, none), (37, none), (38, none), (39, none), (40, none), (41, none), (42, none), (43, none), (44, none), (45, none), (46, none), (47, none), (48, none), (49, none), (50, none), (51, none), (52, none), (53, none), (54, none), (55, none), (56, none), (57, none), (58, none), (59, none), (60, none), (61, none), (62, none), (63, none), (64, none), (65, none), (66, none), (67, none), (68, none), (69, none), (70, none), (71, none), (72, none), (73, none), (74, none), (75, none), (76, none), (77, none), (78, none), (79, none), (80, none), (81, none), (82, none), (83, none), (84, none), (85, none), (86, none), (87, none), (88, none), (89, none), (90, none), (91, none), (92, none), (93, none), (94, none), (95, none), (96, none), (97, none), (98, none), (99, none), (100, none), (101, none), (102, none), (103, none), (104, none), (105, none), (106, none), (107, none), (108, none), (109, none), (110, none), (111, none), (112, none), (113, none), (114, none), (115, none), (116, none), (117, none), (118, none), (119, none), (120, none), (121, none)]), (5, [(6, none)]), (6, [(68, none), (69, none), (70, none), (71, none), (72, none), (73, none), (74, none)]), (7, [(77, none), (78, none), (79, none), (80, none), (81, none), (82, none), (83, none)]), (9, [(6, none), (16, some 3), (17, none), (18, none), (19, none), (20, none), (84, none), (85, none), (86, none), (87, none), (88, none), (89, none), (90, none), (91, none), (92, none), (93, none), (94, none), (95, none), (96, none), (97, none), (98, none), (99, none), (100, none), (101, none), (102, none), (103, none), (104, none), (105, none), (106, none), (107, none), (108, none), (109, none), (110, none), (111, none)])]) (ordL [(2000011, [(61, 0), (62, 0), (63, 0), (64, 0), (65, 5)]), (2000022, [(107, 0), (108, 0), (109, 0), (110, 0), (111, 5)]), (2000024, [(112, 0), (113, 0), (114, 0), (115, 0), (116, 0), (117, 0), (118, 0), (119, 0), (120, 0), (121, 5)])]) [.slice q l c, .int .u64 room, .int .u64 more] w K = cortadolaw49_LruIncludes_m q l c room more w K := by kernel_rfl
theorem cortadolaw49_LruIncludes_go (q : Option Addr) (l c : Nat) (room more : Int) {w : World} {K : Value → World → Prop} (h : cortadolaw49_LruIncludes_m q l c room more w K) : Rets Try.prog 3 #[.slice q l c, .int .u64 room, .int .u64 more] w K :=
  calls_of_fw plain mixed Try.func3 (by kernel_rfl) (by rw [cortadolaw49_LruIncludes_eq]; exact h)
end Go.Proofs.Ytianklbklggboaa.Eng
