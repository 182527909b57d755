/- What the code of these functions asks for: printed by a program of this session's (gens.py) out of the seat's own functions; the kernel checks each row. -/
import Derived.Test.YtajckpjlliiekaaDoorEngH
import Derived.Test.YtajckpjlliiekaaDoorProg
import Derived.Test.YtajckpjlliiekaaDoorBase
namespace Go.Proofs.YtajckpjlliiekaaDoor.Eng
open Go Go.Proofs
set_option linter.unusedVariables false
set_option maxRecDepth 1000000
def cortadolaw25_SampleWhole_m (q : Option Addr) (l c : Nat) (m : Int) (q2 : Option Addr) (l2 c2 : Nat) (w : World) (K : Value → World → Prop) : Prop :=
  (decide ((↑l : Int) > (30 : Int)) = true →
  Rets Tryd.prog (8 : Nat) { toList := [] } w fun (v1 : Value) (w1 : World) =>
  ∃ (b1 : Bool), v1 = Value.bool b1 ∧ K (Value.bool b1) w1) ∧
  (decide ((↑l : Int) > (30 : Int)) = false →
  Rets Tryd.prog (9 : Nat) { toList := [Value.slice q l c] } w fun (v2 : Value) (w2 : World) =>
  ∃ (q1 : Option Addr),
  ∃ (q2_1 : Option Addr),
  ∃ (k1 : Nat),
  ∃ (k2 : Nat),
  ∃ (n1 : Int),
  v2 =
  Value.tuple
  { toList := [Value.pointer q1, Value.agg { toList := [Value.slice q2_1 k1 k2, Value.int IntKind.i64 n1] }] } ∧
  NewR (29 : Nat) [Value.slice none (0 : Nat) (0 : Nat), Value.int IntKind.i64 (0 : Int)] w2
  fun (a1 : Addr) (w3 : World) =>
  StoreR a1 [Value.slice q2_1 k1 k2, Value.int IntKind.i64 n1] w3 fun (w4 : World) =>
  ∃ (h1 : Nat → List Value → World → Prop),
  (∃ (k3 : Nat), h1 k3 [Value.slice none (0 : Nat) (0 : Nat), Value.int IntKind.i64 (0 : Int)] w4) ∧
  ∀ (k4 : Nat) (w5 : World) (q3 : Option Addr) (k5 k6 : Nat) (n2 : Int)
  (v3 v4 v5 v6 v7 v8 v9 v10 v11 v12 v13 v14 v15 v16 v17 v18 v19 v20 v21 v22 v23 v24 v25 v26 v27 v28 v29 v30 : Value),
  h1 k4 [Value.slice q3 k5 k6, Value.int IntKind.i64 n2] w5 →
  ∃ (h2 : List Value → World → Prop),
  (∃ (q4 : Option Addr),
  ∃ (k7 : Nat),
  ∃ (k8 : Nat),
  cellAt w5 (Addr.add a1 (0 : Nat)) (Value.slice q4 k7 k8) ∧
  (decide (n2 < (↑k7 : Int)) = true →
  (6 : Int) ≠ (0 : Int) ∧ h2 [Value.bool (decide (n2 < IntKind.wrap IntKind.i64 (Int.tmod m (6 : Int))))] w5) ∧
  (decide (n2 < (↑k7 : Int)) = false → h2 [Value.bool false] w5)) ∧
  ∀ (w6 : World) (v31 v32 v33 v34 v35 v36 v37 v38 v39 v40 v41 : Value) (b2 : Bool),
  h2 [Value.bool b2] w6 →
  (b2 = true →
  ∃ (q5 : Option Addr),
  ∃ (k9 : Nat),
  ∃ (k10 : Nat),
  cellAt w6 (Addr.add a1 (0 : Nat)) (Value.slice q5 k9 k10) ∧
  ∃ (q6 : Option Addr),
  ∃ (k11 : Nat),
  ∃ (k12 : Nat),
  cellAt w6 (Addr.add a1 (0 : Nat)) (Value.slice q6 k11 k12) ∧
  (0 : Int) ≤ IntKind.wrap IntKind.i64 (IntKind.wrap IntKind.i64 ((↑k11 : Int) - (1 : Int)) - n2) ∧
  IntKind.wrap IntKind.i64 (IntKind.wrap IntKind.i64 ((↑k11 : Int) - (1 : Int)) - n2) < (↑k9 : Int) ∧
  someR q5 fun (a2 : Addr) =>
  ∃ (n3 : Int),
  cellAt w6
  (Addr.add
  (Addr.add a2
  (Int.toNat (IntKind.wrap IntKind.i64 (IntKind.wrap IntKind.i64 ((↑k11 : Int) - (1 : Int)) - n2)) * (2 : Nat)))
  (0 : Nat))
  (Value.int IntKind.u64 n3) ∧
  NewR (32 : Nat) [Value.int IntKind.u64 n3] w6 fun (a3 : Addr) (w7 : World) =>
  RunR Tryd.prog
  (builtinV Builtin.append { toList := [(22 : Nat), (22 : Nat)] } (nat_lit 22)
  { toList := [Value.slice q3 k5 k6, Value.slice (some a3) (1 : Nat) (1 : Nat)] })
  w7 fun (v42 : Value) (w8 : World) =>
  ∃ (q7 : Option Addr),
  ∃ (k13 : Nat),
  ∃ (k14 : Nat),
  v42 = Value.slice q7 k13 k14 ∧
  ∃ (k15 : Nat),
  k15 < k4 ∧ h1 k15 [Value.slice q7 k13 k14, Value.int IntKind.i64 (IntKind.wrap IntKind.i64 (n2 + (1 : Int)))] w8) ∧
  (b2 = false →
  Rets Tryd.prog (11 : Nat) { toList := [Value.slice q2 l2 c2, Value.int IntKind.u64 (3 : Int)] } w6
  fun (v43 : Value) (w9 : World) =>
  ∃ (q8 : Option Addr),
  v43 = Value.pointer q8 ∧
  Rets Tryd.prog (10 : Nat) { toList := [Value.pointer q1, Value.slice q3 k5 k6, Value.pointer q8] } w9
  fun (v44 : Value) (w10 : World) =>
  ∃ (q9 : Option Addr),
  ∃ (k16 : Nat),
  ∃ (k17 : Nat),
  v44 = Value.slice q9 k16 k17 ∧
  ∃ (q10 : Option Addr),
  ∃ (k18 : Nat),
  ∃ (k19 : Nat),
  cellAt w10 (Addr.add a1 (0 : Nat)) (Value.slice q10 k18 k19) ∧
  (((↑k16 : Int) != minI (5 : Int) (↑k18 : Int)) = true → K (Value.bool false) w10) ∧
  (((↑k16 : Int) != minI (5 : Int) (↑k18 : Int)) = false →
  ∃ (h3 : Nat → List Value → World → Prop),
  (∃ (k20 : Nat), h3 k20 [Value.int IntKind.i64 (0 : Int)] w10) ∧
  ∀ (k21 : Nat) (w11 : World) (v45 : Value) (n4 : Int)
  (v46 v47 v48 v49 v50 v51 v52 v53 v54 v55 v56 v57 v58 v59 v60 v61 v62 v63 v64 v65 v66 v67 v68 v69 v70 v71 v72 v73 v74 v75
  v76 v77 v78 v79 v80 v81 v82 v83 v84 v85 v86 v87 v88 v89 v90 v91 : Value),
  h3 k21 [Value.int IntKind.i64 n4] w11 →
  (decide (n4 < (↑k16 : Int)) = true →
  (0 : Int) ≤ n4 ∧
  n4 < (↑k16 : Int) ∧
  someR q9 fun (a4 : Addr) =>
  ∃ (n5 : Int),
  cellAt w11 (Addr.add a4 (Int.toNat n4 * (1 : Nat))) (Value.int IntKind.u64 n5) ∧
  Rets Tryd.prog (12 : Nat) { toList := [Value.pointer q1, Value.int IntKind.u64 n5] } w11
  fun (v92 : Value) (w12 : World) =>
  ∃ (n6 : Int),
  ∃ (b3 : Bool),
  v92 = Value.tuple { toList := [Value.int IntKind.i64 n6, Value.bool b3] } ∧
  ∃ (h4 : List Value → World → Prop),
  (Drw w12 fun (w13 : World) =>
  ∃ (h5 : World → Prop),
  h5 w13 ∧
  ((!b3) = false →
  (0 : Int) ≤ n4 ∧
  n4 ≤ (↑k17 : Int) ∧
  (0 : Int) ≤ n4 ∧
  n4 < (↑k16 : Int) ∧
  someR q9 fun (a5 : Addr) =>
  ∃ (n7 : Int),
  (∀ (w14 : World), h5 w14 → World.cell? w14 (Addr.add a5 (Int.toNat n4 * (1 : Nat))) = some (Value.int IntKind.u64 n7)) ∧
  Rets Tryd.prog (13 : Nat)
  {
  toList :=
  [Value.slice (slcA q9 (0 : Nat) k17 (1 : Nat)) (Int.toNat n4 - (0 : Nat)) (k17 - (0 : Nat)), Value.int IntKind.u64 n7] }
  w13 fun (v93 : Value) (w15 : World) =>
  ∃ (b4 : Bool),
  v93 = Value.bool b4 ∧
  h5 w15 ∧
  (b4 = false →
  (decide (n4 < (↑k5 : Int)) = true →
  (0 : Int) ≤ n4 ∧
  n4 < (↑k16 : Int) ∧
  someR q9 fun (a6 : Addr) =>
  (0 : Int) ≤ n4 ∧
  n4 < (↑k5 : Int) ∧
  someR q3 fun (a7 : Addr) =>
  ∃ (n8 : Int),
  (∀ (w16 : World), h5 w16 → World.cell? w16 (Addr.add a6 (Int.toNat n4 * (1 : Nat))) = some (Value.int IntKind.u64 n8)) ∧
  ∃ (n9 : Int),
  (∀ (w17 : World), h5 w17 → World.cell? w17 (Addr.add a7 (Int.toNat n4 * (1 : Nat))) = some (Value.int IntKind.u64 n9)) ∧
  h4 [Value.bool (n8 != n9)] w15) ∧
  (decide (n4 < (↑k5 : Int)) = false → h4 [Value.bool false] w15)) ∧
  (b4 = true → h4 [Value.bool true] w15)) ∧
  ((!b3) = true → h4 [Value.bool true] w13)) ∧
  ∀ (w18 : World)
  (v94 v95 v96 v97 v98 v99 v100 v101 v102 v103 v104 v105 v106 v107 v108 v109 v110 v111 v112 v113 v114 v115 v116 v117 v118
  v119 v120 v121 : Value)
  (b5 : Bool),
  h4 [Value.bool b5] w18 →
  (b5 = true → K (Value.bool false) w18) ∧
  (b5 = false →
  ∃ (k22 : Nat), k22 < k21 ∧ h3 k22 [Value.int IntKind.i64 (IntKind.wrap IntKind.i64 (n4 + (1 : Int)))] w18)) ∧
  (decide (n4 < (↑k16 : Int)) = false →
  ∃ (h6 : List Value → World → Prop),
  (Rets Tryd.prog (10 : Nat) { toList := [Value.pointer none, Value.slice none (0 : Nat) (0 : Nat), Value.pointer none] }
  w11 fun (v122 : Value) (w19 : World) =>
  ∃ (q11 : Option Addr),
  ∃ (k23 : Nat),
  ∃ (k24 : Nat),
  v122 = Value.slice q11 k23 k24 ∧
  (((↑k23 : Int) == (0 : Int)) = true →
  Rets Tryd.prog (8 : Nat) { toList := [] } w19 fun (v123 : Value) (w20 : World) =>
  ∃ (b6 : Bool), v123 = Value.bool b6 ∧ h6 [Value.bool b6] w20) ∧
  (((↑k23 : Int) == (0 : Int)) = false → h6 [Value.bool false] w19)) ∧
  ∀ (w21 : World) (b7 : Bool) (v124 v125 v126 v127 v128 v129 : Value), h6 [Value.bool b7] w21 → K (Value.bool b7) w21))))
theorem cortadolaw25_SampleWhole_eq (q : Option Addr) (l c : Nat) (m : Int) (q2 : Option Addr) (l2 c2 : Nat) (w : World) (K : Value → World → Prop) : fw Tryd.prog Tryd.f3 (annL [(2, [(9, some 22), (10, some 3), (24, none), (25, none), (26, none), (27, none), (28, none), (29, none), (30, none), (31, none), (32, none), (33, none), (34, none), (35, none), (36, none), (37, none), (38, none), (39, none), (40, none), (41, none), (42, none), (43, none), (44, none), (45, none), (46, none), (47, none), (48, none), (49, none), (50, none), (51, none)]), (7, [(6, none), (12, some 3), (13, none), (14, none), (64, none), (65, none), (66, none), (67, none), (68, none), (69, none), (70, none), (71, none), (72, none), (73, none), (74, none), (75, none), (76, none), (77, none), (78, none), (79, none), (80, none), (81, none), (82, none), (83, none), (84, none), (85, none), (86, none), (87, none), (88, none), (89, none), (90, none), (91, none), (92, none), (93, none), (94, none), (95, none), (96, none), (97, none), (98, none), (99, none), (100, none), (101, none), (102, none), (103, none), (104, none), (105, none), (106, none), (107, none)])]) (ordL [(2000006, [(24, 0), (25, 0), (26, 0), (27, 0), (28, 0), (29, 0), (30, 0), (31, 0), (32, 0), (33, 0), (34, 0), (35, 5)]), (2000016, [(79, 0), (80, 0), (81, 0), (82, 0), (83, 0), (84, 0), (85, 0), (86, 0), (87, 0), (88, 0), (89, 0), (90, 0), (91, 0), (92, 0), (93, 0), (94, 0), (95, 0), (96, 0), (97, 0), (98, 0), (99, 0), (100, 0), (101, 0), (102, 0), (103, 0), (104, 0), (105, 0), (106, 0), (107, 5)]), (16, [(0, 0), (1, 0), (2, 0), (3, 0), (4, 0), (5, 0), (6, 0), (7, 0), (8, 0), (9, 1), (10, 2), (11, 0), (12, 0), (13, 0), (14, 0), (15, 0), (16, 0), (17, 0), (18, 0), (19, 0), (20, 0), (22, 0), (23, 0), (24, 0), (21, 1), (25, 1), (26, 0), (27, 0), (28, 0)]), (2000018, [(6, 5), (108, 0), (109, 0), (110, 0), (111, 0), (112, 0), (113, 0)])]) [.slice q l c, .int .u64 m, .slice q2 l2 c2] w K = cortadolaw25_SampleWhole_m q l c m q2 l2 c2 w K := by kernel_rfl
theorem cortadolaw25_SampleWhole_go (q : Option Addr) (l c : Nat) (m : Int) (q2 : Option Addr) (l2 c2 : Nat) {w : World} {K : Value → World → Prop} (h : cortadolaw25_SampleWhole_m q l c m q2 l2 c2 w K) : Rets Tryd.prog 3 #[.slice q l c, .int .u64 m, .slice q2 l2 c2] w K :=
  calls_of_fw plain mixed Tryd.func3 (by kernel_rfl) (by rw [cortadolaw25_SampleWhole_eq]; exact h)
def sample_nil_Fill_m (q : Option Addr) (l c : Nat) (d : Option Addr) (w : World) (K : Value → World → Prop) : Prop :=
  Rets Tryd.prog (43 : Nat) { toList := [Value.slice q l c] } w fun (v1 : Value) (w1 : World) =>
  ∃ (q1 : Option Addr),
  ∃ (k1 : Nat),
  ∃ (k2 : Nat),
  v1 = Value.slice q1 k1 k2 ∧
  ∃ (h1 : Nat → List Value → World → Prop),
  (∃ (k3 : Nat), h1 k3 [Value.slice q1 k1 k2] w1) ∧
  ∀ (k4 : Nat) (w2 : World) (q2 : Option Addr) (k5 k6 : Nat)
  (v2 v3 v4 v5 v6 v7 v8 v9 v10 v11 v12 v13 v14 v15 v16 v17 v18 v19 v20 v21 v22 v23 v24 v25 v26 v27 v28 v29 v30 : Value),
  h1 k4 [Value.slice q2 k5 k6] w2 →
  (decide ((↑k5 : Int) < (5 : Int)) = true →
  Rets Tryd.prog (44 : Nat) { toList := [Value.pointer none, Value.int IntKind.i64 (0 : Int), Value.slice q2 k5 k6] } w2
  fun (v31 : Value) (w3 : World) =>
  ∃ (n1 : Int),
  ∃ (b1 : Bool),
  v31 = Value.tuple { toList := [Value.int IntKind.u64 n1, Value.bool b1] } ∧
  ((!b1) = true → K (Value.slice q2 k5 k6) w3) ∧
  ((!b1) = false →
  Rets Tryd.prog (28 : Nat) { toList := [Value.pointer none] } w3 fun (v32 : Value) (w4 : World) =>
  ∃ (n2 : Int),
  v32 = Value.int IntKind.i64 n2 ∧
  Rets Tryd.prog (45 : Nat) { toList := [Value.pointer d, Value.int IntKind.i64 n2] } w4 fun (v33 : Value) (w5 : World) =>
  ∃ (n3 : Int),
  v33 = Value.int IntKind.i64 n3 ∧
  Rets Tryd.prog (44 : Nat) { toList := [Value.pointer none, Value.int IntKind.i64 n3, Value.slice q2 k5 k6] } w5
  fun (v34 : Value) (w6 : World) =>
  ∃ (n4 : Int),
  ∃ (b2 : Bool),
  v34 = Value.tuple { toList := [Value.int IntKind.u64 n4, Value.bool b2] } ∧
  NewR (32 : Nat) [Value.int IntKind.u64 n4] w6 fun (a1 : Addr) (w7 : World) =>
  RunR Tryd.prog
  (builtinV Builtin.append { toList := [(22 : Nat), (22 : Nat)] } (nat_lit 22)
  { toList := [Value.slice q2 k5 k6, Value.slice (some a1) (1 : Nat) (1 : Nat)] })
  w7 fun (v35 : Value) (w8 : World) =>
  ∃ (q3 : Option Addr),
  ∃ (k7 : Nat), ∃ (k8 : Nat), v35 = Value.slice q3 k7 k8 ∧ ∃ (k9 : Nat), k9 < k4 ∧ h1 k9 [Value.slice q3 k7 k8] w8)) ∧
  (decide ((↑k5 : Int) < (5 : Int)) = false → K (Value.slice q2 k5 k6) w2)
theorem sample_nil_Fill_eq (q : Option Addr) (l c : Nat) (d : Option Addr) (w : World) (K : Value → World → Prop) : fw Tryd.prog Tryd.f10 (annL [(1, [(7, some 22), (8, none), (9, none), (10, none), (11, none), (14, none), (15, none), (16, none), (17, none), (18, none), (19, none), (20, none), (21, none), (22, none), (23, none), (24, none), (25, none), (26, none), (27, none), (28, none), (29, none), (30, none), (31, none), (32, none), (33, none), (34, none), (35, none), (36, none), (37, none), (38, none)])]) (ordL []) [.pointer none, .slice q l c, .pointer d] w K = sample_nil_Fill_m q l c d w K := by kernel_rfl
theorem sample_nil_Fill_go (q : Option Addr) (l c : Nat) (d : Option Addr) {w : World} {K : Value → World → Prop} (h : sample_nil_Fill_m q l c d w K) : Rets Tryd.prog 10 #[.pointer none, .slice q l c, .pointer d] w K :=
  calls_of_fw plain mixed Tryd.func10 (by kernel_rfl) (by rw [sample_nil_Fill_eq]; exact h)
end Go.Proofs.YtajckpjlliiekaaDoor.Eng
