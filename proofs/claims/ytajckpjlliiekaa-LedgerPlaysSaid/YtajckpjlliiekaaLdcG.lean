/- What the code of these functions asks for: printed by a program of this session's (gens.py) out of the seat's own functions; the kernel checks each row. -/
import Derived.Test.YtajckpjlliiekaaEngH
import Derived.Test.YtajckpjlliiekaaProg
import Derived.Test.YtajckpjlliiekaaBase
namespace Go.Proofs.Ytajckpjlliiekaa.Eng
open Go Go.Proofs
set_option linter.unusedVariables false
set_option maxRecDepth 1000000
def rank_Tree_int_int_All_m (q : Option Addr) (w : World) (K : Value → World → Prop) : Prop :=
  NewR (51 : Nat) [Value.pointer q] w fun (a1 : Addr) (w1 : World) =>
  K (Value.func (Fn.func (47 : Nat)) { toList := [] } { toList := [Value.pointer (some a1)] }) w1
theorem rank_Tree_int_int_All_eq (q : Option Addr) (w : World) (K : Value → World → Prop) : fw Try.prog Try.f38 (annL []) (ordL []) [.pointer q] w K = rank_Tree_int_int_All_m q w K := by kernel_rfl
theorem rank_Tree_int_int_All_go (q : Option Addr) {w : World} {K : Value → World → Prop} (h : rank_Tree_int_int_All_m q w K) : Rets Try.prog 38 #[.pointer q] w K :=
  calls_of_fw plain mixed Try.func38 (by kernel_rfl) (by rw [rank_Tree_int_int_All_eq]; exact h)
def rank_Tree_int_int_All_1_m (l b : Nat) (w : World) (K : Value → World → Prop) : Prop :=
  ∃ (q1 : Option Addr),
  cellAt w { block := b, off := (0 : Nat) } (Value.pointer q1) ∧
  ((!Option.isNone q1) = true →
  ∃ (q2 : Option Addr),
  cellAt w { block := b, off := (0 : Nat) } (Value.pointer q2) ∧
  someR q2 fun (a1 : Addr) =>
  ∃ (q3 : Option Addr),
  cellAt w (Addr.add a1 (1 : Nat)) (Value.pointer q3) ∧
  Rets Try.prog (48 : Nat)
  {
  toList :=
  [Value.pointer q3, Value.func (Fn.func (49 : Nat)) { toList := [] } { toList := [] },
  Value.func (Fn.yield l) { toList := [] } { toList := [] }] }
  w fun (v1 : Value) (w1 : World) => ∃ (b1 : Bool), v1 = Value.bool b1 ∧ K (Value.tuple { toList := [] }) w1) ∧
  ((!Option.isNone q1) = false → K (Value.tuple { toList := [] }) w)
theorem rank_Tree_int_int_All_1_eq (l b : Nat) (w : World) (K : Value → World → Prop) : fw Try.prog Try.f47 (annL []) (ordL []) [.func (.yield l) #[] #[], .pointer (some ⟨b, 0, none⟩)] w K = rank_Tree_int_int_All_1_m l b w K := by kernel_rfl
theorem rank_Tree_int_int_All_1_go (l b : Nat) {w : World} {K : Value → World → Prop} (h : rank_Tree_int_int_All_1_m l b w K) : Rets Try.prog 47 #[.func (.yield l) #[] #[], .pointer (some ⟨b, 0, none⟩)] w K :=
  calls_of_fw plain mixed Try.func47 (by kernel_rfl) (by rw [rank_Tree_int_int_All_1_eq]; exact h)
def rank_Tree_int_int_All_1_1_m (x : Int) (w : World) (K : Value → World → Prop) : Prop :=
  K (Value.bool true) w
theorem rank_Tree_int_int_All_1_1_eq (x : Int) (w : World) (K : Value → World → Prop) : fw Try.prog Try.f49 (annL []) (ordL []) [.int .u64 x] w K = rank_Tree_int_int_All_1_1_m x w K := by kernel_rfl
theorem rank_Tree_int_int_All_1_1_go (x : Int) {w : World} {K : Value → World → Prop} (h : rank_Tree_int_int_All_1_1_m x w K) : Rets Try.prog 49 #[.int .u64 x] w K :=
  calls_of_fw plain mixed Try.func49 (by kernel_rfl) (by rw [rank_Tree_int_int_All_1_1_eq]; exact h)
def walk_all_m (p : Option Addr) (l : Nat) (w : World) (K : Value → World → Prop) : Prop :=
  (Option.isNone p = true → K (Value.bool true) w) ∧
  (Option.isNone p = false →
  someR p fun (a1 : Addr) =>
  ∃ (n1 : Int),
  cellAt w (Addr.add a1 (0 : Nat)) (Value.int IntKind.u64 n1) ∧
  Rets Try.prog (49 : Nat) { toList := [Value.int IntKind.u64 n1] } w fun (v1 : Value) (w1 : World) =>
  ∃ (b1 : Bool),
  v1 = Value.bool b1 ∧
  ((!b1) = true →
  someR p fun (a2 : Addr) =>
  ∃ (q1 : Option Addr),
  cellAt w1 (Addr.add a2 (3 : Nat)) (Value.pointer q1) ∧
  Rets Try.prog (48 : Nat)
  {
  toList :=
  [Value.pointer q1, Value.func (Fn.func (49 : Nat)) { toList := [] } { toList := [] },
  Value.func (Fn.yield l) { toList := [] } { toList := [] }] }
  w1 fun (v2 : Value) (w2 : World) => ∃ (b2 : Bool), v2 = Value.bool b2 ∧ K (Value.bool b2) w2) ∧
  ((!b1) = false →
  Drw w1 fun (w3 : World) =>
  ∃ (h1 : World → Prop),
  h1 w3 ∧
  someR p fun (a3 : Addr) =>
  ∃ (q2 : Option Addr),
  (∀ (w4 : World), h1 w4 → World.cell? w4 (Addr.add a3 (2 : Nat)) = some (Value.pointer q2)) ∧
  Rets Try.prog (48 : Nat)
  {
  toList :=
  [Value.pointer q2, Value.func (Fn.func (49 : Nat)) { toList := [] } { toList := [] },
  Value.func (Fn.yield l) { toList := [] } { toList := [] }] }
  w3 fun (v3 : Value) (w5 : World) =>
  ∃ (b3 : Bool),
  v3 = Value.bool b3 ∧
  h1 w5 ∧
  (b3 = true →
  someR p fun (a4 : Addr) =>
  someR p fun (a5 : Addr) =>
  ∃ (n2 : Int),
  (∀ (w6 : World), h1 w6 → World.cell? w6 (Addr.add a4 (0 : Nat)) = some (Value.int IntKind.u64 n2)) ∧
  ∃ (n3 : Int),
  (∀ (w7 : World), h1 w7 → World.cell? w7 (Addr.add a5 (1 : Nat)) = some (Value.int IntKind.i64 n3)) ∧
  RoundR Try.prog l { toList := [Value.int IntKind.u64 n2, Value.int IntKind.i64 n3] } w5 fun (v4 : Value) (w8 : World) =>
  ∃ (b4 : Bool),
  v4 = Value.bool b4 ∧
  h1 w8 ∧
  (b4 = true →
  someR p fun (a6 : Addr) =>
  ∃ (q3 : Option Addr),
  (∀ (w9 : World), h1 w9 → World.cell? w9 (Addr.add a6 (3 : Nat)) = some (Value.pointer q3)) ∧
  Rets Try.prog (48 : Nat)
  {
  toList :=
  [Value.pointer q3, Value.func (Fn.func (49 : Nat)) { toList := [] } { toList := [] },
  Value.func (Fn.yield l) { toList := [] } { toList := [] }] }
  w8 fun (v5 : Value) (w10 : World) => ∃ (b5 : Bool), v5 = Value.bool b5 ∧ K (Value.bool b5) w10) ∧
  (b4 = false → K (Value.bool false) w8)) ∧
  (b3 = false → K (Value.bool false) w5)))
theorem walk_all_eq (p : Option Addr) (l : Nat) (w : World) (K : Value → World → Prop) : fw Try.prog Try.f48 (annL []) (ordL [(5, [(0, 0), (1, 0), (2, 0), (4, 0), (5, 0), (3, 1), (6, 2), (7, 0), (8, 0), (9, 0), (10, 0), (11, 0), (13, 0), (14, 0), (15, 0), (12, 1), (16, 1), (17, 2), (18, 0), (19, 0), (20, 0), (21, 0), (22, 0), (24, 0), (25, 0), (23, 1), (26, 3), (27, 0), (28, 0)])]) [.pointer p, .func (.func 49) #[] #[], .func (.yield l) #[] #[]] w K = walk_all_m p l w K := by kernel_rfl
theorem walk_all_go (p : Option Addr) (l : Nat) {w : World} {K : Value → World → Prop} (h : walk_all_m p l w K) : Rets Try.prog 48 #[.pointer p, .func (.func 49) #[] #[], .func (.yield l) #[] #[]] w K :=
  calls_of_fw plain mixed Try.func48 (by kernel_rfl) (by rw [walk_all_eq]; exact h)
def ledger_Ledger_All_m (g : Nat) (w : World) (K : Value → World → Prop) : Prop :=
  (false = true →
  Rets Try.prog (38 : Nat) { toList := [Value.pointer none] } w fun (v1 : Value) (w1 : World) =>
  ∃ (k1 : Nat),
  ∃ (a1 : Array Value), ∃ (c1 : Array Value), v1 = Value.func (Fn.func k1) a1 c1 ∧ K (Value.func (Fn.func k1) a1 c1) w1) ∧
  (false = false →
  ∃ (q1 : Option Addr),
  cellAt w (Addr.add { block := g, off := (0 : Nat) } (0 : Nat)) (Value.pointer q1) ∧
  Rets Try.prog (38 : Nat) { toList := [Value.pointer q1] } w fun (v2 : Value) (w2 : World) =>
  ∃ (k2 : Nat),
  ∃ (a2 : Array Value), ∃ (c2 : Array Value), v2 = Value.func (Fn.func k2) a2 c2 ∧ K (Value.func (Fn.func k2) a2 c2) w2)
theorem ledger_Ledger_All_eq (g : Nat) (w : World) (K : Value → World → Prop) : fw Try.prog Try.f23 (annL []) (ordL []) [.pointer (some ⟨g, 0, none⟩)] w K = ledger_Ledger_All_m g w K := by kernel_rfl
theorem ledger_Ledger_All_go (g : Nat) {w : World} {K : Value → World → Prop} (h : ledger_Ledger_All_m g w K) : Rets Try.prog 23 #[.pointer (some ⟨g, 0, none⟩)] w K :=
  calls_of_fw plain mixed Try.func23 (by kernel_rfl) (by rw [ledger_Ledger_All_eq]; exact h)
def cortadolaw24_LedgerPlays_m (n : Int) (q : Option Addr) (l c : Nat) (w : World) (K : Value → World → Prop) : Prop :=
  NewR (4 : Nat) [Value.bool false] w fun (a1 : Addr) (w1 : World) =>
  (decide ((↑l : Int) > (40 : Int)) = true →
  Rets Try.prog (5 : Nat) { toList := [] } w1 fun (v1 : Value) (w2 : World) =>
  ∃ (b1 : Bool),
  v1 = Value.bool b1 ∧
  StoreR a1 [Value.bool b1] w2 fun (w3 : World) => ∃ (b2 : Bool), cellAt w3 a1 (Value.bool b2) ∧ K (Value.bool b2) w3) ∧
  (decide ((↑l : Int) > (40 : Int)) = false →
  Rets Try.prog (6 : Nat) { toList := [Value.int IntKind.i64 n] } w1 fun (v2 : Value) (w4 : World) =>
  ∃ (q1 : Option Addr),
  v2 = Value.pointer q1 ∧
  Rets Try.prog (19 : Nat) { toList := [Value.int IntKind.i64 n] } w4 fun (v3 : Value) (w5 : World) =>
  ∃ (n1 : Int),
  v3 = Value.int IntKind.i64 n1 ∧
  NewR (41 : Nat) [Value.slice none (0 : Nat) (0 : Nat), Value.int IntKind.i64 (0 : Int)] w5
  fun (a2 : Addr) (w6 : World) =>
  StoreR a2 [Value.slice none (0 : Nat) (0 : Nat), Value.int IntKind.i64 n1] w6 fun (w7 : World) =>
  ∃ (h1 : Nat → List Value → World → Prop),
  (∃ (k1 : Nat), h1 k1 [Value.int IntKind.i64 (0 : Int)] w7) ∧
  ∀ (k2 : Nat) (w8 : World) (n2 : Int)
  (v4 v5 v6 v7 v8 v9 v10 v11 v12 v13 v14 v15 v16 v17 v18 v19 v20 v21 v22 v23 v24 v25 v26 v27 v28 v29 v30 v31 v32 v33 v34
  v35 v36 v37 v38 v39 v40 v41 v42 v43 v44 v45 v46 v47 v48 v49 v50 v51 v52 v53 v54 v55 v56 v57 v58 v59 v60 v61 v62 v63 v64
  v65 v66 v67 v68 v69 v70 v71 v72 v73 v74 v75 v76 v77 v78 v79 v80 v81 v82 v83 v84 v85 v86 v87 v88 v89 v90 v91 v92 v93 v94
  v95 v96 v97 v98 v99 v100 v101 v102 v103 v104 v105 v106 v107 v108 v109 v110 v111 v112 v113 v114 v115 v116 v117 v118 v119
  v120 v121 v122 v123 v124 v125 v126 v127 v128 v129 v130 v131 v132 v133 v134 v135 v136 v137 v138 v139 v140 v141 v142 v143
  v144 v145 v146 v147 v148 : Value),
  h1 k2 [Value.int IntKind.i64 n2] w8 →
  (decide (n2 < (↑l : Int)) = true →
  ∃ (h2 : List Value → World → Prop),
  (Drw w8 fun (w9 : World) =>
  ∃ (h3 : World → Prop),
  h3 w9 ∧
  (0 : Int) ≤ n2 ∧
  n2 < (↑l : Int) ∧
  someR q fun (a3 : Addr) =>
  ∃ (q2 : Option Addr),
  ∃ (k3 : Nat),
  ∃ (k4 : Nat),
  ∃ (n3 : Int),
  ((∀ (w10 : World), h3 w10 → World.cell? w10 (Addr.add a2 (0 : Nat)) = some (Value.slice q2 k3 k4)) ∧
  ∀ (w11 : World), h3 w11 → World.cell? w11 (Addr.add a2 ((0 : Nat) + (1 : Nat))) = some (Value.int IntKind.i64 n3)) ∧
  ∃ (n4 : Int),
  ∃ (n5 : Int),
  ∃ (n6 : Int),
  ((∀ (w12 : World),
  h3 w12 →
  World.cell? w12 (Addr.add (Addr.add a3 (Int.toNat n2 * (3 : Nat))) (0 : Nat)) = some (Value.int IntKind.u64 n4)) ∧
  (∀ (w13 : World),
  h3 w13 →
  World.cell? w13 (Addr.add (Addr.add a3 (Int.toNat n2 * (3 : Nat))) ((0 : Nat) + (1 : Nat))) =
  some (Value.int IntKind.u64 n5)) ∧
  ∀ (w14 : World),
  h3 w14 →
  World.cell? w14 (Addr.add (Addr.add a3 (Int.toNat n2 * (3 : Nat))) ((0 : Nat) + (1 : Nat) + (1 : Nat))) =
  some (Value.int IntKind.i64 n6)) ∧
  (Rets Try.prog (20 : Nat)
  {
  toList :=
  [Value.pointer q1, Value.agg { toList := [Value.slice q2 k3 k4, Value.int IntKind.i64 n3] },
  Value.agg { toList := [Value.int IntKind.u64 n4, Value.int IntKind.u64 n5, Value.int IntKind.i64 n6] }] }
  w9 fun (v149 : Value) (w15 : World) =>
  ∃ (q3 : Option Addr),
  ∃ (k5 : Nat),
  ∃ (k6 : Nat),
  ∃ (n7 : Int),
  ∃ (b3 : Bool),
  v149 =
  Value.tuple { toList := [Value.agg { toList := [Value.slice q3 k5 k6, Value.int IntKind.i64 n7] }, Value.bool b3] } ∧
  h3 w15 ∧
  NewR (41 : Nat) [Value.slice none (0 : Nat) (0 : Nat), Value.int IntKind.i64 (0 : Int)] w15
  fun (a4 : Addr) (w16 : World) =>
  h3 w16 ∧
  StoreR a4 [Value.slice q3 k5 k6, Value.int IntKind.i64 n7] w16 fun (w17 : World) =>
  h3 w17 ∧ h2 [Value.pointer (some a4), Value.bool b3] w17) ∧
  NewR (41 : Nat) [Value.slice none (0 : Nat) (0 : Nat), Value.int IntKind.i64 (0 : Int)] w9
  fun (a5 : Addr) (w18 : World) =>
  h3 w18 ∧
  Rets Try.prog (20 : Nat)
  {
  toList :=
  [Value.pointer q1, Value.agg { toList := [Value.slice q2 k3 k4, Value.int IntKind.i64 n3] },
  Value.agg { toList := [Value.int IntKind.u64 n4, Value.int IntKind.u64 n5, Value.int IntKind.i64 n6] }] }
  w18 fun (v150 : Value) (w19 : World) =>
  ∃ (q4 : Option Addr),
  ∃ (k7 : Nat),
  ∃ (k8 : Nat),
  ∃ (n8 : Int),
  ∃ (b4 : Bool),
  v150 =
  Value.tuple { toList := [Value.agg { toList := [Value.slice q4 k7 k8, Value.int IntKind.i64 n8] }, Value.bool b4] } ∧
  h3 w19 ∧
  StoreR a5 [Value.slice q4 k7 k8, Value.int IntKind.i64 n8] w19 fun (w20 : World) =>
  h3 w20 ∧ h2 [Value.pointer (some a5), Value.bool b4] w20) ∧
  ∀ (w21 : World) (q5 : Option Addr) (b5 : Bool) (v151 v152 v153 v154 v155 v156 v157 v158 v159 v160 : Value),
  h2 [Value.pointer q5, Value.bool b5] w21 →
  someR q5 fun (a6 : Addr) =>
  ∃ (q6 : Option Addr),
  ∃ (k9 : Nat),
  ∃ (k10 : Nat),
  ∃ (n9 : Int),
  (cellAt w21 (Addr.add a6 (0 : Nat)) (Value.slice q6 k9 k10) ∧
  cellAt w21 (Addr.add a6 (1 : Nat)) (Value.int IntKind.i64 n9)) ∧
  StoreR a2 [Value.slice q6 k9 k10, Value.int IntKind.i64 n9] w21 fun (w22 : World) =>
  (0 : Int) ≤ n2 ∧
  n2 < (↑l : Int) ∧
  someR q fun (a7 : Addr) =>
  ∃ (n10 : Int),
  cellAt w22 (Addr.add (Addr.add a7 (Int.toNat n2 * (3 : Nat))) (1 : Nat)) (Value.int IntKind.u64 n10) ∧
  Rets Try.prog (17 : Nat) { toList := [Value.pointer q1, Value.int IntKind.u64 n10] } w22
  fun (v161 : Value) (w23 : World) =>
  ∃ (n11 : Int),
  ∃ (b6 : Bool),
  v161 = Value.tuple { toList := [Value.int IntKind.i64 n11, Value.bool b6] } ∧
  Drw w23 fun (w24 : World) =>
  (0 : Int) ≤ n2 ∧
  n2 < (↑l : Int) ∧
  someR q fun (a8 : Addr) =>
  ∃ (q7 : Option Addr),
  ∃ (k11 : Nat),
  ∃ (k12 : Nat),
  ∃ (n12 : Int),
  (cellAt w24 (Addr.add a2 (0 : Nat)) (Value.slice q7 k11 k12) ∧
  cellAt w24 (Addr.add a2 (1 : Nat)) (Value.int IntKind.i64 n12)) ∧
  ∃ (n13 : Int),
  cellAt w24 (Addr.add (Addr.add a8 (Int.toNat n2 * (3 : Nat))) (1 : Nat)) (Value.int IntKind.u64 n13) ∧
  Rets Try.prog (21 : Nat)
  { toList := [Value.agg { toList := [Value.slice q7 k11 k12, Value.int IntKind.i64 n12] }, Value.int IntKind.u64 n13] }
  w24 fun (v162 : Value) (w25 : World) =>
  ∃ (n14 : Int),
  ∃ (b7 : Bool),
  v162 = Value.tuple { toList := [Value.int IntKind.i64 n14, Value.bool b7] } ∧
  (0 : Int) ≤ n2 ∧
  n2 < (↑l : Int) ∧
  someR q fun (a9 : Addr) =>
  ∃ (n15 : Int),
  cellAt w25 (Addr.add (Addr.add a9 (Int.toNat n2 * (3 : Nat))) (2 : Nat)) (Value.int IntKind.i64 n15) ∧
  Rets Try.prog (16 : Nat) { toList := [Value.pointer q1, Value.int IntKind.i64 n15] } w25
  fun (v163 : Value) (w26 : World) =>
  ∃ (n16 : Int),
  ∃ (b8 : Bool),
  v163 = Value.tuple { toList := [Value.int IntKind.u64 n16, Value.bool b8] } ∧
  ∃ (h4 : List Value → World → Prop),
  (Drw w26 fun (w27 : World) =>
  (0 : Int) ≤ n2 ∧
  n2 < (↑l : Int) ∧
  someR q fun (a10 : Addr) =>
  ∃ (n17 : Int),
  cellAt w27 (Addr.add (Addr.add a10 (Int.toNat n2 * (3 : Nat))) (2 : Nat)) (Value.int IntKind.i64 n17) ∧
  (decide (n17 ≥ (0 : Int)) = true →
  (0 : Int) ≤ n2 ∧
  n2 < (↑l : Int) ∧
  someR q fun (a11 : Addr) =>
  ∃ (n18 : Int),
  cellAt w27 (Addr.add (Addr.add a11 (Int.toNat n2 * (3 : Nat))) (2 : Nat)) (Value.int IntKind.i64 n18) ∧
  ∃ (q8 : Option Addr),
  ∃ (k13 : Nat),
  ∃ (k14 : Nat),
  cellAt w27 (Addr.add a2 (0 : Nat)) (Value.slice q8 k13 k14) ∧ h4 [Value.bool (decide (n18 < (↑k13 : Int)))] w27) ∧
  (decide (n17 ≥ (0 : Int)) = false → h4 [Value.bool false] w27)) ∧
  ∀ (w28 : World) (b9 : Bool)
  (v164 v165 v166 v167 v168 v169 v170 v171 v172 v173 v174 v175 v176 v177 v178 v179 v180 : Value),
  h4 [Value.bool b9] w28 →
  ∃ (h5 : List Value → World → Prop),
  (Drw w28 fun (w29 : World) =>
  ((!b5) = false →
  ((n11 != n14) = false →
  ((!b6 == b7) = false →
  ((!b8 == b9) = false →
  (b9 = true →
  (0 : Int) ≤ n2 ∧
  n2 < (↑l : Int) ∧
  someR q fun (a12 : Addr) =>
  ∃ (q9 : Option Addr),
  ∃ (k15 : Nat),
  ∃ (k16 : Nat),
  cellAt w29 (Addr.add a2 (0 : Nat)) (Value.slice q9 k15 k16) ∧
  ∃ (n19 : Int),
  cellAt w29 (Addr.add (Addr.add a12 (Int.toNat n2 * (3 : Nat))) (2 : Nat)) (Value.int IntKind.i64 n19) ∧
  (0 : Int) ≤ n19 ∧
  n19 < (↑k15 : Int) ∧
  someR q9 fun (a13 : Addr) =>
  ∃ (n20 : Int),
  cellAt w29 (Addr.add (Addr.add a13 (Int.toNat n19 * (2 : Nat))) (0 : Nat)) (Value.int IntKind.u64 n20) ∧
  ((n16 != n20) = false →
  ((!b9) = true → h5 [Value.bool (n16 != (0 : Int))] w29) ∧ ((!b9) = false → h5 [Value.bool false] w29)) ∧
  ((n16 != n20) = true → h5 [Value.bool true] w29)) ∧
  (b9 = false → ((!b9) = true → h5 [Value.bool (n16 != (0 : Int))] w29) ∧ ((!b9) = false → h5 [Value.bool false] w29))) ∧
  ((!b8 == b9) = true → h5 [Value.bool true] w29)) ∧
  ((!b6 == b7) = true → h5 [Value.bool true] w29)) ∧
  ((n11 != n14) = true → h5 [Value.bool true] w29)) ∧
  ((!b5) = true → h5 [Value.bool true] w29)) ∧
  ∀ (w30 : World)
  (v181 v182 v183 v184 v185 v186 v187 v188 v189 v190 v191 v192 v193 v194 v195 v196 v197 v198 v199 v200 v201 v202 v203 v204
  v205 v206 v207 v208 v209 v210 v211 v212 v213 v214 v215 v216 v217 v218 v219 v220 v221 : Value)
  (b10 : Bool),
  h5 [Value.bool b10] w30 →
  (b10 = true →
  StoreR a1 [Value.bool false] w30 fun (w31 : World) =>
  ∃ (b11 : Bool), cellAt w31 a1 (Value.bool b11) ∧ K (Value.bool b11) w31) ∧
  (b10 = false →
  ∃ (h6 : List Value → World → Prop),
  (Drw w30 fun (w32 : World) =>
  ∃ (h7 : World → Prop),
  h7 w32 ∧
  ∃ (q10 : Option Addr),
  ∃ (k17 : Nat),
  ∃ (k18 : Nat),
  ∃ (n21 : Int),
  ((∀ (w33 : World), h7 w33 → World.cell? w33 (Addr.add a2 (0 : Nat)) = some (Value.slice q10 k17 k18)) ∧
  ∀ (w34 : World), h7 w34 → World.cell? w34 (Addr.add a2 ((0 : Nat) + (1 : Nat))) = some (Value.int IntKind.i64 n21)) ∧
  Rets Try.prog (7 : Nat) { toList := [Value.pointer q1] } w32 fun (v222 : Value) (w35 : World) =>
  ∃ (n22 : Int),
  v222 = Value.int IntKind.i64 n22 ∧
  h7 w35 ∧
  Rets Try.prog (22 : Nat) { toList := [Value.agg { toList := [Value.slice q10 k17 k18, Value.int IntKind.i64 n21] }] }
  w35 fun (v223 : Value) (w36 : World) =>
  ∃ (n23 : Int),
  v223 = Value.int IntKind.i64 n23 ∧
  h7 w36 ∧
  ((n22 != n23) = false →
  ∃ (n24 : Int),
  (∀ (w37 : World), h7 w37 → World.cell? w37 (Addr.add a2 (1 : Nat)) = some (Value.int IntKind.i64 n24)) ∧
  Rets Try.prog (9 : Nat) { toList := [Value.pointer q1] } w36 fun (v224 : Value) (w38 : World) =>
  ∃ (n25 : Int),
  v224 = Value.int IntKind.i64 n25 ∧
  h7 w38 ∧
  ((n25 != n24) = false →
  ∃ (n26 : Int),
  (∀ (w39 : World), h7 w39 → World.cell? w39 (Addr.add a2 (1 : Nat)) = some (Value.int IntKind.i64 n26)) ∧
  ∃ (q11 : Option Addr),
  ∃ (k19 : Nat),
  ∃ (k20 : Nat),
  ∃ (n27 : Int),
  ((∀ (w40 : World), h7 w40 → World.cell? w40 (Addr.add a2 (0 : Nat)) = some (Value.slice q11 k19 k20)) ∧
  ∀ (w41 : World), h7 w41 → World.cell? w41 (Addr.add a2 ((0 : Nat) + (1 : Nat))) = some (Value.int IntKind.i64 n27)) ∧
  Rets Try.prog (18 : Nat) { toList := [Value.pointer q1] } w38 fun (v225 : Value) (w42 : World) =>
  ∃ (n28 : Int),
  v225 = Value.int IntKind.i64 n28 ∧
  h7 w42 ∧
  Rets Try.prog (22 : Nat) { toList := [Value.agg { toList := [Value.slice q11 k19 k20, Value.int IntKind.i64 n27] }] }
  w42 fun (v226 : Value) (w43 : World) =>
  ∃ (n29 : Int),
  v226 = Value.int IntKind.i64 n29 ∧
  h7 w43 ∧
  ((n28 != IntKind.wrap IntKind.i64 (n26 - n29)) = false →
  ∃ (q12 : Option Addr),
  ∃ (k21 : Nat),
  ∃ (k22 : Nat),
  (∀ (w44 : World), h7 w44 → World.cell? w44 (Addr.add a2 (0 : Nat)) = some (Value.slice q12 k21 k22)) ∧
  Rets Try.prog (8 : Nat) { toList := [Value.pointer q1] } w43 fun (v227 : Value) (w45 : World) =>
  ∃ (n30 : Int), v227 = Value.int IntKind.i64 n30 ∧ h7 w45 ∧ h6 [Value.bool (n30 != (↑k21 : Int))] w45) ∧
  ((n28 != IntKind.wrap IntKind.i64 (n26 - n29)) = true → h6 [Value.bool true] w43)) ∧
  ((n25 != n24) = true → h6 [Value.bool true] w38)) ∧
  ((n22 != n23) = true → h6 [Value.bool true] w36)) ∧
  ∀ (w46 : World)
  (v228 v229 v230 v231 v232 v233 v234 v235 v236 v237 v238 v239 v240 v241 v242 v243 v244 v245 v246 v247 v248 v249 v250 v251
  v252 v253 v254 v255 v256 : Value)
  (b12 : Bool),
  h6 [Value.bool b12] w46 →
  (b12 = true →
  StoreR a1 [Value.bool false] w46 fun (w47 : World) =>
  ∃ (b13 : Bool), cellAt w47 a1 (Value.bool b13) ∧ K (Value.bool b13) w47) ∧
  (b12 = false →
  ∃ (k23 : Nat), k23 < k2 ∧ h1 k23 [Value.int IntKind.i64 (IntKind.wrap IntKind.i64 (n2 + (1 : Int)))] w46))) ∧
  (decide (n2 < (↑l : Int)) = false →
  Rets Try.prog (23 : Nat) { toList := [Value.pointer q1] } w8 fun (v257 : Value) (w48 : World) =>
  ∃ (k24 : Nat),
  ∃ (a14 : Array Value),
  ∃ (c1 : Array Value),
  v257 = Value.func (Fn.func k24) a14 c1 ∧
  (false = true →
  StoreR a1 [Value.bool false] w48 fun (w49 : World) =>
  ∃ (b14 : Bool), cellAt w49 a1 (Value.bool b14) ∧ K (Value.bool b14) w49) ∧
  (false = false →
  NewR (3 : Nat) [Value.int IntKind.i64 (0 : Int)] w48 fun (a15 : Addr) (w50 : World) =>
  StoreR a15 [Value.int IntKind.i64 (0 : Int)] w50 fun (w51 : World) =>
  ∃ (v258 : Value),
  Value.func (Fn.func k24) a14 c1 = Value.func (Fn.func (47 : Nat)) { toList := [] } { toList := [v258] } ∧
  LoopR w51 fun (k25 k26 : Nat) (L1 : Loop) (w52 : World) =>
  (∀ (n31 n32 : Int) (w53 : World) (h8 : Value → World → Prop),
  RecR k26 L1 w53 →
  (BegR k26 L1 w53 fun (w54 : World) =>
  ∃ (h9 : List Value → World → Prop),
  (∃ (n33 : Int),
  cellAt w54 a15 (Value.int IntKind.i64 n33) ∧
  ∃ (q13 : Option Addr),
  ∃ (k27 : Nat),
  ∃ (k28 : Nat),
  cellAt w54 (Addr.add a2 (0 : Nat)) (Value.slice q13 k27 k28) ∧
  (decide (n33 ≥ (↑k27 : Int)) = false →
  ∃ (q14 : Option Addr),
  ∃ (k29 : Nat),
  ∃ (k30 : Nat),
  cellAt w54 (Addr.add a2 (0 : Nat)) (Value.slice q14 k29 k30) ∧
  ∃ (n34 : Int),
  cellAt w54 a15 (Value.int IntKind.i64 n34) ∧
  (0 : Int) ≤ n34 ∧
  n34 < (↑k29 : Int) ∧
  someR q14 fun (a16 : Addr) =>
  ∃ (n35 : Int),
  ∃ (n36 : Int),
  (cellAt w54 (Addr.add (Addr.add a16 (Int.toNat n34 * (2 : Nat))) (0 : Nat)) (Value.int IntKind.u64 n35) ∧
  cellAt w54 (Addr.add (Addr.add a16 (Int.toNat n34 * (2 : Nat))) (1 : Nat)) (Value.int IntKind.i64 n36)) ∧
  h9 [Value.bool !(n35 == n31 && n36 == n32)] w54) ∧
  (decide (n33 ≥ (↑k27 : Int)) = true → h9 [Value.bool true] w54)) ∧
  ∀ (w55 : World) (v259 v260 v261 v262 v263 v264 v265 v266 v267 v268 v269 v270 v271 v272 v273 : Value) (b15 : Bool),
  h9 [Value.bool b15] w55 →
  (b15 = true →
  StoreR a1 [Value.bool false] w55 fun (w56 : World) =>
  FinR k26 L1 (some Code.ret) w56 fun (w57 : World) => h8 (Value.bool false) w57) ∧
  (b15 = false →
  ∃ (n37 : Int),
  cellAt w55 a15 (Value.int IntKind.i64 n37) ∧
  StoreR a15 [Value.int IntKind.i64 (IntKind.wrap IntKind.i64 (n37 + (1 : Int)))] w55 fun (w58 : World) =>
  FinR k26 L1 none w58 fun (w59 : World) => h8 (Value.bool true) w59)) →
  RoundR Try.prog k26 { toList := [Value.int IntKind.u64 n31, Value.int IntKind.i64 n32] } w53 h8) →
  Rets Try.prog (47 : Nat) { toList := [Value.func (Fn.yield k26) { toList := [] } { toList := [] }, v258] } w52
  fun (v274 : Value) (w60 : World) =>
  (EndR k26 L1 none w60 fun (w61 : World) =>
  ∃ (h10 : List Value → World → Prop),
  (∃ (n38 : Int),
  cellAt w61 a15 (Value.int IntKind.i64 n38) ∧
  ∃ (q15 : Option Addr),
  ∃ (k31 : Nat),
  ∃ (k32 : Nat),
  cellAt w61 (Addr.add a2 (0 : Nat)) (Value.slice q15 k31 k32) ∧
  ((n38 == (↑k31 : Int)) = true →
  Rets Try.prog (5 : Nat) { toList := [] } w61 fun (v275 : Value) (w62 : World) =>
  ∃ (b16 : Bool), v275 = Value.bool b16 ∧ StoreR a1 [Value.bool b16] w62 fun (w63 : World) => h10 [] w63) ∧
  ((n38 == (↑k31 : Int)) = false → StoreR a1 [Value.bool false] w61 fun (w64 : World) => h10 [] w64)) ∧
  ∀ (w65 : World) (v276 v277 v278 v279 v280 v281 v282 v283 : Value),
  h10 [] w65 →
  MarkR k25 w65 fun (w66 : World) => ∃ (b17 : Bool), cellAt w66 a1 (Value.bool b17) ∧ K (Value.bool b17) w66) ∨
  EndR k26 L1 (some Code.ret) w60 fun (w67 : World) =>
  MarkR k25 w67 fun (w68 : World) => ∃ (b18 : Bool), cellAt w68 a1 (Value.bool b18) ∧ K (Value.bool b18) w68)))
theorem cortadolaw24_LedgerPlays_eq (n : Int) (q : Option Addr) (l c : Nat) (w : World) (K : Value → World → Prop) : fw Try.prog Try.f4 (annL [(2, [(7, some 3), (8, none), (9, none), (10, none), (11, none), (12, none), (13, none), (14, none), (15, none), (16, none), (30, none), (31, none), (32, none), (33, none), (34, none), (35, none), (36, none), (37, none), (38, none), (39, none), (40, none), (41, none), (42, none), (43, none), (44, none), (45, none), (46, none), (47, none), (48, none), (49, none), (50, none), (51, none), (52, none), (53, none), (54, none), (55, none), (56, none), (57, none), (58, none), (59, none), (60, none), (61, none), (62, none), (63, none), (64, none), (65, none), (66, none), (67, none), (68, none), (69, none), (70, none), (71, none), (72, none), (73, none), (74, none), (75, none), (76, none), (77, none), (78, none), (79, none), (80, none), (81, none), (82, none), (83, none), (84, none), (85, none), (86, none), (87, none), (88, none), (89, none), (90, none), (91, none), (92, none), (93, none), (94, none), (95, none), (96, none), (97, none), (98, none), (99, none), (100, none), (101, none), (102, none), (103, none), (104, none), (105, none), (106, none), (107, none), (108, none), (109, none), (110, none), (111, none), (112, none), (113, none), (114, none), (115, none), (116, none), (117, none), (118, none), (119, none), (120, none), (121, none), (122, none), (123, none), (124, none), (125, none), (126, none), (127, none), (128, none), (129, none), (130, none), (131, none), (132, none), (133, none), (134, none), (135, none), (136, none), (137, none), (138, none), (139, none), (140, none), (141, none), (142, none), (143, none), (144, none), (145, none), (146, none), (147, none), (148, none), (149, none), (150, none), (151, none), (152, none), (153, none), (154, none), (155, none), (156, none), (157, none), (158, none), (159, none), (160, none), (161, none), (162, none), (163, none), (164, none), (165, none)]), (9, [(171, some 28), (172, some 3)])]) (ordL [(2000007, [(8, 16), (9, 5), (36, 0), (37, 0), (38, 0), (39, 0), (40, 0), (41, 0), (42, 0), (43, 0), (44, 0), (45, 0)]), (7, [(0, 0), (2, 0), (3, 0), (4, 0), (1, 1), (5, 1), (0, 6), (6, 2), (7, 0), (8, 0), (9, 0), (10, 2), (11, 2), (12, 0), (0, 7), (10, 2), (6, 2), (7, 0), (8, 0), (9, 0), (11, 2), (12, 0), (0, 7)]), (10, [(1, 0), (2, 0), (3, 0), (4, 0), (0, 1), (5, 1), (6, 3), (7, 0), (8, 0), (9, 0), (10, 0), (11, 0)]), (2000012, [(16, 5), (77, 0), (78, 0), (79, 0), (80, 0), (81, 0), (82, 0), (83, 0), (84, 0), (85, 0), (86, 0), (87, 0), (88, 0), (89, 0), (90, 0), (91, 0), (92, 0), (93, 0)]), (12, [(0, 0), (1, 0), (2, 0), (3, 0), (4, 1), (5, 0), (6, 0), (7, 0), (8, 0), (9, 0), (10, 0), (12, 0), (11, 1), (13, 1), (14, 0), (15, 0), (16, 0), (17, 0)]), (2000013, [(94, 0), (95, 0), (96, 0), (97, 0), (98, 0), (99, 0), (100, 0), (101, 0), (102, 0), (103, 0), (104, 0), (105, 0), (106, 0), (107, 0), (108, 0), (109, 0), (110, 0), (111, 0), (112, 0), (113, 0), (114, 0), (115, 0), (116, 0), (117, 0), (118, 0), (119, 0), (120, 0), (121, 0), (122, 0), (123, 0), (124, 0), (125, 0), (126, 0), (127, 0), (128, 0), (129, 0), (130, 0), (131, 0), (132, 0), (133, 0), (134, 0), (135, 5)]), (13, [(0, 0), (1, 0), (2, 0), (3, 0), (4, 0), (5, 0), (6, 0), (7, 0), (8, 0), (9, 0), (10, 0), (11, 0), (12, 0), (13, 0), (14, 0), (15, 0), (16, 0), (17, 0), (18, 0), (19, 0), (20, 0), (21, 0), (23, 0), (24, 0), (25, 0), (26, 0), (22, 1), (27, 1), (28, 0), (29, 0), (30, 1), (31, 0), (32, 0), (33, 0), (34, 0), (35, 0), (36, 0), (37, 0), (38, 0), (39, 0), (40, 0), (41, 0)]), (2000015, [(136, 0), (137, 0), (138, 0), (139, 0), (140, 0), (141, 0), (142, 0), (143, 0), (144, 0), (145, 0), (146, 0), (147, 0), (148, 0), (149, 0), (150, 0), (151, 0), (152, 0), (153, 0), (154, 0), (155, 0), (156, 0), (157, 0), (158, 0), (159, 0), (160, 0), (161, 0), (162, 0), (163, 0), (164, 0), (165, 5)]), (15, [(0, 0), (2, 1), (1, 2), (3, 2), (4, 0), (5, 0), (6, 0), (8, 0), (9, 1), (7, 2), (10, 0), (11, 0), (12, 0), (13, 0), (15, 0), (16, 1), (17, 1), (14, 2), (18, 2), (19, 0), (20, 0), (21, 0), (22, 0), (23, 0), (25, 0), (26, 1), (27, 0), (24, 2), (28, 0), (29, 0)]), (1000009, [(47, 1)]), (2000024, [(173, 0), (174, 0), (175, 0), (176, 0), (177, 0), (178, 0), (179, 0), (180, 0), (181, 0), (182, 0), (183, 0), (184, 0), (185, 0), (186, 0), (187, 0), (188, 5)]), (2000027, [(191, 0), (192, 0), (193, 0), (194, 0), (195, 0), (196, 0), (197, 0), (198, 0)])]) [.int .i64 n, .slice q l c] w K = cortadolaw24_LedgerPlays_m n q l c w K := by kernel_rfl
theorem cortadolaw24_LedgerPlays_go (n : Int) (q : Option Addr) (l c : Nat) {w : World} {K : Value → World → Prop} (h : cortadolaw24_LedgerPlays_m n q l c w K) : Rets Try.prog 4 #[.int .i64 n, .slice q l c] w K :=
  calls_of_fw plain mixed Try.func4 (by kernel_rfl) (by rw [cortadolaw24_LedgerPlays_eq]; exact h)
end Go.Proofs.Ytajckpjlliiekaa.Eng
