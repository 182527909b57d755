/- What the code of these functions asks for: printed by a program of this session's (gens.py) out of the seat's own functions; the kernel checks each row. -/
import Derived.Test.YtfcddffcjmgpkaaEngH
import Derived.Test.YtfcddffcjmgpkaaProg
import Derived.Test.YtfcddffcjmgpkaaBase
namespace Go.Proofs.Ytfcddffcjmgpkaa.Eng
open Go Go.Proofs
set_option linter.unusedVariables false
set_option maxRecDepth 1000000
def cortadoref10_Add_m (q : Option Addr) (l : Nat) (c : Nat) (i : Int) (w : World) (K : Value → World → Prop) : Prop :=
  (decide (i < (0 : Int)) = false →
  (decide (i ≥ (↑l : Int)) = false →
  (0 : Int) ≤ i ∧
  i < (↑l : Int) ∧
  someR q fun (a1 : Addr) =>
  ∃ (n1 : Int),
  cellAt w (Addr.add a1 (Int.toNat i * (1 : Nat))) (Value.int IntKind.i64 n1) ∧
  (decide (n1 ≥ (15 : Int)) = true → K (Value.tuple { toList := [Value.slice q l c, Value.bool false] }) w) ∧
  (decide (n1 ≥ (15 : Int)) = false →
  NewR (3 : Nat) [] w fun (a2 : Addr) (w1 : World) =>
  RunR Try.prog
  (builtinV Builtin.append { toList := [(22 : Nat), (22 : Nat)] } (nat_lit 22)
  { toList := [Value.slice (some a2) (0 : Nat) (0 : Nat), Value.slice q l c] })
  w1 fun (v1 : Value) (w2 : World) =>
  ∃ (q1 : Option Addr),
  ∃ (k1 : Nat),
  ∃ (k2 : Nat),
  v1 = Value.slice q1 k1 k2 ∧
  (0 : Int) ≤ i ∧
  i < (↑k1 : Int) ∧
  someR q1 fun (a3 : Addr) =>
  ∃ (n2 : Int),
  cellAt w2 (Addr.add a3 (Int.toNat i * (1 : Nat))) (Value.int IntKind.i64 n2) ∧
  (0 : Int) ≤ i ∧
  i < (↑k1 : Int) ∧
  someR q1 fun (a4 : Addr) =>
  StoreR (Addr.add a4 (Int.toNat i * (1 : Nat))) [Value.int IntKind.i64 (IntKind.wrap IntKind.i64 (n2 + (1 : Int)))] w2
  fun (w3 : World) => K (Value.tuple { toList := [Value.slice q1 k1 k2, Value.bool true] }) w3)) ∧
  (decide (i ≥ (↑l : Int)) = true → K (Value.tuple { toList := [Value.slice q l c, Value.bool false] }) w)) ∧
  (decide (i < (0 : Int)) = true → K (Value.tuple { toList := [Value.slice q l c, Value.bool false] }) w)
theorem cortadoref10_Add_eq (q : Option Addr) (l : Nat) (c : Nat) (i : Int) (w : World) (K : Value → World → Prop) : fw Try.prog Try.f37 (annL []) (ordL []) [.slice q l c, .int .i64 i] w K = cortadoref10_Add_m q l c i w K := by kernel_rfl
theorem cortadoref10_Add_go (q : Option Addr) (l : Nat) (c : Nat) (i : Int) {w : World} {K : Value → World → Prop} (h : cortadoref10_Add_m q l c i w K) : Rets Try.prog 37 #[.slice q l c, .int .i64 i] w K :=
  calls_of_fw plain mixed Try.func37 (by kernel_rfl) (by rw [cortadoref10_Add_eq]; exact h)
def cortadoref10_Get_m (q : Option Addr) (l c : Nat) (i : Int) (w : World) (K : Value → World → Prop) : Prop :=
  (decide (i < (0 : Int)) = false →
  (decide (i ≥ (↑l : Int)) = true → K (Value.int IntKind.i64 (0 : Int)) w) ∧
  (decide (i ≥ (↑l : Int)) = false →
  (0 : Int) ≤ i ∧
  i < (↑l : Int) ∧
  someR q fun (a1 : Addr) =>
  ∃ (n1 : Int),
  cellAt w (Addr.add a1 (Int.toNat i * (1 : Nat))) (Value.int IntKind.i64 n1) ∧ K (Value.int IntKind.i64 n1) w)) ∧
  (decide (i < (0 : Int)) = true → K (Value.int IntKind.i64 (0 : Int)) w)
theorem cortadoref10_Get_eq (q : Option Addr) (l c : Nat) (i : Int) (w : World) (K : Value → World → Prop) : fw Try.prog Try.f36 (annL []) (ordL []) [.slice q l c, .int .i64 i] w K = cortadoref10_Get_m q l c i w K := by kernel_rfl
theorem cortadoref10_Get_go (q : Option Addr) (l c : Nat) (i : Int) {w : World} {K : Value → World → Prop} (h : cortadoref10_Get_m q l c i w K) : Rets Try.prog 36 #[.slice q l c, .int .i64 i] w K :=
  calls_of_fw plain mixed Try.func36 (by kernel_rfl) (by rw [cortadoref10_Get_eq]; exact h)
def cortadoref10_Halve_m (q : Option Addr) (l c : Nat) (w : World) (K : Value → World → Prop) : Prop :=
  ∃ (h1 : Nat → List Value → World → Prop),
  (∃ (k1 : Nat), h1 k1 [Value.slice none (0 : Nat) (0 : Nat), Value.int IntKind.i64 (0 : Int)] w) ∧
  ∀ (k2 : Nat) (w1 : World) (q1 : Option Addr) (k3 k4 : Nat) (n1 : Int)
  (v1 v2 v3 v4 v5 v6 v7 v8 v9 v10 v11 v12 v13 v14 : Value),
  h1 k2 [Value.slice q1 k3 k4, Value.int IntKind.i64 n1] w1 →
  (decide (n1 < (↑l : Int)) = true →
  (0 : Int) ≤ n1 ∧
  n1 < (↑l : Int) ∧
  someR q fun (a1 : Addr) =>
  ∃ (n2 : Int),
  cellAt w1 (Addr.add a1 (Int.toNat n1 * (1 : Nat))) (Value.int IntKind.i64 n2) ∧
  (2 : Int) ≠ (0 : Int) ∧
  NewR (3 : Nat) [Value.int IntKind.i64 (IntKind.wrap IntKind.i64 (Int.tdiv n2 (2 : Int)))] w1
  fun (a2 : Addr) (w2 : World) =>
  RunR Try.prog
  (builtinV Builtin.append { toList := [(22 : Nat), (22 : Nat)] } (nat_lit 22)
  { toList := [Value.slice q1 k3 k4, Value.slice (some a2) (1 : Nat) (1 : Nat)] })
  w2 fun (v15 : Value) (w3 : World) =>
  ∃ (q2 : Option Addr),
  ∃ (k5 : Nat),
  ∃ (k6 : Nat),
  v15 = Value.slice q2 k5 k6 ∧
  ∃ (k7 : Nat),
  k7 < k2 ∧ h1 k7 [Value.slice q2 k5 k6, Value.int IntKind.i64 (IntKind.wrap IntKind.i64 (n1 + (1 : Int)))] w3) ∧
  (decide (n1 < (↑l : Int)) = false → K (Value.slice q1 k3 k4) w1)
theorem cortadoref10_Halve_eq (q : Option Addr) (l c : Nat) (w : World) (K : Value → World → Prop) : fw Try.prog Try.f33 (annL [(1, [(3, some 22), (4, some 3), (5, none), (6, none), (7, none), (8, none), (9, none), (10, none), (11, none), (12, none), (13, none), (14, none), (15, none), (16, none), (17, none), (18, none)])]) (ordL []) [.slice q l c] w K = cortadoref10_Halve_m q l c w K := by kernel_rfl
theorem cortadoref10_Halve_go (q : Option Addr) (l c : Nat) {w : World} {K : Value → World → Prop} (h : cortadoref10_Halve_m q l c w K) : Rets Try.prog 33 #[.slice q l c] w K :=
  calls_of_fw plain mixed Try.func33 (by kernel_rfl) (by rw [cortadoref10_Halve_eq]; exact h)
def cortadoref10_Bytes_m (q : Option Addr) (l c : Nat) (w : World) (K : Value → World → Prop) : Prop :=
  ∃ (h1 : Nat → List Value → World → Prop),
  (∃ (k1 : Nat), h1 k1 [Value.slice none (0 : Nat) (0 : Nat), Value.int IntKind.i64 (0 : Int)] w) ∧
  ∀ (k2 : Nat) (w1 : World) (q1 : Option Addr) (k3 k4 : Nat) (n1 : Int)
  (v1 v2 v3 v4 v5 v6 v7 v8 v9 v10 v11 v12 v13 v14 v15 v16 v17 v18 v19 v20 : Value),
  h1 k2 [Value.slice q1 k3 k4, Value.int IntKind.i64 n1] w1 →
  (decide (n1 < (↑l : Int)) = true →
  Drw w1 fun (w2 : World) =>
  ∃ (h2 : World → Prop),
  h2 w2 ∧
  (0 : Int) ≤ n1 ∧
  n1 < (↑l : Int) ∧
  someR q fun (a1 : Addr) =>
  ∃ (n2 : Int),
  (∀ (w3 : World), h2 w3 → World.cell? w3 (Addr.add a1 (Int.toNat n1 * (1 : Nat))) = some (Value.int IntKind.i64 n2)) ∧
  Rets Try.prog (36 : Nat)
  { toList := [Value.slice q l c, Value.int IntKind.i64 (IntKind.wrap IntKind.i64 (n1 + (1 : Int)))] } w2
  fun (v21 : Value) (w4 : World) =>
  ∃ (n3 : Int),
  v21 = Value.int IntKind.i64 n3 ∧
  h2 w4 ∧
  NewR (5 : Nat)
  [Value.int IntKind.u8
  (IntKind.wrap IntKind.u8 (IntKind.wrap IntKind.i64 (n2 + IntKind.wrap IntKind.i64 ((16 : Int) * n3))))]
  w4 fun (a2 : Addr) (w5 : World) =>
  RunR Try.prog
  (builtinV Builtin.append { toList := [(45 : Nat), (45 : Nat)] } (nat_lit 45)
  { toList := [Value.slice q1 k3 k4, Value.slice (some a2) (1 : Nat) (1 : Nat)] })
  w5 fun (v22 : Value) (w6 : World) =>
  ∃ (q2 : Option Addr),
  ∃ (k5 : Nat),
  ∃ (k6 : Nat),
  v22 = Value.slice q2 k5 k6 ∧
  ∃ (k7 : Nat),
  k7 < k2 ∧ h1 k7 [Value.slice q2 k5 k6, Value.int IntKind.i64 (IntKind.wrap IntKind.i64 (n1 + (2 : Int)))] w6) ∧
  (decide (n1 < (↑l : Int)) = false → K (Value.slice q1 k3 k4) w1)
theorem cortadoref10_Bytes_eq (q : Option Addr) (l c : Nat) (w : World) (K : Value → World → Prop) : fw Try.prog Try.f98 (annL [(1, [(3, some 45), (4, some 3), (5, none), (6, none), (7, none), (8, none), (9, none), (10, none), (11, none), (12, none), (13, none), (14, none), (15, none), (16, none), (17, none), (18, none), (19, none), (20, none), (21, none), (22, none), (23, none), (24, none)])]) (ordL [(5, [(0, 0), (1, 0), (2, 0), (3, 0), (5, 0), (6, 0), (7, 0), (4, 1), (8, 2), (9, 0), (10, 0), (11, 0), (12, 3), (13, 3), (14, 0)])]) [.slice q l c] w K = cortadoref10_Bytes_m q l c w K := by kernel_rfl
theorem cortadoref10_Bytes_go (q : Option Addr) (l c : Nat) {w : World} {K : Value → World → Prop} (h : cortadoref10_Bytes_m q l c w K) : Rets Try.prog 98 #[.slice q l c] w K :=
  calls_of_fw plain mixed Try.func98 (by kernel_rfl) (by rw [cortadoref10_Bytes_eq]; exact h)
def cortadolaw10_stands_m (g : Nat) (q : Option Addr) (l c : Nat) (w : World) (K : Value → World → Prop) : Prop :=
  ∃ (h1 : Nat → List Value → World → Prop),
  (∃ (k1 : Nat), h1 k1 [Value.int IntKind.i64 (0 : Int), Value.int IntKind.i64 (0 : Int)] w) ∧
  ∀ (k2 : Nat) (w1 : World) (v1 : Value) (n1 n2 : Int)
  (v2 v3 v4 v5 v6 v7 v8 v9 v10 v11 v12 v13 v14 v15 v16 v17 v18 v19 v20 v21 : Value),
  h1 k2 [Value.int IntKind.i64 n1, Value.int IntKind.i64 n2] w1 →
  (decide (n2 < (↑l : Int)) = true →
  Drw w1 fun (w2 : World) =>
  ∃ (h2 : World → Prop),
  h2 w2 ∧
  (0 : Int) ≤ n2 ∧
  n2 < (↑l : Int) ∧
  someR q fun (a1 : Addr) =>
  ∃ (n3 : Int),
  (∀ (w3 : World), h2 w3 → World.cell? w3 (Addr.add a1 (Int.toNat n2 * (1 : Nat))) = some (Value.int IntKind.i64 n3)) ∧
  Rets Try.prog (35 : Nat) { toList := [Value.pointer (some { block := g, off := (0 : Nat) }), Value.int IntKind.i64 n2] }
  w2 fun (v22 : Value) (w4 : World) =>
  ∃ (n4 : Int),
  v22 = Value.int IntKind.i64 n4 ∧
  h2 w4 ∧
  ((n4 != n3) = true → K (Value.bool false) w4) ∧
  ((n4 != n3) = false →
  (0 : Int) ≤ n2 ∧
  n2 < (↑l : Int) ∧
  someR q fun (a2 : Addr) =>
  ∃ (n5 : Int),
  cellAt w4 (Addr.add a2 (Int.toNat n2 * (1 : Nat))) (Value.int IntKind.i64 n5) ∧
  ∃ (k3 : Nat),
  k3 < k2 ∧
  h1 k3
  [Value.int IntKind.i64 (IntKind.wrap IntKind.i64 (n1 + n5)),
  Value.int IntKind.i64 (IntKind.wrap IntKind.i64 (n2 + (1 : Int)))]
  w4)) ∧
  (decide (n2 < (↑l : Int)) = false →
  Drw w1 fun (w5 : World) =>
  ∃ (h3 : World → Prop),
  h3 w5 ∧
  Rets Try.prog (40 : Nat) { toList := [Value.pointer (some { block := g, off := (0 : Nat) })] } w5
  fun (v23 : Value) (w6 : World) =>
  ∃ (n6 : Int),
  v23 = Value.int IntKind.i64 n6 ∧
  h3 w6 ∧
  ((n6 == (↑l : Int)) = true →
  Rets Try.prog (41 : Nat) { toList := [Value.pointer (some { block := g, off := (0 : Nat) })] } w6
  fun (v24 : Value) (w7 : World) =>
  ∃ (n7 : Int),
  v24 = Value.int IntKind.i64 n7 ∧
  h3 w7 ∧
  ((n7 == n1) = true →
  Rets Try.prog (42 : Nat) { toList := [Value.pointer (some { block := g, off := (0 : Nat) })] } w7
  fun (v25 : Value) (w8 : World) =>
  ∃ (q1 : Option Addr),
  ∃ (k4 : Nat),
  ∃ (k5 : Nat),
  v25 = Value.slice q1 k4 k5 ∧
  ∃ (h4 : World → Prop),
  (∀ (w9 : World), h4 w9 → h3 w9) ∧
  h4 w8 ∧
  ∃ (v26 : Value),
  SameRun Try.prog h4 (convert (45 : Nat) (9 : Nat) (Value.slice q1 k4 k5)) v26 ∧
  ∃ (s1 : ByteArray),
  v26 = Value.string s1 ∧
  Rets Try.prog (98 : Nat) { toList := [Value.slice q l c] } w8 fun (v27 : Value) (w10 : World) =>
  ∃ (q2 : Option Addr),
  ∃ (k6 : Nat),
  ∃ (k7 : Nat),
  v27 = Value.slice q2 k6 k7 ∧
  ∃ (h5 : World → Prop),
  (∀ (w11 : World), h5 w11 → h4 w11) ∧
  h5 w10 ∧
  ∃ (v28 : Value),
  SameRun Try.prog h5 (convert (45 : Nat) (9 : Nat) (Value.slice q2 k6 k7)) v28 ∧
  ∃ (s2 : ByteArray), v28 = Value.string s2 ∧ K (Value.bool (ByteArray.toList s1 == ByteArray.toList s2)) w10) ∧
  ((n7 == n1) = false → K (Value.bool false) w7)) ∧
  ((n6 == (↑l : Int)) = false → K (Value.bool false) w6))
theorem cortadolaw10_stands_eq (g : Nat) (q : Option Addr) (l c : Nat) (w : World) (K : Value → World → Prop) : fw Try.prog Try.f39 (annL [(1, [(4, none), (5, some 3), (6, some 3), (7, none), (8, none), (9, none), (10, none), (11, none), (12, none), (13, none), (14, none), (15, none), (16, none), (17, none), (18, none), (19, none), (20, none), (21, none), (22, none), (23, none), (24, none), (25, none), (26, none)])]) (ordL [(5, [(0, 0), (1, 0), (3, 0), (4, 0), (5, 0), (6, 1), (2, 2), (7, 0)]), (8, [(0, 0), (2, 0), (3, 0), (1, 2), (4, 0), (5, 0), (6, 0), (8, 0), (7, 2), (9, 0), (10, 0), (11, 0), (12, 0), (15, 0), (13, 4), (14, 1), (16, 4), (17, 1), (18, 0), (19, 0), (20, 0)])]) [.pointer (some ⟨g, 0, none⟩), .slice q l c] w K = cortadolaw10_stands_m g q l c w K := by kernel_rfl
theorem cortadolaw10_stands_go (g : Nat) (q : Option Addr) (l c : Nat) {w : World} {K : Value → World → Prop} (h : cortadolaw10_stands_m g q l c w K) : Rets Try.prog 39 #[.pointer (some ⟨g, 0, none⟩), .slice q l c] w K :=
  calls_of_fw plain mixed Try.func39 (by kernel_rfl) (by rw [cortadolaw10_stands_eq]; exact h)
def cortadolaw10_NibblePlays_m (n : Int) (q : Option Addr) (l c : Nat) (times : Int) (w : World) (K : Value → World → Prop) : Prop :=
  (decide (n > (40 : Int)) = false →
  (decide ((↑l : Int) > (60 : Int)) = true →
  Rets Try.prog (30 : Nat) { toList := [] } w fun (v1 : Value) (w1 : World) =>
  ∃ (b1 : Bool), v1 = Value.bool b1 ∧ K (Value.bool b1) w1) ∧
  (decide ((↑l : Int) > (60 : Int)) = false →
  Rets Try.prog (31 : Nat) { toList := [Value.int IntKind.i64 n] } w fun (v2 : Value) (w2 : World) =>
  ∃ (q1 : Option Addr),
  v2 = Value.pointer q1 ∧
  MakeR (3 : Nat) [Value.int IntKind.i64 (0 : Int)] (8 : Nat) (maxI (0 : Int) n) (maxI (0 : Int) n) w2
  fun (a1 : Addr) (w3 : World) =>
  ∃ (h1 : Nat → List Value → World → Prop),
  (∃ (k1 : Nat),
  h1 k1
  [Value.slice (some a1) (Int.toNat (maxI (0 : Int) n)) (Int.toNat (maxI (0 : Int) n)), Value.int IntKind.i64 (0 : Int)]
  w3) ∧
  ∀ (k2 : Nat) (w4 : World) (v3 : Value) (q2 : Option Addr) (k3 k4 : Nat) (n1 : Int)
  (v4 v5 v6 v7 v8 v9 v10 v11 v12 v13 v14 v15 v16 v17 v18 v19 v20 v21 v22 v23 v24 v25 v26 v27 v28 v29 v30 v31 v32 v33 v34
  v35 v36 v37 v38 v39 v40 v41 v42 v43 v44 v45 v46 v47 v48 v49 v50 v51 v52 v53 v54 v55 v56 v57 v58 v59 v60 v61 v62 v63 v64
  v65 v66 v67 v68 v69 v70 v71 v72 v73 v74 v75 v76 v77 v78 v79 v80 v81 v82 v83 : Value),
  h1 k2 [Value.slice q2 k3 k4, Value.int IntKind.i64 n1] w4 →
  (decide (n1 < (↑l : Int)) = true →
  ∃ (h2 : Nat → List Value → World → Prop),
  (∃ (k5 : Nat), h2 k5 [Value.slice q2 k3 k4, Value.int IntKind.i64 (0 : Int)] w4) ∧
  ∀ (k6 : Nat) (w5 : World) (v84 : Value) (q3 : Option Addr) (k7 k8 : Nat) (n2 : Int)
  (v85 v86 v87 v88 v89 v90 v91 v92 v93 v94 v95 v96 v97 v98 v99 v100 v101 v102 v103 v104 v105 v106 v107 v108 v109 v110 v111
  v112 v113 v114 v115 v116 v117 v118 v119 v120 v121 v122 v123 v124 v125 v126 v127 v128 v129 v130 v131 v132 v133 v134 v135
  v136 v137 v138 v139 v140 v141 v142 v143 v144 v145 v146 v147 v148 v149 v150 v151 v152 v153 : Value),
  h2 k6 [Value.slice q3 k7 k8, Value.int IntKind.i64 n2] w5 →
  (20 : Int) ≠ (0 : Int) ∧
  (decide (n2 ≤ IntKind.wrap IntKind.i64 (Int.tmod times (20 : Int))) = true →
  (0 : Int) ≤ n1 ∧
  n1 < (↑l : Int) ∧
  someR q fun (a2 : Addr) =>
  ∃ (n3 : Int),
  cellAt w5 (Addr.add (Addr.add a2 (Int.toNat n1 * (2 : Nat))) (0 : Nat)) (Value.int IntKind.u64 n3) ∧
  (11 : Int) ≠ (0 : Int) ∧
  ((Int.tmod n3 (11 : Int) == (8 : Int)) = true →
  Rets Try.prog (32 : Nat) { toList := [Value.pointer q1] } w5 fun (v154 : Value) (w6 : World) =>
  v154 = Value.tuple { toList := [] } ∧
  Rets Try.prog (33 : Nat) { toList := [Value.slice q3 k7 k8] } w6 fun (v155 : Value) (w7 : World) =>
  ∃ (q4 : Option Addr),
  ∃ (k9 : Nat),
  ∃ (k10 : Nat),
  v155 = Value.slice q4 k9 k10 ∧
  ∃ (k11 : Nat),
  k11 < k6 ∧ h2 k11 [Value.slice q4 k9 k10, Value.int IntKind.i64 (IntKind.wrap IntKind.i64 (n2 + (1 : Int)))] w7) ∧
  ((Int.tmod n3 (11 : Int) == (8 : Int)) = false →
  ((Int.tmod n3 (11 : Int) == (9 : Int)) = true →
  Rets Try.prog (34 : Nat) { toList := [Value.pointer q1] } w5 fun (v156 : Value) (w8 : World) =>
  v156 = Value.tuple { toList := [] } ∧
  MakeR (3 : Nat) [Value.int IntKind.i64 (0 : Int)] (8 : Nat) (↑k7 : Int) (↑k7 : Int) w8 fun (a3 : Addr) (w9 : World) =>
  ∃ (k12 : Nat),
  k12 < k6 ∧
  h2 k12
  [Value.slice (some a3) (Int.toNat (↑k7 : Int)) (Int.toNat (↑k7 : Int)),
  Value.int IntKind.i64 (IntKind.wrap IntKind.i64 (n2 + (1 : Int)))]
  w9) ∧
  ((Int.tmod n3 (11 : Int) == (9 : Int)) = false →
  ((Int.tmod n3 (11 : Int) == (10 : Int)) = true →
  Drw w5 fun (w10 : World) =>
  ∃ (h3 : World → Prop),
  h3 w10 ∧
  (0 : Int) ≤ n1 ∧
  n1 < (↑l : Int) ∧
  someR q fun (a4 : Addr) =>
  (0 : Int) ≤ n1 ∧
  n1 < (↑l : Int) ∧
  someR q fun (a5 : Addr) =>
  ∃ (n4 : Int),
  (∀ (w11 : World),
  h3 w11 →
  World.cell? w11 (Addr.add (Addr.add a4 (Int.toNat n1 * (2 : Nat))) (1 : Nat)) = some (Value.int IntKind.i64 n4)) ∧
  ∃ (n5 : Int),
  (∀ (w12 : World),
  h3 w12 →
  World.cell? w12 (Addr.add (Addr.add a5 (Int.toNat n1 * (2 : Nat))) (1 : Nat)) = some (Value.int IntKind.i64 n5)) ∧
  Rets Try.prog (35 : Nat) { toList := [Value.pointer q1, Value.int IntKind.i64 n4] } w10
  fun (v157 : Value) (w13 : World) =>
  ∃ (n6 : Int),
  v157 = Value.int IntKind.i64 n6 ∧
  h3 w13 ∧
  Rets Try.prog (36 : Nat) { toList := [Value.slice q3 k7 k8, Value.int IntKind.i64 n5] } w13
  fun (v158 : Value) (w14 : World) =>
  ∃ (n7 : Int),
  v158 = Value.int IntKind.i64 n7 ∧
  ((!n6 == n7) = true → K (Value.bool false) w14) ∧
  ((!n6 == n7) = false →
  ∃ (k13 : Nat),
  k13 < k6 ∧ h2 k13 [Value.slice q3 k7 k8, Value.int IntKind.i64 (IntKind.wrap IntKind.i64 (n2 + (1 : Int)))] w14)) ∧
  ((Int.tmod n3 (11 : Int) == (10 : Int)) = false →
  (0 : Int) ≤ n1 ∧
  n1 < (↑l : Int) ∧
  someR q fun (a6 : Addr) =>
  ∃ (n8 : Int),
  cellAt w5 (Addr.add (Addr.add a6 (Int.toNat n1 * (2 : Nat))) (1 : Nat)) (Value.int IntKind.i64 n8) ∧
  Rets Try.prog (37 : Nat) { toList := [Value.slice q3 k7 k8, Value.int IntKind.i64 n8] } w5
  fun (v159 : Value) (w15 : World) =>
  ∃ (q5 : Option Addr),
  ∃ (k14 : Nat),
  ∃ (k15 : Nat),
  ∃ (b2 : Bool),
  v159 = Value.tuple { toList := [Value.slice q5 k14 k15, Value.bool b2] } ∧
  (0 : Int) ≤ n1 ∧
  n1 < (↑l : Int) ∧
  someR q fun (a7 : Addr) =>
  ∃ (n9 : Int),
  cellAt w15 (Addr.add (Addr.add a7 (Int.toNat n1 * (2 : Nat))) (1 : Nat)) (Value.int IntKind.i64 n9) ∧
  Rets Try.prog (38 : Nat) { toList := [Value.pointer q1, Value.int IntKind.i64 n9] } w15
  fun (v160 : Value) (w16 : World) =>
  ∃ (b3 : Bool),
  v160 = Value.bool b3 ∧
  ((!b3 == b2) = true → K (Value.bool false) w16) ∧
  ((!b3 == b2) = false →
  ∃ (k16 : Nat),
  k16 < k6 ∧ h2 k16 [Value.slice q5 k14 k15, Value.int IntKind.i64 (IntKind.wrap IntKind.i64 (n2 + (1 : Int)))] w16))))) ∧
  (decide (n2 ≤ IntKind.wrap IntKind.i64 (Int.tmod times (20 : Int))) = false →
  Rets Try.prog (39 : Nat) { toList := [Value.pointer q1, Value.slice q3 k7 k8] } w5 fun (v161 : Value) (w17 : World) =>
  ∃ (b4 : Bool),
  v161 = Value.bool b4 ∧
  ((!b4) = true → K (Value.bool false) w17) ∧
  ((!b4) = false →
  ∃ (k17 : Nat),
  k17 < k2 ∧ h1 k17 [Value.slice q3 k7 k8, Value.int IntKind.i64 (IntKind.wrap IntKind.i64 (n1 + (1 : Int)))] w17))) ∧
  (decide (n1 < (↑l : Int)) = false →
  Rets Try.prog (30 : Nat) { toList := [] } w4 fun (v162 : Value) (w18 : World) =>
  ∃ (b5 : Bool), v162 = Value.bool b5 ∧ K (Value.bool b5) w18))) ∧
  (decide (n > (40 : Int)) = true →
  Rets Try.prog (30 : Nat) { toList := [] } w fun (v163 : Value) (w19 : World) =>
  ∃ (b6 : Bool), v163 = Value.bool b6 ∧ K (Value.bool b6) w19)
theorem cortadolaw10_NibblePlays_eq (n : Int) (q : Option Addr) (l c : Nat) (times : Int) (w : World) (K : Value → World → Prop) : fw Try.prog Try.f6 (annL [(2, [(6, none), (8, some 22), (9, some 3), (10, none), (11, none), (12, none), (13, none), (27, none), (28, none), (29, none), (30, none), (31, none), (32, none), (33, none), (34, none), (35, none), (36, none), (37, none), (38, none), (39, none), (40, none), (41, none), (42, none), (43, none), (44, none), (45, none), (46, none), (47, none), (48, none), (49, none), (50, none), (51, none), (52, none), (53, none), (54, none), (55, none), (56, none), (57, none), (58, none), (59, none), (60, none), (61, none), (62, none), (63, none), (64, none), (65, none), (66, none), (67, none), (68, none), (69, none), (70, none), (71, none), (72, none), (73, none), (74, none), (75, none), (76, none), (77, none), (78, none), (79, none), (80, none), (81, none), (82, none), (83, none), (84, none), (85, none), (86, none), (87, none), (88, none), (89, none), (90, none), (91, none), (92, none), (93, none), (94, none), (95, none), (96, none), (97, none), (98, none), (99, none), (100, none), (101, none), (102, none)]), (6, [(6, none), (8, some 22), (10, some 3), (11, none), (12, none), (13, none), (33, none), (34, none), (35, none), (36, none), (37, none), (38, none), (39, none), (40, none), (41, none), (42, none), (43, none), (44, none), (45, none), (46, none), (47, none), (48, none), (49, none), (50, none), (51, none), (52, none), (53, none), (54, none), (55, none), (56, none), (57, none), (58, none), (59, none), (60, none), (61, none), (62, none), (63, none), (64, none), (65, none), (66, none), (67, none), (68, none), (69, none), (70, none), (71, none), (72, none), (73, none), (74, none), (75, none), (76, none), (77, none), (78, none), (79, none), (80, none), (81, none), (82, none), (83, none), (84, none), (85, none), (86, none), (87, none), (88, none), (89, none), (90, none), (91, none), (92, none), (93, none), (94, none), (95, none), (96, none), (97, none), (98, none)])]) (ordL [(23, [(0, 0), (1, 0), (2, 0), (3, 0), (4, 0), (7, 0), (8, 0), (9, 0), (10, 0), (11, 0), (5, 1), (12, 1), (6, 2), (13, 3), (14, 0), (15, 0)])]) [.int .i64 n, .slice q l c, .int .u64 times] w K = cortadolaw10_NibblePlays_m n q l c times w K := by kernel_rfl
theorem cortadolaw10_NibblePlays_go (n : Int) (q : Option Addr) (l c : Nat) (times : Int) {w : World} {K : Value → World → Prop} (h : cortadolaw10_NibblePlays_m n q l c times w K) : Rets Try.prog 6 #[.int .i64 n, .slice q l c, .int .u64 times] w K :=
  calls_of_fw plain mixed Try.func6 (by kernel_rfl) (by rw [cortadolaw10_NibblePlays_eq]; exact h)
end Go.Proofs.Ytfcddffcjmgpkaa.Eng
