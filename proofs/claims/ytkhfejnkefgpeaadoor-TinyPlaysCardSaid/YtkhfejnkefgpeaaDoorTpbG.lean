/- What the code of these functions asks for: printed by a program of this session's (gens.py) out of the seat's own functions; the kernel checks each row. -/
import Derived.Test.YtkhfejnkefgpeaaDoorEngH
import Derived.Test.YtkhfejnkefgpeaaDoorProg
import Derived.Test.YtkhfejnkefgpeaaDoorBase
namespace Go.Proofs.YtkhfejnkefgpeaaDoor.Eng
open Go Go.Proofs
set_option linter.unusedVariables false
set_option maxRecDepth 1000000
def sketch_Sketch_Clear_m (g : Nat) (w : World) (K : Value → World → Prop) : Prop :=
  (false = true → K (Value.tuple { toList := [] }) w) ∧
  (false = false →
  ∃ (q1 : Option Addr),
  ∃ (q2 : Option Addr),
  ∃ (q3 : Option Addr),
  ∃ (q4 : Option Addr),
  (cellAt w (Addr.add (Addr.add { block := g, off := (0 : Nat) } (0 : Nat)) (0 : Nat)) (Value.pointer q1) ∧
  cellAt w (Addr.add (Addr.add { block := g, off := (0 : Nat) } (0 : Nat)) (1 : Nat)) (Value.pointer q2) ∧
  cellAt w (Addr.add (Addr.add { block := g, off := (0 : Nat) } (0 : Nat)) (2 : Nat)) (Value.pointer q3) ∧
  cellAt w (Addr.add (Addr.add { block := g, off := (0 : Nat) } (0 : Nat)) (3 : Nat)) (Value.pointer q4)) ∧
  ∃ (h1 : Nat → List Value → World → Prop),
  (∃ (k1 : Nat), h1 k1 [Value.int IntKind.i64 (0 : Int)] w) ∧
  ∀ (k2 : Nat) (w1 : World) (v1 : Value) (n1 : Int) (v2 v3 v4 v5 v6 : Value),
  h1 k2 [Value.int IntKind.i64 n1] w1 →
  (decide (n1 < (4 : Int)) = true →
  (0 : Int) ≤ n1 ∧
  n1 < (↑(4 : Nat) : Int) ∧
  ∃ (q5 : Option Addr),
  List.get?Internal (Array.toList { toList := [Value.pointer q1, Value.pointer q2, Value.pointer q3, Value.pointer q4] })
  (Int.toNat n1) =
  some (Value.pointer q5) ∧
  Rets Tryd.prog (46 : Nat) { toList := [Value.pointer q5] } w1 fun (v7 : Value) (w2 : World) =>
  v7 = Value.tuple { toList := [] } ∧
  ∃ (k3 : Nat), k3 < k2 ∧ h1 k3 [Value.int IntKind.i64 (IntKind.wrap IntKind.i64 (n1 + (1 : Int)))] w2) ∧
  (decide (n1 < (4 : Int)) = false → K (Value.tuple { toList := [] }) w1))
theorem sketch_Sketch_Clear_eq (g : Nat) (w : World) (K : Value → World → Prop) : fw Tryd.prog Tryd.f28 (annL [(2, [(3, none), (10, some 3), (11, none), (12, none), (13, none), (14, none), (15, none)])]) (ordL []) [.pointer (some ⟨g, 0, none⟩)] w K = sketch_Sketch_Clear_m g w K := by kernel_rfl
theorem sketch_Sketch_Clear_go (g : Nat) {w : World} {K : Value → World → Prop} (h : sketch_Sketch_Clear_m g w K) : Rets Tryd.prog 28 #[.pointer (some ⟨g, 0, none⟩)] w K :=
  calls_of_fw plain mixed Tryd.func28 (by kernel_rfl) (by rw [sketch_Sketch_Clear_eq]; exact h)
def tiny_Tiny_Clear_m (g : Nat) (w : World) (K : Value → World → Prop) : Prop :=
  (false = true → K (Value.tuple { toList := [] }) w) ∧
  (false = false →
  ∃ (q1 : Option Addr),
  cellAt w (Addr.add (Addr.add { block := g, off := (0 : Nat) } (0 : Nat)) (0 : Nat)) (Value.pointer q1) ∧
  Rets Tryd.prog (28 : Nat) { toList := [Value.pointer q1] } w fun (v1 : Value) (w1 : World) =>
  v1 = Value.tuple { toList := [] } ∧
  ∃ (q2 : Option Addr),
  cellAt w1 (Addr.add (Addr.add { block := g, off := (0 : Nat) } (0 : Nat)) (1 : Nat)) (Value.pointer q2) ∧
  Rets Tryd.prog (29 : Nat) { toList := [Value.pointer q2] } w1 fun (v2 : Value) (w2 : World) =>
  v2 = Value.tuple { toList := [] } ∧
  StoreR (Addr.add { block := g, off := (0 : Nat) } (2 : Nat)) [Value.int IntKind.i64 (0 : Int)] w2 fun (w3 : World) =>
  StoreR (Addr.add { block := g, off := (0 : Nat) } (4 : Nat)) [Value.int IntKind.i64 (0 : Int)] w3 fun (w4 : World) =>
  K (Value.tuple { toList := [] }) w4)
theorem tiny_Tiny_Clear_eq (g : Nat) (w : World) (K : Value → World → Prop) : fw Tryd.prog Tryd.f15 (annL []) (ordL []) [.pointer (some ⟨g, 0, none⟩)] w K = tiny_Tiny_Clear_m g w K := by kernel_rfl
theorem tiny_Tiny_Clear_go (g : Nat) {w : World} {K : Value → World → Prop} (h : tiny_Tiny_Clear_m g w K) : Rets Tryd.prog 15 #[.pointer (some ⟨g, 0, none⟩)] w K :=
  calls_of_fw plain mixed Tryd.func15 (by kernel_rfl) (by rw [tiny_Tiny_Clear_eq]; exact h)
def cortadolaw13_TinyPlays_m (n s : Int) (q : Option Addr) (l c : Nat) (w : World) (K : Value → World → Prop) : Prop :=
  (decide (n > (64 : Int)) = false →
  (decide ((↑l : Int) > (12 : Int)) = true →
  Rets Tryd.prog (5 : Nat) { toList := [] } w fun (v1 : Value) (w1 : World) =>
  ∃ (b1 : Bool), v1 = Value.bool b1 ∧ K (Value.bool b1) w1) ∧
  (decide ((↑l : Int) > (12 : Int)) = false →
  Rets Tryd.prog (6 : Nat) { toList := [Value.int IntKind.i64 n, Value.int IntKind.u64 s] } w
  fun (v2 : Value) (w2 : World) =>
  ∃ (q1 : Option Addr),
  v2 = Value.pointer q1 ∧
  Rets Tryd.prog (7 : Nat) { toList := [Value.int IntKind.i64 n, Value.int IntKind.u64 s] } w2
  fun (v3 : Value) (w3 : World) =>
  ∃ (q2 : Option Addr),
  ∃ (k1 : Nat),
  ∃ (k2 : Nat),
  ∃ (n1 : Int),
  ∃ (n2 : Int),
  ∃ (q3 : Option Addr),
  ∃ (k3 : Nat),
  ∃ (k4 : Nat),
  ∃ (n3 : Int),
  ∃ (n4 : Int),
  ∃ (n5 : Int),
  ∃ (n6 : Int),
  ∃ (n7 : Int),
  ∃ (n8 : Int),
  v3 =
  Value.agg
  {
  toList :=
  [Value.slice q2 k1 k2, Value.int IntKind.i64 n1, Value.int IntKind.u64 n2, Value.slice q3 k3 k4,
  Value.int IntKind.u64 n3, Value.int IntKind.i64 n4, Value.int IntKind.i64 n5, Value.int IntKind.i64 n6,
  Value.int IntKind.i64 n7, Value.int IntKind.u64 n8] } ∧
  NewR (34 : Nat)
  [Value.slice none (0 : Nat) (0 : Nat), Value.int IntKind.i64 (0 : Int), Value.int IntKind.u64 (0 : Int),
  Value.slice none (0 : Nat) (0 : Nat), Value.int IntKind.u64 (0 : Int), Value.int IntKind.i64 (0 : Int),
  Value.int IntKind.i64 (0 : Int), Value.int IntKind.i64 (0 : Int), Value.int IntKind.i64 (0 : Int),
  Value.int IntKind.u64 (0 : Int)]
  w3 fun (a1 : Addr) (w4 : World) =>
  StoreR a1
  [Value.slice q2 k1 k2, Value.int IntKind.i64 n1, Value.int IntKind.u64 n2, Value.slice q3 k3 k4,
  Value.int IntKind.u64 n3, Value.int IntKind.i64 n4, Value.int IntKind.i64 n5, Value.int IntKind.i64 n6,
  Value.int IntKind.i64 n7, Value.int IntKind.u64 n8]
  w4 fun (w5 : World) =>
  ∃ (h1 : Nat → List Value → World → Prop),
  (∃ (k5 : Nat), h1 k5 [Value.int IntKind.i64 (0 : Int)] w5) ∧
  ∀ (k6 : Nat) (w6 : World) (v4 : Value) (n9 : Int)
  (v5 v6 v7 v8 v9 v10 v11 v12 v13 v14 v15 v16 v17 v18 v19 v20 v21 v22 v23 v24 v25 v26 v27 v28 v29 v30 v31 v32 v33 v34 v35
  v36 v37 v38 v39 v40 v41 v42 v43 v44 v45 v46 v47 v48 v49 v50 v51 v52 v53 v54 v55 v56 v57 v58 v59 v60 v61 v62 v63 v64 v65
  v66 v67 v68 v69 v70 v71 v72 v73 v74 v75 v76 v77 v78 v79 v80 v81 v82 v83 : Value),
  h1 k6 [Value.int IntKind.i64 n9] w6 →
  (decide (n9 < (↑l : Int)) = true →
  (0 : Int) ≤ n9 ∧
  n9 < (↑l : Int) ∧
  someR q fun (a2 : Addr) =>
  ∃ (q4 : Option Addr),
  ∃ (k7 : Nat),
  ∃ (k8 : Nat),
  cellAt w6 (Addr.add a2 (Int.toNat n9 * (1 : Nat))) (Value.slice q4 k7 k8) ∧
  (decide ((↑k7 : Int) > (12 : Int)) = true →
  Rets Tryd.prog (5 : Nat) { toList := [] } w6 fun (v84 : Value) (w7 : World) =>
  ∃ (b2 : Bool), v84 = Value.bool b2 ∧ K (Value.bool b2) w7) ∧
  (decide ((↑k7 : Int) > (12 : Int)) = false →
  (0 : Int) ≤ n9 ∧
  n9 < (↑l : Int) ∧
  someR q fun (a3 : Addr) =>
  ∃ (q5 : Option Addr),
  ∃ (k9 : Nat),
  ∃ (k10 : Nat),
  cellAt w6 (Addr.add a3 (Int.toNat n9 * (1 : Nat))) (Value.slice q5 k9 k10) ∧
  Rets Tryd.prog (8 : Nat) { toList := [Value.pointer q1, Value.slice q5 k9 k10] } w6 fun (v85 : Value) (w8 : World) =>
  v85 = Value.tuple { toList := [] } ∧
  Drw w8 fun (w9 : World) =>
  (0 : Int) ≤ n9 ∧
  n9 < (↑l : Int) ∧
  someR q fun (a4 : Addr) =>
  ∃ (q6 : Option Addr),
  ∃ (k11 : Nat),
  ∃ (k12 : Nat),
  ∃ (n10 : Int),
  ∃ (n11 : Int),
  ∃ (q7 : Option Addr),
  ∃ (k13 : Nat),
  ∃ (k14 : Nat),
  ∃ (n12 : Int),
  ∃ (n13 : Int),
  ∃ (n14 : Int),
  ∃ (n15 : Int),
  ∃ (n16 : Int),
  ∃ (n17 : Int),
  (cellAt w9 (Addr.add a1 (0 : Nat)) (Value.slice q6 k11 k12) ∧
  cellAt w9 (Addr.add a1 (1 : Nat)) (Value.int IntKind.i64 n10) ∧
  cellAt w9 (Addr.add a1 (2 : Nat)) (Value.int IntKind.u64 n11) ∧
  cellAt w9 (Addr.add a1 (3 : Nat)) (Value.slice q7 k13 k14) ∧
  cellAt w9 (Addr.add a1 (4 : Nat)) (Value.int IntKind.u64 n12) ∧
  cellAt w9 (Addr.add a1 (5 : Nat)) (Value.int IntKind.i64 n13) ∧
  cellAt w9 (Addr.add a1 (6 : Nat)) (Value.int IntKind.i64 n14) ∧
  cellAt w9 (Addr.add a1 (7 : Nat)) (Value.int IntKind.i64 n15) ∧
  cellAt w9 (Addr.add a1 (8 : Nat)) (Value.int IntKind.i64 n16) ∧
  cellAt w9 (Addr.add a1 (9 : Nat)) (Value.int IntKind.u64 n17)) ∧
  ∃ (q8 : Option Addr),
  ∃ (k15 : Nat),
  ∃ (k16 : Nat),
  cellAt w9 (Addr.add a4 (Int.toNat n9 * (1 : Nat))) (Value.slice q8 k15 k16) ∧
  Rets Tryd.prog (9 : Nat)
  {
  toList :=
  [Value.agg
  {
  toList :=
  [Value.slice q6 k11 k12, Value.int IntKind.i64 n10, Value.int IntKind.u64 n11, Value.slice q7 k13 k14,
  Value.int IntKind.u64 n12, Value.int IntKind.i64 n13, Value.int IntKind.i64 n14, Value.int IntKind.i64 n15,
  Value.int IntKind.i64 n16, Value.int IntKind.u64 n17] },
  Value.slice q8 k15 k16] }
  w9 fun (v86 : Value) (w10 : World) =>
  ∃ (q9 : Option Addr),
  ∃ (k17 : Nat),
  ∃ (k18 : Nat),
  ∃ (n18 : Int),
  ∃ (n19 : Int),
  ∃ (q10 : Option Addr),
  ∃ (k19 : Nat),
  ∃ (k20 : Nat),
  ∃ (n20 : Int),
  ∃ (n21 : Int),
  ∃ (n22 : Int),
  ∃ (n23 : Int),
  ∃ (n24 : Int),
  ∃ (n25 : Int),
  v86 =
  Value.agg
  {
  toList :=
  [Value.slice q9 k17 k18, Value.int IntKind.i64 n18, Value.int IntKind.u64 n19, Value.slice q10 k19 k20,
  Value.int IntKind.u64 n20, Value.int IntKind.i64 n21, Value.int IntKind.i64 n22, Value.int IntKind.i64 n23,
  Value.int IntKind.i64 n24, Value.int IntKind.u64 n25] } ∧
  StoreR a1
  [Value.slice q9 k17 k18, Value.int IntKind.i64 n18, Value.int IntKind.u64 n19, Value.slice q10 k19 k20,
  Value.int IntKind.u64 n20, Value.int IntKind.i64 n21, Value.int IntKind.i64 n22, Value.int IntKind.i64 n23,
  Value.int IntKind.i64 n24, Value.int IntKind.u64 n25]
  w10 fun (w11 : World) =>
  Drw w11 fun (w12 : World) =>
  ∃ (h2 : World → Prop),
  h2 w12 ∧
  ∃ (n26 : Int),
  (∀ (w13 : World), h2 w13 → World.cell? w13 (Addr.add a1 (5 : Nat)) = some (Value.int IntKind.i64 n26)) ∧
  Rets Tryd.prog (10 : Nat) { toList := [Value.pointer q1] } w12 fun (v87 : Value) (w14 : World) =>
  ∃ (n27 : Int),
  v87 = Value.int IntKind.i64 n27 ∧
  h2 w14 ∧
  ((n27 != n26) = false →
  ∃ (n28 : Int),
  (∀ (w15 : World), h2 w15 → World.cell? w15 (Addr.add a1 (7 : Nat)) = some (Value.int IntKind.i64 n28)) ∧
  Rets Tryd.prog (11 : Nat) { toList := [Value.pointer q1] } w14 fun (v88 : Value) (w16 : World) =>
  ∃ (n29 : Int),
  v88 = Value.int IntKind.i64 n29 ∧
  h2 w16 ∧
  ((n29 != n28) = false →
  ∃ (n30 : Int),
  (∀ (w17 : World), h2 w17 → World.cell? w17 (Addr.add a1 (6 : Nat)) = some (Value.int IntKind.i64 n30)) ∧
  Rets Tryd.prog (12 : Nat) { toList := [Value.pointer q1] } w16 fun (v89 : Value) (w18 : World) =>
  ∃ (n31 : Int),
  v89 = Value.int IntKind.i64 n31 ∧
  h2 w18 ∧
  ((n31 != n30) = true → K (Value.bool false) w18) ∧
  ((n31 != n30) = false →
  ∃ (h3 : Nat → List Value → World → Prop),
  (∃ (k21 : Nat), h3 k21 [Value.int IntKind.i64 (0 : Int)] w18) ∧
  ∀ (k22 : Nat) (w19 : World) (v90 : Value) (n32 : Int)
  (v91 v92 v93 v94 v95 v96 v97 v98 v99 v100 v101 v102 v103 v104 v105 v106 v107 v108 v109 v110 v111 v112 v113 v114 v115
  v116 v117 v118 v119 v120 v121 v122 v123 v124 : Value),
  h3 k22 [Value.int IntKind.i64 n32] w19 →
  (decide (n32 ≤ n9) = true →
  ∃ (h4 : Nat → List Value → World → Prop),
  (∃ (k23 : Nat), h4 k23 [Value.int IntKind.i64 (0 : Int)] w19) ∧
  ∀ (k24 : Nat) (w20 : World) (v125 : Value) (n33 : Int)
  (v126 v127 v128 v129 v130 v131 v132 v133 v134 v135 v136 v137 v138 v139 v140 v141 v142 v143 v144 v145 v146 v147 v148 v149
  v150 v151 v152 v153 : Value),
  h4 k24 [Value.int IntKind.i64 n33] w20 →
  (0 : Int) ≤ n32 ∧
  n32 < (↑l : Int) ∧
  someR q fun (a5 : Addr) =>
  ∃ (q11 : Option Addr),
  ∃ (k25 : Nat),
  ∃ (k26 : Nat),
  cellAt w20 (Addr.add a5 (Int.toNat n32 * (1 : Nat))) (Value.slice q11 k25 k26) ∧
  (decide (n33 < (↑k25 : Int)) = true →
  Drw w20 fun (w21 : World) =>
  ∃ (h5 : World → Prop),
  h5 w21 ∧
  (0 : Int) ≤ n32 ∧
  n32 < (↑l : Int) ∧
  someR q fun (a6 : Addr) =>
  (0 : Int) ≤ n32 ∧
  n32 < (↑l : Int) ∧
  someR q fun (a7 : Addr) =>
  ∃ (q12 : Option Addr),
  ∃ (k27 : Nat),
  ∃ (k28 : Nat),
  (∀ (w22 : World), h5 w22 → World.cell? w22 (Addr.add a6 (Int.toNat n32 * (1 : Nat))) = some (Value.slice q12 k27 k28)) ∧
  (0 : Int) ≤ n33 ∧
  n33 < (↑k27 : Int) ∧
  someR q12 fun (a8 : Addr) =>
  ∃ (n34 : Int),
  (∀ (w23 : World),
  h5 w23 → World.cell? w23 (Addr.add a8 (Int.toNat n33 * (1 : Nat))) = some (Value.int IntKind.u64 n34)) ∧
  ∃ (q13 : Option Addr),
  ∃ (k29 : Nat),
  ∃ (k30 : Nat),
  ∃ (n35 : Int),
  ∃ (n36 : Int),
  ∃ (q14 : Option Addr),
  ∃ (k31 : Nat),
  ∃ (k32 : Nat),
  ∃ (n37 : Int),
  ∃ (n38 : Int),
  ∃ (n39 : Int),
  ∃ (n40 : Int),
  ∃ (n41 : Int),
  ∃ (n42 : Int),
  ((∀ (w24 : World), h5 w24 → World.cell? w24 (Addr.add a1 (0 : Nat)) = some (Value.slice q13 k29 k30)) ∧
  (∀ (w25 : World), h5 w25 → World.cell? w25 (Addr.add a1 ((0 : Nat) + (1 : Nat))) = some (Value.int IntKind.i64 n35)) ∧
  (∀ (w26 : World),
  h5 w26 → World.cell? w26 (Addr.add a1 ((0 : Nat) + (1 : Nat) + (1 : Nat))) = some (Value.int IntKind.u64 n36)) ∧
  (∀ (w27 : World),
  h5 w27 →
  World.cell? w27 (Addr.add a1 ((0 : Nat) + (1 : Nat) + (1 : Nat) + (1 : Nat))) = some (Value.slice q14 k31 k32)) ∧
  (∀ (w28 : World),
  h5 w28 →
  World.cell? w28 (Addr.add a1 ((0 : Nat) + (1 : Nat) + (1 : Nat) + (1 : Nat) + (1 : Nat))) =
  some (Value.int IntKind.u64 n37)) ∧
  (∀ (w29 : World),
  h5 w29 →
  World.cell? w29 (Addr.add a1 ((0 : Nat) + (1 : Nat) + (1 : Nat) + (1 : Nat) + (1 : Nat) + (1 : Nat))) =
  some (Value.int IntKind.i64 n38)) ∧
  (∀ (w30 : World),
  h5 w30 →
  World.cell? w30 (Addr.add a1 ((0 : Nat) + (1 : Nat) + (1 : Nat) + (1 : Nat) + (1 : Nat) + (1 : Nat) + (1 : Nat))) =
  some (Value.int IntKind.i64 n39)) ∧
  (∀ (w31 : World),
  h5 w31 →
  World.cell? w31
  (Addr.add a1 ((0 : Nat) + (1 : Nat) + (1 : Nat) + (1 : Nat) + (1 : Nat) + (1 : Nat) + (1 : Nat) + (1 : Nat))) =
  some (Value.int IntKind.i64 n40)) ∧
  (∀ (w32 : World),
  h5 w32 →
  World.cell? w32
  (Addr.add a1
  ((0 : Nat) + (1 : Nat) + (1 : Nat) + (1 : Nat) + (1 : Nat) + (1 : Nat) + (1 : Nat) + (1 : Nat) + (1 : Nat))) =
  some (Value.int IntKind.i64 n41)) ∧
  ∀ (w33 : World),
  h5 w33 →
  World.cell? w33
  (Addr.add a1
  ((0 : Nat) + (1 : Nat) + (1 : Nat) + (1 : Nat) + (1 : Nat) + (1 : Nat) + (1 : Nat) + (1 : Nat) + (1 : Nat) +
  (1 : Nat))) =
  some (Value.int IntKind.u64 n42)) ∧
  ∃ (q15 : Option Addr),
  ∃ (k33 : Nat),
  ∃ (k34 : Nat),
  (∀ (w34 : World), h5 w34 → World.cell? w34 (Addr.add a7 (Int.toNat n32 * (1 : Nat))) = some (Value.slice q15 k33 k34)) ∧
  (0 : Int) ≤ n33 ∧
  n33 < (↑k33 : Int) ∧
  someR q15 fun (a9 : Addr) =>
  ∃ (n43 : Int),
  (∀ (w35 : World),
  h5 w35 → World.cell? w35 (Addr.add a9 (Int.toNat n33 * (1 : Nat))) = some (Value.int IntKind.u64 n43)) ∧
  Rets Tryd.prog (13 : Nat) { toList := [Value.pointer q1, Value.int IntKind.u64 n34] } w21
  fun (v154 : Value) (w36 : World) =>
  ∃ (n44 : Int),
  v154 = Value.int IntKind.i64 n44 ∧
  h5 w36 ∧
  Rets Tryd.prog (14 : Nat)
  {
  toList :=
  [Value.agg
  {
  toList :=
  [Value.slice q13 k29 k30, Value.int IntKind.i64 n35, Value.int IntKind.u64 n36, Value.slice q14 k31 k32,
  Value.int IntKind.u64 n37, Value.int IntKind.i64 n38, Value.int IntKind.i64 n39, Value.int IntKind.i64 n40,
  Value.int IntKind.i64 n41, Value.int IntKind.u64 n42] },
  Value.int IntKind.u64 n43] }
  w36 fun (v155 : Value) (w37 : World) =>
  ∃ (n45 : Int),
  v155 = Value.int IntKind.i64 n45 ∧
  ((n44 != n45) = true → K (Value.bool false) w37) ∧
  ((n44 != n45) = false →
  ∃ (k35 : Nat), k35 < k24 ∧ h4 k35 [Value.int IntKind.i64 (IntKind.wrap IntKind.i64 (n33 + (1 : Int)))] w37)) ∧
  (decide (n33 < (↑k25 : Int)) = false →
  ∃ (k36 : Nat), k36 < k22 ∧ h3 k36 [Value.int IntKind.i64 (IntKind.wrap IntKind.i64 (n32 + (1 : Int)))] w20)) ∧
  (decide (n32 ≤ n9) = false →
  ∃ (k37 : Nat), k37 < k6 ∧ h1 k37 [Value.int IntKind.i64 (IntKind.wrap IntKind.i64 (n9 + (1 : Int)))] w19))) ∧
  ((n29 != n28) = true → K (Value.bool false) w16)) ∧
  ((n27 != n26) = true → K (Value.bool false) w14))) ∧
  (decide (n9 < (↑l : Int)) = false →
  Rets Tryd.prog (15 : Nat) { toList := [Value.pointer q1] } w6 fun (v156 : Value) (w38 : World) =>
  v156 = Value.tuple { toList := [] } ∧
  Rets Tryd.prog (10 : Nat) { toList := [Value.pointer q1] } w38 fun (v157 : Value) (w39 : World) =>
  ∃ (n46 : Int),
  v157 = Value.int IntKind.i64 n46 ∧
  Rets Tryd.prog (11 : Nat) { toList := [Value.pointer q1] } w39 fun (v158 : Value) (w40 : World) =>
  ∃ (n47 : Int),
  v158 = Value.int IntKind.i64 n47 ∧
  Rets Tryd.prog (13 : Nat) { toList := [Value.pointer q1, Value.int IntKind.u64 s] } w40
  fun (v159 : Value) (w41 : World) =>
  ∃ (n48 : Int),
  v159 = Value.int IntKind.i64 n48 ∧
  ((IntKind.wrap IntKind.i64 (IntKind.wrap IntKind.i64 (n46 + n47) + n48) == (0 : Int)) = true →
  Rets Tryd.prog (5 : Nat) { toList := [] } w41 fun (v160 : Value) (w42 : World) =>
  ∃ (b3 : Bool), v160 = Value.bool b3 ∧ K (Value.bool b3) w42) ∧
  ((IntKind.wrap IntKind.i64 (IntKind.wrap IntKind.i64 (n46 + n47) + n48) == (0 : Int)) = false →
  K (Value.bool false) w41)))) ∧
  (decide (n > (64 : Int)) = true →
  Rets Tryd.prog (5 : Nat) { toList := [] } w fun (v161 : Value) (w43 : World) =>
  ∃ (b4 : Bool), v161 = Value.bool b4 ∧ K (Value.bool b4) w43)
theorem cortadolaw13_TinyPlays_eq (n s : Int) (q : Option Addr) (l c : Nat) (w : World) (K : Value → World → Prop) : fw Tryd.prog Tryd.f3 (annL [(2, [(6, none), (9, some 3), (10, none), (11, none), (26, none), (27, none), (28, none), (29, none), (30, none), (31, none), (32, none), (33, none), (34, none), (35, none), (36, none), (37, none), (38, none), (39, none), (40, none), (41, none), (42, none), (43, none), (44, none), (45, none), (46, none), (47, none), (48, none), (49, none), (50, none), (51, none), (52, none), (53, none), (54, none), (55, none), (56, none), (57, none), (58, none), (59, none), (60, none), (61, none), (62, none), (63, none), (64, none), (65, none), (66, none), (67, none), (68, none), (69, none), (70, none), (71, none), (72, none), (73, none), (74, none), (75, none), (76, none), (77, none), (78, none), (79, none), (80, none), (81, none), (82, none), (83, none), (84, none), (85, none), (86, none), (87, none), (88, none), (89, none), (90, none), (91, none), (92, none), (93, none), (94, none), (95, none), (96, none), (97, none), (98, none), (99, none), (100, none), (101, none), (102, none)]), (8, [(6, none), (10, some 3), (11, none), (70, none), (71, none), (72, none), (73, none), (74, none), (75, none), (76, none), (77, none), (78, none), (79, none), (80, none), (81, none), (82, none), (83, none), (84, none), (85, none), (86, none), (87, none), (88, none), (89, none), (90, none), (91, none), (92, none), (93, none), (94, none), (95, none), (96, none), (97, none), (98, none), (99, none), (100, none), (101, none), (102, none)]), (12, [(6, none), (11, some 3), (75, none), (76, none), (77, none), (78, none), (79, none), (80, none), (81, none), (82, none), (83, none), (84, none), (85, none), (86, none), (87, none), (88, none), (89, none), (90, none), (91, none), (92, none), (93, none), (94, none), (95, none), (96, none), (97, none), (98, none), (99, none), (100, none), (101, none), (102, none)])]) (ordL [(10, [(1, 0), (2, 0), (3, 0), (0, 1), (4, 1), (5, 3), (6, 3)]), (11, [(0, 0), (2, 0), (3, 1), (1, 2), (4, 0), (5, 0), (6, 0), (8, 0), (9, 1), (7, 2), (10, 0), (11, 0), (12, 0), (13, 0), (15, 0), (16, 1), (14, 2), (17, 0), (18, 0)]), (19, [(0, 0), (1, 0), (2, 0), (3, 0), (5, 0), (10, 0), (11, 0), (12, 0), (14, 0), (4, 1), (6, 0), (7, 1), (9, 1), (13, 1), (15, 0), (16, 1), (8, 2), (17, 3), (18, 0)])]) [.int .i64 n, .int .u64 s, .slice q l c] w K = cortadolaw13_TinyPlays_m n s q l c w K := by kernel_rfl
theorem cortadolaw13_TinyPlays_go (n s : Int) (q : Option Addr) (l c : Nat) {w : World} {K : Value → World → Prop} (h : cortadolaw13_TinyPlays_m n s q l c w K) : Rets Tryd.prog 3 #[.int .i64 n, .int .u64 s, .slice q l c] w K :=
  calls_of_fw plain mixed Tryd.func3 (by kernel_rfl) (by rw [cortadolaw13_TinyPlays_eq]; exact h)
end Go.Proofs.YtkhfejnkefgpeaaDoor.Eng
