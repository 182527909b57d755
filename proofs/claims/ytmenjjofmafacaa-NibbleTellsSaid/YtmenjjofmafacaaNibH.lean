/- What the code of these functions asks for: printed by a program of this session's (gens.py) out of the seat's own functions; the kernel checks each row. -/
import Derived.Test.YtmenjjofmafacaaEngH
import Derived.Test.YtmenjjofmafacaaProg
import Derived.Test.YtmenjjofmafacaaBase
namespace Go.Proofs.Ytmenjjofmafacaa.Eng
open Go Go.Proofs
set_option linter.unusedVariables false
set_option maxRecDepth 1000000
def cortadoref10_Add_m (q : Option Addr) (l : Nat) (c : Nat) (i : Int) (w : World) (K : Value → World → Prop) : Prop :=
  (decide (i < (0 : Int)) = false →
  (decide (i ≥ (↑l : Int)) = false →
  (0 : Int) ≤ i ∧
  i < (↑l : Int) ∧
  someR q fun (a1 : Addr) =>
  ∃ (n1 : Int),
  cellAt w (Addr.add a1 (Int.toNat i * (1 : Nat))) (Value.int IntKind.i64 n1) ∧
  (decide (n1 ≥ (15 : Int)) = true → K (Value.tuple { toList := [Value.slice q l c, Value.bool false] }) w) ∧
  (decide (n1 ≥ (15 : Int)) = false →
  NewR (3 : Nat) [] w fun (a2 : Addr) (w1 : World) =>
  RunR Try.prog
  (builtinV Builtin.append { toList := [(26 : Nat), (26 : Nat)] } (nat_lit 26)
  { toList := [Value.slice (some a2) (0 : Nat) (0 : Nat), Value.slice q l c] })
  w1 fun (v1 : Value) (w2 : World) =>
  ∃ (q1 : Option Addr),
  ∃ (k1 : Nat),
  ∃ (k2 : Nat),
  v1 = Value.slice q1 k1 k2 ∧
  (0 : Int) ≤ i ∧
  i < (↑k1 : Int) ∧
  someR q1 fun (a3 : Addr) =>
  ∃ (n2 : Int),
  cellAt w2 (Addr.add a3 (Int.toNat i * (1 : Nat))) (Value.int IntKind.i64 n2) ∧
  (0 : Int) ≤ i ∧
  i < (↑k1 : Int) ∧
  someR q1 fun (a4 : Addr) =>
  StoreR (Addr.add a4 (Int.toNat i * (1 : Nat))) [Value.int IntKind.i64 (IntKind.wrap IntKind.i64 (n2 + (1 : Int)))] w2
  fun (w3 : World) => K (Value.tuple { toList := [Value.slice q1 k1 k2, Value.bool true] }) w3)) ∧
  (decide (i ≥ (↑l : Int)) = true → K (Value.tuple { toList := [Value.slice q l c, Value.bool false] }) w)) ∧
  (decide (i < (0 : Int)) = true → K (Value.tuple { toList := [Value.slice q l c, Value.bool false] }) w)
theorem cortadoref10_Add_eq (q : Option Addr) (l : Nat) (c : Nat) (i : Int) (w : World) (K : Value → World → Prop) : fw Try.prog Try.f53 (annL []) (ordL []) [.slice q l c, .int .i64 i] w K = cortadoref10_Add_m q l c i w K := by kernel_rfl
theorem cortadoref10_Add_go (q : Option Addr) (l : Nat) (c : Nat) (i : Int) {w : World} {K : Value → World → Prop} (h : cortadoref10_Add_m q l c i w K) : Rets Try.prog 53 #[.slice q l c, .int .i64 i] w K :=
  calls_of_fw plain mixed Try.func53 (by kernel_rfl) (by rw [cortadoref10_Add_eq]; exact h)
def cortadolaw10_NibbleTells_m (q : Option Addr) (l c : Nat) (most : Int) (w : World) (K : Value → World → Prop) : Prop :=
  NewR (46 : Nat) [Value.int IntKind.u64 most] w fun (a1 : Addr) (w1 : World) =>
  NewR (4 : Nat) [Value.bool false] w1 fun (a2 : Addr) (w2 : World) =>
  (decide ((↑l : Int) > (40 : Int)) = true →
  Rets Try.prog (50 : Nat) { toList := [] } w2 fun (v1 : Value) (w3 : World) =>
  ∃ (b1 : Bool),
  v1 = Value.bool b1 ∧
  StoreR a2 [Value.bool b1] w3 fun (w4 : World) => ∃ (b2 : Bool), cellAt w4 a2 (Value.bool b2) ∧ K (Value.bool b2) w4) ∧
  (decide ((↑l : Int) > (40 : Int)) = false →
  Rets Try.prog (51 : Nat) { toList := [Value.int IntKind.i64 (40 : Int)] } w2 fun (v2 : Value) (w5 : World) =>
  ∃ (q1 : Option Addr),
  v2 = Value.pointer q1 ∧
  MakeR (3 : Nat) [Value.int IntKind.i64 (0 : Int)] (8 : Nat) (40 : Int) (40 : Int) w5 fun (a3 : Addr) (w6 : World) =>
  NewR (26 : Nat) [Value.slice none (0 : Nat) (0 : Nat)] w6 fun (a4 : Addr) (w7 : World) =>
  StoreR a4 [Value.slice (some a3) (40 : Nat) (40 : Nat)] w7 fun (w8 : World) =>
  ∃ (h1 : Nat → List Value → World → Prop),
  (∃ (k1 : Nat), h1 k1 [Value.int IntKind.i64 (0 : Int)] w8) ∧
  ∀ (k2 : Nat) (w9 : World) (n1 : Int)
  (v3 v4 v5 v6 v7 v8 v9 v10 v11 v12 v13 v14 v15 v16 v17 v18 v19 v20 v21 v22 v23 v24 v25 v26 v27 : Value),
  h1 k2 [Value.int IntKind.i64 n1] w9 →
  (decide (n1 < (↑l : Int)) = true →
  (0 : Int) ≤ n1 ∧
  n1 < (↑l : Int) ∧
  someR q fun (a5 : Addr) =>
  ∃ (n2 : Int),
  cellAt w9 (Addr.add a5 (Int.toNat n1 * (1 : Nat))) (Value.int IntKind.u64 n2) ∧
  (40 : Int) ≠ (0 : Int) ∧
  Rets Try.prog (52 : Nat)
  { toList := [Value.pointer q1, Value.int IntKind.i64 (IntKind.wrap IntKind.i64 (Int.tmod n2 (40 : Int)))] } w9
  fun (v28 : Value) (w10 : World) =>
  ∃ (b3 : Bool),
  v28 = Value.bool b3 ∧
  Drw w10 fun (w11 : World) =>
  (0 : Int) ≤ n1 ∧
  n1 < (↑l : Int) ∧
  someR q fun (a6 : Addr) =>
  ∃ (q2 : Option Addr),
  ∃ (k3 : Nat),
  ∃ (k4 : Nat),
  cellAt w11 a4 (Value.slice q2 k3 k4) ∧
  ∃ (n3 : Int),
  cellAt w11 (Addr.add a6 (Int.toNat n1 * (1 : Nat))) (Value.int IntKind.u64 n3) ∧
  (40 : Int) ≠ (0 : Int) ∧
  Rets Try.prog (53 : Nat)
  { toList := [Value.slice q2 k3 k4, Value.int IntKind.i64 (IntKind.wrap IntKind.i64 (Int.tmod n3 (40 : Int)))] } w11
  fun (v29 : Value) (w12 : World) =>
  ∃ (q3 : Option Addr),
  ∃ (k5 : Nat),
  ∃ (k6 : Nat),
  ∃ (b4 : Bool),
  v29 = Value.tuple { toList := [Value.slice q3 k5 k6, Value.bool b4] } ∧
  StoreR a4 [Value.slice q3 k5 k6] w12 fun (w13 : World) =>
  ∃ (k7 : Nat), k7 < k2 ∧ h1 k7 [Value.int IntKind.i64 (IntKind.wrap IntKind.i64 (n1 + (1 : Int)))] w13) ∧
  (decide (n1 < (↑l : Int)) = false →
  Rets Try.prog (54 : Nat) { toList := [Value.pointer q1] } w9 fun (v30 : Value) (w14 : World) =>
  ∃ (f1 : Fn),
  ∃ (a7 : Array Value),
  ∃ (c1 : Array Value),
  v30 = Value.func f1 a7 c1 ∧
  (false = true →
  StoreR a2 [Value.bool false] w14 fun (w15 : World) =>
  ∃ (b5 : Bool), cellAt w15 a2 (Value.bool b5) ∧ K (Value.bool b5) w15) ∧
  (false = false →
  NewR (3 : Nat) [Value.int IntKind.i64 (0 : Int)] w14 fun (a8 : Addr) (w16 : World) =>
  NewR (3 : Nat) [Value.int IntKind.i64 (0 : Int)] w16 fun (a9 : Addr) (w17 : World) =>
  StoreR a8 [Value.int IntKind.i64 (-1 : Int)] w17 fun (w18 : World) =>
  StoreR a9 [Value.int IntKind.i64 (0 : Int)] w18 fun (w19 : World) =>
  ∃ (v31 : Value),
  Value.func f1 a7 c1 = Value.func (Fn.func (79 : Nat)) { toList := [] } { toList := [v31] } ∧
  LoopR w19 fun (k8 k9 : Nat) (L1 : Loop) (w20 : World) =>
  (∀ (n4 n5 : Int) (w21 : World) (h2 : Value → World → Prop),
  RecR k9 L1 w21 →
  (BegR k9 L1 w21 fun (w22 : World) =>
  ∃ (n6 : Int),
  cellAt w22 a9 (Value.int IntKind.i64 n6) ∧
  ∃ (n7 : Int),
  cellAt w22 a1 (Value.int IntKind.u64 n7) ∧
  (45 : Int) ≠ (0 : Int) ∧
  (decide (n6 ≥ IntKind.wrap IntKind.i64 (Int.tmod n7 (45 : Int))) = true →
  FinR k9 L1 (some (Code.exit (2 : Nat))) w22 fun (w23 : World) => h2 (Value.bool false) w23) ∧
  (decide (n6 ≥ IntKind.wrap IntKind.i64 (Int.tmod n7 (45 : Int))) = false →
  ∃ (n8 : Int),
  cellAt w22 a8 (Value.int IntKind.i64 n8) ∧
  (decide (n4 ≤ n8) = false →
  (decide (n4 ≥ (40 : Int)) = false →
  ∃ (q4 : Option Addr),
  ∃ (k10 : Nat),
  ∃ (k11 : Nat),
  cellAt w22 a4 (Value.slice q4 k10 k11) ∧
  (0 : Int) ≤ n4 ∧
  n4 < (↑k10 : Int) ∧
  someR q4 fun (a10 : Addr) =>
  ∃ (n9 : Int),
  cellAt w22 (Addr.add a10 (Int.toNat n4 * (1 : Nat))) (Value.int IntKind.i64 n9) ∧
  ((n5 != n9) = false →
  ((n5 == (0 : Int)) = true →
  StoreR a2 [Value.bool false] w22 fun (w24 : World) =>
  FinR k9 L1 (some Code.ret) w24 fun (w25 : World) => h2 (Value.bool false) w25) ∧
  ((n5 == (0 : Int)) = false →
  StoreR a8 [Value.int IntKind.i64 n4] w22 fun (w26 : World) =>
  ∃ (n10 : Int),
  cellAt w26 a9 (Value.int IntKind.i64 n10) ∧
  StoreR a9 [Value.int IntKind.i64 (IntKind.wrap IntKind.i64 (n10 + (1 : Int)))] w26 fun (w27 : World) =>
  FinR k9 L1 none w27 fun (w28 : World) => h2 (Value.bool true) w28)) ∧
  ((n5 != n9) = true →
  StoreR a2 [Value.bool false] w22 fun (w29 : World) =>
  FinR k9 L1 (some Code.ret) w29 fun (w30 : World) => h2 (Value.bool false) w30)) ∧
  (decide (n4 ≥ (40 : Int)) = true →
  StoreR a2 [Value.bool false] w22 fun (w31 : World) =>
  FinR k9 L1 (some Code.ret) w31 fun (w32 : World) => h2 (Value.bool false) w32)) ∧
  (decide (n4 ≤ n8) = true →
  StoreR a2 [Value.bool false] w22 fun (w33 : World) =>
  FinR k9 L1 (some Code.ret) w33 fun (w34 : World) => h2 (Value.bool false) w34))) →
  RoundR Try.prog k9 { toList := [Value.int IntKind.i64 n4, Value.int IntKind.i64 n5] } w21 h2) →
  Rets Try.prog (79 : Nat) { toList := [Value.func (Fn.yield k9) { toList := [] } { toList := [] }, v31] } w20
  fun (v32 : Value) (w35 : World) =>
  (EndR k9 L1 none w35 fun (w36 : World) =>
  ∃ (h3 : Nat → List Value → World → Prop),
  (∃ (k12 : Nat), h3 k12 [Value.int IntKind.i64 (0 : Int), Value.int IntKind.i64 (0 : Int)] w36) ∧
  ∀ (k13 : Nat) (w37 : World) (n11 n12 : Int)
  (v33 v34 v35 v36 v37 v38 v39 v40 v41 v42 v43 v44 v45 v46 v47 v48 v49 v50 : Value),
  h3 k13 [Value.int IntKind.i64 n11, Value.int IntKind.i64 n12] w37 →
  ∃ (q5 : Option Addr),
  ∃ (k14 : Nat),
  ∃ (k15 : Nat),
  cellAt w37 a4 (Value.slice q5 k14 k15) ∧
  (decide (n12 < (↑k14 : Int)) = true →
  ∃ (q6 : Option Addr),
  ∃ (k16 : Nat),
  ∃ (k17 : Nat),
  cellAt w37 a4 (Value.slice q6 k16 k17) ∧
  (0 : Int) ≤ n12 ∧
  n12 < (↑k16 : Int) ∧
  someR q6 fun (a11 : Addr) =>
  ∃ (n13 : Int),
  cellAt w37 (Addr.add a11 (Int.toNat n12 * (1 : Nat))) (Value.int IntKind.i64 n13) ∧
  (decide (n13 > (0 : Int)) = true →
  ∃ (n14 : Int),
  cellAt w37 a8 (Value.int IntKind.i64 n14) ∧
  (decide (n12 ≤ n14) = true →
  ∃ (k18 : Nat),
  k18 < k13 ∧
  h3 k18
  [Value.int IntKind.i64 (IntKind.wrap IntKind.i64 (n11 + (1 : Int))),
  Value.int IntKind.i64 (IntKind.wrap IntKind.i64 (n12 + (1 : Int)))]
  w37) ∧
  (decide (n12 ≤ n14) = false →
  ∃ (k19 : Nat),
  k19 < k13 ∧
  h3 k19 [Value.int IntKind.i64 n11, Value.int IntKind.i64 (IntKind.wrap IntKind.i64 (n12 + (1 : Int)))] w37)) ∧
  (decide (n13 > (0 : Int)) = false →
  ∃ (k20 : Nat),
  k20 < k13 ∧
  h3 k20 [Value.int IntKind.i64 n11, Value.int IntKind.i64 (IntKind.wrap IntKind.i64 (n12 + (1 : Int)))] w37)) ∧
  (decide (n12 < (↑k14 : Int)) = false →
  ∃ (h4 : Nat → List Value → World → Prop),
  (∃ (k21 : Nat), h4 k21 [Value.int IntKind.i64 (0 : Int), Value.int IntKind.i64 (0 : Int)] w37) ∧
  ∀ (k22 : Nat) (w38 : World) (n15 n16 : Int) (v51 v52 v53 v54 v55 v56 v57 v58 v59 v60 v61 v62 v63 : Value),
  h4 k22 [Value.int IntKind.i64 n15, Value.int IntKind.i64 n16] w38 →
  ∃ (q7 : Option Addr),
  ∃ (k23 : Nat),
  ∃ (k24 : Nat),
  cellAt w38 a4 (Value.slice q7 k23 k24) ∧
  (decide (n16 < (↑k23 : Int)) = true →
  ∃ (q8 : Option Addr),
  ∃ (k25 : Nat),
  ∃ (k26 : Nat),
  cellAt w38 a4 (Value.slice q8 k25 k26) ∧
  (0 : Int) ≤ n16 ∧
  n16 < (↑k25 : Int) ∧
  someR q8 fun (a12 : Addr) =>
  ∃ (n17 : Int),
  cellAt w38 (Addr.add a12 (Int.toNat n16 * (1 : Nat))) (Value.int IntKind.i64 n17) ∧
  (decide (n17 > (0 : Int)) = true →
  ∃ (k27 : Nat),
  k27 < k22 ∧
  h4 k27
  [Value.int IntKind.i64 (IntKind.wrap IntKind.i64 (n15 + (1 : Int))),
  Value.int IntKind.i64 (IntKind.wrap IntKind.i64 (n16 + (1 : Int)))]
  w38) ∧
  (decide (n17 > (0 : Int)) = false →
  ∃ (k28 : Nat),
  k28 < k22 ∧
  h4 k28 [Value.int IntKind.i64 n15, Value.int IntKind.i64 (IntKind.wrap IntKind.i64 (n16 + (1 : Int)))] w38)) ∧
  (decide (n16 < (↑k23 : Int)) = false →
  ∃ (n18 : Int),
  cellAt w38 a9 (Value.int IntKind.i64 n18) ∧
  ((n18 == n11) = true →
  ∃ (n19 : Int),
  cellAt w38 a9 (Value.int IntKind.i64 n19) ∧
  ∃ (n20 : Int),
  cellAt w38 a1 (Value.int IntKind.u64 n20) ∧
  (45 : Int) ≠ (0 : Int) ∧
  ((n19 == minI n15 (IntKind.wrap IntKind.i64 (Int.tmod n20 (45 : Int)))) = true →
  Rets Try.prog (50 : Nat) { toList := [] } w38 fun (v64 : Value) (w39 : World) =>
  ∃ (b6 : Bool),
  v64 = Value.bool b6 ∧
  StoreR a2 [Value.bool b6] w39 fun (w40 : World) =>
  MarkR k8 w40 fun (w41 : World) => ∃ (b7 : Bool), cellAt w41 a2 (Value.bool b7) ∧ K (Value.bool b7) w41) ∧
  ((n19 == minI n15 (IntKind.wrap IntKind.i64 (Int.tmod n20 (45 : Int)))) = false →
  StoreR a2 [Value.bool false] w38 fun (w42 : World) =>
  MarkR k8 w42 fun (w43 : World) => ∃ (b8 : Bool), cellAt w43 a2 (Value.bool b8) ∧ K (Value.bool b8) w43)) ∧
  ((n18 == n11) = false →
  StoreR a2 [Value.bool false] w38 fun (w44 : World) =>
  MarkR k8 w44 fun (w45 : World) => ∃ (b9 : Bool), cellAt w45 a2 (Value.bool b9) ∧ K (Value.bool b9) w45)))) ∨
  (EndR k9 L1 (some Code.ret) w35 fun (w46 : World) =>
  MarkR k8 w46 fun (w47 : World) => ∃ (b10 : Bool), cellAt w47 a2 (Value.bool b10) ∧ K (Value.bool b10) w47) ∨
  EndR k9 L1 (some (Code.exit (2 : Nat))) w35 fun (w48 : World) =>
  ∃ (h5 : Nat → List Value → World → Prop),
  (∃ (k29 : Nat), h5 k29 [Value.int IntKind.i64 (0 : Int), Value.int IntKind.i64 (0 : Int)] w48) ∧
  ∀ (k30 : Nat) (w49 : World) (n21 n22 : Int)
  (v65 v66 v67 v68 v69 v70 v71 v72 v73 v74 v75 v76 v77 v78 v79 v80 v81 v82 : Value),
  h5 k30 [Value.int IntKind.i64 n21, Value.int IntKind.i64 n22] w49 →
  ∃ (q9 : Option Addr),
  ∃ (k31 : Nat),
  ∃ (k32 : Nat),
  cellAt w49 a4 (Value.slice q9 k31 k32) ∧
  (decide (n22 < (↑k31 : Int)) = true →
  ∃ (q10 : Option Addr),
  ∃ (k33 : Nat),
  ∃ (k34 : Nat),
  cellAt w49 a4 (Value.slice q10 k33 k34) ∧
  (0 : Int) ≤ n22 ∧
  n22 < (↑k33 : Int) ∧
  someR q10 fun (a13 : Addr) =>
  ∃ (n23 : Int),
  cellAt w49 (Addr.add a13 (Int.toNat n22 * (1 : Nat))) (Value.int IntKind.i64 n23) ∧
  (decide (n23 > (0 : Int)) = true →
  ∃ (n24 : Int),
  cellAt w49 a8 (Value.int IntKind.i64 n24) ∧
  (decide (n22 ≤ n24) = true →
  ∃ (k35 : Nat),
  k35 < k30 ∧
  h5 k35
  [Value.int IntKind.i64 (IntKind.wrap IntKind.i64 (n21 + (1 : Int))),
  Value.int IntKind.i64 (IntKind.wrap IntKind.i64 (n22 + (1 : Int)))]
  w49) ∧
  (decide (n22 ≤ n24) = false →
  ∃ (k36 : Nat),
  k36 < k30 ∧
  h5 k36 [Value.int IntKind.i64 n21, Value.int IntKind.i64 (IntKind.wrap IntKind.i64 (n22 + (1 : Int)))] w49)) ∧
  (decide (n23 > (0 : Int)) = false →
  ∃ (k37 : Nat),
  k37 < k30 ∧
  h5 k37 [Value.int IntKind.i64 n21, Value.int IntKind.i64 (IntKind.wrap IntKind.i64 (n22 + (1 : Int)))] w49)) ∧
  (decide (n22 < (↑k31 : Int)) = false →
  ∃ (h6 : Nat → List Value → World → Prop),
  (∃ (k38 : Nat), h6 k38 [Value.int IntKind.i64 (0 : Int), Value.int IntKind.i64 (0 : Int)] w49) ∧
  ∀ (k39 : Nat) (w50 : World) (n25 n26 : Int) (v83 v84 v85 v86 v87 v88 v89 v90 v91 v92 v93 v94 v95 : Value),
  h6 k39 [Value.int IntKind.i64 n25, Value.int IntKind.i64 n26] w50 →
  ∃ (q11 : Option Addr),
  ∃ (k40 : Nat),
  ∃ (k41 : Nat),
  cellAt w50 a4 (Value.slice q11 k40 k41) ∧
  (decide (n26 < (↑k40 : Int)) = true →
  ∃ (q12 : Option Addr),
  ∃ (k42 : Nat),
  ∃ (k43 : Nat),
  cellAt w50 a4 (Value.slice q12 k42 k43) ∧
  (0 : Int) ≤ n26 ∧
  n26 < (↑k42 : Int) ∧
  someR q12 fun (a14 : Addr) =>
  ∃ (n27 : Int),
  cellAt w50 (Addr.add a14 (Int.toNat n26 * (1 : Nat))) (Value.int IntKind.i64 n27) ∧
  (decide (n27 > (0 : Int)) = true →
  ∃ (k44 : Nat),
  k44 < k39 ∧
  h6 k44
  [Value.int IntKind.i64 (IntKind.wrap IntKind.i64 (n25 + (1 : Int))),
  Value.int IntKind.i64 (IntKind.wrap IntKind.i64 (n26 + (1 : Int)))]
  w50) ∧
  (decide (n27 > (0 : Int)) = false →
  ∃ (k45 : Nat),
  k45 < k39 ∧
  h6 k45 [Value.int IntKind.i64 n25, Value.int IntKind.i64 (IntKind.wrap IntKind.i64 (n26 + (1 : Int)))] w50)) ∧
  (decide (n26 < (↑k40 : Int)) = false →
  ∃ (n28 : Int),
  cellAt w50 a9 (Value.int IntKind.i64 n28) ∧
  ((n28 == n21) = true →
  ∃ (n29 : Int),
  cellAt w50 a9 (Value.int IntKind.i64 n29) ∧
  ∃ (n30 : Int),
  cellAt w50 a1 (Value.int IntKind.u64 n30) ∧
  (45 : Int) ≠ (0 : Int) ∧
  ((n29 == minI n25 (IntKind.wrap IntKind.i64 (Int.tmod n30 (45 : Int)))) = true →
  Rets Try.prog (50 : Nat) { toList := [] } w50 fun (v96 : Value) (w51 : World) =>
  ∃ (b11 : Bool),
  v96 = Value.bool b11 ∧
  StoreR a2 [Value.bool b11] w51 fun (w52 : World) =>
  MarkR k8 w52 fun (w53 : World) => ∃ (b12 : Bool), cellAt w53 a2 (Value.bool b12) ∧ K (Value.bool b12) w53) ∧
  ((n29 == minI n25 (IntKind.wrap IntKind.i64 (Int.tmod n30 (45 : Int)))) = false →
  StoreR a2 [Value.bool false] w50 fun (w54 : World) =>
  MarkR k8 w54 fun (w55 : World) => ∃ (b13 : Bool), cellAt w55 a2 (Value.bool b13) ∧ K (Value.bool b13) w55)) ∧
  ((n28 == n21) = false →
  StoreR a2 [Value.bool false] w50 fun (w56 : World) =>
  MarkR k8 w56 fun (w57 : World) => ∃ (b14 : Bool), cellAt w57 a2 (Value.bool b14) ∧ K (Value.bool b14) w57))))))
theorem cortadolaw10_NibbleTells_eq (q : Option Addr) (l c : Nat) (most : Int) (w : World) (K : Value → World → Prop) : fw Try.prog Try.f8 (annL [(2, [(7, some 3), (23, none), (24, none), (25, none), (26, none), (27, none), (28, none), (29, none), (30, none), (31, none), (32, none), (33, none), (34, none), (35, none), (36, none), (37, none), (38, none), (39, none), (40, none), (41, none), (42, none), (43, none), (44, none), (45, none), (46, none), (47, none)]), (7, [(53, some 3), (54, some 3)]), (12, [(11, some 3), (14, some 3), (82, none), (83, none), (84, none), (85, none), (86, none), (87, none), (88, none), (89, none), (90, none), (91, none), (92, none), (93, none), (94, none), (95, none), (96, none), (97, none), (98, none), (99, none)]), (17, [(15, some 3), (16, some 3), (100, none), (101, none), (102, none), (103, none), (104, none), (105, none), (106, none), (107, none), (108, none), (109, none), (110, none), (111, none), (112, none)])]) (ordL [(9, [(1, 0), (2, 0), (3, 0), (0, 1), (4, 1), (5, 0), (6, 0), (7, 3), (8, 0), (9, 0), (10, 0), (11, 3)]), (1000007, [(79, 1)])]) [.slice q l c, .int .u64 most] w K = cortadolaw10_NibbleTells_m q l c most w K := by kernel_rfl
theorem cortadolaw10_NibbleTells_go (q : Option Addr) (l c : Nat) (most : Int) {w : World} {K : Value → World → Prop} (h : cortadolaw10_NibbleTells_m q l c most w K) : Rets Try.prog 8 #[.slice q l c, .int .u64 most] w K :=
  calls_of_fw plain mixed Try.func8 (by kernel_rfl) (by rw [cortadolaw10_NibbleTells_eq]; exact h)
end Go.Proofs.Ytmenjjofmafacaa.Eng
