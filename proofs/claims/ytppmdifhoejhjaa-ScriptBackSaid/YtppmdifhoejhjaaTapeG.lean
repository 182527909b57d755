/- What the code of these functions asks for: printed by a program of this session's (gens.py) out of the seat's own functions; the kernel checks each row. -/
import Derived.Test.YtppmdifhoejhjaaEngH
import Derived.Test.YtppmdifhoejhjaaProg
import Derived.Test.YtppmdifhoejhjaaBase
namespace Go.Proofs.Ytppmdifhoejhjaa.Eng
open Go Go.Proofs
set_option linter.unusedVariables false
set_option maxRecDepth 1000000
def tape_New_m (q : Option Addr) (l c : Nat) (w : World) (K : Value → World → Prop) : Prop :=
  Rets Try.prog (49 : Nat) { toList := [Value.slice q l c] } w fun (v1 : Value) (w1 : World) =>
  ∃ (q1 : Option Addr),
  ∃ (k1 : Nat),
  ∃ (k2 : Nat),
  v1 = Value.slice q1 k1 k2 ∧
  NewR (76 : Nat) [Value.slice q1 k1 k2, Value.int IntKind.i64 (0 : Int)] w1 fun (a1 : Addr) (w2 : World) =>
  K (Value.pointer (some a1)) w2
theorem tape_New_eq (q : Option Addr) (l c : Nat) (w : World) (K : Value → World → Prop) : fw Try.prog Try.f36 (annL []) (ordL []) [.slice q l c] w K = tape_New_m q l c w K := by kernel_rfl
theorem tape_New_go (q : Option Addr) (l c : Nat) {w : World} {K : Value → World → Prop} (h : tape_New_m q l c w K) : Rets Try.prog 36 #[.slice q l c] w K :=
  calls_of_fw plain mixed Try.func36 (by kernel_rfl) (by rw [tape_New_eq]; exact h)
def tape_Tape_Left_m (g : Nat) (w : World) (K : Value → World → Prop) : Prop :=
  (false = true → K (Value.int IntKind.i64 (0 : Int)) w) ∧
  (false = false →
  Drw w fun (w1 : World) =>
  ∃ (q1 : Option Addr),
  ∃ (k1 : Nat),
  ∃ (k2 : Nat),
  cellAt w1 (Addr.add { block := g, off := (0 : Nat) } (0 : Nat)) (Value.slice q1 k1 k2) ∧
  ∃ (n1 : Int),
  cellAt w1 (Addr.add { block := g, off := (0 : Nat) } (1 : Nat)) (Value.int IntKind.i64 n1) ∧
  K (Value.int IntKind.i64 (IntKind.wrap IntKind.i64 ((↑k1 : Int) - n1))) w1)
theorem tape_Tape_Left_eq (g : Nat) (w : World) (K : Value → World → Prop) : fw Try.prog Try.f53 (annL []) (ordL [(3, [(0, 0), (1, 0), (2, 0), (5, 0), (6, 0), (7, 0), (3, 1), (4, 0), (8, 1), (9, 0), (10, 0)])]) [.pointer (some ⟨g, 0, none⟩)] w K = tape_Tape_Left_m g w K := by kernel_rfl
theorem tape_Tape_Left_go (g : Nat) {w : World} {K : Value → World → Prop} (h : tape_Tape_Left_m g w K) : Rets Try.prog 53 #[.pointer (some ⟨g, 0, none⟩)] w K :=
  calls_of_fw plain mixed Try.func53 (by kernel_rfl) (by rw [tape_Tape_Left_eq]; exact h)
def tape_nil_Left_m  (w : World) (K : Value → World → Prop) : Prop :=
  (true = true → K (Value.int IntKind.i64 (0 : Int)) w) ∧ (true = false → Drw w fun (w1 : World) => False)
theorem tape_nil_Left_eq  (w : World) (K : Value → World → Prop) : fw Try.prog Try.f53 (annL []) (ordL [(3, [(0, 0), (1, 0), (2, 0), (5, 0), (6, 0), (7, 0), (3, 1), (4, 0), (8, 1), (9, 0), (10, 0)])]) [.pointer none] w K = tape_nil_Left_m  w K := by kernel_rfl
theorem tape_nil_Left_go  {w : World} {K : Value → World → Prop} (h : tape_nil_Left_m  w K) : Rets Try.prog 53 #[.pointer none] w K :=
  calls_of_fw plain mixed Try.func53 (by kernel_rfl) (by rw [tape_nil_Left_eq]; exact h)
def tape_Tape_Byte_m (g : Nat) (w : World) (K : Value → World → Prop) : Prop :=
  Rets Try.prog (53 : Nat) { toList := [Value.pointer (some { block := g, off := (0 : Nat) })] } w
  fun (v1 : Value) (w1 : World) =>
  ∃ (n1 : Int),
  v1 = Value.int IntKind.i64 n1 ∧
  ((n1 == (0 : Int)) = true → K (Value.int IntKind.i64 (0 : Int)) w1) ∧
  ((n1 == (0 : Int)) = false →
  ∃ (n2 : Int),
  cellAt w1 (Addr.add { block := g, off := (0 : Nat) } (1 : Nat)) (Value.int IntKind.i64 n2) ∧
  StoreR (Addr.add { block := g, off := (0 : Nat) } (1 : Nat))
  [Value.int IntKind.i64 (IntKind.wrap IntKind.i64 (n2 + (1 : Int)))] w1 fun (w2 : World) =>
  Drw w2 fun (w3 : World) =>
  ∃ (q1 : Option Addr),
  ∃ (k1 : Nat),
  ∃ (k2 : Nat),
  cellAt w3 (Addr.add { block := g, off := (0 : Nat) } (0 : Nat)) (Value.slice q1 k1 k2) ∧
  ∃ (n3 : Int),
  cellAt w3 (Addr.add { block := g, off := (0 : Nat) } (1 : Nat)) (Value.int IntKind.i64 n3) ∧
  (0 : Int) ≤ IntKind.wrap IntKind.i64 (n3 - (1 : Int)) ∧
  IntKind.wrap IntKind.i64 (n3 - (1 : Int)) < (↑k1 : Int) ∧
  someR q1 fun (a1 : Addr) =>
  ∃ (n4 : Int),
  cellAt w3 (Addr.add a1 (Int.toNat (IntKind.wrap IntKind.i64 (n3 - (1 : Int))) * (1 : Nat))) (Value.int IntKind.u8 n4) ∧
  K (Value.int IntKind.i64 (IntKind.wrap IntKind.i64 n4)) w3)
theorem tape_Tape_Byte_eq (g : Nat) (w : World) (K : Value → World → Prop) : fw Try.prog Try.f41 (annL []) (ordL [(4, [(0, 0), (1, 0), (2, 0), (4, 0), (5, 0), (6, 0), (3, 1), (7, 1), (8, 0), (9, 0), (10, 1), (11, 0), (12, 0)])]) [.pointer (some ⟨g, 0, none⟩)] w K = tape_Tape_Byte_m g w K := by kernel_rfl
theorem tape_Tape_Byte_go (g : Nat) {w : World} {K : Value → World → Prop} (h : tape_Tape_Byte_m g w K) : Rets Try.prog 41 #[.pointer (some ⟨g, 0, none⟩)] w K :=
  calls_of_fw plain mixed Try.func41 (by kernel_rfl) (by rw [tape_Tape_Byte_eq]; exact h)
def tape_nil_Byte_m  (w : World) (K : Value → World → Prop) : Prop :=
  Rets Try.prog (53 : Nat) { toList := [Value.pointer none] } w fun (v1 : Value) (w1 : World) =>
  ∃ (n1 : Int),
  v1 = Value.int IntKind.i64 n1 ∧
  ((n1 == (0 : Int)) = true → K (Value.int IntKind.i64 (0 : Int)) w1) ∧ ((n1 == (0 : Int)) = false → False)
theorem tape_nil_Byte_eq  (w : World) (K : Value → World → Prop) : fw Try.prog Try.f41 (annL []) (ordL [(4, [(0, 0), (1, 0), (2, 0), (4, 0), (5, 0), (6, 0), (3, 1), (7, 1), (8, 0), (9, 0), (10, 1), (11, 0), (12, 0)])]) [.pointer none] w K = tape_nil_Byte_m  w K := by kernel_rfl
theorem tape_nil_Byte_go  {w : World} {K : Value → World → Prop} (h : tape_nil_Byte_m  w K) : Rets Try.prog 41 #[.pointer none] w K :=
  calls_of_fw plain mixed Try.func41 (by kernel_rfl) (by rw [tape_nil_Byte_eq]; exact h)
def tape_Tape_Int_m (q : Option Addr) (w : World) (K : Value → World → Prop) : Prop :=
  Rets Try.prog (41 : Nat) { toList := [Value.pointer q] } w fun (v1 : Value) (w1 : World) =>
  ∃ (n1 : Int),
  v1 = Value.int IntKind.i64 n1 ∧
  (decide (n1 < (200 : Int)) = true → K (Value.int IntKind.i64 n1) w1) ∧
  (decide (n1 < (200 : Int)) = false →
  (decide (n1 < (255 : Int)) = true →
  Rets Try.prog (41 : Nat) { toList := [Value.pointer q] } w1 fun (v2 : Value) (w2 : World) =>
  ∃ (n2 : Int),
  v2 = Value.int IntKind.i64 n2 ∧
  K
  (Value.int IntKind.i64
  (IntKind.wrap IntKind.i64
  (IntKind.wrap IntKind.i64
  (IntKind.wrap IntKind.i64 (IntKind.wrap IntKind.i64 (n1 - (200 : Int)) * (256 : Int)) + (200 : Int)) +
  n2)))
  w2) ∧
  (decide (n1 < (255 : Int)) = false →
  ∃ (h1 : Nat → List Value → World → Prop),
  (∃ (k1 : Nat), h1 k1 [Value.int IntKind.u64 (0 : Int), Value.int IntKind.i64 (0 : Int)] w1) ∧
  ∀ (k2 : Nat) (w3 : World) (n3 n4 : Int) (v3 v4 v5 v6 v7 v8 v9 v10 : Value),
  h1 k2 [Value.int IntKind.u64 n3, Value.int IntKind.i64 n4] w3 →
  (decide (n4 < (8 : Int)) = true →
  (0 : Int) ≤ (8 : Int) ∧
  Rets Try.prog (41 : Nat) { toList := [Value.pointer q] } w3 fun (v11 : Value) (w4 : World) =>
  ∃ (n5 : Int),
  v11 = Value.int IntKind.i64 n5 ∧
  ∃ (k3 : Nat),
  k3 < k2 ∧
  h1 k3
  [Value.int IntKind.u64 (bits BinOp.or IntKind.u64 (shlI IntKind.u64 n3 (8 : Int)) (IntKind.wrap IntKind.u64 n5)),
  Value.int IntKind.i64 (IntKind.wrap IntKind.i64 (n4 + (1 : Int)))]
  w4) ∧
  (decide (n4 < (8 : Int)) = false → K (Value.int IntKind.i64 (IntKind.wrap IntKind.i64 n3)) w3)))
theorem tape_Tape_Int_eq (q : Option Addr) (w : World) (K : Value → World → Prop) : fw Try.prog Try.f39 (annL [(3, [(4, some 67), (19, some 3), (20, none), (21, none), (22, none), (23, none), (24, none), (25, none), (26, none), (27, none)])]) (ordL []) [.pointer q] w K = tape_Tape_Int_m q w K := by kernel_rfl
theorem tape_Tape_Int_go (q : Option Addr) {w : World} {K : Value → World → Prop} (h : tape_Tape_Int_m q w K) : Rets Try.prog 39 #[.pointer q] w K :=
  calls_of_fw plain mixed Try.func39 (by kernel_rfl) (by rw [tape_Tape_Int_eq]; exact h)
def tape_Tape_Below_m (q : Option Addr) (n : Int) (w : World) (K : Value → World → Prop) : Prop :=
  (decide (n < (1 : Int)) = true → K (Value.int IntKind.i64 (0 : Int)) w) ∧
  (decide (n < (1 : Int)) = false →
  Rets Try.prog (41 : Nat) { toList := [Value.pointer q] } w fun (v1 : Value) (w1 : World) =>
  ∃ (n1 : Int), v1 = Value.int IntKind.i64 n1 ∧ n ≠ (0 : Int) ∧ K (Value.int IntKind.i64 (Int.tmod n1 n)) w1)
theorem tape_Tape_Below_eq (q : Option Addr) (n : Int) (w : World) (K : Value → World → Prop) : fw Try.prog Try.f38 (annL []) (ordL []) [.pointer q, .int .i64 n] w K = tape_Tape_Below_m q n w K := by kernel_rfl
theorem tape_Tape_Below_go (q : Option Addr) (n : Int) {w : World} {K : Value → World → Prop} (h : tape_Tape_Below_m q n w K) : Rets Try.prog 38 #[.pointer q, .int .i64 n] w K :=
  calls_of_fw plain mixed Try.func38 (by kernel_rfl) (by rw [tape_Tape_Below_eq]; exact h)
def tape_Tape_Rest_m (g : Nat) (w : World) (K : Value → World → Prop) : Prop :=
  (false = true → K (Value.slice none (0 : Nat) (0 : Nat)) w) ∧
  (false = false →
  Drw w fun (w1 : World) =>
  ∃ (q1 : Option Addr),
  ∃ (k1 : Nat),
  ∃ (k2 : Nat),
  cellAt w1 (Addr.add { block := g, off := (0 : Nat) } (0 : Nat)) (Value.slice q1 k1 k2) ∧
  ∃ (n1 : Int),
  cellAt w1 (Addr.add { block := g, off := (0 : Nat) } (1 : Nat)) (Value.int IntKind.i64 n1) ∧
  (0 : Int) ≤ n1 ∧
  n1 ≤ (↑k1 : Int) ∧
  Rets Try.prog (49 : Nat)
  { toList := [Value.slice (slcA q1 (Int.toNat n1) k2 (1 : Nat)) (k1 - Int.toNat n1) (k2 - Int.toNat n1)] } w1
  fun (v1 : Value) (w2 : World) =>
  ∃ (q2 : Option Addr),
  ∃ (k3 : Nat),
  ∃ (k4 : Nat),
  v1 = Value.slice q2 k3 k4 ∧
  ∃ (q3 : Option Addr),
  ∃ (k5 : Nat),
  ∃ (k6 : Nat),
  cellAt w2 (Addr.add { block := g, off := (0 : Nat) } (0 : Nat)) (Value.slice q3 k5 k6) ∧
  StoreR (Addr.add { block := g, off := (0 : Nat) } (1 : Nat)) [Value.int IntKind.i64 (↑k5 : Int)] w2 fun (w3 : World) =>
  K (Value.slice q2 k3 k4) w3)
theorem tape_Tape_Rest_eq (g : Nat) (w : World) (K : Value → World → Prop) : fw Try.prog Try.f42 (annL []) (ordL [(3, [(0, 0), (1, 0), (2, 0), (4, 0), (5, 0), (6, 0), (3, 1), (7, 1), (8, 0), (9, 3), (10, 0)])]) [.pointer (some ⟨g, 0, none⟩)] w K = tape_Tape_Rest_m g w K := by kernel_rfl
theorem tape_Tape_Rest_go (g : Nat) {w : World} {K : Value → World → Prop} (h : tape_Tape_Rest_m g w K) : Rets Try.prog 42 #[.pointer (some ⟨g, 0, none⟩)] w K :=
  calls_of_fw plain mixed Try.func42 (by kernel_rfl) (by rw [tape_Tape_Rest_eq]; exact h)
def tape_nil_Rest_m  (w : World) (K : Value → World → Prop) : Prop :=
  (true = true → K (Value.slice none (0 : Nat) (0 : Nat)) w) ∧ (true = false → Drw w fun (w1 : World) => False)
theorem tape_nil_Rest_eq  (w : World) (K : Value → World → Prop) : fw Try.prog Try.f42 (annL []) (ordL [(3, [(0, 0), (1, 0), (2, 0), (4, 0), (5, 0), (6, 0), (3, 1), (7, 1), (8, 0), (9, 3), (10, 0)])]) [.pointer none] w K = tape_nil_Rest_m  w K := by kernel_rfl
theorem tape_nil_Rest_go  {w : World} {K : Value → World → Prop} (h : tape_nil_Rest_m  w K) : Rets Try.prog 42 #[.pointer none] w K :=
  calls_of_fw plain mixed Try.func42 (by kernel_rfl) (by rw [tape_nil_Rest_eq]; exact h)
def tape_Put_m (q : Option Addr) (l c : Nat) (q2 : Option Addr) (l2 c2 : Nat) (w : World) (K : Value → World → Prop) : Prop :=
  Rets Try.prog (49 : Nat) { toList := [Value.slice q l c] } w fun (v1 : Value) (w1 : World) =>
  ∃ (q1 : Option Addr),
  ∃ (k1 : Nat),
  ∃ (k2 : Nat),
  v1 = Value.slice q1 k1 k2 ∧
  ∃ (h1 : Nat → List Value → World → Prop),
  (∃ (k3 : Nat), h1 k3 [Value.slice q1 k1 k2, Value.int IntKind.i64 (0 : Int)] w1) ∧
  ∀ (k4 : Nat) (w2 : World) (q2_1 : Option Addr) (k5 k6 : Nat) (v2 v3 : Value) (n1 : Int)
  (v4 v5 v6 v7 v8 v9 v10 v11 v12 v13 v14 v15 v16 v17 v18 v19 v20 v21 v22 v23 v24 v25 v26 v27 v28 v29 v30 v31 v32 v33 v34
  v35 v36 v37 v38 v39 v40 v41 v42 v43 v44 v45 v46 v47 v48 v49 v50 v51 v52 v53 v54 v55 v56 : Value),
  h1 k4 [Value.slice q2_1 k5 k6, Value.int IntKind.i64 n1] w2 →
  (decide (n1 < (↑l2 : Int)) = true →
  ∃ (h2 : List Value → World → Prop),
  ((0 : Int) ≤ n1 ∧
  n1 < (↑l2 : Int) ∧
  someR q2 fun (a1 : Addr) =>
  ∃ (n2 : Int),
  cellAt w2 (Addr.add a1 (Int.toNat n1 * (1 : Nat))) (Value.int IntKind.i64 n2) ∧
  ∃ (h3 : List Value → World → Prop),
  ((decide (n2 ≥ (0 : Int)) = true →
  (decide (n2 < (200 : Int)) = true →
  NewR (5 : Nat) [Value.int IntKind.u8 (IntKind.wrap IntKind.u8 n2)] w2 fun (a2 : Addr) (w3 : World) =>
  RunR Try.prog
  (builtinV Builtin.append { toList := [(35 : Nat), (35 : Nat)] } (nat_lit 35)
  { toList := [Value.slice q2_1 k5 k6, Value.slice (some a2) (1 : Nat) (1 : Nat)] })
  w3 fun (v57 : Value) (w4 : World) =>
  ∃ (q3 : Option Addr), ∃ (k7 : Nat), ∃ (k8 : Nat), v57 = Value.slice q3 k7 k8 ∧ h2 [Value.slice q3 k7 k8] w4) ∧
  (decide (n2 < (200 : Int)) = false →
  (decide (n2 ≥ (200 : Int)) = true →
  (decide (n2 < (14280 : Int)) = true →
  (256 : Int) ≠ (0 : Int) ∧
  (256 : Int) ≠ (0 : Int) ∧
  NewR (5 : Nat)
  [Value.int IntKind.u8
  (IntKind.wrap IntKind.u8
  (IntKind.wrap IntKind.i64
  ((200 : Int) + IntKind.wrap IntKind.i64 (Int.tdiv (IntKind.wrap IntKind.i64 (n2 - (200 : Int))) (256 : Int))))),
  Value.int IntKind.u8 (IntKind.wrap IntKind.u8 (Int.tmod (IntKind.wrap IntKind.i64 (n2 - (200 : Int))) (256 : Int)))]
  w2 fun (a3 : Addr) (w5 : World) =>
  RunR Try.prog
  (builtinV Builtin.append { toList := [(35 : Nat), (35 : Nat)] } (nat_lit 35)
  { toList := [Value.slice q2_1 k5 k6, Value.slice (some a3) (2 : Nat) (2 : Nat)] })
  w5 fun (v58 : Value) (w6 : World) =>
  ∃ (q4 : Option Addr), ∃ (k9 : Nat), ∃ (k10 : Nat), v58 = Value.slice q4 k9 k10 ∧ h2 [Value.slice q4 k9 k10] w6) ∧
  (decide (n2 < (14280 : Int)) = false → h3 [Value.slice q2_1 k5 k6] w2)) ∧
  (decide (n2 ≥ (200 : Int)) = false → h3 [Value.slice q2_1 k5 k6] w2))) ∧
  (decide (n2 ≥ (0 : Int)) = false →
  (decide (n2 ≥ (200 : Int)) = true →
  (decide (n2 < (14280 : Int)) = true →
  (256 : Int) ≠ (0 : Int) ∧
  (256 : Int) ≠ (0 : Int) ∧
  NewR (5 : Nat)
  [Value.int IntKind.u8
  (IntKind.wrap IntKind.u8
  (IntKind.wrap IntKind.i64
  ((200 : Int) + IntKind.wrap IntKind.i64 (Int.tdiv (IntKind.wrap IntKind.i64 (n2 - (200 : Int))) (256 : Int))))),
  Value.int IntKind.u8 (IntKind.wrap IntKind.u8 (Int.tmod (IntKind.wrap IntKind.i64 (n2 - (200 : Int))) (256 : Int)))]
  w2 fun (a4 : Addr) (w7 : World) =>
  RunR Try.prog
  (builtinV Builtin.append { toList := [(35 : Nat), (35 : Nat)] } (nat_lit 35)
  { toList := [Value.slice q2_1 k5 k6, Value.slice (some a4) (2 : Nat) (2 : Nat)] })
  w7 fun (v59 : Value) (w8 : World) =>
  ∃ (q5 : Option Addr), ∃ (k11 : Nat), ∃ (k12 : Nat), v59 = Value.slice q5 k11 k12 ∧ h2 [Value.slice q5 k11 k12] w8) ∧
  (decide (n2 < (14280 : Int)) = false → h3 [Value.slice q2_1 k5 k6] w2)) ∧
  (decide (n2 ≥ (200 : Int)) = false → h3 [Value.slice q2_1 k5 k6] w2))) ∧
  ∀ (w9 : World) (q6 : Option Addr) (k13 k14 : Nat)
  (v60 v61 v62 v63 v64 v65 v66 v67 v68 v69 v70 v71 v72 v73 v74 v75 v76 v77 v78 v79 v80 v81 v82 v83 v84 v85 v86 v87 v88 v89
  v90 : Value),
  h3 [Value.slice q6 k13 k14] w9 →
  NewR (5 : Nat) [Value.int IntKind.u8 (255 : Int)] w9 fun (a5 : Addr) (w10 : World) =>
  RunR Try.prog
  (builtinV Builtin.append { toList := [(35 : Nat), (35 : Nat)] } (nat_lit 35)
  { toList := [Value.slice q6 k13 k14, Value.slice (some a5) (1 : Nat) (1 : Nat)] })
  w10 fun (v91 : Value) (w11 : World) =>
  ∃ (q7 : Option Addr),
  ∃ (k15 : Nat),
  ∃ (k16 : Nat),
  v91 = Value.slice q7 k15 k16 ∧
  ∃ (h4 : Nat → List Value → World → Prop),
  (∃ (k17 : Nat), h4 k17 [Value.slice q7 k15 k16, Value.int IntKind.i64 (0 : Int)] w11) ∧
  ∀ (k18 : Nat) (w12 : World) (q8 : Option Addr) (k19 k20 : Nat) (v92 : Value) (n3 : Int)
  (v93 v94 v95 v96 v97 v98 v99 v100 v101 v102 v103 v104 v105 v106 : Value),
  h4 k18 [Value.slice q8 k19 k20, Value.int IntKind.i64 n3] w12 →
  (decide (n3 < (8 : Int)) = true →
  (0 : Int) ≤
  IntKind.wrap IntKind.u64 (IntKind.wrap IntKind.i64 ((56 : Int) - IntKind.wrap IntKind.i64 ((8 : Int) * n3))) ∧
  NewR (5 : Nat)
  [Value.int IntKind.u8
  (IntKind.wrap IntKind.u8
  (shrI IntKind.u64 (IntKind.wrap IntKind.u64 n2)
  (IntKind.wrap IntKind.u64 (IntKind.wrap IntKind.i64 ((56 : Int) - IntKind.wrap IntKind.i64 ((8 : Int) * n3))))))]
  w12 fun (a6 : Addr) (w13 : World) =>
  RunR Try.prog
  (builtinV Builtin.append { toList := [(35 : Nat), (35 : Nat)] } (nat_lit 35)
  { toList := [Value.slice q8 k19 k20, Value.slice (some a6) (1 : Nat) (1 : Nat)] })
  w13 fun (v107 : Value) (w14 : World) =>
  ∃ (q9 : Option Addr),
  ∃ (k21 : Nat),
  ∃ (k22 : Nat),
  v107 = Value.slice q9 k21 k22 ∧
  ∃ (k23 : Nat),
  k23 < k18 ∧ h4 k23 [Value.slice q9 k21 k22, Value.int IntKind.i64 (IntKind.wrap IntKind.i64 (n3 + (1 : Int)))] w14) ∧
  (decide (n3 < (8 : Int)) = false → h2 [Value.slice q8 k19 k20] w12)) ∧
  ∀ (w15 : World) (q10 : Option Addr) (k24 k25 : Nat)
  (v108 v109 v110 v111 v112 v113 v114 v115 v116 v117 v118 v119 v120 v121 v122 v123 v124 v125 v126 v127 v128 v129 v130 v131
  v132 v133 v134 v135 v136 v137 v138 v139 v140 v141 v142 v143 v144 v145 v146 v147 v148 v149 v150 v151 v152 v153 v154 v155
  v156 v157 v158 v159 v160 : Value),
  h2 [Value.slice q10 k24 k25] w15 →
  ∃ (k26 : Nat),
  k26 < k4 ∧ h1 k26 [Value.slice q10 k24 k25, Value.int IntKind.i64 (IntKind.wrap IntKind.i64 (n1 + (1 : Int)))] w15) ∧
  (decide (n1 < (↑l2 : Int)) = false → K (Value.slice q2_1 k5 k6) w2)
theorem tape_Put_eq (q : Option Addr) (l c : Nat) (q2 : Option Addr) (l2 c2 : Nat) (w : World) (K : Value → World → Prop) : fw Try.prog Try.f32 (annL [(1, [(5, some 35), (7, none), (8, none), (13, some 3), (14, none), (15, none), (16, none), (17, none), (18, none), (19, none), (20, none), (21, none), (22, none), (23, none), (24, none), (25, none), (26, none), (27, none), (28, none), (29, none), (30, none), (31, none), (32, none), (33, none), (34, none), (35, none), (36, none), (37, none), (38, none), (39, none), (40, none), (41, none), (42, none), (43, none), (44, none), (45, none), (46, none), (47, none), (48, none), (49, none), (50, none), (51, none), (52, none), (53, none), (54, none), (55, none), (56, none), (57, none), (58, none), (59, none), (60, none), (61, none), (62, none), (63, none), (64, none), (65, none), (66, none)]), (3, [(5, some 35), (7, none), (8, none), (15, none), (16, none), (17, none), (18, none), (19, none), (20, none), (21, none), (22, none), (23, none), (24, none), (25, none), (26, none), (27, none), (28, none), (29, none), (30, none), (31, none), (32, none), (33, none), (34, none), (35, none), (36, none), (37, none), (38, none), (39, none), (40, none), (41, none), (42, none), (43, none), (44, none), (45, none), (46, none), (47, none), (48, none), (49, none), (50, none), (51, none), (52, none), (53, none), (54, none), (55, none), (56, none), (57, none), (58, none), (59, none), (60, none), (61, none), (62, none), (63, none), (64, none), (65, none)]), (4, [(5, some 35), (17, none), (18, none), (19, none), (20, none), (21, none), (22, none), (23, none), (24, none), (25, none), (26, none), (27, none), (28, none), (29, none), (30, none), (31, none), (32, none), (33, none), (34, none), (35, none), (36, none), (37, none), (38, none), (39, none), (40, none), (41, none), (42, none), (43, none), (44, none), (45, none), (46, none), (47, none)]), (8, [(5, some 35), (8, none), (51, some 3), (52, none), (53, none), (54, none), (55, none), (56, none), (57, none), (58, none), (59, none), (60, none), (61, none), (62, none), (63, none), (64, none), (65, none)])]) (ordL []) [.slice q l c, .slice q2 l2 c2] w K = tape_Put_m q l c q2 l2 c2 w K := by kernel_rfl
theorem tape_Put_go (q : Option Addr) (l c : Nat) (q2 : Option Addr) (l2 c2 : Nat) {w : World} {K : Value → World → Prop} (h : tape_Put_m q l c q2 l2 c2 w K) : Rets Try.prog 32 #[.slice q l c, .slice q2 l2 c2] w K :=
  calls_of_fw plain mixed Try.func32 (by kernel_rfl) (by rw [tape_Put_eq]; exact h)
def cortadoref16_Put_m (q : Option Addr) (l c : Nat) (w : World) (K : Value → World → Prop) : Prop :=
  ∃ (h1 : Nat → List Value → World → Prop),
  (∃ (k1 : Nat), h1 k1 [Value.slice none (0 : Nat) (0 : Nat), Value.int IntKind.i64 (0 : Int)] w) ∧
  ∀ (k2 : Nat) (w1 : World) (q1 : Option Addr) (k3 k4 : Nat) (n1 : Int)
  (v1 v2 v3 v4 v5 v6 v7 v8 v9 v10 v11 v12 v13 v14 v15 v16 v17 v18 v19 v20 v21 v22 v23 v24 v25 v26 v27 v28 v29 v30 v31 v32
  v33 v34 v35 v36 v37 v38 v39 v40 v41 v42 v43 v44 v45 v46 v47 v48 v49 v50 v51 v52 v53 v54 v55 v56 v57 v58 v59 v60 v61 v62
  v63 v64 : Value),
  h1 k2 [Value.slice q1 k3 k4, Value.int IntKind.i64 n1] w1 →
  (decide (n1 < (↑l : Int)) = true →
  ∃ (h2 : List Value → World → Prop),
  ((0 : Int) ≤ n1 ∧
  n1 < (↑l : Int) ∧
  someR q fun (a1 : Addr) =>
  ∃ (n2 : Int),
  cellAt w1 (Addr.add a1 (Int.toNat n1 * (1 : Nat))) (Value.int IntKind.i64 n2) ∧
  (decide (n2 ≥ (0 : Int)) = true →
  (decide (n2 < (200 : Int)) = true →
  NewR (5 : Nat) [Value.int IntKind.u8 (IntKind.wrap IntKind.u8 n2)] w1 fun (a2 : Addr) (w2 : World) =>
  RunR Try.prog
  (builtinV Builtin.append { toList := [(35 : Nat), (35 : Nat)] } (nat_lit 35)
  { toList := [Value.slice q1 k3 k4, Value.slice (some a2) (1 : Nat) (1 : Nat)] })
  w2 fun (v65 : Value) (w3 : World) =>
  ∃ (q2 : Option Addr), ∃ (k5 : Nat), ∃ (k6 : Nat), v65 = Value.slice q2 k5 k6 ∧ h2 [Value.slice q2 k5 k6] w3) ∧
  (decide (n2 < (200 : Int)) = false →
  (decide (n2 ≥ (200 : Int)) = true →
  (decide (n2 < (14280 : Int)) = true →
  (256 : Int) ≠ (0 : Int) ∧
  (256 : Int) ≠ (0 : Int) ∧
  NewR (5 : Nat)
  [Value.int IntKind.u8
  (IntKind.wrap IntKind.u8
  (IntKind.wrap IntKind.i64
  ((200 : Int) + IntKind.wrap IntKind.i64 (Int.tdiv (IntKind.wrap IntKind.i64 (n2 - (200 : Int))) (256 : Int))))),
  Value.int IntKind.u8 (IntKind.wrap IntKind.u8 (Int.tmod (IntKind.wrap IntKind.i64 (n2 - (200 : Int))) (256 : Int)))]
  w1 fun (a3 : Addr) (w4 : World) =>
  RunR Try.prog
  (builtinV Builtin.append { toList := [(35 : Nat), (35 : Nat)] } (nat_lit 35)
  { toList := [Value.slice q1 k3 k4, Value.slice (some a3) (2 : Nat) (2 : Nat)] })
  w4 fun (v66 : Value) (w5 : World) =>
  ∃ (q3 : Option Addr), ∃ (k7 : Nat), ∃ (k8 : Nat), v66 = Value.slice q3 k7 k8 ∧ h2 [Value.slice q3 k7 k8] w5) ∧
  (decide (n2 < (14280 : Int)) = false →
  ∃ (h3 : List Value → World → Prop),
  (∃ (h4 : Nat → List Value → World → Prop),
  (∃ (k9 : Nat),
  h4 k9
  [Value.int IntKind.u64 (IntKind.wrap IntKind.u64 n2), Value.slice none (0 : Nat) (0 : Nat),
  Value.int IntKind.i64 (0 : Int)]
  w1) ∧
  ∀ (k10 : Nat) (w6 : World) (n3 : Int) (q4 : Option Addr) (k11 k12 : Nat) (n4 : Int)
  (v67 v68 v69 v70 v71 v72 v73 v74 v75 v76 v77 v78 : Value),
  h4 k10 [Value.int IntKind.u64 n3, Value.slice q4 k11 k12, Value.int IntKind.i64 n4] w6 →
  (decide (n4 < (8 : Int)) = true →
  (256 : Int) ≠ (0 : Int) ∧
  NewR (5 : Nat) [Value.int IntKind.u8 (IntKind.wrap IntKind.u8 (Int.tmod n3 (256 : Int)))] w6
  fun (a4 : Addr) (w7 : World) =>
  RunR Try.prog
  (builtinV Builtin.append { toList := [(35 : Nat), (35 : Nat)] } (nat_lit 35)
  { toList := [Value.slice (some a4) (1 : Nat) (1 : Nat), Value.slice q4 k11 k12] })
  w7 fun (v79 : Value) (w8 : World) =>
  ∃ (q5 : Option Addr),
  ∃ (k13 : Nat),
  ∃ (k14 : Nat),
  v79 = Value.slice q5 k13 k14 ∧
  (256 : Int) ≠ (0 : Int) ∧
  ∃ (k15 : Nat),
  k15 < k10 ∧
  h4 k15
  [Value.int IntKind.u64 (IntKind.wrap IntKind.u64 (Int.tdiv n3 (256 : Int))), Value.slice q5 k13 k14,
  Value.int IntKind.i64 (IntKind.wrap IntKind.i64 (n4 + (1 : Int)))]
  w8) ∧
  (decide (n4 < (8 : Int)) = false → h3 [Value.slice q4 k11 k12] w6)) ∧
  ∀ (w9 : World) (v80 : Value) (q6 : Option Addr) (k16 k17 : Nat)
  (v81 v82 v83 v84 v85 v86 v87 v88 v89 v90 v91 v92 v93 : Value),
  h3 [Value.slice q6 k16 k17] w9 →
  NewR (5 : Nat) [Value.int IntKind.u8 (255 : Int)] w9 fun (a5 : Addr) (w10 : World) =>
  RunR Try.prog
  (builtinV Builtin.append { toList := [(35 : Nat), (35 : Nat)] } (nat_lit 35)
  { toList := [Value.slice q1 k3 k4, Value.slice (some a5) (1 : Nat) (1 : Nat)] })
  w10 fun (v94 : Value) (w11 : World) =>
  ∃ (q7 : Option Addr),
  ∃ (k18 : Nat),
  ∃ (k19 : Nat),
  v94 = Value.slice q7 k18 k19 ∧
  RunR Try.prog
  (builtinV Builtin.append { toList := [(35 : Nat), (35 : Nat)] } (nat_lit 35)
  { toList := [Value.slice q7 k18 k19, Value.slice q6 k16 k17] })
  w11 fun (v95 : Value) (w12 : World) =>
  ∃ (q8 : Option Addr), ∃ (k20 : Nat), ∃ (k21 : Nat), v95 = Value.slice q8 k20 k21 ∧ h2 [Value.slice q8 k20 k21] w12)) ∧
  (decide (n2 ≥ (200 : Int)) = false →
  ∃ (h5 : List Value → World → Prop),
  (∃ (h6 : Nat → List Value → World → Prop),
  (∃ (k22 : Nat),
  h6 k22
  [Value.int IntKind.u64 (IntKind.wrap IntKind.u64 n2), Value.slice none (0 : Nat) (0 : Nat),
  Value.int IntKind.i64 (0 : Int)]
  w1) ∧
  ∀ (k23 : Nat) (w13 : World) (n5 : Int) (q9 : Option Addr) (k24 k25 : Nat) (n6 : Int)
  (v96 v97 v98 v99 v100 v101 v102 v103 v104 v105 v106 v107 : Value),
  h6 k23 [Value.int IntKind.u64 n5, Value.slice q9 k24 k25, Value.int IntKind.i64 n6] w13 →
  (decide (n6 < (8 : Int)) = true →
  (256 : Int) ≠ (0 : Int) ∧
  NewR (5 : Nat) [Value.int IntKind.u8 (IntKind.wrap IntKind.u8 (Int.tmod n5 (256 : Int)))] w13
  fun (a6 : Addr) (w14 : World) =>
  RunR Try.prog
  (builtinV Builtin.append { toList := [(35 : Nat), (35 : Nat)] } (nat_lit 35)
  { toList := [Value.slice (some a6) (1 : Nat) (1 : Nat), Value.slice q9 k24 k25] })
  w14 fun (v108 : Value) (w15 : World) =>
  ∃ (q10 : Option Addr),
  ∃ (k26 : Nat),
  ∃ (k27 : Nat),
  v108 = Value.slice q10 k26 k27 ∧
  (256 : Int) ≠ (0 : Int) ∧
  ∃ (k28 : Nat),
  k28 < k23 ∧
  h6 k28
  [Value.int IntKind.u64 (IntKind.wrap IntKind.u64 (Int.tdiv n5 (256 : Int))), Value.slice q10 k26 k27,
  Value.int IntKind.i64 (IntKind.wrap IntKind.i64 (n6 + (1 : Int)))]
  w15) ∧
  (decide (n6 < (8 : Int)) = false → h5 [Value.slice q9 k24 k25] w13)) ∧
  ∀ (w16 : World) (v109 : Value) (q11 : Option Addr) (k29 k30 : Nat)
  (v110 v111 v112 v113 v114 v115 v116 v117 v118 v119 v120 v121 v122 : Value),
  h5 [Value.slice q11 k29 k30] w16 →
  NewR (5 : Nat) [Value.int IntKind.u8 (255 : Int)] w16 fun (a7 : Addr) (w17 : World) =>
  RunR Try.prog
  (builtinV Builtin.append { toList := [(35 : Nat), (35 : Nat)] } (nat_lit 35)
  { toList := [Value.slice q1 k3 k4, Value.slice (some a7) (1 : Nat) (1 : Nat)] })
  w17 fun (v123 : Value) (w18 : World) =>
  ∃ (q12 : Option Addr),
  ∃ (k31 : Nat),
  ∃ (k32 : Nat),
  v123 = Value.slice q12 k31 k32 ∧
  RunR Try.prog
  (builtinV Builtin.append { toList := [(35 : Nat), (35 : Nat)] } (nat_lit 35)
  { toList := [Value.slice q12 k31 k32, Value.slice q11 k29 k30] })
  w18 fun (v124 : Value) (w19 : World) =>
  ∃ (q13 : Option Addr),
  ∃ (k33 : Nat), ∃ (k34 : Nat), v124 = Value.slice q13 k33 k34 ∧ h2 [Value.slice q13 k33 k34] w19))) ∧
  (decide (n2 ≥ (0 : Int)) = false →
  (decide (n2 ≥ (200 : Int)) = true →
  (decide (n2 < (14280 : Int)) = true →
  (256 : Int) ≠ (0 : Int) ∧
  (256 : Int) ≠ (0 : Int) ∧
  NewR (5 : Nat)
  [Value.int IntKind.u8
  (IntKind.wrap IntKind.u8
  (IntKind.wrap IntKind.i64
  ((200 : Int) + IntKind.wrap IntKind.i64 (Int.tdiv (IntKind.wrap IntKind.i64 (n2 - (200 : Int))) (256 : Int))))),
  Value.int IntKind.u8 (IntKind.wrap IntKind.u8 (Int.tmod (IntKind.wrap IntKind.i64 (n2 - (200 : Int))) (256 : Int)))]
  w1 fun (a8 : Addr) (w20 : World) =>
  RunR Try.prog
  (builtinV Builtin.append { toList := [(35 : Nat), (35 : Nat)] } (nat_lit 35)
  { toList := [Value.slice q1 k3 k4, Value.slice (some a8) (2 : Nat) (2 : Nat)] })
  w20 fun (v125 : Value) (w21 : World) =>
  ∃ (q14 : Option Addr),
  ∃ (k35 : Nat), ∃ (k36 : Nat), v125 = Value.slice q14 k35 k36 ∧ h2 [Value.slice q14 k35 k36] w21) ∧
  (decide (n2 < (14280 : Int)) = false →
  ∃ (h7 : List Value → World → Prop),
  (∃ (h8 : Nat → List Value → World → Prop),
  (∃ (k37 : Nat),
  h8 k37
  [Value.int IntKind.u64 (IntKind.wrap IntKind.u64 n2), Value.slice none (0 : Nat) (0 : Nat),
  Value.int IntKind.i64 (0 : Int)]
  w1) ∧
  ∀ (k38 : Nat) (w22 : World) (n7 : Int) (q15 : Option Addr) (k39 k40 : Nat) (n8 : Int)
  (v126 v127 v128 v129 v130 v131 v132 v133 v134 v135 v136 v137 : Value),
  h8 k38 [Value.int IntKind.u64 n7, Value.slice q15 k39 k40, Value.int IntKind.i64 n8] w22 →
  (decide (n8 < (8 : Int)) = true →
  (256 : Int) ≠ (0 : Int) ∧
  NewR (5 : Nat) [Value.int IntKind.u8 (IntKind.wrap IntKind.u8 (Int.tmod n7 (256 : Int)))] w22
  fun (a9 : Addr) (w23 : World) =>
  RunR Try.prog
  (builtinV Builtin.append { toList := [(35 : Nat), (35 : Nat)] } (nat_lit 35)
  { toList := [Value.slice (some a9) (1 : Nat) (1 : Nat), Value.slice q15 k39 k40] })
  w23 fun (v138 : Value) (w24 : World) =>
  ∃ (q16 : Option Addr),
  ∃ (k41 : Nat),
  ∃ (k42 : Nat),
  v138 = Value.slice q16 k41 k42 ∧
  (256 : Int) ≠ (0 : Int) ∧
  ∃ (k43 : Nat),
  k43 < k38 ∧
  h8 k43
  [Value.int IntKind.u64 (IntKind.wrap IntKind.u64 (Int.tdiv n7 (256 : Int))), Value.slice q16 k41 k42,
  Value.int IntKind.i64 (IntKind.wrap IntKind.i64 (n8 + (1 : Int)))]
  w24) ∧
  (decide (n8 < (8 : Int)) = false → h7 [Value.slice q15 k39 k40] w22)) ∧
  ∀ (w25 : World) (v139 : Value) (q17 : Option Addr) (k44 k45 : Nat)
  (v140 v141 v142 v143 v144 v145 v146 v147 v148 v149 v150 v151 v152 : Value),
  h7 [Value.slice q17 k44 k45] w25 →
  NewR (5 : Nat) [Value.int IntKind.u8 (255 : Int)] w25 fun (a10 : Addr) (w26 : World) =>
  RunR Try.prog
  (builtinV Builtin.append { toList := [(35 : Nat), (35 : Nat)] } (nat_lit 35)
  { toList := [Value.slice q1 k3 k4, Value.slice (some a10) (1 : Nat) (1 : Nat)] })
  w26 fun (v153 : Value) (w27 : World) =>
  ∃ (q18 : Option Addr),
  ∃ (k46 : Nat),
  ∃ (k47 : Nat),
  v153 = Value.slice q18 k46 k47 ∧
  RunR Try.prog
  (builtinV Builtin.append { toList := [(35 : Nat), (35 : Nat)] } (nat_lit 35)
  { toList := [Value.slice q18 k46 k47, Value.slice q17 k44 k45] })
  w27 fun (v154 : Value) (w28 : World) =>
  ∃ (q19 : Option Addr),
  ∃ (k48 : Nat), ∃ (k49 : Nat), v154 = Value.slice q19 k48 k49 ∧ h2 [Value.slice q19 k48 k49] w28)) ∧
  (decide (n2 ≥ (200 : Int)) = false →
  ∃ (h9 : List Value → World → Prop),
  (∃ (h10 : Nat → List Value → World → Prop),
  (∃ (k50 : Nat),
  h10 k50
  [Value.int IntKind.u64 (IntKind.wrap IntKind.u64 n2), Value.slice none (0 : Nat) (0 : Nat),
  Value.int IntKind.i64 (0 : Int)]
  w1) ∧
  ∀ (k51 : Nat) (w29 : World) (n9 : Int) (q20 : Option Addr) (k52 k53 : Nat) (n10 : Int)
  (v155 v156 v157 v158 v159 v160 v161 v162 v163 v164 v165 v166 : Value),
  h10 k51 [Value.int IntKind.u64 n9, Value.slice q20 k52 k53, Value.int IntKind.i64 n10] w29 →
  (decide (n10 < (8 : Int)) = true →
  (256 : Int) ≠ (0 : Int) ∧
  NewR (5 : Nat) [Value.int IntKind.u8 (IntKind.wrap IntKind.u8 (Int.tmod n9 (256 : Int)))] w29
  fun (a11 : Addr) (w30 : World) =>
  RunR Try.prog
  (builtinV Builtin.append { toList := [(35 : Nat), (35 : Nat)] } (nat_lit 35)
  { toList := [Value.slice (some a11) (1 : Nat) (1 : Nat), Value.slice q20 k52 k53] })
  w30 fun (v167 : Value) (w31 : World) =>
  ∃ (q21 : Option Addr),
  ∃ (k54 : Nat),
  ∃ (k55 : Nat),
  v167 = Value.slice q21 k54 k55 ∧
  (256 : Int) ≠ (0 : Int) ∧
  ∃ (k56 : Nat),
  k56 < k51 ∧
  h10 k56
  [Value.int IntKind.u64 (IntKind.wrap IntKind.u64 (Int.tdiv n9 (256 : Int))), Value.slice q21 k54 k55,
  Value.int IntKind.i64 (IntKind.wrap IntKind.i64 (n10 + (1 : Int)))]
  w31) ∧
  (decide (n10 < (8 : Int)) = false → h9 [Value.slice q20 k52 k53] w29)) ∧
  ∀ (w32 : World) (v168 : Value) (q22 : Option Addr) (k57 k58 : Nat)
  (v169 v170 v171 v172 v173 v174 v175 v176 v177 v178 v179 v180 v181 : Value),
  h9 [Value.slice q22 k57 k58] w32 →
  NewR (5 : Nat) [Value.int IntKind.u8 (255 : Int)] w32 fun (a12 : Addr) (w33 : World) =>
  RunR Try.prog
  (builtinV Builtin.append { toList := [(35 : Nat), (35 : Nat)] } (nat_lit 35)
  { toList := [Value.slice q1 k3 k4, Value.slice (some a12) (1 : Nat) (1 : Nat)] })
  w33 fun (v182 : Value) (w34 : World) =>
  ∃ (q23 : Option Addr),
  ∃ (k59 : Nat),
  ∃ (k60 : Nat),
  v182 = Value.slice q23 k59 k60 ∧
  RunR Try.prog
  (builtinV Builtin.append { toList := [(35 : Nat), (35 : Nat)] } (nat_lit 35)
  { toList := [Value.slice q23 k59 k60, Value.slice q22 k57 k58] })
  w34 fun (v183 : Value) (w35 : World) =>
  ∃ (q24 : Option Addr),
  ∃ (k61 : Nat), ∃ (k62 : Nat), v183 = Value.slice q24 k61 k62 ∧ h2 [Value.slice q24 k61 k62] w35))) ∧
  ∀ (w36 : World) (q25 : Option Addr) (k63 k64 : Nat)
  (v184 v185 v186 v187 v188 v189 v190 v191 v192 v193 v194 v195 v196 v197 v198 v199 v200 v201 v202 v203 v204 v205 v206 v207
  v208 v209 v210 v211 v212 v213 v214 v215 v216 v217 v218 v219 v220 v221 v222 v223 v224 v225 v226 v227 v228 v229 v230 v231
  v232 v233 v234 v235 v236 v237 v238 v239 v240 v241 : Value),
  h2 [Value.slice q25 k63 k64] w36 →
  ∃ (k65 : Nat),
  k65 < k2 ∧ h1 k65 [Value.slice q25 k63 k64, Value.int IntKind.i64 (IntKind.wrap IntKind.i64 (n1 + (1 : Int)))] w36) ∧
  (decide (n1 < (↑l : Int)) = false → K (Value.slice q1 k3 k4) w1)
theorem cortadoref16_Put_eq (q : Option Addr) (l c : Nat) (w : World) (K : Value → World → Prop) : fw Try.prog Try.f34 (annL [(1, [(3, some 35), (4, some 3), (5, none), (6, none), (7, none), (8, none), (9, none), (10, none), (11, none), (12, none), (13, none), (14, none), (15, none), (16, none), (17, none), (18, none), (19, none), (20, none), (21, none), (22, none), (23, none), (24, none), (25, none), (26, none), (27, none), (28, none), (29, none), (30, none), (31, none), (32, none), (33, none), (34, none), (35, none), (36, none), (37, none), (38, none), (39, none), (40, none), (41, none), (42, none), (43, none), (44, none), (45, none), (46, none), (47, none), (48, none), (49, none), (50, none), (51, none), (52, none), (53, none), (54, none), (55, none), (56, none), (57, none), (58, none), (59, none), (60, none), (61, none), (62, none), (63, none), (64, none), (65, none), (66, none), (67, none), (68, none)]), (3, [(3, some 35), (5, none), (6, none), (7, none), (8, none), (9, none), (16, none), (17, none), (18, none), (19, none), (20, none), (21, none), (22, none), (23, none), (24, none), (25, none), (26, none), (27, none), (28, none), (29, none), (30, none), (31, none), (32, none), (33, none), (34, none), (35, none), (36, none), (37, none), (38, none), (39, none), (40, none), (41, none), (42, none), (43, none), (44, none), (45, none), (46, none), (47, none), (48, none), (49, none), (50, none), (51, none), (52, none), (53, none), (54, none), (55, none), (56, none), (57, none), (58, none), (59, none), (60, none), (61, none), (62, none), (63, none), (64, none), (65, none), (66, none), (67, none), (68, none)]), (6, [(7, none), (8, some 35), (9, none), (51, none), (52, none), (53, none), (54, none), (55, none), (56, none), (57, none), (58, none), (59, none), (60, none), (61, none), (62, none)]), (7, [(7, some 67), (8, some 35), (9, some 3), (51, none), (52, none), (53, none), (54, none), (55, none), (56, none), (57, none), (58, none), (59, none), (60, none), (61, none), (62, none)])]) (ordL []) [.slice q l c] w K = cortadoref16_Put_m q l c w K := by kernel_rfl
theorem cortadoref16_Put_go (q : Option Addr) (l c : Nat) {w : World} {K : Value → World → Prop} (h : cortadoref16_Put_m q l c w K) : Rets Try.prog 34 #[.slice q l c] w K :=
  calls_of_fw plain mixed Try.func34 (by kernel_rfl) (by rw [cortadoref16_Put_eq]; exact h)
end Go.Proofs.Ytppmdifhoejhjaa.Eng
