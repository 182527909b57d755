/- What the code of these functions asks for: printed by a program of this session's (gens.py) out of the seat's own functions; the kernel checks each row. -/
import Derived.Test.YtjdbeopgmpbikaaDoorEngH
import Derived.Test.YtjdbeopgmpbikaaDoorProg
import Derived.Test.YtjdbeopgmpbikaaDoorBase
namespace Go.Proofs.YtjdbeopgmpbikaaDoor.Eng
open Go Go.Proofs
set_option linter.unusedVariables false
set_option maxRecDepth 1000000
def cortadolaw14_ExactBelow_m (n s : Int) (q : Option Addr) (l c : Nat) (w : World) (K : Value → World → Prop) : Prop :=
  (decide ((↑l : Int) > (80 : Int)) = true →
  Rets Tryd.prog (5 : Nat) { toList := [] } w fun (v1 : Value) (w1 : World) =>
  ∃ (b1 : Bool), v1 = Value.bool b1 ∧ K (Value.bool b1) w1) ∧
  (decide ((↑l : Int) > (80 : Int)) = false →
  Rets Tryd.prog (6 : Nat) { toList := [Value.int IntKind.i64 (minI n (500 : Int)), Value.int IntKind.u64 s] } w
  fun (v2 : Value) (w2 : World) =>
  ∃ (q1 : Option Addr),
  v2 = Value.pointer q1 ∧
  Rets Tryd.prog (7 : Nat) { toList := [Value.int IntKind.i64 (minI n (500 : Int))] } w2 fun (v3 : Value) (w3 : World) =>
  ∃ (q2 : Option Addr),
  v3 = Value.pointer q2 ∧
  ∃ (h1 : Nat → List Value → World → Prop),
  (∃ (k1 : Nat), h1 k1 [Value.int IntKind.i64 (0 : Int)] w3) ∧
  ∀ (k2 : Nat) (w4 : World) (v4 : Value) (n1 : Int)
  (v5 v6 v7 v8 v9 v10 v11 v12 v13 v14 v15 v16 v17 v18 v19 v20 v21 v22 v23 v24 v25 v26 v27 v28 v29 v30 v31 v32 v33 v34 v35
  v36 v37 v38 v39 v40 v41 v42 : Value),
  h1 k2 [Value.int IntKind.i64 n1] w4 →
  (decide (n1 < (↑l : Int)) = true →
  (0 : Int) ≤ n1 ∧
  n1 < (↑l : Int) ∧
  someR q fun (a1 : Addr) =>
  ∃ (n2 : Int),
  cellAt w4 (Addr.add a1 (Int.toNat n1 * (1 : Nat))) (Value.int IntKind.u64 n2) ∧
  Rets Tryd.prog (8 : Nat) { toList := [Value.pointer q1, Value.int IntKind.u64 n2] } w4 fun (v43 : Value) (w5 : World) =>
  v43 = Value.tuple { toList := [] } ∧
  (0 : Int) ≤ n1 ∧
  n1 < (↑l : Int) ∧
  someR q fun (a2 : Addr) =>
  ∃ (n3 : Int),
  cellAt w5 (Addr.add a2 (Int.toNat n1 * (1 : Nat))) (Value.int IntKind.u64 n3) ∧
  Rets Tryd.prog (9 : Nat) { toList := [Value.pointer q2, Value.int IntKind.u64 n3] } w5 fun (v44 : Value) (w6 : World) =>
  v44 = Value.tuple { toList := [] } ∧
  ∃ (h2 : Nat → List Value → World → Prop),
  (∃ (k3 : Nat), h2 k3 [Value.int IntKind.i64 (0 : Int)] w6) ∧
  ∀ (k4 : Nat) (w7 : World) (v45 : Value) (n4 : Int)
  (v46 v47 v48 v49 v50 v51 v52 v53 v54 v55 v56 v57 v58 v59 v60 v61 v62 v63 v64 : Value),
  h2 k4 [Value.int IntKind.i64 n4] w7 →
  (decide (n4 < (↑l : Int)) = true →
  Drw w7 fun (w8 : World) =>
  ∃ (h3 : World → Prop),
  h3 w8 ∧
  (0 : Int) ≤ n4 ∧
  n4 < (↑l : Int) ∧
  someR q fun (a3 : Addr) =>
  (0 : Int) ≤ n4 ∧
  n4 < (↑l : Int) ∧
  someR q fun (a4 : Addr) =>
  ∃ (n5 : Int),
  (∀ (w9 : World), h3 w9 → World.cell? w9 (Addr.add a3 (Int.toNat n4 * (1 : Nat))) = some (Value.int IntKind.u64 n5)) ∧
  ∃ (n6 : Int),
  (∀ (w10 : World), h3 w10 → World.cell? w10 (Addr.add a4 (Int.toNat n4 * (1 : Nat))) = some (Value.int IntKind.u64 n6)) ∧
  Rets Tryd.prog (10 : Nat) { toList := [Value.pointer q1, Value.int IntKind.u64 n5] } w8
  fun (v65 : Value) (w11 : World) =>
  ∃ (n7 : Int),
  v65 = Value.int IntKind.i64 n7 ∧
  h3 w11 ∧
  Rets Tryd.prog (11 : Nat) { toList := [Value.pointer q2, Value.int IntKind.u64 n6] } w11
  fun (v66 : Value) (w12 : World) =>
  ∃ (n8 : Int),
  v66 = Value.int IntKind.i64 n8 ∧
  (decide (n7 < n8) = true → K (Value.bool false) w12) ∧
  (decide (n7 < n8) = false →
  ∃ (k5 : Nat), k5 < k4 ∧ h2 k5 [Value.int IntKind.i64 (IntKind.wrap IntKind.i64 (n4 + (1 : Int)))] w12)) ∧
  (decide (n4 < (↑l : Int)) = false →
  ∃ (k6 : Nat), k6 < k2 ∧ h1 k6 [Value.int IntKind.i64 (IntKind.wrap IntKind.i64 (n1 + (1 : Int)))] w7)) ∧
  (decide (n1 < (↑l : Int)) = false →
  Rets Tryd.prog (12 : Nat) { toList := [Value.pointer q1] } w4 fun (v67 : Value) (w13 : World) =>
  ∃ (n9 : Int),
  v67 = Value.int IntKind.i64 n9 ∧
  Rets Tryd.prog (13 : Nat) { toList := [Value.pointer q2] } w13 fun (v68 : Value) (w14 : World) =>
  ∃ (n10 : Int),
  v68 = Value.int IntKind.i64 n10 ∧
  ((n9 == n10) = true →
  Rets Tryd.prog (5 : Nat) { toList := [] } w14 fun (v69 : Value) (w15 : World) =>
  ∃ (b2 : Bool), v69 = Value.bool b2 ∧ K (Value.bool b2) w15) ∧
  ((n9 == n10) = false → K (Value.bool false) w14)))
theorem cortadolaw14_ExactBelow_eq (n s : Int) (q : Option Addr) (l c : Nat) (w : World) (K : Value → World → Prop) : fw Tryd.prog Tryd.f3 (annL [(2, [(6, none), (9, some 3), (10, none), (22, none), (23, none), (24, none), (25, none), (26, none), (27, none), (28, none), (29, none), (30, none), (31, none), (32, none), (33, none), (34, none), (35, none), (36, none), (37, none), (38, none), (39, none), (40, none), (41, none), (42, none), (43, none), (44, none), (45, none), (46, none), (47, none), (48, none), (49, none), (50, none), (51, none), (52, none), (53, none), (54, none), (55, none), (56, none), (57, none), (58, none)]), (6, [(6, none), (10, some 3), (40, none), (41, none), (42, none), (43, none), (44, none), (45, none), (46, none), (47, none), (48, none), (49, none), (50, none), (51, none), (52, none), (53, none), (54, none), (55, none), (56, none), (57, none), (58, none)])]) (ordL [(12, [(0, 0), (1, 0), (2, 0), (3, 0), (6, 0), (7, 0), (8, 0), (9, 0), (4, 1), (10, 1), (5, 2), (11, 3), (12, 0)])]) [.int .i64 n, .int .u64 s, .slice q l c] w K = cortadolaw14_ExactBelow_m n s q l c w K := by kernel_rfl
theorem cortadolaw14_ExactBelow_go (n s : Int) (q : Option Addr) (l c : Nat) {w : World} {K : Value → World → Prop} (h : cortadolaw14_ExactBelow_m n s q l c w K) : Rets Tryd.prog 3 #[.int .i64 n, .int .u64 s, .slice q l c] w K :=
  calls_of_fw plain mixed Tryd.func3 (by kernel_rfl) (by rw [cortadolaw14_ExactBelow_eq]; exact h)
end Go.Proofs.YtjdbeopgmpbikaaDoor.Eng
