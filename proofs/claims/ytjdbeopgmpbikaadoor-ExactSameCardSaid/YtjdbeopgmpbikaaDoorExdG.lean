/- What the code of these functions asks for: printed by a program of this session's (gens.py) out of the seat's own functions; the kernel checks each row. -/
import Derived.Test.YtjdbeopgmpbikaaDoorEngH
import Derived.Test.YtjdbeopgmpbikaaDoorProg
import Derived.Test.YtjdbeopgmpbikaaDoorBase
namespace Go.Proofs.YtjdbeopgmpbikaaDoor.Eng
open Go Go.Proofs
set_option linter.unusedVariables false
set_option maxRecDepth 1000000
def cortadolaw14_ExactSame_m (n s : Int) (q : Option Addr) (l c : Nat) (w : World) (K : Value → World → Prop) : Prop :=
  (decide ((↑l : Int) > (40 : Int)) = true →
  Rets Tryd.prog (5 : Nat) { toList := [] } w fun (v1 : Value) (w1 : World) =>
  ∃ (b1 : Bool), v1 = Value.bool b1 ∧ K (Value.bool b1) w1) ∧
  (decide ((↑l : Int) > (40 : Int)) = false →
  Rets Tryd.prog (6 : Nat) { toList := [Value.int IntKind.i64 (minI n (500 : Int)), Value.int IntKind.u64 s] } w
  fun (v2 : Value) (w2 : World) =>
  ∃ (q1 : Option Addr),
  v2 = Value.pointer q1 ∧
  Rets Tryd.prog (7 : Nat) { toList := [Value.int IntKind.i64 (minI n (500 : Int))] } w2 fun (v3 : Value) (w3 : World) =>
  ∃ (q2 : Option Addr),
  v3 = Value.pointer q2 ∧
  Rets Tryd.prog (14 : Nat) { toList := [Value.pointer q1, Value.slice q l c] } w3 fun (v4 : Value) (w4 : World) =>
  ∃ (b2 : Bool),
  v4 = Value.bool b2 ∧
  Rets Tryd.prog (16 : Nat) { toList := [Value.int IntKind.i64 (minI n (500 : Int)), Value.int IntKind.u64 s] } w4
  fun (v5 : Value) (w5 : World) =>
  ∃ (q3 : Option Addr),
  ∃ (k1 : Nat),
  ∃ (k2 : Nat),
  ∃ (n1 : Int),
  ∃ (n2 : Int),
  ∃ (q4 : Option Addr),
  ∃ (k3 : Nat),
  ∃ (k4 : Nat),
  ∃ (n3 : Int),
  ∃ (n4 : Int),
  ∃ (n5 : Int),
  ∃ (n6 : Int),
  ∃ (n7 : Int),
  ∃ (n8 : Int),
  v5 =
  Value.agg
  {
  toList :=
  [Value.slice q3 k1 k2, Value.int IntKind.i64 n1, Value.int IntKind.u64 n2, Value.slice q4 k3 k4,
  Value.int IntKind.u64 n3, Value.int IntKind.i64 n4, Value.int IntKind.i64 n5, Value.int IntKind.i64 n6,
  Value.int IntKind.i64 n7, Value.int IntKind.u64 n8] } ∧
  Rets Tryd.prog (15 : Nat)
  {
  toList :=
  [Value.agg
  {
  toList :=
  [Value.slice q3 k1 k2, Value.int IntKind.i64 n1, Value.int IntKind.u64 n2, Value.slice q4 k3 k4,
  Value.int IntKind.u64 n3, Value.int IntKind.i64 n4, Value.int IntKind.i64 n5, Value.int IntKind.i64 n6,
  Value.int IntKind.i64 n7, Value.int IntKind.u64 n8] },
  Value.slice q l c] }
  w5 fun (v6 : Value) (w6 : World) =>
  ∃ (b3 : Bool),
  v6 = Value.bool b3 ∧
  ((!b2 == b3) = true → K (Value.bool false) w6) ∧
  ((!b2 == b3) = false →
  (2 : Int) ≠ (0 : Int) ∧
  (0 : Int) ≤ IntKind.wrap IntKind.i64 (Int.tdiv (↑l : Int) (2 : Int)) ∧
  IntKind.wrap IntKind.i64 (Int.tdiv (↑l : Int) (2 : Int)) ≤ (↑c : Int) ∧
  ∃ (h1 : Nat → List Value → World → Prop),
  (∃ (k5 : Nat), h1 k5 [Value.int IntKind.i64 (0 : Int)] w6) ∧
  ∀ (k6 : Nat) (w7 : World) (v7 : Value) (n9 : Int)
  (v8 v9 v10 v11 v12 v13 v14 v15 v16 v17 v18 v19 v20 v21 v22 v23 v24 v25 v26 v27 v28 v29 v30 v31 v32 v33 v34 v35 v36 v37
  v38 v39 v40 v41 v42 v43 v44 v45 v46 v47 v48 : Value),
  h1 k6 [Value.int IntKind.i64 n9] w7 →
  (decide (n9 < (↑(Int.toNat (IntKind.wrap IntKind.i64 (Int.tdiv (↑l : Int) (2 : Int))) - (0 : Nat)) : Int)) = true →
  (b2 = true →
  (0 : Int) ≤ n9 ∧
  n9 < (↑(Int.toNat (IntKind.wrap IntKind.i64 (Int.tdiv (↑l : Int) (2 : Int))) - (0 : Nat)) : Int) ∧
  someR (slcA q (0 : Nat) c (1 : Nat)) fun (a1 : Addr) =>
  ∃ (n10 : Int),
  cellAt w7 (Addr.add a1 (Int.toNat n9 * (1 : Nat))) (Value.int IntKind.u64 n10) ∧
  Rets Tryd.prog (8 : Nat) { toList := [Value.pointer q1, Value.int IntKind.u64 n10] } w7
  fun (v49 : Value) (w8 : World) =>
  v49 = Value.tuple { toList := [] } ∧
  (0 : Int) ≤ n9 ∧
  n9 < (↑(Int.toNat (IntKind.wrap IntKind.i64 (Int.tdiv (↑l : Int) (2 : Int))) - (0 : Nat)) : Int) ∧
  someR (slcA q (0 : Nat) c (1 : Nat)) fun (a2 : Addr) =>
  ∃ (n11 : Int),
  cellAt w8 (Addr.add a2 (Int.toNat n9 * (1 : Nat))) (Value.int IntKind.u64 n11) ∧
  Rets Tryd.prog (9 : Nat) { toList := [Value.pointer q2, Value.int IntKind.u64 n11] } w8
  fun (v50 : Value) (w9 : World) =>
  v50 = Value.tuple { toList := [] } ∧
  ∃ (h2 : Nat → List Value → World → Prop),
  (∃ (k7 : Nat), h2 k7 [Value.int IntKind.i64 (0 : Int)] w9) ∧
  ∀ (k8 : Nat) (w10 : World) (v51 : Value) (n12 : Int)
  (v52 v53 v54 v55 v56 v57 v58 v59 v60 v61 v62 v63 v64 v65 v66 v67 v68 v69 v70 : Value),
  h2 k8 [Value.int IntKind.i64 n12] w10 →
  (decide (n12 < (↑l : Int)) = true →
  Drw w10 fun (w11 : World) =>
  ∃ (h3 : World → Prop),
  h3 w11 ∧
  (0 : Int) ≤ n12 ∧
  n12 < (↑l : Int) ∧
  someR q fun (a3 : Addr) =>
  (0 : Int) ≤ n12 ∧
  n12 < (↑l : Int) ∧
  someR q fun (a4 : Addr) =>
  ∃ (n13 : Int),
  (∀ (w12 : World),
  h3 w12 → World.cell? w12 (Addr.add a3 (Int.toNat n12 * (1 : Nat))) = some (Value.int IntKind.u64 n13)) ∧
  ∃ (n14 : Int),
  (∀ (w13 : World),
  h3 w13 → World.cell? w13 (Addr.add a4 (Int.toNat n12 * (1 : Nat))) = some (Value.int IntKind.u64 n14)) ∧
  Rets Tryd.prog (10 : Nat) { toList := [Value.pointer q1, Value.int IntKind.u64 n13] } w11
  fun (v71 : Value) (w14 : World) =>
  ∃ (n15 : Int),
  v71 = Value.int IntKind.i64 n15 ∧
  h3 w14 ∧
  Rets Tryd.prog (11 : Nat) { toList := [Value.pointer q2, Value.int IntKind.u64 n14] } w14
  fun (v72 : Value) (w15 : World) =>
  ∃ (n16 : Int),
  v72 = Value.int IntKind.i64 n16 ∧
  ((n15 != n16) = true → K (Value.bool false) w15) ∧
  ((n15 != n16) = false →
  ∃ (k9 : Nat), k9 < k8 ∧ h2 k9 [Value.int IntKind.i64 (IntKind.wrap IntKind.i64 (n12 + (1 : Int)))] w15)) ∧
  (decide (n12 < (↑l : Int)) = false →
  ∃ (k10 : Nat), k10 < k6 ∧ h1 k10 [Value.int IntKind.i64 (IntKind.wrap IntKind.i64 (n9 + (1 : Int)))] w10)) ∧
  (b2 = false →
  Rets Tryd.prog (5 : Nat) { toList := [] } w7 fun (v73 : Value) (w16 : World) =>
  ∃ (b4 : Bool), v73 = Value.bool b4 ∧ K (Value.bool b4) w16)) ∧
  (decide (n9 < (↑(Int.toNat (IntKind.wrap IntKind.i64 (Int.tdiv (↑l : Int) (2 : Int))) - (0 : Nat)) : Int)) = false →
  Rets Tryd.prog (5 : Nat) { toList := [] } w7 fun (v74 : Value) (w17 : World) =>
  ∃ (b5 : Bool), v74 = Value.bool b5 ∧ K (Value.bool b5) w17)))
theorem cortadolaw14_ExactSame_eq (n s : Int) (q : Option Addr) (l c : Nat) (w : World) (K : Value → World → Prop) : fw Tryd.prog Tryd.f4 (annL [(3, [(6, none), (12, some 3), (13, none), (40, none), (41, none), (42, none), (43, none), (44, none), (45, none), (46, none), (47, none), (48, none), (49, none), (50, none), (51, none), (52, none), (53, none), (54, none), (55, none), (56, none), (57, none), (58, none), (59, none), (60, none), (61, none), (62, none), (63, none), (64, none), (65, none), (66, none), (67, none), (68, none), (69, none), (70, none), (71, none), (72, none), (73, none), (74, none), (75, none), (76, none), (77, none), (78, none), (79, none)]), (7, [(6, none), (13, some 3), (61, none), (62, none), (63, none), (64, none), (65, none), (66, none), (67, none), (68, none), (69, none), (70, none), (71, none), (72, none), (73, none), (74, none), (75, none), (76, none), (77, none), (78, none), (79, none)])]) (ordL [(17, [(0, 0), (1, 0), (2, 0), (3, 0), (6, 0), (7, 0), (8, 0), (9, 0), (4, 1), (10, 1), (5, 2), (11, 3), (12, 0)])]) [.int .i64 n, .int .u64 s, .slice q l c] w K = cortadolaw14_ExactSame_m n s q l c w K := by kernel_rfl
theorem cortadolaw14_ExactSame_go (n s : Int) (q : Option Addr) (l c : Nat) {w : World} {K : Value → World → Prop} (h : cortadolaw14_ExactSame_m n s q l c w K) : Rets Tryd.prog 4 #[.int .i64 n, .int .u64 s, .slice q l c] w K :=
  calls_of_fw plain mixed Tryd.func4 (by kernel_rfl) (by rw [cortadolaw14_ExactSame_eq]; exact h)
end Go.Proofs.YtjdbeopgmpbikaaDoor.Eng
