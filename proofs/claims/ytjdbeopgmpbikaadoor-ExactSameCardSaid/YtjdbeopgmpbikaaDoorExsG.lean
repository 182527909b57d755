/- What the code of these functions asks for: printed by a program of this session's (gens.py) out of the seat's own functions; the kernel checks each row. -/
import Derived.Test.YtjdbeopgmpbikaaDoorEngH
import Derived.Test.YtjdbeopgmpbikaaDoorProg
import Derived.Test.YtjdbeopgmpbikaaDoorBase
namespace Go.Proofs.YtjdbeopgmpbikaaDoor.Eng
open Go Go.Proofs
set_option linter.unusedVariables false
set_option maxRecDepth 1000000
def cortadoref11_New_m (n s : Int) (w : World) (K : Value → World → Prop) : Prop :=
  NewR (37 : Nat) [Value.slice none (0 : Nat) (0 : Nat), Value.int IntKind.i64 (0 : Int), Value.int IntKind.u64 (0 : Int)]
  w fun (a1 : Addr) (w1 : World) =>
  Rets Tryd.prog (57 : Nat) { toList := [Value.int IntKind.i64 (maxI (1 : Int) (minI n (4096 : Int)))] } w1
  fun (v1 : Value) (w2 : World) =>
  ∃ (n1 : Int),
  v1 = Value.int IntKind.i64 n1 ∧
  NewR (37 : Nat) [Value.slice none (0 : Nat) (0 : Nat), Value.int IntKind.i64 (0 : Int), Value.int IntKind.u64 (0 : Int)]
  w2 fun (a2 : Addr) (w3 : World) =>
  StoreR a2 [Value.slice none (0 : Nat) (0 : Nat), Value.int IntKind.i64 n1, Value.int IntKind.u64 s] w3
  fun (w4 : World) =>
  ∃ (h1 : Nat → List Value → World → Prop),
  (∃ (k1 : Nat), h1 k1 [Value.int IntKind.i64 (0 : Int)] w4) ∧
  ∀ (k2 : Nat) (w5 : World) (n2 : Int) (v2 v3 v4 v5 v6 v7 v8 v9 v10 v11 v12 : Value),
  h1 k2 [Value.int IntKind.i64 n2] w5 →
  (decide (n2 < (4 : Int)) = true →
  Drw w5 fun (w6 : World) =>
  ∃ (h2 : World → Prop),
  h2 w6 ∧
  ∃ (q1 : Option Addr),
  ∃ (k3 : Nat),
  ∃ (k4 : Nat),
  (∀ (w7 : World), h2 w7 → World.cell? w7 (Addr.add a2 (0 : Nat)) = some (Value.slice q1 k3 k4)) ∧
  MakeR (3 : Nat) [Value.int IntKind.i64 (0 : Int)] (8 : Nat) n1 n1 w6 fun (a3 : Addr) (w8 : World) =>
  h2 w8 ∧
  NewR (100 : Nat) [Value.slice (some a3) (Int.toNat n1) (Int.toNat n1)] w8 fun (a4 : Addr) (w9 : World) =>
  h2 w9 ∧
  RunR Tryd.prog
  (builtinV Builtin.append { toList := [(35 : Nat), (35 : Nat)] } (nat_lit 35)
  { toList := [Value.slice q1 k3 k4, Value.slice (some a4) (1 : Nat) (1 : Nat)] })
  w9 fun (v13 : Value) (w10 : World) =>
  ∃ (q2 : Option Addr),
  ∃ (k5 : Nat),
  ∃ (k6 : Nat),
  v13 = Value.slice q2 k5 k6 ∧
  StoreR (Addr.add a2 (0 : Nat)) [Value.slice q2 k5 k6] w10 fun (w11 : World) =>
  ∃ (k7 : Nat), k7 < k2 ∧ h1 k7 [Value.int IntKind.i64 (IntKind.wrap IntKind.i64 (n2 + (1 : Int)))] w11) ∧
  (decide (n2 < (4 : Int)) = false →
  ∃ (q3 : Option Addr),
  ∃ (k8 : Nat),
  ∃ (k9 : Nat),
  ∃ (n3 : Int),
  ∃ (n4 : Int),
  (cellAt w5 (Addr.add a2 (0 : Nat)) (Value.slice q3 k8 k9) ∧
  cellAt w5 (Addr.add a2 (1 : Nat)) (Value.int IntKind.i64 n3) ∧
  cellAt w5 (Addr.add a2 (2 : Nat)) (Value.int IntKind.u64 n4)) ∧
  StoreR a1 [Value.slice q3 k8 k9, Value.int IntKind.i64 n3, Value.int IntKind.u64 n4] w5 fun (w12 : World) =>
  ∃ (q4 : Option Addr),
  ∃ (k10 : Nat),
  ∃ (k11 : Nat),
  ∃ (n5 : Int),
  ∃ (n6 : Int),
  (cellAt w12 (Addr.add a1 (0 : Nat)) (Value.slice q4 k10 k11) ∧
  cellAt w12 (Addr.add a1 (1 : Nat)) (Value.int IntKind.i64 n5) ∧
  cellAt w12 (Addr.add a1 (2 : Nat)) (Value.int IntKind.u64 n6)) ∧
  K (Value.agg { toList := [Value.slice q4 k10 k11, Value.int IntKind.i64 n5, Value.int IntKind.u64 n6] }) w12)
theorem cortadoref11_New_eq (n s : Int) (w : World) (K : Value → World → Prop) : fw Tryd.prog Tryd.f35 (annL [(1, [(7, some 3), (15, none), (16, none), (17, none), (18, none), (19, none), (20, none), (21, none), (22, none), (23, none), (24, none), (25, none)])]) (ordL [(6, [(0, 0), (2, 0), (1, 1), (3, 2), (4, 2), (5, 3), (6, 0), (7, 3)])]) [.int .i64 n, .int .u64 s] w K = cortadoref11_New_m n s w K := by kernel_rfl
theorem cortadoref11_New_go (n s : Int) {w : World} {K : Value → World → Prop} (h : cortadoref11_New_m n s w K) : Rets Tryd.prog 35 #[.int .i64 n, .int .u64 s] w K :=
  calls_of_fw plain mixed Tryd.func35 (by kernel_rfl) (by rw [cortadoref11_New_eq]; exact h)
def cortadoref11_Place_m (q : Option Addr) (l c : Nat) (wd s hh r : Int) (w : World) (K : Value → World → Prop) : Prop :=
  NewR (37 : Nat) [Value.slice q l c, Value.int IntKind.i64 wd, Value.int IntKind.u64 s] w fun (a1 : Addr) (w1 : World) =>
  (decide (r < (0 : Int)) = false →
  (decide (r > (3 : Int)) = true → K (Value.int IntKind.i64 (0 : Int)) w1) ∧
  (decide (r > (3 : Int)) = false →
  ∃ (n1 : Int),
  cellAt w1 (Addr.add a1 (2 : Nat)) (Value.int IntKind.u64 n1) ∧
  Rets Tryd.prog (71 : Nat)
  {
  toList :=
  [Value.int IntKind.u64
  (IntKind.wrap IntKind.u64 (IntKind.wrap IntKind.u64 (n1 + IntKind.wrap IntKind.u64 r) + (1 : Int)))] }
  w1 fun (v1 : Value) (w2 : World) =>
  ∃ (n2 : Int),
  v1 = Value.int IntKind.u64 n2 ∧
  Drw w2 fun (w3 : World) =>
  ∃ (h1 : World → Prop),
  h1 w3 ∧
  ∃ (n3 : Int),
  (∀ (w4 : World), h1 w4 → World.cell? w4 (Addr.add a1 (1 : Nat)) = some (Value.int IntKind.i64 n3)) ∧
  Rets Tryd.prog (71 : Nat) { toList := [Value.int IntKind.u64 (bits BinOp.xor IntKind.u64 hh n2)] } w3
  fun (v2 : Value) (w5 : World) =>
  ∃ (n4 : Int),
  v2 = Value.int IntKind.u64 n4 ∧
  h1 w5 ∧
  IntKind.wrap IntKind.u64 n3 ≠ (0 : Int) ∧
  K (Value.int IntKind.i64 (IntKind.wrap IntKind.i64 (Int.tmod n4 (IntKind.wrap IntKind.u64 n3)))) w5)) ∧
  (decide (r < (0 : Int)) = true → K (Value.int IntKind.i64 (0 : Int)) w1)
theorem cortadoref11_Place_eq (q : Option Addr) (l c : Nat) (wd s hh r : Int) (w : World) (K : Value → World → Prop) : fw Tryd.prog Tryd.f55 (annL []) (ordL [(4, [(0, 0), (1, 0), (2, 0), (4, 0), (5, 1), (6, 0), (3, 2), (7, 0), (8, 0), (9, 0)])]) [.agg #[.slice q l c, .int .i64 wd, .int .u64 s], .int .u64 hh, .int .i64 r] w K = cortadoref11_Place_m q l c wd s hh r w K := by kernel_rfl
theorem cortadoref11_Place_go (q : Option Addr) (l c : Nat) (wd s hh r : Int) {w : World} {K : Value → World → Prop} (h : cortadoref11_Place_m q l c wd s hh r w K) : Rets Tryd.prog 55 #[.agg #[.slice q l c, .int .i64 wd, .int .u64 s], .int .u64 hh, .int .i64 r] w K :=
  calls_of_fw plain mixed Tryd.func55 (by kernel_rfl) (by rw [cortadoref11_Place_eq]; exact h)
def cortadoref11_Lonely_m (q : Option Addr) (l c : Nat) (wd s hh : Int) (q2 : Option Addr) (l2 c2 : Nat) (w : World) (K : Value → World → Prop) : Prop :=
  NewR (37 : Nat) [Value.slice q l c, Value.int IntKind.i64 wd, Value.int IntKind.u64 s] w fun (a1 : Addr) (w1 : World) =>
  ∃ (h1 : Nat → List Value → World → Prop),
  (∃ (k1 : Nat), h1 k1 [Value.int IntKind.i64 (0 : Int)] w1) ∧
  ∀ (k2 : Nat) (w2 : World) (v1 : Value) (n1 : Int)
  (v2 v3 v4 v5 v6 v7 v8 v9 v10 v11 v12 v13 v14 v15 v16 v17 v18 v19 v20 v21 v22 v23 v24 v25 v26 v27 v28 v29 v30 v31 v32 v33
  v34 : Value),
  h1 k2 [Value.int IntKind.i64 n1] w2 →
  (decide (n1 < (4 : Int)) = true →
  ∃ (h2 : Nat → List Value → World → Prop),
  (∃ (k3 : Nat), h2 k3 [Value.bool true, Value.int IntKind.i64 (0 : Int)] w2) ∧
  ∀ (k4 : Nat) (w3 : World) (b1 : Bool) (n2 : Int)
  (v35 v36 v37 v38 v39 v40 v41 v42 v43 v44 v45 v46 v47 v48 v49 v50 v51 v52 v53 v54 v55 v56 v57 v58 v59 v60 : Value),
  h2 k4 [Value.bool b1, Value.int IntKind.i64 n2] w3 →
  (decide (n2 < (↑l2 : Int)) = true →
  Drw w3 fun (w4 : World) =>
  ∃ (h3 : World → Prop),
  h3 w4 ∧
  (0 : Int) ≤ n2 ∧
  n2 < (↑l2 : Int) ∧
  someR q2 fun (a2 : Addr) =>
  ∃ (n3 : Int),
  (∀ (w5 : World), h3 w5 → World.cell? w5 (Addr.add a2 (Int.toNat n2 * (1 : Nat))) = some (Value.int IntKind.u64 n3)) ∧
  ((n3 != hh) = true →
  (0 : Int) ≤ n2 ∧
  n2 < (↑l2 : Int) ∧
  someR q2 fun (a3 : Addr) =>
  ∃ (q1 : Option Addr),
  ∃ (k5 : Nat),
  ∃ (k6 : Nat),
  ∃ (n4 : Int),
  ∃ (n5 : Int),
  ((∀ (w6 : World), h3 w6 → World.cell? w6 (Addr.add a1 (0 : Nat)) = some (Value.slice q1 k5 k6)) ∧
  (∀ (w7 : World), h3 w7 → World.cell? w7 (Addr.add a1 ((0 : Nat) + (1 : Nat))) = some (Value.int IntKind.i64 n4)) ∧
  ∀ (w8 : World),
  h3 w8 → World.cell? w8 (Addr.add a1 ((0 : Nat) + (1 : Nat) + (1 : Nat))) = some (Value.int IntKind.u64 n5)) ∧
  ∃ (n6 : Int),
  (∀ (w9 : World), h3 w9 → World.cell? w9 (Addr.add a3 (Int.toNat n2 * (1 : Nat))) = some (Value.int IntKind.u64 n6)) ∧
  ∃ (q2 : Option Addr),
  ∃ (k7 : Nat),
  ∃ (k8 : Nat),
  ∃ (n7 : Int),
  ∃ (n8 : Int),
  ((∀ (w10 : World), h3 w10 → World.cell? w10 (Addr.add a1 (0 : Nat)) = some (Value.slice q2 k7 k8)) ∧
  (∀ (w11 : World), h3 w11 → World.cell? w11 (Addr.add a1 ((0 : Nat) + (1 : Nat))) = some (Value.int IntKind.i64 n7)) ∧
  ∀ (w12 : World),
  h3 w12 → World.cell? w12 (Addr.add a1 ((0 : Nat) + (1 : Nat) + (1 : Nat))) = some (Value.int IntKind.u64 n8)) ∧
  Rets Tryd.prog (55 : Nat)
  {
  toList :=
  [Value.agg { toList := [Value.slice q1 k5 k6, Value.int IntKind.i64 n4, Value.int IntKind.u64 n5] },
  Value.int IntKind.u64 n6, Value.int IntKind.i64 n1] }
  w4 fun (v61 : Value) (w13 : World) =>
  ∃ (n9 : Int),
  v61 = Value.int IntKind.i64 n9 ∧
  h3 w13 ∧
  Rets Tryd.prog (55 : Nat)
  {
  toList :=
  [Value.agg { toList := [Value.slice q2 k7 k8, Value.int IntKind.i64 n7, Value.int IntKind.u64 n8] },
  Value.int IntKind.u64 hh, Value.int IntKind.i64 n1] }
  w13 fun (v62 : Value) (w14 : World) =>
  ∃ (n10 : Int),
  v62 = Value.int IntKind.i64 n10 ∧
  ((n9 == n10) = true →
  ∃ (k9 : Nat),
  k9 < k4 ∧ h2 k9 [Value.bool false, Value.int IntKind.i64 (IntKind.wrap IntKind.i64 (n2 + (1 : Int)))] w14) ∧
  ((n9 == n10) = false →
  ∃ (k10 : Nat),
  k10 < k4 ∧ h2 k10 [Value.bool b1, Value.int IntKind.i64 (IntKind.wrap IntKind.i64 (n2 + (1 : Int)))] w14)) ∧
  ((n3 != hh) = false →
  ∃ (k11 : Nat),
  k11 < k4 ∧ h2 k11 [Value.bool b1, Value.int IntKind.i64 (IntKind.wrap IntKind.i64 (n2 + (1 : Int)))] w4)) ∧
  (decide (n2 < (↑l2 : Int)) = false →
  (b1 = true → K (Value.bool true) w3) ∧
  (b1 = false →
  ∃ (k12 : Nat), k12 < k2 ∧ h1 k12 [Value.int IntKind.i64 (IntKind.wrap IntKind.i64 (n1 + (1 : Int)))] w3))) ∧
  (decide (n1 < (4 : Int)) = false → K (Value.bool false) w2)
theorem cortadoref11_Lonely_eq (q : Option Addr) (l c : Nat) (wd s hh : Int) (q2 : Option Addr) (l2 c2 : Nat) (w : World) (K : Value → World → Prop) : fw Tryd.prog Tryd.f33 (annL [(1, [(6, none), (7, some 3), (8, none), (9, none), (10, none), (11, none), (12, none), (13, none), (14, none), (15, none), (16, none), (17, none), (18, none), (19, none), (20, none), (21, none), (22, none), (23, none), (24, none), (25, none), (26, none), (27, none), (28, none), (29, none), (30, none), (31, none), (32, none), (33, none), (34, none), (35, none), (36, none), (37, none), (38, none), (39, none), (40, none)]), (5, [(8, some 4), (9, some 3), (14, none), (15, none), (16, none), (17, none), (18, none), (19, none), (20, none), (21, none), (22, none), (23, none), (24, none), (25, none), (26, none), (27, none), (28, none), (29, none), (30, none), (31, none), (32, none), (33, none), (34, none), (35, none), (36, none), (37, none), (38, none), (39, none)])]) (ordL [(8, [(0, 0), (1, 0), (2, 0), (4, 0), (3, 1), (5, 0), (6, 0), (8, 0), (9, 0), (10, 0), (12, 0), (15, 0), (16, 0), (7, 1), (11, 1), (14, 1), (13, 2), (17, 3), (18, 0), (19, 0)])]) [.agg #[.slice q l c, .int .i64 wd, .int .u64 s], .int .u64 hh, .slice q2 l2 c2] w K = cortadoref11_Lonely_m q l c wd s hh q2 l2 c2 w K := by kernel_rfl
theorem cortadoref11_Lonely_go (q : Option Addr) (l c : Nat) (wd s hh : Int) (q2 : Option Addr) (l2 c2 : Nat) {w : World} {K : Value → World → Prop} (h : cortadoref11_Lonely_m q l c wd s hh q2 l2 c2 w K) : Rets Tryd.prog 33 #[.agg #[.slice q l c, .int .i64 wd, .int .u64 s], .int .u64 hh, .slice q2 l2 c2] w K :=
  calls_of_fw plain mixed Tryd.func33 (by kernel_rfl) (by rw [cortadoref11_Lonely_eq]; exact h)
def cortadoref12_New_m (k s : Int) (w : World) (K : Value → World → Prop) : Prop :=
  NewR (40 : Nat) [Value.slice none (0 : Nat) (0 : Nat), Value.int IntKind.u64 (0 : Int)] w
  fun (a1 : Addr) (w1 : World) =>
  Rets Tryd.prog (57 : Nat)
  { toList := [Value.int IntKind.i64 (IntKind.wrap IntKind.i64 ((8 : Int) * maxI (1 : Int) (minI k (4096 : Int))))] } w1
  fun (v1 : Value) (w2 : World) =>
  ∃ (n1 : Int),
  v1 = Value.int IntKind.i64 n1 ∧
  MakeR (4 : Nat) [Value.bool false] (1 : Nat) n1 n1 w2 fun (a2 : Addr) (w3 : World) =>
  StoreR a1 [Value.slice (some a2) (Int.toNat n1) (Int.toNat n1), Value.int IntKind.u64 s] w3 fun (w4 : World) =>
  ∃ (q1 : Option Addr),
  ∃ (k1 : Nat),
  ∃ (k2 : Nat),
  ∃ (n2 : Int),
  (cellAt w4 (Addr.add a1 (0 : Nat)) (Value.slice q1 k1 k2) ∧
  cellAt w4 (Addr.add a1 (1 : Nat)) (Value.int IntKind.u64 n2)) ∧
  K (Value.agg { toList := [Value.slice q1 k1 k2, Value.int IntKind.u64 n2] }) w4
theorem cortadoref12_New_eq (k s : Int) (w : World) (K : Value → World → Prop) : fw Tryd.prog Tryd.f36 (annL []) (ordL []) [.int .i64 k, .int .u64 s] w K = cortadoref12_New_m k s w K := by kernel_rfl
theorem cortadoref12_New_go (k s : Int) {w : World} {K : Value → World → Prop} (h : cortadoref12_New_m k s w K) : Rets Tryd.prog 36 #[.int .i64 k, .int .u64 s] w K :=
  calls_of_fw plain mixed Tryd.func36 (by kernel_rfl) (by rw [cortadoref12_New_eq]; exact h)
def cortadoref12_Places_m (q : Option Addr) (l c : Nat) (s hh : Int) (w : World) (K : Value → World → Prop) : Prop :=
  NewR (40 : Nat) [Value.slice q l c, Value.int IntKind.u64 s] w fun (a1 : Addr) (w1 : World) =>
  ∃ (n1 : Int),
  cellAt w1 (Addr.add a1 (1 : Nat)) (Value.int IntKind.u64 n1) ∧
  Rets Tryd.prog (71 : Nat) { toList := [Value.int IntKind.u64 n1] } w1 fun (v1 : Value) (w2 : World) =>
  ∃ (n2 : Int),
  v1 = Value.int IntKind.u64 n2 ∧
  Rets Tryd.prog (71 : Nat) { toList := [Value.int IntKind.u64 (bits BinOp.xor IntKind.u64 hh n2)] } w2
  fun (v2 : Value) (w3 : World) =>
  ∃ (n3 : Int),
  v2 = Value.int IntKind.u64 n3 ∧
  Rets Tryd.prog (72 : Nat) { toList := [Value.int IntKind.u64 (bits BinOp.xor IntKind.u64 hh n2)] } w3
  fun (v3 : Value) (w4 : World) =>
  ∃ (n4 : Int),
  v3 = Value.int IntKind.u64 n4 ∧
  (2 : Int) ≠ (0 : Int) ∧
  ∃ (h1 : List Value → World → Prop),
  (((Int.tmod n4 (2 : Int) == (0 : Int)) = true →
  h1 [Value.int IntKind.u64 (IntKind.wrap IntKind.u64 (n4 + (1 : Int)))] w4) ∧
  ((Int.tmod n4 (2 : Int) == (0 : Int)) = false → h1 [Value.int IntKind.u64 n4] w4)) ∧
  ∀ (w5 : World) (n5 : Int) (v4 v5 : Value),
  h1 [Value.int IntKind.u64 n5] w5 →
  ∃ (h2 : Nat → List Value → World → Prop),
  (∃ (k1 : Nat), h2 k1 [Value.slice none (0 : Nat) (0 : Nat), Value.int IntKind.i64 (0 : Int)] w5) ∧
  ∀ (k2 : Nat) (w6 : World) (q1 : Option Addr) (k3 k4 : Nat) (n6 : Int)
  (v6 v7 v8 v9 v10 v11 v12 v13 v14 v15 v16 v17 v18 v19 v20 v21 v22 v23 v24 : Value),
  h2 k2 [Value.slice q1 k3 k4, Value.int IntKind.i64 n6] w6 →
  (decide (n6 < (4 : Int)) = true →
  ∃ (q2 : Option Addr),
  ∃ (k5 : Nat),
  ∃ (k6 : Nat),
  cellAt w6 (Addr.add a1 (0 : Nat)) (Value.slice q2 k5 k6) ∧
  IntKind.wrap IntKind.u64 (↑k5 : Int) ≠ (0 : Int) ∧
  NewR (3 : Nat)
  [Value.int IntKind.i64
  (IntKind.wrap IntKind.i64
  (Int.tmod (IntKind.wrap IntKind.u64 (n3 + IntKind.wrap IntKind.u64 (IntKind.wrap IntKind.u64 n6 * n5)))
  (IntKind.wrap IntKind.u64 (↑k5 : Int))))]
  w6 fun (a2 : Addr) (w7 : World) =>
  RunR Tryd.prog
  (builtinV Builtin.append { toList := [(100 : Nat), (100 : Nat)] } (nat_lit 100)
  { toList := [Value.slice q1 k3 k4, Value.slice (some a2) (1 : Nat) (1 : Nat)] })
  w7 fun (v25 : Value) (w8 : World) =>
  ∃ (q3 : Option Addr),
  ∃ (k7 : Nat),
  ∃ (k8 : Nat),
  v25 = Value.slice q3 k7 k8 ∧
  ∃ (k9 : Nat),
  k9 < k2 ∧ h2 k9 [Value.slice q3 k7 k8, Value.int IntKind.i64 (IntKind.wrap IntKind.i64 (n6 + (1 : Int)))] w8) ∧
  (decide (n6 < (4 : Int)) = false → K (Value.slice q1 k3 k4) w6)
theorem cortadoref12_Places_eq (q : Option Addr) (l c : Nat) (s hh : Int) (w : World) (K : Value → World → Prop) : fw Tryd.prog Tryd.f56 (annL [(0, [(7, some 22), (22, none), (23, none)]), (2, [(8, some 100), (9, some 3), (24, none), (25, none), (26, none), (27, none), (28, none), (29, none), (30, none), (31, none), (32, none), (33, none), (34, none), (35, none), (36, none), (37, none), (38, none), (39, none), (40, none), (41, none), (42, none)])]) (ordL []) [.agg #[.slice q l c, .int .u64 s], .int .u64 hh] w K = cortadoref12_Places_m q l c s hh w K := by kernel_rfl
theorem cortadoref12_Places_go (q : Option Addr) (l c : Nat) (s hh : Int) {w : World} {K : Value → World → Prop} (h : cortadoref12_Places_m q l c s hh w K) : Rets Tryd.prog 56 #[.agg #[.slice q l c, .int .u64 s], .int .u64 hh] w K :=
  calls_of_fw plain mixed Tryd.func56 (by kernel_rfl) (by rw [cortadoref12_Places_eq]; exact h)
def cortadoref12_Lonely_m (q : Option Addr) (l c : Nat) (s hh : Int) (q2 : Option Addr) (l2 c2 : Nat) (w : World) (K : Value → World → Prop) : Prop :=
  NewR (40 : Nat) [Value.slice q l c, Value.int IntKind.u64 s] w fun (a1 : Addr) (w1 : World) =>
  ∃ (q1 : Option Addr),
  ∃ (k1 : Nat),
  ∃ (k2 : Nat),
  ∃ (n1 : Int),
  (cellAt w1 (Addr.add a1 (0 : Nat)) (Value.slice q1 k1 k2) ∧
  cellAt w1 (Addr.add a1 (1 : Nat)) (Value.int IntKind.u64 n1)) ∧
  Rets Tryd.prog (56 : Nat)
  { toList := [Value.agg { toList := [Value.slice q1 k1 k2, Value.int IntKind.u64 n1] }, Value.int IntKind.u64 hh] } w1
  fun (v1 : Value) (w2 : World) =>
  ∃ (q2_1 : Option Addr),
  ∃ (k3 : Nat),
  ∃ (k4 : Nat),
  v1 = Value.slice q2_1 k3 k4 ∧
  ∃ (h1 : Nat → List Value → World → Prop),
  (∃ (k5 : Nat), h1 k5 [Value.int IntKind.i64 (0 : Int)] w2) ∧
  ∀ (k6 : Nat) (w3 : World) (v2 : Value) (n2 : Int)
  (v3 v4 v5 v6 v7 v8 v9 v10 v11 v12 v13 v14 v15 v16 v17 v18 v19 v20 v21 v22 v23 v24 v25 v26 v27 v28 v29 v30 v31 v32 v33
  v34 v35 v36 v37 v38 v39 v40 v41 v42 v43 v44 v45 v46 : Value),
  h1 k6 [Value.int IntKind.i64 n2] w3 →
  (decide (n2 < (↑k3 : Int)) = true →
  ∃ (h2 : Nat → List Value → World → Prop),
  (∃ (k7 : Nat), h2 k7 [Value.bool true, Value.int IntKind.i64 (0 : Int)] w3) ∧
  ∀ (k8 : Nat) (w4 : World) (b1 : Bool) (n3 : Int)
  (v47 v48 v49 v50 v51 v52 v53 v54 v55 v56 v57 v58 v59 v60 v61 v62 v63 v64 v65 v66 v67 v68 v69 v70 v71 v72 v73 v74 v75 v76
  v77 v78 v79 v80 v81 : Value),
  h2 k8 [Value.bool b1, Value.int IntKind.i64 n3] w4 →
  (decide (n3 < (↑l2 : Int)) = true →
  (0 : Int) ≤ n3 ∧
  n3 < (↑l2 : Int) ∧
  someR q2 fun (a2 : Addr) =>
  ∃ (n4 : Int),
  cellAt w4 (Addr.add a2 (Int.toNat n3 * (1 : Nat))) (Value.int IntKind.u64 n4) ∧
  ((n4 == hh) = true →
  ∃ (k9 : Nat), k9 < k8 ∧ h2 k9 [Value.bool b1, Value.int IntKind.i64 (IntKind.wrap IntKind.i64 (n3 + (1 : Int)))] w4) ∧
  ((n4 == hh) = false →
  Drw w4 fun (w5 : World) =>
  (0 : Int) ≤ n3 ∧
  n3 < (↑l2 : Int) ∧
  someR q2 fun (a3 : Addr) =>
  ∃ (q3 : Option Addr),
  ∃ (k10 : Nat),
  ∃ (k11 : Nat),
  ∃ (n5 : Int),
  (cellAt w5 (Addr.add a1 (0 : Nat)) (Value.slice q3 k10 k11) ∧
  cellAt w5 (Addr.add a1 (1 : Nat)) (Value.int IntKind.u64 n5)) ∧
  ∃ (n6 : Int),
  cellAt w5 (Addr.add a3 (Int.toNat n3 * (1 : Nat))) (Value.int IntKind.u64 n6) ∧
  Rets Tryd.prog (56 : Nat)
  { toList := [Value.agg { toList := [Value.slice q3 k10 k11, Value.int IntKind.u64 n5] }, Value.int IntKind.u64 n6] } w5
  fun (v82 : Value) (w6 : World) =>
  ∃ (q4 : Option Addr),
  ∃ (k12 : Nat),
  ∃ (k13 : Nat),
  v82 = Value.slice q4 k12 k13 ∧
  ∃ (h3 : Nat → List Value → World → Prop),
  (∃ (k14 : Nat), h3 k14 [Value.bool b1, Value.int IntKind.i64 (0 : Int)] w6) ∧
  ∀ (k15 : Nat) (w7 : World) (b2 : Bool) (n7 : Int) (v83 v84 v85 v86 v87 v88 v89 v90 v91 v92 v93 v94 v95 v96 v97 : Value),
  h3 k15 [Value.bool b2, Value.int IntKind.i64 n7] w7 →
  (decide (n7 < (↑k12 : Int)) = true →
  Drw w7 fun (w8 : World) =>
  (0 : Int) ≤ n7 ∧
  n7 < (↑k12 : Int) ∧
  someR q4 fun (a4 : Addr) =>
  (0 : Int) ≤ n2 ∧
  n2 < (↑k3 : Int) ∧
  someR q2_1 fun (a5 : Addr) =>
  ∃ (n8 : Int),
  cellAt w8 (Addr.add a4 (Int.toNat n7 * (1 : Nat))) (Value.int IntKind.i64 n8) ∧
  ∃ (n9 : Int),
  cellAt w8 (Addr.add a5 (Int.toNat n2 * (1 : Nat))) (Value.int IntKind.i64 n9) ∧
  ((n8 == n9) = true →
  ∃ (k16 : Nat),
  k16 < k15 ∧ h3 k16 [Value.bool false, Value.int IntKind.i64 (IntKind.wrap IntKind.i64 (n7 + (1 : Int)))] w8) ∧
  ((n8 == n9) = false →
  ∃ (k17 : Nat),
  k17 < k15 ∧ h3 k17 [Value.bool b2, Value.int IntKind.i64 (IntKind.wrap IntKind.i64 (n7 + (1 : Int)))] w8)) ∧
  (decide (n7 < (↑k12 : Int)) = false →
  ∃ (k18 : Nat),
  k18 < k8 ∧ h2 k18 [Value.bool b2, Value.int IntKind.i64 (IntKind.wrap IntKind.i64 (n3 + (1 : Int)))] w7))) ∧
  (decide (n3 < (↑l2 : Int)) = false →
  (b1 = true → K (Value.bool true) w4) ∧
  (b1 = false →
  ∃ (k19 : Nat), k19 < k6 ∧ h1 k19 [Value.int IntKind.i64 (IntKind.wrap IntKind.i64 (n2 + (1 : Int)))] w4))) ∧
  (decide (n2 < (↑k3 : Int)) = false → K (Value.bool false) w3)
theorem cortadoref12_Lonely_eq (q : Option Addr) (l c : Nat) (s hh : Int) (q2 : Option Addr) (l2 c2 : Nat) (w : World) (K : Value → World → Prop) : fw Tryd.prog Tryd.f34 (annL [(1, [(6, none), (8, some 3), (9, none), (10, none), (11, none), (12, none), (16, none), (17, none), (18, none), (19, none), (20, none), (21, none), (22, none), (23, none), (24, none), (25, none), (26, none), (27, none), (28, none), (29, none), (30, none), (31, none), (32, none), (33, none), (34, none), (35, none), (36, none), (37, none), (38, none), (39, none), (40, none), (41, none), (42, none), (43, none), (44, none), (45, none), (46, none), (47, none), (48, none), (49, none), (50, none), (51, none), (52, none), (53, none), (54, none), (55, none)]), (5, [(9, some 4), (10, some 3), (11, none), (12, none), (22, none), (23, none), (24, none), (25, none), (26, none), (27, none), (28, none), (29, none), (30, none), (31, none), (32, none), (33, none), (34, none), (35, none), (36, none), (37, none), (38, none), (39, none), (40, none), (41, none), (42, none), (43, none), (44, none), (45, none), (46, none), (47, none), (48, none), (49, none), (50, none), (51, none), (52, none), (53, none), (54, none)]), (10, [(9, some 4), (12, some 3), (40, none), (41, none), (42, none), (43, none), (44, none), (45, none), (46, none), (47, none), (48, none), (49, none), (50, none), (51, none), (52, none), (53, none), (54, none)])]) (ordL [(10, [(1, 0), (2, 0), (3, 0), (0, 1), (4, 1), (5, 3), (6, 0)]), (14, [(0, 0), (1, 0), (2, 0), (4, 0), (5, 0), (6, 0), (3, 1), (7, 1), (8, 0)])]) [.agg #[.slice q l c, .int .u64 s], .int .u64 hh, .slice q2 l2 c2] w K = cortadoref12_Lonely_m q l c s hh q2 l2 c2 w K := by kernel_rfl
theorem cortadoref12_Lonely_go (q : Option Addr) (l c : Nat) (s hh : Int) (q2 : Option Addr) (l2 c2 : Nat) {w : World} {K : Value → World → Prop} (h : cortadoref12_Lonely_m q l c s hh q2 l2 c2 w K) : Rets Tryd.prog 34 #[.agg #[.slice q l c, .int .u64 s], .int .u64 hh, .slice q2 l2 c2] w K :=
  calls_of_fw plain mixed Tryd.func34 (by kernel_rfl) (by rw [cortadoref12_Lonely_eq]; exact h)
def cortadoref13_New_m (n s : Int) (w : World) (K : Value → World → Prop) : Prop :=
  NewR (42 : Nat)
  [Value.slice none (0 : Nat) (0 : Nat), Value.int IntKind.i64 (0 : Int), Value.int IntKind.u64 (0 : Int),
  Value.slice none (0 : Nat) (0 : Nat), Value.int IntKind.u64 (0 : Int), Value.int IntKind.i64 (0 : Int),
  Value.int IntKind.i64 (0 : Int), Value.int IntKind.i64 (0 : Int), Value.int IntKind.i64 (0 : Int),
  Value.int IntKind.u64 (0 : Int)]
  w fun (a1 : Addr) (w1 : World) =>
  Rets Tryd.prog (35 : Nat)
  { toList := [Value.int IntKind.i64 (maxI (1 : Int) (minI n (4096 : Int))), Value.int IntKind.u64 s] } w1
  fun (v1 : Value) (w2 : World) =>
  ∃ (q1 : Option Addr),
  ∃ (k1 : Nat),
  ∃ (k2 : Nat),
  ∃ (n1 : Int),
  ∃ (n2 : Int),
  v1 = Value.agg { toList := [Value.slice q1 k1 k2, Value.int IntKind.i64 n1, Value.int IntKind.u64 n2] } ∧
  Rets Tryd.prog (36 : Nat)
  { toList := [Value.int IntKind.i64 (maxI (1 : Int) (minI n (4096 : Int))), Value.int IntKind.u64 s] } w2
  fun (v2 : Value) (w3 : World) =>
  ∃ (q2 : Option Addr),
  ∃ (k3 : Nat),
  ∃ (k4 : Nat),
  ∃ (n3 : Int),
  v2 = Value.agg { toList := [Value.slice q2 k3 k4, Value.int IntKind.u64 n3] } ∧
  StoreR a1
  [Value.slice q1 k1 k2, Value.int IntKind.i64 n1, Value.int IntKind.u64 n2, Value.slice q2 k3 k4,
  Value.int IntKind.u64 n3, Value.int IntKind.i64 (0 : Int), Value.int IntKind.i64 (maxI (1 : Int) (minI n (4096 : Int))),
  Value.int IntKind.i64 (0 : Int), Value.int IntKind.i64 (0 : Int), Value.int IntKind.u64 s]
  w3 fun (w4 : World) =>
  ∃ (q3 : Option Addr),
  ∃ (k5 : Nat),
  ∃ (k6 : Nat),
  ∃ (n4 : Int),
  ∃ (n5 : Int),
  ∃ (q4 : Option Addr),
  ∃ (k7 : Nat),
  ∃ (k8 : Nat),
  ∃ (n6 : Int),
  ∃ (n7 : Int),
  ∃ (n8 : Int),
  ∃ (n9 : Int),
  ∃ (n10 : Int),
  ∃ (n11 : Int),
  (cellAt w4 (Addr.add a1 (0 : Nat)) (Value.slice q3 k5 k6) ∧
  cellAt w4 (Addr.add a1 (1 : Nat)) (Value.int IntKind.i64 n4) ∧
  cellAt w4 (Addr.add a1 (2 : Nat)) (Value.int IntKind.u64 n5) ∧
  cellAt w4 (Addr.add a1 (3 : Nat)) (Value.slice q4 k7 k8) ∧
  cellAt w4 (Addr.add a1 (4 : Nat)) (Value.int IntKind.u64 n6) ∧
  cellAt w4 (Addr.add a1 (5 : Nat)) (Value.int IntKind.i64 n7) ∧
  cellAt w4 (Addr.add a1 (6 : Nat)) (Value.int IntKind.i64 n8) ∧
  cellAt w4 (Addr.add a1 (7 : Nat)) (Value.int IntKind.i64 n9) ∧
  cellAt w4 (Addr.add a1 (8 : Nat)) (Value.int IntKind.i64 n10) ∧
  cellAt w4 (Addr.add a1 (9 : Nat)) (Value.int IntKind.u64 n11)) ∧
  K
  (Value.agg
  {
  toList :=
  [Value.slice q3 k5 k6, Value.int IntKind.i64 n4, Value.int IntKind.u64 n5, Value.slice q4 k7 k8,
  Value.int IntKind.u64 n6, Value.int IntKind.i64 n7, Value.int IntKind.i64 n8, Value.int IntKind.i64 n9,
  Value.int IntKind.i64 n10, Value.int IntKind.u64 n11] })
  w4
theorem cortadoref13_New_eq (n s : Int) (w : World) (K : Value → World → Prop) : fw Tryd.prog Tryd.f16 (annL []) (ordL []) [.int .i64 n, .int .u64 s] w K = cortadoref13_New_m n s w K := by kernel_rfl
theorem cortadoref13_New_go (n s : Int) {w : World} {K : Value → World → Prop} (h : cortadoref13_New_m n s w K) : Rets Tryd.prog 16 #[.int .i64 n, .int .u64 s] w K :=
  calls_of_fw plain mixed Tryd.func16 (by kernel_rfl) (by rw [cortadoref13_New_eq]; exact h)
def cortadoref14_Apart_m (q1 : Option Addr) (l1 c1 : Nat) (wd s1 : Int) (q2 : Option Addr) (l2 c2 : Nat) (s2 ct lim ag ks sd : Int) (q : Option Addr) (l c : Nat) (w : World) (K : Value → World → Prop) : Prop :=
  NewR (42 : Nat)
  [Value.slice q1 l1 c1, Value.int IntKind.i64 wd, Value.int IntKind.u64 s1, Value.slice q2 l2 c2,
  Value.int IntKind.u64 s2, Value.int IntKind.i64 ct, Value.int IntKind.i64 lim, Value.int IntKind.i64 ag,
  Value.int IntKind.i64 ks, Value.int IntKind.u64 sd]
  w fun (a1 : Addr) (w1 : World) =>
  ∃ (h1 : Nat → List Value → World → Prop),
  (∃ (k1 : Nat), h1 k1 [Value.int IntKind.i64 (0 : Int)] w1) ∧
  ∀ (k2 : Nat) (w2 : World) (v1 : Value) (n1 : Int)
  (v2 v3 v4 v5 v6 v7 v8 v9 v10 v11 v12 v13 v14 v15 v16 v17 v18 v19 v20 v21 v22 v23 v24 v25 v26 v27 : Value),
  h1 k2 [Value.int IntKind.i64 n1] w2 →
  (decide (n1 < (↑l : Int)) = true →
  Drw w2 fun (w3 : World) =>
  ∃ (h2 : World → Prop),
  h2 w3 ∧
  (0 : Int) ≤ n1 ∧
  n1 < (↑l : Int) ∧
  someR q fun (a2 : Addr) =>
  ∃ (q1 : Option Addr),
  ∃ (k3 : Nat),
  ∃ (k4 : Nat),
  ∃ (n2 : Int),
  ∃ (n3 : Int),
  ((∀ (w4 : World), h2 w4 → World.cell? w4 (Addr.add (Addr.add a1 (0 : Nat)) (0 : Nat)) = some (Value.slice q1 k3 k4)) ∧
  (∀ (w5 : World),
  h2 w5 → World.cell? w5 (Addr.add (Addr.add a1 (0 : Nat)) ((0 : Nat) + (1 : Nat))) = some (Value.int IntKind.i64 n2)) ∧
  ∀ (w6 : World),
  h2 w6 →
  World.cell? w6 (Addr.add (Addr.add a1 (0 : Nat)) ((0 : Nat) + (1 : Nat) + (1 : Nat))) =
  some (Value.int IntKind.u64 n3)) ∧
  ∃ (n4 : Int),
  (∀ (w7 : World), h2 w7 → World.cell? w7 (Addr.add a2 (Int.toNat n1 * (1 : Nat))) = some (Value.int IntKind.u64 n4)) ∧
  Rets Tryd.prog (33 : Nat)
  {
  toList :=
  [Value.agg { toList := [Value.slice q1 k3 k4, Value.int IntKind.i64 n2, Value.int IntKind.u64 n3] },
  Value.int IntKind.u64 n4, Value.slice q l c] }
  w3 fun (v28 : Value) (w8 : World) =>
  ∃ (b1 : Bool),
  v28 = Value.bool b1 ∧
  h2 w8 ∧
  ((!b1) = false →
  (0 : Int) ≤ n1 ∧
  n1 < (↑l : Int) ∧
  someR q fun (a3 : Addr) =>
  ∃ (q2 : Option Addr),
  ∃ (k5 : Nat),
  ∃ (k6 : Nat),
  ∃ (n5 : Int),
  ((∀ (w9 : World), h2 w9 → World.cell? w9 (Addr.add (Addr.add a1 (3 : Nat)) (0 : Nat)) = some (Value.slice q2 k5 k6)) ∧
  ∀ (w10 : World),
  h2 w10 → World.cell? w10 (Addr.add (Addr.add a1 (3 : Nat)) ((0 : Nat) + (1 : Nat))) = some (Value.int IntKind.u64 n5)) ∧
  ∃ (n6 : Int),
  (∀ (w11 : World), h2 w11 → World.cell? w11 (Addr.add a3 (Int.toNat n1 * (1 : Nat))) = some (Value.int IntKind.u64 n6)) ∧
  Rets Tryd.prog (34 : Nat)
  {
  toList :=
  [Value.agg { toList := [Value.slice q2 k5 k6, Value.int IntKind.u64 n5] }, Value.int IntKind.u64 n6,
  Value.slice q l c] }
  w8 fun (v29 : Value) (w12 : World) =>
  ∃ (b2 : Bool),
  v29 = Value.bool b2 ∧
  ((!b2) = true → K (Value.bool false) w12) ∧
  ((!b2) = false →
  ∃ (k7 : Nat), k7 < k2 ∧ h1 k7 [Value.int IntKind.i64 (IntKind.wrap IntKind.i64 (n1 + (1 : Int)))] w12)) ∧
  ((!b1) = true → K (Value.bool false) w8)) ∧
  (decide (n1 < (↑l : Int)) = false → K (Value.bool true) w2)
theorem cortadoref14_Apart_eq (q1 : Option Addr) (l1 c1 : Nat) (wd s1 : Int) (q2 : Option Addr) (l2 c2 : Nat) (s2 ct lim ag ks sd : Int) (q : Option Addr) (l c : Nat) (w : World) (K : Value → World → Prop) : fw Tryd.prog Tryd.f15 (annL [(1, [(4, none), (5, some 3), (6, none), (7, none), (8, none), (9, none), (10, none), (11, none), (12, none), (13, none), (14, none), (15, none), (16, none), (17, none), (18, none), (19, none), (20, none), (21, none), (22, none), (23, none), (24, none), (25, none), (26, none), (27, none), (28, none), (29, none), (30, none), (31, none)])]) (ordL [(4, [(0, 0), (2, 0), (3, 0), (4, 0), (6, 0), (1, 1), (5, 1), (7, 2), (8, 0), (9, 0), (10, 0), (12, 0), (13, 0), (14, 0), (16, 0), (11, 1), (15, 1), (17, 3), (18, 0), (19, 0)])]) [.agg #[.slice q1 l1 c1, .int .i64 wd, .int .u64 s1, .slice q2 l2 c2, .int .u64 s2, .int .i64 ct, .int .i64 lim, .int .i64 ag, .int .i64 ks, .int .u64 sd], .slice q l c] w K = cortadoref14_Apart_m q1 l1 c1 wd s1 q2 l2 c2 s2 ct lim ag ks sd q l c w K := by kernel_rfl
theorem cortadoref14_Apart_go (q1 : Option Addr) (l1 c1 : Nat) (wd s1 : Int) (q2 : Option Addr) (l2 c2 : Nat) (s2 ct lim ag ks sd : Int) (q : Option Addr) (l c : Nat) {w : World} {K : Value → World → Prop} (h : cortadoref14_Apart_m q1 l1 c1 wd s1 q2 l2 c2 s2 ct lim ag ks sd q l c w K) : Rets Tryd.prog 15 #[.agg #[.slice q1 l1 c1, .int .i64 wd, .int .u64 s1, .slice q2 l2 c2, .int .u64 s2, .int .i64 ct, .int .i64 lim, .int .i64 ag, .int .i64 ks, .int .u64 sd], .slice q l c] w K :=
  calls_of_fw plain mixed Tryd.func15 (by kernel_rfl) (by rw [cortadoref14_Apart_eq]; exact h)
def exact_lonely_1_m (b1 b2 b3 : Nat) (r : Int) (w : World) (K : Value → World → Prop) : Prop :=
  ∃ (q1 : Option Addr),
  ∃ (k1 : Nat),
  ∃ (k2 : Nat),
  cellAt w { block := b1, off := (0 : Nat) } (Value.slice q1 k1 k2) ∧
  ∃ (h1 : Nat → List Value → World → Prop),
  (∃ (k3 : Nat), h1 k3 [Value.int IntKind.i64 (0 : Int)] w) ∧
  ∀ (k4 : Nat) (w1 : World) (v1 v2 : Value) (n1 : Int)
  (v3 v4 v5 v6 v7 v8 v9 v10 v11 v12 v13 v14 v15 v16 v17 v18 v19 v20 v21 v22 : Value),
  h1 k4 [Value.int IntKind.i64 n1] w1 →
  (decide (n1 < (↑k1 : Int)) = true →
  (0 : Int) ≤ n1 ∧
  n1 < (↑k1 : Int) ∧
  someR q1 fun (a1 : Addr) =>
  ∃ (n2 : Int),
  cellAt w1 (Addr.add a1 (Int.toNat n1 * (1 : Nat))) (Value.int IntKind.u64 n2) ∧
  Drw w1 fun (w2 : World) =>
  ∃ (h2 : World → Prop),
  h2 w2 ∧
  ∃ (n3 : Int),
  (∀ (w3 : World), h2 w3 → World.cell? w3 { block := b2, off := (0 : Nat) } = some (Value.int IntKind.u64 n3)) ∧
  ((n2 != n3) = true →
  ∃ (q2 : Option Addr),
  (∀ (w4 : World), h2 w4 → World.cell? w4 { block := b3, off := (0 : Nat) } = some (Value.pointer q2)) ∧
  ∃ (q3 : Option Addr),
  (∀ (w5 : World), h2 w5 → World.cell? w5 { block := b3, off := (0 : Nat) } = some (Value.pointer q3)) ∧
  ∃ (n4 : Int),
  (∀ (w6 : World), h2 w6 → World.cell? w6 { block := b2, off := (0 : Nat) } = some (Value.int IntKind.u64 n4)) ∧
  Rets Tryd.prog (23 : Nat) { toList := [Value.pointer q2] } w2 fun (v23 : Value) (w7 : World) =>
  ∃ (q4 : Option Addr),
  v23 = Value.pointer q4 ∧
  h2 w7 ∧
  Rets Tryd.prog (45 : Nat) { toList := [Value.pointer q4, Value.int IntKind.u64 n2, Value.int IntKind.i64 r] } w7
  fun (v24 : Value) (w8 : World) =>
  ∃ (n5 : Int),
  v24 = Value.int IntKind.i64 n5 ∧
  h2 w8 ∧
  Rets Tryd.prog (23 : Nat) { toList := [Value.pointer q3] } w8 fun (v25 : Value) (w9 : World) =>
  ∃ (q5 : Option Addr),
  v25 = Value.pointer q5 ∧
  h2 w9 ∧
  Rets Tryd.prog (45 : Nat) { toList := [Value.pointer q5, Value.int IntKind.u64 n4, Value.int IntKind.i64 r] } w9
  fun (v26 : Value) (w10 : World) =>
  ∃ (n6 : Int),
  v26 = Value.int IntKind.i64 n6 ∧
  ((n5 == n6) = true → K (Value.bool false) w10) ∧
  ((n5 == n6) = false →
  ∃ (k5 : Nat), k5 < k4 ∧ h1 k5 [Value.int IntKind.i64 (IntKind.wrap IntKind.i64 (n1 + (1 : Int)))] w10)) ∧
  ((n2 != n3) = false →
  ∃ (k6 : Nat), k6 < k4 ∧ h1 k6 [Value.int IntKind.i64 (IntKind.wrap IntKind.i64 (n1 + (1 : Int)))] w2)) ∧
  (decide (n1 < (↑k1 : Int)) = false → K (Value.bool true) w1)
theorem exact_lonely_1_eq (b1 b2 b3 : Nat) (r : Int) (w : World) (K : Value → World → Prop) : fw Tryd.prog Tryd.f53 (annL [(1, [(5, none), (7, none), (10, some 3), (11, none), (12, none), (13, none), (14, none), (15, none), (16, none), (17, none), (18, none), (19, none), (20, none), (21, none), (22, none), (23, none), (24, none), (25, none), (26, none), (27, none), (28, none), (29, none), (30, none)])]) (ordL [(4, [(0, 0), (1, 1), (2, 0), (3, 0), (6, 0), (7, 0), (12, 0), (4, 1), (9, 1), (11, 1), (5, 2), (8, 2), (10, 2), (13, 3), (14, 0), (15, 0)])]) [.int .i64 r, .pointer (some ⟨b1, 0, none⟩), .pointer (some ⟨b2, 0, none⟩), .pointer (some ⟨b3, 0, none⟩)] w K = exact_lonely_1_m b1 b2 b3 r w K := by kernel_rfl
theorem exact_lonely_1_go (b1 b2 b3 : Nat) (r : Int) {w : World} {K : Value → World → Prop} (h : exact_lonely_1_m b1 b2 b3 r w K) : Rets Tryd.prog 53 #[.int .i64 r, .pointer (some ⟨b1, 0, none⟩), .pointer (some ⟨b2, 0, none⟩), .pointer (some ⟨b3, 0, none⟩)] w K :=
  calls_of_fw plain mixed Tryd.func53 (by kernel_rfl) (by rw [exact_lonely_1_eq]; exact h)
def exact_lonely_m (g : Nat) (hh : Int) (q : Option Addr) (l c : Nat) (w : World) (K : Value → World → Prop) : Prop :=
  NewR (25 : Nat) [Value.pointer (some { block := g, off := (0 : Nat) })] w fun (a1 : Addr) (w1 : World) =>
  NewR (22 : Nat) [Value.int IntKind.u64 hh] w1 fun (a2 : Addr) (w2 : World) =>
  NewR (23 : Nat) [Value.slice q l c] w2 fun (a3 : Addr) (w3 : World) =>
  ∃ (h1 : Nat → List Value → World → Prop),
  (∃ (k1 : Nat), h1 k1 [Value.int IntKind.i64 (0 : Int)] w3) ∧
  ∀ (k2 : Nat) (w4 : World) (v1 v2 : Value) (n1 : Int) (v3 v4 v5 v6 v7 v8 : Value),
  h1 k2 [Value.int IntKind.i64 n1] w4 →
  (decide (n1 < (4 : Int)) = true →
  Rets Tryd.prog (53 : Nat)
  { toList := [Value.int IntKind.i64 n1, Value.pointer (some a3), Value.pointer (some a2), Value.pointer (some a1)] } w4
  fun (v9 : Value) (w5 : World) =>
  ∃ (b1 : Bool),
  v9 = Value.bool b1 ∧
  (b1 = true → K (Value.bool true) w5) ∧
  (b1 = false → ∃ (k3 : Nat), k3 < k2 ∧ h1 k3 [Value.int IntKind.i64 (IntKind.wrap IntKind.i64 (n1 + (1 : Int)))] w5)) ∧
  (decide (n1 < (4 : Int)) = false → K (Value.bool false) w4)
theorem exact_lonely_eq (g : Nat) (hh : Int) (q : Option Addr) (l c : Nat) (w : World) (K : Value → World → Prop) : fw Tryd.prog Tryd.f31 (annL [(1, [(6, none), (8, none), (10, some 3), (11, none), (12, none), (13, none), (14, none), (15, none), (16, none)])]) (ordL []) [.pointer (some ⟨g, 0, none⟩), .int .u64 hh, .slice q l c] w K = exact_lonely_m g hh q l c w K := by kernel_rfl
theorem exact_lonely_go (g : Nat) (hh : Int) (q : Option Addr) (l c : Nat) {w : World} {K : Value → World → Prop} (h : exact_lonely_m g hh q l c w K) : Rets Tryd.prog 31 #[.pointer (some ⟨g, 0, none⟩), .int .u64 hh, .slice q l c] w K :=
  calls_of_fw plain mixed Tryd.func31 (by kernel_rfl) (by rw [exact_lonely_eq]; exact h)
def exact_single_m (g : Nat) (hh : Int) (q : Option Addr) (l c : Nat) (w : World) (K : Value → World → Prop) : Prop :=
  NewMapR w fun (k1 : Nat) (w1 : World) =>
  ∃ (h1 : Nat → List Value → World → Prop),
  (∃ (k2 : Nat), h1 k2 [Value.int IntKind.i64 (0 : Int)] w1) ∧
  ∀ (k3 : Nat) (w2 : World) (v1 v2 : Value) (n1 : Int)
  (v3 v4 v5 v6 v7 v8 v9 v10 v11 v12 v13 v14 v15 v16 v17 v18 v19 v20 v21 : Value),
  h1 k3 [Value.int IntKind.i64 n1] w2 →
  (decide (n1 < (↑l : Int)) = true →
  (0 : Int) ≤ n1 ∧
  n1 < (↑l : Int) ∧
  someR q fun (a1 : Addr) =>
  ∃ (n2 : Int),
  cellAt w2 (Addr.add a1 (Int.toNat n1 * (1 : Nat))) (Value.int IntKind.u64 n2) ∧
  ((n2 == hh) = true →
  ∃ (k4 : Nat), k4 < k3 ∧ h1 k4 [Value.int IntKind.i64 (IntKind.wrap IntKind.i64 (n1 + (1 : Int)))] w2) ∧
  ((n2 == hh) = false →
  Rets Tryd.prog (54 : Nat) { toList := [Value.pointer (some { block := g, off := (0 : Nat) })] } w2
  fun (v22 : Value) (w3 : World) =>
  ∃ (q1 : Option Addr),
  v22 = Value.pointer q1 ∧
  Rets Tryd.prog (43 : Nat) { toList := [Value.pointer q1, Value.int IntKind.u64 n2] } w3
  fun (v23 : Value) (w4 : World) =>
  ∃ (n3 : Int),
  ∃ (n4 : Int),
  ∃ (n5 : Int),
  ∃ (n6 : Int),
  v23 =
  Value.agg
  { toList := [Value.int IntKind.i64 n3, Value.int IntKind.i64 n4, Value.int IntKind.i64 n5, Value.int IntKind.i64 n6] } ∧
  ∃ (h2 : Nat → List Value → World → Prop),
  (∃ (k5 : Nat), h2 k5 [Value.int IntKind.i64 (0 : Int)] w4) ∧
  ∀ (k6 : Nat) (w5 : World) (v24 : Value) (n7 : Int) (v25 v26 v27 v28 v29 v30 v31 : Value),
  h2 k6 [Value.int IntKind.i64 n7] w5 →
  (decide (n7 < (4 : Int)) = true →
  (0 : Int) ≤ n7 ∧
  n7 < (↑(4 : Nat) : Int) ∧
  ∃ (n8 : Int),
  List.get?Internal
  (Array.toList
  { toList := [Value.int IntKind.i64 n3, Value.int IntKind.i64 n4, Value.int IntKind.i64 n5, Value.int IntKind.i64 n6] })
  (Int.toNat n7) =
  some (Value.int IntKind.i64 n8) ∧
  RunR Tryd.prog (Instr.lookup (97 : Nat) (Value.map (some k1)) (Value.int IntKind.i64 n8) false) w5
  fun (v32 : Value) (w6 : World) =>
  ∃ (n9 : Int),
  v32 = Value.int IntKind.i64 n9 ∧
  RunU Tryd.prog
  (Instr.mapUpdate (97 : Nat) (Value.map (some k1)) (Value.int IntKind.i64 n8)
  (Value.int IntKind.i64 (IntKind.wrap IntKind.i64 (n9 + (1 : Int)))))
  w6 fun (w7 : World) =>
  ∃ (k7 : Nat), k7 < k6 ∧ h2 k7 [Value.int IntKind.i64 (IntKind.wrap IntKind.i64 (n7 + (1 : Int)))] w7) ∧
  (decide (n7 < (4 : Int)) = false →
  ∃ (k8 : Nat), k8 < k3 ∧ h1 k8 [Value.int IntKind.i64 (IntKind.wrap IntKind.i64 (n1 + (1 : Int)))] w5))) ∧
  (decide (n1 < (↑l : Int)) = false →
  Rets Tryd.prog (54 : Nat) { toList := [Value.pointer (some { block := g, off := (0 : Nat) })] } w2
  fun (v33 : Value) (w8 : World) =>
  ∃ (q2 : Option Addr),
  v33 = Value.pointer q2 ∧
  Rets Tryd.prog (43 : Nat) { toList := [Value.pointer q2, Value.int IntKind.u64 hh] } w8
  fun (v34 : Value) (w9 : World) =>
  ∃ (n10 : Int),
  ∃ (n11 : Int),
  ∃ (n12 : Int),
  ∃ (n13 : Int),
  v34 =
  Value.agg
  {
  toList :=
  [Value.int IntKind.i64 n10, Value.int IntKind.i64 n11, Value.int IntKind.i64 n12, Value.int IntKind.i64 n13] } ∧
  ∃ (h3 : Nat → List Value → World → Prop),
  (∃ (k9 : Nat), h3 k9 [Value.int IntKind.i64 (0 : Int)] w9) ∧
  ∀ (k10 : Nat) (w10 : World) (v35 v36 : Value) (n14 : Int) (v37 v38 v39 v40 v41 v42 v43 : Value),
  h3 k10 [Value.int IntKind.i64 n14] w10 →
  (decide (n14 < (4 : Int)) = true →
  (0 : Int) ≤ n14 ∧
  n14 < (↑(4 : Nat) : Int) ∧
  ∃ (n15 : Int),
  List.get?Internal
  (Array.toList
  {
  toList :=
  [Value.int IntKind.i64 n10, Value.int IntKind.i64 n11, Value.int IntKind.i64 n12, Value.int IntKind.i64 n13] })
  (Int.toNat n14) =
  some (Value.int IntKind.i64 n15) ∧
  RunR Tryd.prog (Instr.lookup (97 : Nat) (Value.map (some k1)) (Value.int IntKind.i64 n15) false) w10
  fun (v44 : Value) (w11 : World) =>
  ∃ (n16 : Int),
  v44 = Value.int IntKind.i64 n16 ∧
  ((n16 == (0 : Int)) = true → K (Value.bool true) w11) ∧
  ((n16 == (0 : Int)) = false →
  ∃ (k11 : Nat), k11 < k10 ∧ h3 k11 [Value.int IntKind.i64 (IntKind.wrap IntKind.i64 (n14 + (1 : Int)))] w11)) ∧
  (decide (n14 < (4 : Int)) = false → K (Value.bool false) w10))
theorem exact_single_eq (g : Nat) (hh : Int) (q : Option Addr) (l c : Nat) (w : World) (K : Value → World → Prop) : fw Tryd.prog Tryd.f32 (annL [(1, [(9, none), (11, none), (17, some 3), (18, none), (19, none), (20, none), (21, none), (22, none), (23, none), (24, none), (25, none), (26, none), (27, none), (28, none), (29, none), (30, none), (31, none), (32, none), (33, none), (34, none), (35, none), (36, none)]), (6, [(11, none), (28, some 3), (29, none), (30, none), (31, none), (32, none), (33, none), (34, none), (35, none)]), (10, [(6, none), (13, none), (41, some 3), (42, none), (43, none), (44, none), (45, none), (46, none), (47, none), (48, none)])]) (ordL []) [.pointer (some ⟨g, 0, none⟩), .int .u64 hh, .slice q l c] w K = exact_single_m g hh q l c w K := by kernel_rfl
theorem exact_single_go (g : Nat) (hh : Int) (q : Option Addr) (l c : Nat) {w : World} {K : Value → World → Prop} (h : exact_single_m g hh q l c w K) : Rets Tryd.prog 32 #[.pointer (some ⟨g, 0, none⟩), .int .u64 hh, .slice q l c] w K :=
  calls_of_fw plain mixed Tryd.func32 (by kernel_rfl) (by rw [exact_single_eq]; exact h)
def exact_Apart_m (g : Nat) (q : Option Addr) (l c : Nat) (w : World) (K : Value → World → Prop) : Prop :=
  ∃ (h1 : Nat → List Value → World → Prop),
  (∃ (k1 : Nat), h1 k1 [Value.int IntKind.i64 (0 : Int)] w) ∧
  ∀ (k2 : Nat) (w1 : World) (v1 v2 : Value) (n1 : Int) (v3 v4 v5 v6 v7 v8 v9 v10 v11 v12 v13 v14 v15 v16 v17 v18 : Value),
  h1 k2 [Value.int IntKind.i64 n1] w1 →
  (decide (n1 < (↑l : Int)) = true →
  (0 : Int) ≤ n1 ∧
  n1 < (↑l : Int) ∧
  someR q fun (a1 : Addr) =>
  ∃ (n2 : Int),
  cellAt w1 (Addr.add a1 (Int.toNat n1 * (1 : Nat))) (Value.int IntKind.u64 n2) ∧
  Rets Tryd.prog (31 : Nat)
  { toList := [Value.pointer (some { block := g, off := (0 : Nat) }), Value.int IntKind.u64 n2, Value.slice q l c] } w1
  fun (v19 : Value) (w2 : World) =>
  ∃ (b1 : Bool),
  v19 = Value.bool b1 ∧
  ((!b1) = false →
  Rets Tryd.prog (32 : Nat)
  { toList := [Value.pointer (some { block := g, off := (0 : Nat) }), Value.int IntKind.u64 n2, Value.slice q l c] } w2
  fun (v20 : Value) (w3 : World) =>
  ∃ (b2 : Bool),
  v20 = Value.bool b2 ∧
  ((!b2) = true → K (Value.bool false) w3) ∧
  ((!b2) = false →
  ∃ (k3 : Nat), k3 < k2 ∧ h1 k3 [Value.int IntKind.i64 (IntKind.wrap IntKind.i64 (n1 + (1 : Int)))] w3)) ∧
  ((!b1) = true → K (Value.bool false) w2)) ∧
  (decide (n1 < (↑l : Int)) = false → K (Value.bool true) w1)
theorem exact_Apart_eq (g : Nat) (q : Option Addr) (l c : Nat) (w : World) (K : Value → World → Prop) : fw Tryd.prog Tryd.f14 (annL [(1, [(4, none), (6, none), (9, some 3), (10, none), (11, none), (12, none), (13, none), (14, none), (15, none), (16, none), (17, none), (18, none), (19, none), (20, none), (21, none), (22, none), (23, none), (24, none), (25, none)])]) (ordL []) [.pointer (some ⟨g, 0, none⟩), .slice q l c] w K = exact_Apart_m g q l c w K := by kernel_rfl
theorem exact_Apart_go (g : Nat) (q : Option Addr) (l c : Nat) {w : World} {K : Value → World → Prop} (h : exact_Apart_m g q l c w K) : Rets Tryd.prog 14 #[.pointer (some ⟨g, 0, none⟩), .slice q l c] w K :=
  calls_of_fw plain mixed Tryd.func14 (by kernel_rfl) (by rw [exact_Apart_eq]; exact h)
end Go.Proofs.YtjdbeopgmpbikaaDoor.Eng
