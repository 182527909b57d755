/- What the code of these functions asks for: printed by a program of this session's (gens.py) out of the seat's own functions; the kernel checks each row. -/
import Derived.Test.YtipcbhaeoeghnaaEngH
import Derived.Test.YtipcbhaeoeghnaaProg
import Derived.Test.YtipcbhaeoeghnaaBase
namespace Go.Proofs.Ytipcbhaeoeghnaa.Eng
open Go Go.Proofs
set_option linter.unusedVariables false
set_option maxRecDepth 1000000
def cortadolaw08_RankTells_m (q : Option Addr) (l c : Nat) (fr most : Int) (w : World) (K : Value → World → Prop) : Prop :=
  (decide ((↑l : Int) > (40 : Int)) = true →
  Rets Try.prog (30 : Nat) { toList := [] } w fun (v1 : Value) (w1 : World) =>
  ∃ (b1 : Bool), v1 = Value.bool b1 ∧ K (Value.bool b1) w1) ∧
  (decide ((↑l : Int) > (40 : Int)) = false →
  Rets Try.prog (31 : Nat) { toList := [Value.func (Fn.func (32 : Nat)) { toList := [] } { toList := [] }] } w
  fun (v2 : Value) (w2 : World) =>
  ∃ (q1 : Option Addr),
  v2 = Value.pointer q1 ∧
  ∃ (h1 : Nat → List Value → World → Prop),
  (∃ (k1 : Nat), h1 k1 [Value.pointer q1, Value.slice none (0 : Nat) (0 : Nat), Value.int IntKind.i64 (0 : Int)] w2) ∧
  ∀ (k2 : Nat) (w3 : World) (q2 q3 : Option Addr) (k3 k4 : Nat) (n1 : Int)
  (v3 v4 v5 v6 v7 v8 v9 v10 v11 v12 v13 v14 v15 v16 v17 v18 v19 v20 v21 v22 v23 v24 v25 v26 v27 v28 v29 v30 v31 v32 :
  Value),
  h1 k2 [Value.pointer q2, Value.slice q3 k3 k4, Value.int IntKind.i64 n1] w3 →
  (decide (n1 < (↑l : Int)) = true →
  Drw w3 fun (w4 : World) =>
  ∃ (h2 : World → Prop),
  h2 w4 ∧
  (0 : Int) ≤ n1 ∧
  n1 < (↑l : Int) ∧
  someR q fun (a1 : Addr) =>
  (0 : Int) ≤ n1 ∧
  n1 < (↑l : Int) ∧
  someR q fun (a2 : Addr) =>
  (0 : Int) ≤ n1 ∧
  n1 < (↑l : Int) ∧
  someR q fun (a3 : Addr) =>
  (0 : Int) ≤ n1 ∧
  n1 < (↑l : Int) ∧
  someR q fun (a4 : Addr) =>
  ∃ (n2 : Int),
  (∀ (w5 : World),
  h2 w5 →
  World.cell? w5 (Addr.add (Addr.add a1 (Int.toNat n1 * (2 : Nat))) (0 : Nat)) = some (Value.int IntKind.i64 n2)) ∧
  ∃ (n3 : Int),
  (∀ (w6 : World),
  h2 w6 →
  World.cell? w6 (Addr.add (Addr.add a2 (Int.toNat n1 * (2 : Nat))) (1 : Nat)) = some (Value.int IntKind.i64 n3)) ∧
  ∃ (n4 : Int),
  (∀ (w7 : World),
  h2 w7 →
  World.cell? w7 (Addr.add (Addr.add a3 (Int.toNat n1 * (2 : Nat))) (0 : Nat)) = some (Value.int IntKind.i64 n4)) ∧
  ∃ (n5 : Int),
  (∀ (w8 : World),
  h2 w8 →
  World.cell? w8 (Addr.add (Addr.add a4 (Int.toNat n1 * (2 : Nat))) (1 : Nat)) = some (Value.int IntKind.i64 n5)) ∧
  Rets Try.prog (33 : Nat) { toList := [Value.pointer q2, Value.int IntKind.i64 n2, Value.int IntKind.i64 n3] } w4
  fun (v33 : Value) (w9 : World) =>
  ∃ (q4 : Option Addr),
  v33 = Value.pointer q4 ∧
  h2 w9 ∧
  Rets Try.prog (34 : Nat) { toList := [Value.slice q3 k3 k4, Value.int IntKind.i64 n4, Value.int IntKind.i64 n5] } w9
  fun (v34 : Value) (w10 : World) =>
  ∃ (q5 : Option Addr),
  ∃ (k5 : Nat),
  ∃ (k6 : Nat),
  v34 = Value.slice q5 k5 k6 ∧
  ∃ (k7 : Nat),
  k7 < k2 ∧
  h1 k7 [Value.pointer q4, Value.slice q5 k5 k6, Value.int IntKind.i64 (IntKind.wrap IntKind.i64 (n1 + (1 : Int)))] w10) ∧
  (decide (n1 < (↑l : Int)) = false →
  ∃ (h3 : Nat → List Value → World → Prop),
  (∃ (k8 : Nat), h3 k8 [Value.slice none (0 : Nat) (0 : Nat), Value.int IntKind.i64 (0 : Int)] w3) ∧
  ∀ (k9 : Nat) (w11 : World) (q6 : Option Addr) (k10 k11 : Nat) (n6 : Int)
  (v35 v36 v37 v38 v39 v40 v41 v42 v43 v44 v45 v46 v47 v48 v49 v50 v51 v52 v53 v54 : Value),
  h3 k9 [Value.slice q6 k10 k11, Value.int IntKind.i64 n6] w11 →
  (decide (n6 < (↑k3 : Int)) = true →
  (0 : Int) ≤ n6 ∧
  n6 < (↑k3 : Int) ∧
  someR q3 fun (a5 : Addr) =>
  ∃ (n7 : Int),
  cellAt w11 (Addr.add (Addr.add a5 (Int.toNat n6 * (2 : Nat))) (0 : Nat)) (Value.int IntKind.i64 n7) ∧
  (decide (n7 ≥ fr) = true →
  (0 : Int) ≤ n6 ∧
  n6 < (↑k3 : Int) ∧
  someR q3 fun (a6 : Addr) =>
  ∃ (n8 : Int),
  ∃ (n9 : Int),
  (cellAt w11 (Addr.add (Addr.add a6 (Int.toNat n6 * (2 : Nat))) (0 : Nat)) (Value.int IntKind.i64 n8) ∧
  cellAt w11 (Addr.add (Addr.add a6 (Int.toNat n6 * (2 : Nat))) (1 : Nat)) (Value.int IntKind.i64 n9)) ∧
  NewR (64 : Nat) [Value.int IntKind.i64 n8, Value.int IntKind.i64 n9] w11 fun (a7 : Addr) (w12 : World) =>
  RunR Try.prog
  (builtinV Builtin.append { toList := [(58 : Nat), (58 : Nat)] } (nat_lit 58)
  { toList := [Value.slice q6 k10 k11, Value.slice (some a7) (1 : Nat) (1 : Nat)] })
  w12 fun (v55 : Value) (w13 : World) =>
  ∃ (q7 : Option Addr),
  ∃ (k12 : Nat),
  ∃ (k13 : Nat),
  v55 = Value.slice q7 k12 k13 ∧
  ∃ (k14 : Nat),
  k14 < k9 ∧ h3 k14 [Value.slice q7 k12 k13, Value.int IntKind.i64 (IntKind.wrap IntKind.i64 (n6 + (1 : Int)))] w13) ∧
  (decide (n7 ≥ fr) = false →
  ∃ (k15 : Nat),
  k15 < k9 ∧ h3 k15 [Value.slice q6 k10 k11, Value.int IntKind.i64 (IntKind.wrap IntKind.i64 (n6 + (1 : Int)))] w11)) ∧
  (decide (n6 < (↑k3 : Int)) = false →
  (45 : Int) ≠ (0 : Int) ∧
  Drw w11 fun (w14 : World) =>
  (0 : Int) ≤ minI (IntKind.wrap IntKind.i64 (Int.tmod most (45 : Int))) (↑k3 : Int) ∧
  minI (IntKind.wrap IntKind.i64 (Int.tmod most (45 : Int))) (↑k3 : Int) ≤ (↑k4 : Int) ∧
  Rets Try.prog (37 : Nat) { toList := [Value.pointer q2] } w14 fun (v56 : Value) (w15 : World) =>
  ∃ (k16 : Nat),
  ∃ (a8 : Array Value),
  ∃ (c1 : Array Value),
  v56 = Value.func (Fn.func k16) a8 c1 ∧
  Rets Try.prog (36 : Nat)
  {
  toList :=
  [Value.func (Fn.func k16) a8 c1, Value.int IntKind.i64 (IntKind.wrap IntKind.i64 (Int.tmod most (45 : Int)))] }
  w15 fun (v57 : Value) (w16 : World) =>
  ∃ (q8 : Option Addr),
  ∃ (k17 : Nat),
  ∃ (k18 : Nat),
  v57 = Value.slice q8 k17 k18 ∧
  Rets Try.prog (35 : Nat)
  {
  toList :=
  [Value.slice q8 k17 k18,
  Value.slice (slcA q3 (0 : Nat) k4 (2 : Nat))
  (Int.toNat (minI (IntKind.wrap IntKind.i64 (Int.tmod most (45 : Int))) (↑k3 : Int)) - (0 : Nat)) (k4 - (0 : Nat))] }
  w16 fun (v58 : Value) (w17 : World) =>
  ∃ (b2 : Bool),
  v58 = Value.bool b2 ∧
  (b2 = true →
  (0 : Int) ≤ minI (IntKind.wrap IntKind.i64 (Int.tmod most (45 : Int))) (↑k10 : Int) ∧
  minI (IntKind.wrap IntKind.i64 (Int.tmod most (45 : Int))) (↑k10 : Int) ≤ (↑k11 : Int) ∧
  Rets Try.prog (38 : Nat) { toList := [Value.pointer q2, Value.int IntKind.i64 fr] } w17
  fun (v59 : Value) (w18 : World) =>
  ∃ (k19 : Nat),
  ∃ (a9 : Array Value),
  ∃ (c2 : Array Value),
  v59 = Value.func (Fn.func k19) a9 c2 ∧
  Rets Try.prog (36 : Nat)
  {
  toList :=
  [Value.func (Fn.func k19) a9 c2, Value.int IntKind.i64 (IntKind.wrap IntKind.i64 (Int.tmod most (45 : Int)))] }
  w18 fun (v60 : Value) (w19 : World) =>
  ∃ (q9 : Option Addr),
  ∃ (k20 : Nat),
  ∃ (k21 : Nat),
  v60 = Value.slice q9 k20 k21 ∧
  Rets Try.prog (35 : Nat)
  {
  toList :=
  [Value.slice q9 k20 k21,
  Value.slice (slcA q6 (0 : Nat) k11 (2 : Nat))
  (Int.toNat (minI (IntKind.wrap IntKind.i64 (Int.tmod most (45 : Int))) (↑k10 : Int)) - (0 : Nat)) (k11 - (0 : Nat))] }
  w19 fun (v61 : Value) (w20 : World) =>
  ∃ (b3 : Bool),
  v61 = Value.bool b3 ∧
  (b3 = true →
  Rets Try.prog (30 : Nat) { toList := [] } w20 fun (v62 : Value) (w21 : World) =>
  ∃ (b4 : Bool), v62 = Value.bool b4 ∧ K (Value.bool b4) w21) ∧
  (b3 = false → K (Value.bool false) w20)) ∧
  (b2 = false → K (Value.bool false) w17))))
theorem cortadolaw08_RankTells_eq (q : Option Addr) (l c : Nat) (fr most : Int) (w : World) (K : Value → World → Prop) : fw Try.prog Try.f6 (annL [(2, [(7, some 59), (8, some 58), (10, some 3), (18, none), (19, none), (20, none), (21, none), (22, none), (23, none), (24, none), (25, none), (26, none), (27, none), (28, none), (29, none), (30, none), (31, none), (32, none), (33, none), (34, none), (35, none), (36, none), (37, none), (38, none), (39, none), (40, none), (41, none), (42, none), (43, none), (44, none), (45, none), (46, none), (47, none)]), (6, [(9, some 58), (11, some 3), (48, none), (49, none), (50, none), (51, none), (52, none), (53, none), (54, none), (55, none), (56, none), (57, none), (58, none), (59, none), (60, none), (61, none), (62, none), (63, none), (64, none), (65, none), (66, none), (67, none)])]) (ordL [(8, [(0, 0), (1, 0), (2, 0), (3, 0), (4, 0), (6, 0), (7, 0), (8, 0), (9, 0), (12, 0), (13, 0), (14, 0), (15, 0), (16, 0), (18, 0), (19, 0), (20, 0), (21, 0), (5, 1), (10, 1), (17, 1), (22, 1), (11, 2), (23, 3), (24, 0), (25, 0)]), (15, [(0, 0), (2, 0), (4, 0), (5, 0), (6, 0), (7, 0), (8, 0), (9, 0), (1, 3), (3, 3), (10, 3), (11, 0), (12, 0), (13, 0), (15, 0), (17, 0), (18, 0), (19, 0), (20, 0), (21, 0), (22, 0), (14, 3), (16, 3), (23, 3), (24, 0), (25, 0), (26, 3), (27, 0), (28, 0)])]) [.slice q l c, .int .i64 fr, .int .u64 most] w K = cortadolaw08_RankTells_m q l c fr most w K := by kernel_rfl
theorem cortadolaw08_RankTells_go (q : Option Addr) (l c : Nat) (fr most : Int) {w : World} {K : Value → World → Prop} (h : cortadolaw08_RankTells_m q l c fr most w K) : Rets Try.prog 6 #[.slice q l c, .int .i64 fr, .int .u64 most] w K :=
  calls_of_fw plain mixed Try.func6 (by kernel_rfl) (by rw [cortadolaw08_RankTells_eq]; exact h)
end Go.Proofs.Ytipcbhaeoeghnaa.Eng
