/- What the code of these functions asks for: printed by a program of this session's (gens.py) out of the seat's own functions; the kernel checks each row. -/
import Derived.Test.YtipcbhaeoeghnaaDoorEngH
import Derived.Test.YtipcbhaeoeghnaaDoorProg
import Derived.Test.YtipcbhaeoeghnaaDoorBase
namespace Go.Proofs.YtipcbhaeoeghnaaDoor.Eng
open Go Go.Proofs
set_option linter.unusedVariables false
set_option maxRecDepth 1000000
def prog_known_m (k : Int) (w : World) (K : Value → World → Prop) : Prop :=
  (decide (k ≥ (0 : Int)) = true → K (Value.bool (decide (k ≤ (7 : Int)))) w) ∧
  (decide (k ≥ (0 : Int)) = false → K (Value.bool false) w)
theorem prog_known_eq (k : Int) (w : World) (K : Value → World → Prop) : fw Tryd.prog Tryd.f39 (annL []) (ordL []) [.int .i64 k] w K = prog_known_m k w K := by kernel_rfl
theorem prog_known_go (k : Int) {w : World} {K : Value → World → Prop} (h : prog_known_m k w K) : Rets Tryd.prog 39 #[.int .i64 k] w K :=
  calls_of_fw plain mixed Tryd.func39 (by kernel_rfl) (by rw [prog_known_eq]; exact h)
def prog_own_m (g : Nat) (w : World) (K : Value → World → Prop) : Prop :=
  NewR (71 : Nat) [Value.pointer (some { block := g, off := (0 : Nat) })] w fun (a1 : Addr) (w1 : World) =>
  K (Value.func (Fn.func (67 : Nat)) { toList := [] } { toList := [Value.pointer (some a1)] }) w1
theorem prog_own_eq (g : Nat) (w : World) (K : Value → World → Prop) : fw Tryd.prog Tryd.f40 (annL []) (ordL []) [.pointer (some ⟨g, 0, none⟩)] w K = prog_own_m g w K := by kernel_rfl
theorem prog_own_go (g : Nat) {w : World} {K : Value → World → Prop} (h : prog_own_m g w K) : Rets Tryd.prog 40 #[.pointer (some ⟨g, 0, none⟩)] w K :=
  calls_of_fw plain mixed Tryd.func40 (by kernel_rfl) (by rw [prog_own_eq]; exact h)
def prog_own_1_m (l b : Nat) (w : World) (K : Value → World → Prop) : Prop :=
  ∃ (q1 : Option Addr),
  cellAt w { block := b, off := (0 : Nat) } (Value.pointer q1) ∧
  someR q1 fun (a1 : Addr) =>
  ∃ (n1 : Int),
  cellAt w (Addr.add a1 (0 : Nat)) (Value.int IntKind.i64 n1) ∧
  ∃ (h1 : List Value → World → Prop),
  (((n1 == (1 : Int)) = true →
  ∃ (q2 : Option Addr),
  cellAt w { block := b, off := (0 : Nat) } (Value.pointer q2) ∧
  someR q2 fun (a2 : Addr) =>
  NewR (72 : Nat) [Value.pointer (some (Addr.add a2 (1 : Nat)))] w fun (a3 : Addr) (w1 : World) =>
  h1 [Value.slice (some a3) (1 : Nat) (1 : Nat)] w1) ∧
  ((n1 == (1 : Int)) = false →
  ((n1 == (3 : Int)) = true →
  ∃ (q3 : Option Addr),
  cellAt w { block := b, off := (0 : Nat) } (Value.pointer q3) ∧
  someR q3 fun (a4 : Addr) =>
  NewR (72 : Nat) [Value.pointer (some (Addr.add a4 (1 : Nat)))] w fun (a5 : Addr) (w2 : World) =>
  h1 [Value.slice (some a5) (1 : Nat) (1 : Nat)] w2) ∧
  ((n1 == (3 : Int)) = false →
  ((n1 == (2 : Int)) = true →
  Drw w fun (w3 : World) =>
  ∃ (q4 : Option Addr),
  cellAt w3 { block := b, off := (0 : Nat) } (Value.pointer q4) ∧
  someR q4 fun (a6 : Addr) =>
  ∃ (q5 : Option Addr),
  cellAt w3 { block := b, off := (0 : Nat) } (Value.pointer q5) ∧
  someR q5 fun (a7 : Addr) =>
  ∃ (q6 : Option Addr),
  cellAt w3 { block := b, off := (0 : Nat) } (Value.pointer q6) ∧
  someR q6 fun (a8 : Addr) =>
  ∃ (q7 : Option Addr),
  cellAt w3 { block := b, off := (0 : Nat) } (Value.pointer q7) ∧
  someR q7 fun (a9 : Addr) =>
  NewR (72 : Nat)
  [Value.pointer (some (Addr.add a6 (1 : Nat))), Value.pointer (some (Addr.add a7 (2 : Nat))),
  Value.pointer (some (Addr.add a8 (3 : Nat))), Value.pointer (some (Addr.add a9 (4 : Nat)))]
  w3 fun (a10 : Addr) (w4 : World) => h1 [Value.slice (some a10) (4 : Nat) (4 : Nat)] w4) ∧
  ((n1 == (2 : Int)) = false →
  ((n1 == (7 : Int)) = true →
  ∃ (q8 : Option Addr),
  cellAt w { block := b, off := (0 : Nat) } (Value.pointer q8) ∧
  someR q8 fun (a11 : Addr) =>
  NewR (72 : Nat) [Value.pointer (some (Addr.add a11 (3 : Nat)))] w fun (a12 : Addr) (w5 : World) =>
  h1 [Value.slice (some a12) (1 : Nat) (1 : Nat)] w5) ∧
  ((n1 == (7 : Int)) = false → h1 [Value.slice none (0 : Nat) (0 : Nat)] w))))) ∧
  ∀ (w6 : World) (q9 : Option Addr) (k1 k2 : Nat)
  (v1 v2 v3 v4 v5 v6 v7 v8 v9 v10 v11 v12 v13 v14 v15 v16 v17 v18 v19 v20 v21 v22 v23 v24 v25 v26 v27 v28 : Value),
  h1 [Value.slice q9 k1 k2] w6 →
  ∃ (h2 : Nat → List Value → World → Prop),
  (∃ (k3 : Nat), h2 k3 [Value.int IntKind.i64 (0 : Int)] w6) ∧
  ∀ (k4 : Nat) (w7 : World) (v29 : Value) (n2 : Int) (v30 v31 v32 v33 v34 v35 v36 v37 : Value),
  h2 k4 [Value.int IntKind.i64 n2] w7 →
  (decide (n2 < (↑k1 : Int)) = true →
  (0 : Int) ≤ n2 ∧
  n2 < (↑k1 : Int) ∧
  someR q9 fun (a13 : Addr) =>
  ∃ (q10 : Option Addr),
  cellAt w7 (Addr.add a13 (Int.toNat n2 * (1 : Nat))) (Value.pointer q10) ∧
  RoundR Tryd.prog l { toList := [Value.pointer q10] } w7 fun (v38 : Value) (w8 : World) =>
  ∃ (b1 : Bool),
  v38 = Value.bool b1 ∧
  ((!b1) = true → K (Value.tuple { toList := [] }) w8) ∧
  ((!b1) = false →
  ∃ (k5 : Nat), k5 < k4 ∧ h2 k5 [Value.int IntKind.i64 (IntKind.wrap IntKind.i64 (n2 + (1 : Int)))] w8)) ∧
  (decide (n2 < (↑k1 : Int)) = false → K (Value.tuple { toList := [] }) w7)
theorem prog_own_1_eq (l b : Nat) (w : World) (K : Value → World → Prop) : fw Tryd.prog Tryd.f67 (annL [(0, [(3, some 97), (10, none), (11, none), (12, none), (13, none), (14, none), (15, none), (16, none), (17, none), (18, none), (19, none), (20, none), (21, none), (22, none), (23, none), (24, none), (25, none), (26, none), (27, none), (28, none), (29, none), (30, none), (31, none), (32, none), (33, none), (34, none), (35, none), (36, none), (37, none)]), (6, [(5, none), (40, some 3), (41, none), (42, none), (43, none), (44, none), (45, none), (46, none), (47, none), (48, none)])]) (ordL [(6, [(0, 1), (1, 0), (2, 0), (3, 1), (4, 0), (5, 0), (6, 1), (7, 0), (8, 0), (9, 1), (10, 0), (11, 0), (12, 3), (13, 0)])]) [.func (.yield l) #[] #[], .pointer (some ⟨b, 0, none⟩)] w K = prog_own_1_m l b w K := by kernel_rfl
theorem prog_own_1_go (l b : Nat) {w : World} {K : Value → World → Prop} (h : prog_own_1_m l b w K) : Rets Tryd.prog 67 #[.func (.yield l) #[] #[], .pointer (some ⟨b, 0, none⟩)] w K :=
  calls_of_fw plain mixed Tryd.func67 (by kernel_rfl) (by rw [prog_own_1_eq]; exact h)
def prog_Bare_m (k0 k1 k2 k3 k4 : Int) (w : World) (K : Value → World → Prop) : Prop :=
  NewR (25 : Nat)
  [Value.int IntKind.i64 k0, Value.int IntKind.i64 k1, Value.int IntKind.i64 k2, Value.int IntKind.i64 k3,
  Value.int IntKind.i64 k4]
  w fun (a1 : Addr) (w1 : World) =>
  NewR (25 : Nat)
  [Value.int IntKind.i64 (0 : Int), Value.int IntKind.i64 (0 : Int), Value.int IntKind.i64 (0 : Int),
  Value.int IntKind.i64 (0 : Int), Value.int IntKind.i64 (0 : Int)]
  w1 fun (a2 : Addr) (w2 : World) =>
  ∃ (n1 : Int),
  cellAt w2 (Addr.add a1 (0 : Nat)) (Value.int IntKind.i64 n1) ∧
  Rets Tryd.prog (39 : Nat) { toList := [Value.int IntKind.i64 n1] } w2 fun (v1 : Value) (w3 : World) =>
  ∃ (b1 : Bool),
  v1 = Value.bool b1 ∧
  ((!b1) = true →
  StoreR a2
  [Value.int IntKind.i64 (0 : Int), Value.int IntKind.i64 (0 : Int), Value.int IntKind.i64 (0 : Int),
  Value.int IntKind.i64 (0 : Int), Value.int IntKind.i64 (0 : Int)]
  w3 fun (w4 : World) =>
  ∃ (n2 : Int),
  ∃ (n3 : Int),
  ∃ (n4 : Int),
  ∃ (n5 : Int),
  ∃ (n6 : Int),
  (cellAt w4 (Addr.add a2 (0 : Nat)) (Value.int IntKind.i64 n2) ∧
  cellAt w4 (Addr.add a2 (1 : Nat)) (Value.int IntKind.i64 n3) ∧
  cellAt w4 (Addr.add a2 (2 : Nat)) (Value.int IntKind.i64 n4) ∧
  cellAt w4 (Addr.add a2 (3 : Nat)) (Value.int IntKind.i64 n5) ∧
  cellAt w4 (Addr.add a2 (4 : Nat)) (Value.int IntKind.i64 n6)) ∧
  K
  (Value.agg
  {
  toList :=
  [Value.int IntKind.i64 n2, Value.int IntKind.i64 n3, Value.int IntKind.i64 n4, Value.int IntKind.i64 n5,
  Value.int IntKind.i64 n6] })
  w4) ∧
  ((!b1) = false →
  ∃ (n7 : Int),
  cellAt w3 (Addr.add a1 (0 : Nat)) (Value.int IntKind.i64 n7) ∧
  NewR (25 : Nat)
  [Value.int IntKind.i64 (0 : Int), Value.int IntKind.i64 (0 : Int), Value.int IntKind.i64 (0 : Int),
  Value.int IntKind.i64 (0 : Int), Value.int IntKind.i64 (0 : Int)]
  w3 fun (a3 : Addr) (w5 : World) =>
  StoreR a3
  [Value.int IntKind.i64 n7, Value.int IntKind.i64 (0 : Int), Value.int IntKind.i64 (0 : Int),
  Value.int IntKind.i64 (0 : Int), Value.int IntKind.i64 (0 : Int)]
  w5 fun (w6 : World) =>
  NewR (67 : Nat) [Value.slice none (0 : Nat) (0 : Nat)] w6 fun (a4 : Addr) (w7 : World) =>
  Rets Tryd.prog (40 : Nat) { toList := [Value.pointer (some a1)] } w7 fun (v2 : Value) (w8 : World) =>
  ∃ (f1 : Fn),
  ∃ (a5 : Array Value),
  ∃ (c1 : Array Value),
  v2 = Value.func f1 a5 c1 ∧
  ∃ (v3 : Value),
  Value.func f1 a5 c1 = Value.func (Fn.func (67 : Nat)) { toList := [] } { toList := [v3] } ∧
  LoopR w8 fun (k1 k2 : Nat) (L1 : Loop) (w9 : World) =>
  (∀ (q1 : Option Addr) (w10 : World) (h1 : Value → World → Prop),
  RecR k2 L1 w10 →
  (BegR k2 L1 w10 fun (w11 : World) =>
  Drw w11 fun (w12 : World) =>
  ∃ (h2 : World → Prop),
  h2 w12 ∧
  someR q1 fun (a6 : Addr) =>
  ∃ (q2 : Option Addr),
  ∃ (k3 : Nat),
  ∃ (k4 : Nat),
  (∀ (w13 : World), h2 w13 → World.cell? w13 a4 = some (Value.slice q2 k3 k4)) ∧
  ∃ (n8 : Int),
  (∀ (w14 : World), h2 w14 → World.cell? w14 a6 = some (Value.int IntKind.i64 n8)) ∧
  NewR (3 : Nat) [Value.int IntKind.i64 n8] w12 fun (a7 : Addr) (w15 : World) =>
  h2 w15 ∧
  RunR Tryd.prog
  (builtinV Builtin.append { toList := [(67 : Nat), (67 : Nat)] } (nat_lit 67)
  { toList := [Value.slice q2 k3 k4, Value.slice (some a7) (1 : Nat) (1 : Nat)] })
  w15 fun (v4 : Value) (w16 : World) =>
  ∃ (q3 : Option Addr),
  ∃ (k5 : Nat),
  ∃ (k6 : Nat),
  v4 = Value.slice q3 k5 k6 ∧
  StoreR a4 [Value.slice q3 k5 k6] w16 fun (w17 : World) =>
  FinR k2 L1 none w17 fun (w18 : World) => h1 (Value.bool true) w18) →
  RoundR Tryd.prog k2 { toList := [Value.pointer q1] } w10 h1) →
  Rets Tryd.prog (67 : Nat) { toList := [Value.func (Fn.yield k2) { toList := [] } { toList := [] }, v3] } w9
  fun (v5 : Value) (w19 : World) =>
  EndR k2 L1 none w19 fun (w20 : World) =>
  Rets Tryd.prog (40 : Nat) { toList := [Value.pointer (some a3)] } w20 fun (v6 : Value) (w21 : World) =>
  ∃ (f2 : Fn),
  ∃ (a8 : Array Value),
  ∃ (c2 : Array Value),
  v6 = Value.func f2 a8 c2 ∧
  ∃ (v7 : Value),
  Value.func f2 a8 c2 = Value.func (Fn.func (67 : Nat)) { toList := [] } { toList := [v7] } ∧
  LoopR w21 fun (k7 k8 : Nat) (L2 : Loop) (w22 : World) =>
  (∀ (q4 : Option Addr) (w23 : World) (h3 : Value → World → Prop),
  RecR k8 L2 w23 →
  (BegR k8 L2 w23 fun (w24 : World) =>
  Drw w24 fun (w25 : World) =>
  ∃ (h4 : World → Prop),
  h4 w25 ∧
  ∃ (q5 : Option Addr),
  ∃ (k9 : Nat),
  ∃ (k10 : Nat),
  (∀ (w26 : World), h4 w26 → World.cell? w26 a4 = some (Value.slice q5 k9 k10)) ∧
  (0 : Int) ≤ (0 : Int) ∧
  (0 : Int) < (↑k9 : Int) ∧
  someR q5 fun (a9 : Addr) =>
  ∃ (n9 : Int),
  (∀ (w27 : World), h4 w27 → World.cell? w27 (Addr.add a9 (0 : Nat)) = some (Value.int IntKind.i64 n9)) ∧
  someR q4 fun (a10 : Addr) =>
  ∃ (q6 : Option Addr),
  ∃ (k11 : Nat),
  ∃ (k12 : Nat),
  (∀ (w28 : World), h4 w28 → World.cell? w28 a4 = some (Value.slice q6 k11 k12)) ∧
  (0 : Int) ≤ (1 : Int) ∧
  (1 : Int) ≤ (↑k11 : Int) ∧
  StoreR a10 [Value.int IntKind.i64 n9] w25 fun (w29 : World) =>
  h4 w29 ∧
  StoreR a4 [Value.slice (slcA q6 (1 : Nat) k12 (1 : Nat)) (k11 - (1 : Nat)) (k12 - (1 : Nat))] w29 fun (w30 : World) =>
  FinR k8 L2 none w30 fun (w31 : World) => h3 (Value.bool true) w31) →
  RoundR Tryd.prog k8 { toList := [Value.pointer q4] } w23 h3) →
  Rets Tryd.prog (67 : Nat) { toList := [Value.func (Fn.yield k8) { toList := [] } { toList := [] }, v7] } w22
  fun (v8 : Value) (w32 : World) =>
  EndR k8 L2 none w32 fun (w33 : World) =>
  ∃ (n10 : Int),
  ∃ (n11 : Int),
  ∃ (n12 : Int),
  ∃ (n13 : Int),
  ∃ (n14 : Int),
  (cellAt w33 (Addr.add a3 (0 : Nat)) (Value.int IntKind.i64 n10) ∧
  cellAt w33 (Addr.add a3 (1 : Nat)) (Value.int IntKind.i64 n11) ∧
  cellAt w33 (Addr.add a3 (2 : Nat)) (Value.int IntKind.i64 n12) ∧
  cellAt w33 (Addr.add a3 (3 : Nat)) (Value.int IntKind.i64 n13) ∧
  cellAt w33 (Addr.add a3 (4 : Nat)) (Value.int IntKind.i64 n14)) ∧
  StoreR a2
  [Value.int IntKind.i64 n10, Value.int IntKind.i64 n11, Value.int IntKind.i64 n12, Value.int IntKind.i64 n13,
  Value.int IntKind.i64 n14]
  w33 fun (w34 : World) =>
  MarkR k7 w34 fun (w35 : World) =>
  MarkR k1 w35 fun (w36 : World) =>
  ∃ (n15 : Int),
  ∃ (n16 : Int),
  ∃ (n17 : Int),
  ∃ (n18 : Int),
  ∃ (n19 : Int),
  (cellAt w36 (Addr.add a2 (0 : Nat)) (Value.int IntKind.i64 n15) ∧
  cellAt w36 (Addr.add a2 (1 : Nat)) (Value.int IntKind.i64 n16) ∧
  cellAt w36 (Addr.add a2 (2 : Nat)) (Value.int IntKind.i64 n17) ∧
  cellAt w36 (Addr.add a2 (3 : Nat)) (Value.int IntKind.i64 n18) ∧
  cellAt w36 (Addr.add a2 (4 : Nat)) (Value.int IntKind.i64 n19)) ∧
  K
  (Value.agg
  {
  toList :=
  [Value.int IntKind.i64 n15, Value.int IntKind.i64 n16, Value.int IntKind.i64 n17, Value.int IntKind.i64 n18,
  Value.int IntKind.i64 n19] })
  w36)
theorem prog_Bare_eq (k0 k1 k2 k3 k4 : Int) (w : World) (K : Value → World → Prop) : fw Tryd.prog Tryd.f10 (annL [(2, [(16, some 72)]), (5, [(24, some 72)])]) (ordL [(1000002, [(67, 1)]), (7, [(1, 0), (2, 0), (0, 1), (3, 1), (4, 2), (5, 3), (6, 3)]), (1000005, [(67, 1)]), (10, [(0, 0), (1, 1), (2, 0), (3, 1), (6, 0), (4, 1), (5, 0), (7, 2), (8, 3)])]) [.agg #[.int .i64 k0, .int .i64 k1, .int .i64 k2, .int .i64 k3, .int .i64 k4]] w K = prog_Bare_m k0 k1 k2 k3 k4 w K := by kernel_rfl
theorem prog_Bare_go (k0 k1 k2 k3 k4 : Int) {w : World} {K : Value → World → Prop} (h : prog_Bare_m k0 k1 k2 k3 k4 w K) : Rets Tryd.prog 10 #[.agg #[.int .i64 k0, .int .i64 k1, .int .i64 k2, .int .i64 k3, .int .i64 k4]] w K :=
  calls_of_fw plain mixed Tryd.func10 (by kernel_rfl) (by rw [prog_Bare_eq]; exact h)
def prog_Right_m (k0 k1 k2 k3 k4 : Int) (w : World) (K : Value → World → Prop) : Prop :=
  NewR (25 : Nat)
  [Value.int IntKind.i64 k0, Value.int IntKind.i64 k1, Value.int IntKind.i64 k2, Value.int IntKind.i64 k3,
  Value.int IntKind.i64 k4]
  w fun (a1 : Addr) (w1 : World) =>
  Drw w1 fun (w2 : World) =>
  ∃ (h1 : World → Prop),
  h1 w2 ∧
  ∃ (n1 : Int),
  (∀ (w3 : World), h1 w3 → World.cell? w3 (Addr.add a1 (0 : Nat)) = some (Value.int IntKind.i64 n1)) ∧
  Rets Tryd.prog (39 : Nat) { toList := [Value.int IntKind.i64 n1] } w2 fun (v1 : Value) (w4 : World) =>
  ∃ (b1 : Bool),
  v1 = Value.bool b1 ∧
  h1 w4 ∧
  (b1 = true →
  ∃ (n2 : Int),
  ∃ (n3 : Int),
  ∃ (n4 : Int),
  ∃ (n5 : Int),
  ∃ (n6 : Int),
  ((∀ (w5 : World), h1 w5 → World.cell? w5 (Addr.add a1 (0 : Nat)) = some (Value.int IntKind.i64 n2)) ∧
  (∀ (w6 : World), h1 w6 → World.cell? w6 (Addr.add a1 ((0 : Nat) + (1 : Nat))) = some (Value.int IntKind.i64 n3)) ∧
  (∀ (w7 : World),
  h1 w7 → World.cell? w7 (Addr.add a1 ((0 : Nat) + (1 : Nat) + (1 : Nat))) = some (Value.int IntKind.i64 n4)) ∧
  (∀ (w8 : World),
  h1 w8 →
  World.cell? w8 (Addr.add a1 ((0 : Nat) + (1 : Nat) + (1 : Nat) + (1 : Nat))) = some (Value.int IntKind.i64 n5)) ∧
  ∀ (w9 : World),
  h1 w9 →
  World.cell? w9 (Addr.add a1 ((0 : Nat) + (1 : Nat) + (1 : Nat) + (1 : Nat) + (1 : Nat))) =
  some (Value.int IntKind.i64 n6)) ∧
  ∃ (n7 : Int),
  ∃ (n8 : Int),
  ∃ (n9 : Int),
  ∃ (n10 : Int),
  ∃ (n11 : Int),
  ((∀ (w10 : World), h1 w10 → World.cell? w10 (Addr.add a1 (0 : Nat)) = some (Value.int IntKind.i64 n7)) ∧
  (∀ (w11 : World), h1 w11 → World.cell? w11 (Addr.add a1 ((0 : Nat) + (1 : Nat))) = some (Value.int IntKind.i64 n8)) ∧
  (∀ (w12 : World),
  h1 w12 → World.cell? w12 (Addr.add a1 ((0 : Nat) + (1 : Nat) + (1 : Nat))) = some (Value.int IntKind.i64 n9)) ∧
  (∀ (w13 : World),
  h1 w13 →
  World.cell? w13 (Addr.add a1 ((0 : Nat) + (1 : Nat) + (1 : Nat) + (1 : Nat))) = some (Value.int IntKind.i64 n10)) ∧
  ∀ (w14 : World),
  h1 w14 →
  World.cell? w14 (Addr.add a1 ((0 : Nat) + (1 : Nat) + (1 : Nat) + (1 : Nat) + (1 : Nat))) =
  some (Value.int IntKind.i64 n11)) ∧
  Rets Tryd.prog (10 : Nat)
  {
  toList :=
  [Value.agg
  {
  toList :=
  [Value.int IntKind.i64 n2, Value.int IntKind.i64 n3, Value.int IntKind.i64 n4, Value.int IntKind.i64 n5,
  Value.int IntKind.i64 n6] }] }
  w4 fun (v2 : Value) (w15 : World) =>
  ∃ (n12 : Int),
  ∃ (n13 : Int),
  ∃ (n14 : Int),
  ∃ (n15 : Int),
  ∃ (n16 : Int),
  v2 =
  Value.agg
  {
  toList :=
  [Value.int IntKind.i64 n12, Value.int IntKind.i64 n13, Value.int IntKind.i64 n14, Value.int IntKind.i64 n15,
  Value.int IntKind.i64 n16] } ∧
  h1 w15 ∧ K (Value.bool (n12 == n7 && (n13 == n8 && (n14 == n9 && (n15 == n10 && n16 == n11))))) w15) ∧
  (b1 = false → K (Value.bool false) w4)
theorem prog_Right_eq (k0 k1 k2 k3 k4 : Int) (w : World) (K : Value → World → Prop) : fw Tryd.prog Tryd.f8 (annL []) (ordL [(1, [(0, 0), (1, 1), (2, 2), (3, 0), (4, 1), (6, 1), (5, 2), (7, 0), (8, 0), (9, 0)])]) [.agg #[.int .i64 k0, .int .i64 k1, .int .i64 k2, .int .i64 k3, .int .i64 k4]] w K = prog_Right_m k0 k1 k2 k3 k4 w K := by kernel_rfl
theorem prog_Right_go (k0 k1 k2 k3 k4 : Int) {w : World} {K : Value → World → Prop} (h : prog_Right_m k0 k1 k2 k3 k4 w K) : Rets Tryd.prog 8 #[.agg #[.int .i64 k0, .int .i64 k1, .int .i64 k2, .int .i64 k3, .int .i64 k4]] w K :=
  calls_of_fw plain mixed Tryd.func8 (by kernel_rfl) (by rw [prog_Right_eq]; exact h)
def prog_Writes_m (k0 k1 k2 k3 k4 : Int) (w : World) (K : Value → World → Prop) : Prop :=
  NewR (25 : Nat)
  [Value.int IntKind.i64 k0, Value.int IntKind.i64 k1, Value.int IntKind.i64 k2, Value.int IntKind.i64 k3,
  Value.int IntKind.i64 k4]
  w fun (a1 : Addr) (w1 : World) =>
  ∃ (n1 : Int),
  cellAt w1 (Addr.add a1 (0 : Nat)) (Value.int IntKind.i64 n1) ∧
  ((n1 == (2 : Int)) = true → K (Value.bool true) w1) ∧
  ((n1 == (2 : Int)) = false →
  ((n1 == (3 : Int)) = true → K (Value.bool true) w1) ∧
  ((n1 == (3 : Int)) = false →
  ((n1 == (5 : Int)) = true → K (Value.bool true) w1) ∧
  ((n1 == (5 : Int)) = false →
  ((n1 == (6 : Int)) = true → K (Value.bool true) w1) ∧ ((n1 == (6 : Int)) = false → K (Value.bool false) w1))))
theorem prog_Writes_eq (k0 k1 k2 k3 k4 : Int) (w : World) (K : Value → World → Prop) : fw Tryd.prog Tryd.f12 (annL []) (ordL []) [.agg #[.int .i64 k0, .int .i64 k1, .int .i64 k2, .int .i64 k3, .int .i64 k4]] w K = prog_Writes_m k0 k1 k2 k3 k4 w K := by kernel_rfl
theorem prog_Writes_go (k0 k1 k2 k3 k4 : Int) {w : World} {K : Value → World → Prop} (h : prog_Writes_m k0 k1 k2 k3 k4 w K) : Rets Tryd.prog 12 #[.agg #[.int .i64 k0, .int .i64 k1, .int .i64 k2, .int .i64 k3, .int .i64 k4]] w K :=
  calls_of_fw plain mixed Tryd.func12 (by kernel_rfl) (by rw [prog_Writes_eq]; exact h)
def prog_Fine_1_m (k0 k1 k2 k3 k4 : Int) (w : World) (K : Value → World → Prop) : Prop :=
  NewR (25 : Nat)
  [Value.int IntKind.i64 k0, Value.int IntKind.i64 k1, Value.int IntKind.i64 k2, Value.int IntKind.i64 k3,
  Value.int IntKind.i64 k4]
  w fun (a1 : Addr) (w1 : World) =>
  ∃ (n1 : Int),
  ∃ (n2 : Int),
  ∃ (n3 : Int),
  ∃ (n4 : Int),
  ∃ (n5 : Int),
  (cellAt w1 (Addr.add a1 (0 : Nat)) (Value.int IntKind.i64 n1) ∧
  cellAt w1 (Addr.add a1 (1 : Nat)) (Value.int IntKind.i64 n2) ∧
  cellAt w1 (Addr.add a1 (2 : Nat)) (Value.int IntKind.i64 n3) ∧
  cellAt w1 (Addr.add a1 (3 : Nat)) (Value.int IntKind.i64 n4) ∧
  cellAt w1 (Addr.add a1 (4 : Nat)) (Value.int IntKind.i64 n5)) ∧
  Rets Tryd.prog (8 : Nat)
  {
  toList :=
  [Value.agg
  {
  toList :=
  [Value.int IntKind.i64 n1, Value.int IntKind.i64 n2, Value.int IntKind.i64 n3, Value.int IntKind.i64 n4,
  Value.int IntKind.i64 n5] }] }
  w1 fun (v1 : Value) (w2 : World) => ∃ (b1 : Bool), v1 = Value.bool b1 ∧ K (Value.bool !b1) w2
theorem prog_Fine_1_eq (k0 k1 k2 k3 k4 : Int) (w : World) (K : Value → World → Prop) : fw Tryd.prog Tryd.f41 (annL []) (ordL []) [.agg #[.int .i64 k0, .int .i64 k1, .int .i64 k2, .int .i64 k3, .int .i64 k4]] w K = prog_Fine_1_m k0 k1 k2 k3 k4 w K := by kernel_rfl
theorem prog_Fine_1_go (k0 k1 k2 k3 k4 : Int) {w : World} {K : Value → World → Prop} (h : prog_Fine_1_m k0 k1 k2 k3 k4 w K) : Rets Tryd.prog 41 #[.agg #[.int .i64 k0, .int .i64 k1, .int .i64 k2, .int .i64 k3, .int .i64 k4]] w K :=
  calls_of_fw plain mixed Tryd.func41 (by kernel_rfl) (by rw [prog_Fine_1_eq]; exact h)
def prog_Name_m (k : Int) (w : World) (K : Value → World → Prop) : Prop :=
  Rets Tryd.prog (39 : Nat) { toList := [Value.int IntKind.i64 k] } w fun (v1 : Value) (w1 : World) =>
  ∃ (b1 : Bool),
  v1 = Value.bool b1 ∧
  ((!b1) = true → K (Value.string { data := #[] }) w1) ∧
  ((!b1) = false →
  (0 : Int) ≤ k ∧
  k < (↑(8 : Nat) : Int) ∧
  ∃ (s1 : ByteArray),
  cellAt w1 (Addr.add { block := (0 : Nat), off := (0 : Nat) } (Int.toNat k * (1 : Nat))) (Value.string s1) ∧
  K (Value.string s1) w1)
theorem prog_Name_eq (k : Int) (w : World) (K : Value → World → Prop) : fw Tryd.prog Tryd.f15 (annL []) (ordL []) [.int .i64 k] w K = prog_Name_m k w K := by kernel_rfl
theorem prog_Name_go (k : Int) {w : World} {K : Value → World → Prop} (h : prog_Name_m k w K) : Rets Tryd.prog 15 #[.int .i64 k] w K :=
  calls_of_fw plain mixed Tryd.func15 (by kernel_rfl) (by rw [prog_Name_eq]; exact h)
def ops_Index_m (q : Option Addr) (l c : Nat) (w : World) (K : Value → World → Prop) : Prop :=
  ∃ (h1 : Nat → List Value → World → Prop),
  (∃ (k1 : Nat), h1 k1 [Value.int IntKind.i64 (0 : Int)] w) ∧
  ∀ (k2 : Nat) (w1 : World) (v1 v2 : Value) (n1 : Int) (v3 v4 v5 v6 v7 v8 v9 v10 v11 v12 : Value),
  h1 k2 [Value.int IntKind.i64 n1] w1 →
  (decide (n1 < (↑l : Int)) = true →
  (0 : Int) ≤ n1 ∧
  n1 < (↑l : Int) ∧
  someR q fun (a1 : Addr) =>
  ∃ (n2 : Int),
  ∃ (n3 : Int),
  ∃ (n4 : Int),
  ∃ (n5 : Int),
  ∃ (n6 : Int),
  (cellAt w1 (Addr.add (Addr.add a1 (Int.toNat n1 * (5 : Nat))) (0 : Nat)) (Value.int IntKind.i64 n2) ∧
  cellAt w1 (Addr.add (Addr.add a1 (Int.toNat n1 * (5 : Nat))) (1 : Nat)) (Value.int IntKind.i64 n3) ∧
  cellAt w1 (Addr.add (Addr.add a1 (Int.toNat n1 * (5 : Nat))) (2 : Nat)) (Value.int IntKind.i64 n4) ∧
  cellAt w1 (Addr.add (Addr.add a1 (Int.toNat n1 * (5 : Nat))) (3 : Nat)) (Value.int IntKind.i64 n5) ∧
  cellAt w1 (Addr.add (Addr.add a1 (Int.toNat n1 * (5 : Nat))) (4 : Nat)) (Value.int IntKind.i64 n6)) ∧
  Rets Tryd.prog (41 : Nat)
  {
  toList :=
  [Value.agg
  {
  toList :=
  [Value.int IntKind.i64 n2, Value.int IntKind.i64 n3, Value.int IntKind.i64 n4, Value.int IntKind.i64 n5,
  Value.int IntKind.i64 n6] }] }
  w1 fun (v13 : Value) (w2 : World) =>
  ∃ (b1 : Bool),
  v13 = Value.bool b1 ∧
  (b1 = true → K (Value.int IntKind.i64 n1) w2) ∧
  (b1 = false → ∃ (k3 : Nat), k3 < k2 ∧ h1 k3 [Value.int IntKind.i64 (IntKind.wrap IntKind.i64 (n1 + (1 : Int)))] w2)) ∧
  (decide (n1 < (↑l : Int)) = false → K (Value.int IntKind.i64 (-1 : Int)) w1)
theorem ops_Index_eq (q : Option Addr) (l c : Nat) (w : World) (K : Value → World → Prop) : fw Tryd.prog Tryd.f68 (annL [(1, [(4, none), (5, none), (8, some 3), (9, none), (10, none), (11, none), (12, none), (13, none), (14, none), (15, none), (16, none), (17, none), (18, none)])]) (ordL []) [.slice q l c, .func (.func 41) #[] #[]] w K = ops_Index_m q l c w K := by kernel_rfl
theorem ops_Index_go (q : Option Addr) (l c : Nat) {w : World} {K : Value → World → Prop} (h : ops_Index_m q l c w K) : Rets Tryd.prog 68 #[.slice q l c, .func (.func 41) #[] #[]] w K :=
  calls_of_fw plain mixed Tryd.func68 (by kernel_rfl) (by rw [ops_Index_eq]; exact h)
def ops_Contains_m (q : Option Addr) (l c : Nat) (w : World) (K : Value → World → Prop) : Prop :=
  Rets Tryd.prog (68 : Nat)
  { toList := [Value.slice q l c, Value.func (Fn.func (41 : Nat)) { toList := [] } { toList := [] }] } w
  fun (v1 : Value) (w1 : World) =>
  ∃ (n1 : Int), v1 = Value.int IntKind.i64 n1 ∧ K (Value.bool (decide (n1 ≥ (0 : Int)))) w1
theorem ops_Contains_eq (q : Option Addr) (l c : Nat) (w : World) (K : Value → World → Prop) : fw Tryd.prog Tryd.f42 (annL []) (ordL []) [.slice q l c, .func (.func 41) #[] #[]] w K = ops_Contains_m q l c w K := by kernel_rfl
theorem ops_Contains_go (q : Option Addr) (l c : Nat) {w : World} {K : Value → World → Prop} (h : ops_Contains_m q l c w K) : Rets Tryd.prog 42 #[.slice q l c, .func (.func 41) #[] #[]] w K :=
  calls_of_fw plain mixed Tryd.func42 (by kernel_rfl) (by rw [ops_Contains_eq]; exact h)
def prog_Fine_m (q : Option Addr) (l c : Nat) (w : World) (K : Value → World → Prop) : Prop :=
  (decide ((↑l : Int) ≤ (24 : Int)) = true →
  Rets Tryd.prog (42 : Nat)
  { toList := [Value.slice q l c, Value.func (Fn.func (41 : Nat)) { toList := [] } { toList := [] }] } w
  fun (v1 : Value) (w1 : World) => ∃ (b1 : Bool), v1 = Value.bool b1 ∧ K (Value.bool !b1) w1) ∧
  (decide ((↑l : Int) ≤ (24 : Int)) = false → K (Value.bool false) w)
theorem prog_Fine_eq (q : Option Addr) (l c : Nat) (w : World) (K : Value → World → Prop) : fw Tryd.prog Tryd.f13 (annL []) (ordL []) [.slice q l c] w K = prog_Fine_m q l c w K := by kernel_rfl
theorem prog_Fine_go (q : Option Addr) (l c : Nat) {w : World} {K : Value → World → Prop} (h : prog_Fine_m q l c w K) : Rets Tryd.prog 13 #[.slice q l c] w K :=
  calls_of_fw plain mixed Tryd.func13 (by kernel_rfl) (by rw [prog_Fine_eq]; exact h)
def cortadoref17_Bare_m (k0 k1 k2 k3 k4 : Int) (w : World) (K : Value → World → Prop) : Prop :=
  NewR (25 : Nat)
  [Value.int IntKind.i64 k0, Value.int IntKind.i64 k1, Value.int IntKind.i64 k2, Value.int IntKind.i64 k3,
  Value.int IntKind.i64 k4]
  w fun (a1 : Addr) (w1 : World) =>
  NewR (25 : Nat)
  [Value.int IntKind.i64 (0 : Int), Value.int IntKind.i64 (0 : Int), Value.int IntKind.i64 (0 : Int),
  Value.int IntKind.i64 (0 : Int), Value.int IntKind.i64 (0 : Int)]
  w1 fun (a2 : Addr) (w2 : World) =>
  ∃ (n1 : Int),
  cellAt w2 (Addr.add a1 (0 : Nat)) (Value.int IntKind.i64 n1) ∧
  ((n1 == (1 : Int)) = true →
  ∃ (n2 : Int),
  cellAt w2 (Addr.add a1 (0 : Nat)) (Value.int IntKind.i64 n2) ∧
  ∃ (n3 : Int),
  cellAt w2 (Addr.add a1 (1 : Nat)) (Value.int IntKind.i64 n3) ∧
  StoreR a2
  [Value.int IntKind.i64 n2, Value.int IntKind.i64 n3, Value.int IntKind.i64 (0 : Int), Value.int IntKind.i64 (0 : Int),
  Value.int IntKind.i64 (0 : Int)]
  w2 fun (w3 : World) =>
  ∃ (n4 : Int),
  ∃ (n5 : Int),
  ∃ (n6 : Int),
  ∃ (n7 : Int),
  ∃ (n8 : Int),
  (cellAt w3 (Addr.add a2 (0 : Nat)) (Value.int IntKind.i64 n4) ∧
  cellAt w3 (Addr.add a2 (1 : Nat)) (Value.int IntKind.i64 n5) ∧
  cellAt w3 (Addr.add a2 (2 : Nat)) (Value.int IntKind.i64 n6) ∧
  cellAt w3 (Addr.add a2 (3 : Nat)) (Value.int IntKind.i64 n7) ∧
  cellAt w3 (Addr.add a2 (4 : Nat)) (Value.int IntKind.i64 n8)) ∧
  K
  (Value.agg
  {
  toList :=
  [Value.int IntKind.i64 n4, Value.int IntKind.i64 n5, Value.int IntKind.i64 n6, Value.int IntKind.i64 n7,
  Value.int IntKind.i64 n8] })
  w3) ∧
  ((n1 == (1 : Int)) = false →
  ((n1 == (3 : Int)) = true →
  ∃ (n9 : Int),
  cellAt w2 (Addr.add a1 (0 : Nat)) (Value.int IntKind.i64 n9) ∧
  ∃ (n10 : Int),
  cellAt w2 (Addr.add a1 (1 : Nat)) (Value.int IntKind.i64 n10) ∧
  StoreR a2
  [Value.int IntKind.i64 n9, Value.int IntKind.i64 n10, Value.int IntKind.i64 (0 : Int), Value.int IntKind.i64 (0 : Int),
  Value.int IntKind.i64 (0 : Int)]
  w2 fun (w4 : World) =>
  ∃ (n11 : Int),
  ∃ (n12 : Int),
  ∃ (n13 : Int),
  ∃ (n14 : Int),
  ∃ (n15 : Int),
  (cellAt w4 (Addr.add a2 (0 : Nat)) (Value.int IntKind.i64 n11) ∧
  cellAt w4 (Addr.add a2 (1 : Nat)) (Value.int IntKind.i64 n12) ∧
  cellAt w4 (Addr.add a2 (2 : Nat)) (Value.int IntKind.i64 n13) ∧
  cellAt w4 (Addr.add a2 (3 : Nat)) (Value.int IntKind.i64 n14) ∧
  cellAt w4 (Addr.add a2 (4 : Nat)) (Value.int IntKind.i64 n15)) ∧
  K
  (Value.agg
  {
  toList :=
  [Value.int IntKind.i64 n11, Value.int IntKind.i64 n12, Value.int IntKind.i64 n13, Value.int IntKind.i64 n14,
  Value.int IntKind.i64 n15] })
  w4) ∧
  ((n1 == (3 : Int)) = false →
  ((n1 == (2 : Int)) = true →
  ∃ (n16 : Int),
  ∃ (n17 : Int),
  ∃ (n18 : Int),
  ∃ (n19 : Int),
  ∃ (n20 : Int),
  (cellAt w2 (Addr.add a1 (0 : Nat)) (Value.int IntKind.i64 n16) ∧
  cellAt w2 (Addr.add a1 (1 : Nat)) (Value.int IntKind.i64 n17) ∧
  cellAt w2 (Addr.add a1 (2 : Nat)) (Value.int IntKind.i64 n18) ∧
  cellAt w2 (Addr.add a1 (3 : Nat)) (Value.int IntKind.i64 n19) ∧
  cellAt w2 (Addr.add a1 (4 : Nat)) (Value.int IntKind.i64 n20)) ∧
  StoreR a2
  [Value.int IntKind.i64 n16, Value.int IntKind.i64 n17, Value.int IntKind.i64 n18, Value.int IntKind.i64 n19,
  Value.int IntKind.i64 n20]
  w2 fun (w5 : World) =>
  ∃ (n21 : Int),
  ∃ (n22 : Int),
  ∃ (n23 : Int),
  ∃ (n24 : Int),
  ∃ (n25 : Int),
  (cellAt w5 (Addr.add a2 (0 : Nat)) (Value.int IntKind.i64 n21) ∧
  cellAt w5 (Addr.add a2 (1 : Nat)) (Value.int IntKind.i64 n22) ∧
  cellAt w5 (Addr.add a2 (2 : Nat)) (Value.int IntKind.i64 n23) ∧
  cellAt w5 (Addr.add a2 (3 : Nat)) (Value.int IntKind.i64 n24) ∧
  cellAt w5 (Addr.add a2 (4 : Nat)) (Value.int IntKind.i64 n25)) ∧
  K
  (Value.agg
  {
  toList :=
  [Value.int IntKind.i64 n21, Value.int IntKind.i64 n22, Value.int IntKind.i64 n23, Value.int IntKind.i64 n24,
  Value.int IntKind.i64 n25] })
  w5) ∧
  ((n1 == (2 : Int)) = false →
  ((n1 == (4 : Int)) = true →
  ∃ (n26 : Int),
  cellAt w2 (Addr.add a1 (0 : Nat)) (Value.int IntKind.i64 n26) ∧
  StoreR a2
  [Value.int IntKind.i64 n26, Value.int IntKind.i64 (0 : Int), Value.int IntKind.i64 (0 : Int),
  Value.int IntKind.i64 (0 : Int), Value.int IntKind.i64 (0 : Int)]
  w2 fun (w6 : World) =>
  ∃ (n27 : Int),
  ∃ (n28 : Int),
  ∃ (n29 : Int),
  ∃ (n30 : Int),
  ∃ (n31 : Int),
  (cellAt w6 (Addr.add a2 (0 : Nat)) (Value.int IntKind.i64 n27) ∧
  cellAt w6 (Addr.add a2 (1 : Nat)) (Value.int IntKind.i64 n28) ∧
  cellAt w6 (Addr.add a2 (2 : Nat)) (Value.int IntKind.i64 n29) ∧
  cellAt w6 (Addr.add a2 (3 : Nat)) (Value.int IntKind.i64 n30) ∧
  cellAt w6 (Addr.add a2 (4 : Nat)) (Value.int IntKind.i64 n31)) ∧
  K
  (Value.agg
  {
  toList :=
  [Value.int IntKind.i64 n27, Value.int IntKind.i64 n28, Value.int IntKind.i64 n29, Value.int IntKind.i64 n30,
  Value.int IntKind.i64 n31] })
  w6) ∧
  ((n1 == (4 : Int)) = false →
  ((n1 == (5 : Int)) = true →
  ∃ (n32 : Int),
  cellAt w2 (Addr.add a1 (0 : Nat)) (Value.int IntKind.i64 n32) ∧
  StoreR a2
  [Value.int IntKind.i64 n32, Value.int IntKind.i64 (0 : Int), Value.int IntKind.i64 (0 : Int),
  Value.int IntKind.i64 (0 : Int), Value.int IntKind.i64 (0 : Int)]
  w2 fun (w7 : World) =>
  ∃ (n33 : Int),
  ∃ (n34 : Int),
  ∃ (n35 : Int),
  ∃ (n36 : Int),
  ∃ (n37 : Int),
  (cellAt w7 (Addr.add a2 (0 : Nat)) (Value.int IntKind.i64 n33) ∧
  cellAt w7 (Addr.add a2 (1 : Nat)) (Value.int IntKind.i64 n34) ∧
  cellAt w7 (Addr.add a2 (2 : Nat)) (Value.int IntKind.i64 n35) ∧
  cellAt w7 (Addr.add a2 (3 : Nat)) (Value.int IntKind.i64 n36) ∧
  cellAt w7 (Addr.add a2 (4 : Nat)) (Value.int IntKind.i64 n37)) ∧
  K
  (Value.agg
  {
  toList :=
  [Value.int IntKind.i64 n33, Value.int IntKind.i64 n34, Value.int IntKind.i64 n35, Value.int IntKind.i64 n36,
  Value.int IntKind.i64 n37] })
  w7) ∧
  ((n1 == (5 : Int)) = false →
  ((n1 == (6 : Int)) = true →
  ∃ (n38 : Int),
  cellAt w2 (Addr.add a1 (0 : Nat)) (Value.int IntKind.i64 n38) ∧
  StoreR a2
  [Value.int IntKind.i64 n38, Value.int IntKind.i64 (0 : Int), Value.int IntKind.i64 (0 : Int),
  Value.int IntKind.i64 (0 : Int), Value.int IntKind.i64 (0 : Int)]
  w2 fun (w8 : World) =>
  ∃ (n39 : Int),
  ∃ (n40 : Int),
  ∃ (n41 : Int),
  ∃ (n42 : Int),
  ∃ (n43 : Int),
  (cellAt w8 (Addr.add a2 (0 : Nat)) (Value.int IntKind.i64 n39) ∧
  cellAt w8 (Addr.add a2 (1 : Nat)) (Value.int IntKind.i64 n40) ∧
  cellAt w8 (Addr.add a2 (2 : Nat)) (Value.int IntKind.i64 n41) ∧
  cellAt w8 (Addr.add a2 (3 : Nat)) (Value.int IntKind.i64 n42) ∧
  cellAt w8 (Addr.add a2 (4 : Nat)) (Value.int IntKind.i64 n43)) ∧
  K
  (Value.agg
  {
  toList :=
  [Value.int IntKind.i64 n39, Value.int IntKind.i64 n40, Value.int IntKind.i64 n41, Value.int IntKind.i64 n42,
  Value.int IntKind.i64 n43] })
  w8) ∧
  ((n1 == (6 : Int)) = false →
  ((n1 == (7 : Int)) = true →
  ∃ (n44 : Int),
  cellAt w2 (Addr.add a1 (3 : Nat)) (Value.int IntKind.i64 n44) ∧
  StoreR a2
  [Value.int IntKind.i64 (7 : Int), Value.int IntKind.i64 (0 : Int), Value.int IntKind.i64 (0 : Int),
  Value.int IntKind.i64 n44, Value.int IntKind.i64 (0 : Int)]
  w2 fun (w9 : World) =>
  ∃ (n45 : Int),
  ∃ (n46 : Int),
  ∃ (n47 : Int),
  ∃ (n48 : Int),
  ∃ (n49 : Int),
  (cellAt w9 (Addr.add a2 (0 : Nat)) (Value.int IntKind.i64 n45) ∧
  cellAt w9 (Addr.add a2 (1 : Nat)) (Value.int IntKind.i64 n46) ∧
  cellAt w9 (Addr.add a2 (2 : Nat)) (Value.int IntKind.i64 n47) ∧
  cellAt w9 (Addr.add a2 (3 : Nat)) (Value.int IntKind.i64 n48) ∧
  cellAt w9 (Addr.add a2 (4 : Nat)) (Value.int IntKind.i64 n49)) ∧
  K
  (Value.agg
  {
  toList :=
  [Value.int IntKind.i64 n45, Value.int IntKind.i64 n46, Value.int IntKind.i64 n47, Value.int IntKind.i64 n48,
  Value.int IntKind.i64 n49] })
  w9) ∧
  ((n1 == (7 : Int)) = false →
  StoreR a2
  [Value.int IntKind.i64 (0 : Int), Value.int IntKind.i64 (0 : Int), Value.int IntKind.i64 (0 : Int),
  Value.int IntKind.i64 (0 : Int), Value.int IntKind.i64 (0 : Int)]
  w2 fun (w10 : World) =>
  ∃ (n50 : Int),
  ∃ (n51 : Int),
  ∃ (n52 : Int),
  ∃ (n53 : Int),
  ∃ (n54 : Int),
  (cellAt w10 (Addr.add a2 (0 : Nat)) (Value.int IntKind.i64 n50) ∧
  cellAt w10 (Addr.add a2 (1 : Nat)) (Value.int IntKind.i64 n51) ∧
  cellAt w10 (Addr.add a2 (2 : Nat)) (Value.int IntKind.i64 n52) ∧
  cellAt w10 (Addr.add a2 (3 : Nat)) (Value.int IntKind.i64 n53) ∧
  cellAt w10 (Addr.add a2 (4 : Nat)) (Value.int IntKind.i64 n54)) ∧
  K
  (Value.agg
  {
  toList :=
  [Value.int IntKind.i64 n50, Value.int IntKind.i64 n51, Value.int IntKind.i64 n52, Value.int IntKind.i64 n53,
  Value.int IntKind.i64 n54] })
  w10)))))))
theorem cortadoref17_Bare_eq (k0 k1 k2 k3 k4 : Int) (w : World) (K : Value → World → Prop) : fw Tryd.prog Tryd.f11 (annL []) (ordL []) [.agg #[.int .i64 k0, .int .i64 k1, .int .i64 k2, .int .i64 k3, .int .i64 k4]] w K = cortadoref17_Bare_m k0 k1 k2 k3 k4 w K := by kernel_rfl
theorem cortadoref17_Bare_go (k0 k1 k2 k3 k4 : Int) {w : World} {K : Value → World → Prop} (h : cortadoref17_Bare_m k0 k1 k2 k3 k4 w K) : Rets Tryd.prog 11 #[.agg #[.int .i64 k0, .int .i64 k1, .int .i64 k2, .int .i64 k3, .int .i64 k4]] w K :=
  calls_of_fw plain mixed Tryd.func11 (by kernel_rfl) (by rw [cortadoref17_Bare_eq]; exact h)
def cortadoref17_Right_m (k0 k1 k2 k3 k4 : Int) (w : World) (K : Value → World → Prop) : Prop :=
  NewR (25 : Nat)
  [Value.int IntKind.i64 k0, Value.int IntKind.i64 k1, Value.int IntKind.i64 k2, Value.int IntKind.i64 k3,
  Value.int IntKind.i64 k4]
  w fun (a1 : Addr) (w1 : World) =>
  Drw w1 fun (w2 : World) =>
  ∃ (h1 : World → Prop),
  h1 w2 ∧
  ∃ (n1 : Int),
  (∀ (w3 : World), h1 w3 → World.cell? w3 (Addr.add a1 (0 : Nat)) = some (Value.int IntKind.i64 n1)) ∧
  (decide (n1 ≥ (0 : Int)) = true →
  ∃ (n2 : Int),
  (∀ (w4 : World), h1 w4 → World.cell? w4 (Addr.add a1 (0 : Nat)) = some (Value.int IntKind.i64 n2)) ∧
  (decide (n2 ≤ (7 : Int)) = true →
  ∃ (n3 : Int),
  ∃ (n4 : Int),
  ∃ (n5 : Int),
  ∃ (n6 : Int),
  ∃ (n7 : Int),
  ((∀ (w5 : World), h1 w5 → World.cell? w5 (Addr.add a1 (0 : Nat)) = some (Value.int IntKind.i64 n3)) ∧
  (∀ (w6 : World), h1 w6 → World.cell? w6 (Addr.add a1 ((0 : Nat) + (1 : Nat))) = some (Value.int IntKind.i64 n4)) ∧
  (∀ (w7 : World),
  h1 w7 → World.cell? w7 (Addr.add a1 ((0 : Nat) + (1 : Nat) + (1 : Nat))) = some (Value.int IntKind.i64 n5)) ∧
  (∀ (w8 : World),
  h1 w8 →
  World.cell? w8 (Addr.add a1 ((0 : Nat) + (1 : Nat) + (1 : Nat) + (1 : Nat))) = some (Value.int IntKind.i64 n6)) ∧
  ∀ (w9 : World),
  h1 w9 →
  World.cell? w9 (Addr.add a1 ((0 : Nat) + (1 : Nat) + (1 : Nat) + (1 : Nat) + (1 : Nat))) =
  some (Value.int IntKind.i64 n7)) ∧
  ∃ (n8 : Int),
  ∃ (n9 : Int),
  ∃ (n10 : Int),
  ∃ (n11 : Int),
  ∃ (n12 : Int),
  ((∀ (w10 : World), h1 w10 → World.cell? w10 (Addr.add a1 (0 : Nat)) = some (Value.int IntKind.i64 n8)) ∧
  (∀ (w11 : World), h1 w11 → World.cell? w11 (Addr.add a1 ((0 : Nat) + (1 : Nat))) = some (Value.int IntKind.i64 n9)) ∧
  (∀ (w12 : World),
  h1 w12 → World.cell? w12 (Addr.add a1 ((0 : Nat) + (1 : Nat) + (1 : Nat))) = some (Value.int IntKind.i64 n10)) ∧
  (∀ (w13 : World),
  h1 w13 →
  World.cell? w13 (Addr.add a1 ((0 : Nat) + (1 : Nat) + (1 : Nat) + (1 : Nat))) = some (Value.int IntKind.i64 n11)) ∧
  ∀ (w14 : World),
  h1 w14 →
  World.cell? w14 (Addr.add a1 ((0 : Nat) + (1 : Nat) + (1 : Nat) + (1 : Nat) + (1 : Nat))) =
  some (Value.int IntKind.i64 n12)) ∧
  Rets Tryd.prog (11 : Nat)
  {
  toList :=
  [Value.agg
  {
  toList :=
  [Value.int IntKind.i64 n3, Value.int IntKind.i64 n4, Value.int IntKind.i64 n5, Value.int IntKind.i64 n6,
  Value.int IntKind.i64 n7] }] }
  w2 fun (v1 : Value) (w15 : World) =>
  ∃ (n13 : Int),
  ∃ (n14 : Int),
  ∃ (n15 : Int),
  ∃ (n16 : Int),
  ∃ (n17 : Int),
  v1 =
  Value.agg
  {
  toList :=
  [Value.int IntKind.i64 n13, Value.int IntKind.i64 n14, Value.int IntKind.i64 n15, Value.int IntKind.i64 n16,
  Value.int IntKind.i64 n17] } ∧
  h1 w15 ∧ K (Value.bool (n13 == n8 && (n14 == n9 && (n15 == n10 && (n16 == n11 && n17 == n12))))) w15) ∧
  (decide (n2 ≤ (7 : Int)) = false → K (Value.bool false) w2)) ∧
  (decide (n1 ≥ (0 : Int)) = false → K (Value.bool false) w2)
theorem cortadoref17_Right_eq (k0 k1 k2 k3 k4 : Int) (w : World) (K : Value → World → Prop) : fw Tryd.prog Tryd.f9 (annL []) (ordL [(1, [(0, 0), (1, 1), (2, 0), (3, 0), (4, 0), (5, 1), (6, 0), (7, 0), (8, 0), (9, 1), (11, 1), (10, 2), (12, 0), (13, 0), (14, 0)])]) [.agg #[.int .i64 k0, .int .i64 k1, .int .i64 k2, .int .i64 k3, .int .i64 k4]] w K = cortadoref17_Right_m k0 k1 k2 k3 k4 w K := by kernel_rfl
theorem cortadoref17_Right_go (k0 k1 k2 k3 k4 : Int) {w : World} {K : Value → World → Prop} (h : cortadoref17_Right_m k0 k1 k2 k3 k4 w K) : Rets Tryd.prog 9 #[.agg #[.int .i64 k0, .int .i64 k1, .int .i64 k2, .int .i64 k3, .int .i64 k4]] w K :=
  calls_of_fw plain mixed Tryd.func9 (by kernel_rfl) (by rw [cortadoref17_Right_eq]; exact h)
def cortadoref17_Fine_m (q : Option Addr) (l c : Nat) (w : World) (K : Value → World → Prop) : Prop :=
  ∃ (h1 : Nat → List Value → World → Prop),
  (∃ (k1 : Nat), h1 k1 [Value.int IntKind.i64 (0 : Int)] w) ∧
  ∀ (k2 : Nat) (w1 : World) (v1 : Value) (n1 : Int) (v2 v3 v4 v5 v6 v7 v8 v9 v10 v11 v12 v13 v14 v15 v16 v17 : Value),
  h1 k2 [Value.int IntKind.i64 n1] w1 →
  (decide (n1 < (↑l : Int)) = true →
  (decide (n1 < (25 : Int)) = true →
  (0 : Int) ≤ n1 ∧
  n1 < (↑l : Int) ∧
  someR q fun (a1 : Addr) =>
  ∃ (n2 : Int),
  ∃ (n3 : Int),
  ∃ (n4 : Int),
  ∃ (n5 : Int),
  ∃ (n6 : Int),
  (cellAt w1 (Addr.add (Addr.add a1 (Int.toNat n1 * (5 : Nat))) (0 : Nat)) (Value.int IntKind.i64 n2) ∧
  cellAt w1 (Addr.add (Addr.add a1 (Int.toNat n1 * (5 : Nat))) (1 : Nat)) (Value.int IntKind.i64 n3) ∧
  cellAt w1 (Addr.add (Addr.add a1 (Int.toNat n1 * (5 : Nat))) (2 : Nat)) (Value.int IntKind.i64 n4) ∧
  cellAt w1 (Addr.add (Addr.add a1 (Int.toNat n1 * (5 : Nat))) (3 : Nat)) (Value.int IntKind.i64 n5) ∧
  cellAt w1 (Addr.add (Addr.add a1 (Int.toNat n1 * (5 : Nat))) (4 : Nat)) (Value.int IntKind.i64 n6)) ∧
  Rets Tryd.prog (9 : Nat)
  {
  toList :=
  [Value.agg
  {
  toList :=
  [Value.int IntKind.i64 n2, Value.int IntKind.i64 n3, Value.int IntKind.i64 n4, Value.int IntKind.i64 n5,
  Value.int IntKind.i64 n6] }] }
  w1 fun (v18 : Value) (w2 : World) =>
  ∃ (b1 : Bool),
  v18 = Value.bool b1 ∧
  ((!b1) = true → K (Value.bool false) w2) ∧
  ((!b1) = false →
  ∃ (k3 : Nat), k3 < k2 ∧ h1 k3 [Value.int IntKind.i64 (IntKind.wrap IntKind.i64 (n1 + (1 : Int)))] w2)) ∧
  (decide (n1 < (25 : Int)) = false → K (Value.bool (decide ((↑l : Int) ≤ (24 : Int)))) w1)) ∧
  (decide (n1 < (↑l : Int)) = false → K (Value.bool (decide ((↑l : Int) ≤ (24 : Int)))) w1)
theorem cortadoref17_Fine_eq (q : Option Addr) (l c : Nat) (w : World) (K : Value → World → Prop) : fw Tryd.prog Tryd.f14 (annL [(1, [(2, none), (3, some 3), (4, none), (5, none), (6, none), (7, none), (8, none), (9, none), (10, none), (11, none), (12, none), (13, none), (14, none), (15, none), (16, none), (17, none), (18, none), (19, none)])]) (ordL []) [.slice q l c] w K = cortadoref17_Fine_m q l c w K := by kernel_rfl
theorem cortadoref17_Fine_go (q : Option Addr) (l c : Nat) {w : World} {K : Value → World → Prop} (h : cortadoref17_Fine_m q l c w K) : Rets Tryd.prog 14 #[.slice q l c] w K :=
  calls_of_fw plain mixed Tryd.func14 (by kernel_rfl) (by rw [cortadoref17_Fine_eq]; exact h)
def cortadolaw17_ProgRight_m (q : Option Addr) (l c : Nat) (k : Int) (w : World) (K : Value → World → Prop) : Prop :=
  (decide ((↑l : Int) > (40 : Int)) = true →
  Rets Tryd.prog (7 : Nat) { toList := [] } w fun (v1 : Value) (w1 : World) =>
  ∃ (b1 : Bool), v1 = Value.bool b1 ∧ K (Value.bool b1) w1) ∧
  (decide ((↑l : Int) > (40 : Int)) = false →
  ∃ (h1 : Nat → List Value → World → Prop),
  (∃ (k1 : Nat), h1 k1 [Value.int IntKind.i64 (0 : Int)] w) ∧
  ∀ (k2 : Nat) (w2 : World) (v2 : Value) (n1 : Int)
  (v3 v4 v5 v6 v7 v8 v9 v10 v11 v12 v13 v14 v15 v16 v17 v18 v19 v20 v21 v22 v23 v24 v25 v26 v27 v28 v29 v30 v31 v32 v33
  v34 v35 v36 v37 v38 v39 v40 v41 v42 v43 v44 v45 v46 v47 v48 v49 v50 v51 v52 v53 v54 v55 v56 v57 v58 v59 v60 v61 v62 v63
  v64 v65 v66 v67 v68 v69 v70 v71 v72 v73 v74 v75 v76 v77 v78 v79 v80 v81 : Value),
  h1 k2 [Value.int IntKind.i64 n1] w2 →
  (decide (n1 < (↑l : Int)) = true →
  (0 : Int) ≤ n1 ∧
  n1 < (↑l : Int) ∧
  someR q fun (a1 : Addr) =>
  ∃ (n2 : Int),
  cellAt w2 (Addr.add (Addr.add a1 (Int.toNat n1 * (5 : Nat))) (0 : Nat)) (Value.int IntKind.i64 n2) ∧
  ((n2 == (2 : Int)) = false →
  (0 : Int) ≤ n1 ∧
  n1 < (↑l : Int) ∧
  someR q fun (a2 : Addr) =>
  ∃ (n3 : Int),
  cellAt w2 (Addr.add (Addr.add a2 (Int.toNat n1 * (5 : Nat))) (0 : Nat)) (Value.int IntKind.i64 n3) ∧
  ((n3 == (3 : Int)) = false →
  (0 : Int) ≤ n1 ∧
  n1 < (↑l : Int) ∧
  someR q fun (a3 : Addr) =>
  ∃ (n4 : Int),
  cellAt w2 (Addr.add (Addr.add a3 (Int.toNat n1 * (5 : Nat))) (0 : Nat)) (Value.int IntKind.i64 n4) ∧
  ((n4 == (5 : Int)) = false →
  (0 : Int) ≤ n1 ∧
  n1 < (↑l : Int) ∧
  someR q fun (a4 : Addr) =>
  ∃ (n5 : Int),
  cellAt w2 (Addr.add (Addr.add a4 (Int.toNat n1 * (5 : Nat))) (0 : Nat)) (Value.int IntKind.i64 n5) ∧
  Drw w2 fun (w3 : World) =>
  ∃ (h2 : World → Prop),
  h2 w3 ∧
  (0 : Int) ≤ n1 ∧
  n1 < (↑l : Int) ∧
  someR q fun (a5 : Addr) =>
  (0 : Int) ≤ n1 ∧
  n1 < (↑l : Int) ∧
  someR q fun (a6 : Addr) =>
  ∃ (n6 : Int),
  ∃ (n7 : Int),
  ∃ (n8 : Int),
  ∃ (n9 : Int),
  ∃ (n10 : Int),
  ((∀ (w4 : World),
  h2 w4 →
  World.cell? w4 (Addr.add (Addr.add a5 (Int.toNat n1 * (5 : Nat))) (0 : Nat)) = some (Value.int IntKind.i64 n6)) ∧
  (∀ (w5 : World),
  h2 w5 →
  World.cell? w5 (Addr.add (Addr.add a5 (Int.toNat n1 * (5 : Nat))) ((0 : Nat) + (1 : Nat))) =
  some (Value.int IntKind.i64 n7)) ∧
  (∀ (w6 : World),
  h2 w6 →
  World.cell? w6 (Addr.add (Addr.add a5 (Int.toNat n1 * (5 : Nat))) ((0 : Nat) + (1 : Nat) + (1 : Nat))) =
  some (Value.int IntKind.i64 n8)) ∧
  (∀ (w7 : World),
  h2 w7 →
  World.cell? w7 (Addr.add (Addr.add a5 (Int.toNat n1 * (5 : Nat))) ((0 : Nat) + (1 : Nat) + (1 : Nat) + (1 : Nat))) =
  some (Value.int IntKind.i64 n9)) ∧
  ∀ (w8 : World),
  h2 w8 →
  World.cell? w8
  (Addr.add (Addr.add a5 (Int.toNat n1 * (5 : Nat))) ((0 : Nat) + (1 : Nat) + (1 : Nat) + (1 : Nat) + (1 : Nat))) =
  some (Value.int IntKind.i64 n10)) ∧
  ∃ (n11 : Int),
  ∃ (n12 : Int),
  ∃ (n13 : Int),
  ∃ (n14 : Int),
  ∃ (n15 : Int),
  ((∀ (w9 : World),
  h2 w9 →
  World.cell? w9 (Addr.add (Addr.add a6 (Int.toNat n1 * (5 : Nat))) (0 : Nat)) = some (Value.int IntKind.i64 n11)) ∧
  (∀ (w10 : World),
  h2 w10 →
  World.cell? w10 (Addr.add (Addr.add a6 (Int.toNat n1 * (5 : Nat))) ((0 : Nat) + (1 : Nat))) =
  some (Value.int IntKind.i64 n12)) ∧
  (∀ (w11 : World),
  h2 w11 →
  World.cell? w11 (Addr.add (Addr.add a6 (Int.toNat n1 * (5 : Nat))) ((0 : Nat) + (1 : Nat) + (1 : Nat))) =
  some (Value.int IntKind.i64 n13)) ∧
  (∀ (w12 : World),
  h2 w12 →
  World.cell? w12 (Addr.add (Addr.add a6 (Int.toNat n1 * (5 : Nat))) ((0 : Nat) + (1 : Nat) + (1 : Nat) + (1 : Nat))) =
  some (Value.int IntKind.i64 n14)) ∧
  ∀ (w13 : World),
  h2 w13 →
  World.cell? w13
  (Addr.add (Addr.add a6 (Int.toNat n1 * (5 : Nat))) ((0 : Nat) + (1 : Nat) + (1 : Nat) + (1 : Nat) + (1 : Nat))) =
  some (Value.int IntKind.i64 n15)) ∧
  Rets Tryd.prog (8 : Nat)
  {
  toList :=
  [Value.agg
  {
  toList :=
  [Value.int IntKind.i64 n6, Value.int IntKind.i64 n7, Value.int IntKind.i64 n8, Value.int IntKind.i64 n9,
  Value.int IntKind.i64 n10] }] }
  w3 fun (v82 : Value) (w14 : World) =>
  ∃ (b2 : Bool),
  v82 = Value.bool b2 ∧
  h2 w14 ∧
  Rets Tryd.prog (9 : Nat)
  {
  toList :=
  [Value.agg
  {
  toList :=
  [Value.int IntKind.i64 n11, Value.int IntKind.i64 n12, Value.int IntKind.i64 n13, Value.int IntKind.i64 n14,
  Value.int IntKind.i64 n15] }] }
  w14 fun (v83 : Value) (w15 : World) =>
  ∃ (b3 : Bool),
  v83 = Value.bool b3 ∧
  h2 w15 ∧
  ((!b2 == b3) = false →
  (0 : Int) ≤ n1 ∧
  n1 < (↑l : Int) ∧
  someR q fun (a7 : Addr) =>
  (0 : Int) ≤ n1 ∧
  n1 < (↑l : Int) ∧
  someR q fun (a8 : Addr) =>
  ∃ (n16 : Int),
  ∃ (n17 : Int),
  ∃ (n18 : Int),
  ∃ (n19 : Int),
  ∃ (n20 : Int),
  ((∀ (w16 : World),
  h2 w16 →
  World.cell? w16 (Addr.add (Addr.add a7 (Int.toNat n1 * (5 : Nat))) (0 : Nat)) = some (Value.int IntKind.i64 n16)) ∧
  (∀ (w17 : World),
  h2 w17 →
  World.cell? w17 (Addr.add (Addr.add a7 (Int.toNat n1 * (5 : Nat))) ((0 : Nat) + (1 : Nat))) =
  some (Value.int IntKind.i64 n17)) ∧
  (∀ (w18 : World),
  h2 w18 →
  World.cell? w18 (Addr.add (Addr.add a7 (Int.toNat n1 * (5 : Nat))) ((0 : Nat) + (1 : Nat) + (1 : Nat))) =
  some (Value.int IntKind.i64 n18)) ∧
  (∀ (w19 : World),
  h2 w19 →
  World.cell? w19 (Addr.add (Addr.add a7 (Int.toNat n1 * (5 : Nat))) ((0 : Nat) + (1 : Nat) + (1 : Nat) + (1 : Nat))) =
  some (Value.int IntKind.i64 n19)) ∧
  ∀ (w20 : World),
  h2 w20 →
  World.cell? w20
  (Addr.add (Addr.add a7 (Int.toNat n1 * (5 : Nat))) ((0 : Nat) + (1 : Nat) + (1 : Nat) + (1 : Nat) + (1 : Nat))) =
  some (Value.int IntKind.i64 n20)) ∧
  ∃ (n21 : Int),
  ∃ (n22 : Int),
  ∃ (n23 : Int),
  ∃ (n24 : Int),
  ∃ (n25 : Int),
  ((∀ (w21 : World),
  h2 w21 →
  World.cell? w21 (Addr.add (Addr.add a8 (Int.toNat n1 * (5 : Nat))) (0 : Nat)) = some (Value.int IntKind.i64 n21)) ∧
  (∀ (w22 : World),
  h2 w22 →
  World.cell? w22 (Addr.add (Addr.add a8 (Int.toNat n1 * (5 : Nat))) ((0 : Nat) + (1 : Nat))) =
  some (Value.int IntKind.i64 n22)) ∧
  (∀ (w23 : World),
  h2 w23 →
  World.cell? w23 (Addr.add (Addr.add a8 (Int.toNat n1 * (5 : Nat))) ((0 : Nat) + (1 : Nat) + (1 : Nat))) =
  some (Value.int IntKind.i64 n23)) ∧
  (∀ (w24 : World),
  h2 w24 →
  World.cell? w24 (Addr.add (Addr.add a8 (Int.toNat n1 * (5 : Nat))) ((0 : Nat) + (1 : Nat) + (1 : Nat) + (1 : Nat))) =
  some (Value.int IntKind.i64 n24)) ∧
  ∀ (w25 : World),
  h2 w25 →
  World.cell? w25
  (Addr.add (Addr.add a8 (Int.toNat n1 * (5 : Nat))) ((0 : Nat) + (1 : Nat) + (1 : Nat) + (1 : Nat) + (1 : Nat))) =
  some (Value.int IntKind.i64 n25)) ∧
  Rets Tryd.prog (10 : Nat)
  {
  toList :=
  [Value.agg
  {
  toList :=
  [Value.int IntKind.i64 n16, Value.int IntKind.i64 n17, Value.int IntKind.i64 n18, Value.int IntKind.i64 n19,
  Value.int IntKind.i64 n20] }] }
  w15 fun (v84 : Value) (w26 : World) =>
  ∃ (n26 : Int),
  ∃ (n27 : Int),
  ∃ (n28 : Int),
  ∃ (n29 : Int),
  ∃ (n30 : Int),
  v84 =
  Value.agg
  {
  toList :=
  [Value.int IntKind.i64 n26, Value.int IntKind.i64 n27, Value.int IntKind.i64 n28, Value.int IntKind.i64 n29,
  Value.int IntKind.i64 n30] } ∧
  h2 w26 ∧
  Rets Tryd.prog (11 : Nat)
  {
  toList :=
  [Value.agg
  {
  toList :=
  [Value.int IntKind.i64 n21, Value.int IntKind.i64 n22, Value.int IntKind.i64 n23, Value.int IntKind.i64 n24,
  Value.int IntKind.i64 n25] }] }
  w26 fun (v85 : Value) (w27 : World) =>
  ∃ (n31 : Int),
  ∃ (n32 : Int),
  ∃ (n33 : Int),
  ∃ (n34 : Int),
  ∃ (n35 : Int),
  v85 =
  Value.agg
  {
  toList :=
  [Value.int IntKind.i64 n31, Value.int IntKind.i64 n32, Value.int IntKind.i64 n33, Value.int IntKind.i64 n34,
  Value.int IntKind.i64 n35] } ∧
  h2 w27 ∧
  ((!(n26 == n31 && (n27 == n32 && (n28 == n33 && (n29 == n34 && n30 == n35))))) = false →
  (0 : Int) ≤ n1 ∧
  n1 < (↑l : Int) ∧
  someR q fun (a9 : Addr) =>
  ∃ (n36 : Int),
  ∃ (n37 : Int),
  ∃ (n38 : Int),
  ∃ (n39 : Int),
  ∃ (n40 : Int),
  ((∀ (w28 : World),
  h2 w28 →
  World.cell? w28 (Addr.add (Addr.add a9 (Int.toNat n1 * (5 : Nat))) (0 : Nat)) = some (Value.int IntKind.i64 n36)) ∧
  (∀ (w29 : World),
  h2 w29 →
  World.cell? w29 (Addr.add (Addr.add a9 (Int.toNat n1 * (5 : Nat))) ((0 : Nat) + (1 : Nat))) =
  some (Value.int IntKind.i64 n37)) ∧
  (∀ (w30 : World),
  h2 w30 →
  World.cell? w30 (Addr.add (Addr.add a9 (Int.toNat n1 * (5 : Nat))) ((0 : Nat) + (1 : Nat) + (1 : Nat))) =
  some (Value.int IntKind.i64 n38)) ∧
  (∀ (w31 : World),
  h2 w31 →
  World.cell? w31 (Addr.add (Addr.add a9 (Int.toNat n1 * (5 : Nat))) ((0 : Nat) + (1 : Nat) + (1 : Nat) + (1 : Nat))) =
  some (Value.int IntKind.i64 n39)) ∧
  ∀ (w32 : World),
  h2 w32 →
  World.cell? w32
  (Addr.add (Addr.add a9 (Int.toNat n1 * (5 : Nat))) ((0 : Nat) + (1 : Nat) + (1 : Nat) + (1 : Nat) + (1 : Nat))) =
  some (Value.int IntKind.i64 n40)) ∧
  Rets Tryd.prog (12 : Nat)
  {
  toList :=
  [Value.agg
  {
  toList :=
  [Value.int IntKind.i64 n36, Value.int IntKind.i64 n37, Value.int IntKind.i64 n38, Value.int IntKind.i64 n39,
  Value.int IntKind.i64 n40] }] }
  w27 fun (v86 : Value) (w33 : World) =>
  ∃ (b4 : Bool),
  v86 = Value.bool b4 ∧
  h2 w33 ∧
  ((!b4 == (n5 == (6 : Int))) = false →
  (0 : Int) ≤ n1 ∧
  n1 < (↑l : Int) ∧
  someR q fun (a10 : Addr) =>
  ∃ (n41 : Int),
  ∃ (n42 : Int),
  ∃ (n43 : Int),
  ∃ (n44 : Int),
  ∃ (n45 : Int),
  ((∀ (w34 : World),
  h2 w34 →
  World.cell? w34 (Addr.add (Addr.add a10 (Int.toNat n1 * (5 : Nat))) (0 : Nat)) = some (Value.int IntKind.i64 n41)) ∧
  (∀ (w35 : World),
  h2 w35 →
  World.cell? w35 (Addr.add (Addr.add a10 (Int.toNat n1 * (5 : Nat))) ((0 : Nat) + (1 : Nat))) =
  some (Value.int IntKind.i64 n42)) ∧
  (∀ (w36 : World),
  h2 w36 →
  World.cell? w36 (Addr.add (Addr.add a10 (Int.toNat n1 * (5 : Nat))) ((0 : Nat) + (1 : Nat) + (1 : Nat))) =
  some (Value.int IntKind.i64 n43)) ∧
  (∀ (w37 : World),
  h2 w37 →
  World.cell? w37 (Addr.add (Addr.add a10 (Int.toNat n1 * (5 : Nat))) ((0 : Nat) + (1 : Nat) + (1 : Nat) + (1 : Nat))) =
  some (Value.int IntKind.i64 n44)) ∧
  ∀ (w38 : World),
  h2 w38 →
  World.cell? w38
  (Addr.add (Addr.add a10 (Int.toNat n1 * (5 : Nat))) ((0 : Nat) + (1 : Nat) + (1 : Nat) + (1 : Nat) + (1 : Nat))) =
  some (Value.int IntKind.i64 n45)) ∧
  Rets Tryd.prog (10 : Nat)
  {
  toList :=
  [Value.agg
  {
  toList :=
  [Value.int IntKind.i64 n41, Value.int IntKind.i64 n42, Value.int IntKind.i64 n43, Value.int IntKind.i64 n44,
  Value.int IntKind.i64 n45] }] }
  w33 fun (v87 : Value) (w39 : World) =>
  ∃ (n46 : Int),
  ∃ (n47 : Int),
  ∃ (n48 : Int),
  ∃ (n49 : Int),
  ∃ (n50 : Int),
  v87 =
  Value.agg
  {
  toList :=
  [Value.int IntKind.i64 n46, Value.int IntKind.i64 n47, Value.int IntKind.i64 n48, Value.int IntKind.i64 n49,
  Value.int IntKind.i64 n50] } ∧
  Rets Tryd.prog (8 : Nat)
  {
  toList :=
  [Value.agg
  {
  toList :=
  [Value.int IntKind.i64 n46, Value.int IntKind.i64 n47, Value.int IntKind.i64 n48, Value.int IntKind.i64 n49,
  Value.int IntKind.i64 n50] }] }
  w39 fun (v88 : Value) (w40 : World) =>
  ∃ (b5 : Bool),
  v88 = Value.bool b5 ∧
  ((!b5) = true → K (Value.bool false) w40) ∧
  ((!b5) = false →
  ∃ (k3 : Nat), k3 < k2 ∧ h1 k3 [Value.int IntKind.i64 (IntKind.wrap IntKind.i64 (n1 + (1 : Int)))] w40)) ∧
  ((!b4 == (n5 == (6 : Int))) = true → K (Value.bool false) w33)) ∧
  ((!(n26 == n31 && (n27 == n32 && (n28 == n33 && (n29 == n34 && n30 == n35))))) = true → K (Value.bool false) w27)) ∧
  ((!b2 == b3) = true → K (Value.bool false) w15)) ∧
  ((n4 == (5 : Int)) = true →
  Drw w2 fun (w41 : World) =>
  ∃ (h3 : World → Prop),
  h3 w41 ∧
  (0 : Int) ≤ n1 ∧
  n1 < (↑l : Int) ∧
  someR q fun (a11 : Addr) =>
  (0 : Int) ≤ n1 ∧
  n1 < (↑l : Int) ∧
  someR q fun (a12 : Addr) =>
  ∃ (n51 : Int),
  ∃ (n52 : Int),
  ∃ (n53 : Int),
  ∃ (n54 : Int),
  ∃ (n55 : Int),
  ((∀ (w42 : World),
  h3 w42 →
  World.cell? w42 (Addr.add (Addr.add a11 (Int.toNat n1 * (5 : Nat))) (0 : Nat)) = some (Value.int IntKind.i64 n51)) ∧
  (∀ (w43 : World),
  h3 w43 →
  World.cell? w43 (Addr.add (Addr.add a11 (Int.toNat n1 * (5 : Nat))) ((0 : Nat) + (1 : Nat))) =
  some (Value.int IntKind.i64 n52)) ∧
  (∀ (w44 : World),
  h3 w44 →
  World.cell? w44 (Addr.add (Addr.add a11 (Int.toNat n1 * (5 : Nat))) ((0 : Nat) + (1 : Nat) + (1 : Nat))) =
  some (Value.int IntKind.i64 n53)) ∧
  (∀ (w45 : World),
  h3 w45 →
  World.cell? w45 (Addr.add (Addr.add a11 (Int.toNat n1 * (5 : Nat))) ((0 : Nat) + (1 : Nat) + (1 : Nat) + (1 : Nat))) =
  some (Value.int IntKind.i64 n54)) ∧
  ∀ (w46 : World),
  h3 w46 →
  World.cell? w46
  (Addr.add (Addr.add a11 (Int.toNat n1 * (5 : Nat))) ((0 : Nat) + (1 : Nat) + (1 : Nat) + (1 : Nat) + (1 : Nat))) =
  some (Value.int IntKind.i64 n55)) ∧
  ∃ (n56 : Int),
  ∃ (n57 : Int),
  ∃ (n58 : Int),
  ∃ (n59 : Int),
  ∃ (n60 : Int),
  ((∀ (w47 : World),
  h3 w47 →
  World.cell? w47 (Addr.add (Addr.add a12 (Int.toNat n1 * (5 : Nat))) (0 : Nat)) = some (Value.int IntKind.i64 n56)) ∧
  (∀ (w48 : World),
  h3 w48 →
  World.cell? w48 (Addr.add (Addr.add a12 (Int.toNat n1 * (5 : Nat))) ((0 : Nat) + (1 : Nat))) =
  some (Value.int IntKind.i64 n57)) ∧
  (∀ (w49 : World),
  h3 w49 →
  World.cell? w49 (Addr.add (Addr.add a12 (Int.toNat n1 * (5 : Nat))) ((0 : Nat) + (1 : Nat) + (1 : Nat))) =
  some (Value.int IntKind.i64 n58)) ∧
  (∀ (w50 : World),
  h3 w50 →
  World.cell? w50 (Addr.add (Addr.add a12 (Int.toNat n1 * (5 : Nat))) ((0 : Nat) + (1 : Nat) + (1 : Nat) + (1 : Nat))) =
  some (Value.int IntKind.i64 n59)) ∧
  ∀ (w51 : World),
  h3 w51 →
  World.cell? w51
  (Addr.add (Addr.add a12 (Int.toNat n1 * (5 : Nat))) ((0 : Nat) + (1 : Nat) + (1 : Nat) + (1 : Nat) + (1 : Nat))) =
  some (Value.int IntKind.i64 n60)) ∧
  Rets Tryd.prog (8 : Nat)
  {
  toList :=
  [Value.agg
  {
  toList :=
  [Value.int IntKind.i64 n51, Value.int IntKind.i64 n52, Value.int IntKind.i64 n53, Value.int IntKind.i64 n54,
  Value.int IntKind.i64 n55] }] }
  w41 fun (v89 : Value) (w52 : World) =>
  ∃ (b6 : Bool),
  v89 = Value.bool b6 ∧
  h3 w52 ∧
  Rets Tryd.prog (9 : Nat)
  {
  toList :=
  [Value.agg
  {
  toList :=
  [Value.int IntKind.i64 n56, Value.int IntKind.i64 n57, Value.int IntKind.i64 n58, Value.int IntKind.i64 n59,
  Value.int IntKind.i64 n60] }] }
  w52 fun (v90 : Value) (w53 : World) =>
  ∃ (b7 : Bool),
  v90 = Value.bool b7 ∧
  h3 w53 ∧
  ((!b6 == b7) = false →
  (0 : Int) ≤ n1 ∧
  n1 < (↑l : Int) ∧
  someR q fun (a13 : Addr) =>
  (0 : Int) ≤ n1 ∧
  n1 < (↑l : Int) ∧
  someR q fun (a14 : Addr) =>
  ∃ (n61 : Int),
  ∃ (n62 : Int),
  ∃ (n63 : Int),
  ∃ (n64 : Int),
  ∃ (n65 : Int),
  ((∀ (w54 : World),
  h3 w54 →
  World.cell? w54 (Addr.add (Addr.add a13 (Int.toNat n1 * (5 : Nat))) (0 : Nat)) = some (Value.int IntKind.i64 n61)) ∧
  (∀ (w55 : World),
  h3 w55 →
  World.cell? w55 (Addr.add (Addr.add a13 (Int.toNat n1 * (5 : Nat))) ((0 : Nat) + (1 : Nat))) =
  some (Value.int IntKind.i64 n62)) ∧
  (∀ (w56 : World),
  h3 w56 →
  World.cell? w56 (Addr.add (Addr.add a13 (Int.toNat n1 * (5 : Nat))) ((0 : Nat) + (1 : Nat) + (1 : Nat))) =
  some (Value.int IntKind.i64 n63)) ∧
  (∀ (w57 : World),
  h3 w57 →
  World.cell? w57 (Addr.add (Addr.add a13 (Int.toNat n1 * (5 : Nat))) ((0 : Nat) + (1 : Nat) + (1 : Nat) + (1 : Nat))) =
  some (Value.int IntKind.i64 n64)) ∧
  ∀ (w58 : World),
  h3 w58 →
  World.cell? w58
  (Addr.add (Addr.add a13 (Int.toNat n1 * (5 : Nat))) ((0 : Nat) + (1 : Nat) + (1 : Nat) + (1 : Nat) + (1 : Nat))) =
  some (Value.int IntKind.i64 n65)) ∧
  ∃ (n66 : Int),
  ∃ (n67 : Int),
  ∃ (n68 : Int),
  ∃ (n69 : Int),
  ∃ (n70 : Int),
  ((∀ (w59 : World),
  h3 w59 →
  World.cell? w59 (Addr.add (Addr.add a14 (Int.toNat n1 * (5 : Nat))) (0 : Nat)) = some (Value.int IntKind.i64 n66)) ∧
  (∀ (w60 : World),
  h3 w60 →
  World.cell? w60 (Addr.add (Addr.add a14 (Int.toNat n1 * (5 : Nat))) ((0 : Nat) + (1 : Nat))) =
  some (Value.int IntKind.i64 n67)) ∧
  (∀ (w61 : World),
  h3 w61 →
  World.cell? w61 (Addr.add (Addr.add a14 (Int.toNat n1 * (5 : Nat))) ((0 : Nat) + (1 : Nat) + (1 : Nat))) =
  some (Value.int IntKind.i64 n68)) ∧
  (∀ (w62 : World),
  h3 w62 →
  World.cell? w62 (Addr.add (Addr.add a14 (Int.toNat n1 * (5 : Nat))) ((0 : Nat) + (1 : Nat) + (1 : Nat) + (1 : Nat))) =
  some (Value.int IntKind.i64 n69)) ∧
  ∀ (w63 : World),
  h3 w63 →
  World.cell? w63
  (Addr.add (Addr.add a14 (Int.toNat n1 * (5 : Nat))) ((0 : Nat) + (1 : Nat) + (1 : Nat) + (1 : Nat) + (1 : Nat))) =
  some (Value.int IntKind.i64 n70)) ∧
  Rets Tryd.prog (10 : Nat)
  {
  toList :=
  [Value.agg
  {
  toList :=
  [Value.int IntKind.i64 n61, Value.int IntKind.i64 n62, Value.int IntKind.i64 n63, Value.int IntKind.i64 n64,
  Value.int IntKind.i64 n65] }] }
  w53 fun (v91 : Value) (w64 : World) =>
  ∃ (n71 : Int),
  ∃ (n72 : Int),
  ∃ (n73 : Int),
  ∃ (n74 : Int),
  ∃ (n75 : Int),
  v91 =
  Value.agg
  {
  toList :=
  [Value.int IntKind.i64 n71, Value.int IntKind.i64 n72, Value.int IntKind.i64 n73, Value.int IntKind.i64 n74,
  Value.int IntKind.i64 n75] } ∧
  h3 w64 ∧
  Rets Tryd.prog (11 : Nat)
  {
  toList :=
  [Value.agg
  {
  toList :=
  [Value.int IntKind.i64 n66, Value.int IntKind.i64 n67, Value.int IntKind.i64 n68, Value.int IntKind.i64 n69,
  Value.int IntKind.i64 n70] }] }
  w64 fun (v92 : Value) (w65 : World) =>
  ∃ (n76 : Int),
  ∃ (n77 : Int),
  ∃ (n78 : Int),
  ∃ (n79 : Int),
  ∃ (n80 : Int),
  v92 =
  Value.agg
  {
  toList :=
  [Value.int IntKind.i64 n76, Value.int IntKind.i64 n77, Value.int IntKind.i64 n78, Value.int IntKind.i64 n79,
  Value.int IntKind.i64 n80] } ∧
  h3 w65 ∧
  ((!(n71 == n76 && (n72 == n77 && (n73 == n78 && (n74 == n79 && n75 == n80))))) = false →
  (0 : Int) ≤ n1 ∧
  n1 < (↑l : Int) ∧
  someR q fun (a15 : Addr) =>
  ∃ (n81 : Int),
  ∃ (n82 : Int),
  ∃ (n83 : Int),
  ∃ (n84 : Int),
  ∃ (n85 : Int),
  ((∀ (w66 : World),
  h3 w66 →
  World.cell? w66 (Addr.add (Addr.add a15 (Int.toNat n1 * (5 : Nat))) (0 : Nat)) = some (Value.int IntKind.i64 n81)) ∧
  (∀ (w67 : World),
  h3 w67 →
  World.cell? w67 (Addr.add (Addr.add a15 (Int.toNat n1 * (5 : Nat))) ((0 : Nat) + (1 : Nat))) =
  some (Value.int IntKind.i64 n82)) ∧
  (∀ (w68 : World),
  h3 w68 →
  World.cell? w68 (Addr.add (Addr.add a15 (Int.toNat n1 * (5 : Nat))) ((0 : Nat) + (1 : Nat) + (1 : Nat))) =
  some (Value.int IntKind.i64 n83)) ∧
  (∀ (w69 : World),
  h3 w69 →
  World.cell? w69 (Addr.add (Addr.add a15 (Int.toNat n1 * (5 : Nat))) ((0 : Nat) + (1 : Nat) + (1 : Nat) + (1 : Nat))) =
  some (Value.int IntKind.i64 n84)) ∧
  ∀ (w70 : World),
  h3 w70 →
  World.cell? w70
  (Addr.add (Addr.add a15 (Int.toNat n1 * (5 : Nat))) ((0 : Nat) + (1 : Nat) + (1 : Nat) + (1 : Nat) + (1 : Nat))) =
  some (Value.int IntKind.i64 n85)) ∧
  Rets Tryd.prog (12 : Nat)
  {
  toList :=
  [Value.agg
  {
  toList :=
  [Value.int IntKind.i64 n81, Value.int IntKind.i64 n82, Value.int IntKind.i64 n83, Value.int IntKind.i64 n84,
  Value.int IntKind.i64 n85] }] }
  w65 fun (v93 : Value) (w71 : World) =>
  ∃ (b8 : Bool),
  v93 = Value.bool b8 ∧
  h3 w71 ∧
  ((!b8 == true) = false →
  (0 : Int) ≤ n1 ∧
  n1 < (↑l : Int) ∧
  someR q fun (a16 : Addr) =>
  ∃ (n86 : Int),
  ∃ (n87 : Int),
  ∃ (n88 : Int),
  ∃ (n89 : Int),
  ∃ (n90 : Int),
  ((∀ (w72 : World),
  h3 w72 →
  World.cell? w72 (Addr.add (Addr.add a16 (Int.toNat n1 * (5 : Nat))) (0 : Nat)) = some (Value.int IntKind.i64 n86)) ∧
  (∀ (w73 : World),
  h3 w73 →
  World.cell? w73 (Addr.add (Addr.add a16 (Int.toNat n1 * (5 : Nat))) ((0 : Nat) + (1 : Nat))) =
  some (Value.int IntKind.i64 n87)) ∧
  (∀ (w74 : World),
  h3 w74 →
  World.cell? w74 (Addr.add (Addr.add a16 (Int.toNat n1 * (5 : Nat))) ((0 : Nat) + (1 : Nat) + (1 : Nat))) =
  some (Value.int IntKind.i64 n88)) ∧
  (∀ (w75 : World),
  h3 w75 →
  World.cell? w75 (Addr.add (Addr.add a16 (Int.toNat n1 * (5 : Nat))) ((0 : Nat) + (1 : Nat) + (1 : Nat) + (1 : Nat))) =
  some (Value.int IntKind.i64 n89)) ∧
  ∀ (w76 : World),
  h3 w76 →
  World.cell? w76
  (Addr.add (Addr.add a16 (Int.toNat n1 * (5 : Nat))) ((0 : Nat) + (1 : Nat) + (1 : Nat) + (1 : Nat) + (1 : Nat))) =
  some (Value.int IntKind.i64 n90)) ∧
  Rets Tryd.prog (10 : Nat)
  {
  toList :=
  [Value.agg
  {
  toList :=
  [Value.int IntKind.i64 n86, Value.int IntKind.i64 n87, Value.int IntKind.i64 n88, Value.int IntKind.i64 n89,
  Value.int IntKind.i64 n90] }] }
  w71 fun (v94 : Value) (w77 : World) =>
  ∃ (n91 : Int),
  ∃ (n92 : Int),
  ∃ (n93 : Int),
  ∃ (n94 : Int),
  ∃ (n95 : Int),
  v94 =
  Value.agg
  {
  toList :=
  [Value.int IntKind.i64 n91, Value.int IntKind.i64 n92, Value.int IntKind.i64 n93, Value.int IntKind.i64 n94,
  Value.int IntKind.i64 n95] } ∧
  Rets Tryd.prog (8 : Nat)
  {
  toList :=
  [Value.agg
  {
  toList :=
  [Value.int IntKind.i64 n91, Value.int IntKind.i64 n92, Value.int IntKind.i64 n93, Value.int IntKind.i64 n94,
  Value.int IntKind.i64 n95] }] }
  w77 fun (v95 : Value) (w78 : World) =>
  ∃ (b9 : Bool),
  v95 = Value.bool b9 ∧
  ((!b9) = true → K (Value.bool false) w78) ∧
  ((!b9) = false →
  ∃ (k4 : Nat), k4 < k2 ∧ h1 k4 [Value.int IntKind.i64 (IntKind.wrap IntKind.i64 (n1 + (1 : Int)))] w78)) ∧
  ((!b8 == true) = true → K (Value.bool false) w71)) ∧
  ((!(n71 == n76 && (n72 == n77 && (n73 == n78 && (n74 == n79 && n75 == n80))))) = true → K (Value.bool false) w65)) ∧
  ((!b6 == b7) = true → K (Value.bool false) w53))) ∧
  ((n3 == (3 : Int)) = true →
  Drw w2 fun (w79 : World) =>
  ∃ (h4 : World → Prop),
  h4 w79 ∧
  (0 : Int) ≤ n1 ∧
  n1 < (↑l : Int) ∧
  someR q fun (a17 : Addr) =>
  (0 : Int) ≤ n1 ∧
  n1 < (↑l : Int) ∧
  someR q fun (a18 : Addr) =>
  ∃ (n96 : Int),
  ∃ (n97 : Int),
  ∃ (n98 : Int),
  ∃ (n99 : Int),
  ∃ (n100 : Int),
  ((∀ (w80 : World),
  h4 w80 →
  World.cell? w80 (Addr.add (Addr.add a17 (Int.toNat n1 * (5 : Nat))) (0 : Nat)) = some (Value.int IntKind.i64 n96)) ∧
  (∀ (w81 : World),
  h4 w81 →
  World.cell? w81 (Addr.add (Addr.add a17 (Int.toNat n1 * (5 : Nat))) ((0 : Nat) + (1 : Nat))) =
  some (Value.int IntKind.i64 n97)) ∧
  (∀ (w82 : World),
  h4 w82 →
  World.cell? w82 (Addr.add (Addr.add a17 (Int.toNat n1 * (5 : Nat))) ((0 : Nat) + (1 : Nat) + (1 : Nat))) =
  some (Value.int IntKind.i64 n98)) ∧
  (∀ (w83 : World),
  h4 w83 →
  World.cell? w83 (Addr.add (Addr.add a17 (Int.toNat n1 * (5 : Nat))) ((0 : Nat) + (1 : Nat) + (1 : Nat) + (1 : Nat))) =
  some (Value.int IntKind.i64 n99)) ∧
  ∀ (w84 : World),
  h4 w84 →
  World.cell? w84
  (Addr.add (Addr.add a17 (Int.toNat n1 * (5 : Nat))) ((0 : Nat) + (1 : Nat) + (1 : Nat) + (1 : Nat) + (1 : Nat))) =
  some (Value.int IntKind.i64 n100)) ∧
  ∃ (n101 : Int),
  ∃ (n102 : Int),
  ∃ (n103 : Int),
  ∃ (n104 : Int),
  ∃ (n105 : Int),
  ((∀ (w85 : World),
  h4 w85 →
  World.cell? w85 (Addr.add (Addr.add a18 (Int.toNat n1 * (5 : Nat))) (0 : Nat)) = some (Value.int IntKind.i64 n101)) ∧
  (∀ (w86 : World),
  h4 w86 →
  World.cell? w86 (Addr.add (Addr.add a18 (Int.toNat n1 * (5 : Nat))) ((0 : Nat) + (1 : Nat))) =
  some (Value.int IntKind.i64 n102)) ∧
  (∀ (w87 : World),
  h4 w87 →
  World.cell? w87 (Addr.add (Addr.add a18 (Int.toNat n1 * (5 : Nat))) ((0 : Nat) + (1 : Nat) + (1 : Nat))) =
  some (Value.int IntKind.i64 n103)) ∧
  (∀ (w88 : World),
  h4 w88 →
  World.cell? w88 (Addr.add (Addr.add a18 (Int.toNat n1 * (5 : Nat))) ((0 : Nat) + (1 : Nat) + (1 : Nat) + (1 : Nat))) =
  some (Value.int IntKind.i64 n104)) ∧
  ∀ (w89 : World),
  h4 w89 →
  World.cell? w89
  (Addr.add (Addr.add a18 (Int.toNat n1 * (5 : Nat))) ((0 : Nat) + (1 : Nat) + (1 : Nat) + (1 : Nat) + (1 : Nat))) =
  some (Value.int IntKind.i64 n105)) ∧
  Rets Tryd.prog (8 : Nat)
  {
  toList :=
  [Value.agg
  {
  toList :=
  [Value.int IntKind.i64 n96, Value.int IntKind.i64 n97, Value.int IntKind.i64 n98, Value.int IntKind.i64 n99,
  Value.int IntKind.i64 n100] }] }
  w79 fun (v96 : Value) (w90 : World) =>
  ∃ (b10 : Bool),
  v96 = Value.bool b10 ∧
  h4 w90 ∧
  Rets Tryd.prog (9 : Nat)
  {
  toList :=
  [Value.agg
  {
  toList :=
  [Value.int IntKind.i64 n101, Value.int IntKind.i64 n102, Value.int IntKind.i64 n103, Value.int IntKind.i64 n104,
  Value.int IntKind.i64 n105] }] }
  w90 fun (v97 : Value) (w91 : World) =>
  ∃ (b11 : Bool),
  v97 = Value.bool b11 ∧
  h4 w91 ∧
  ((!b10 == b11) = false →
  (0 : Int) ≤ n1 ∧
  n1 < (↑l : Int) ∧
  someR q fun (a19 : Addr) =>
  (0 : Int) ≤ n1 ∧
  n1 < (↑l : Int) ∧
  someR q fun (a20 : Addr) =>
  ∃ (n106 : Int),
  ∃ (n107 : Int),
  ∃ (n108 : Int),
  ∃ (n109 : Int),
  ∃ (n110 : Int),
  ((∀ (w92 : World),
  h4 w92 →
  World.cell? w92 (Addr.add (Addr.add a19 (Int.toNat n1 * (5 : Nat))) (0 : Nat)) = some (Value.int IntKind.i64 n106)) ∧
  (∀ (w93 : World),
  h4 w93 →
  World.cell? w93 (Addr.add (Addr.add a19 (Int.toNat n1 * (5 : Nat))) ((0 : Nat) + (1 : Nat))) =
  some (Value.int IntKind.i64 n107)) ∧
  (∀ (w94 : World),
  h4 w94 →
  World.cell? w94 (Addr.add (Addr.add a19 (Int.toNat n1 * (5 : Nat))) ((0 : Nat) + (1 : Nat) + (1 : Nat))) =
  some (Value.int IntKind.i64 n108)) ∧
  (∀ (w95 : World),
  h4 w95 →
  World.cell? w95 (Addr.add (Addr.add a19 (Int.toNat n1 * (5 : Nat))) ((0 : Nat) + (1 : Nat) + (1 : Nat) + (1 : Nat))) =
  some (Value.int IntKind.i64 n109)) ∧
  ∀ (w96 : World),
  h4 w96 →
  World.cell? w96
  (Addr.add (Addr.add a19 (Int.toNat n1 * (5 : Nat))) ((0 : Nat) + (1 : Nat) + (1 : Nat) + (1 : Nat) + (1 : Nat))) =
  some (Value.int IntKind.i64 n110)) ∧
  ∃ (n111 : Int),
  ∃ (n112 : Int),
  ∃ (n113 : Int),
  ∃ (n114 : Int),
  ∃ (n115 : Int),
  ((∀ (w97 : World),
  h4 w97 →
  World.cell? w97 (Addr.add (Addr.add a20 (Int.toNat n1 * (5 : Nat))) (0 : Nat)) = some (Value.int IntKind.i64 n111)) ∧
  (∀ (w98 : World),
  h4 w98 →
  World.cell? w98 (Addr.add (Addr.add a20 (Int.toNat n1 * (5 : Nat))) ((0 : Nat) + (1 : Nat))) =
  some (Value.int IntKind.i64 n112)) ∧
  (∀ (w99 : World),
  h4 w99 →
  World.cell? w99 (Addr.add (Addr.add a20 (Int.toNat n1 * (5 : Nat))) ((0 : Nat) + (1 : Nat) + (1 : Nat))) =
  some (Value.int IntKind.i64 n113)) ∧
  (∀ (w100 : World),
  h4 w100 →
  World.cell? w100 (Addr.add (Addr.add a20 (Int.toNat n1 * (5 : Nat))) ((0 : Nat) + (1 : Nat) + (1 : Nat) + (1 : Nat))) =
  some (Value.int IntKind.i64 n114)) ∧
  ∀ (w101 : World),
  h4 w101 →
  World.cell? w101
  (Addr.add (Addr.add a20 (Int.toNat n1 * (5 : Nat))) ((0 : Nat) + (1 : Nat) + (1 : Nat) + (1 : Nat) + (1 : Nat))) =
  some (Value.int IntKind.i64 n115)) ∧
  Rets Tryd.prog (10 : Nat)
  {
  toList :=
  [Value.agg
  {
  toList :=
  [Value.int IntKind.i64 n106, Value.int IntKind.i64 n107, Value.int IntKind.i64 n108, Value.int IntKind.i64 n109,
  Value.int IntKind.i64 n110] }] }
  w91 fun (v98 : Value) (w102 : World) =>
  ∃ (n116 : Int),
  ∃ (n117 : Int),
  ∃ (n118 : Int),
  ∃ (n119 : Int),
  ∃ (n120 : Int),
  v98 =
  Value.agg
  {
  toList :=
  [Value.int IntKind.i64 n116, Value.int IntKind.i64 n117, Value.int IntKind.i64 n118, Value.int IntKind.i64 n119,
  Value.int IntKind.i64 n120] } ∧
  h4 w102 ∧
  Rets Tryd.prog (11 : Nat)
  {
  toList :=
  [Value.agg
  {
  toList :=
  [Value.int IntKind.i64 n111, Value.int IntKind.i64 n112, Value.int IntKind.i64 n113, Value.int IntKind.i64 n114,
  Value.int IntKind.i64 n115] }] }
  w102 fun (v99 : Value) (w103 : World) =>
  ∃ (n121 : Int),
  ∃ (n122 : Int),
  ∃ (n123 : Int),
  ∃ (n124 : Int),
  ∃ (n125 : Int),
  v99 =
  Value.agg
  {
  toList :=
  [Value.int IntKind.i64 n121, Value.int IntKind.i64 n122, Value.int IntKind.i64 n123, Value.int IntKind.i64 n124,
  Value.int IntKind.i64 n125] } ∧
  h4 w103 ∧
  ((!(n116 == n121 && (n117 == n122 && (n118 == n123 && (n119 == n124 && n120 == n125))))) = false →
  (0 : Int) ≤ n1 ∧
  n1 < (↑l : Int) ∧
  someR q fun (a21 : Addr) =>
  ∃ (n126 : Int),
  ∃ (n127 : Int),
  ∃ (n128 : Int),
  ∃ (n129 : Int),
  ∃ (n130 : Int),
  ((∀ (w104 : World),
  h4 w104 →
  World.cell? w104 (Addr.add (Addr.add a21 (Int.toNat n1 * (5 : Nat))) (0 : Nat)) = some (Value.int IntKind.i64 n126)) ∧
  (∀ (w105 : World),
  h4 w105 →
  World.cell? w105 (Addr.add (Addr.add a21 (Int.toNat n1 * (5 : Nat))) ((0 : Nat) + (1 : Nat))) =
  some (Value.int IntKind.i64 n127)) ∧
  (∀ (w106 : World),
  h4 w106 →
  World.cell? w106 (Addr.add (Addr.add a21 (Int.toNat n1 * (5 : Nat))) ((0 : Nat) + (1 : Nat) + (1 : Nat))) =
  some (Value.int IntKind.i64 n128)) ∧
  (∀ (w107 : World),
  h4 w107 →
  World.cell? w107 (Addr.add (Addr.add a21 (Int.toNat n1 * (5 : Nat))) ((0 : Nat) + (1 : Nat) + (1 : Nat) + (1 : Nat))) =
  some (Value.int IntKind.i64 n129)) ∧
  ∀ (w108 : World),
  h4 w108 →
  World.cell? w108
  (Addr.add (Addr.add a21 (Int.toNat n1 * (5 : Nat))) ((0 : Nat) + (1 : Nat) + (1 : Nat) + (1 : Nat) + (1 : Nat))) =
  some (Value.int IntKind.i64 n130)) ∧
  Rets Tryd.prog (12 : Nat)
  {
  toList :=
  [Value.agg
  {
  toList :=
  [Value.int IntKind.i64 n126, Value.int IntKind.i64 n127, Value.int IntKind.i64 n128, Value.int IntKind.i64 n129,
  Value.int IntKind.i64 n130] }] }
  w103 fun (v100 : Value) (w109 : World) =>
  ∃ (b12 : Bool),
  v100 = Value.bool b12 ∧
  h4 w109 ∧
  ((!b12 == true) = false →
  (0 : Int) ≤ n1 ∧
  n1 < (↑l : Int) ∧
  someR q fun (a22 : Addr) =>
  ∃ (n131 : Int),
  ∃ (n132 : Int),
  ∃ (n133 : Int),
  ∃ (n134 : Int),
  ∃ (n135 : Int),
  ((∀ (w110 : World),
  h4 w110 →
  World.cell? w110 (Addr.add (Addr.add a22 (Int.toNat n1 * (5 : Nat))) (0 : Nat)) = some (Value.int IntKind.i64 n131)) ∧
  (∀ (w111 : World),
  h4 w111 →
  World.cell? w111 (Addr.add (Addr.add a22 (Int.toNat n1 * (5 : Nat))) ((0 : Nat) + (1 : Nat))) =
  some (Value.int IntKind.i64 n132)) ∧
  (∀ (w112 : World),
  h4 w112 →
  World.cell? w112 (Addr.add (Addr.add a22 (Int.toNat n1 * (5 : Nat))) ((0 : Nat) + (1 : Nat) + (1 : Nat))) =
  some (Value.int IntKind.i64 n133)) ∧
  (∀ (w113 : World),
  h4 w113 →
  World.cell? w113 (Addr.add (Addr.add a22 (Int.toNat n1 * (5 : Nat))) ((0 : Nat) + (1 : Nat) + (1 : Nat) + (1 : Nat))) =
  some (Value.int IntKind.i64 n134)) ∧
  ∀ (w114 : World),
  h4 w114 →
  World.cell? w114
  (Addr.add (Addr.add a22 (Int.toNat n1 * (5 : Nat))) ((0 : Nat) + (1 : Nat) + (1 : Nat) + (1 : Nat) + (1 : Nat))) =
  some (Value.int IntKind.i64 n135)) ∧
  Rets Tryd.prog (10 : Nat)
  {
  toList :=
  [Value.agg
  {
  toList :=
  [Value.int IntKind.i64 n131, Value.int IntKind.i64 n132, Value.int IntKind.i64 n133, Value.int IntKind.i64 n134,
  Value.int IntKind.i64 n135] }] }
  w109 fun (v101 : Value) (w115 : World) =>
  ∃ (n136 : Int),
  ∃ (n137 : Int),
  ∃ (n138 : Int),
  ∃ (n139 : Int),
  ∃ (n140 : Int),
  v101 =
  Value.agg
  {
  toList :=
  [Value.int IntKind.i64 n136, Value.int IntKind.i64 n137, Value.int IntKind.i64 n138, Value.int IntKind.i64 n139,
  Value.int IntKind.i64 n140] } ∧
  Rets Tryd.prog (8 : Nat)
  {
  toList :=
  [Value.agg
  {
  toList :=
  [Value.int IntKind.i64 n136, Value.int IntKind.i64 n137, Value.int IntKind.i64 n138, Value.int IntKind.i64 n139,
  Value.int IntKind.i64 n140] }] }
  w115 fun (v102 : Value) (w116 : World) =>
  ∃ (b13 : Bool),
  v102 = Value.bool b13 ∧
  ((!b13) = true → K (Value.bool false) w116) ∧
  ((!b13) = false →
  ∃ (k5 : Nat), k5 < k2 ∧ h1 k5 [Value.int IntKind.i64 (IntKind.wrap IntKind.i64 (n1 + (1 : Int)))] w116)) ∧
  ((!b12 == true) = true → K (Value.bool false) w109)) ∧
  ((!(n116 == n121 && (n117 == n122 && (n118 == n123 && (n119 == n124 && n120 == n125))))) = true →
  K (Value.bool false) w103)) ∧
  ((!b10 == b11) = true → K (Value.bool false) w91))) ∧
  ((n2 == (2 : Int)) = true →
  Drw w2 fun (w117 : World) =>
  ∃ (h5 : World → Prop),
  h5 w117 ∧
  (0 : Int) ≤ n1 ∧
  n1 < (↑l : Int) ∧
  someR q fun (a23 : Addr) =>
  (0 : Int) ≤ n1 ∧
  n1 < (↑l : Int) ∧
  someR q fun (a24 : Addr) =>
  ∃ (n141 : Int),
  ∃ (n142 : Int),
  ∃ (n143 : Int),
  ∃ (n144 : Int),
  ∃ (n145 : Int),
  ((∀ (w118 : World),
  h5 w118 →
  World.cell? w118 (Addr.add (Addr.add a23 (Int.toNat n1 * (5 : Nat))) (0 : Nat)) = some (Value.int IntKind.i64 n141)) ∧
  (∀ (w119 : World),
  h5 w119 →
  World.cell? w119 (Addr.add (Addr.add a23 (Int.toNat n1 * (5 : Nat))) ((0 : Nat) + (1 : Nat))) =
  some (Value.int IntKind.i64 n142)) ∧
  (∀ (w120 : World),
  h5 w120 →
  World.cell? w120 (Addr.add (Addr.add a23 (Int.toNat n1 * (5 : Nat))) ((0 : Nat) + (1 : Nat) + (1 : Nat))) =
  some (Value.int IntKind.i64 n143)) ∧
  (∀ (w121 : World),
  h5 w121 →
  World.cell? w121 (Addr.add (Addr.add a23 (Int.toNat n1 * (5 : Nat))) ((0 : Nat) + (1 : Nat) + (1 : Nat) + (1 : Nat))) =
  some (Value.int IntKind.i64 n144)) ∧
  ∀ (w122 : World),
  h5 w122 →
  World.cell? w122
  (Addr.add (Addr.add a23 (Int.toNat n1 * (5 : Nat))) ((0 : Nat) + (1 : Nat) + (1 : Nat) + (1 : Nat) + (1 : Nat))) =
  some (Value.int IntKind.i64 n145)) ∧
  ∃ (n146 : Int),
  ∃ (n147 : Int),
  ∃ (n148 : Int),
  ∃ (n149 : Int),
  ∃ (n150 : Int),
  ((∀ (w123 : World),
  h5 w123 →
  World.cell? w123 (Addr.add (Addr.add a24 (Int.toNat n1 * (5 : Nat))) (0 : Nat)) = some (Value.int IntKind.i64 n146)) ∧
  (∀ (w124 : World),
  h5 w124 →
  World.cell? w124 (Addr.add (Addr.add a24 (Int.toNat n1 * (5 : Nat))) ((0 : Nat) + (1 : Nat))) =
  some (Value.int IntKind.i64 n147)) ∧
  (∀ (w125 : World),
  h5 w125 →
  World.cell? w125 (Addr.add (Addr.add a24 (Int.toNat n1 * (5 : Nat))) ((0 : Nat) + (1 : Nat) + (1 : Nat))) =
  some (Value.int IntKind.i64 n148)) ∧
  (∀ (w126 : World),
  h5 w126 →
  World.cell? w126 (Addr.add (Addr.add a24 (Int.toNat n1 * (5 : Nat))) ((0 : Nat) + (1 : Nat) + (1 : Nat) + (1 : Nat))) =
  some (Value.int IntKind.i64 n149)) ∧
  ∀ (w127 : World),
  h5 w127 →
  World.cell? w127
  (Addr.add (Addr.add a24 (Int.toNat n1 * (5 : Nat))) ((0 : Nat) + (1 : Nat) + (1 : Nat) + (1 : Nat) + (1 : Nat))) =
  some (Value.int IntKind.i64 n150)) ∧
  Rets Tryd.prog (8 : Nat)
  {
  toList :=
  [Value.agg
  {
  toList :=
  [Value.int IntKind.i64 n141, Value.int IntKind.i64 n142, Value.int IntKind.i64 n143, Value.int IntKind.i64 n144,
  Value.int IntKind.i64 n145] }] }
  w117 fun (v103 : Value) (w128 : World) =>
  ∃ (b14 : Bool),
  v103 = Value.bool b14 ∧
  h5 w128 ∧
  Rets Tryd.prog (9 : Nat)
  {
  toList :=
  [Value.agg
  {
  toList :=
  [Value.int IntKind.i64 n146, Value.int IntKind.i64 n147, Value.int IntKind.i64 n148, Value.int IntKind.i64 n149,
  Value.int IntKind.i64 n150] }] }
  w128 fun (v104 : Value) (w129 : World) =>
  ∃ (b15 : Bool),
  v104 = Value.bool b15 ∧
  h5 w129 ∧
  ((!b14 == b15) = false →
  (0 : Int) ≤ n1 ∧
  n1 < (↑l : Int) ∧
  someR q fun (a25 : Addr) =>
  (0 : Int) ≤ n1 ∧
  n1 < (↑l : Int) ∧
  someR q fun (a26 : Addr) =>
  ∃ (n151 : Int),
  ∃ (n152 : Int),
  ∃ (n153 : Int),
  ∃ (n154 : Int),
  ∃ (n155 : Int),
  ((∀ (w130 : World),
  h5 w130 →
  World.cell? w130 (Addr.add (Addr.add a25 (Int.toNat n1 * (5 : Nat))) (0 : Nat)) = some (Value.int IntKind.i64 n151)) ∧
  (∀ (w131 : World),
  h5 w131 →
  World.cell? w131 (Addr.add (Addr.add a25 (Int.toNat n1 * (5 : Nat))) ((0 : Nat) + (1 : Nat))) =
  some (Value.int IntKind.i64 n152)) ∧
  (∀ (w132 : World),
  h5 w132 →
  World.cell? w132 (Addr.add (Addr.add a25 (Int.toNat n1 * (5 : Nat))) ((0 : Nat) + (1 : Nat) + (1 : Nat))) =
  some (Value.int IntKind.i64 n153)) ∧
  (∀ (w133 : World),
  h5 w133 →
  World.cell? w133 (Addr.add (Addr.add a25 (Int.toNat n1 * (5 : Nat))) ((0 : Nat) + (1 : Nat) + (1 : Nat) + (1 : Nat))) =
  some (Value.int IntKind.i64 n154)) ∧
  ∀ (w134 : World),
  h5 w134 →
  World.cell? w134
  (Addr.add (Addr.add a25 (Int.toNat n1 * (5 : Nat))) ((0 : Nat) + (1 : Nat) + (1 : Nat) + (1 : Nat) + (1 : Nat))) =
  some (Value.int IntKind.i64 n155)) ∧
  ∃ (n156 : Int),
  ∃ (n157 : Int),
  ∃ (n158 : Int),
  ∃ (n159 : Int),
  ∃ (n160 : Int),
  ((∀ (w135 : World),
  h5 w135 →
  World.cell? w135 (Addr.add (Addr.add a26 (Int.toNat n1 * (5 : Nat))) (0 : Nat)) = some (Value.int IntKind.i64 n156)) ∧
  (∀ (w136 : World),
  h5 w136 →
  World.cell? w136 (Addr.add (Addr.add a26 (Int.toNat n1 * (5 : Nat))) ((0 : Nat) + (1 : Nat))) =
  some (Value.int IntKind.i64 n157)) ∧
  (∀ (w137 : World),
  h5 w137 →
  World.cell? w137 (Addr.add (Addr.add a26 (Int.toNat n1 * (5 : Nat))) ((0 : Nat) + (1 : Nat) + (1 : Nat))) =
  some (Value.int IntKind.i64 n158)) ∧
  (∀ (w138 : World),
  h5 w138 →
  World.cell? w138 (Addr.add (Addr.add a26 (Int.toNat n1 * (5 : Nat))) ((0 : Nat) + (1 : Nat) + (1 : Nat) + (1 : Nat))) =
  some (Value.int IntKind.i64 n159)) ∧
  ∀ (w139 : World),
  h5 w139 →
  World.cell? w139
  (Addr.add (Addr.add a26 (Int.toNat n1 * (5 : Nat))) ((0 : Nat) + (1 : Nat) + (1 : Nat) + (1 : Nat) + (1 : Nat))) =
  some (Value.int IntKind.i64 n160)) ∧
  Rets Tryd.prog (10 : Nat)
  {
  toList :=
  [Value.agg
  {
  toList :=
  [Value.int IntKind.i64 n151, Value.int IntKind.i64 n152, Value.int IntKind.i64 n153, Value.int IntKind.i64 n154,
  Value.int IntKind.i64 n155] }] }
  w129 fun (v105 : Value) (w140 : World) =>
  ∃ (n161 : Int),
  ∃ (n162 : Int),
  ∃ (n163 : Int),
  ∃ (n164 : Int),
  ∃ (n165 : Int),
  v105 =
  Value.agg
  {
  toList :=
  [Value.int IntKind.i64 n161, Value.int IntKind.i64 n162, Value.int IntKind.i64 n163, Value.int IntKind.i64 n164,
  Value.int IntKind.i64 n165] } ∧
  h5 w140 ∧
  Rets Tryd.prog (11 : Nat)
  {
  toList :=
  [Value.agg
  {
  toList :=
  [Value.int IntKind.i64 n156, Value.int IntKind.i64 n157, Value.int IntKind.i64 n158, Value.int IntKind.i64 n159,
  Value.int IntKind.i64 n160] }] }
  w140 fun (v106 : Value) (w141 : World) =>
  ∃ (n166 : Int),
  ∃ (n167 : Int),
  ∃ (n168 : Int),
  ∃ (n169 : Int),
  ∃ (n170 : Int),
  v106 =
  Value.agg
  {
  toList :=
  [Value.int IntKind.i64 n166, Value.int IntKind.i64 n167, Value.int IntKind.i64 n168, Value.int IntKind.i64 n169,
  Value.int IntKind.i64 n170] } ∧
  h5 w141 ∧
  ((!(n161 == n166 && (n162 == n167 && (n163 == n168 && (n164 == n169 && n165 == n170))))) = false →
  (0 : Int) ≤ n1 ∧
  n1 < (↑l : Int) ∧
  someR q fun (a27 : Addr) =>
  ∃ (n171 : Int),
  ∃ (n172 : Int),
  ∃ (n173 : Int),
  ∃ (n174 : Int),
  ∃ (n175 : Int),
  ((∀ (w142 : World),
  h5 w142 →
  World.cell? w142 (Addr.add (Addr.add a27 (Int.toNat n1 * (5 : Nat))) (0 : Nat)) = some (Value.int IntKind.i64 n171)) ∧
  (∀ (w143 : World),
  h5 w143 →
  World.cell? w143 (Addr.add (Addr.add a27 (Int.toNat n1 * (5 : Nat))) ((0 : Nat) + (1 : Nat))) =
  some (Value.int IntKind.i64 n172)) ∧
  (∀ (w144 : World),
  h5 w144 →
  World.cell? w144 (Addr.add (Addr.add a27 (Int.toNat n1 * (5 : Nat))) ((0 : Nat) + (1 : Nat) + (1 : Nat))) =
  some (Value.int IntKind.i64 n173)) ∧
  (∀ (w145 : World),
  h5 w145 →
  World.cell? w145 (Addr.add (Addr.add a27 (Int.toNat n1 * (5 : Nat))) ((0 : Nat) + (1 : Nat) + (1 : Nat) + (1 : Nat))) =
  some (Value.int IntKind.i64 n174)) ∧
  ∀ (w146 : World),
  h5 w146 →
  World.cell? w146
  (Addr.add (Addr.add a27 (Int.toNat n1 * (5 : Nat))) ((0 : Nat) + (1 : Nat) + (1 : Nat) + (1 : Nat) + (1 : Nat))) =
  some (Value.int IntKind.i64 n175)) ∧
  Rets Tryd.prog (12 : Nat)
  {
  toList :=
  [Value.agg
  {
  toList :=
  [Value.int IntKind.i64 n171, Value.int IntKind.i64 n172, Value.int IntKind.i64 n173, Value.int IntKind.i64 n174,
  Value.int IntKind.i64 n175] }] }
  w141 fun (v107 : Value) (w147 : World) =>
  ∃ (b16 : Bool),
  v107 = Value.bool b16 ∧
  h5 w147 ∧
  ((!b16 == true) = false →
  (0 : Int) ≤ n1 ∧
  n1 < (↑l : Int) ∧
  someR q fun (a28 : Addr) =>
  ∃ (n176 : Int),
  ∃ (n177 : Int),
  ∃ (n178 : Int),
  ∃ (n179 : Int),
  ∃ (n180 : Int),
  ((∀ (w148 : World),
  h5 w148 →
  World.cell? w148 (Addr.add (Addr.add a28 (Int.toNat n1 * (5 : Nat))) (0 : Nat)) = some (Value.int IntKind.i64 n176)) ∧
  (∀ (w149 : World),
  h5 w149 →
  World.cell? w149 (Addr.add (Addr.add a28 (Int.toNat n1 * (5 : Nat))) ((0 : Nat) + (1 : Nat))) =
  some (Value.int IntKind.i64 n177)) ∧
  (∀ (w150 : World),
  h5 w150 →
  World.cell? w150 (Addr.add (Addr.add a28 (Int.toNat n1 * (5 : Nat))) ((0 : Nat) + (1 : Nat) + (1 : Nat))) =
  some (Value.int IntKind.i64 n178)) ∧
  (∀ (w151 : World),
  h5 w151 →
  World.cell? w151 (Addr.add (Addr.add a28 (Int.toNat n1 * (5 : Nat))) ((0 : Nat) + (1 : Nat) + (1 : Nat) + (1 : Nat))) =
  some (Value.int IntKind.i64 n179)) ∧
  ∀ (w152 : World),
  h5 w152 →
  World.cell? w152
  (Addr.add (Addr.add a28 (Int.toNat n1 * (5 : Nat))) ((0 : Nat) + (1 : Nat) + (1 : Nat) + (1 : Nat) + (1 : Nat))) =
  some (Value.int IntKind.i64 n180)) ∧
  Rets Tryd.prog (10 : Nat)
  {
  toList :=
  [Value.agg
  {
  toList :=
  [Value.int IntKind.i64 n176, Value.int IntKind.i64 n177, Value.int IntKind.i64 n178, Value.int IntKind.i64 n179,
  Value.int IntKind.i64 n180] }] }
  w147 fun (v108 : Value) (w153 : World) =>
  ∃ (n181 : Int),
  ∃ (n182 : Int),
  ∃ (n183 : Int),
  ∃ (n184 : Int),
  ∃ (n185 : Int),
  v108 =
  Value.agg
  {
  toList :=
  [Value.int IntKind.i64 n181, Value.int IntKind.i64 n182, Value.int IntKind.i64 n183, Value.int IntKind.i64 n184,
  Value.int IntKind.i64 n185] } ∧
  Rets Tryd.prog (8 : Nat)
  {
  toList :=
  [Value.agg
  {
  toList :=
  [Value.int IntKind.i64 n181, Value.int IntKind.i64 n182, Value.int IntKind.i64 n183, Value.int IntKind.i64 n184,
  Value.int IntKind.i64 n185] }] }
  w153 fun (v109 : Value) (w154 : World) =>
  ∃ (b17 : Bool),
  v109 = Value.bool b17 ∧
  ((!b17) = true → K (Value.bool false) w154) ∧
  ((!b17) = false →
  ∃ (k6 : Nat), k6 < k2 ∧ h1 k6 [Value.int IntKind.i64 (IntKind.wrap IntKind.i64 (n1 + (1 : Int)))] w154)) ∧
  ((!b16 == true) = true → K (Value.bool false) w147)) ∧
  ((!(n161 == n166 && (n162 == n167 && (n163 == n168 && (n164 == n169 && n165 == n170))))) = true →
  K (Value.bool false) w141)) ∧
  ((!b14 == b15) = true → K (Value.bool false) w129))) ∧
  (decide (n1 < (↑l : Int)) = false →
  (decide (k ≥ (0 : Int)) = true →
  ∃ (h6 : List Value → World → Prop),
  ((decide (k ≤ (7 : Int)) = true →
  NewR (9 : Nat)
  [Value.string { data := #[(110 : UInt8), (111 : UInt8), (110 : UInt8), (101 : UInt8)] },
  Value.string { data := #[(103 : UInt8), (101 : UInt8), (116 : UInt8)] },
  Value.string { data := #[(115 : UInt8), (101 : UInt8), (116 : UInt8)] },
  Value.string { data := #[(100 : UInt8), (101 : UInt8), (108 : UInt8)] },
  Value.string { data := #[(119 : UInt8), (97 : UInt8), (105 : UInt8), (116 : UInt8)] },
  Value.string { data := #[(99 : UInt8), (108 : UInt8), (101 : UInt8), (97 : UInt8), (114 : UInt8)] },
  Value.string { data := #[(99 : UInt8), (108 : UInt8), (111 : UInt8), (115 : UInt8), (101 : UInt8)] },
  Value.string { data := #[(108 : UInt8), (105 : UInt8), (109 : UInt8), (105 : UInt8), (116 : UInt8)] }]
  w2 fun (a29 : Addr) (w155 : World) =>
  (0 : Int) ≤ k ∧
  k < (↑(8 : Nat) : Int) ∧
  ∃ (s1 : ByteArray),
  cellAt w155 (Addr.add a29 (Int.toNat k * (1 : Nat))) (Value.string s1) ∧ h6 [Value.string s1] w155) ∧
  (decide (k ≤ (7 : Int)) = false → h6 [Value.string { data := #[] }] w2)) ∧
  ∀ (w156 : World) (s2 : ByteArray) (v110 v111 v112 v113 : Value),
  h6 [Value.string s2] w156 →
  Rets Tryd.prog (13 : Nat) { toList := [Value.slice q l c] } w156 fun (v114 : Value) (w157 : World) =>
  ∃ (b18 : Bool),
  v114 = Value.bool b18 ∧
  Rets Tryd.prog (14 : Nat) { toList := [Value.slice q l c] } w157 fun (v115 : Value) (w158 : World) =>
  ∃ (b19 : Bool),
  v115 = Value.bool b19 ∧
  ((b18 == b19) = true →
  Rets Tryd.prog (15 : Nat) { toList := [Value.int IntKind.i64 k] } w158 fun (v116 : Value) (w159 : World) =>
  ∃ (s3 : ByteArray),
  v116 = Value.string s3 ∧
  ((ByteArray.toList s3 == ByteArray.toList s2) = true →
  Rets Tryd.prog (7 : Nat) { toList := [] } w159 fun (v117 : Value) (w160 : World) =>
  ∃ (b20 : Bool), v117 = Value.bool b20 ∧ K (Value.bool b20) w160) ∧
  ((ByteArray.toList s3 == ByteArray.toList s2) = false → K (Value.bool false) w159)) ∧
  ((b18 == b19) = false → K (Value.bool false) w158)) ∧
  (decide (k ≥ (0 : Int)) = false →
  ∃ (h7 : List Value → World → Prop),
  h7 [Value.string { data := #[] }] w2 ∧
  ∀ (w161 : World) (s4 : ByteArray) (v118 v119 v120 v121 : Value),
  h7 [Value.string s4] w161 →
  Rets Tryd.prog (13 : Nat) { toList := [Value.slice q l c] } w161 fun (v122 : Value) (w162 : World) =>
  ∃ (b21 : Bool),
  v122 = Value.bool b21 ∧
  Rets Tryd.prog (14 : Nat) { toList := [Value.slice q l c] } w162 fun (v123 : Value) (w163 : World) =>
  ∃ (b22 : Bool),
  v123 = Value.bool b22 ∧
  ((b21 == b22) = true →
  Rets Tryd.prog (15 : Nat) { toList := [Value.int IntKind.i64 k] } w163 fun (v124 : Value) (w164 : World) =>
  ∃ (s5 : ByteArray),
  v124 = Value.string s5 ∧
  ((ByteArray.toList s5 == ByteArray.toList s4) = true →
  Rets Tryd.prog (7 : Nat) { toList := [] } w164 fun (v125 : Value) (w165 : World) =>
  ∃ (b23 : Bool), v125 = Value.bool b23 ∧ K (Value.bool b23) w165) ∧
  ((ByteArray.toList s5 == ByteArray.toList s4) = false → K (Value.bool false) w164)) ∧
  ((b21 == b22) = false → K (Value.bool false) w163))))
theorem cortadolaw17_ProgRight_eq (q : Option Addr) (l c : Nat) (k : Int) (w : World) (K : Value → World → Prop) : fw Tryd.prog Tryd.f3 (annL [(2, [(4, none), (5, some 3), (6, none), (12, none), (13, none), (14, none), (15, none), (16, none), (17, none), (18, none), (19, none), (20, none), (21, none), (22, none), (23, none), (24, none), (25, none), (26, none), (27, none), (28, none), (29, none), (30, none), (31, none), (32, none), (33, none), (34, none), (35, none), (36, none), (37, none), (38, none), (39, none), (40, none), (41, none), (42, none), (43, none), (44, none), (45, none), (46, none), (47, none), (48, none), (49, none), (50, none), (51, none), (52, none), (53, none), (54, none), (55, none), (56, none), (57, none), (58, none), (59, none), (60, none), (61, none), (62, none), (63, none), (64, none), (65, none), (66, none), (67, none), (68, none), (69, none), (70, none), (71, none), (72, none), (73, none), (74, none), (75, none), (76, none), (77, none), (78, none), (79, none), (80, none), (81, none), (82, none), (83, none), (84, none), (85, none), (86, none), (87, none), (88, none), (89, none)]), (6, [(7, some 9), (96, none), (97, none), (98, none), (99, none)])]) (ordL [(7, [(0, 0), (1, 0), (2, 0), (5, 0), (6, 0), (7, 0), (3, 1), (8, 1), (4, 2), (9, 2), (10, 0), (11, 0), (12, 0), (13, 0), (14, 0), (17, 0), (18, 0), (19, 0), (15, 1), (20, 1), (16, 2), (21, 2), (22, 0), (23, 0), (24, 0), (25, 0), (26, 0), (27, 0), (30, 0), (28, 1), (29, 2), (31, 0), (32, 0), (33, 0), (34, 0), (35, 0), (36, 0), (37, 1), (38, 3), (39, 3), (40, 0), (41, 0)])]) [.slice q l c, .int .i64 k] w K = cortadolaw17_ProgRight_m q l c k w K := by kernel_rfl
theorem cortadolaw17_ProgRight_go (q : Option Addr) (l c : Nat) (k : Int) {w : World} {K : Value → World → Prop} (h : cortadolaw17_ProgRight_m q l c k w K) : Rets Tryd.prog 3 #[.slice q l c, .int .i64 k] w K :=
  calls_of_fw plain mixed Tryd.func3 (by kernel_rfl) (by rw [cortadolaw17_ProgRight_eq]; exact h)
def prog_Put_m (q : Option Addr) (l c : Nat) (q2 : Option Addr) (l2 c2 : Nat) (w : World) (K : Value → World → Prop) : Prop :=
  Rets Tryd.prog (13 : Nat) { toList := [Value.slice q2 l2 c2] } w fun (v1 : Value) (w1 : World) =>
  ∃ (b1 : Bool),
  v1 = Value.bool b1 ∧
  ((!b1) = true → K (Value.tuple { toList := [Value.slice none (0 : Nat) (0 : Nat), Value.bool false] }) w1) ∧
  ((!b1) = false →
  Rets Tryd.prog (61 : Nat) { toList := [Value.slice q l c] } w1 fun (v2 : Value) (w2 : World) =>
  ∃ (q1 : Option Addr),
  ∃ (k1 : Nat),
  ∃ (k2 : Nat),
  v2 = Value.slice q1 k1 k2 ∧
  NewR (5 : Nat) [Value.int IntKind.u8 (IntKind.wrap IntKind.u8 (↑l2 : Int))] w2 fun (a1 : Addr) (w3 : World) =>
  RunR Tryd.prog
  (builtinV Builtin.append { toList := [(32 : Nat), (32 : Nat)] } (nat_lit 32)
  { toList := [Value.slice q1 k1 k2, Value.slice (some a1) (1 : Nat) (1 : Nat)] })
  w3 fun (v3 : Value) (w4 : World) =>
  ∃ (q2_1 : Option Addr),
  ∃ (k3 : Nat),
  ∃ (k4 : Nat),
  v3 = Value.slice q2_1 k3 k4 ∧
  NewR (32 : Nat) [Value.slice none (0 : Nat) (0 : Nat)] w4 fun (a2 : Addr) (w5 : World) =>
  StoreR a2 [Value.slice q2_1 k3 k4] w5 fun (w6 : World) =>
  ∃ (h1 : Nat → List Value → List Nat → World → Prop),
  (∃ (k5 : Nat), h1 k5 [Value.int IntKind.i64 (0 : Int)] [] w6) ∧
  ∀ (k6 : Nat) (ms1 : List Nat) (w7 : World) (v4 : Value) (n1 : Int) (v5 v6 v7 v8 v9 v10 v11 v12 v13 v14 v15 : Value),
  h1 k6 [Value.int IntKind.i64 n1] ms1 w7 →
  (decide (n1 < (↑l2 : Int)) = true →
  (0 : Int) ≤ n1 ∧
  n1 < (↑l2 : Int) ∧
  someR q2 fun (a3 : Addr) =>
  ∃ (n2 : Int),
  ∃ (n3 : Int),
  ∃ (n4 : Int),
  ∃ (n5 : Int),
  ∃ (n6 : Int),
  (cellAt w7 (Addr.add (Addr.add a3 (Int.toNat n1 * (5 : Nat))) (0 : Nat)) (Value.int IntKind.i64 n2) ∧
  cellAt w7 (Addr.add (Addr.add a3 (Int.toNat n1 * (5 : Nat))) (1 : Nat)) (Value.int IntKind.i64 n3) ∧
  cellAt w7 (Addr.add (Addr.add a3 (Int.toNat n1 * (5 : Nat))) (2 : Nat)) (Value.int IntKind.i64 n4) ∧
  cellAt w7 (Addr.add (Addr.add a3 (Int.toNat n1 * (5 : Nat))) (3 : Nat)) (Value.int IntKind.i64 n5) ∧
  cellAt w7 (Addr.add (Addr.add a3 (Int.toNat n1 * (5 : Nat))) (4 : Nat)) (Value.int IntKind.i64 n6)) ∧
  NewR (25 : Nat)
  [Value.int IntKind.i64 (0 : Int), Value.int IntKind.i64 (0 : Int), Value.int IntKind.i64 (0 : Int),
  Value.int IntKind.i64 (0 : Int), Value.int IntKind.i64 (0 : Int)]
  w7 fun (a4 : Addr) (w8 : World) =>
  StoreR a4
  [Value.int IntKind.i64 n2, Value.int IntKind.i64 n3, Value.int IntKind.i64 n4, Value.int IntKind.i64 n5,
  Value.int IntKind.i64 n6]
  w8 fun (w9 : World) =>
  ∃ (q3 : Option Addr),
  ∃ (k7 : Nat),
  ∃ (k8 : Nat),
  cellAt w9 a2 (Value.slice q3 k7 k8) ∧
  ∃ (n7 : Int),
  cellAt w9 (Addr.add a4 (0 : Nat)) (Value.int IntKind.i64 n7) ∧
  NewR (5 : Nat) [Value.int IntKind.u8 (IntKind.wrap IntKind.u8 n7)] w9 fun (a5 : Addr) (w10 : World) =>
  RunR Tryd.prog
  (builtinV Builtin.append { toList := [(32 : Nat), (32 : Nat)] } (nat_lit 32)
  { toList := [Value.slice q3 k7 k8, Value.slice (some a5) (1 : Nat) (1 : Nat)] })
  w10 fun (v16 : Value) (w11 : World) =>
  ∃ (q4 : Option Addr),
  ∃ (k9 : Nat),
  ∃ (k10 : Nat),
  v16 = Value.slice q4 k9 k10 ∧
  StoreR a2 [Value.slice q4 k9 k10] w11 fun (w12 : World) =>
  Rets Tryd.prog (40 : Nat) { toList := [Value.pointer (some a4)] } w12 fun (v17 : Value) (w13 : World) =>
  ∃ (f1 : Fn),
  ∃ (a6 : Array Value),
  ∃ (c1 : Array Value),
  v17 = Value.func f1 a6 c1 ∧
  ∃ (v18 : Value),
  Value.func f1 a6 c1 = Value.func (Fn.func (67 : Nat)) { toList := [] } { toList := [v18] } ∧
  LoopR w13 fun (k11 k12 : Nat) (L1 : Loop) (w14 : World) =>
  (∀ (q5 : Option Addr) (w15 : World) (h2 : Value → World → Prop),
  RecR k12 L1 w15 →
  (BegR k12 L1 w15 fun (w16 : World) =>
  Drw w16 fun (w17 : World) =>
  ∃ (h3 : World → Prop),
  h3 w17 ∧
  someR q5 fun (a7 : Addr) =>
  ∃ (q6 : Option Addr),
  ∃ (k13 : Nat),
  ∃ (k14 : Nat),
  (∀ (w18 : World), h3 w18 → World.cell? w18 a2 = some (Value.slice q6 k13 k14)) ∧
  ∃ (n8 : Int),
  (∀ (w19 : World), h3 w19 → World.cell? w19 a7 = some (Value.int IntKind.i64 n8)) ∧
  NewR (3 : Nat) [Value.int IntKind.i64 n8] w17 fun (a8 : Addr) (w20 : World) =>
  h3 w20 ∧
  Rets Tryd.prog (62 : Nat) { toList := [Value.slice q6 k13 k14, Value.slice (some a8) (1 : Nat) (1 : Nat)] } w20
  fun (v19 : Value) (w21 : World) =>
  ∃ (q7 : Option Addr),
  ∃ (k15 : Nat),
  ∃ (k16 : Nat),
  v19 = Value.slice q7 k15 k16 ∧
  StoreR a2 [Value.slice q7 k15 k16] w21 fun (w22 : World) =>
  FinR k12 L1 none w22 fun (w23 : World) => h2 (Value.bool true) w23) →
  RoundR Tryd.prog k12 { toList := [Value.pointer q5] } w15 h2) →
  Rets Tryd.prog (67 : Nat) { toList := [Value.func (Fn.yield k12) { toList := [] } { toList := [] }, v18] } w14
  fun (v20 : Value) (w24 : World) =>
  EndR k12 L1 none w24 fun (w25 : World) =>
  ∃ (k17 : Nat), k17 < k6 ∧ h1 k17 [Value.int IntKind.i64 (IntKind.wrap IntKind.i64 (n1 + (1 : Int)))] (k11 :: ms1) w25) ∧
  (decide (n1 < (↑l2 : Int)) = false →
  ∃ (q8 : Option Addr),
  ∃ (k18 : Nat),
  ∃ (k19 : Nat),
  cellAt w7 a2 (Value.slice q8 k18 k19) ∧
  marksR ms1 w7 fun (w26 : World) => K (Value.tuple { toList := [Value.slice q8 k18 k19, Value.bool true] }) w26))
theorem prog_Put_eq (q : Option Addr) (l c : Nat) (q2 : Option Addr) (l2 c2 : Nat) (w : World) (K : Value → World → Prop) : fw Tryd.prog Tryd.f33 (annL [(2, [(8, none), (22, some 3), (23, none), (24, none), (25, none), (26, none), (27, none), (28, none), (29, none), (30, none), (31, none), (32, none), (40, none)]), (6, [(33, some 72)])]) (ordL [(1000006, [(67, 1)]), (10, [(1, 0), (2, 0), (0, 1), (3, 1), (4, 2), (5, 3), (6, 3)])]) [.slice q l c, .slice q2 l2 c2] w K = prog_Put_m q l c q2 l2 c2 w K := by kernel_rfl
theorem prog_Put_go (q : Option Addr) (l c : Nat) (q2 : Option Addr) (l2 c2 : Nat) {w : World} {K : Value → World → Prop} (h : prog_Put_m q l c q2 l2 c2 w K) : Rets Tryd.prog 33 #[.slice q l c, .slice q2 l2 c2] w K :=
  calls_of_fw plain mixed Tryd.func33 (by kernel_rfl) (by rw [prog_Put_eq]; exact h)
def cortadolaw17_awake_m  (w : World) (K : Value → World → Prop) : Prop :=
  NewR (25 : Nat)
  [Value.int IntKind.i64 (1 : Int), Value.int IntKind.i64 (5 : Int), Value.int IntKind.i64 (0 : Int),
  Value.int IntKind.i64 (0 : Int), Value.int IntKind.i64 (0 : Int)]
  w fun (a1 : Addr) (w1 : World) =>
  Rets Tryd.prog (33 : Nat)
  { toList := [Value.slice none (0 : Nat) (0 : Nat), Value.slice (some a1) (1 : Nat) (1 : Nat)] } w1
  fun (v1 : Value) (w2 : World) =>
  ∃ (q1 : Option Addr),
  ∃ (k1 : Nat),
  ∃ (k2 : Nat),
  ∃ (b1 : Bool),
  v1 = Value.tuple { toList := [Value.slice q1 k1 k2, Value.bool b1] } ∧
  (b1 = true →
  RunR Tryd.prog (convert (32 : Nat) (9 : Nat) (Value.slice q1 k1 k2)) w2 fun (v2 : Value) (w3 : World) =>
  ∃ (s1 : ByteArray),
  v2 = Value.string s1 ∧
  ((ByteArray.toList s1 == ByteArray.toList { data := #[(1 : UInt8), (1 : UInt8), (5 : UInt8)] }) = true →
  Rets Tryd.prog (15 : Nat) { toList := [Value.int IntKind.i64 (7 : Int)] } w3 fun (v3 : Value) (w4 : World) =>
  ∃ (s2 : ByteArray),
  v3 = Value.string s2 ∧
  K
  (Value.bool
  (ByteArray.toList s2 ==
  ByteArray.toList { data := #[(108 : UInt8), (105 : UInt8), (109 : UInt8), (105 : UInt8), (116 : UInt8)] }))
  w4) ∧
  ((ByteArray.toList s1 == ByteArray.toList { data := #[(1 : UInt8), (1 : UInt8), (5 : UInt8)] }) = false →
  K (Value.bool false) w3)) ∧
  (b1 = false → K (Value.bool false) w2)
theorem cortadolaw17_awake_eq  (w : World) (K : Value → World → Prop) : fw Tryd.prog Tryd.f7 (annL []) (ordL []) [] w K = cortadolaw17_awake_m  w K := by kernel_rfl
theorem cortadolaw17_awake_go  {w : World} {K : Value → World → Prop} (h : cortadolaw17_awake_m  w K) : Rets Tryd.prog 7 #[] w K :=
  calls_of_fw plain mixed Tryd.func7 (by kernel_rfl) (by rw [cortadolaw17_awake_eq]; exact h)
end Go.Proofs.YtipcbhaeoeghnaaDoor.Eng
