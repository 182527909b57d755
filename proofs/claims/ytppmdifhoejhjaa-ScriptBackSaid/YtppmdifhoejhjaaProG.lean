/- What the code of these functions asks for: printed by a program of this session's (gens.py) out of the seat's own functions; the kernel checks each row. -/
import Derived.Test.YtppmdifhoejhjaaEngH
import Derived.Test.YtppmdifhoejhjaaProg
import Derived.Test.YtppmdifhoejhjaaBase
namespace Go.Proofs.Ytppmdifhoejhjaa.Eng
open Go Go.Proofs
set_option linter.unusedVariables false
set_option maxRecDepth 1000000
def prog_known_m (k : Int) (w : World) (K : Value → World → Prop) : Prop :=
  (decide (k ≥ (0 : Int)) = true → K (Value.bool (decide (k ≤ (7 : Int)))) w) ∧
  (decide (k ≥ (0 : Int)) = false → K (Value.bool false) w)
theorem prog_known_eq (k : Int) (w : World) (K : Value → World → Prop) : fw Try.prog Try.f54 (annL []) (ordL []) [.int .i64 k] w K = prog_known_m k w K := by kernel_rfl
theorem prog_known_go (k : Int) {w : World} {K : Value → World → Prop} (h : prog_known_m k w K) : Rets Try.prog 54 #[.int .i64 k] w K :=
  calls_of_fw plain mixed Try.func54 (by kernel_rfl) (by rw [prog_known_eq]; exact h)
def prog_own_m (g : Nat) (w : World) (K : Value → World → Prop) : Prop :=
  NewR (72 : Nat) [Value.pointer (some { block := g, off := (0 : Nat) })] w fun (a1 : Addr) (w1 : World) =>
  K (Value.func (Fn.func (58 : Nat)) { toList := [] } { toList := [Value.pointer (some a1)] }) w1
theorem prog_own_eq (g : Nat) (w : World) (K : Value → World → Prop) : fw Try.prog Try.f50 (annL []) (ordL []) [.pointer (some ⟨g, 0, none⟩)] w K = prog_own_m g w K := by kernel_rfl
theorem prog_own_go (g : Nat) {w : World} {K : Value → World → Prop} (h : prog_own_m g w K) : Rets Try.prog 50 #[.pointer (some ⟨g, 0, none⟩)] w K :=
  calls_of_fw plain mixed Try.func50 (by kernel_rfl) (by rw [prog_own_eq]; exact h)
def prog_own_1_m (l b : Nat) (w : World) (K : Value → World → Prop) : Prop :=
  ∃ (q1 : Option Addr),
  cellAt w { block := b, off := (0 : Nat) } (Value.pointer q1) ∧
  someR q1 fun (a1 : Addr) =>
  ∃ (n1 : Int),
  cellAt w (Addr.add a1 (0 : Nat)) (Value.int IntKind.i64 n1) ∧
  ∃ (h1 : List Value → World → Prop),
  (((n1 == (1 : Int)) = true →
  ∃ (q2 : Option Addr),
  cellAt w { block := b, off := (0 : Nat) } (Value.pointer q2) ∧
  someR q2 fun (a2 : Addr) =>
  NewR (73 : Nat) [Value.pointer (some (Addr.add a2 (1 : Nat)))] w fun (a3 : Addr) (w1 : World) =>
  h1 [Value.slice (some a3) (1 : Nat) (1 : Nat)] w1) ∧
  ((n1 == (1 : Int)) = false →
  ((n1 == (3 : Int)) = true →
  ∃ (q3 : Option Addr),
  cellAt w { block := b, off := (0 : Nat) } (Value.pointer q3) ∧
  someR q3 fun (a4 : Addr) =>
  NewR (73 : Nat) [Value.pointer (some (Addr.add a4 (1 : Nat)))] w fun (a5 : Addr) (w2 : World) =>
  h1 [Value.slice (some a5) (1 : Nat) (1 : Nat)] w2) ∧
  ((n1 == (3 : Int)) = false →
  ((n1 == (2 : Int)) = true →
  Drw w fun (w3 : World) =>
  ∃ (q4 : Option Addr),
  cellAt w3 { block := b, off := (0 : Nat) } (Value.pointer q4) ∧
  someR q4 fun (a6 : Addr) =>
  ∃ (q5 : Option Addr),
  cellAt w3 { block := b, off := (0 : Nat) } (Value.pointer q5) ∧
  someR q5 fun (a7 : Addr) =>
  ∃ (q6 : Option Addr),
  cellAt w3 { block := b, off := (0 : Nat) } (Value.pointer q6) ∧
  someR q6 fun (a8 : Addr) =>
  ∃ (q7 : Option Addr),
  cellAt w3 { block := b, off := (0 : Nat) } (Value.pointer q7) ∧
  someR q7 fun (a9 : Addr) =>
  NewR (73 : Nat)
  [Value.pointer (some (Addr.add a6 (1 : Nat))), Value.pointer (some (Addr.add a7 (2 : Nat))),
  Value.pointer (some (Addr.add a8 (3 : Nat))), Value.pointer (some (Addr.add a9 (4 : Nat)))]
  w3 fun (a10 : Addr) (w4 : World) => h1 [Value.slice (some a10) (4 : Nat) (4 : Nat)] w4) ∧
  ((n1 == (2 : Int)) = false →
  ((n1 == (7 : Int)) = true →
  ∃ (q8 : Option Addr),
  cellAt w { block := b, off := (0 : Nat) } (Value.pointer q8) ∧
  someR q8 fun (a11 : Addr) =>
  NewR (73 : Nat) [Value.pointer (some (Addr.add a11 (3 : Nat)))] w fun (a12 : Addr) (w5 : World) =>
  h1 [Value.slice (some a12) (1 : Nat) (1 : Nat)] w5) ∧
  ((n1 == (7 : Int)) = false → h1 [Value.slice none (0 : Nat) (0 : Nat)] w))))) ∧
  ∀ (w6 : World) (q9 : Option Addr) (k1 k2 : Nat)
  (v1 v2 v3 v4 v5 v6 v7 v8 v9 v10 v11 v12 v13 v14 v15 v16 v17 v18 v19 v20 v21 v22 v23 v24 v25 v26 v27 v28 : Value),
  h1 [Value.slice q9 k1 k2] w6 →
  ∃ (h2 : Nat → List Value → World → Prop),
  (∃ (k3 : Nat), h2 k3 [Value.int IntKind.i64 (0 : Int)] w6) ∧
  ∀ (k4 : Nat) (w7 : World) (v29 : Value) (n2 : Int) (v30 v31 v32 v33 v34 v35 v36 v37 : Value),
  h2 k4 [Value.int IntKind.i64 n2] w7 →
  (decide (n2 < (↑k1 : Int)) = true →
  (0 : Int) ≤ n2 ∧
  n2 < (↑k1 : Int) ∧
  someR q9 fun (a13 : Addr) =>
  ∃ (q10 : Option Addr),
  cellAt w7 (Addr.add a13 (Int.toNat n2 * (1 : Nat))) (Value.pointer q10) ∧
  RoundR Try.prog l { toList := [Value.pointer q10] } w7 fun (v38 : Value) (w8 : World) =>
  ∃ (b1 : Bool),
  v38 = Value.bool b1 ∧
  ((!b1) = true → K (Value.tuple { toList := [] }) w8) ∧
  ((!b1) = false →
  ∃ (k5 : Nat), k5 < k4 ∧ h2 k5 [Value.int IntKind.i64 (IntKind.wrap IntKind.i64 (n2 + (1 : Int)))] w8)) ∧
  (decide (n2 < (↑k1 : Int)) = false → K (Value.tuple { toList := [] }) w7)
theorem prog_own_1_eq (l b : Nat) (w : World) (K : Value → World → Prop) : fw Try.prog Try.f58 (annL [(0, [(3, some 81), (10, none), (11, none), (12, none), (13, none), (14, none), (15, none), (16, none), (17, none), (18, none), (19, none), (20, none), (21, none), (22, none), (23, none), (24, none), (25, none), (26, none), (27, none), (28, none), (29, none), (30, none), (31, none), (32, none), (33, none), (34, none), (35, none), (36, none), (37, none)]), (6, [(5, none), (40, some 3), (41, none), (42, none), (43, none), (44, none), (45, none), (46, none), (47, none), (48, none)])]) (ordL [(6, [(0, 1), (1, 0), (2, 0), (3, 1), (4, 0), (5, 0), (6, 1), (7, 0), (8, 0), (9, 1), (10, 0), (11, 0), (12, 3), (13, 0)])]) [.func (.yield l) #[] #[], .pointer (some ⟨b, 0, none⟩)] w K = prog_own_1_m l b w K := by kernel_rfl
theorem prog_own_1_go (l b : Nat) {w : World} {K : Value → World → Prop} (h : prog_own_1_m l b w K) : Rets Try.prog 58 #[.func (.yield l) #[] #[], .pointer (some ⟨b, 0, none⟩)] w K :=
  calls_of_fw plain mixed Try.func58 (by kernel_rfl) (by rw [prog_own_1_eq]; exact h)
def prog_Bare_m (k0 k1 k2 k3 k4 : Int) (w : World) (K : Value → World → Prop) : Prop :=
  NewR (50 : Nat)
  [Value.int IntKind.i64 k0, Value.int IntKind.i64 k1, Value.int IntKind.i64 k2, Value.int IntKind.i64 k3,
  Value.int IntKind.i64 k4]
  w fun (a1 : Addr) (w1 : World) =>
  NewR (50 : Nat)
  [Value.int IntKind.i64 (0 : Int), Value.int IntKind.i64 (0 : Int), Value.int IntKind.i64 (0 : Int),
  Value.int IntKind.i64 (0 : Int), Value.int IntKind.i64 (0 : Int)]
  w1 fun (a2 : Addr) (w2 : World) =>
  ∃ (n1 : Int),
  cellAt w2 (Addr.add a1 (0 : Nat)) (Value.int IntKind.i64 n1) ∧
  Rets Try.prog (54 : Nat) { toList := [Value.int IntKind.i64 n1] } w2 fun (v1 : Value) (w3 : World) =>
  ∃ (b1 : Bool),
  v1 = Value.bool b1 ∧
  ((!b1) = true →
  StoreR a2
  [Value.int IntKind.i64 (0 : Int), Value.int IntKind.i64 (0 : Int), Value.int IntKind.i64 (0 : Int),
  Value.int IntKind.i64 (0 : Int), Value.int IntKind.i64 (0 : Int)]
  w3 fun (w4 : World) =>
  ∃ (n2 : Int),
  ∃ (n3 : Int),
  ∃ (n4 : Int),
  ∃ (n5 : Int),
  ∃ (n6 : Int),
  (cellAt w4 (Addr.add a2 (0 : Nat)) (Value.int IntKind.i64 n2) ∧
  cellAt w4 (Addr.add a2 (1 : Nat)) (Value.int IntKind.i64 n3) ∧
  cellAt w4 (Addr.add a2 (2 : Nat)) (Value.int IntKind.i64 n4) ∧
  cellAt w4 (Addr.add a2 (3 : Nat)) (Value.int IntKind.i64 n5) ∧
  cellAt w4 (Addr.add a2 (4 : Nat)) (Value.int IntKind.i64 n6)) ∧
  K
  (Value.agg
  {
  toList :=
  [Value.int IntKind.i64 n2, Value.int IntKind.i64 n3, Value.int IntKind.i64 n4, Value.int IntKind.i64 n5,
  Value.int IntKind.i64 n6] })
  w4) ∧
  ((!b1) = false →
  ∃ (n7 : Int),
  cellAt w3 (Addr.add a1 (0 : Nat)) (Value.int IntKind.i64 n7) ∧
  NewR (50 : Nat)
  [Value.int IntKind.i64 (0 : Int), Value.int IntKind.i64 (0 : Int), Value.int IntKind.i64 (0 : Int),
  Value.int IntKind.i64 (0 : Int), Value.int IntKind.i64 (0 : Int)]
  w3 fun (a3 : Addr) (w5 : World) =>
  StoreR a3
  [Value.int IntKind.i64 n7, Value.int IntKind.i64 (0 : Int), Value.int IntKind.i64 (0 : Int),
  Value.int IntKind.i64 (0 : Int), Value.int IntKind.i64 (0 : Int)]
  w5 fun (w6 : World) =>
  NewR (25 : Nat) [Value.slice none (0 : Nat) (0 : Nat)] w6 fun (a4 : Addr) (w7 : World) =>
  Rets Try.prog (50 : Nat) { toList := [Value.pointer (some a1)] } w7 fun (v2 : Value) (w8 : World) =>
  ∃ (k1 : Nat),
  ∃ (a5 : Array Value),
  ∃ (c1 : Array Value),
  v2 = Value.func (Fn.func k1) a5 c1 ∧
  ∃ (v3 : Value),
  Value.func (Fn.func k1) a5 c1 = Value.func (Fn.func (58 : Nat)) { toList := [] } { toList := [v3] } ∧
  LoopR w8 fun (k2 k3 : Nat) (L1 : Loop) (w9 : World) =>
  (∀ (q1 : Option Addr) (w10 : World) (h1 : Value → World → Prop),
  RecR k3 L1 w10 →
  (BegR k3 L1 w10 fun (w11 : World) =>
  Drw w11 fun (w12 : World) =>
  ∃ (h2 : World → Prop),
  h2 w12 ∧
  someR q1 fun (a6 : Addr) =>
  ∃ (q2 : Option Addr),
  ∃ (k4 : Nat),
  ∃ (k5 : Nat),
  (∀ (w13 : World), h2 w13 → World.cell? w13 a4 = some (Value.slice q2 k4 k5)) ∧
  ∃ (n8 : Int),
  (∀ (w14 : World), h2 w14 → World.cell? w14 a6 = some (Value.int IntKind.i64 n8)) ∧
  NewR (3 : Nat) [Value.int IntKind.i64 n8] w12 fun (a7 : Addr) (w15 : World) =>
  h2 w15 ∧
  RunR Try.prog
  (builtinV Builtin.append { toList := [(25 : Nat), (25 : Nat)] } (nat_lit 25)
  { toList := [Value.slice q2 k4 k5, Value.slice (some a7) (1 : Nat) (1 : Nat)] })
  w15 fun (v4 : Value) (w16 : World) =>
  ∃ (q3 : Option Addr),
  ∃ (k6 : Nat),
  ∃ (k7 : Nat),
  v4 = Value.slice q3 k6 k7 ∧
  StoreR a4 [Value.slice q3 k6 k7] w16 fun (w17 : World) =>
  FinR k3 L1 none w17 fun (w18 : World) => h1 (Value.bool true) w18) →
  RoundR Try.prog k3 { toList := [Value.pointer q1] } w10 h1) →
  Rets Try.prog (58 : Nat) { toList := [Value.func (Fn.yield k3) { toList := [] } { toList := [] }, v3] } w9
  fun (v5 : Value) (w19 : World) =>
  EndR k3 L1 none w19 fun (w20 : World) =>
  Rets Try.prog (50 : Nat) { toList := [Value.pointer (some a3)] } w20 fun (v6 : Value) (w21 : World) =>
  ∃ (k8 : Nat),
  ∃ (a8 : Array Value),
  ∃ (c2 : Array Value),
  v6 = Value.func (Fn.func k8) a8 c2 ∧
  ∃ (v7 : Value),
  Value.func (Fn.func k8) a8 c2 = Value.func (Fn.func (58 : Nat)) { toList := [] } { toList := [v7] } ∧
  LoopR w21 fun (k9 k10 : Nat) (L2 : Loop) (w22 : World) =>
  (∀ (q4 : Option Addr) (w23 : World) (h3 : Value → World → Prop),
  RecR k10 L2 w23 →
  (BegR k10 L2 w23 fun (w24 : World) =>
  Drw w24 fun (w25 : World) =>
  ∃ (h4 : World → Prop),
  h4 w25 ∧
  ∃ (q5 : Option Addr),
  ∃ (k11 : Nat),
  ∃ (k12 : Nat),
  (∀ (w26 : World), h4 w26 → World.cell? w26 a4 = some (Value.slice q5 k11 k12)) ∧
  (0 : Int) ≤ (0 : Int) ∧
  (0 : Int) < (↑k11 : Int) ∧
  someR q5 fun (a9 : Addr) =>
  ∃ (n9 : Int),
  (∀ (w27 : World), h4 w27 → World.cell? w27 (Addr.add a9 (0 : Nat)) = some (Value.int IntKind.i64 n9)) ∧
  someR q4 fun (a10 : Addr) =>
  ∃ (q6 : Option Addr),
  ∃ (k13 : Nat),
  ∃ (k14 : Nat),
  (∀ (w28 : World), h4 w28 → World.cell? w28 a4 = some (Value.slice q6 k13 k14)) ∧
  (0 : Int) ≤ (1 : Int) ∧
  (1 : Int) ≤ (↑k13 : Int) ∧
  StoreR a10 [Value.int IntKind.i64 n9] w25 fun (w29 : World) =>
  h4 w29 ∧
  StoreR a4 [Value.slice (slcA q6 (1 : Nat) k14 (1 : Nat)) (k13 - (1 : Nat)) (k14 - (1 : Nat))] w29 fun (w30 : World) =>
  FinR k10 L2 none w30 fun (w31 : World) => h3 (Value.bool true) w31) →
  RoundR Try.prog k10 { toList := [Value.pointer q4] } w23 h3) →
  Rets Try.prog (58 : Nat) { toList := [Value.func (Fn.yield k10) { toList := [] } { toList := [] }, v7] } w22
  fun (v8 : Value) (w32 : World) =>
  EndR k10 L2 none w32 fun (w33 : World) =>
  ∃ (n10 : Int),
  ∃ (n11 : Int),
  ∃ (n12 : Int),
  ∃ (n13 : Int),
  ∃ (n14 : Int),
  (cellAt w33 (Addr.add a3 (0 : Nat)) (Value.int IntKind.i64 n10) ∧
  cellAt w33 (Addr.add a3 (1 : Nat)) (Value.int IntKind.i64 n11) ∧
  cellAt w33 (Addr.add a3 (2 : Nat)) (Value.int IntKind.i64 n12) ∧
  cellAt w33 (Addr.add a3 (3 : Nat)) (Value.int IntKind.i64 n13) ∧
  cellAt w33 (Addr.add a3 (4 : Nat)) (Value.int IntKind.i64 n14)) ∧
  StoreR a2
  [Value.int IntKind.i64 n10, Value.int IntKind.i64 n11, Value.int IntKind.i64 n12, Value.int IntKind.i64 n13,
  Value.int IntKind.i64 n14]
  w33 fun (w34 : World) =>
  MarkR k9 w34 fun (w35 : World) =>
  MarkR k2 w35 fun (w36 : World) =>
  ∃ (n15 : Int),
  ∃ (n16 : Int),
  ∃ (n17 : Int),
  ∃ (n18 : Int),
  ∃ (n19 : Int),
  (cellAt w36 (Addr.add a2 (0 : Nat)) (Value.int IntKind.i64 n15) ∧
  cellAt w36 (Addr.add a2 (1 : Nat)) (Value.int IntKind.i64 n16) ∧
  cellAt w36 (Addr.add a2 (2 : Nat)) (Value.int IntKind.i64 n17) ∧
  cellAt w36 (Addr.add a2 (3 : Nat)) (Value.int IntKind.i64 n18) ∧
  cellAt w36 (Addr.add a2 (4 : Nat)) (Value.int IntKind.i64 n19)) ∧
  K
  (Value.agg
  {
  toList :=
  [Value.int IntKind.i64 n15, Value.int IntKind.i64 n16, Value.int IntKind.i64 n17, Value.int IntKind.i64 n18,
  Value.int IntKind.i64 n19] })
  w36)
theorem prog_Bare_eq (k0 k1 k2 k3 k4 : Int) (w : World) (K : Value → World → Prop) : fw Try.prog Try.f55 (annL [(2, [(16, some 73)]), (5, [(24, some 73)])]) (ordL [(1000002, [(58, 1)]), (7, [(1, 0), (2, 0), (0, 1), (3, 1), (4, 2), (5, 3), (6, 3)]), (1000005, [(58, 1)]), (10, [(0, 0), (1, 1), (2, 0), (3, 1), (6, 0), (4, 1), (5, 0), (7, 2), (8, 3)])]) [.agg #[.int .i64 k0, .int .i64 k1, .int .i64 k2, .int .i64 k3, .int .i64 k4]] w K = prog_Bare_m k0 k1 k2 k3 k4 w K := by kernel_rfl
theorem prog_Bare_go (k0 k1 k2 k3 k4 : Int) {w : World} {K : Value → World → Prop} (h : prog_Bare_m k0 k1 k2 k3 k4 w K) : Rets Try.prog 55 #[.agg #[.int .i64 k0, .int .i64 k1, .int .i64 k2, .int .i64 k3, .int .i64 k4]] w K :=
  calls_of_fw plain mixed Try.func55 (by kernel_rfl) (by rw [prog_Bare_eq]; exact h)
def prog_Right_m (k0 k1 k2 k3 k4 : Int) (w : World) (K : Value → World → Prop) : Prop :=
  NewR (50 : Nat)
  [Value.int IntKind.i64 k0, Value.int IntKind.i64 k1, Value.int IntKind.i64 k2, Value.int IntKind.i64 k3,
  Value.int IntKind.i64 k4]
  w fun (a1 : Addr) (w1 : World) =>
  Drw w1 fun (w2 : World) =>
  ∃ (h1 : World → Prop),
  h1 w2 ∧
  ∃ (n1 : Int),
  (∀ (w3 : World), h1 w3 → World.cell? w3 (Addr.add a1 (0 : Nat)) = some (Value.int IntKind.i64 n1)) ∧
  Rets Try.prog (54 : Nat) { toList := [Value.int IntKind.i64 n1] } w2 fun (v1 : Value) (w4 : World) =>
  ∃ (b1 : Bool),
  v1 = Value.bool b1 ∧
  h1 w4 ∧
  (b1 = true →
  ∃ (n2 : Int),
  ∃ (n3 : Int),
  ∃ (n4 : Int),
  ∃ (n5 : Int),
  ∃ (n6 : Int),
  ((∀ (w5 : World), h1 w5 → World.cell? w5 (Addr.add a1 (0 : Nat)) = some (Value.int IntKind.i64 n2)) ∧
  (∀ (w6 : World), h1 w6 → World.cell? w6 (Addr.add a1 ((0 : Nat) + (1 : Nat))) = some (Value.int IntKind.i64 n3)) ∧
  (∀ (w7 : World),
  h1 w7 → World.cell? w7 (Addr.add a1 ((0 : Nat) + (1 : Nat) + (1 : Nat))) = some (Value.int IntKind.i64 n4)) ∧
  (∀ (w8 : World),
  h1 w8 →
  World.cell? w8 (Addr.add a1 ((0 : Nat) + (1 : Nat) + (1 : Nat) + (1 : Nat))) = some (Value.int IntKind.i64 n5)) ∧
  ∀ (w9 : World),
  h1 w9 →
  World.cell? w9 (Addr.add a1 ((0 : Nat) + (1 : Nat) + (1 : Nat) + (1 : Nat) + (1 : Nat))) =
  some (Value.int IntKind.i64 n6)) ∧
  ∃ (n7 : Int),
  ∃ (n8 : Int),
  ∃ (n9 : Int),
  ∃ (n10 : Int),
  ∃ (n11 : Int),
  ((∀ (w10 : World), h1 w10 → World.cell? w10 (Addr.add a1 (0 : Nat)) = some (Value.int IntKind.i64 n7)) ∧
  (∀ (w11 : World), h1 w11 → World.cell? w11 (Addr.add a1 ((0 : Nat) + (1 : Nat))) = some (Value.int IntKind.i64 n8)) ∧
  (∀ (w12 : World),
  h1 w12 → World.cell? w12 (Addr.add a1 ((0 : Nat) + (1 : Nat) + (1 : Nat))) = some (Value.int IntKind.i64 n9)) ∧
  (∀ (w13 : World),
  h1 w13 →
  World.cell? w13 (Addr.add a1 ((0 : Nat) + (1 : Nat) + (1 : Nat) + (1 : Nat))) = some (Value.int IntKind.i64 n10)) ∧
  ∀ (w14 : World),
  h1 w14 →
  World.cell? w14 (Addr.add a1 ((0 : Nat) + (1 : Nat) + (1 : Nat) + (1 : Nat) + (1 : Nat))) =
  some (Value.int IntKind.i64 n11)) ∧
  Rets Try.prog (55 : Nat)
  {
  toList :=
  [Value.agg
  {
  toList :=
  [Value.int IntKind.i64 n2, Value.int IntKind.i64 n3, Value.int IntKind.i64 n4, Value.int IntKind.i64 n5,
  Value.int IntKind.i64 n6] }] }
  w4 fun (v2 : Value) (w15 : World) =>
  ∃ (n12 : Int),
  ∃ (n13 : Int),
  ∃ (n14 : Int),
  ∃ (n15 : Int),
  ∃ (n16 : Int),
  v2 =
  Value.agg
  {
  toList :=
  [Value.int IntKind.i64 n12, Value.int IntKind.i64 n13, Value.int IntKind.i64 n14, Value.int IntKind.i64 n15,
  Value.int IntKind.i64 n16] } ∧
  h1 w15 ∧ K (Value.bool (n12 == n7 && (n13 == n8 && (n14 == n9 && (n15 == n10 && n16 == n11))))) w15) ∧
  (b1 = false → K (Value.bool false) w4)
theorem prog_Right_eq (k0 k1 k2 k3 k4 : Int) (w : World) (K : Value → World → Prop) : fw Try.prog Try.f44 (annL []) (ordL [(1, [(0, 0), (1, 1), (2, 2), (3, 0), (4, 1), (6, 1), (5, 2), (7, 0), (8, 0), (9, 0)])]) [.agg #[.int .i64 k0, .int .i64 k1, .int .i64 k2, .int .i64 k3, .int .i64 k4]] w K = prog_Right_m k0 k1 k2 k3 k4 w K := by kernel_rfl
theorem prog_Right_go (k0 k1 k2 k3 k4 : Int) {w : World} {K : Value → World → Prop} (h : prog_Right_m k0 k1 k2 k3 k4 w K) : Rets Try.prog 44 #[.agg #[.int .i64 k0, .int .i64 k1, .int .i64 k2, .int .i64 k3, .int .i64 k4]] w K :=
  calls_of_fw plain mixed Try.func44 (by kernel_rfl) (by rw [prog_Right_eq]; exact h)
def prog_Fine_1_m (k0 k1 k2 k3 k4 : Int) (w : World) (K : Value → World → Prop) : Prop :=
  NewR (50 : Nat)
  [Value.int IntKind.i64 k0, Value.int IntKind.i64 k1, Value.int IntKind.i64 k2, Value.int IntKind.i64 k3,
  Value.int IntKind.i64 k4]
  w fun (a1 : Addr) (w1 : World) =>
  ∃ (n1 : Int),
  ∃ (n2 : Int),
  ∃ (n3 : Int),
  ∃ (n4 : Int),
  ∃ (n5 : Int),
  (cellAt w1 (Addr.add a1 (0 : Nat)) (Value.int IntKind.i64 n1) ∧
  cellAt w1 (Addr.add a1 (1 : Nat)) (Value.int IntKind.i64 n2) ∧
  cellAt w1 (Addr.add a1 (2 : Nat)) (Value.int IntKind.i64 n3) ∧
  cellAt w1 (Addr.add a1 (3 : Nat)) (Value.int IntKind.i64 n4) ∧
  cellAt w1 (Addr.add a1 (4 : Nat)) (Value.int IntKind.i64 n5)) ∧
  Rets Try.prog (44 : Nat)
  {
  toList :=
  [Value.agg
  {
  toList :=
  [Value.int IntKind.i64 n1, Value.int IntKind.i64 n2, Value.int IntKind.i64 n3, Value.int IntKind.i64 n4,
  Value.int IntKind.i64 n5] }] }
  w1 fun (v1 : Value) (w2 : World) => ∃ (b1 : Bool), v1 = Value.bool b1 ∧ K (Value.bool !b1) w2
theorem prog_Fine_1_eq (k0 k1 k2 k3 k4 : Int) (w : World) (K : Value → World → Prop) : fw Try.prog Try.f43 (annL []) (ordL []) [.agg #[.int .i64 k0, .int .i64 k1, .int .i64 k2, .int .i64 k3, .int .i64 k4]] w K = prog_Fine_1_m k0 k1 k2 k3 k4 w K := by kernel_rfl
theorem prog_Fine_1_go (k0 k1 k2 k3 k4 : Int) {w : World} {K : Value → World → Prop} (h : prog_Fine_1_m k0 k1 k2 k3 k4 w K) : Rets Try.prog 43 #[.agg #[.int .i64 k0, .int .i64 k1, .int .i64 k2, .int .i64 k3, .int .i64 k4]] w K :=
  calls_of_fw plain mixed Try.func43 (by kernel_rfl) (by rw [prog_Fine_1_eq]; exact h)
def ops_Index_m (q : Option Addr) (l c : Nat) (w : World) (K : Value → World → Prop) : Prop :=
  ∃ (h1 : Nat → List Value → World → Prop),
  (∃ (k1 : Nat), h1 k1 [Value.int IntKind.i64 (0 : Int)] w) ∧
  ∀ (k2 : Nat) (w1 : World) (v1 v2 : Value) (n1 : Int) (v3 v4 v5 v6 v7 v8 v9 v10 v11 v12 : Value),
  h1 k2 [Value.int IntKind.i64 n1] w1 →
  (decide (n1 < (↑l : Int)) = true →
  (0 : Int) ≤ n1 ∧
  n1 < (↑l : Int) ∧
  someR q fun (a1 : Addr) =>
  ∃ (n2 : Int),
  ∃ (n3 : Int),
  ∃ (n4 : Int),
  ∃ (n5 : Int),
  ∃ (n6 : Int),
  (cellAt w1 (Addr.add (Addr.add a1 (Int.toNat n1 * (5 : Nat))) (0 : Nat)) (Value.int IntKind.i64 n2) ∧
  cellAt w1 (Addr.add (Addr.add a1 (Int.toNat n1 * (5 : Nat))) (1 : Nat)) (Value.int IntKind.i64 n3) ∧
  cellAt w1 (Addr.add (Addr.add a1 (Int.toNat n1 * (5 : Nat))) (2 : Nat)) (Value.int IntKind.i64 n4) ∧
  cellAt w1 (Addr.add (Addr.add a1 (Int.toNat n1 * (5 : Nat))) (3 : Nat)) (Value.int IntKind.i64 n5) ∧
  cellAt w1 (Addr.add (Addr.add a1 (Int.toNat n1 * (5 : Nat))) (4 : Nat)) (Value.int IntKind.i64 n6)) ∧
  Rets Try.prog (43 : Nat)
  {
  toList :=
  [Value.agg
  {
  toList :=
  [Value.int IntKind.i64 n2, Value.int IntKind.i64 n3, Value.int IntKind.i64 n4, Value.int IntKind.i64 n5,
  Value.int IntKind.i64 n6] }] }
  w1 fun (v13 : Value) (w2 : World) =>
  ∃ (b1 : Bool),
  v13 = Value.bool b1 ∧
  (b1 = true → K (Value.int IntKind.i64 n1) w2) ∧
  (b1 = false → ∃ (k3 : Nat), k3 < k2 ∧ h1 k3 [Value.int IntKind.i64 (IntKind.wrap IntKind.i64 (n1 + (1 : Int)))] w2)) ∧
  (decide (n1 < (↑l : Int)) = false → K (Value.int IntKind.i64 (-1 : Int)) w1)
theorem ops_Index_eq (q : Option Addr) (l c : Nat) (w : World) (K : Value → World → Prop) : fw Try.prog Try.f56 (annL [(1, [(4, none), (5, none), (8, some 3), (9, none), (10, none), (11, none), (12, none), (13, none), (14, none), (15, none), (16, none), (17, none), (18, none)])]) (ordL []) [.slice q l c, .func (.func 43) #[] #[]] w K = ops_Index_m q l c w K := by kernel_rfl
theorem ops_Index_go (q : Option Addr) (l c : Nat) {w : World} {K : Value → World → Prop} (h : ops_Index_m q l c w K) : Rets Try.prog 56 #[.slice q l c, .func (.func 43) #[] #[]] w K :=
  calls_of_fw plain mixed Try.func56 (by kernel_rfl) (by rw [ops_Index_eq]; exact h)
def ops_Contains_m (q : Option Addr) (l c : Nat) (w : World) (K : Value → World → Prop) : Prop :=
  Rets Try.prog (56 : Nat)
  { toList := [Value.slice q l c, Value.func (Fn.func (43 : Nat)) { toList := [] } { toList := [] }] } w
  fun (v1 : Value) (w1 : World) =>
  ∃ (n1 : Int), v1 = Value.int IntKind.i64 n1 ∧ K (Value.bool (decide (n1 ≥ (0 : Int)))) w1
theorem ops_Contains_eq (q : Option Addr) (l c : Nat) (w : World) (K : Value → World → Prop) : fw Try.prog Try.f45 (annL []) (ordL []) [.slice q l c, .func (.func 43) #[] #[]] w K = ops_Contains_m q l c w K := by kernel_rfl
theorem ops_Contains_go (q : Option Addr) (l c : Nat) {w : World} {K : Value → World → Prop} (h : ops_Contains_m q l c w K) : Rets Try.prog 45 #[.slice q l c, .func (.func 43) #[] #[]] w K :=
  calls_of_fw plain mixed Try.func45 (by kernel_rfl) (by rw [ops_Contains_eq]; exact h)
def prog_Fine_m (q : Option Addr) (l c : Nat) (w : World) (K : Value → World → Prop) : Prop :=
  (decide ((↑l : Int) ≤ (24 : Int)) = true →
  Rets Try.prog (45 : Nat)
  { toList := [Value.slice q l c, Value.func (Fn.func (43 : Nat)) { toList := [] } { toList := [] }] } w
  fun (v1 : Value) (w1 : World) => ∃ (b1 : Bool), v1 = Value.bool b1 ∧ K (Value.bool !b1) w1) ∧
  (decide ((↑l : Int) ≤ (24 : Int)) = false → K (Value.bool false) w)
theorem prog_Fine_eq (q : Option Addr) (l c : Nat) (w : World) (K : Value → World → Prop) : fw Try.prog Try.f21 (annL []) (ordL []) [.slice q l c] w K = prog_Fine_m q l c w K := by kernel_rfl
theorem prog_Fine_go (q : Option Addr) (l c : Nat) {w : World} {K : Value → World → Prop} (h : prog_Fine_m q l c w K) : Rets Try.prog 21 #[.slice q l c] w K :=
  calls_of_fw plain mixed Try.func21 (by kernel_rfl) (by rw [prog_Fine_eq]; exact h)
def cortadoref17_Bare_m (k0 k1 k2 k3 k4 : Int) (w : World) (K : Value → World → Prop) : Prop :=
  NewR (50 : Nat)
  [Value.int IntKind.i64 k0, Value.int IntKind.i64 k1, Value.int IntKind.i64 k2, Value.int IntKind.i64 k3,
  Value.int IntKind.i64 k4]
  w fun (a1 : Addr) (w1 : World) =>
  NewR (50 : Nat)
  [Value.int IntKind.i64 (0 : Int), Value.int IntKind.i64 (0 : Int), Value.int IntKind.i64 (0 : Int),
  Value.int IntKind.i64 (0 : Int), Value.int IntKind.i64 (0 : Int)]
  w1 fun (a2 : Addr) (w2 : World) =>
  ∃ (n1 : Int),
  cellAt w2 (Addr.add a1 (0 : Nat)) (Value.int IntKind.i64 n1) ∧
  ((n1 == (1 : Int)) = true →
  ∃ (n2 : Int),
  cellAt w2 (Addr.add a1 (0 : Nat)) (Value.int IntKind.i64 n2) ∧
  ∃ (n3 : Int),
  cellAt w2 (Addr.add a1 (1 : Nat)) (Value.int IntKind.i64 n3) ∧
  StoreR a2
  [Value.int IntKind.i64 n2, Value.int IntKind.i64 n3, Value.int IntKind.i64 (0 : Int), Value.int IntKind.i64 (0 : Int),
  Value.int IntKind.i64 (0 : Int)]
  w2 fun (w3 : World) =>
  ∃ (n4 : Int),
  ∃ (n5 : Int),
  ∃ (n6 : Int),
  ∃ (n7 : Int),
  ∃ (n8 : Int),
  (cellAt w3 (Addr.add a2 (0 : Nat)) (Value.int IntKind.i64 n4) ∧
  cellAt w3 (Addr.add a2 (1 : Nat)) (Value.int IntKind.i64 n5) ∧
  cellAt w3 (Addr.add a2 (2 : Nat)) (Value.int IntKind.i64 n6) ∧
  cellAt w3 (Addr.add a2 (3 : Nat)) (Value.int IntKind.i64 n7) ∧
  cellAt w3 (Addr.add a2 (4 : Nat)) (Value.int IntKind.i64 n8)) ∧
  K
  (Value.agg
  {
  toList :=
  [Value.int IntKind.i64 n4, Value.int IntKind.i64 n5, Value.int IntKind.i64 n6, Value.int IntKind.i64 n7,
  Value.int IntKind.i64 n8] })
  w3) ∧
  ((n1 == (1 : Int)) = false →
  ((n1 == (3 : Int)) = true →
  ∃ (n9 : Int),
  cellAt w2 (Addr.add a1 (0 : Nat)) (Value.int IntKind.i64 n9) ∧
  ∃ (n10 : Int),
  cellAt w2 (Addr.add a1 (1 : Nat)) (Value.int IntKind.i64 n10) ∧
  StoreR a2
  [Value.int IntKind.i64 n9, Value.int IntKind.i64 n10, Value.int IntKind.i64 (0 : Int), Value.int IntKind.i64 (0 : Int),
  Value.int IntKind.i64 (0 : Int)]
  w2 fun (w4 : World) =>
  ∃ (n11 : Int),
  ∃ (n12 : Int),
  ∃ (n13 : Int),
  ∃ (n14 : Int),
  ∃ (n15 : Int),
  (cellAt w4 (Addr.add a2 (0 : Nat)) (Value.int IntKind.i64 n11) ∧
  cellAt w4 (Addr.add a2 (1 : Nat)) (Value.int IntKind.i64 n12) ∧
  cellAt w4 (Addr.add a2 (2 : Nat)) (Value.int IntKind.i64 n13) ∧
  cellAt w4 (Addr.add a2 (3 : Nat)) (Value.int IntKind.i64 n14) ∧
  cellAt w4 (Addr.add a2 (4 : Nat)) (Value.int IntKind.i64 n15)) ∧
  K
  (Value.agg
  {
  toList :=
  [Value.int IntKind.i64 n11, Value.int IntKind.i64 n12, Value.int IntKind.i64 n13, Value.int IntKind.i64 n14,
  Value.int IntKind.i64 n15] })
  w4) ∧
  ((n1 == (3 : Int)) = false →
  ((n1 == (2 : Int)) = true →
  ∃ (n16 : Int),
  ∃ (n17 : Int),
  ∃ (n18 : Int),
  ∃ (n19 : Int),
  ∃ (n20 : Int),
  (cellAt w2 (Addr.add a1 (0 : Nat)) (Value.int IntKind.i64 n16) ∧
  cellAt w2 (Addr.add a1 (1 : Nat)) (Value.int IntKind.i64 n17) ∧
  cellAt w2 (Addr.add a1 (2 : Nat)) (Value.int IntKind.i64 n18) ∧
  cellAt w2 (Addr.add a1 (3 : Nat)) (Value.int IntKind.i64 n19) ∧
  cellAt w2 (Addr.add a1 (4 : Nat)) (Value.int IntKind.i64 n20)) ∧
  StoreR a2
  [Value.int IntKind.i64 n16, Value.int IntKind.i64 n17, Value.int IntKind.i64 n18, Value.int IntKind.i64 n19,
  Value.int IntKind.i64 n20]
  w2 fun (w5 : World) =>
  ∃ (n21 : Int),
  ∃ (n22 : Int),
  ∃ (n23 : Int),
  ∃ (n24 : Int),
  ∃ (n25 : Int),
  (cellAt w5 (Addr.add a2 (0 : Nat)) (Value.int IntKind.i64 n21) ∧
  cellAt w5 (Addr.add a2 (1 : Nat)) (Value.int IntKind.i64 n22) ∧
  cellAt w5 (Addr.add a2 (2 : Nat)) (Value.int IntKind.i64 n23) ∧
  cellAt w5 (Addr.add a2 (3 : Nat)) (Value.int IntKind.i64 n24) ∧
  cellAt w5 (Addr.add a2 (4 : Nat)) (Value.int IntKind.i64 n25)) ∧
  K
  (Value.agg
  {
  toList :=
  [Value.int IntKind.i64 n21, Value.int IntKind.i64 n22, Value.int IntKind.i64 n23, Value.int IntKind.i64 n24,
  Value.int IntKind.i64 n25] })
  w5) ∧
  ((n1 == (2 : Int)) = false →
  ((n1 == (4 : Int)) = true →
  ∃ (n26 : Int),
  cellAt w2 (Addr.add a1 (0 : Nat)) (Value.int IntKind.i64 n26) ∧
  StoreR a2
  [Value.int IntKind.i64 n26, Value.int IntKind.i64 (0 : Int), Value.int IntKind.i64 (0 : Int),
  Value.int IntKind.i64 (0 : Int), Value.int IntKind.i64 (0 : Int)]
  w2 fun (w6 : World) =>
  ∃ (n27 : Int),
  ∃ (n28 : Int),
  ∃ (n29 : Int),
  ∃ (n30 : Int),
  ∃ (n31 : Int),
  (cellAt w6 (Addr.add a2 (0 : Nat)) (Value.int IntKind.i64 n27) ∧
  cellAt w6 (Addr.add a2 (1 : Nat)) (Value.int IntKind.i64 n28) ∧
  cellAt w6 (Addr.add a2 (2 : Nat)) (Value.int IntKind.i64 n29) ∧
  cellAt w6 (Addr.add a2 (3 : Nat)) (Value.int IntKind.i64 n30) ∧
  cellAt w6 (Addr.add a2 (4 : Nat)) (Value.int IntKind.i64 n31)) ∧
  K
  (Value.agg
  {
  toList :=
  [Value.int IntKind.i64 n27, Value.int IntKind.i64 n28, Value.int IntKind.i64 n29, Value.int IntKind.i64 n30,
  Value.int IntKind.i64 n31] })
  w6) ∧
  ((n1 == (4 : Int)) = false →
  ((n1 == (5 : Int)) = true →
  ∃ (n32 : Int),
  cellAt w2 (Addr.add a1 (0 : Nat)) (Value.int IntKind.i64 n32) ∧
  StoreR a2
  [Value.int IntKind.i64 n32, Value.int IntKind.i64 (0 : Int), Value.int IntKind.i64 (0 : Int),
  Value.int IntKind.i64 (0 : Int), Value.int IntKind.i64 (0 : Int)]
  w2 fun (w7 : World) =>
  ∃ (n33 : Int),
  ∃ (n34 : Int),
  ∃ (n35 : Int),
  ∃ (n36 : Int),
  ∃ (n37 : Int),
  (cellAt w7 (Addr.add a2 (0 : Nat)) (Value.int IntKind.i64 n33) ∧
  cellAt w7 (Addr.add a2 (1 : Nat)) (Value.int IntKind.i64 n34) ∧
  cellAt w7 (Addr.add a2 (2 : Nat)) (Value.int IntKind.i64 n35) ∧
  cellAt w7 (Addr.add a2 (3 : Nat)) (Value.int IntKind.i64 n36) ∧
  cellAt w7 (Addr.add a2 (4 : Nat)) (Value.int IntKind.i64 n37)) ∧
  K
  (Value.agg
  {
  toList :=
  [Value.int IntKind.i64 n33, Value.int IntKind.i64 n34, Value.int IntKind.i64 n35, Value.int IntKind.i64 n36,
  Value.int IntKind.i64 n37] })
  w7) ∧
  ((n1 == (5 : Int)) = false →
  ((n1 == (6 : Int)) = true →
  ∃ (n38 : Int),
  cellAt w2 (Addr.add a1 (0 : Nat)) (Value.int IntKind.i64 n38) ∧
  StoreR a2
  [Value.int IntKind.i64 n38, Value.int IntKind.i64 (0 : Int), Value.int IntKind.i64 (0 : Int),
  Value.int IntKind.i64 (0 : Int), Value.int IntKind.i64 (0 : Int)]
  w2 fun (w8 : World) =>
  ∃ (n39 : Int),
  ∃ (n40 : Int),
  ∃ (n41 : Int),
  ∃ (n42 : Int),
  ∃ (n43 : Int),
  (cellAt w8 (Addr.add a2 (0 : Nat)) (Value.int IntKind.i64 n39) ∧
  cellAt w8 (Addr.add a2 (1 : Nat)) (Value.int IntKind.i64 n40) ∧
  cellAt w8 (Addr.add a2 (2 : Nat)) (Value.int IntKind.i64 n41) ∧
  cellAt w8 (Addr.add a2 (3 : Nat)) (Value.int IntKind.i64 n42) ∧
  cellAt w8 (Addr.add a2 (4 : Nat)) (Value.int IntKind.i64 n43)) ∧
  K
  (Value.agg
  {
  toList :=
  [Value.int IntKind.i64 n39, Value.int IntKind.i64 n40, Value.int IntKind.i64 n41, Value.int IntKind.i64 n42,
  Value.int IntKind.i64 n43] })
  w8) ∧
  ((n1 == (6 : Int)) = false →
  ((n1 == (7 : Int)) = true →
  ∃ (n44 : Int),
  cellAt w2 (Addr.add a1 (3 : Nat)) (Value.int IntKind.i64 n44) ∧
  StoreR a2
  [Value.int IntKind.i64 (7 : Int), Value.int IntKind.i64 (0 : Int), Value.int IntKind.i64 (0 : Int),
  Value.int IntKind.i64 n44, Value.int IntKind.i64 (0 : Int)]
  w2 fun (w9 : World) =>
  ∃ (n45 : Int),
  ∃ (n46 : Int),
  ∃ (n47 : Int),
  ∃ (n48 : Int),
  ∃ (n49 : Int),
  (cellAt w9 (Addr.add a2 (0 : Nat)) (Value.int IntKind.i64 n45) ∧
  cellAt w9 (Addr.add a2 (1 : Nat)) (Value.int IntKind.i64 n46) ∧
  cellAt w9 (Addr.add a2 (2 : Nat)) (Value.int IntKind.i64 n47) ∧
  cellAt w9 (Addr.add a2 (3 : Nat)) (Value.int IntKind.i64 n48) ∧
  cellAt w9 (Addr.add a2 (4 : Nat)) (Value.int IntKind.i64 n49)) ∧
  K
  (Value.agg
  {
  toList :=
  [Value.int IntKind.i64 n45, Value.int IntKind.i64 n46, Value.int IntKind.i64 n47, Value.int IntKind.i64 n48,
  Value.int IntKind.i64 n49] })
  w9) ∧
  ((n1 == (7 : Int)) = false →
  StoreR a2
  [Value.int IntKind.i64 (0 : Int), Value.int IntKind.i64 (0 : Int), Value.int IntKind.i64 (0 : Int),
  Value.int IntKind.i64 (0 : Int), Value.int IntKind.i64 (0 : Int)]
  w2 fun (w10 : World) =>
  ∃ (n50 : Int),
  ∃ (n51 : Int),
  ∃ (n52 : Int),
  ∃ (n53 : Int),
  ∃ (n54 : Int),
  (cellAt w10 (Addr.add a2 (0 : Nat)) (Value.int IntKind.i64 n50) ∧
  cellAt w10 (Addr.add a2 (1 : Nat)) (Value.int IntKind.i64 n51) ∧
  cellAt w10 (Addr.add a2 (2 : Nat)) (Value.int IntKind.i64 n52) ∧
  cellAt w10 (Addr.add a2 (3 : Nat)) (Value.int IntKind.i64 n53) ∧
  cellAt w10 (Addr.add a2 (4 : Nat)) (Value.int IntKind.i64 n54)) ∧
  K
  (Value.agg
  {
  toList :=
  [Value.int IntKind.i64 n50, Value.int IntKind.i64 n51, Value.int IntKind.i64 n52, Value.int IntKind.i64 n53,
  Value.int IntKind.i64 n54] })
  w10)))))))
theorem cortadoref17_Bare_eq (k0 k1 k2 k3 k4 : Int) (w : World) (K : Value → World → Prop) : fw Try.prog Try.f57 (annL []) (ordL []) [.agg #[.int .i64 k0, .int .i64 k1, .int .i64 k2, .int .i64 k3, .int .i64 k4]] w K = cortadoref17_Bare_m k0 k1 k2 k3 k4 w K := by kernel_rfl
theorem cortadoref17_Bare_go (k0 k1 k2 k3 k4 : Int) {w : World} {K : Value → World → Prop} (h : cortadoref17_Bare_m k0 k1 k2 k3 k4 w K) : Rets Try.prog 57 #[.agg #[.int .i64 k0, .int .i64 k1, .int .i64 k2, .int .i64 k3, .int .i64 k4]] w K :=
  calls_of_fw plain mixed Try.func57 (by kernel_rfl) (by rw [cortadoref17_Bare_eq]; exact h)
def cortadoref17_Right_m (k0 k1 k2 k3 k4 : Int) (w : World) (K : Value → World → Prop) : Prop :=
  NewR (50 : Nat)
  [Value.int IntKind.i64 k0, Value.int IntKind.i64 k1, Value.int IntKind.i64 k2, Value.int IntKind.i64 k3,
  Value.int IntKind.i64 k4]
  w fun (a1 : Addr) (w1 : World) =>
  Drw w1 fun (w2 : World) =>
  ∃ (h1 : World → Prop),
  h1 w2 ∧
  ∃ (n1 : Int),
  (∀ (w3 : World), h1 w3 → World.cell? w3 (Addr.add a1 (0 : Nat)) = some (Value.int IntKind.i64 n1)) ∧
  (decide (n1 ≥ (0 : Int)) = true →
  ∃ (n2 : Int),
  (∀ (w4 : World), h1 w4 → World.cell? w4 (Addr.add a1 (0 : Nat)) = some (Value.int IntKind.i64 n2)) ∧
  (decide (n2 ≤ (7 : Int)) = true →
  ∃ (n3 : Int),
  ∃ (n4 : Int),
  ∃ (n5 : Int),
  ∃ (n6 : Int),
  ∃ (n7 : Int),
  ((∀ (w5 : World), h1 w5 → World.cell? w5 (Addr.add a1 (0 : Nat)) = some (Value.int IntKind.i64 n3)) ∧
  (∀ (w6 : World), h1 w6 → World.cell? w6 (Addr.add a1 ((0 : Nat) + (1 : Nat))) = some (Value.int IntKind.i64 n4)) ∧
  (∀ (w7 : World),
  h1 w7 → World.cell? w7 (Addr.add a1 ((0 : Nat) + (1 : Nat) + (1 : Nat))) = some (Value.int IntKind.i64 n5)) ∧
  (∀ (w8 : World),
  h1 w8 →
  World.cell? w8 (Addr.add a1 ((0 : Nat) + (1 : Nat) + (1 : Nat) + (1 : Nat))) = some (Value.int IntKind.i64 n6)) ∧
  ∀ (w9 : World),
  h1 w9 →
  World.cell? w9 (Addr.add a1 ((0 : Nat) + (1 : Nat) + (1 : Nat) + (1 : Nat) + (1 : Nat))) =
  some (Value.int IntKind.i64 n7)) ∧
  ∃ (n8 : Int),
  ∃ (n9 : Int),
  ∃ (n10 : Int),
  ∃ (n11 : Int),
  ∃ (n12 : Int),
  ((∀ (w10 : World), h1 w10 → World.cell? w10 (Addr.add a1 (0 : Nat)) = some (Value.int IntKind.i64 n8)) ∧
  (∀ (w11 : World), h1 w11 → World.cell? w11 (Addr.add a1 ((0 : Nat) + (1 : Nat))) = some (Value.int IntKind.i64 n9)) ∧
  (∀ (w12 : World),
  h1 w12 → World.cell? w12 (Addr.add a1 ((0 : Nat) + (1 : Nat) + (1 : Nat))) = some (Value.int IntKind.i64 n10)) ∧
  (∀ (w13 : World),
  h1 w13 →
  World.cell? w13 (Addr.add a1 ((0 : Nat) + (1 : Nat) + (1 : Nat) + (1 : Nat))) = some (Value.int IntKind.i64 n11)) ∧
  ∀ (w14 : World),
  h1 w14 →
  World.cell? w14 (Addr.add a1 ((0 : Nat) + (1 : Nat) + (1 : Nat) + (1 : Nat) + (1 : Nat))) =
  some (Value.int IntKind.i64 n12)) ∧
  Rets Try.prog (57 : Nat)
  {
  toList :=
  [Value.agg
  {
  toList :=
  [Value.int IntKind.i64 n3, Value.int IntKind.i64 n4, Value.int IntKind.i64 n5, Value.int IntKind.i64 n6,
  Value.int IntKind.i64 n7] }] }
  w2 fun (v1 : Value) (w15 : World) =>
  ∃ (n13 : Int),
  ∃ (n14 : Int),
  ∃ (n15 : Int),
  ∃ (n16 : Int),
  ∃ (n17 : Int),
  v1 =
  Value.agg
  {
  toList :=
  [Value.int IntKind.i64 n13, Value.int IntKind.i64 n14, Value.int IntKind.i64 n15, Value.int IntKind.i64 n16,
  Value.int IntKind.i64 n17] } ∧
  h1 w15 ∧ K (Value.bool (n13 == n8 && (n14 == n9 && (n15 == n10 && (n16 == n11 && n17 == n12))))) w15) ∧
  (decide (n2 ≤ (7 : Int)) = false → K (Value.bool false) w2)) ∧
  (decide (n1 ≥ (0 : Int)) = false → K (Value.bool false) w2)
theorem cortadoref17_Right_eq (k0 k1 k2 k3 k4 : Int) (w : World) (K : Value → World → Prop) : fw Try.prog Try.f48 (annL []) (ordL [(1, [(0, 0), (1, 1), (2, 0), (3, 0), (4, 0), (5, 1), (6, 0), (7, 0), (8, 0), (9, 1), (11, 1), (10, 2), (12, 0), (13, 0), (14, 0)])]) [.agg #[.int .i64 k0, .int .i64 k1, .int .i64 k2, .int .i64 k3, .int .i64 k4]] w K = cortadoref17_Right_m k0 k1 k2 k3 k4 w K := by kernel_rfl
theorem cortadoref17_Right_go (k0 k1 k2 k3 k4 : Int) {w : World} {K : Value → World → Prop} (h : cortadoref17_Right_m k0 k1 k2 k3 k4 w K) : Rets Try.prog 48 #[.agg #[.int .i64 k0, .int .i64 k1, .int .i64 k2, .int .i64 k3, .int .i64 k4]] w K :=
  calls_of_fw plain mixed Try.func48 (by kernel_rfl) (by rw [cortadoref17_Right_eq]; exact h)
def cortadoref17_Fine_m (q : Option Addr) (l c : Nat) (w : World) (K : Value → World → Prop) : Prop :=
  ∃ (h1 : Nat → List Value → World → Prop),
  (∃ (k1 : Nat), h1 k1 [Value.int IntKind.i64 (0 : Int)] w) ∧
  ∀ (k2 : Nat) (w1 : World) (v1 : Value) (n1 : Int) (v2 v3 v4 v5 v6 v7 v8 v9 v10 v11 v12 v13 v14 v15 v16 v17 : Value),
  h1 k2 [Value.int IntKind.i64 n1] w1 →
  (decide (n1 < (↑l : Int)) = true →
  (decide (n1 < (25 : Int)) = true →
  (0 : Int) ≤ n1 ∧
  n1 < (↑l : Int) ∧
  someR q fun (a1 : Addr) =>
  ∃ (n2 : Int),
  ∃ (n3 : Int),
  ∃ (n4 : Int),
  ∃ (n5 : Int),
  ∃ (n6 : Int),
  (cellAt w1 (Addr.add (Addr.add a1 (Int.toNat n1 * (5 : Nat))) (0 : Nat)) (Value.int IntKind.i64 n2) ∧
  cellAt w1 (Addr.add (Addr.add a1 (Int.toNat n1 * (5 : Nat))) (1 : Nat)) (Value.int IntKind.i64 n3) ∧
  cellAt w1 (Addr.add (Addr.add a1 (Int.toNat n1 * (5 : Nat))) (2 : Nat)) (Value.int IntKind.i64 n4) ∧
  cellAt w1 (Addr.add (Addr.add a1 (Int.toNat n1 * (5 : Nat))) (3 : Nat)) (Value.int IntKind.i64 n5) ∧
  cellAt w1 (Addr.add (Addr.add a1 (Int.toNat n1 * (5 : Nat))) (4 : Nat)) (Value.int IntKind.i64 n6)) ∧
  Rets Try.prog (48 : Nat)
  {
  toList :=
  [Value.agg
  {
  toList :=
  [Value.int IntKind.i64 n2, Value.int IntKind.i64 n3, Value.int IntKind.i64 n4, Value.int IntKind.i64 n5,
  Value.int IntKind.i64 n6] }] }
  w1 fun (v18 : Value) (w2 : World) =>
  ∃ (b1 : Bool),
  v18 = Value.bool b1 ∧
  ((!b1) = true → K (Value.bool false) w2) ∧
  ((!b1) = false →
  ∃ (k3 : Nat), k3 < k2 ∧ h1 k3 [Value.int IntKind.i64 (IntKind.wrap IntKind.i64 (n1 + (1 : Int)))] w2)) ∧
  (decide (n1 < (25 : Int)) = false → K (Value.bool (decide ((↑l : Int) ≤ (24 : Int)))) w1)) ∧
  (decide (n1 < (↑l : Int)) = false → K (Value.bool (decide ((↑l : Int) ≤ (24 : Int)))) w1)
theorem cortadoref17_Fine_eq (q : Option Addr) (l c : Nat) (w : World) (K : Value → World → Prop) : fw Try.prog Try.f25 (annL [(1, [(2, none), (3, some 3), (4, none), (5, none), (6, none), (7, none), (8, none), (9, none), (10, none), (11, none), (12, none), (13, none), (14, none), (15, none), (16, none), (17, none), (18, none), (19, none)])]) (ordL []) [.slice q l c] w K = cortadoref17_Fine_m q l c w K := by kernel_rfl
theorem cortadoref17_Fine_go (q : Option Addr) (l c : Nat) {w : World} {K : Value → World → Prop} (h : cortadoref17_Fine_m q l c w K) : Rets Try.prog 25 #[.slice q l c] w K :=
  calls_of_fw plain mixed Try.func25 (by kernel_rfl) (by rw [cortadoref17_Fine_eq]; exact h)
def prog_Put_m (q : Option Addr) (l c : Nat) (q2 : Option Addr) (l2 c2 : Nat) (w : World) (K : Value → World → Prop) : Prop :=
  Rets Try.prog (21 : Nat) { toList := [Value.slice q2 l2 c2] } w fun (v1 : Value) (w1 : World) =>
  ∃ (b1 : Bool),
  v1 = Value.bool b1 ∧
  ((!b1) = true → K (Value.tuple { toList := [Value.slice none (0 : Nat) (0 : Nat), Value.bool false] }) w1) ∧
  ((!b1) = false →
  Rets Try.prog (49 : Nat) { toList := [Value.slice q l c] } w1 fun (v2 : Value) (w2 : World) =>
  ∃ (q1 : Option Addr),
  ∃ (k1 : Nat),
  ∃ (k2 : Nat),
  v2 = Value.slice q1 k1 k2 ∧
  NewR (5 : Nat) [Value.int IntKind.u8 (IntKind.wrap IntKind.u8 (↑l2 : Int))] w2 fun (a1 : Addr) (w3 : World) =>
  RunR Try.prog
  (builtinV Builtin.append { toList := [(35 : Nat), (35 : Nat)] } (nat_lit 35)
  { toList := [Value.slice q1 k1 k2, Value.slice (some a1) (1 : Nat) (1 : Nat)] })
  w3 fun (v3 : Value) (w4 : World) =>
  ∃ (q2_1 : Option Addr),
  ∃ (k3 : Nat),
  ∃ (k4 : Nat),
  v3 = Value.slice q2_1 k3 k4 ∧
  NewR (35 : Nat) [Value.slice none (0 : Nat) (0 : Nat)] w4 fun (a2 : Addr) (w5 : World) =>
  StoreR a2 [Value.slice q2_1 k3 k4] w5 fun (w6 : World) =>
  ∃ (h1 : Nat → List Value → List Nat → World → Prop),
  (∃ (k5 : Nat), h1 k5 [Value.int IntKind.i64 (0 : Int)] [] w6) ∧
  ∀ (k6 : Nat) (ms1 : List Nat) (w7 : World) (v4 : Value) (n1 : Int) (v5 v6 v7 v8 v9 v10 v11 v12 v13 v14 v15 : Value),
  h1 k6 [Value.int IntKind.i64 n1] ms1 w7 →
  (decide (n1 < (↑l2 : Int)) = true →
  (0 : Int) ≤ n1 ∧
  n1 < (↑l2 : Int) ∧
  someR q2 fun (a3 : Addr) =>
  ∃ (n2 : Int),
  ∃ (n3 : Int),
  ∃ (n4 : Int),
  ∃ (n5 : Int),
  ∃ (n6 : Int),
  (cellAt w7 (Addr.add (Addr.add a3 (Int.toNat n1 * (5 : Nat))) (0 : Nat)) (Value.int IntKind.i64 n2) ∧
  cellAt w7 (Addr.add (Addr.add a3 (Int.toNat n1 * (5 : Nat))) (1 : Nat)) (Value.int IntKind.i64 n3) ∧
  cellAt w7 (Addr.add (Addr.add a3 (Int.toNat n1 * (5 : Nat))) (2 : Nat)) (Value.int IntKind.i64 n4) ∧
  cellAt w7 (Addr.add (Addr.add a3 (Int.toNat n1 * (5 : Nat))) (3 : Nat)) (Value.int IntKind.i64 n5) ∧
  cellAt w7 (Addr.add (Addr.add a3 (Int.toNat n1 * (5 : Nat))) (4 : Nat)) (Value.int IntKind.i64 n6)) ∧
  NewR (50 : Nat)
  [Value.int IntKind.i64 (0 : Int), Value.int IntKind.i64 (0 : Int), Value.int IntKind.i64 (0 : Int),
  Value.int IntKind.i64 (0 : Int), Value.int IntKind.i64 (0 : Int)]
  w7 fun (a4 : Addr) (w8 : World) =>
  StoreR a4
  [Value.int IntKind.i64 n2, Value.int IntKind.i64 n3, Value.int IntKind.i64 n4, Value.int IntKind.i64 n5,
  Value.int IntKind.i64 n6]
  w8 fun (w9 : World) =>
  ∃ (q3 : Option Addr),
  ∃ (k7 : Nat),
  ∃ (k8 : Nat),
  cellAt w9 a2 (Value.slice q3 k7 k8) ∧
  ∃ (n7 : Int),
  cellAt w9 (Addr.add a4 (0 : Nat)) (Value.int IntKind.i64 n7) ∧
  NewR (5 : Nat) [Value.int IntKind.u8 (IntKind.wrap IntKind.u8 n7)] w9 fun (a5 : Addr) (w10 : World) =>
  RunR Try.prog
  (builtinV Builtin.append { toList := [(35 : Nat), (35 : Nat)] } (nat_lit 35)
  { toList := [Value.slice q3 k7 k8, Value.slice (some a5) (1 : Nat) (1 : Nat)] })
  w10 fun (v16 : Value) (w11 : World) =>
  ∃ (q4 : Option Addr),
  ∃ (k9 : Nat),
  ∃ (k10 : Nat),
  v16 = Value.slice q4 k9 k10 ∧
  StoreR a2 [Value.slice q4 k9 k10] w11 fun (w12 : World) =>
  Rets Try.prog (50 : Nat) { toList := [Value.pointer (some a4)] } w12 fun (v17 : Value) (w13 : World) =>
  ∃ (k11 : Nat),
  ∃ (a6 : Array Value),
  ∃ (c1 : Array Value),
  v17 = Value.func (Fn.func k11) a6 c1 ∧
  ∃ (v18 : Value),
  Value.func (Fn.func k11) a6 c1 = Value.func (Fn.func (58 : Nat)) { toList := [] } { toList := [v18] } ∧
  LoopR w13 fun (k12 k13 : Nat) (L1 : Loop) (w14 : World) =>
  (∀ (q5 : Option Addr) (w15 : World) (h2 : Value → World → Prop),
  RecR k13 L1 w15 →
  (BegR k13 L1 w15 fun (w16 : World) =>
  Drw w16 fun (w17 : World) =>
  ∃ (h3 : World → Prop),
  h3 w17 ∧
  someR q5 fun (a7 : Addr) =>
  ∃ (q6 : Option Addr),
  ∃ (k14 : Nat),
  ∃ (k15 : Nat),
  (∀ (w18 : World), h3 w18 → World.cell? w18 a2 = some (Value.slice q6 k14 k15)) ∧
  ∃ (n8 : Int),
  (∀ (w19 : World), h3 w19 → World.cell? w19 a7 = some (Value.int IntKind.i64 n8)) ∧
  NewR (3 : Nat) [Value.int IntKind.i64 n8] w17 fun (a8 : Addr) (w20 : World) =>
  h3 w20 ∧
  Rets Try.prog (32 : Nat) { toList := [Value.slice q6 k14 k15, Value.slice (some a8) (1 : Nat) (1 : Nat)] } w20
  fun (v19 : Value) (w21 : World) =>
  ∃ (q7 : Option Addr),
  ∃ (k16 : Nat),
  ∃ (k17 : Nat),
  v19 = Value.slice q7 k16 k17 ∧
  StoreR a2 [Value.slice q7 k16 k17] w21 fun (w22 : World) =>
  FinR k13 L1 none w22 fun (w23 : World) => h2 (Value.bool true) w23) →
  RoundR Try.prog k13 { toList := [Value.pointer q5] } w15 h2) →
  Rets Try.prog (58 : Nat) { toList := [Value.func (Fn.yield k13) { toList := [] } { toList := [] }, v18] } w14
  fun (v20 : Value) (w24 : World) =>
  EndR k13 L1 none w24 fun (w25 : World) =>
  ∃ (k18 : Nat), k18 < k6 ∧ h1 k18 [Value.int IntKind.i64 (IntKind.wrap IntKind.i64 (n1 + (1 : Int)))] (k12 :: ms1) w25) ∧
  (decide (n1 < (↑l2 : Int)) = false →
  ∃ (q8 : Option Addr),
  ∃ (k19 : Nat),
  ∃ (k20 : Nat),
  cellAt w7 a2 (Value.slice q8 k19 k20) ∧
  marksR ms1 w7 fun (w26 : World) => K (Value.tuple { toList := [Value.slice q8 k19 k20, Value.bool true] }) w26))
theorem prog_Put_eq (q : Option Addr) (l c : Nat) (q2 : Option Addr) (l2 c2 : Nat) (w : World) (K : Value → World → Prop) : fw Try.prog Try.f33 (annL [(2, [(8, none), (22, some 3), (23, none), (24, none), (25, none), (26, none), (27, none), (28, none), (29, none), (30, none), (31, none), (32, none), (40, none)]), (6, [(33, some 73)])]) (ordL [(1000006, [(58, 1)]), (10, [(1, 0), (2, 0), (0, 1), (3, 1), (4, 2), (5, 3), (6, 3)])]) [.slice q l c, .slice q2 l2 c2] w K = prog_Put_m q l c q2 l2 c2 w K := by kernel_rfl
theorem prog_Put_go (q : Option Addr) (l c : Nat) (q2 : Option Addr) (l2 c2 : Nat) {w : World} {K : Value → World → Prop} (h : prog_Put_m q l c q2 l2 c2 w K) : Rets Try.prog 33 #[.slice q l c, .slice q2 l2 c2] w K :=
  calls_of_fw plain mixed Try.func33 (by kernel_rfl) (by rw [prog_Put_eq]; exact h)
end Go.Proofs.Ytppmdifhoejhjaa.Eng
