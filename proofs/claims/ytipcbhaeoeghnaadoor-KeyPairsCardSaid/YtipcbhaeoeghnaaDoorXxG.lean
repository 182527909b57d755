/- What the code of these functions asks for: printed by a program of this session's (gens.py) out of the seat's own functions; the kernel checks each row. -/
import Derived.Test.YtipcbhaeoeghnaaDoorEngH
import Derived.Test.YtipcbhaeoeghnaaDoorProg
import Derived.Test.YtipcbhaeoeghnaaDoorBase
namespace Go.Proofs.YtipcbhaeoeghnaaDoor.Eng
open Go Go.Proofs
set_option linter.unusedVariables false
set_option maxRecDepth 1000000
def word_Turn_m (x k : Int) (w : World) (K : Value → World → Prop) : Prop :=
  (64 : Int) ≠ (0 : Int) ∧
  (0 : Int) ≤ Int.tmod (IntKind.wrap IntKind.u64 k) (64 : Int) ∧
  (0 : Int) ≤ IntKind.wrap IntKind.u64 ((64 : Int) - Int.tmod (IntKind.wrap IntKind.u64 k) (64 : Int)) ∧
  K
  (Value.int IntKind.u64
  (bits BinOp.or IntKind.u64 (shlI IntKind.u64 x (Int.tmod (IntKind.wrap IntKind.u64 k) (64 : Int)))
  (shrI IntKind.u64 x (IntKind.wrap IntKind.u64 ((64 : Int) - Int.tmod (IntKind.wrap IntKind.u64 k) (64 : Int))))))
  w
theorem word_Turn_eq (x k : Int) (w : World) (K : Value → World → Prop) : fw Tryd.prog Tryd.f97 (annL []) (ordL []) [.int .u64 x, .int .i64 k] w K = word_Turn_m x k w K := by kernel_rfl
theorem word_Turn_go (x k : Int) {w : World} {K : Value → World → Prop} (h : word_Turn_m x k w K) : Rets Tryd.prog 97 #[.int .u64 x, .int .i64 k] w K :=
  calls_of_fw plain mixed Tryd.func97 (by kernel_rfl) (by rw [word_Turn_eq]; exact h)
def xx_New_m (s : Int) (w : World) (K : Value → World → Prop) : Prop :=
  NewR (119 : Nat)
  [Value.int IntKind.u64 s,
  Value.int IntKind.u64
  (IntKind.wrap IntKind.u64 (IntKind.wrap IntKind.u64 (s + (11400714785074694791 : Int)) + (14029467366897019727 : Int))),
  Value.int IntKind.u64 (IntKind.wrap IntKind.u64 (s + (14029467366897019727 : Int))), Value.int IntKind.u64 s,
  Value.int IntKind.u64 (IntKind.wrap IntKind.u64 (s - (11400714785074694791 : Int))), Value.int IntKind.u8 (0 : Int),
  Value.int IntKind.u8 (0 : Int), Value.int IntKind.u8 (0 : Int), Value.int IntKind.u8 (0 : Int),
  Value.int IntKind.u8 (0 : Int), Value.int IntKind.u8 (0 : Int), Value.int IntKind.u8 (0 : Int),
  Value.int IntKind.u8 (0 : Int), Value.int IntKind.u8 (0 : Int), Value.int IntKind.u8 (0 : Int),
  Value.int IntKind.u8 (0 : Int), Value.int IntKind.u8 (0 : Int), Value.int IntKind.u8 (0 : Int),
  Value.int IntKind.u8 (0 : Int), Value.int IntKind.u8 (0 : Int), Value.int IntKind.u8 (0 : Int),
  Value.int IntKind.u8 (0 : Int), Value.int IntKind.u8 (0 : Int), Value.int IntKind.u8 (0 : Int),
  Value.int IntKind.u8 (0 : Int), Value.int IntKind.u8 (0 : Int), Value.int IntKind.u8 (0 : Int),
  Value.int IntKind.u8 (0 : Int), Value.int IntKind.u8 (0 : Int), Value.int IntKind.u8 (0 : Int),
  Value.int IntKind.u8 (0 : Int), Value.int IntKind.u8 (0 : Int), Value.int IntKind.u8 (0 : Int),
  Value.int IntKind.u8 (0 : Int), Value.int IntKind.u8 (0 : Int), Value.int IntKind.u8 (0 : Int),
  Value.int IntKind.u8 (0 : Int), Value.int IntKind.i64 (0 : Int)]
  w fun (a1 : Addr) (w1 : World) => K (Value.pointer (some a1)) w1
theorem xx_New_eq (s : Int) (w : World) (K : Value → World → Prop) : fw Tryd.prog Tryd.f71 (annL []) (ordL []) [.int .u64 s] w K = xx_New_m s w K := by kernel_rfl
theorem xx_New_go (s : Int) {w : World} {K : Value → World → Prop} (h : xx_New_m s w K) : Rets Tryd.prog 71 #[.int .u64 s] w K :=
  calls_of_fw plain mixed Tryd.func71 (by kernel_rfl) (by rw [xx_New_eq]; exact h)
def xx_number_m (q : Option Addr) (l c : Nat) (w : World) (K : Value → World → Prop) : Prop :=
  ∃ (h1 : Nat → List Value → World → Prop),
  (∃ (k1 : Nat), h1 k1 [Value.int IntKind.u64 (0 : Int), Value.int IntKind.i64 (0 : Int)] w) ∧
  ∀ (k2 : Nat) (w1 : World) (n1 : Int) (v1 : Value) (n2 : Int) (v2 v3 v4 v5 v6 v7 v8 v9 v10 v11 v12 v13 v14 v15 : Value),
  h1 k2 [Value.int IntKind.u64 n1, Value.int IntKind.i64 n2] w1 →
  (decide (n2 < (↑l : Int)) = true →
  (0 : Int) ≤ n2 ∧
  n2 < (↑l : Int) ∧
  someR q fun (a1 : Addr) =>
  ∃ (n3 : Int),
  cellAt w1 (Addr.add a1 (Int.toNat n2 * (1 : Nat))) (Value.int IntKind.u8 n3) ∧
  (0 : Int) ≤ IntKind.wrap IntKind.u64 ((8 : Int) * IntKind.wrap IntKind.u64 n2) ∧
  ∃ (k3 : Nat),
  k3 < k2 ∧
  h1 k3
  [Value.int IntKind.u64
  (bits BinOp.or IntKind.u64 n1
  (shlI IntKind.u64 (IntKind.wrap IntKind.u64 n3) (IntKind.wrap IntKind.u64 ((8 : Int) * IntKind.wrap IntKind.u64 n2)))),
  Value.int IntKind.i64 (IntKind.wrap IntKind.i64 (n2 + (1 : Int)))]
  w1) ∧
  (decide (n2 < (↑l : Int)) = false → K (Value.int IntKind.u64 n1) w1)
theorem xx_number_eq (q : Option Addr) (l c : Nat) (w : World) (K : Value → World → Prop) : fw Tryd.prog Tryd.f96 (annL [(1, [(2, some 33), (3, none), (6, some 3), (7, none), (8, none), (9, none), (10, none), (11, none), (12, none), (13, none), (14, none), (15, none), (16, none), (17, none), (18, none), (19, none), (20, none)])]) (ordL []) [.slice q l c] w K = xx_number_m q l c w K := by kernel_rfl
theorem xx_number_go (q : Option Addr) (l c : Nat) {w : World} {K : Value → World → Prop} (h : xx_number_m q l c w K) : Rets Tryd.prog 96 #[.slice q l c] w K :=
  calls_of_fw plain mixed Tryd.func96 (by kernel_rfl) (by rw [xx_number_eq]; exact h)
def xx_round_m (s x : Int) (w : World) (K : Value → World → Prop) : Prop :=
  Rets Tryd.prog (97 : Nat)
  {
  toList :=
  [Value.int IntKind.u64 (IntKind.wrap IntKind.u64 (s + IntKind.wrap IntKind.u64 (x * (14029467366897019727 : Int)))),
  Value.int IntKind.i64 (31 : Int)] }
  w fun (v1 : Value) (w1 : World) =>
  ∃ (n1 : Int),
  v1 = Value.int IntKind.u64 n1 ∧
  K (Value.int IntKind.u64 (IntKind.wrap IntKind.u64 (n1 * (11400714785074694791 : Int)))) w1
theorem xx_round_eq (s x : Int) (w : World) (K : Value → World → Prop) : fw Tryd.prog Tryd.f95 (annL []) (ordL []) [.int .u64 s, .int .u64 x] w K = xx_round_m s x w K := by kernel_rfl
theorem xx_round_go (s x : Int) {w : World} {K : Value → World → Prop} (h : xx_round_m s x w K) : Rets Tryd.prog 95 #[.int .u64 s, .int .u64 x] w K :=
  calls_of_fw plain mixed Tryd.func95 (by kernel_rfl) (by rw [xx_round_eq]; exact h)
def xx_Digest_take_m (g : Nat) (q : Option Addr) (l c : Nat) (w : World) (K : Value → World → Prop) : Prop :=
  ∃ (h1 : Nat → List Value → World → Prop),
  (∃ (k1 : Nat), h1 k1 [Value.int IntKind.i64 (0 : Int)] w) ∧
  ∀ (k2 : Nat) (w1 : World) (v1 : Value) (n1 : Int)
  (v2 v3 v4 v5 v6 v7 v8 v9 v10 v11 v12 v13 v14 v15 v16 v17 v18 v19 v20 v21 v22 v23 v24 : Value),
  h1 k2 [Value.int IntKind.i64 n1] w1 →
  (decide (n1 < (4 : Int)) = true →
  Drw w1 fun (w2 : World) =>
  ∃ (h2 : World → Prop),
  h2 w2 ∧
  (0 : Int) ≤ n1 ∧
  n1 < (↑(4 : Nat) : Int) ∧
  (0 : Int) ≤ IntKind.wrap IntKind.i64 (IntKind.wrap IntKind.i64 ((8 : Int) * n1) + (8 : Int)) ∧
  IntKind.wrap IntKind.i64 (IntKind.wrap IntKind.i64 ((8 : Int) * n1) + (8 : Int)) ≤ (↑c : Int) ∧
  (0 : Int) ≤ IntKind.wrap IntKind.i64 ((8 : Int) * n1) ∧
  IntKind.wrap IntKind.i64 ((8 : Int) * n1) ≤
  (↑(Int.toNat (IntKind.wrap IntKind.i64 (IntKind.wrap IntKind.i64 ((8 : Int) * n1) + (8 : Int)))) : Int) ∧
  ∃ (n2 : Int),
  (∀ (w3 : World),
  h2 w3 →
  World.cell? w3 (Addr.add (Addr.add { block := g, off := (0 : Nat) } (1 : Nat)) (Int.toNat n1 * (1 : Nat))) =
  some (Value.int IntKind.u64 n2)) ∧
  Rets Tryd.prog (96 : Nat)
  {
  toList :=
  [Value.slice (slcA q (Int.toNat (IntKind.wrap IntKind.i64 ((8 : Int) * n1))) c (1 : Nat))
  (Int.toNat (IntKind.wrap IntKind.i64 (IntKind.wrap IntKind.i64 ((8 : Int) * n1) + (8 : Int))) -
  Int.toNat (IntKind.wrap IntKind.i64 ((8 : Int) * n1)))
  (c - Int.toNat (IntKind.wrap IntKind.i64 ((8 : Int) * n1)))] }
  w2 fun (v25 : Value) (w4 : World) =>
  ∃ (n3 : Int),
  v25 = Value.int IntKind.u64 n3 ∧
  h2 w4 ∧
  Rets Tryd.prog (95 : Nat) { toList := [Value.int IntKind.u64 n2, Value.int IntKind.u64 n3] } w4
  fun (v26 : Value) (w5 : World) =>
  ∃ (n4 : Int),
  v26 = Value.int IntKind.u64 n4 ∧
  (0 : Int) ≤ n1 ∧
  n1 < (↑(4 : Nat) : Int) ∧
  StoreR (Addr.add (Addr.add { block := g, off := (0 : Nat) } (1 : Nat)) (Int.toNat n1 * (1 : Nat)))
  [Value.int IntKind.u64 n4] w5 fun (w6 : World) =>
  ∃ (k3 : Nat), k3 < k2 ∧ h1 k3 [Value.int IntKind.i64 (IntKind.wrap IntKind.i64 (n1 + (1 : Int)))] w6) ∧
  (decide (n1 < (4 : Int)) = false → K (Value.tuple { toList := [] }) w1)
theorem xx_Digest_take_eq (g : Nat) (q : Option Addr) (l c : Nat) (w : World) (K : Value → World → Prop) : fw Tryd.prog Tryd.f90 (annL [(1, [(4, none), (5, some 3), (6, none), (7, none), (8, none), (9, none), (10, none), (11, none), (12, none), (13, none), (14, none), (15, none), (16, none), (17, none), (18, none), (19, none), (20, none), (21, none), (22, none), (23, none), (24, none), (25, none), (26, none), (27, none), (28, none)])]) (ordL [(3, [(0, 0), (1, 0), (2, 0), (3, 0), (4, 0), (5, 0), (6, 0), (8, 0), (9, 0), (10, 0), (11, 0), (12, 0), (13, 0), (14, 0), (17, 0), (18, 0), (7, 1), (15, 2), (16, 3), (19, 0), (20, 3)])]) [.pointer (some ⟨g, 0, none⟩), .slice q l c] w K = xx_Digest_take_m g q l c w K := by kernel_rfl
theorem xx_Digest_take_go (g : Nat) (q : Option Addr) (l c : Nat) {w : World} {K : Value → World → Prop} (h : xx_Digest_take_m g q l c w K) : Rets Tryd.prog 90 #[.pointer (some ⟨g, 0, none⟩), .slice q l c] w K :=
  calls_of_fw plain mixed Tryd.func90 (by kernel_rfl) (by rw [xx_Digest_take_eq]; exact h)
def xx_Digest_Write_m (g : Nat) (q : Option Addr) (l c : Nat) (w : World) (K : Value → World → Prop) : Prop :=
  (false = true → K (Value.tuple { toList := [] }) w) ∧
  (false = false →
  ∃ (h1 : Nat → List Value → World → Prop),
  (∃ (k1 : Nat), h1 k1 [Value.slice q l c] w) ∧
  ∀ (k2 : Nat) (w1 : World) (q1 : Option Addr) (k3 k4 : Nat)
  (v1 v2 v3 v4 v5 v6 v7 v8 v9 v10 v11 v12 v13 v14 v15 v16 v17 v18 v19 v20 v21 v22 v23 v24 v25 v26 v27 v28 v29 v30 v31 v32
  v33 v34 v35 v36 v37 v38 : Value),
  h1 k2 [Value.slice q1 k3 k4] w1 →
  (decide ((↑k3 : Int) > (0 : Int)) = true →
  ∃ (n1 : Int),
  cellAt w1 (Addr.add { block := g, off := (0 : Nat) } (37 : Nat)) (Value.int IntKind.i64 n1) ∧
  (32 : Int) ≠ (0 : Int) ∧
  (0 : Int) ≤ Int.tmod n1 (32 : Int) ∧
  Int.tmod n1 (32 : Int) ≤ (↑(32 : Nat) : Int) ∧
  RunR Tryd.prog
  (builtinV Builtin.copy { toList := [(32 : Nat), (32 : Nat)] } (nat_lit 3)
  {
  toList :=
  [Value.slice
  (slcA (some (Addr.add { block := g, off := (0 : Nat) } (5 : Nat))) (Int.toNat (Int.tmod n1 (32 : Int))) (32 : Nat)
  (1 : Nat))
  ((32 : Nat) - Int.toNat (Int.tmod n1 (32 : Int))) ((32 : Nat) - Int.toNat (Int.tmod n1 (32 : Int))),
  Value.slice q1 k3 k4] })
  w1 fun (v39 : Value) (w2 : World) =>
  ∃ (n2 : Int),
  v39 = Value.int IntKind.i64 n2 ∧
  ∃ (n3 : Int),
  cellAt w2 (Addr.add { block := g, off := (0 : Nat) } (37 : Nat)) (Value.int IntKind.i64 n3) ∧
  StoreR (Addr.add { block := g, off := (0 : Nat) } (37 : Nat))
  [Value.int IntKind.i64 (IntKind.wrap IntKind.i64 (n3 + n2))] w2 fun (w3 : World) =>
  (0 : Int) ≤ n2 ∧
  n2 ≤ (↑k3 : Int) ∧
  ((IntKind.wrap IntKind.i64 (Int.tmod n1 (32 : Int) + n2) == (32 : Int)) = true →
  Rets Tryd.prog (90 : Nat)
  {
  toList :=
  [Value.pointer (some { block := g, off := (0 : Nat) }),
  Value.slice (slcA (some (Addr.add { block := g, off := (0 : Nat) } (5 : Nat))) (0 : Nat) (32 : Nat) (1 : Nat))
  (32 : Nat) (32 : Nat)] }
  w3 fun (v40 : Value) (w4 : World) =>
  v40 = Value.tuple { toList := [] } ∧
  ∃ (k5 : Nat),
  k5 < k2 ∧ h1 k5 [Value.slice (slcA q1 (Int.toNat n2) k4 (1 : Nat)) (k3 - Int.toNat n2) (k4 - Int.toNat n2)] w4) ∧
  ((IntKind.wrap IntKind.i64 (Int.tmod n1 (32 : Int) + n2) == (32 : Int)) = false →
  ∃ (k6 : Nat),
  k6 < k2 ∧ h1 k6 [Value.slice (slcA q1 (Int.toNat n2) k4 (1 : Nat)) (k3 - Int.toNat n2) (k4 - Int.toNat n2)] w3)) ∧
  (decide ((↑k3 : Int) > (0 : Int)) = false → K (Value.tuple { toList := [] }) w1))
theorem xx_Digest_Write_eq (g : Nat) (q : Option Addr) (l c : Nat) (w : World) (K : Value → World → Prop) : fw Tryd.prog Tryd.f72 (annL [(2, [(1, some 32), (4, none), (5, none), (8, none), (9, none), (10, none), (11, none), (12, none), (13, none), (14, none), (15, none), (16, none), (17, none), (18, none), (19, none), (20, none), (21, none), (22, none), (23, none), (24, none), (25, none), (26, none), (27, none), (28, none), (29, none), (30, none), (31, none), (32, none), (33, none), (34, none), (35, none), (36, none), (37, none), (38, none), (39, none), (40, none), (41, none), (42, none), (43, none)])]) (ordL []) [.pointer (some ⟨g, 0, none⟩), .slice q l c] w K = xx_Digest_Write_m g q l c w K := by kernel_rfl
theorem xx_Digest_Write_go (g : Nat) (q : Option Addr) (l c : Nat) {w : World} {K : Value → World → Prop} (h : xx_Digest_Write_m g q l c w K) : Rets Tryd.prog 72 #[.pointer (some ⟨g, 0, none⟩), .slice q l c] w K :=
  calls_of_fw plain mixed Tryd.func72 (by kernel_rfl) (by rw [xx_Digest_Write_eq]; exact h)
def xx_nil_Write_m (q : Option Addr) (l c : Nat) (w : World) (K : Value → World → Prop) : Prop :=
  (true = true → K (Value.tuple { toList := [] }) w) ∧
  (true = false →
  ∃ (h1 : Nat → List Value → World → Prop),
  (∃ (k1 : Nat), h1 k1 [Value.slice q l c] w) ∧
  ∀ (k2 : Nat) (w1 : World) (q1 : Option Addr) (k3 k4 : Nat)
  (v1 v2 v3 v4 v5 v6 v7 v8 v9 v10 v11 v12 v13 v14 v15 v16 v17 v18 v19 v20 v21 v22 v23 v24 v25 v26 v27 v28 v29 v30 v31 v32
  v33 v34 v35 v36 v37 v38 : Value),
  h1 k2 [Value.slice q1 k3 k4] w1 →
  (decide ((↑k3 : Int) > (0 : Int)) = true → False) ∧
  (decide ((↑k3 : Int) > (0 : Int)) = false → K (Value.tuple { toList := [] }) w1))
theorem xx_nil_Write_eq (q : Option Addr) (l c : Nat) (w : World) (K : Value → World → Prop) : fw Tryd.prog Tryd.f72 (annL [(2, [(1, some 32), (4, none), (5, none), (8, none), (9, none), (10, none), (11, none), (12, none), (13, none), (14, none), (15, none), (16, none), (17, none), (18, none), (19, none), (20, none), (21, none), (22, none), (23, none), (24, none), (25, none), (26, none), (27, none), (28, none), (29, none), (30, none), (31, none), (32, none), (33, none), (34, none), (35, none), (36, none), (37, none), (38, none), (39, none), (40, none), (41, none), (42, none), (43, none)])]) (ordL []) [.pointer none, .slice q l c] w K = xx_nil_Write_m q l c w K := by kernel_rfl
theorem xx_nil_Write_go (q : Option Addr) (l c : Nat) {w : World} {K : Value → World → Prop} (h : xx_nil_Write_m q l c w K) : Rets Tryd.prog 72 #[.pointer none, .slice q l c] w K :=
  calls_of_fw plain mixed Tryd.func72 (by kernel_rfl) (by rw [xx_nil_Write_eq]; exact h)
def xx_Digest_begun_m (g : Nat) (w : World) (K : Value → World → Prop) : Prop :=
  ∃ (n1 : Int),
  cellAt w (Addr.add { block := g, off := (0 : Nat) } (37 : Nat)) (Value.int IntKind.i64 n1) ∧
  (decide (n1 < (32 : Int)) = true →
  ∃ (n2 : Int),
  cellAt w (Addr.add { block := g, off := (0 : Nat) } (0 : Nat)) (Value.int IntKind.u64 n2) ∧
  K (Value.int IntKind.u64 (IntKind.wrap IntKind.u64 (n2 + (2870177450012600261 : Int)))) w) ∧
  (decide (n1 < (32 : Int)) = false →
  Drw w fun (w1 : World) =>
  ∃ (h1 : World → Prop),
  h1 w1 ∧
  (0 : Int) ≤ (0 : Int) ∧
  (0 : Int) < (↑(4 : Nat) : Int) ∧
  (0 : Int) ≤ (1 : Int) ∧
  (1 : Int) < (↑(4 : Nat) : Int) ∧
  (0 : Int) ≤ (2 : Int) ∧
  (2 : Int) < (↑(4 : Nat) : Int) ∧
  (0 : Int) ≤ (3 : Int) ∧
  (3 : Int) < (↑(4 : Nat) : Int) ∧
  ∃ (n3 : Int),
  (∀ (w2 : World),
  h1 w2 →
  World.cell? w2 (Addr.add (Addr.add { block := g, off := (0 : Nat) } (1 : Nat)) (0 : Nat)) =
  some (Value.int IntKind.u64 n3)) ∧
  ∃ (n4 : Int),
  (∀ (w3 : World),
  h1 w3 →
  World.cell? w3 (Addr.add (Addr.add { block := g, off := (0 : Nat) } (1 : Nat)) (1 : Nat)) =
  some (Value.int IntKind.u64 n4)) ∧
  ∃ (n5 : Int),
  (∀ (w4 : World),
  h1 w4 →
  World.cell? w4 (Addr.add (Addr.add { block := g, off := (0 : Nat) } (1 : Nat)) (2 : Nat)) =
  some (Value.int IntKind.u64 n5)) ∧
  ∃ (n6 : Int),
  (∀ (w5 : World),
  h1 w5 →
  World.cell? w5 (Addr.add (Addr.add { block := g, off := (0 : Nat) } (1 : Nat)) (3 : Nat)) =
  some (Value.int IntKind.u64 n6)) ∧
  Rets Tryd.prog (97 : Nat) { toList := [Value.int IntKind.u64 n3, Value.int IntKind.i64 (1 : Int)] } w1
  fun (v1 : Value) (w6 : World) =>
  ∃ (n7 : Int),
  v1 = Value.int IntKind.u64 n7 ∧
  h1 w6 ∧
  Rets Tryd.prog (97 : Nat) { toList := [Value.int IntKind.u64 n4, Value.int IntKind.i64 (7 : Int)] } w6
  fun (v2 : Value) (w7 : World) =>
  ∃ (n8 : Int),
  v2 = Value.int IntKind.u64 n8 ∧
  h1 w7 ∧
  Rets Tryd.prog (97 : Nat) { toList := [Value.int IntKind.u64 n5, Value.int IntKind.i64 (12 : Int)] } w7
  fun (v3 : Value) (w8 : World) =>
  ∃ (n9 : Int),
  v3 = Value.int IntKind.u64 n9 ∧
  h1 w8 ∧
  Rets Tryd.prog (97 : Nat) { toList := [Value.int IntKind.u64 n6, Value.int IntKind.i64 (18 : Int)] } w8
  fun (v4 : Value) (w9 : World) =>
  ∃ (n10 : Int),
  v4 = Value.int IntKind.u64 n10 ∧
  ∃ (n11 : Int),
  ∃ (n12 : Int),
  ∃ (n13 : Int),
  ∃ (n14 : Int),
  (cellAt w9 (Addr.add (Addr.add { block := g, off := (0 : Nat) } (1 : Nat)) (0 : Nat)) (Value.int IntKind.u64 n11) ∧
  cellAt w9 (Addr.add (Addr.add { block := g, off := (0 : Nat) } (1 : Nat)) (1 : Nat)) (Value.int IntKind.u64 n12) ∧
  cellAt w9 (Addr.add (Addr.add { block := g, off := (0 : Nat) } (1 : Nat)) (2 : Nat)) (Value.int IntKind.u64 n13) ∧
  cellAt w9 (Addr.add (Addr.add { block := g, off := (0 : Nat) } (1 : Nat)) (3 : Nat)) (Value.int IntKind.u64 n14)) ∧
  ∃ (h2 : Nat → List Value → World → Prop),
  (∃ (k1 : Nat),
  h2 k1
  [Value.int IntKind.u64
  (IntKind.wrap IntKind.u64 (IntKind.wrap IntKind.u64 (IntKind.wrap IntKind.u64 (n7 + n8) + n9) + n10)),
  Value.int IntKind.i64 (0 : Int)]
  w9) ∧
  ∀ (k2 : Nat) (w10 : World) (n15 : Int) (v5 : Value) (n16 : Int) (v6 v7 v8 v9 v10 v11 v12 v13 v14 : Value),
  h2 k2 [Value.int IntKind.u64 n15, Value.int IntKind.i64 n16] w10 →
  (decide (n16 < (4 : Int)) = true →
  (0 : Int) ≤ n16 ∧
  n16 < (↑(4 : Nat) : Int) ∧
  ∃ (n17 : Int),
  List.get?Internal
  (Array.toList
  {
  toList :=
  [Value.int IntKind.u64 n11, Value.int IntKind.u64 n12, Value.int IntKind.u64 n13, Value.int IntKind.u64 n14] })
  (Int.toNat n16) =
  some (Value.int IntKind.u64 n17) ∧
  Rets Tryd.prog (95 : Nat) { toList := [Value.int IntKind.u64 (0 : Int), Value.int IntKind.u64 n17] } w10
  fun (v15 : Value) (w11 : World) =>
  ∃ (n18 : Int),
  v15 = Value.int IntKind.u64 n18 ∧
  ∃ (k3 : Nat),
  k3 < k2 ∧
  h2 k3
  [Value.int IntKind.u64
  (IntKind.wrap IntKind.u64
  (IntKind.wrap IntKind.u64 (bits BinOp.xor IntKind.u64 n15 n18 * (11400714785074694791 : Int)) +
  (9650029242287828579 : Int))),
  Value.int IntKind.i64 (IntKind.wrap IntKind.i64 (n16 + (1 : Int)))]
  w11) ∧
  (decide (n16 < (4 : Int)) = false → K (Value.int IntKind.u64 n15) w10))
theorem xx_Digest_begun_eq (g : Nat) (w : World) (K : Value → World → Prop) : fw Tryd.prog Tryd.f92 (annL [(2, [(3, some 33), (5, none), (47, some 3), (48, none), (49, none), (50, none), (51, none), (52, none), (53, none), (54, none), (55, none), (56, none)])]) (ordL [(3, [(0, 0), (1, 0), (2, 0), (3, 0), (6, 0), (7, 0), (8, 0), (9, 0), (13, 0), (14, 0), (15, 0), (16, 0), (20, 0), (21, 0), (22, 0), (23, 0), (4, 1), (10, 1), (17, 1), (24, 1), (5, 2), (11, 2), (12, 0), (18, 2), (19, 0), (25, 3), (26, 0), (27, 0)])]) [.pointer (some ⟨g, 0, none⟩)] w K = xx_Digest_begun_m g w K := by kernel_rfl
theorem xx_Digest_begun_go (g : Nat) {w : World} {K : Value → World → Prop} (h : xx_Digest_begun_m g w K) : Rets Tryd.prog 92 #[.pointer (some ⟨g, 0, none⟩)] w K :=
  calls_of_fw plain mixed Tryd.func92 (by kernel_rfl) (by rw [xx_Digest_begun_eq]; exact h)
def xx_left_m (hh : Int) (q : Option Addr) (l c : Nat) (w : World) (K : Value → World → Prop) : Prop :=
  ∃ (h1 : Nat → List Value → World → Prop),
  (∃ (k1 : Nat), h1 k1 [Value.int IntKind.u64 hh, Value.slice q l c] w) ∧
  ∀ (k2 : Nat) (w1 : World) (n1 : Int) (q1 : Option Addr) (k3 k4 : Nat)
  (v1 v2 v3 v4 v5 v6 v7 v8 v9 v10 v11 v12 v13 v14 : Value),
  h1 k2 [Value.int IntKind.u64 n1, Value.slice q1 k3 k4] w1 →
  (decide ((↑k3 : Int) ≥ (8 : Int)) = true →
  (0 : Int) ≤ (8 : Int) ∧
  (8 : Int) ≤ (↑k4 : Int) ∧
  Rets Tryd.prog (96 : Nat) { toList := [Value.slice (slcA q1 (0 : Nat) k4 (1 : Nat)) (8 : Nat) (k4 - (0 : Nat))] } w1
  fun (v15 : Value) (w2 : World) =>
  ∃ (n2 : Int),
  v15 = Value.int IntKind.u64 n2 ∧
  Rets Tryd.prog (95 : Nat) { toList := [Value.int IntKind.u64 (0 : Int), Value.int IntKind.u64 n2] } w2
  fun (v16 : Value) (w3 : World) =>
  ∃ (n3 : Int),
  v16 = Value.int IntKind.u64 n3 ∧
  Rets Tryd.prog (97 : Nat)
  { toList := [Value.int IntKind.u64 (bits BinOp.xor IntKind.u64 n1 n3), Value.int IntKind.i64 (27 : Int)] } w3
  fun (v17 : Value) (w4 : World) =>
  ∃ (n4 : Int),
  v17 = Value.int IntKind.u64 n4 ∧
  (0 : Int) ≤ (8 : Int) ∧
  (8 : Int) ≤ (↑k3 : Int) ∧
  ∃ (k5 : Nat),
  k5 < k2 ∧
  h1 k5
  [Value.int IntKind.u64
  (IntKind.wrap IntKind.u64 (IntKind.wrap IntKind.u64 (n4 * (11400714785074694791 : Int)) + (9650029242287828579 : Int))),
  Value.slice (slcA q1 (8 : Nat) k4 (1 : Nat)) (k3 - (8 : Nat)) (k4 - (8 : Nat))]
  w4) ∧
  (decide ((↑k3 : Int) ≥ (8 : Int)) = false →
  ∃ (h2 : List Value → World → Prop),
  ((decide ((↑k3 : Int) ≥ (4 : Int)) = true →
  (0 : Int) ≤ (4 : Int) ∧
  (4 : Int) ≤ (↑k4 : Int) ∧
  Rets Tryd.prog (96 : Nat) { toList := [Value.slice (slcA q1 (0 : Nat) k4 (1 : Nat)) (4 : Nat) (k4 - (0 : Nat))] } w1
  fun (v18 : Value) (w5 : World) =>
  ∃ (n5 : Int),
  v18 = Value.int IntKind.u64 n5 ∧
  Rets Tryd.prog (97 : Nat)
  {
  toList :=
  [Value.int IntKind.u64 (bits BinOp.xor IntKind.u64 n1 (IntKind.wrap IntKind.u64 (n5 * (11400714785074694791 : Int)))),
  Value.int IntKind.i64 (23 : Int)] }
  w5 fun (v19 : Value) (w6 : World) =>
  ∃ (n6 : Int),
  v19 = Value.int IntKind.u64 n6 ∧
  (0 : Int) ≤ (4 : Int) ∧
  (4 : Int) ≤ (↑k3 : Int) ∧
  h2
  [Value.int IntKind.u64
  (IntKind.wrap IntKind.u64 (IntKind.wrap IntKind.u64 (n6 * (14029467366897019727 : Int)) + (1609587929392839161 : Int))),
  Value.slice (slcA q1 (4 : Nat) k4 (1 : Nat)) (k3 - (4 : Nat)) (k4 - (4 : Nat))]
  w6) ∧
  (decide ((↑k3 : Int) ≥ (4 : Int)) = false → h2 [Value.int IntKind.u64 n1, Value.slice q1 k3 k4] w1)) ∧
  ∀ (w7 : World) (n7 : Int) (q2 : Option Addr) (k6 k7 : Nat) (v20 v21 v22 v23 v24 v25 v26 v27 v28 v29 v30 : Value),
  h2 [Value.int IntKind.u64 n7, Value.slice q2 k6 k7] w7 →
  ∃ (h3 : Nat → List Value → World → Prop),
  (∃ (k8 : Nat), h3 k8 [Value.int IntKind.u64 n7, Value.int IntKind.i64 (0 : Int)] w7) ∧
  ∀ (k9 : Nat) (w8 : World) (n8 : Int) (v31 : Value) (n9 : Int) (v32 v33 v34 v35 v36 v37 v38 v39 v40 v41 v42 : Value),
  h3 k9 [Value.int IntKind.u64 n8, Value.int IntKind.i64 n9] w8 →
  (decide (n9 < (↑k6 : Int)) = true →
  (0 : Int) ≤ n9 ∧
  n9 < (↑k6 : Int) ∧
  someR q2 fun (a1 : Addr) =>
  ∃ (n10 : Int),
  cellAt w8 (Addr.add a1 (Int.toNat n9 * (1 : Nat))) (Value.int IntKind.u8 n10) ∧
  Rets Tryd.prog (97 : Nat)
  {
  toList :=
  [Value.int IntKind.u64
  (bits BinOp.xor IntKind.u64 n8 (IntKind.wrap IntKind.u64 (IntKind.wrap IntKind.u64 n10 * (2870177450012600261 : Int)))),
  Value.int IntKind.i64 (11 : Int)] }
  w8 fun (v43 : Value) (w9 : World) =>
  ∃ (n11 : Int),
  v43 = Value.int IntKind.u64 n11 ∧
  ∃ (k10 : Nat),
  k10 < k9 ∧
  h3 k10
  [Value.int IntKind.u64 (IntKind.wrap IntKind.u64 (n11 * (11400714785074694791 : Int))),
  Value.int IntKind.i64 (IntKind.wrap IntKind.i64 (n9 + (1 : Int)))]
  w9) ∧
  (decide (n9 < (↑k6 : Int)) = false → K (Value.int IntKind.u64 n8) w8))
theorem xx_left_eq (hh : Int) (q : Option Addr) (l c : Nat) (w : World) (K : Value → World → Prop) : fw Tryd.prog Tryd.f91 (annL [(1, [(0, some 33), (1, some 32), (7, none), (8, none), (9, none), (10, none), (11, none), (12, none), (13, none), (14, none), (15, none), (16, none), (17, none), (18, none), (19, none), (20, none)]), (4, [(0, some 33), (1, some 32), (24, none), (25, none), (26, none), (27, none), (28, none), (29, none), (30, none), (31, none), (32, none), (33, none), (34, none)]), (6, [(0, some 33), (6, none), (37, some 3), (38, none), (39, none), (40, none), (41, none), (42, none), (43, none), (44, none), (45, none), (46, none), (47, none), (48, none)])]) (ordL []) [.int .u64 hh, .slice q l c] w K = xx_left_m hh q l c w K := by kernel_rfl
theorem xx_left_go (hh : Int) (q : Option Addr) (l c : Nat) {w : World} {K : Value → World → Prop} (h : xx_left_m hh q l c w K) : Rets Tryd.prog 91 #[.int .u64 hh, .slice q l c] w K :=
  calls_of_fw plain mixed Tryd.func91 (by kernel_rfl) (by rw [xx_left_eq]; exact h)
def xx_Digest_Sum_m (g : Nat) (w : World) (K : Value → World → Prop) : Prop :=
  (false = true → K (Value.int IntKind.u64 (0 : Int)) w) ∧
  (false = false →
  Drw w fun (w1 : World) =>
  ∃ (h1 : World → Prop),
  h1 w1 ∧
  ∃ (n1 : Int),
  (∀ (w2 : World),
  h1 w2 → World.cell? w2 (Addr.add { block := g, off := (0 : Nat) } (37 : Nat)) = some (Value.int IntKind.i64 n1)) ∧
  ∃ (n2 : Int),
  (∀ (w3 : World),
  h1 w3 → World.cell? w3 (Addr.add { block := g, off := (0 : Nat) } (37 : Nat)) = some (Value.int IntKind.i64 n2)) ∧
  (32 : Int) ≠ (0 : Int) ∧
  (0 : Int) ≤ Int.tmod n2 (32 : Int) ∧
  Int.tmod n2 (32 : Int) ≤ (↑(32 : Nat) : Int) ∧
  Rets Tryd.prog (92 : Nat) { toList := [Value.pointer (some { block := g, off := (0 : Nat) })] } w1
  fun (v1 : Value) (w4 : World) =>
  ∃ (n3 : Int),
  v1 = Value.int IntKind.u64 n3 ∧
  h1 w4 ∧
  Rets Tryd.prog (91 : Nat)
  {
  toList :=
  [Value.int IntKind.u64 (IntKind.wrap IntKind.u64 (n3 + IntKind.wrap IntKind.u64 n1)),
  Value.slice (slcA (some (Addr.add { block := g, off := (0 : Nat) } (5 : Nat))) (0 : Nat) (32 : Nat) (1 : Nat))
  (Int.toNat (Int.tmod n2 (32 : Int)) - (0 : Nat)) (32 : Nat)] }
  w4 fun (v2 : Value) (w5 : World) =>
  ∃ (n4 : Int),
  v2 = Value.int IntKind.u64 n4 ∧
  (0 : Int) ≤ (33 : Int) ∧
  (0 : Int) ≤ (29 : Int) ∧
  (0 : Int) ≤ (32 : Int) ∧
  K
  (Value.int IntKind.u64
  (bits BinOp.xor IntKind.u64
  (IntKind.wrap IntKind.u64
  (bits BinOp.xor IntKind.u64
  (IntKind.wrap IntKind.u64
  (bits BinOp.xor IntKind.u64 n4 (shrI IntKind.u64 n4 (33 : Int)) * (14029467366897019727 : Int)))
  (shrI IntKind.u64
  (IntKind.wrap IntKind.u64
  (bits BinOp.xor IntKind.u64 n4 (shrI IntKind.u64 n4 (33 : Int)) * (14029467366897019727 : Int)))
  (29 : Int)) *
  (1609587929392839161 : Int)))
  (shrI IntKind.u64
  (IntKind.wrap IntKind.u64
  (bits BinOp.xor IntKind.u64
  (IntKind.wrap IntKind.u64
  (bits BinOp.xor IntKind.u64 n4 (shrI IntKind.u64 n4 (33 : Int)) * (14029467366897019727 : Int)))
  (shrI IntKind.u64
  (IntKind.wrap IntKind.u64
  (bits BinOp.xor IntKind.u64 n4 (shrI IntKind.u64 n4 (33 : Int)) * (14029467366897019727 : Int)))
  (29 : Int)) *
  (1609587929392839161 : Int)))
  (32 : Int))))
  w5)
theorem xx_Digest_Sum_eq (g : Nat) (w : World) (K : Value → World → Prop) : fw Tryd.prog Tryd.f73 (annL []) (ordL [(3, [(0, 0), (2, 0), (3, 0), (4, 0), (8, 0), (9, 0), (10, 0), (11, 0), (12, 0), (13, 0), (5, 1), (6, 0), (14, 1), (15, 0), (16, 0), (1, 2), (7, 0), (17, 3), (18, 0)])]) [.pointer (some ⟨g, 0, none⟩)] w K = xx_Digest_Sum_m g w K := by kernel_rfl
theorem xx_Digest_Sum_go (g : Nat) {w : World} {K : Value → World → Prop} (h : xx_Digest_Sum_m g w K) : Rets Tryd.prog 73 #[.pointer (some ⟨g, 0, none⟩)] w K :=
  calls_of_fw plain mixed Tryd.func73 (by kernel_rfl) (by rw [xx_Digest_Sum_eq]; exact h)
def xx_nil_Sum_m  (w : World) (K : Value → World → Prop) : Prop :=
  (true = true → K (Value.int IntKind.u64 (0 : Int)) w) ∧
  (true = false → Drw w fun (w1 : World) => ∃ (h1 : World → Prop), h1 w1 ∧ False)
theorem xx_nil_Sum_eq  (w : World) (K : Value → World → Prop) : fw Tryd.prog Tryd.f73 (annL []) (ordL [(3, [(0, 0), (2, 0), (3, 0), (4, 0), (8, 0), (9, 0), (10, 0), (11, 0), (12, 0), (13, 0), (5, 1), (6, 0), (14, 1), (15, 0), (16, 0), (1, 2), (7, 0), (17, 3), (18, 0)])]) [.pointer none] w K = xx_nil_Sum_m  w K := by kernel_rfl
theorem xx_nil_Sum_go  {w : World} {K : Value → World → Prop} (h : xx_nil_Sum_m  w K) : Rets Tryd.prog 73 #[.pointer none] w K :=
  calls_of_fw plain mixed Tryd.func73 (by kernel_rfl) (by rw [xx_nil_Sum_eq]; exact h)
def xx_Sum_m (q : Option Addr) (l c : Nat) (s : Int) (w : World) (K : Value → World → Prop) : Prop :=
  Rets Tryd.prog (71 : Nat) { toList := [Value.int IntKind.u64 s] } w fun (v1 : Value) (w1 : World) =>
  ∃ (q1 : Option Addr),
  v1 = Value.pointer q1 ∧
  Rets Tryd.prog (72 : Nat) { toList := [Value.pointer q1, Value.slice q l c] } w1 fun (v2 : Value) (w2 : World) =>
  v2 = Value.tuple { toList := [] } ∧
  Rets Tryd.prog (73 : Nat) { toList := [Value.pointer q1] } w2 fun (v3 : Value) (w3 : World) =>
  ∃ (n1 : Int), v3 = Value.int IntKind.u64 n1 ∧ K (Value.int IntKind.u64 n1) w3
theorem xx_Sum_eq (q : Option Addr) (l c : Nat) (s : Int) (w : World) (K : Value → World → Prop) : fw Tryd.prog Tryd.f44 (annL []) (ordL []) [.slice q l c, .int .u64 s] w K = xx_Sum_m q l c s w K := by kernel_rfl
theorem xx_Sum_go (q : Option Addr) (l c : Nat) (s : Int) {w : World} {K : Value → World → Prop} (h : xx_Sum_m q l c s w K) : Rets Tryd.prog 44 #[.slice q l c, .int .u64 s] w K :=
  calls_of_fw plain mixed Tryd.func44 (by kernel_rfl) (by rw [xx_Sum_eq]; exact h)
def cortadoref01_Bits_m (x : Int) (w : World) (K : Value → World → Prop) : Prop :=
  ∃ (h1 : Nat → List Value → World → Prop),
  (∃ (k1 : Nat),
  h1 k1 [Value.int IntKind.u64 x, Value.slice none (0 : Nat) (0 : Nat), Value.int IntKind.i64 (0 : Int)] w) ∧
  ∀ (k2 : Nat) (w1 : World) (n1 : Int) (q1 : Option Addr) (k3 k4 : Nat) (n2 : Int)
  (v1 v2 v3 v4 v5 v6 v7 v8 v9 v10 v11 : Value),
  h1 k2 [Value.int IntKind.u64 n1, Value.slice q1 k3 k4, Value.int IntKind.i64 n2] w1 →
  (decide (n2 < (64 : Int)) = true →
  (2 : Int) ≠ (0 : Int) ∧
  NewR (33 : Nat) [Value.int IntKind.u64 (Int.tmod n1 (2 : Int))] w1 fun (a1 : Addr) (w2 : World) =>
  RunR Tryd.prog
  (builtinV Builtin.append { toList := [(50 : Nat), (50 : Nat)] } (nat_lit 50)
  { toList := [Value.slice q1 k3 k4, Value.slice (some a1) (1 : Nat) (1 : Nat)] })
  w2 fun (v12 : Value) (w3 : World) =>
  ∃ (q2 : Option Addr),
  ∃ (k5 : Nat),
  ∃ (k6 : Nat),
  v12 = Value.slice q2 k5 k6 ∧
  (2 : Int) ≠ (0 : Int) ∧
  ∃ (k7 : Nat),
  k7 < k2 ∧
  h1 k7
  [Value.int IntKind.u64 (IntKind.wrap IntKind.u64 (Int.tdiv n1 (2 : Int))), Value.slice q2 k5 k6,
  Value.int IntKind.i64 (IntKind.wrap IntKind.i64 (n2 + (1 : Int)))]
  w3) ∧
  (decide (n2 < (64 : Int)) = false → K (Value.slice q1 k3 k4) w1)
theorem cortadoref01_Bits_eq (x : Int) (w : World) (K : Value → World → Prop) : fw Tryd.prog Tryd.f83 (annL [(1, [(0, some 33), (3, some 50), (4, some 3), (5, none), (6, none), (7, none), (8, none), (9, none), (10, none), (11, none), (12, none), (13, none), (14, none), (15, none)])]) (ordL []) [.int .u64 x] w K = cortadoref01_Bits_m x w K := by kernel_rfl
theorem cortadoref01_Bits_go (x : Int) {w : World} {K : Value → World → Prop} (h : cortadoref01_Bits_m x w K) : Rets Tryd.prog 83 #[.int .u64 x] w K :=
  calls_of_fw plain mixed Tryd.func83 (by kernel_rfl) (by rw [cortadoref01_Bits_eq]; exact h)
def cortadoref01_Of_m (q : Option Addr) (l c : Nat) (w : World) (K : Value → World → Prop) : Prop :=
  ∃ (h1 : Nat → List Value → World → Prop),
  (∃ (k1 : Nat),
  h1 k1 [Value.int IntKind.u64 (0 : Int), Value.int IntKind.i64 (IntKind.wrap IntKind.i64 ((↑l : Int) - (1 : Int)))] w) ∧
  ∀ (k2 : Nat) (w1 : World) (n1 n2 : Int) (v1 v2 v3 v4 v5 v6 v7 v8 v9 v10 v11 : Value),
  h1 k2 [Value.int IntKind.u64 n1, Value.int IntKind.i64 n2] w1 →
  (decide (n2 ≥ (0 : Int)) = true →
  (0 : Int) ≤ n2 ∧
  n2 < (↑l : Int) ∧
  someR q fun (a1 : Addr) =>
  ∃ (n3 : Int),
  cellAt w1 (Addr.add a1 (Int.toNat n2 * (1 : Nat))) (Value.int IntKind.u64 n3) ∧
  ∃ (k3 : Nat),
  k3 < k2 ∧
  h1 k3
  [Value.int IntKind.u64 (IntKind.wrap IntKind.u64 (IntKind.wrap IntKind.u64 ((2 : Int) * n1) + n3)),
  Value.int IntKind.i64 (IntKind.wrap IntKind.i64 (n2 - (1 : Int)))]
  w1) ∧
  (decide (n2 ≥ (0 : Int)) = false → K (Value.int IntKind.u64 n1) w1)
theorem cortadoref01_Of_eq (q : Option Addr) (l c : Nat) (w : World) (K : Value → World → Prop) : fw Tryd.prog Tryd.f84 (annL [(1, [(3, some 33), (4, some 3), (8, none), (9, none), (10, none), (11, none), (12, none), (13, none), (14, none), (15, none), (16, none), (17, none), (18, none)])]) (ordL []) [.slice q l c] w K = cortadoref01_Of_m q l c w K := by kernel_rfl
theorem cortadoref01_Of_go (q : Option Addr) (l c : Nat) {w : World} {K : Value → World → Prop} (h : cortadoref01_Of_m q l c w K) : Rets Tryd.prog 84 #[.slice q l c] w K :=
  calls_of_fw plain mixed Tryd.func84 (by kernel_rfl) (by rw [cortadoref01_Of_eq]; exact h)
def cortadoref01_Turn_m (x k : Int) (w : World) (K : Value → World → Prop) : Prop :=
  Rets Tryd.prog (83 : Nat) { toList := [Value.int IntKind.u64 x] } w fun (v1 : Value) (w1 : World) =>
  ∃ (q1 : Option Addr),
  ∃ (k1 : Nat),
  ∃ (k2 : Nat),
  v1 = Value.slice q1 k1 k2 ∧
  (64 : Int) ≠ (0 : Int) ∧
  ∃ (h1 : List Value → World → Prop),
  ((decide (Int.tmod k (64 : Int) < (0 : Int)) = true →
  h1 [Value.int IntKind.i64 (IntKind.wrap IntKind.i64 (Int.tmod k (64 : Int) + (64 : Int)))] w1) ∧
  (decide (Int.tmod k (64 : Int) < (0 : Int)) = false → h1 [Value.int IntKind.i64 (Int.tmod k (64 : Int))] w1)) ∧
  ∀ (w2 : World) (n1 : Int) (v2 v3 : Value),
  h1 [Value.int IntKind.i64 n1] w2 →
  ∃ (h2 : Nat → List Value → World → Prop),
  (∃ (k3 : Nat), h2 k3 [Value.slice none (0 : Nat) (0 : Nat), Value.int IntKind.i64 (0 : Int)] w2) ∧
  ∀ (k4 : Nat) (w3 : World) (q2 : Option Addr) (k5 k6 : Nat) (n2 : Int)
  (v4 v5 v6 v7 v8 v9 v10 v11 v12 v13 v14 v15 v16 v17 v18 : Value),
  h2 k4 [Value.slice q2 k5 k6, Value.int IntKind.i64 n2] w3 →
  (decide (n2 < (64 : Int)) = true →
  (64 : Int) ≠ (0 : Int) ∧
  (0 : Int) ≤ Int.tmod (IntKind.wrap IntKind.i64 (IntKind.wrap IntKind.i64 (n2 + (64 : Int)) - n1)) (64 : Int) ∧
  Int.tmod (IntKind.wrap IntKind.i64 (IntKind.wrap IntKind.i64 (n2 + (64 : Int)) - n1)) (64 : Int) < (↑k1 : Int) ∧
  someR q1 fun (a1 : Addr) =>
  ∃ (n3 : Int),
  cellAt w3
  (Addr.add a1
  (Int.toNat (Int.tmod (IntKind.wrap IntKind.i64 (IntKind.wrap IntKind.i64 (n2 + (64 : Int)) - n1)) (64 : Int)) *
  (1 : Nat)))
  (Value.int IntKind.u64 n3) ∧
  NewR (33 : Nat) [Value.int IntKind.u64 n3] w3 fun (a2 : Addr) (w4 : World) =>
  RunR Tryd.prog
  (builtinV Builtin.append { toList := [(50 : Nat), (50 : Nat)] } (nat_lit 50)
  { toList := [Value.slice q2 k5 k6, Value.slice (some a2) (1 : Nat) (1 : Nat)] })
  w4 fun (v19 : Value) (w5 : World) =>
  ∃ (q3 : Option Addr),
  ∃ (k7 : Nat),
  ∃ (k8 : Nat),
  v19 = Value.slice q3 k7 k8 ∧
  ∃ (k9 : Nat),
  k9 < k4 ∧ h2 k9 [Value.slice q3 k7 k8, Value.int IntKind.i64 (IntKind.wrap IntKind.i64 (n2 + (1 : Int)))] w5) ∧
  (decide (n2 < (64 : Int)) = false →
  Rets Tryd.prog (84 : Nat) { toList := [Value.slice q2 k5 k6] } w3 fun (v20 : Value) (w6 : World) =>
  ∃ (n4 : Int), v20 = Value.int IntKind.u64 n4 ∧ K (Value.int IntKind.u64 n4) w6)
theorem cortadoref01_Turn_eq (x k : Int) (w : World) (K : Value → World → Prop) : fw Tryd.prog Tryd.f78 (annL [(0, [(6, some 3), (15, none), (16, none)]), (2, [(7, some 50), (8, some 3), (17, none), (18, none), (19, none), (20, none), (21, none), (22, none), (23, none), (24, none), (25, none), (26, none), (27, none), (28, none), (29, none), (30, none), (31, none)])]) (ordL []) [.int .u64 x, .int .i64 k] w K = cortadoref01_Turn_m x k w K := by kernel_rfl
theorem cortadoref01_Turn_go (x k : Int) {w : World} {K : Value → World → Prop} (h : cortadoref01_Turn_m x k w K) : Rets Tryd.prog 78 #[.int .u64 x, .int .i64 k] w K :=
  calls_of_fw plain mixed Tryd.func78 (by kernel_rfl) (by rw [cortadoref01_Turn_eq]; exact h)
def cortadoref04_P_m (i : Int) (w : World) (K : Value → World → Prop) : Prop :=
  NewR (33 : Nat)
  [Value.int IntKind.u64 (11400714785074694791 : Int), Value.int IntKind.u64 (14029467366897019727 : Int),
  Value.int IntKind.u64 (1609587929392839161 : Int), Value.int IntKind.u64 (9650029242287828579 : Int),
  Value.int IntKind.u64 (2870177450012600261 : Int)]
  w fun (a1 : Addr) (w1 : World) =>
  (0 : Int) ≤ IntKind.wrap IntKind.i64 (i - (1 : Int)) ∧
  IntKind.wrap IntKind.i64 (i - (1 : Int)) < (↑(5 : Nat) : Int) ∧
  ∃ (n1 : Int),
  cellAt w1 (Addr.add a1 (Int.toNat (IntKind.wrap IntKind.i64 (i - (1 : Int))) * (1 : Nat))) (Value.int IntKind.u64 n1) ∧
  K (Value.int IntKind.u64 n1) w1
theorem cortadoref04_P_eq (i : Int) (w : World) (K : Value → World → Prop) : fw Tryd.prog Tryd.f76 (annL []) (ordL []) [.int .i64 i] w K = cortadoref04_P_m i w K := by kernel_rfl
theorem cortadoref04_P_go (i : Int) {w : World} {K : Value → World → Prop} (h : cortadoref04_P_m i w K) : Rets Tryd.prog 76 #[.int .i64 i] w K :=
  calls_of_fw plain mixed Tryd.func76 (by kernel_rfl) (by rw [cortadoref04_P_eq]; exact h)
def cortadoref04_Number_m (q : Option Addr) (l c : Nat) (w : World) (K : Value → World → Prop) : Prop :=
  ∃ (h1 : Nat → List Value → World → Prop),
  (∃ (k1 : Nat),
  h1 k1 [Value.int IntKind.u64 (0 : Int), Value.int IntKind.i64 (IntKind.wrap IntKind.i64 ((↑l : Int) - (1 : Int)))] w) ∧
  ∀ (k2 : Nat) (w1 : World) (n1 n2 : Int) (v1 v2 v3 v4 v5 v6 v7 v8 v9 v10 v11 v12 : Value),
  h1 k2 [Value.int IntKind.u64 n1, Value.int IntKind.i64 n2] w1 →
  (decide (n2 ≥ (0 : Int)) = true →
  (0 : Int) ≤ n2 ∧
  n2 < (↑l : Int) ∧
  someR q fun (a1 : Addr) =>
  ∃ (n3 : Int),
  cellAt w1 (Addr.add a1 (Int.toNat n2 * (1 : Nat))) (Value.int IntKind.u8 n3) ∧
  ∃ (k3 : Nat),
  k3 < k2 ∧
  h1 k3
  [Value.int IntKind.u64
  (IntKind.wrap IntKind.u64 (IntKind.wrap IntKind.u64 ((256 : Int) * n1) + IntKind.wrap IntKind.u64 n3)),
  Value.int IntKind.i64 (IntKind.wrap IntKind.i64 (n2 - (1 : Int)))]
  w1) ∧
  (decide (n2 ≥ (0 : Int)) = false → K (Value.int IntKind.u64 n1) w1)
theorem cortadoref04_Number_eq (q : Option Addr) (l c : Nat) (w : World) (K : Value → World → Prop) : fw Tryd.prog Tryd.f80 (annL [(1, [(3, some 33), (4, some 3), (8, none), (9, none), (10, none), (11, none), (12, none), (13, none), (14, none), (15, none), (16, none), (17, none), (18, none), (19, none)])]) (ordL []) [.slice q l c] w K = cortadoref04_Number_m q l c w K := by kernel_rfl
theorem cortadoref04_Number_go (q : Option Addr) (l c : Nat) {w : World} {K : Value → World → Prop} (h : cortadoref04_Number_m q l c w K) : Rets Tryd.prog 80 #[.slice q l c] w K :=
  calls_of_fw plain mixed Tryd.func80 (by kernel_rfl) (by rw [cortadoref04_Number_eq]; exact h)
def cortadoref04_round_m (s x : Int) (w : World) (K : Value → World → Prop) : Prop :=
  Rets Tryd.prog (76 : Nat) { toList := [Value.int IntKind.i64 (2 : Int)] } w fun (v1 : Value) (w1 : World) =>
  ∃ (n1 : Int),
  v1 = Value.int IntKind.u64 n1 ∧
  Rets Tryd.prog (78 : Nat)
  {
  toList :=
  [Value.int IntKind.u64 (IntKind.wrap IntKind.u64 (s + IntKind.wrap IntKind.u64 (x * n1))),
  Value.int IntKind.i64 (31 : Int)] }
  w1 fun (v2 : Value) (w2 : World) =>
  ∃ (n2 : Int),
  v2 = Value.int IntKind.u64 n2 ∧
  Rets Tryd.prog (76 : Nat) { toList := [Value.int IntKind.i64 (1 : Int)] } w2 fun (v3 : Value) (w3 : World) =>
  ∃ (n3 : Int), v3 = Value.int IntKind.u64 n3 ∧ K (Value.int IntKind.u64 (IntKind.wrap IntKind.u64 (n2 * n3))) w3
theorem cortadoref04_round_eq (s x : Int) (w : World) (K : Value → World → Prop) : fw Tryd.prog Tryd.f79 (annL []) (ordL []) [.int .u64 s, .int .u64 x] w K = cortadoref04_round_m s x w K := by kernel_rfl
theorem cortadoref04_round_go (s x : Int) {w : World} {K : Value → World → Prop} (h : cortadoref04_round_m s x w K) : Rets Tryd.prog 79 #[.int .u64 s, .int .u64 x] w K :=
  calls_of_fw plain mixed Tryd.func79 (by kernel_rfl) (by rw [cortadoref04_round_eq]; exact h)
def cortadoref04_sums_m (q : Option Addr) (l c : Nat) (s : Int) (w : World) (K : Value → World → Prop) : Prop :=
  Rets Tryd.prog (76 : Nat) { toList := [Value.int IntKind.i64 (1 : Int)] } w fun (v1 : Value) (w1 : World) =>
  ∃ (n1 : Int),
  v1 = Value.int IntKind.u64 n1 ∧
  Rets Tryd.prog (76 : Nat) { toList := [Value.int IntKind.i64 (2 : Int)] } w1 fun (v2 : Value) (w2 : World) =>
  ∃ (n2 : Int),
  v2 = Value.int IntKind.u64 n2 ∧
  Rets Tryd.prog (76 : Nat) { toList := [Value.int IntKind.i64 (2 : Int)] } w2 fun (v3 : Value) (w3 : World) =>
  ∃ (n3 : Int),
  v3 = Value.int IntKind.u64 n3 ∧
  Rets Tryd.prog (76 : Nat) { toList := [Value.int IntKind.i64 (1 : Int)] } w3 fun (v4 : Value) (w4 : World) =>
  ∃ (n4 : Int),
  v4 = Value.int IntKind.u64 n4 ∧
  NewR (33 : Nat)
  [Value.int IntKind.u64 (IntKind.wrap IntKind.u64 (IntKind.wrap IntKind.u64 (s + n1) + n2)),
  Value.int IntKind.u64 (IntKind.wrap IntKind.u64 (s + n3)), Value.int IntKind.u64 s,
  Value.int IntKind.u64 (IntKind.wrap IntKind.u64 (s - n4))]
  w4 fun (a1 : Addr) (w5 : World) =>
  ∃ (h1 : Nat → List Value → World → Prop),
  (∃ (k1 : Nat), h1 k1 [Value.int IntKind.i64 (0 : Int)] w5) ∧
  ∀ (k2 : Nat) (w6 : World) (n5 : Int)
  (v5 v6 v7 v8 v9 v10 v11 v12 v13 v14 v15 v16 v17 v18 v19 v20 v21 v22 v23 v24 v25 v26 v27 v28 v29 v30 v31 v32 v33 v34 v35
  v36 : Value),
  h1 k2 [Value.int IntKind.i64 n5] w6 →
  (decide (IntKind.wrap IntKind.i64 (n5 + (32 : Int)) ≤ (↑l : Int)) = true →
  ∃ (h2 : Nat → List Value → World → Prop),
  (∃ (k3 : Nat), h2 k3 [Value.int IntKind.i64 (0 : Int)] w6) ∧
  ∀ (k4 : Nat) (w7 : World) (n6 : Int)
  (v37 v38 v39 v40 v41 v42 v43 v44 v45 v46 v47 v48 v49 v50 v51 v52 v53 v54 v55 v56 v57 v58 v59 v60 : Value),
  h2 k4 [Value.int IntKind.i64 n6] w7 →
  (decide (n6 < (4 : Int)) = true →
  Drw w7 fun (w8 : World) =>
  ∃ (h3 : World → Prop),
  h3 w8 ∧
  (0 : Int) ≤ n6 ∧
  n6 < (↑(4 : Nat) : Int) ∧
  (0 : Int) ≤
  IntKind.wrap IntKind.i64 (IntKind.wrap IntKind.i64 (n5 + IntKind.wrap IntKind.i64 ((8 : Int) * n6)) + (8 : Int)) ∧
  IntKind.wrap IntKind.i64 (IntKind.wrap IntKind.i64 (n5 + IntKind.wrap IntKind.i64 ((8 : Int) * n6)) + (8 : Int)) ≤
  (↑c : Int) ∧
  (0 : Int) ≤ IntKind.wrap IntKind.i64 (n5 + IntKind.wrap IntKind.i64 ((8 : Int) * n6)) ∧
  IntKind.wrap IntKind.i64 (n5 + IntKind.wrap IntKind.i64 ((8 : Int) * n6)) ≤
  (↑(Int.toNat
  (IntKind.wrap IntKind.i64 (IntKind.wrap IntKind.i64 (n5 + IntKind.wrap IntKind.i64 ((8 : Int) * n6)) + (8 : Int)))) :
  Int) ∧
  ∃ (n7 : Int),
  (∀ (w9 : World), h3 w9 → World.cell? w9 (Addr.add a1 (Int.toNat n6 * (1 : Nat))) = some (Value.int IntKind.u64 n7)) ∧
  Rets Tryd.prog (80 : Nat)
  {
  toList :=
  [Value.slice
  (slcA q (Int.toNat (IntKind.wrap IntKind.i64 (n5 + IntKind.wrap IntKind.i64 ((8 : Int) * n6)))) c (1 : Nat))
  (Int.toNat
  (IntKind.wrap IntKind.i64 (IntKind.wrap IntKind.i64 (n5 + IntKind.wrap IntKind.i64 ((8 : Int) * n6)) + (8 : Int))) -
  Int.toNat (IntKind.wrap IntKind.i64 (n5 + IntKind.wrap IntKind.i64 ((8 : Int) * n6))))
  (c - Int.toNat (IntKind.wrap IntKind.i64 (n5 + IntKind.wrap IntKind.i64 ((8 : Int) * n6))))] }
  w8 fun (v61 : Value) (w10 : World) =>
  ∃ (n8 : Int),
  v61 = Value.int IntKind.u64 n8 ∧
  h3 w10 ∧
  Rets Tryd.prog (79 : Nat) { toList := [Value.int IntKind.u64 n7, Value.int IntKind.u64 n8] } w10
  fun (v62 : Value) (w11 : World) =>
  ∃ (n9 : Int),
  v62 = Value.int IntKind.u64 n9 ∧
  (0 : Int) ≤ n6 ∧
  n6 < (↑(4 : Nat) : Int) ∧
  StoreR (Addr.add a1 (Int.toNat n6 * (1 : Nat))) [Value.int IntKind.u64 n9] w11 fun (w12 : World) =>
  ∃ (k5 : Nat), k5 < k4 ∧ h2 k5 [Value.int IntKind.i64 (IntKind.wrap IntKind.i64 (n6 + (1 : Int)))] w12) ∧
  (decide (n6 < (4 : Int)) = false →
  ∃ (k6 : Nat), k6 < k2 ∧ h1 k6 [Value.int IntKind.i64 (IntKind.wrap IntKind.i64 (n5 + (32 : Int)))] w7)) ∧
  (decide (IntKind.wrap IntKind.i64 (n5 + (32 : Int)) ≤ (↑l : Int)) = false →
  K (Value.slice (some a1) (4 : Nat) (4 : Nat)) w6)
theorem cortadoref04_sums_eq (q : Option Addr) (l c : Nat) (s : Int) (w : World) (K : Value → World → Prop) : fw Tryd.prog Tryd.f77 (annL [(1, [(6, some 3), (7, none), (21, none), (22, none), (23, none), (24, none), (25, none), (26, none), (27, none), (28, none), (29, none), (30, none), (31, none), (32, none), (33, none), (34, none), (35, none), (36, none), (37, none), (38, none), (39, none), (40, none), (41, none), (42, none), (43, none), (44, none), (45, none), (46, none), (47, none), (48, none), (49, none), (50, none), (51, none)]), (5, [(7, some 3), (28, none), (29, none), (30, none), (31, none), (32, none), (33, none), (34, none), (35, none), (36, none), (37, none), (38, none), (39, none), (40, none), (41, none), (42, none), (43, none), (44, none), (45, none), (46, none), (47, none), (48, none), (49, none), (50, none), (51, none)])]) (ordL [(8, [(0, 0), (1, 0), (2, 0), (3, 0), (4, 0), (6, 0), (7, 0), (8, 0), (9, 0), (10, 0), (11, 0), (12, 0), (13, 0), (14, 0), (15, 0), (16, 0), (5, 1), (17, 2), (18, 3), (19, 0), (20, 3)])]) [.slice q l c, .int .u64 s] w K = cortadoref04_sums_m q l c s w K := by kernel_rfl
theorem cortadoref04_sums_go (q : Option Addr) (l c : Nat) (s : Int) {w : World} {K : Value → World → Prop} (h : cortadoref04_sums_m q l c s w K) : Rets Tryd.prog 77 #[.slice q l c, .int .u64 s] w K :=
  calls_of_fw plain mixed Tryd.func77 (by kernel_rfl) (by rw [cortadoref04_sums_eq]; exact h)
def cortadoref04_Sum_m (q : Option Addr) (l c : Nat) (s : Int) (w : World) (K : Value → World → Prop) : Prop :=
  Rets Tryd.prog (76 : Nat) { toList := [Value.int IntKind.i64 (5 : Int)] } w fun (v1 : Value) (w1 : World) =>
  ∃ (n1 : Int),
  v1 = Value.int IntKind.u64 n1 ∧
  ∃ (h1 : List Value → World → Prop),
  ((decide ((↑l : Int) ≥ (32 : Int)) = true →
  Rets Tryd.prog (77 : Nat) { toList := [Value.slice q l c, Value.int IntKind.u64 s] } w1 fun (v2 : Value) (w2 : World) =>
  ∃ (q1 : Option Addr),
  ∃ (k1 : Nat),
  ∃ (k2 : Nat),
  v2 = Value.slice q1 k1 k2 ∧
  Drw w2 fun (w3 : World) =>
  ∃ (h2 : World → Prop),
  h2 w3 ∧
  (0 : Int) ≤ (0 : Int) ∧
  (0 : Int) < (↑k1 : Int) ∧
  someR q1 fun (a1 : Addr) =>
  (0 : Int) ≤ (1 : Int) ∧
  (1 : Int) < (↑k1 : Int) ∧
  someR q1 fun (a2 : Addr) =>
  (0 : Int) ≤ (2 : Int) ∧
  (2 : Int) < (↑k1 : Int) ∧
  someR q1 fun (a3 : Addr) =>
  (0 : Int) ≤ (3 : Int) ∧
  (3 : Int) < (↑k1 : Int) ∧
  someR q1 fun (a4 : Addr) =>
  ∃ (n2 : Int),
  (∀ (w4 : World), h2 w4 → World.cell? w4 (Addr.add a1 (0 : Nat)) = some (Value.int IntKind.u64 n2)) ∧
  ∃ (n3 : Int),
  (∀ (w5 : World), h2 w5 → World.cell? w5 (Addr.add a2 (1 : Nat)) = some (Value.int IntKind.u64 n3)) ∧
  ∃ (n4 : Int),
  (∀ (w6 : World), h2 w6 → World.cell? w6 (Addr.add a3 (2 : Nat)) = some (Value.int IntKind.u64 n4)) ∧
  ∃ (n5 : Int),
  (∀ (w7 : World), h2 w7 → World.cell? w7 (Addr.add a4 (3 : Nat)) = some (Value.int IntKind.u64 n5)) ∧
  Rets Tryd.prog (78 : Nat) { toList := [Value.int IntKind.u64 n2, Value.int IntKind.i64 (1 : Int)] } w3
  fun (v3 : Value) (w8 : World) =>
  ∃ (n6 : Int),
  v3 = Value.int IntKind.u64 n6 ∧
  h2 w8 ∧
  Rets Tryd.prog (78 : Nat) { toList := [Value.int IntKind.u64 n3, Value.int IntKind.i64 (7 : Int)] } w8
  fun (v4 : Value) (w9 : World) =>
  ∃ (n7 : Int),
  v4 = Value.int IntKind.u64 n7 ∧
  h2 w9 ∧
  Rets Tryd.prog (78 : Nat) { toList := [Value.int IntKind.u64 n4, Value.int IntKind.i64 (12 : Int)] } w9
  fun (v5 : Value) (w10 : World) =>
  ∃ (n8 : Int),
  v5 = Value.int IntKind.u64 n8 ∧
  h2 w10 ∧
  Rets Tryd.prog (78 : Nat) { toList := [Value.int IntKind.u64 n5, Value.int IntKind.i64 (18 : Int)] } w10
  fun (v6 : Value) (w11 : World) =>
  ∃ (n9 : Int),
  v6 = Value.int IntKind.u64 n9 ∧
  ∃ (h3 : Nat → List Value → World → Prop),
  (∃ (k3 : Nat),
  h3 k3
  [Value.int IntKind.u64
  (IntKind.wrap IntKind.u64 (IntKind.wrap IntKind.u64 (IntKind.wrap IntKind.u64 (n6 + n7) + n8) + n9)),
  Value.int IntKind.i64 (0 : Int)]
  w11) ∧
  ∀ (k4 : Nat) (w12 : World) (n10 n11 : Int) (v7 v8 v9 v10 v11 v12 v13 v14 v15 v16 v17 v18 v19 v20 v21 : Value),
  h3 k4 [Value.int IntKind.u64 n10, Value.int IntKind.i64 n11] w12 →
  (decide (n11 < (4 : Int)) = true →
  (0 : Int) ≤ n11 ∧
  n11 < (↑k1 : Int) ∧
  someR q1 fun (a5 : Addr) =>
  ∃ (n12 : Int),
  cellAt w12 (Addr.add a5 (Int.toNat n11 * (1 : Nat))) (Value.int IntKind.u64 n12) ∧
  Rets Tryd.prog (79 : Nat) { toList := [Value.int IntKind.u64 (0 : Int), Value.int IntKind.u64 n12] } w12
  fun (v22 : Value) (w13 : World) =>
  ∃ (n13 : Int),
  v22 = Value.int IntKind.u64 n13 ∧
  Rets Tryd.prog (76 : Nat) { toList := [Value.int IntKind.i64 (1 : Int)] } w13 fun (v23 : Value) (w14 : World) =>
  ∃ (n14 : Int),
  v23 = Value.int IntKind.u64 n14 ∧
  Rets Tryd.prog (76 : Nat) { toList := [Value.int IntKind.i64 (4 : Int)] } w14 fun (v24 : Value) (w15 : World) =>
  ∃ (n15 : Int),
  v24 = Value.int IntKind.u64 n15 ∧
  ∃ (k5 : Nat),
  k5 < k4 ∧
  h3 k5
  [Value.int IntKind.u64
  (IntKind.wrap IntKind.u64 (IntKind.wrap IntKind.u64 (bits BinOp.xor IntKind.u64 n10 n13 * n14) + n15)),
  Value.int IntKind.i64 (IntKind.wrap IntKind.i64 (n11 + (1 : Int)))]
  w15) ∧
  (decide (n11 < (4 : Int)) = false → h1 [Value.int IntKind.u64 n10] w12)) ∧
  (decide ((↑l : Int) ≥ (32 : Int)) = false → h1 [Value.int IntKind.u64 (IntKind.wrap IntKind.u64 (s + n1))] w1)) ∧
  ∀ (w16 : World) (n16 : Int)
  (v25 v26 v27 v28 v29 v30 v31 v32 v33 v34 v35 v36 v37 v38 v39 v40 v41 v42 v43 v44 v45 v46 v47 v48 v49 v50 v51 v52 v53 v54
  v55 v56 v57 v58 v59 v60 v61 v62 v63 : Value),
  h1 [Value.int IntKind.u64 n16] w16 →
  (32 : Int) ≠ (0 : Int) ∧
  ∃ (h4 : Nat → List Value → World → Prop),
  (∃ (k6 : Nat),
  h4 k6
  [Value.int IntKind.u64 (IntKind.wrap IntKind.u64 (n16 + IntKind.wrap IntKind.u64 (↑l : Int))),
  Value.int IntKind.i64 (IntKind.wrap IntKind.i64 ((↑l : Int) - Int.tmod (↑l : Int) (32 : Int)))]
  w16) ∧
  ∀ (k7 : Nat) (w17 : World) (n17 n18 : Int)
  (v64 v65 v66 v67 v68 v69 v70 v71 v72 v73 v74 v75 v76 v77 v78 v79 v80 v81 v82 v83 v84 : Value),
  h4 k7 [Value.int IntKind.u64 n17, Value.int IntKind.i64 n18] w17 →
  (decide (IntKind.wrap IntKind.i64 (n18 + (8 : Int)) ≤ (↑l : Int)) = true →
  (0 : Int) ≤ IntKind.wrap IntKind.i64 (n18 + (8 : Int)) ∧
  IntKind.wrap IntKind.i64 (n18 + (8 : Int)) ≤ (↑c : Int) ∧
  (0 : Int) ≤ n18 ∧
  n18 ≤ (↑(Int.toNat (IntKind.wrap IntKind.i64 (n18 + (8 : Int)))) : Int) ∧
  Rets Tryd.prog (80 : Nat)
  {
  toList :=
  [Value.slice (slcA q (Int.toNat n18) c (1 : Nat))
  (Int.toNat (IntKind.wrap IntKind.i64 (n18 + (8 : Int))) - Int.toNat n18) (c - Int.toNat n18)] }
  w17 fun (v85 : Value) (w18 : World) =>
  ∃ (n19 : Int),
  v85 = Value.int IntKind.u64 n19 ∧
  Rets Tryd.prog (79 : Nat) { toList := [Value.int IntKind.u64 (0 : Int), Value.int IntKind.u64 n19] } w18
  fun (v86 : Value) (w19 : World) =>
  ∃ (n20 : Int),
  v86 = Value.int IntKind.u64 n20 ∧
  Rets Tryd.prog (78 : Nat)
  { toList := [Value.int IntKind.u64 (bits BinOp.xor IntKind.u64 n17 n20), Value.int IntKind.i64 (27 : Int)] } w19
  fun (v87 : Value) (w20 : World) =>
  ∃ (n21 : Int),
  v87 = Value.int IntKind.u64 n21 ∧
  Rets Tryd.prog (76 : Nat) { toList := [Value.int IntKind.i64 (1 : Int)] } w20 fun (v88 : Value) (w21 : World) =>
  ∃ (n22 : Int),
  v88 = Value.int IntKind.u64 n22 ∧
  Rets Tryd.prog (76 : Nat) { toList := [Value.int IntKind.i64 (4 : Int)] } w21 fun (v89 : Value) (w22 : World) =>
  ∃ (n23 : Int),
  v89 = Value.int IntKind.u64 n23 ∧
  ∃ (k8 : Nat),
  k8 < k7 ∧
  h4 k8
  [Value.int IntKind.u64 (IntKind.wrap IntKind.u64 (IntKind.wrap IntKind.u64 (n21 * n22) + n23)),
  Value.int IntKind.i64 (IntKind.wrap IntKind.i64 (n18 + (8 : Int)))]
  w22) ∧
  (decide (IntKind.wrap IntKind.i64 (n18 + (8 : Int)) ≤ (↑l : Int)) = false →
  ∃ (h5 : List Value → World → Prop),
  ((decide (IntKind.wrap IntKind.i64 (n18 + (4 : Int)) ≤ (↑l : Int)) = true →
  (0 : Int) ≤ IntKind.wrap IntKind.i64 (n18 + (4 : Int)) ∧
  IntKind.wrap IntKind.i64 (n18 + (4 : Int)) ≤ (↑c : Int) ∧
  (0 : Int) ≤ n18 ∧
  n18 ≤ (↑(Int.toNat (IntKind.wrap IntKind.i64 (n18 + (4 : Int)))) : Int) ∧
  Rets Tryd.prog (80 : Nat)
  {
  toList :=
  [Value.slice (slcA q (Int.toNat n18) c (1 : Nat))
  (Int.toNat (IntKind.wrap IntKind.i64 (n18 + (4 : Int))) - Int.toNat n18) (c - Int.toNat n18)] }
  w17 fun (v90 : Value) (w23 : World) =>
  ∃ (n24 : Int),
  v90 = Value.int IntKind.u64 n24 ∧
  Rets Tryd.prog (76 : Nat) { toList := [Value.int IntKind.i64 (1 : Int)] } w23 fun (v91 : Value) (w24 : World) =>
  ∃ (n25 : Int),
  v91 = Value.int IntKind.u64 n25 ∧
  Rets Tryd.prog (78 : Nat)
  {
  toList :=
  [Value.int IntKind.u64 (bits BinOp.xor IntKind.u64 n17 (IntKind.wrap IntKind.u64 (n24 * n25))),
  Value.int IntKind.i64 (23 : Int)] }
  w24 fun (v92 : Value) (w25 : World) =>
  ∃ (n26 : Int),
  v92 = Value.int IntKind.u64 n26 ∧
  Rets Tryd.prog (76 : Nat) { toList := [Value.int IntKind.i64 (2 : Int)] } w25 fun (v93 : Value) (w26 : World) =>
  ∃ (n27 : Int),
  v93 = Value.int IntKind.u64 n27 ∧
  Rets Tryd.prog (76 : Nat) { toList := [Value.int IntKind.i64 (3 : Int)] } w26 fun (v94 : Value) (w27 : World) =>
  ∃ (n28 : Int),
  v94 = Value.int IntKind.u64 n28 ∧
  h5
  [Value.int IntKind.u64 (IntKind.wrap IntKind.u64 (IntKind.wrap IntKind.u64 (n26 * n27) + n28)),
  Value.int IntKind.i64 (IntKind.wrap IntKind.i64 (n18 + (4 : Int)))]
  w27) ∧
  (decide (IntKind.wrap IntKind.i64 (n18 + (4 : Int)) ≤ (↑l : Int)) = false →
  h5 [Value.int IntKind.u64 n17, Value.int IntKind.i64 n18] w17)) ∧
  ∀ (w28 : World) (n29 n30 : Int)
  (v95 v96 v97 v98 v99 v100 v101 v102 v103 v104 v105 v106 v107 v108 v109 v110 v111 v112 v113 : Value),
  h5 [Value.int IntKind.u64 n29, Value.int IntKind.i64 n30] w28 →
  ∃ (h6 : Nat → List Value → World → Prop),
  (∃ (k9 : Nat), h6 k9 [Value.int IntKind.u64 n29, Value.int IntKind.i64 n30] w28) ∧
  ∀ (k10 : Nat) (w29 : World) (n31 n32 : Int)
  (v114 v115 v116 v117 v118 v119 v120 v121 v122 v123 v124 v125 v126 v127 v128 v129 v130 v131 v132 v133 : Value),
  h6 k10 [Value.int IntKind.u64 n31, Value.int IntKind.i64 n32] w29 →
  (decide (n32 < (↑l : Int)) = true →
  Drw w29 fun (w30 : World) =>
  ∃ (h7 : World → Prop),
  h7 w30 ∧
  (0 : Int) ≤ n32 ∧
  n32 < (↑l : Int) ∧
  someR q fun (a6 : Addr) =>
  ∃ (n33 : Int),
  (∀ (w31 : World),
  h7 w31 → World.cell? w31 (Addr.add a6 (Int.toNat n32 * (1 : Nat))) = some (Value.int IntKind.u8 n33)) ∧
  Rets Tryd.prog (76 : Nat) { toList := [Value.int IntKind.i64 (5 : Int)] } w30 fun (v134 : Value) (w32 : World) =>
  ∃ (n34 : Int),
  v134 = Value.int IntKind.u64 n34 ∧
  h7 w32 ∧
  Rets Tryd.prog (78 : Nat)
  {
  toList :=
  [Value.int IntKind.u64 (bits BinOp.xor IntKind.u64 n31 (IntKind.wrap IntKind.u64 (IntKind.wrap IntKind.u64 n33 * n34))),
  Value.int IntKind.i64 (11 : Int)] }
  w32 fun (v135 : Value) (w33 : World) =>
  ∃ (n35 : Int),
  v135 = Value.int IntKind.u64 n35 ∧
  Rets Tryd.prog (76 : Nat) { toList := [Value.int IntKind.i64 (1 : Int)] } w33 fun (v136 : Value) (w34 : World) =>
  ∃ (n36 : Int),
  v136 = Value.int IntKind.u64 n36 ∧
  ∃ (k11 : Nat),
  k11 < k10 ∧
  h6 k11
  [Value.int IntKind.u64 (IntKind.wrap IntKind.u64 (n35 * n36)),
  Value.int IntKind.i64 (IntKind.wrap IntKind.i64 (n32 + (1 : Int)))]
  w34) ∧
  (decide (n32 < (↑l : Int)) = false →
  Rets Tryd.prog (81 : Nat) { toList := [Value.int IntKind.u64 n31, Value.int IntKind.i64 (33 : Int)] } w29
  fun (v137 : Value) (w35 : World) =>
  ∃ (n37 : Int),
  v137 = Value.int IntKind.u64 n37 ∧
  Rets Tryd.prog (76 : Nat) { toList := [Value.int IntKind.i64 (2 : Int)] } w35 fun (v138 : Value) (w36 : World) =>
  ∃ (n38 : Int),
  v138 = Value.int IntKind.u64 n38 ∧
  Rets Tryd.prog (81 : Nat)
  { toList := [Value.int IntKind.u64 (IntKind.wrap IntKind.u64 (n37 * n38)), Value.int IntKind.i64 (29 : Int)] } w36
  fun (v139 : Value) (w37 : World) =>
  ∃ (n39 : Int),
  v139 = Value.int IntKind.u64 n39 ∧
  Rets Tryd.prog (76 : Nat) { toList := [Value.int IntKind.i64 (3 : Int)] } w37 fun (v140 : Value) (w38 : World) =>
  ∃ (n40 : Int),
  v140 = Value.int IntKind.u64 n40 ∧
  Rets Tryd.prog (81 : Nat)
  { toList := [Value.int IntKind.u64 (IntKind.wrap IntKind.u64 (n39 * n40)), Value.int IntKind.i64 (32 : Int)] } w38
  fun (v141 : Value) (w39 : World) =>
  ∃ (n41 : Int), v141 = Value.int IntKind.u64 n41 ∧ K (Value.int IntKind.u64 n41) w39))
theorem cortadoref04_Sum_eq (q : Option Addr) (l c : Nat) (s : Int) (w : World) (K : Value → World → Prop) : fw Tryd.prog Tryd.f48 (annL [(0, [(5, some 33), (6, none), (7, none), (17, none), (18, none), (19, none), (20, none), (21, none), (22, none), (23, none), (24, none), (25, none), (26, none), (27, none), (28, none), (29, none), (30, none), (31, none), (32, none), (33, none), (34, none), (35, none), (36, none), (37, none), (38, none), (39, none), (40, none), (41, none), (42, none), (43, none), (44, none), (45, none), (46, none), (47, none), (48, none), (49, none), (50, none), (51, none), (52, none), (53, none)]), (2, [(5, some 33), (7, some 3), (39, none), (40, none), (41, none), (42, none), (43, none), (44, none), (45, none), (46, none), (47, none), (48, none), (49, none), (50, none), (51, none), (52, none), (53, none)]), (6, [(5, some 33), (8, some 3), (65, none), (66, none), (67, none), (68, none), (69, none), (70, none), (71, none), (72, none), (73, none), (74, none), (75, none), (76, none), (77, none), (78, none), (79, none), (80, none), (81, none), (82, none), (83, none), (84, none), (85, none)]), (9, [(5, some 33), (8, some 3), (9, none), (91, none), (92, none), (93, none), (94, none), (95, none), (96, none), (97, none), (98, none), (99, none), (100, none), (101, none), (102, none), (103, none), (104, none), (105, none), (106, none), (107, none), (108, none)]), (11, [(5, some 33), (8, some 3), (10, none), (109, none), (110, none), (111, none), (112, none), (113, none), (114, none), (115, none), (116, none), (117, none), (118, none), (119, none), (120, none), (121, none), (122, none), (123, none), (124, none), (125, none), (126, none), (127, none)])]) (ordL [(4, [(0, 0), (1, 0), (4, 0), (5, 0), (9, 0), (10, 0), (14, 0), (15, 0), (2, 1), (6, 1), (11, 1), (16, 1), (3, 2), (7, 2), (8, 0), (12, 2), (13, 0), (17, 3), (18, 0), (19, 0)]), (19, [(0, 0), (1, 0), (2, 0), (3, 1), (4, 0), (5, 2), (6, 0), (7, 0)])]) [.slice q l c, .int .u64 s] w K = cortadoref04_Sum_m q l c s w K := by kernel_rfl
theorem cortadoref04_Sum_go (q : Option Addr) (l c : Nat) (s : Int) {w : World} {K : Value → World → Prop} (h : cortadoref04_Sum_m q l c s w K) : Rets Tryd.prog 48 #[.slice q l c, .int .u64 s] w K :=
  calls_of_fw plain mixed Tryd.func48 (by kernel_rfl) (by rw [cortadoref04_Sum_eq]; exact h)
end Go.Proofs.YtipcbhaeoeghnaaDoor.Eng
