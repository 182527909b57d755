/- What the code of these functions asks for: printed by a program of this session's (gens.py) out of the seat's own functions; the kernel checks each row. -/
import Derived.Test.YtajckpjlliiekaaDoorEngH
import Derived.Test.YtajckpjlliiekaaDoorProg
import Derived.Test.YtajckpjlliiekaaDoorBase
namespace Go.Proofs.YtajckpjlliiekaaDoor.Eng
open Go Go.Proofs
set_option linter.unusedVariables false
set_option maxRecDepth 1000000
def mix_Fold_m (x k : Int) (w : World) (K : Value → World → Prop) : Prop :=
  (decide (k < (1 : Int)) = false →
  (decide (k ≥ (64 : Int)) = true → K (Value.int IntKind.u64 x) w) ∧
  (decide (k ≥ (64 : Int)) = false →
  (0 : Int) ≤ IntKind.wrap IntKind.u64 k ∧
  K (Value.int IntKind.u64 (bits BinOp.xor IntKind.u64 x (shrI IntKind.u64 x (IntKind.wrap IntKind.u64 k)))) w)) ∧
  (decide (k < (1 : Int)) = true → K (Value.int IntKind.u64 x) w)
theorem mix_Fold_eq (x k : Int) (w : World) (K : Value → World → Prop) : fw Tryd.prog Tryd.f120 (annL []) (ordL []) [.int .u64 x, .int .i64 k] w K = mix_Fold_m x k w K := by kernel_rfl
theorem mix_Fold_go (x k : Int) {w : World} {K : Value → World → Prop} (h : mix_Fold_m x k w K) : Rets Tryd.prog 120 #[.int .u64 x, .int .i64 k] w K :=
  calls_of_fw plain mixed Tryd.func120 (by kernel_rfl) (by rw [mix_Fold_eq]; exact h)
def mix_along_m (x f0 t0 f1 t1 f2 t2 : Int) (w : World) (K : Value → World → Prop) : Prop :=
  NewR (156 : Nat)
  [Value.int IntKind.i64 f0, Value.int IntKind.u64 t0, Value.int IntKind.i64 f1, Value.int IntKind.u64 t1,
  Value.int IntKind.i64 f2, Value.int IntKind.u64 t2]
  w fun (a1 : Addr) (w1 : World) =>
  ∃ (n1 : Int),
  ∃ (n2 : Int),
  ∃ (n3 : Int),
  ∃ (n4 : Int),
  ∃ (n5 : Int),
  ∃ (n6 : Int),
  (cellAt w1 (Addr.add a1 (0 : Nat)) (Value.int IntKind.i64 n1) ∧
  cellAt w1 (Addr.add a1 (1 : Nat)) (Value.int IntKind.u64 n2) ∧
  cellAt w1 (Addr.add a1 (2 : Nat)) (Value.int IntKind.i64 n3) ∧
  cellAt w1 (Addr.add a1 (3 : Nat)) (Value.int IntKind.u64 n4) ∧
  cellAt w1 (Addr.add a1 (4 : Nat)) (Value.int IntKind.i64 n5) ∧
  cellAt w1 (Addr.add a1 (5 : Nat)) (Value.int IntKind.u64 n6)) ∧
  ∃ (h1 : Nat → List Value → World → Prop),
  (∃ (k1 : Nat), h1 k1 [Value.int IntKind.u64 x, Value.int IntKind.i64 (0 : Int)] w1) ∧
  ∀ (k2 : Nat) (w2 : World) (n7 : Int) (v1 : Value) (n8 : Int) (v2 v3 v4 v5 v6 v7 v8 v9 v10 v11 : Value),
  h1 k2 [Value.int IntKind.u64 n7, Value.int IntKind.i64 n8] w2 →
  (decide (n8 < (3 : Int)) = true →
  (0 : Int) ≤ n8 ∧
  n8 < (↑(3 : Nat) : Int) ∧
  ((True ∧
  (n8 = (↑(nat_lit 0) : Int) →
  NewR (155 : Nat) [Value.int IntKind.i64 (0 : Int), Value.int IntKind.u64 (0 : Int)] w2 fun (a2 : Addr) (w3 : World) =>
  StoreR a2 [Value.int IntKind.i64 n1, Value.int IntKind.u64 n2] w3 fun (w4 : World) =>
  Drw w4 fun (w5 : World) =>
  ∃ (h2 : World → Prop),
  h2 w5 ∧
  ∃ (n9 : Int),
  (∀ (w6 : World), h2 w6 → World.cell? w6 (Addr.add a2 (0 : Nat)) = some (Value.int IntKind.i64 n9)) ∧
  ∃ (n10 : Int),
  (∀ (w7 : World), h2 w7 → World.cell? w7 (Addr.add a2 (1 : Nat)) = some (Value.int IntKind.u64 n10)) ∧
  Rets Tryd.prog (120 : Nat) { toList := [Value.int IntKind.u64 n7, Value.int IntKind.i64 n9] } w5
  fun (v12 : Value) (w8 : World) =>
  ∃ (n11 : Int),
  v12 = Value.int IntKind.u64 n11 ∧
  h2 w8 ∧
  ∃ (k3 : Nat),
  k3 < k2 ∧
  h1 k3
  [Value.int IntKind.u64 (IntKind.wrap IntKind.u64 (n11 * n10)),
  Value.int IntKind.i64 (IntKind.wrap IntKind.i64 (n8 + (1 : Int)))]
  w8)) ∧
  (n8 = (↑(nat_lit 1) : Int) →
  NewR (155 : Nat) [Value.int IntKind.i64 (0 : Int), Value.int IntKind.u64 (0 : Int)] w2 fun (a3 : Addr) (w9 : World) =>
  StoreR a3 [Value.int IntKind.i64 n3, Value.int IntKind.u64 n4] w9 fun (w10 : World) =>
  Drw w10 fun (w11 : World) =>
  ∃ (h3 : World → Prop),
  h3 w11 ∧
  ∃ (n12 : Int),
  (∀ (w12 : World), h3 w12 → World.cell? w12 (Addr.add a3 (0 : Nat)) = some (Value.int IntKind.i64 n12)) ∧
  ∃ (n13 : Int),
  (∀ (w13 : World), h3 w13 → World.cell? w13 (Addr.add a3 (1 : Nat)) = some (Value.int IntKind.u64 n13)) ∧
  Rets Tryd.prog (120 : Nat) { toList := [Value.int IntKind.u64 n7, Value.int IntKind.i64 n12] } w11
  fun (v13 : Value) (w14 : World) =>
  ∃ (n14 : Int),
  v13 = Value.int IntKind.u64 n14 ∧
  h3 w14 ∧
  ∃ (k4 : Nat),
  k4 < k2 ∧
  h1 k4
  [Value.int IntKind.u64 (IntKind.wrap IntKind.u64 (n14 * n13)),
  Value.int IntKind.i64 (IntKind.wrap IntKind.i64 (n8 + (1 : Int)))]
  w14)) ∧
  (n8 = (↑(nat_lit 2) : Int) →
  NewR (155 : Nat) [Value.int IntKind.i64 (0 : Int), Value.int IntKind.u64 (0 : Int)] w2 fun (a4 : Addr) (w15 : World) =>
  StoreR a4 [Value.int IntKind.i64 n5, Value.int IntKind.u64 n6] w15 fun (w16 : World) =>
  Drw w16 fun (w17 : World) =>
  ∃ (h4 : World → Prop),
  h4 w17 ∧
  ∃ (n15 : Int),
  (∀ (w18 : World), h4 w18 → World.cell? w18 (Addr.add a4 (0 : Nat)) = some (Value.int IntKind.i64 n15)) ∧
  ∃ (n16 : Int),
  (∀ (w19 : World), h4 w19 → World.cell? w19 (Addr.add a4 (1 : Nat)) = some (Value.int IntKind.u64 n16)) ∧
  Rets Tryd.prog (120 : Nat) { toList := [Value.int IntKind.u64 n7, Value.int IntKind.i64 n15] } w17
  fun (v14 : Value) (w20 : World) =>
  ∃ (n17 : Int),
  v14 = Value.int IntKind.u64 n17 ∧
  h4 w20 ∧
  ∃ (k5 : Nat),
  k5 < k2 ∧
  h1 k5
  [Value.int IntKind.u64 (IntKind.wrap IntKind.u64 (n17 * n16)),
  Value.int IntKind.i64 (IntKind.wrap IntKind.i64 (n8 + (1 : Int)))]
  w20)) ∧
  (decide (n8 < (3 : Int)) = false → K (Value.int IntKind.u64 n7) w2)
theorem mix_along_eq (x f0 t0 f1 t1 f2 t2 : Int) (w : World) (K : Value → World → Prop) : fw Tryd.prog Tryd.f109 (annL [(1, [(0, some 32), (6, none), (8, some 3), (9, none), (10, none), (11, none), (12, none), (13, none), (14, none), (15, none), (16, none), (17, none), (18, none)])]) (ordL [(4, [(0, 0), (1, 0), (4, 0), (2, 1), (5, 1), (3, 2), (6, 0), (7, 0)])]) [.int .u64 x, .agg #[.int .i64 f0, .int .u64 t0, .int .i64 f1, .int .u64 t1, .int .i64 f2, .int .u64 t2]] w K = mix_along_m x f0 t0 f1 t1 f2 t2 w K := by kernel_rfl
theorem mix_along_go (x f0 t0 f1 t1 f2 t2 : Int) {w : World} {K : Value → World → Prop} (h : mix_along_m x f0 t0 f1 t1 f2 t2 w K) : Rets Tryd.prog 109 #[.int .u64 x, .agg #[.int .i64 f0, .int .u64 t0, .int .i64 f1, .int .u64 t1, .int .i64 f2, .int .u64 t2]] w K :=
  calls_of_fw plain mixed Tryd.func109 (by kernel_rfl) (by rw [mix_along_eq]; exact h)
def mix_Mix_m (x : Int) (w : World) (K : Value → World → Prop) : Prop :=
  ∃ (n1 : Int),
  ∃ (n2 : Int),
  ∃ (n3 : Int),
  ∃ (n4 : Int),
  ∃ (n5 : Int),
  ∃ (n6 : Int),
  (cellAt w (Addr.add { block := (0 : Nat), off := (0 : Nat) } (0 : Nat)) (Value.int IntKind.i64 n1) ∧
  cellAt w (Addr.add { block := (0 : Nat), off := (0 : Nat) } (1 : Nat)) (Value.int IntKind.u64 n2) ∧
  cellAt w (Addr.add { block := (0 : Nat), off := (0 : Nat) } (2 : Nat)) (Value.int IntKind.i64 n3) ∧
  cellAt w (Addr.add { block := (0 : Nat), off := (0 : Nat) } (3 : Nat)) (Value.int IntKind.u64 n4) ∧
  cellAt w (Addr.add { block := (0 : Nat), off := (0 : Nat) } (4 : Nat)) (Value.int IntKind.i64 n5) ∧
  cellAt w (Addr.add { block := (0 : Nat), off := (0 : Nat) } (5 : Nat)) (Value.int IntKind.u64 n6)) ∧
  Rets Tryd.prog (109 : Nat)
  {
  toList :=
  [Value.int IntKind.u64 x,
  Value.agg
  {
  toList :=
  [Value.int IntKind.i64 n1, Value.int IntKind.u64 n2, Value.int IntKind.i64 n3, Value.int IntKind.u64 n4,
  Value.int IntKind.i64 n5, Value.int IntKind.u64 n6] }] }
  w fun (v1 : Value) (w1 : World) => ∃ (n7 : Int), v1 = Value.int IntKind.u64 n7 ∧ K (Value.int IntKind.u64 n7) w1
theorem mix_Mix_eq (x : Int) (w : World) (K : Value → World → Prop) : fw Tryd.prog Tryd.f91 (annL []) (ordL []) [.int .u64 x] w K = mix_Mix_m x w K := by kernel_rfl
theorem mix_Mix_go (x : Int) {w : World} {K : Value → World → Prop} (h : mix_Mix_m x w K) : Rets Tryd.prog 91 #[.int .u64 x] w K :=
  calls_of_fw plain mixed Tryd.func91 (by kernel_rfl) (by rw [mix_Mix_eq]; exact h)
def cortadoref03_Fold_m (x k : Int) (w : World) (K : Value → World → Prop) : Prop :=
  (decide (k < (1 : Int)) = false →
  (decide (k > (63 : Int)) = true → K (Value.int IntKind.u64 x) w) ∧
  (decide (k > (63 : Int)) = false →
  ∃ (h1 : Nat → List Value → World → Prop),
  (∃ (k1 : Nat), h1 k1 [Value.int IntKind.u64 x, Value.int IntKind.i64 (0 : Int)] w) ∧
  ∀ (k2 : Nat) (w1 : World) (n1 n2 : Int) (v1 v2 v3 v4 v5 v6 v7 : Value),
  h1 k2 [Value.int IntKind.u64 n1, Value.int IntKind.i64 n2] w1 →
  (decide (n2 < k) = true →
  (2 : Int) ≠ (0 : Int) ∧
  ∃ (k3 : Nat),
  k3 < k2 ∧
  h1 k3
  [Value.int IntKind.u64 (IntKind.wrap IntKind.u64 (Int.tdiv n1 (2 : Int))),
  Value.int IntKind.i64 (IntKind.wrap IntKind.i64 (n2 + (1 : Int)))]
  w1) ∧
  (decide (n2 < k) = false → K (Value.int IntKind.u64 (bits BinOp.xor IntKind.u64 x n1)) w1))) ∧
  (decide (k < (1 : Int)) = true → K (Value.int IntKind.u64 x) w)
theorem cortadoref03_Fold_eq (x k : Int) (w : World) (K : Value → World → Prop) : fw Tryd.prog Tryd.f119 (annL [(2, [(5, some 32), (6, some 3), (15, none), (16, none), (17, none), (18, none), (19, none), (20, none), (21, none)])]) (ordL []) [.int .u64 x, .int .i64 k] w K = cortadoref03_Fold_m x k w K := by kernel_rfl
theorem cortadoref03_Fold_go (x k : Int) {w : World} {K : Value → World → Prop} (h : cortadoref03_Fold_m x k w K) : Rets Tryd.prog 119 #[.int .u64 x, .int .i64 k] w K :=
  calls_of_fw plain mixed Tryd.func119 (by kernel_rfl) (by rw [cortadoref03_Fold_eq]; exact h)
def cortadoref03_Mix_m (x : Int) (w : World) (K : Value → World → Prop) : Prop :=
  Rets Tryd.prog (119 : Nat) { toList := [Value.int IntKind.u64 x, Value.int IntKind.i64 (30 : Int)] } w
  fun (v1 : Value) (w1 : World) =>
  ∃ (n1 : Int),
  v1 = Value.int IntKind.u64 n1 ∧
  Rets Tryd.prog (119 : Nat)
  {
  toList :=
  [Value.int IntKind.u64 (IntKind.wrap IntKind.u64 (n1 * (13787848793156543929 : Int))),
  Value.int IntKind.i64 (27 : Int)] }
  w1 fun (v2 : Value) (w2 : World) =>
  ∃ (n2 : Int),
  v2 = Value.int IntKind.u64 n2 ∧
  Rets Tryd.prog (119 : Nat)
  {
  toList :=
  [Value.int IntKind.u64 (IntKind.wrap IntKind.u64 (n2 * (10723151780598845931 : Int))),
  Value.int IntKind.i64 (31 : Int)] }
  w2 fun (v3 : Value) (w3 : World) => ∃ (n3 : Int), v3 = Value.int IntKind.u64 n3 ∧ K (Value.int IntKind.u64 n3) w3
theorem cortadoref03_Mix_eq (x : Int) (w : World) (K : Value → World → Prop) : fw Tryd.prog Tryd.f107 (annL []) (ordL []) [.int .u64 x] w K = cortadoref03_Mix_m x w K := by kernel_rfl
theorem cortadoref03_Mix_go (x : Int) {w : World} {K : Value → World → Prop} (h : cortadoref03_Mix_m x w K) : Rets Tryd.prog 107 #[.int .u64 x] w K :=
  calls_of_fw plain mixed Tryd.func107 (by kernel_rfl) (by rw [cortadoref03_Mix_eq]; exact h)
def dice_New_m (q : Option Addr) (l c : Nat) (s : Int) (w : World) (K : Value → World → Prop) : Prop :=
  NewR (3 : Nat) [] w fun (a1 : Addr) (w1 : World) =>
  RunR Tryd.prog
  (builtinV Builtin.append { toList := [(24 : Nat), (24 : Nat)] } (nat_lit 24)
  { toList := [Value.slice (some a1) (0 : Nat) (0 : Nat), Value.slice q l c] })
  w1 fun (v1 : Value) (w2 : World) =>
  ∃ (q1 : Option Addr),
  ∃ (k1 : Nat),
  ∃ (k2 : Nat),
  v1 = Value.slice q1 k1 k2 ∧
  (0 : Int) ≤ (↑k1 : Int) ∧
  (↑k1 : Int) ≤ (↑k2 : Int) ∧
  (0 : Int) ≤ (↑k1 : Int) ∧
  (↑k1 : Int) ≤ (↑(Int.toNat (↑k1 : Int)) : Int) ∧
  NewR (88 : Nat)
  [Value.slice (slcA q1 (0 : Nat) (Int.toNat (↑k1 : Int)) (1 : Nat)) (Int.toNat (↑k1 : Int) - (0 : Nat))
  (Int.toNat (↑k1 : Int) - (0 : Nat)),
  Value.int IntKind.u64 s, Value.int IntKind.i64 (0 : Int)]
  w2 fun (a2 : Addr) (w3 : World) => K (Value.pointer (some a2)) w3
theorem dice_New_eq (q : Option Addr) (l c : Nat) (s : Int) (w : World) (K : Value → World → Prop) : fw Tryd.prog Tryd.f11 (annL []) (ordL []) [.slice q l c, .int .u64 s] w K = dice_New_m q l c s w K := by kernel_rfl
theorem dice_New_go (q : Option Addr) (l c : Nat) (s : Int) {w : World} {K : Value → World → Prop} (h : dice_New_m q l c s w K) : Rets Tryd.prog 11 #[.slice q l c, .int .u64 s] w K :=
  calls_of_fw plain mixed Tryd.func11 (by kernel_rfl) (by rw [dice_New_eq]; exact h)
def dice_Dice_at_m (g : Nat) (k : Int) (w : World) (K : Value → World → Prop) : Prop :=
  ∃ (q1 : Option Addr),
  ∃ (k1 : Nat),
  ∃ (k2 : Nat),
  cellAt w (Addr.add { block := g, off := (0 : Nat) } (0 : Nat)) (Value.slice q1 k1 k2) ∧
  (decide (k < (↑k1 : Int)) = true →
  ∃ (q2 : Option Addr),
  ∃ (k3 : Nat),
  ∃ (k4 : Nat),
  cellAt w (Addr.add { block := g, off := (0 : Nat) } (0 : Nat)) (Value.slice q2 k3 k4) ∧
  (0 : Int) ≤ k ∧
  k < (↑k3 : Int) ∧
  someR q2 fun (a1 : Addr) =>
  ∃ (n1 : Int),
  cellAt w (Addr.add a1 (Int.toNat k * (1 : Nat))) (Value.int IntKind.i64 n1) ∧
  K (Value.int IntKind.u64 (IntKind.wrap IntKind.u64 n1)) w) ∧
  (decide (k < (↑k1 : Int)) = false →
  Drw w fun (w1 : World) =>
  ∃ (n2 : Int),
  cellAt w1 (Addr.add { block := g, off := (0 : Nat) } (1 : Nat)) (Value.int IntKind.u64 n2) ∧
  ∃ (q3 : Option Addr),
  ∃ (k5 : Nat),
  ∃ (k6 : Nat),
  cellAt w1 (Addr.add { block := g, off := (0 : Nat) } (0 : Nat)) (Value.slice q3 k5 k6) ∧
  Rets Tryd.prog (91 : Nat)
  {
  toList :=
  [Value.int IntKind.u64
  (IntKind.wrap IntKind.u64
  (n2 +
  IntKind.wrap IntKind.u64
  ((11400714819323198485 : Int) *
  IntKind.wrap IntKind.u64 (IntKind.wrap IntKind.i64 (IntKind.wrap IntKind.i64 (k - (↑k5 : Int)) + (1 : Int))))))] }
  w1 fun (v1 : Value) (w2 : World) => ∃ (n3 : Int), v1 = Value.int IntKind.u64 n3 ∧ K (Value.int IntKind.u64 n3) w2)
theorem dice_Dice_at_eq (g : Nat) (k : Int) (w : World) (K : Value → World → Prop) : fw Tryd.prog Tryd.f87 (annL []) (ordL [(3, [(0, 0), (1, 0), (2, 0), (4, 0), (5, 0), (6, 0), (7, 0), (3, 1), (8, 1), (9, 0), (10, 0), (11, 0), (12, 0), (13, 0), (14, 0), (15, 3), (16, 0)])]) [.pointer (some ⟨g, 0, none⟩), .int .i64 k] w K = dice_Dice_at_m g k w K := by kernel_rfl
theorem dice_Dice_at_go (g : Nat) (k : Int) {w : World} {K : Value → World → Prop} (h : dice_Dice_at_m g k w K) : Rets Tryd.prog 87 #[.pointer (some ⟨g, 0, none⟩), .int .i64 k] w K :=
  calls_of_fw plain mixed Tryd.func87 (by kernel_rfl) (by rw [dice_Dice_at_eq]; exact h)
def dice_Dice_Next_m (g : Nat) (w : World) (K : Value → World → Prop) : Prop :=
  (false = true → K (Value.int IntKind.u64 (0 : Int)) w) ∧
  (false = false →
  ∃ (n1 : Int),
  cellAt w (Addr.add { block := g, off := (0 : Nat) } (2 : Nat)) (Value.int IntKind.i64 n1) ∧
  Rets Tryd.prog (87 : Nat)
  { toList := [Value.pointer (some { block := g, off := (0 : Nat) }), Value.int IntKind.i64 n1] } w
  fun (v1 : Value) (w1 : World) =>
  ∃ (n2 : Int),
  v1 = Value.int IntKind.u64 n2 ∧
  ∃ (n3 : Int),
  cellAt w1 (Addr.add { block := g, off := (0 : Nat) } (2 : Nat)) (Value.int IntKind.i64 n3) ∧
  StoreR (Addr.add { block := g, off := (0 : Nat) } (2 : Nat))
  [Value.int IntKind.i64 (IntKind.wrap IntKind.i64 (n3 + (1 : Int)))] w1 fun (w2 : World) =>
  K (Value.int IntKind.u64 n2) w2)
theorem dice_Dice_Next_eq (g : Nat) (w : World) (K : Value → World → Prop) : fw Tryd.prog Tryd.f68 (annL []) (ordL []) [.pointer (some ⟨g, 0, none⟩)] w K = dice_Dice_Next_m g w K := by kernel_rfl
theorem dice_Dice_Next_go (g : Nat) {w : World} {K : Value → World → Prop} (h : dice_Dice_Next_m g w K) : Rets Tryd.prog 68 #[.pointer (some ⟨g, 0, none⟩)] w K :=
  calls_of_fw plain mixed Tryd.func68 (by kernel_rfl) (by rw [dice_Dice_Next_eq]; exact h)
def dice_nil_Next_m  (w : World) (K : Value → World → Prop) : Prop :=
  (true = true → K (Value.int IntKind.u64 (0 : Int)) w) ∧ (true = false → False)
theorem dice_nil_Next_eq  (w : World) (K : Value → World → Prop) : fw Tryd.prog Tryd.f68 (annL []) (ordL []) [.pointer none] w K = dice_nil_Next_m  w K := by kernel_rfl
theorem dice_nil_Next_go  {w : World} {K : Value → World → Prop} (h : dice_nil_Next_m  w K) : Rets Tryd.prog 68 #[.pointer none] w K :=
  calls_of_fw plain mixed Tryd.func68 (by kernel_rfl) (by rw [dice_nil_Next_eq]; exact h)
def dice_Dice_Below_m (q : Option Addr) (n : Int) (w : World) (K : Value → World → Prop) : Prop :=
  (decide (n < (1 : Int)) = true → K (Value.int IntKind.i64 (0 : Int)) w) ∧
  (decide (n < (1 : Int)) = false →
  Rets Tryd.prog (68 : Nat) { toList := [Value.pointer q] } w fun (v1 : Value) (w1 : World) =>
  ∃ (n1 : Int),
  v1 = Value.int IntKind.u64 n1 ∧
  IntKind.wrap IntKind.u64 n ≠ (0 : Int) ∧
  K (Value.int IntKind.i64 (IntKind.wrap IntKind.i64 (Int.tmod n1 (IntKind.wrap IntKind.u64 n)))) w1)
theorem dice_Dice_Below_eq (q : Option Addr) (n : Int) (w : World) (K : Value → World → Prop) : fw Tryd.prog Tryd.f45 (annL []) (ordL []) [.pointer q, .int .i64 n] w K = dice_Dice_Below_m q n w K := by kernel_rfl
theorem dice_Dice_Below_go (q : Option Addr) (n : Int) {w : World} {K : Value → World → Prop} (h : dice_Dice_Below_m q n w K) : Rets Tryd.prog 45 #[.pointer q, .int .i64 n] w K :=
  calls_of_fw plain mixed Tryd.func45 (by kernel_rfl) (by rw [dice_Dice_Below_eq]; exact h)
def dice_Dice_Used_m (g : Nat) (w : World) (K : Value → World → Prop) : Prop :=
  (false = true → K (Value.int IntKind.i64 (0 : Int)) w) ∧
  (false = false →
  ∃ (n1 : Int),
  cellAt w (Addr.add { block := g, off := (0 : Nat) } (2 : Nat)) (Value.int IntKind.i64 n1) ∧
  K (Value.int IntKind.i64 n1) w)
theorem dice_Dice_Used_eq (g : Nat) (w : World) (K : Value → World → Prop) : fw Tryd.prog Tryd.f16 (annL []) (ordL []) [.pointer (some ⟨g, 0, none⟩)] w K = dice_Dice_Used_m g w K := by kernel_rfl
theorem dice_Dice_Used_go (g : Nat) {w : World} {K : Value → World → Prop} (h : dice_Dice_Used_m g w K) : Rets Tryd.prog 16 #[.pointer (some ⟨g, 0, none⟩)] w K :=
  calls_of_fw plain mixed Tryd.func16 (by kernel_rfl) (by rw [dice_Dice_Used_eq]; exact h)
def dice_nil_Used_m  (w : World) (K : Value → World → Prop) : Prop :=
  (true = true → K (Value.int IntKind.i64 (0 : Int)) w) ∧ (true = false → False)
theorem dice_nil_Used_eq  (w : World) (K : Value → World → Prop) : fw Tryd.prog Tryd.f16 (annL []) (ordL []) [.pointer none] w K = dice_nil_Used_m  w K := by kernel_rfl
theorem dice_nil_Used_go  {w : World} {K : Value → World → Prop} (h : dice_nil_Used_m  w K) : Rets Tryd.prog 16 #[.pointer none] w K :=
  calls_of_fw plain mixed Tryd.func16 (by kernel_rfl) (by rw [dice_nil_Used_eq]; exact h)
def cortadoref15_At_m (q : Option Addr) (l c : Nat) (s k : Int) (w : World) (K : Value → World → Prop) : Prop :=
  (decide (k < (↑l : Int)) = true →
  (0 : Int) ≤ k ∧
  k < (↑l : Int) ∧
  someR q fun (a1 : Addr) =>
  ∃ (n1 : Int),
  cellAt w (Addr.add a1 (Int.toNat k * (1 : Nat))) (Value.int IntKind.i64 n1) ∧
  K (Value.int IntKind.u64 (IntKind.wrap IntKind.u64 n1)) w) ∧
  (decide (k < (↑l : Int)) = false →
  ∃ (h1 : Nat → List Value → World → Prop),
  (∃ (k1 : Nat), h1 k1 [Value.int IntKind.u64 s, Value.int IntKind.i64 (↑l : Int)] w) ∧
  ∀ (k2 : Nat) (w1 : World) (n2 n3 : Int) (v1 v2 v3 v4 v5 v6 v7 : Value),
  h1 k2 [Value.int IntKind.u64 n2, Value.int IntKind.i64 n3] w1 →
  (decide (n3 ≤ k) = true →
  ∃ (k3 : Nat),
  k3 < k2 ∧
  h1 k3
  [Value.int IntKind.u64 (IntKind.wrap IntKind.u64 (n2 + (11400714819323198485 : Int))),
  Value.int IntKind.i64 (IntKind.wrap IntKind.i64 (n3 + (1 : Int)))]
  w1) ∧
  (decide (n3 ≤ k) = false →
  Rets Tryd.prog (107 : Nat) { toList := [Value.int IntKind.u64 n2] } w1 fun (v8 : Value) (w2 : World) =>
  ∃ (n4 : Int), v8 = Value.int IntKind.u64 n4 ∧ K (Value.int IntKind.u64 n4) w2))
theorem cortadoref15_At_eq (q : Option Addr) (l c : Nat) (s k : Int) (w : World) (K : Value → World → Prop) : fw Tryd.prog Tryd.f88 (annL [(2, [(7, some 32), (8, some 3), (21, none), (22, none), (23, none), (24, none), (25, none), (26, none), (27, none)])]) (ordL []) [.slice q l c, .int .u64 s, .int .i64 k] w K = cortadoref15_At_m q l c s k w K := by kernel_rfl
theorem cortadoref15_At_go (q : Option Addr) (l c : Nat) (s k : Int) {w : World} {K : Value → World → Prop} (h : cortadoref15_At_m q l c s k w K) : Rets Tryd.prog 88 #[.slice q l c, .int .u64 s, .int .i64 k] w K :=
  calls_of_fw plain mixed Tryd.func88 (by kernel_rfl) (by rw [cortadoref15_At_eq]; exact h)
def cortadoref15_D_Next_m (g : Nat) (w : World) (K : Value → World → Prop) : Prop :=
  Drw w fun (w1 : World) =>
  ∃ (q1 : Option Addr),
  ∃ (k1 : Nat),
  ∃ (k2 : Nat),
  cellAt w1 (Addr.add { block := g, off := (0 : Nat) } (0 : Nat)) (Value.slice q1 k1 k2) ∧
  ∃ (n1 : Int),
  cellAt w1 (Addr.add { block := g, off := (0 : Nat) } (1 : Nat)) (Value.int IntKind.u64 n1) ∧
  ∃ (n2 : Int),
  cellAt w1 (Addr.add { block := g, off := (0 : Nat) } (2 : Nat)) (Value.int IntKind.i64 n2) ∧
  Rets Tryd.prog (88 : Nat) { toList := [Value.slice q1 k1 k2, Value.int IntKind.u64 n1, Value.int IntKind.i64 n2] } w1
  fun (v1 : Value) (w2 : World) =>
  ∃ (n3 : Int),
  v1 = Value.int IntKind.u64 n3 ∧
  ∃ (n4 : Int),
  cellAt w2 (Addr.add { block := g, off := (0 : Nat) } (2 : Nat)) (Value.int IntKind.i64 n4) ∧
  StoreR (Addr.add { block := g, off := (0 : Nat) } (2 : Nat))
  [Value.int IntKind.i64 (IntKind.wrap IntKind.i64 (n4 + (1 : Int)))] w2 fun (w3 : World) =>
  K (Value.int IntKind.u64 n3) w3
theorem cortadoref15_D_Next_eq (g : Nat) (w : World) (K : Value → World → Prop) : fw Tryd.prog Tryd.f70 (annL []) (ordL [(1, [(0, 0), (1, 0), (2, 0), (4, 0), (5, 0), (6, 0), (8, 0), (9, 0), (10, 0), (3, 1), (7, 1), (11, 1), (12, 3), (13, 0)])]) [.pointer (some ⟨g, 0, none⟩)] w K = cortadoref15_D_Next_m g w K := by kernel_rfl
theorem cortadoref15_D_Next_go (g : Nat) {w : World} {K : Value → World → Prop} (h : cortadoref15_D_Next_m g w K) : Rets Tryd.prog 70 #[.pointer (some ⟨g, 0, none⟩)] w K :=
  calls_of_fw plain mixed Tryd.func70 (by kernel_rfl) (by rw [cortadoref15_D_Next_eq]; exact h)
def cortadoref15_D_Below_m (g : Nat) (n : Int) (w : World) (K : Value → World → Prop) : Prop :=
  (decide (n < (1 : Int)) = true → K (Value.int IntKind.i64 (0 : Int)) w) ∧
  (decide (n < (1 : Int)) = false →
  Rets Tryd.prog (70 : Nat) { toList := [Value.pointer (some { block := g, off := (0 : Nat) })] } w
  fun (v1 : Value) (w1 : World) =>
  ∃ (n1 : Int),
  v1 = Value.int IntKind.u64 n1 ∧
  IntKind.wrap IntKind.u64 n ≠ (0 : Int) ∧
  K (Value.int IntKind.i64 (IntKind.wrap IntKind.i64 (Int.tmod n1 (IntKind.wrap IntKind.u64 n)))) w1)
theorem cortadoref15_D_Below_eq (g : Nat) (n : Int) (w : World) (K : Value → World → Prop) : fw Tryd.prog Tryd.f48 (annL []) (ordL []) [.pointer (some ⟨g, 0, none⟩), .int .i64 n] w K = cortadoref15_D_Below_m g n w K := by kernel_rfl
theorem cortadoref15_D_Below_go (g : Nat) (n : Int) {w : World} {K : Value → World → Prop} (h : cortadoref15_D_Below_m g n w K) : Rets Tryd.prog 48 #[.pointer (some ⟨g, 0, none⟩), .int .i64 n] w K :=
  calls_of_fw plain mixed Tryd.func48 (by kernel_rfl) (by rw [cortadoref15_D_Below_eq]; exact h)
end Go.Proofs.YtajckpjlliiekaaDoor.Eng
