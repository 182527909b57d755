/- What the code of these functions asks for: printed by a program of this session's (gens.py) out of the seat's own functions; the kernel checks each row. -/
import Derived.Test.YtmenjjofmafacaaDoorEngH
import Derived.Test.YtmenjjofmafacaaDoorProg
import Derived.Test.YtmenjjofmafacaaDoorBase
namespace Go.Proofs.YtmenjjofmafacaaDoor.Eng
open Go Go.Proofs
set_option linter.unusedVariables false
set_option maxRecDepth 1000000
def mix_Fold_m (x k : Int) (w : World) (K : Value → World → Prop) : Prop :=
  (decide (k < (1 : Int)) = false →
  (decide (k ≥ (64 : Int)) = true → K (Value.int IntKind.u64 x) w) ∧
  (decide (k ≥ (64 : Int)) = false →
  (0 : Int) ≤ IntKind.wrap IntKind.u64 k ∧
  K (Value.int IntKind.u64 (bits BinOp.xor IntKind.u64 x (shrI IntKind.u64 x (IntKind.wrap IntKind.u64 k)))) w)) ∧
  (decide (k < (1 : Int)) = true → K (Value.int IntKind.u64 x) w)
theorem mix_Fold_eq (x k : Int) (w : World) (K : Value → World → Prop) : fw Tryd.prog Tryd.f31 (annL []) (ordL []) [.int .u64 x, .int .i64 k] w K = mix_Fold_m x k w K := by kernel_rfl
theorem mix_Fold_go (x k : Int) {w : World} {K : Value → World → Prop} (h : mix_Fold_m x k w K) : Rets Tryd.prog 31 #[.int .u64 x, .int .i64 k] w K :=
  calls_of_fw plain mixed Tryd.func31 (by kernel_rfl) (by rw [mix_Fold_eq]; exact h)
def mix_along_m (x f0 t0 f1 t1 f2 t2 : Int) (w : World) (K : Value → World → Prop) : Prop :=
  NewR (48 : Nat)
  [Value.int IntKind.i64 f0, Value.int IntKind.u64 t0, Value.int IntKind.i64 f1, Value.int IntKind.u64 t1,
  Value.int IntKind.i64 f2, Value.int IntKind.u64 t2]
  w fun (a1 : Addr) (w1 : World) =>
  ∃ (n1 : Int),
  ∃ (n2 : Int),
  ∃ (n3 : Int),
  ∃ (n4 : Int),
  ∃ (n5 : Int),
  ∃ (n6 : Int),
  (cellAt w1 (Addr.add a1 (0 : Nat)) (Value.int IntKind.i64 n1) ∧
  cellAt w1 (Addr.add a1 (1 : Nat)) (Value.int IntKind.u64 n2) ∧
  cellAt w1 (Addr.add a1 (2 : Nat)) (Value.int IntKind.i64 n3) ∧
  cellAt w1 (Addr.add a1 (3 : Nat)) (Value.int IntKind.u64 n4) ∧
  cellAt w1 (Addr.add a1 (4 : Nat)) (Value.int IntKind.i64 n5) ∧
  cellAt w1 (Addr.add a1 (5 : Nat)) (Value.int IntKind.u64 n6)) ∧
  ∃ (h1 : Nat → List Value → World → Prop),
  (∃ (k1 : Nat), h1 k1 [Value.int IntKind.u64 x, Value.int IntKind.i64 (0 : Int)] w1) ∧
  ∀ (k2 : Nat) (w2 : World) (n7 : Int) (v1 : Value) (n8 : Int) (v2 v3 v4 v5 v6 v7 v8 v9 v10 v11 : Value),
  h1 k2 [Value.int IntKind.u64 n7, Value.int IntKind.i64 n8] w2 →
  (decide (n8 < (3 : Int)) = true →
  (0 : Int) ≤ n8 ∧
  n8 < (↑(3 : Nat) : Int) ∧
  ((True ∧
  (n8 = (↑(nat_lit 0) : Int) →
  NewR (47 : Nat) [Value.int IntKind.i64 (0 : Int), Value.int IntKind.u64 (0 : Int)] w2 fun (a2 : Addr) (w3 : World) =>
  StoreR a2 [Value.int IntKind.i64 n1, Value.int IntKind.u64 n2] w3 fun (w4 : World) =>
  Drw w4 fun (w5 : World) =>
  ∃ (h2 : World → Prop),
  h2 w5 ∧
  ∃ (n9 : Int),
  (∀ (w6 : World), h2 w6 → World.cell? w6 (Addr.add a2 (0 : Nat)) = some (Value.int IntKind.i64 n9)) ∧
  ∃ (n10 : Int),
  (∀ (w7 : World), h2 w7 → World.cell? w7 (Addr.add a2 (1 : Nat)) = some (Value.int IntKind.u64 n10)) ∧
  Rets Tryd.prog (31 : Nat) { toList := [Value.int IntKind.u64 n7, Value.int IntKind.i64 n9] } w5
  fun (v12 : Value) (w8 : World) =>
  ∃ (n11 : Int),
  v12 = Value.int IntKind.u64 n11 ∧
  h2 w8 ∧
  ∃ (k3 : Nat),
  k3 < k2 ∧
  h1 k3
  [Value.int IntKind.u64 (IntKind.wrap IntKind.u64 (n11 * n10)),
  Value.int IntKind.i64 (IntKind.wrap IntKind.i64 (n8 + (1 : Int)))]
  w8)) ∧
  (n8 = (↑(nat_lit 1) : Int) →
  NewR (47 : Nat) [Value.int IntKind.i64 (0 : Int), Value.int IntKind.u64 (0 : Int)] w2 fun (a3 : Addr) (w9 : World) =>
  StoreR a3 [Value.int IntKind.i64 n3, Value.int IntKind.u64 n4] w9 fun (w10 : World) =>
  Drw w10 fun (w11 : World) =>
  ∃ (h3 : World → Prop),
  h3 w11 ∧
  ∃ (n12 : Int),
  (∀ (w12 : World), h3 w12 → World.cell? w12 (Addr.add a3 (0 : Nat)) = some (Value.int IntKind.i64 n12)) ∧
  ∃ (n13 : Int),
  (∀ (w13 : World), h3 w13 → World.cell? w13 (Addr.add a3 (1 : Nat)) = some (Value.int IntKind.u64 n13)) ∧
  Rets Tryd.prog (31 : Nat) { toList := [Value.int IntKind.u64 n7, Value.int IntKind.i64 n12] } w11
  fun (v13 : Value) (w14 : World) =>
  ∃ (n14 : Int),
  v13 = Value.int IntKind.u64 n14 ∧
  h3 w14 ∧
  ∃ (k4 : Nat),
  k4 < k2 ∧
  h1 k4
  [Value.int IntKind.u64 (IntKind.wrap IntKind.u64 (n14 * n13)),
  Value.int IntKind.i64 (IntKind.wrap IntKind.i64 (n8 + (1 : Int)))]
  w14)) ∧
  (n8 = (↑(nat_lit 2) : Int) →
  NewR (47 : Nat) [Value.int IntKind.i64 (0 : Int), Value.int IntKind.u64 (0 : Int)] w2 fun (a4 : Addr) (w15 : World) =>
  StoreR a4 [Value.int IntKind.i64 n5, Value.int IntKind.u64 n6] w15 fun (w16 : World) =>
  Drw w16 fun (w17 : World) =>
  ∃ (h4 : World → Prop),
  h4 w17 ∧
  ∃ (n15 : Int),
  (∀ (w18 : World), h4 w18 → World.cell? w18 (Addr.add a4 (0 : Nat)) = some (Value.int IntKind.i64 n15)) ∧
  ∃ (n16 : Int),
  (∀ (w19 : World), h4 w19 → World.cell? w19 (Addr.add a4 (1 : Nat)) = some (Value.int IntKind.u64 n16)) ∧
  Rets Tryd.prog (31 : Nat) { toList := [Value.int IntKind.u64 n7, Value.int IntKind.i64 n15] } w17
  fun (v14 : Value) (w20 : World) =>
  ∃ (n17 : Int),
  v14 = Value.int IntKind.u64 n17 ∧
  h4 w20 ∧
  ∃ (k5 : Nat),
  k5 < k2 ∧
  h1 k5
  [Value.int IntKind.u64 (IntKind.wrap IntKind.u64 (n17 * n16)),
  Value.int IntKind.i64 (IntKind.wrap IntKind.i64 (n8 + (1 : Int)))]
  w20)) ∧
  (decide (n8 < (3 : Int)) = false → K (Value.int IntKind.u64 n7) w2)
theorem mix_along_eq (x f0 t0 f1 t1 f2 t2 : Int) (w : World) (K : Value → World → Prop) : fw Tryd.prog Tryd.f28 (annL [(1, [(0, some 22), (6, none), (8, some 3), (9, none), (10, none), (11, none), (12, none), (13, none), (14, none), (15, none), (16, none), (17, none), (18, none)])]) (ordL [(4, [(0, 0), (1, 0), (4, 0), (2, 1), (5, 1), (3, 2), (6, 0), (7, 0)])]) [.int .u64 x, .agg #[.int .i64 f0, .int .u64 t0, .int .i64 f1, .int .u64 t1, .int .i64 f2, .int .u64 t2]] w K = mix_along_m x f0 t0 f1 t1 f2 t2 w K := by kernel_rfl
theorem mix_along_go (x f0 t0 f1 t1 f2 t2 : Int) {w : World} {K : Value → World → Prop} (h : mix_along_m x f0 t0 f1 t1 f2 t2 w K) : Rets Tryd.prog 28 #[.int .u64 x, .agg #[.int .i64 f0, .int .u64 t0, .int .i64 f1, .int .u64 t1, .int .i64 f2, .int .u64 t2]] w K :=
  calls_of_fw plain mixed Tryd.func28 (by kernel_rfl) (by rw [mix_along_eq]; exact h)
def mix_Mix_m (x : Int) (w : World) (K : Value → World → Prop) : Prop :=
  ∃ (n1 : Int),
  ∃ (n2 : Int),
  ∃ (n3 : Int),
  ∃ (n4 : Int),
  ∃ (n5 : Int),
  ∃ (n6 : Int),
  (cellAt w (Addr.add { block := (0 : Nat), off := (0 : Nat) } (0 : Nat)) (Value.int IntKind.i64 n1) ∧
  cellAt w (Addr.add { block := (0 : Nat), off := (0 : Nat) } (1 : Nat)) (Value.int IntKind.u64 n2) ∧
  cellAt w (Addr.add { block := (0 : Nat), off := (0 : Nat) } (2 : Nat)) (Value.int IntKind.i64 n3) ∧
  cellAt w (Addr.add { block := (0 : Nat), off := (0 : Nat) } (3 : Nat)) (Value.int IntKind.u64 n4) ∧
  cellAt w (Addr.add { block := (0 : Nat), off := (0 : Nat) } (4 : Nat)) (Value.int IntKind.i64 n5) ∧
  cellAt w (Addr.add { block := (0 : Nat), off := (0 : Nat) } (5 : Nat)) (Value.int IntKind.u64 n6)) ∧
  Rets Tryd.prog (28 : Nat)
  {
  toList :=
  [Value.int IntKind.u64 x,
  Value.agg
  {
  toList :=
  [Value.int IntKind.i64 n1, Value.int IntKind.u64 n2, Value.int IntKind.i64 n3, Value.int IntKind.u64 n4,
  Value.int IntKind.i64 n5, Value.int IntKind.u64 n6] }] }
  w fun (v1 : Value) (w1 : World) => ∃ (n7 : Int), v1 = Value.int IntKind.u64 n7 ∧ K (Value.int IntKind.u64 n7) w1
theorem mix_Mix_eq (x : Int) (w : World) (K : Value → World → Prop) : fw Tryd.prog Tryd.f7 (annL []) (ordL []) [.int .u64 x] w K = mix_Mix_m x w K := by kernel_rfl
theorem mix_Mix_go (x : Int) {w : World} {K : Value → World → Prop} (h : mix_Mix_m x w K) : Rets Tryd.prog 7 #[.int .u64 x] w K :=
  calls_of_fw plain mixed Tryd.func7 (by kernel_rfl) (by rw [mix_Mix_eq]; exact h)
def cortadoref03_Fold_m (x k : Int) (w : World) (K : Value → World → Prop) : Prop :=
  (decide (k < (1 : Int)) = false →
  (decide (k > (63 : Int)) = true → K (Value.int IntKind.u64 x) w) ∧
  (decide (k > (63 : Int)) = false →
  ∃ (h1 : Nat → List Value → World → Prop),
  (∃ (k1 : Nat), h1 k1 [Value.int IntKind.u64 x, Value.int IntKind.i64 (0 : Int)] w) ∧
  ∀ (k2 : Nat) (w1 : World) (n1 n2 : Int) (v1 v2 v3 v4 v5 v6 v7 : Value),
  h1 k2 [Value.int IntKind.u64 n1, Value.int IntKind.i64 n2] w1 →
  (decide (n2 < k) = true →
  (2 : Int) ≠ (0 : Int) ∧
  ∃ (k3 : Nat),
  k3 < k2 ∧
  h1 k3
  [Value.int IntKind.u64 (IntKind.wrap IntKind.u64 (Int.tdiv n1 (2 : Int))),
  Value.int IntKind.i64 (IntKind.wrap IntKind.i64 (n2 + (1 : Int)))]
  w1) ∧
  (decide (n2 < k) = false → K (Value.int IntKind.u64 (bits BinOp.xor IntKind.u64 x n1)) w1))) ∧
  (decide (k < (1 : Int)) = true → K (Value.int IntKind.u64 x) w)
theorem cortadoref03_Fold_eq (x k : Int) (w : World) (K : Value → World → Prop) : fw Tryd.prog Tryd.f29 (annL [(2, [(5, some 22), (6, some 3), (15, none), (16, none), (17, none), (18, none), (19, none), (20, none), (21, none)])]) (ordL []) [.int .u64 x, .int .i64 k] w K = cortadoref03_Fold_m x k w K := by kernel_rfl
theorem cortadoref03_Fold_go (x k : Int) {w : World} {K : Value → World → Prop} (h : cortadoref03_Fold_m x k w K) : Rets Tryd.prog 29 #[.int .u64 x, .int .i64 k] w K :=
  calls_of_fw plain mixed Tryd.func29 (by kernel_rfl) (by rw [cortadoref03_Fold_eq]; exact h)
def cortadoref03_Mix_m (x : Int) (w : World) (K : Value → World → Prop) : Prop :=
  Rets Tryd.prog (29 : Nat) { toList := [Value.int IntKind.u64 x, Value.int IntKind.i64 (30 : Int)] } w
  fun (v1 : Value) (w1 : World) =>
  ∃ (n1 : Int),
  v1 = Value.int IntKind.u64 n1 ∧
  Rets Tryd.prog (29 : Nat)
  {
  toList :=
  [Value.int IntKind.u64 (IntKind.wrap IntKind.u64 (n1 * (13787848793156543929 : Int))),
  Value.int IntKind.i64 (27 : Int)] }
  w1 fun (v2 : Value) (w2 : World) =>
  ∃ (n2 : Int),
  v2 = Value.int IntKind.u64 n2 ∧
  Rets Tryd.prog (29 : Nat)
  {
  toList :=
  [Value.int IntKind.u64 (IntKind.wrap IntKind.u64 (n2 * (10723151780598845931 : Int))),
  Value.int IntKind.i64 (31 : Int)] }
  w2 fun (v3 : Value) (w3 : World) => ∃ (n3 : Int), v3 = Value.int IntKind.u64 n3 ∧ K (Value.int IntKind.u64 n3) w3
theorem cortadoref03_Mix_eq (x : Int) (w : World) (K : Value → World → Prop) : fw Tryd.prog Tryd.f8 (annL []) (ordL []) [.int .u64 x] w K = cortadoref03_Mix_m x w K := by kernel_rfl
theorem cortadoref03_Mix_go (x : Int) {w : World} {K : Value → World → Prop} (h : cortadoref03_Mix_m x w K) : Rets Tryd.prog 8 #[.int .u64 x] w K :=
  calls_of_fw plain mixed Tryd.func8 (by kernel_rfl) (by rw [cortadoref03_Mix_eq]; exact h)
def dice_New_m (q : Option Addr) (l c : Nat) (s : Int) (w : World) (K : Value → World → Prop) : Prop :=
  NewR (3 : Nat) [] w fun (a1 : Addr) (w1 : World) =>
  RunR Tryd.prog
  (builtinV Builtin.append { toList := [(26 : Nat), (26 : Nat)] } (nat_lit 26)
  { toList := [Value.slice (some a1) (0 : Nat) (0 : Nat), Value.slice q l c] })
  w1 fun (v1 : Value) (w2 : World) =>
  ∃ (q1 : Option Addr),
  ∃ (k1 : Nat),
  ∃ (k2 : Nat),
  v1 = Value.slice q1 k1 k2 ∧
  (0 : Int) ≤ (↑k1 : Int) ∧
  (↑k1 : Int) ≤ (↑k2 : Int) ∧
  (0 : Int) ≤ (↑k1 : Int) ∧
  (↑k1 : Int) ≤ (↑(Int.toNat (↑k1 : Int)) : Int) ∧
  NewR (51 : Nat)
  [Value.slice (slcA q1 (0 : Nat) (Int.toNat (↑k1 : Int)) (1 : Nat)) (Int.toNat (↑k1 : Int) - (0 : Nat))
  (Int.toNat (↑k1 : Int) - (0 : Nat)),
  Value.int IntKind.u64 s, Value.int IntKind.i64 (0 : Int)]
  w2 fun (a2 : Addr) (w3 : World) => K (Value.pointer (some a2)) w3
theorem dice_New_eq (q : Option Addr) (l c : Nat) (s : Int) (w : World) (K : Value → World → Prop) : fw Tryd.prog Tryd.f15 (annL []) (ordL []) [.slice q l c, .int .u64 s] w K = dice_New_m q l c s w K := by kernel_rfl
theorem dice_New_go (q : Option Addr) (l c : Nat) (s : Int) {w : World} {K : Value → World → Prop} (h : dice_New_m q l c s w K) : Rets Tryd.prog 15 #[.slice q l c, .int .u64 s] w K :=
  calls_of_fw plain mixed Tryd.func15 (by kernel_rfl) (by rw [dice_New_eq]; exact h)
def dice_Dice_at_m (g : Nat) (k : Int) (w : World) (K : Value → World → Prop) : Prop :=
  ∃ (q1 : Option Addr),
  ∃ (k1 : Nat),
  ∃ (k2 : Nat),
  cellAt w (Addr.add { block := g, off := (0 : Nat) } (0 : Nat)) (Value.slice q1 k1 k2) ∧
  (decide (k < (↑k1 : Int)) = true →
  ∃ (q2 : Option Addr),
  ∃ (k3 : Nat),
  ∃ (k4 : Nat),
  cellAt w (Addr.add { block := g, off := (0 : Nat) } (0 : Nat)) (Value.slice q2 k3 k4) ∧
  (0 : Int) ≤ k ∧
  k < (↑k3 : Int) ∧
  someR q2 fun (a1 : Addr) =>
  ∃ (n1 : Int),
  cellAt w (Addr.add a1 (Int.toNat k * (1 : Nat))) (Value.int IntKind.i64 n1) ∧
  K (Value.int IntKind.u64 (IntKind.wrap IntKind.u64 n1)) w) ∧
  (decide (k < (↑k1 : Int)) = false →
  Drw w fun (w1 : World) =>
  ∃ (n2 : Int),
  cellAt w1 (Addr.add { block := g, off := (0 : Nat) } (1 : Nat)) (Value.int IntKind.u64 n2) ∧
  ∃ (q3 : Option Addr),
  ∃ (k5 : Nat),
  ∃ (k6 : Nat),
  cellAt w1 (Addr.add { block := g, off := (0 : Nat) } (0 : Nat)) (Value.slice q3 k5 k6) ∧
  Rets Tryd.prog (7 : Nat)
  {
  toList :=
  [Value.int IntKind.u64
  (IntKind.wrap IntKind.u64
  (n2 +
  IntKind.wrap IntKind.u64
  ((11400714819323198485 : Int) *
  IntKind.wrap IntKind.u64 (IntKind.wrap IntKind.i64 (IntKind.wrap IntKind.i64 (k - (↑k5 : Int)) + (1 : Int))))))] }
  w1 fun (v1 : Value) (w2 : World) => ∃ (n3 : Int), v1 = Value.int IntKind.u64 n3 ∧ K (Value.int IntKind.u64 n3) w2)
theorem dice_Dice_at_eq (g : Nat) (k : Int) (w : World) (K : Value → World → Prop) : fw Tryd.prog Tryd.f33 (annL []) (ordL [(3, [(0, 0), (1, 0), (2, 0), (4, 0), (5, 0), (6, 0), (7, 0), (3, 1), (8, 1), (9, 0), (10, 0), (11, 0), (12, 0), (13, 0), (14, 0), (15, 3), (16, 0)])]) [.pointer (some ⟨g, 0, none⟩), .int .i64 k] w K = dice_Dice_at_m g k w K := by kernel_rfl
theorem dice_Dice_at_go (g : Nat) (k : Int) {w : World} {K : Value → World → Prop} (h : dice_Dice_at_m g k w K) : Rets Tryd.prog 33 #[.pointer (some ⟨g, 0, none⟩), .int .i64 k] w K :=
  calls_of_fw plain mixed Tryd.func33 (by kernel_rfl) (by rw [dice_Dice_at_eq]; exact h)
def dice_Dice_Next_m (g : Nat) (w : World) (K : Value → World → Prop) : Prop :=
  (false = true → K (Value.int IntKind.u64 (0 : Int)) w) ∧
  (false = false →
  ∃ (n1 : Int),
  cellAt w (Addr.add { block := g, off := (0 : Nat) } (2 : Nat)) (Value.int IntKind.i64 n1) ∧
  Rets Tryd.prog (33 : Nat)
  { toList := [Value.pointer (some { block := g, off := (0 : Nat) }), Value.int IntKind.i64 n1] } w
  fun (v1 : Value) (w1 : World) =>
  ∃ (n2 : Int),
  v1 = Value.int IntKind.u64 n2 ∧
  ∃ (n3 : Int),
  cellAt w1 (Addr.add { block := g, off := (0 : Nat) } (2 : Nat)) (Value.int IntKind.i64 n3) ∧
  StoreR (Addr.add { block := g, off := (0 : Nat) } (2 : Nat))
  [Value.int IntKind.i64 (IntKind.wrap IntKind.i64 (n3 + (1 : Int)))] w1 fun (w2 : World) =>
  K (Value.int IntKind.u64 n2) w2)
theorem dice_Dice_Next_eq (g : Nat) (w : World) (K : Value → World → Prop) : fw Tryd.prog Tryd.f16 (annL []) (ordL []) [.pointer (some ⟨g, 0, none⟩)] w K = dice_Dice_Next_m g w K := by kernel_rfl
theorem dice_Dice_Next_go (g : Nat) {w : World} {K : Value → World → Prop} (h : dice_Dice_Next_m g w K) : Rets Tryd.prog 16 #[.pointer (some ⟨g, 0, none⟩)] w K :=
  calls_of_fw plain mixed Tryd.func16 (by kernel_rfl) (by rw [dice_Dice_Next_eq]; exact h)
def dice_nil_Next_m  (w : World) (K : Value → World → Prop) : Prop :=
  (true = true → K (Value.int IntKind.u64 (0 : Int)) w) ∧ (true = false → False)
theorem dice_nil_Next_eq  (w : World) (K : Value → World → Prop) : fw Tryd.prog Tryd.f16 (annL []) (ordL []) [.pointer none] w K = dice_nil_Next_m  w K := by kernel_rfl
theorem dice_nil_Next_go  {w : World} {K : Value → World → Prop} (h : dice_nil_Next_m  w K) : Rets Tryd.prog 16 #[.pointer none] w K :=
  calls_of_fw plain mixed Tryd.func16 (by kernel_rfl) (by rw [dice_nil_Next_eq]; exact h)
def dice_Dice_Below_m (q : Option Addr) (n : Int) (w : World) (K : Value → World → Prop) : Prop :=
  (decide (n < (1 : Int)) = true → K (Value.int IntKind.i64 (0 : Int)) w) ∧
  (decide (n < (1 : Int)) = false →
  Rets Tryd.prog (16 : Nat) { toList := [Value.pointer q] } w fun (v1 : Value) (w1 : World) =>
  ∃ (n1 : Int),
  v1 = Value.int IntKind.u64 n1 ∧
  IntKind.wrap IntKind.u64 n ≠ (0 : Int) ∧
  K (Value.int IntKind.i64 (IntKind.wrap IntKind.i64 (Int.tmod n1 (IntKind.wrap IntKind.u64 n)))) w1)
theorem dice_Dice_Below_eq (q : Option Addr) (n : Int) (w : World) (K : Value → World → Prop) : fw Tryd.prog Tryd.f18 (annL []) (ordL []) [.pointer q, .int .i64 n] w K = dice_Dice_Below_m q n w K := by kernel_rfl
theorem dice_Dice_Below_go (q : Option Addr) (n : Int) {w : World} {K : Value → World → Prop} (h : dice_Dice_Below_m q n w K) : Rets Tryd.prog 18 #[.pointer q, .int .i64 n] w K :=
  calls_of_fw plain mixed Tryd.func18 (by kernel_rfl) (by rw [dice_Dice_Below_eq]; exact h)
def dice_Dice_Used_m (g : Nat) (w : World) (K : Value → World → Prop) : Prop :=
  (false = true → K (Value.int IntKind.i64 (0 : Int)) w) ∧
  (false = false →
  ∃ (n1 : Int),
  cellAt w (Addr.add { block := g, off := (0 : Nat) } (2 : Nat)) (Value.int IntKind.i64 n1) ∧
  K (Value.int IntKind.i64 n1) w)
theorem dice_Dice_Used_eq (g : Nat) (w : World) (K : Value → World → Prop) : fw Tryd.prog Tryd.f20 (annL []) (ordL []) [.pointer (some ⟨g, 0, none⟩)] w K = dice_Dice_Used_m g w K := by kernel_rfl
theorem dice_Dice_Used_go (g : Nat) {w : World} {K : Value → World → Prop} (h : dice_Dice_Used_m g w K) : Rets Tryd.prog 20 #[.pointer (some ⟨g, 0, none⟩)] w K :=
  calls_of_fw plain mixed Tryd.func20 (by kernel_rfl) (by rw [dice_Dice_Used_eq]; exact h)
def dice_nil_Used_m  (w : World) (K : Value → World → Prop) : Prop :=
  (true = true → K (Value.int IntKind.i64 (0 : Int)) w) ∧ (true = false → False)
theorem dice_nil_Used_eq  (w : World) (K : Value → World → Prop) : fw Tryd.prog Tryd.f20 (annL []) (ordL []) [.pointer none] w K = dice_nil_Used_m  w K := by kernel_rfl
theorem dice_nil_Used_go  {w : World} {K : Value → World → Prop} (h : dice_nil_Used_m  w K) : Rets Tryd.prog 20 #[.pointer none] w K :=
  calls_of_fw plain mixed Tryd.func20 (by kernel_rfl) (by rw [dice_nil_Used_eq]; exact h)
def dice_Dice_Peek_m (g : Nat) (k : Int) (w : World) (K : Value → World → Prop) : Prop :=
  (false = true → K (Value.int IntKind.u64 (0 : Int)) w) ∧
  (false = false →
  ∃ (n1 : Int),
  cellAt w (Addr.add { block := g, off := (0 : Nat) } (2 : Nat)) (Value.int IntKind.i64 n1) ∧
  Rets Tryd.prog (33 : Nat)
  {
  toList :=
  [Value.pointer (some { block := g, off := (0 : Nat) }),
  Value.int IntKind.i64 (IntKind.wrap IntKind.i64 (n1 + maxI (0 : Int) (minI k (1048576 : Int))))] }
  w fun (v1 : Value) (w1 : World) => ∃ (n2 : Int), v1 = Value.int IntKind.u64 n2 ∧ K (Value.int IntKind.u64 n2) w1)
theorem dice_Dice_Peek_eq (g : Nat) (k : Int) (w : World) (K : Value → World → Prop) : fw Tryd.prog Tryd.f21 (annL []) (ordL []) [.pointer (some ⟨g, 0, none⟩), .int .i64 k] w K = dice_Dice_Peek_m g k w K := by kernel_rfl
theorem dice_Dice_Peek_go (g : Nat) (k : Int) {w : World} {K : Value → World → Prop} (h : dice_Dice_Peek_m g k w K) : Rets Tryd.prog 21 #[.pointer (some ⟨g, 0, none⟩), .int .i64 k] w K :=
  calls_of_fw plain mixed Tryd.func21 (by kernel_rfl) (by rw [dice_Dice_Peek_eq]; exact h)
def dice_nil_Peek_m (k : Int) (w : World) (K : Value → World → Prop) : Prop :=
  (true = true → K (Value.int IntKind.u64 (0 : Int)) w) ∧ (true = false → False)
theorem dice_nil_Peek_eq (k : Int) (w : World) (K : Value → World → Prop) : fw Tryd.prog Tryd.f21 (annL []) (ordL []) [.pointer none, .int .i64 k] w K = dice_nil_Peek_m k w K := by kernel_rfl
theorem dice_nil_Peek_go (k : Int) {w : World} {K : Value → World → Prop} (h : dice_nil_Peek_m k w K) : Rets Tryd.prog 21 #[.pointer none, .int .i64 k] w K :=
  calls_of_fw plain mixed Tryd.func21 (by kernel_rfl) (by rw [dice_nil_Peek_eq]; exact h)
def dice_Dice_Clone_m (g : Nat) (w : World) (K : Value → World → Prop) : Prop :=
  (false = true → K (Value.pointer none) w) ∧
  (false = false →
  Drw w fun (w1 : World) =>
  ∃ (q1 : Option Addr),
  ∃ (k1 : Nat),
  ∃ (k2 : Nat),
  cellAt w1 (Addr.add { block := g, off := (0 : Nat) } (0 : Nat)) (Value.slice q1 k1 k2) ∧
  ∃ (n1 : Int),
  cellAt w1 (Addr.add { block := g, off := (0 : Nat) } (1 : Nat)) (Value.int IntKind.u64 n1) ∧
  Rets Tryd.prog (15 : Nat) { toList := [Value.slice q1 k1 k2, Value.int IntKind.u64 n1] } w1
  fun (v1 : Value) (w2 : World) =>
  ∃ (q2 : Option Addr),
  v1 = Value.pointer q2 ∧
  ∃ (n2 : Int),
  cellAt w2 (Addr.add { block := g, off := (0 : Nat) } (2 : Nat)) (Value.int IntKind.i64 n2) ∧
  someR q2 fun (a1 : Addr) =>
  StoreR (Addr.add a1 (2 : Nat)) [Value.int IntKind.i64 n2] w2 fun (w3 : World) => K (Value.pointer q2) w3)
theorem dice_Dice_Clone_eq (g : Nat) (w : World) (K : Value → World → Prop) : fw Tryd.prog Tryd.f27 (annL []) (ordL [(3, [(0, 0), (1, 0), (2, 0), (4, 0), (5, 0), (6, 0), (3, 1), (7, 1), (8, 3), (9, 0)])]) [.pointer (some ⟨g, 0, none⟩)] w K = dice_Dice_Clone_m g w K := by kernel_rfl
theorem dice_Dice_Clone_go (g : Nat) {w : World} {K : Value → World → Prop} (h : dice_Dice_Clone_m g w K) : Rets Tryd.prog 27 #[.pointer (some ⟨g, 0, none⟩)] w K :=
  calls_of_fw plain mixed Tryd.func27 (by kernel_rfl) (by rw [dice_Dice_Clone_eq]; exact h)
def dice_nil_Clone_m  (w : World) (K : Value → World → Prop) : Prop :=
  (true = true → K (Value.pointer none) w) ∧ (true = false → Drw w fun (w1 : World) => False)
theorem dice_nil_Clone_eq  (w : World) (K : Value → World → Prop) : fw Tryd.prog Tryd.f27 (annL []) (ordL [(3, [(0, 0), (1, 0), (2, 0), (4, 0), (5, 0), (6, 0), (3, 1), (7, 1), (8, 3), (9, 0)])]) [.pointer none] w K = dice_nil_Clone_m  w K := by kernel_rfl
theorem dice_nil_Clone_go  {w : World} {K : Value → World → Prop} (h : dice_nil_Clone_m  w K) : Rets Tryd.prog 27 #[.pointer none] w K :=
  calls_of_fw plain mixed Tryd.func27 (by kernel_rfl) (by rw [dice_nil_Clone_eq]; exact h)
def cortadoref15_At_m (q : Option Addr) (l c : Nat) (s k : Int) (w : World) (K : Value → World → Prop) : Prop :=
  (decide (k < (↑l : Int)) = true →
  (0 : Int) ≤ k ∧
  k < (↑l : Int) ∧
  someR q fun (a1 : Addr) =>
  ∃ (n1 : Int),
  cellAt w (Addr.add a1 (Int.toNat k * (1 : Nat))) (Value.int IntKind.i64 n1) ∧
  K (Value.int IntKind.u64 (IntKind.wrap IntKind.u64 n1)) w) ∧
  (decide (k < (↑l : Int)) = false →
  ∃ (h1 : Nat → List Value → World → Prop),
  (∃ (k1 : Nat), h1 k1 [Value.int IntKind.u64 s, Value.int IntKind.i64 (↑l : Int)] w) ∧
  ∀ (k2 : Nat) (w1 : World) (n2 n3 : Int) (v1 v2 v3 v4 v5 v6 v7 : Value),
  h1 k2 [Value.int IntKind.u64 n2, Value.int IntKind.i64 n3] w1 →
  (decide (n3 ≤ k) = true →
  ∃ (k3 : Nat),
  k3 < k2 ∧
  h1 k3
  [Value.int IntKind.u64 (IntKind.wrap IntKind.u64 (n2 + (11400714819323198485 : Int))),
  Value.int IntKind.i64 (IntKind.wrap IntKind.i64 (n3 + (1 : Int)))]
  w1) ∧
  (decide (n3 ≤ k) = false →
  Rets Tryd.prog (8 : Nat) { toList := [Value.int IntKind.u64 n2] } w1 fun (v8 : Value) (w2 : World) =>
  ∃ (n4 : Int), v8 = Value.int IntKind.u64 n4 ∧ K (Value.int IntKind.u64 n4) w2))
theorem cortadoref15_At_eq (q : Option Addr) (l c : Nat) (s k : Int) (w : World) (K : Value → World → Prop) : fw Tryd.prog Tryd.f22 (annL [(2, [(7, some 22), (8, some 3), (21, none), (22, none), (23, none), (24, none), (25, none), (26, none), (27, none)])]) (ordL []) [.slice q l c, .int .u64 s, .int .i64 k] w K = cortadoref15_At_m q l c s k w K := by kernel_rfl
theorem cortadoref15_At_go (q : Option Addr) (l c : Nat) (s k : Int) {w : World} {K : Value → World → Prop} (h : cortadoref15_At_m q l c s k w K) : Rets Tryd.prog 22 #[.slice q l c, .int .u64 s, .int .i64 k] w K :=
  calls_of_fw plain mixed Tryd.func22 (by kernel_rfl) (by rw [cortadoref15_At_eq]; exact h)
def cortadoref15_D_Next_m (g : Nat) (w : World) (K : Value → World → Prop) : Prop :=
  Drw w fun (w1 : World) =>
  ∃ (q1 : Option Addr),
  ∃ (k1 : Nat),
  ∃ (k2 : Nat),
  cellAt w1 (Addr.add { block := g, off := (0 : Nat) } (0 : Nat)) (Value.slice q1 k1 k2) ∧
  ∃ (n1 : Int),
  cellAt w1 (Addr.add { block := g, off := (0 : Nat) } (1 : Nat)) (Value.int IntKind.u64 n1) ∧
  ∃ (n2 : Int),
  cellAt w1 (Addr.add { block := g, off := (0 : Nat) } (2 : Nat)) (Value.int IntKind.i64 n2) ∧
  Rets Tryd.prog (22 : Nat) { toList := [Value.slice q1 k1 k2, Value.int IntKind.u64 n1, Value.int IntKind.i64 n2] } w1
  fun (v1 : Value) (w2 : World) =>
  ∃ (n3 : Int),
  v1 = Value.int IntKind.u64 n3 ∧
  ∃ (n4 : Int),
  cellAt w2 (Addr.add { block := g, off := (0 : Nat) } (2 : Nat)) (Value.int IntKind.i64 n4) ∧
  StoreR (Addr.add { block := g, off := (0 : Nat) } (2 : Nat))
  [Value.int IntKind.i64 (IntKind.wrap IntKind.i64 (n4 + (1 : Int)))] w2 fun (w3 : World) =>
  K (Value.int IntKind.u64 n3) w3
theorem cortadoref15_D_Next_eq (g : Nat) (w : World) (K : Value → World → Prop) : fw Tryd.prog Tryd.f17 (annL []) (ordL [(1, [(0, 0), (1, 0), (2, 0), (4, 0), (5, 0), (6, 0), (8, 0), (9, 0), (10, 0), (3, 1), (7, 1), (11, 1), (12, 3), (13, 0)])]) [.pointer (some ⟨g, 0, none⟩)] w K = cortadoref15_D_Next_m g w K := by kernel_rfl
theorem cortadoref15_D_Next_go (g : Nat) {w : World} {K : Value → World → Prop} (h : cortadoref15_D_Next_m g w K) : Rets Tryd.prog 17 #[.pointer (some ⟨g, 0, none⟩)] w K :=
  calls_of_fw plain mixed Tryd.func17 (by kernel_rfl) (by rw [cortadoref15_D_Next_eq]; exact h)
def cortadoref15_D_Below_m (g : Nat) (n : Int) (w : World) (K : Value → World → Prop) : Prop :=
  (decide (n < (1 : Int)) = true → K (Value.int IntKind.i64 (0 : Int)) w) ∧
  (decide (n < (1 : Int)) = false →
  Rets Tryd.prog (17 : Nat) { toList := [Value.pointer (some { block := g, off := (0 : Nat) })] } w
  fun (v1 : Value) (w1 : World) =>
  ∃ (n1 : Int),
  v1 = Value.int IntKind.u64 n1 ∧
  IntKind.wrap IntKind.u64 n ≠ (0 : Int) ∧
  K (Value.int IntKind.i64 (IntKind.wrap IntKind.i64 (Int.tmod n1 (IntKind.wrap IntKind.u64 n)))) w1)
theorem cortadoref15_D_Below_eq (g : Nat) (n : Int) (w : World) (K : Value → World → Prop) : fw Tryd.prog Tryd.f19 (annL []) (ordL []) [.pointer (some ⟨g, 0, none⟩), .int .i64 n] w K = cortadoref15_D_Below_m g n w K := by kernel_rfl
theorem cortadoref15_D_Below_go (g : Nat) (n : Int) {w : World} {K : Value → World → Prop} (h : cortadoref15_D_Below_m g n w K) : Rets Tryd.prog 19 #[.pointer (some ⟨g, 0, none⟩), .int .i64 n] w K :=
  calls_of_fw plain mixed Tryd.func19 (by kernel_rfl) (by rw [cortadoref15_D_Below_eq]; exact h)
def cortadolaw15_awake_m  (w : World) (K : Value → World → Prop) : Prop :=
  NewR (3 : Nat) [Value.int IntKind.i64 (5 : Int), Value.int IntKind.i64 (9 : Int)] w fun (a1 : Addr) (w1 : World) =>
  Rets Tryd.prog (15 : Nat) { toList := [Value.slice (some a1) (2 : Nat) (2 : Nat), Value.int IntKind.u64 (0 : Int)] } w1
  fun (v1 : Value) (w2 : World) =>
  ∃ (q1 : Option Addr),
  v1 = Value.pointer q1 ∧
  Rets Tryd.prog (18 : Nat) { toList := [Value.pointer q1, Value.int IntKind.i64 (4 : Int)] } w2
  fun (v2 : Value) (w3 : World) =>
  ∃ (n1 : Int),
  v2 = Value.int IntKind.i64 n1 ∧
  ((n1 == (1 : Int)) = true →
  Rets Tryd.prog (18 : Nat) { toList := [Value.pointer q1, Value.int IntKind.i64 (4 : Int)] } w3
  fun (v3 : Value) (w4 : World) =>
  ∃ (n2 : Int),
  v3 = Value.int IntKind.i64 n2 ∧
  ((n2 == (1 : Int)) = true →
  Rets Tryd.prog (20 : Nat) { toList := [Value.pointer q1] } w4 fun (v4 : Value) (w5 : World) =>
  ∃ (n3 : Int), v4 = Value.int IntKind.i64 n3 ∧ K (Value.bool (n3 == (2 : Int))) w5) ∧
  ((n2 == (1 : Int)) = false → K (Value.bool false) w4)) ∧
  ((n1 == (1 : Int)) = false → K (Value.bool false) w3)
theorem cortadolaw15_awake_eq  (w : World) (K : Value → World → Prop) : fw Tryd.prog Tryd.f14 (annL []) (ordL []) [] w K = cortadolaw15_awake_m  w K := by kernel_rfl
theorem cortadolaw15_awake_go  {w : World} {K : Value → World → Prop} (h : cortadolaw15_awake_m  w K) : Rets Tryd.prog 14 #[] w K :=
  calls_of_fw plain mixed Tryd.func14 (by kernel_rfl) (by rw [cortadolaw15_awake_eq]; exact h)
def cortadolaw15_DiceDraws_m (q : Option Addr) (l c : Nat) (s : Int) (q2 : Option Addr) (l2 c2 : Nat) (w : World) (K : Value → World → Prop) : Prop :=
  (decide ((↑l2 : Int) > (60 : Int)) = true →
  Rets Tryd.prog (14 : Nat) { toList := [] } w fun (v1 : Value) (w1 : World) =>
  ∃ (b1 : Bool), v1 = Value.bool b1 ∧ K (Value.bool b1) w1) ∧
  (decide ((↑l2 : Int) > (60 : Int)) = false →
  Rets Tryd.prog (15 : Nat) { toList := [Value.slice q l c, Value.int IntKind.u64 s] } w fun (v2 : Value) (w2 : World) =>
  ∃ (q1 : Option Addr),
  v2 = Value.pointer q1 ∧
  NewR (31 : Nat) [Value.slice q l c, Value.int IntKind.u64 s, Value.int IntKind.i64 (0 : Int)] w2
  fun (a1 : Addr) (w3 : World) =>
  ∃ (h1 : Nat → List Value → World → Prop),
  (∃ (k1 : Nat), h1 k1 [Value.int IntKind.i64 (0 : Int)] w3) ∧
  ∀ (k2 : Nat) (w4 : World) (v3 : Value) (n1 : Int)
  (v4 v5 v6 v7 v8 v9 v10 v11 v12 v13 v14 v15 v16 v17 v18 v19 v20 v21 v22 v23 v24 v25 v26 v27 v28 v29 v30 v31 v32 v33 v34
  v35 v36 v37 v38 v39 : Value),
  h1 k2 [Value.int IntKind.i64 n1] w4 →
  (decide (n1 < (↑l2 : Int)) = true →
  (0 : Int) ≤ n1 ∧
  n1 < (↑l2 : Int) ∧
  someR q2 fun (a2 : Addr) =>
  ∃ (n2 : Int),
  cellAt w4 (Addr.add a2 (Int.toNat n1 * (1 : Nat))) (Value.int IntKind.i64 n2) ∧
  ((n2 == (7 : Int)) = true →
  Rets Tryd.prog (16 : Nat) { toList := [Value.pointer q1] } w4 fun (v40 : Value) (w5 : World) =>
  ∃ (n3 : Int),
  v40 = Value.int IntKind.u64 n3 ∧
  Rets Tryd.prog (17 : Nat) { toList := [Value.pointer (some a1)] } w5 fun (v41 : Value) (w6 : World) =>
  ∃ (n4 : Int),
  v41 = Value.int IntKind.u64 n4 ∧
  ((n3 != n4) = true → K (Value.bool false) w6) ∧
  ((n3 != n4) = false →
  Drw w6 fun (w7 : World) =>
  ∃ (h2 : World → Prop),
  h2 w7 ∧
  ∃ (n5 : Int),
  (∀ (w8 : World), h2 w8 → World.cell? w8 (Addr.add a1 (2 : Nat)) = some (Value.int IntKind.i64 n5)) ∧
  Rets Tryd.prog (20 : Nat) { toList := [Value.pointer q1] } w7 fun (v42 : Value) (w9 : World) =>
  ∃ (n6 : Int),
  v42 = Value.int IntKind.i64 n6 ∧
  h2 w9 ∧
  ((n6 != n5) = true → K (Value.bool false) w9) ∧
  ((n6 != n5) = false →
  ∃ (k3 : Nat), k3 < k2 ∧ h1 k3 [Value.int IntKind.i64 (IntKind.wrap IntKind.i64 (n1 + (1 : Int)))] w9))) ∧
  ((n2 == (7 : Int)) = false →
  Drw w4 fun (w10 : World) =>
  ∃ (h3 : World → Prop),
  h3 w10 ∧
  (0 : Int) ≤ n1 ∧
  n1 < (↑l2 : Int) ∧
  someR q2 fun (a3 : Addr) =>
  (0 : Int) ≤ n1 ∧
  n1 < (↑l2 : Int) ∧
  someR q2 fun (a4 : Addr) =>
  ∃ (n7 : Int),
  (∀ (w11 : World), h3 w11 → World.cell? w11 (Addr.add a3 (Int.toNat n1 * (1 : Nat))) = some (Value.int IntKind.i64 n7)) ∧
  ∃ (n8 : Int),
  (∀ (w12 : World), h3 w12 → World.cell? w12 (Addr.add a4 (Int.toNat n1 * (1 : Nat))) = some (Value.int IntKind.i64 n8)) ∧
  Rets Tryd.prog (18 : Nat) { toList := [Value.pointer q1, Value.int IntKind.i64 n7] } w10
  fun (v43 : Value) (w13 : World) =>
  ∃ (n9 : Int),
  v43 = Value.int IntKind.i64 n9 ∧
  h3 w13 ∧
  Rets Tryd.prog (19 : Nat) { toList := [Value.pointer (some a1), Value.int IntKind.i64 n8] } w13
  fun (v44 : Value) (w14 : World) =>
  ∃ (n10 : Int),
  v44 = Value.int IntKind.i64 n10 ∧
  ((n9 != n10) = true → K (Value.bool false) w14) ∧
  ((n9 != n10) = false →
  Drw w14 fun (w15 : World) =>
  ∃ (h4 : World → Prop),
  h4 w15 ∧
  ∃ (n11 : Int),
  (∀ (w16 : World), h4 w16 → World.cell? w16 (Addr.add a1 (2 : Nat)) = some (Value.int IntKind.i64 n11)) ∧
  Rets Tryd.prog (20 : Nat) { toList := [Value.pointer q1] } w15 fun (v45 : Value) (w17 : World) =>
  ∃ (n12 : Int),
  v45 = Value.int IntKind.i64 n12 ∧
  h4 w17 ∧
  ((n12 != n11) = true → K (Value.bool false) w17) ∧
  ((n12 != n11) = false →
  ∃ (k4 : Nat), k4 < k2 ∧ h1 k4 [Value.int IntKind.i64 (IntKind.wrap IntKind.i64 (n1 + (1 : Int)))] w17)))) ∧
  (decide (n1 < (↑l2 : Int)) = false →
  Drw w4 fun (w18 : World) =>
  ∃ (h5 : World → Prop),
  h5 w18 ∧
  ∃ (n13 : Int),
  (∀ (w19 : World), h5 w19 → World.cell? w19 (Addr.add a1 (2 : Nat)) = some (Value.int IntKind.i64 n13)) ∧
  Rets Tryd.prog (21 : Nat) { toList := [Value.pointer q1, Value.int IntKind.i64 (3 : Int)] } w18
  fun (v46 : Value) (w20 : World) =>
  ∃ (n14 : Int),
  v46 = Value.int IntKind.u64 n14 ∧
  h5 w20 ∧
  Rets Tryd.prog (22 : Nat)
  {
  toList :=
  [Value.slice q l c, Value.int IntKind.u64 s, Value.int IntKind.i64 (IntKind.wrap IntKind.i64 (n13 + (3 : Int)))] }
  w20 fun (v47 : Value) (w21 : World) =>
  ∃ (n15 : Int),
  v47 = Value.int IntKind.u64 n15 ∧
  h5 w21 ∧
  ((n14 == n15) = true →
  ∃ (n16 : Int),
  (∀ (w22 : World), h5 w22 → World.cell? w22 (Addr.add a1 (2 : Nat)) = some (Value.int IntKind.i64 n16)) ∧
  Rets Tryd.prog (21 : Nat) { toList := [Value.pointer q1, Value.int IntKind.i64 (-1 : Int)] } w21
  fun (v48 : Value) (w23 : World) =>
  ∃ (n17 : Int),
  v48 = Value.int IntKind.u64 n17 ∧
  h5 w23 ∧
  Rets Tryd.prog (22 : Nat) { toList := [Value.slice q l c, Value.int IntKind.u64 s, Value.int IntKind.i64 n16] } w23
  fun (v49 : Value) (w24 : World) =>
  ∃ (n18 : Int),
  v49 = Value.int IntKind.u64 n18 ∧
  ((n17 == n18) = true →
  Rets Tryd.prog (14 : Nat) { toList := [] } w24 fun (v50 : Value) (w25 : World) =>
  ∃ (b2 : Bool), v50 = Value.bool b2 ∧ K (Value.bool b2) w25) ∧
  ((n17 == n18) = false → K (Value.bool false) w24)) ∧
  ((n14 == n15) = false → K (Value.bool false) w21)))
theorem cortadolaw15_DiceDraws_eq (q : Option Addr) (l c : Nat) (s : Int) (q2 : Option Addr) (l2 c2 : Nat) (w : World) (K : Value → World → Prop) : fw Tryd.prog Tryd.f4 (annL [(2, [(6, none), (9, some 3), (21, none), (22, none), (23, none), (24, none), (25, none), (26, none), (27, none), (28, none), (29, none), (30, none), (31, none), (32, none), (33, none), (34, none), (35, none), (36, none), (37, none), (38, none), (39, none), (40, none), (41, none), (42, none), (43, none), (44, none), (45, none), (46, none), (47, none), (48, none), (49, none), (50, none), (51, none), (52, none), (53, none), (54, none), (55, none), (56, none)])]) (ordL [(10, [(0, 0), (1, 0), (2, 0), (3, 0), (6, 0), (7, 0), (8, 0), (9, 0), (4, 1), (10, 1), (5, 2), (11, 3), (12, 0)]), (12, [(0, 0), (2, 0), (3, 0), (4, 0), (5, 1), (1, 2), (6, 0)]), (14, [(0, 0), (2, 0), (3, 0), (4, 0), (5, 0), (6, 0), (7, 1), (8, 0), (1, 2), (9, 2), (10, 0), (11, 0), (12, 0), (14, 0), (15, 0), (16, 0), (17, 0), (18, 0), (19, 1), (13, 2), (20, 3), (21, 0), (22, 0), (23, 0), (24, 3), (25, 0), (26, 0)])]) [.slice q l c, .int .u64 s, .slice q2 l2 c2] w K = cortadolaw15_DiceDraws_m q l c s q2 l2 c2 w K := by kernel_rfl
theorem cortadolaw15_DiceDraws_go (q : Option Addr) (l c : Nat) (s : Int) (q2 : Option Addr) (l2 c2 : Nat) {w : World} {K : Value → World → Prop} (h : cortadolaw15_DiceDraws_m q l c s q2 l2 c2 w K) : Rets Tryd.prog 4 #[.slice q l c, .int .u64 s, .slice q2 l2 c2] w K :=
  calls_of_fw plain mixed Tryd.func4 (by kernel_rfl) (by rw [cortadolaw15_DiceDraws_eq]; exact h)
def cortadolaw15_DiceAlike_m (q : Option Addr) (l c : Nat) (s : Int) (q2 : Option Addr) (l2 c2 : Nat) (w : World) (K : Value → World → Prop) : Prop :=
  (decide ((↑l2 : Int) > (60 : Int)) = true →
  Rets Tryd.prog (14 : Nat) { toList := [] } w fun (v1 : Value) (w1 : World) =>
  ∃ (b1 : Bool), v1 = Value.bool b1 ∧ K (Value.bool b1) w1) ∧
  (decide ((↑l2 : Int) > (60 : Int)) = false →
  Rets Tryd.prog (15 : Nat) { toList := [Value.slice q l c, Value.int IntKind.u64 s] } w fun (v2 : Value) (w2 : World) =>
  ∃ (q1 : Option Addr),
  v2 = Value.pointer q1 ∧
  ∃ (h1 : Nat → List Value → World → Prop),
  (∃ (k1 : Nat), h1 k1 [Value.int IntKind.i64 (0 : Int)] w2) ∧
  ∀ (k2 : Nat) (w3 : World) (v3 v4 : Value) (n1 : Int)
  (v5 v6 v7 v8 v9 v10 v11 v12 v13 v14 v15 v16 v17 v18 v19 v20 v21 v22 v23 v24 v25 v26 v27 v28 v29 v30 v31 v32 v33 v34 v35
  v36 v37 v38 v39 v40 v41 v42 v43 v44 v45 v46 v47 v48 v49 v50 v51 v52 v53 v54 v55 v56 v57 v58 v59 v60 v61 v62 v63 v64 v65
  v66 v67 v68 v69 v70 v71 v72 v73 v74 v75 v76 v77 v78 v79 v80 v81 v82 v83 v84 v85 : Value),
  h1 k2 [Value.int IntKind.i64 n1] w3 →
  (decide (n1 < (↑l2 : Int)) = true →
  Rets Tryd.prog (27 : Nat) { toList := [Value.pointer q1] } w3 fun (v86 : Value) (w4 : World) =>
  ∃ (q2_1 : Option Addr),
  v86 = Value.pointer q2_1 ∧
  Rets Tryd.prog (21 : Nat) { toList := [Value.pointer q2_1, Value.int IntKind.i64 (0 : Int)] } w4
  fun (v87 : Value) (w5 : World) =>
  ∃ (n2 : Int),
  v87 = Value.int IntKind.u64 n2 ∧
  (0 : Int) ≤ n1 ∧
  n1 < (↑l2 : Int) ∧
  someR q2 fun (a1 : Addr) =>
  ∃ (n3 : Int),
  cellAt w5 (Addr.add a1 (Int.toNat n1 * (1 : Nat))) (Value.int IntKind.i64 n3) ∧
  Rets Tryd.prog (18 : Nat) { toList := [Value.pointer q1, Value.int IntKind.i64 n3] } w5
  fun (v88 : Value) (w6 : World) =>
  ∃ (n4 : Int),
  v88 = Value.int IntKind.i64 n4 ∧
  (0 : Int) ≤ n1 ∧
  n1 < (↑l2 : Int) ∧
  someR q2 fun (a2 : Addr) =>
  ∃ (n5 : Int),
  cellAt w6 (Addr.add a2 (Int.toNat n1 * (1 : Nat))) (Value.int IntKind.i64 n5) ∧
  Rets Tryd.prog (18 : Nat) { toList := [Value.pointer q2_1, Value.int IntKind.i64 n5] } w6
  fun (v89 : Value) (w7 : World) =>
  ∃ (n6 : Int),
  v89 = Value.int IntKind.i64 n6 ∧
  ((n4 != n6) = false →
  Rets Tryd.prog (20 : Nat) { toList := [Value.pointer q1] } w7 fun (v90 : Value) (w8 : World) =>
  ∃ (n7 : Int),
  v90 = Value.int IntKind.i64 n7 ∧
  Rets Tryd.prog (20 : Nat) { toList := [Value.pointer q2_1] } w8 fun (v91 : Value) (w9 : World) =>
  ∃ (n8 : Int),
  v91 = Value.int IntKind.i64 n8 ∧
  ((n7 != n8) = false →
  (decide (n4 < (0 : Int)) = false →
  (0 : Int) ≤ n1 ∧
  n1 < (↑l2 : Int) ∧
  someR q2 fun (a3 : Addr) =>
  ∃ (n9 : Int),
  cellAt w9 (Addr.add a3 (Int.toNat n1 * (1 : Nat))) (Value.int IntKind.i64 n9) ∧
  (decide (n9 > (0 : Int)) = true →
  (0 : Int) ≤ n1 ∧
  n1 < (↑l2 : Int) ∧
  someR q2 fun (a4 : Addr) =>
  ∃ (n10 : Int),
  cellAt w9 (Addr.add a4 (Int.toNat n1 * (1 : Nat))) (Value.int IntKind.i64 n10) ∧
  (decide (n4 ≥ n10) = false →
  (0 : Int) ≤ n1 ∧
  n1 < (↑l2 : Int) ∧
  someR q2 fun (a5 : Addr) =>
  ∃ (n11 : Int),
  cellAt w9 (Addr.add a5 (Int.toNat n1 * (1 : Nat))) (Value.int IntKind.i64 n11) ∧
  IntKind.wrap IntKind.u64 n11 ≠ (0 : Int) ∧
  ((n4 != IntKind.wrap IntKind.i64 (Int.tmod n2 (IntKind.wrap IntKind.u64 n11))) = false →
  (0 : Int) ≤ n1 ∧
  n1 < (↑l2 : Int) ∧
  someR q2 fun (a6 : Addr) =>
  ∃ (n12 : Int),
  cellAt w9 (Addr.add a6 (Int.toNat n1 * (1 : Nat))) (Value.int IntKind.i64 n12) ∧
  (decide (n12 < (1 : Int)) = true →
  ((n4 != (0 : Int)) = false →
  Rets Tryd.prog (21 : Nat) { toList := [Value.pointer q1, Value.int IntKind.i64 (0 : Int)] } w9
  fun (v92 : Value) (w10 : World) =>
  ∃ (n13 : Int),
  v92 = Value.int IntKind.u64 n13 ∧
  ((n13 != n2) = true → K (Value.bool false) w10) ∧
  ((n13 != n2) = false →
  ∃ (k3 : Nat), k3 < k2 ∧ h1 k3 [Value.int IntKind.i64 (IntKind.wrap IntKind.i64 (n1 + (1 : Int)))] w10)) ∧
  ((n4 != (0 : Int)) = true → K (Value.bool false) w9)) ∧
  (decide (n12 < (1 : Int)) = false →
  ∃ (k4 : Nat), k4 < k2 ∧ h1 k4 [Value.int IntKind.i64 (IntKind.wrap IntKind.i64 (n1 + (1 : Int)))] w9)) ∧
  ((n4 != IntKind.wrap IntKind.i64 (Int.tmod n2 (IntKind.wrap IntKind.u64 n11))) = true → K (Value.bool false) w9)) ∧
  (decide (n4 ≥ n10) = true → K (Value.bool false) w9)) ∧
  (decide (n9 > (0 : Int)) = false →
  (0 : Int) ≤ n1 ∧
  n1 < (↑l2 : Int) ∧
  someR q2 fun (a7 : Addr) =>
  ∃ (n14 : Int),
  cellAt w9 (Addr.add a7 (Int.toNat n1 * (1 : Nat))) (Value.int IntKind.i64 n14) ∧
  (decide (n14 < (1 : Int)) = true →
  ((n4 != (0 : Int)) = false →
  Rets Tryd.prog (21 : Nat) { toList := [Value.pointer q1, Value.int IntKind.i64 (0 : Int)] } w9
  fun (v93 : Value) (w11 : World) =>
  ∃ (n15 : Int),
  v93 = Value.int IntKind.u64 n15 ∧
  ((n15 != n2) = true → K (Value.bool false) w11) ∧
  ((n15 != n2) = false →
  ∃ (k5 : Nat), k5 < k2 ∧ h1 k5 [Value.int IntKind.i64 (IntKind.wrap IntKind.i64 (n1 + (1 : Int)))] w11)) ∧
  ((n4 != (0 : Int)) = true → K (Value.bool false) w9)) ∧
  (decide (n14 < (1 : Int)) = false →
  ∃ (k6 : Nat), k6 < k2 ∧ h1 k6 [Value.int IntKind.i64 (IntKind.wrap IntKind.i64 (n1 + (1 : Int)))] w9))) ∧
  (decide (n4 < (0 : Int)) = true → K (Value.bool false) w9)) ∧
  ((n7 != n8) = true → K (Value.bool false) w9)) ∧
  ((n4 != n6) = true → K (Value.bool false) w7)) ∧
  (decide (n1 < (↑l2 : Int)) = false →
  Rets Tryd.prog (16 : Nat) { toList := [Value.pointer none] } w3 fun (v94 : Value) (w12 : World) =>
  ∃ (n16 : Int),
  v94 = Value.int IntKind.u64 n16 ∧
  ((n16 == (0 : Int)) = true →
  Rets Tryd.prog (18 : Nat) { toList := [Value.pointer none, Value.int IntKind.i64 (5 : Int)] } w12
  fun (v95 : Value) (w13 : World) =>
  ∃ (n17 : Int),
  v95 = Value.int IntKind.i64 n17 ∧
  ((n17 == (0 : Int)) = true →
  Rets Tryd.prog (20 : Nat) { toList := [Value.pointer none] } w13 fun (v96 : Value) (w14 : World) =>
  ∃ (n18 : Int),
  v96 = Value.int IntKind.i64 n18 ∧
  ((n18 == (0 : Int)) = true →
  Rets Tryd.prog (21 : Nat) { toList := [Value.pointer none, Value.int IntKind.i64 (1 : Int)] } w14
  fun (v97 : Value) (w15 : World) =>
  ∃ (n19 : Int),
  v97 = Value.int IntKind.u64 n19 ∧
  ((n19 == (0 : Int)) = true →
  Rets Tryd.prog (27 : Nat) { toList := [Value.pointer none] } w15 fun (v98 : Value) (w16 : World) =>
  ∃ (q3 : Option Addr),
  v98 = Value.pointer q3 ∧
  (Option.isNone q3 = true →
  Rets Tryd.prog (14 : Nat) { toList := [] } w16 fun (v99 : Value) (w17 : World) =>
  ∃ (b2 : Bool), v99 = Value.bool b2 ∧ K (Value.bool b2) w17) ∧
  (Option.isNone q3 = false → K (Value.bool false) w16)) ∧
  ((n19 == (0 : Int)) = false → K (Value.bool false) w15)) ∧
  ((n18 == (0 : Int)) = false → K (Value.bool false) w14)) ∧
  ((n17 == (0 : Int)) = false → K (Value.bool false) w13)) ∧
  ((n16 == (0 : Int)) = false → K (Value.bool false) w12)))
theorem cortadolaw15_DiceAlike_eq (q : Option Addr) (l c : Nat) (s : Int) (q2 : Option Addr) (l2 c2 : Nat) (w : World) (K : Value → World → Prop) : fw Tryd.prog Tryd.f6 (annL [(2, [(6, none), (8, none), (9, some 3), (10, none), (11, none), (21, none), (22, none), (23, none), (24, none), (25, none), (26, none), (27, none), (28, none), (29, none), (30, none), (31, none), (32, none), (33, none), (34, none), (35, none), (36, none), (37, none), (38, none), (39, none), (40, none), (41, none), (42, none), (43, none), (44, none), (45, none), (46, none), (47, none), (48, none), (49, none), (50, none), (51, none), (52, none), (53, none), (54, none), (55, none), (56, none), (57, none), (58, none), (59, none), (60, none), (61, none), (62, none), (63, none), (64, none), (65, none), (66, none), (67, none), (68, none), (69, none), (70, none), (71, none), (72, none), (73, none), (74, none), (75, none), (76, none), (77, none), (78, none), (79, none), (80, none), (81, none), (82, none), (83, none), (84, none), (85, none), (86, none), (87, none), (88, none), (89, none), (90, none), (91, none), (92, none), (93, none), (94, none), (95, none), (96, none), (97, none), (98, none), (99, none)])]) (ordL []) [.slice q l c, .int .u64 s, .slice q2 l2 c2] w K = cortadolaw15_DiceAlike_m q l c s q2 l2 c2 w K := by kernel_rfl
theorem cortadolaw15_DiceAlike_go (q : Option Addr) (l c : Nat) (s : Int) (q2 : Option Addr) (l2 c2 : Nat) {w : World} {K : Value → World → Prop} (h : cortadolaw15_DiceAlike_m q l c s q2 l2 c2 w K) : Rets Tryd.prog 6 #[.slice q l c, .int .u64 s, .slice q2 l2 c2] w K :=
  calls_of_fw plain mixed Tryd.func6 (by kernel_rfl) (by rw [cortadolaw15_DiceAlike_eq]; exact h)
end Go.Proofs.YtmenjjofmafacaaDoor.Eng
