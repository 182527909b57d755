/- What the code of these functions asks for: printed by a program of this session's (gens.py) out of the seat's own functions; the kernel checks each row. -/
import Derived.Test.YtggflkjdgcdcmaaGreatDoorEngH
import Derived.Test.YtggflkjdgcdcmaaGreatDoorProg
import Derived.Test.YtggflkjdgcdcmaaGreatDoorBase
namespace Go.Proofs.YtggflkjdgcdcmaaGreatDoor.Eng
open Go Go.Proofs
set_option linter.unusedVariables false
set_option maxRecDepth 1000000
def mix_along_m (x f0 t0 f1 t1 f2 t2 : Int) (w : World) (K : Value → World → Prop) : Prop :=
  NewR (168 : Nat)
  [Value.int IntKind.i64 f0, Value.int IntKind.u64 t0, Value.int IntKind.i64 f1, Value.int IntKind.u64 t1,
  Value.int IntKind.i64 f2, Value.int IntKind.u64 t2]
  w fun (a1 : Addr) (w1 : World) =>
  ∃ (n1 : Int),
  ∃ (n2 : Int),
  ∃ (n3 : Int),
  ∃ (n4 : Int),
  ∃ (n5 : Int),
  ∃ (n6 : Int),
  (cellAt w1 (Addr.add a1 (0 : Nat)) (Value.int IntKind.i64 n1) ∧
  cellAt w1 (Addr.add a1 (1 : Nat)) (Value.int IntKind.u64 n2) ∧
  cellAt w1 (Addr.add a1 (2 : Nat)) (Value.int IntKind.i64 n3) ∧
  cellAt w1 (Addr.add a1 (3 : Nat)) (Value.int IntKind.u64 n4) ∧
  cellAt w1 (Addr.add a1 (4 : Nat)) (Value.int IntKind.i64 n5) ∧
  cellAt w1 (Addr.add a1 (5 : Nat)) (Value.int IntKind.u64 n6)) ∧
  ∃ (h1 : Nat → List Value → World → Prop),
  (∃ (k1 : Nat), h1 k1 [Value.int IntKind.u64 x, Value.int IntKind.i64 (0 : Int)] w1) ∧
  ∀ (k2 : Nat) (w2 : World) (n7 : Int) (v1 : Value) (n8 : Int) (v2 v3 v4 v5 v6 v7 v8 v9 v10 v11 : Value),
  h1 k2 [Value.int IntKind.u64 n7, Value.int IntKind.i64 n8] w2 →
  (decide (n8 < (3 : Int)) = true →
  (0 : Int) ≤ n8 ∧
  n8 < (↑(3 : Nat) : Int) ∧
  ((True ∧
  (n8 = (↑(nat_lit 0) : Int) →
  NewR (167 : Nat) [Value.int IntKind.i64 (0 : Int), Value.int IntKind.u64 (0 : Int)] w2 fun (a2 : Addr) (w3 : World) =>
  StoreR a2 [Value.int IntKind.i64 n1, Value.int IntKind.u64 n2] w3 fun (w4 : World) =>
  Drw w4 fun (w5 : World) =>
  ∃ (h2 : World → Prop),
  h2 w5 ∧
  ∃ (n9 : Int),
  (∀ (w6 : World), h2 w6 → World.cell? w6 (Addr.add a2 (0 : Nat)) = some (Value.int IntKind.i64 n9)) ∧
  ∃ (n10 : Int),
  (∀ (w7 : World), h2 w7 → World.cell? w7 (Addr.add a2 (1 : Nat)) = some (Value.int IntKind.u64 n10)) ∧
  Rets Tryz.prog (122 : Nat) { toList := [Value.int IntKind.u64 n7, Value.int IntKind.i64 n9] } w5
  fun (v12 : Value) (w8 : World) =>
  ∃ (n11 : Int),
  v12 = Value.int IntKind.u64 n11 ∧
  h2 w8 ∧
  ∃ (k3 : Nat),
  k3 < k2 ∧
  h1 k3
  [Value.int IntKind.u64 (IntKind.wrap IntKind.u64 (n11 * n10)),
  Value.int IntKind.i64 (IntKind.wrap IntKind.i64 (n8 + (1 : Int)))]
  w8)) ∧
  (n8 = (↑(nat_lit 1) : Int) →
  NewR (167 : Nat) [Value.int IntKind.i64 (0 : Int), Value.int IntKind.u64 (0 : Int)] w2 fun (a3 : Addr) (w9 : World) =>
  StoreR a3 [Value.int IntKind.i64 n3, Value.int IntKind.u64 n4] w9 fun (w10 : World) =>
  Drw w10 fun (w11 : World) =>
  ∃ (h3 : World → Prop),
  h3 w11 ∧
  ∃ (n12 : Int),
  (∀ (w12 : World), h3 w12 → World.cell? w12 (Addr.add a3 (0 : Nat)) = some (Value.int IntKind.i64 n12)) ∧
  ∃ (n13 : Int),
  (∀ (w13 : World), h3 w13 → World.cell? w13 (Addr.add a3 (1 : Nat)) = some (Value.int IntKind.u64 n13)) ∧
  Rets Tryz.prog (122 : Nat) { toList := [Value.int IntKind.u64 n7, Value.int IntKind.i64 n12] } w11
  fun (v13 : Value) (w14 : World) =>
  ∃ (n14 : Int),
  v13 = Value.int IntKind.u64 n14 ∧
  h3 w14 ∧
  ∃ (k4 : Nat),
  k4 < k2 ∧
  h1 k4
  [Value.int IntKind.u64 (IntKind.wrap IntKind.u64 (n14 * n13)),
  Value.int IntKind.i64 (IntKind.wrap IntKind.i64 (n8 + (1 : Int)))]
  w14)) ∧
  (n8 = (↑(nat_lit 2) : Int) →
  NewR (167 : Nat) [Value.int IntKind.i64 (0 : Int), Value.int IntKind.u64 (0 : Int)] w2 fun (a4 : Addr) (w15 : World) =>
  StoreR a4 [Value.int IntKind.i64 n5, Value.int IntKind.u64 n6] w15 fun (w16 : World) =>
  Drw w16 fun (w17 : World) =>
  ∃ (h4 : World → Prop),
  h4 w17 ∧
  ∃ (n15 : Int),
  (∀ (w18 : World), h4 w18 → World.cell? w18 (Addr.add a4 (0 : Nat)) = some (Value.int IntKind.i64 n15)) ∧
  ∃ (n16 : Int),
  (∀ (w19 : World), h4 w19 → World.cell? w19 (Addr.add a4 (1 : Nat)) = some (Value.int IntKind.u64 n16)) ∧
  Rets Tryz.prog (122 : Nat) { toList := [Value.int IntKind.u64 n7, Value.int IntKind.i64 n15] } w17
  fun (v14 : Value) (w20 : World) =>
  ∃ (n17 : Int),
  v14 = Value.int IntKind.u64 n17 ∧
  h4 w20 ∧
  ∃ (k5 : Nat),
  k5 < k2 ∧
  h1 k5
  [Value.int IntKind.u64 (IntKind.wrap IntKind.u64 (n17 * n16)),
  Value.int IntKind.i64 (IntKind.wrap IntKind.i64 (n8 + (1 : Int)))]
  w20)) ∧
  (decide (n8 < (3 : Int)) = false → K (Value.int IntKind.u64 n7) w2)
theorem mix_along_eq (x f0 t0 f1 t1 f2 t2 : Int) (w : World) (K : Value → World → Prop) : fw Tryz.prog Tryz.f99 (annL [(1, [(0, some 30), (6, none), (8, some 3), (9, none), (10, none), (11, none), (12, none), (13, none), (14, none), (15, none), (16, none), (17, none), (18, none)])]) (ordL [(4, [(0, 0), (1, 0), (4, 0), (2, 1), (5, 1), (3, 2), (6, 0), (7, 0)])]) [.int .u64 x, .agg #[.int .i64 f0, .int .u64 t0, .int .i64 f1, .int .u64 t1, .int .i64 f2, .int .u64 t2]] w K = mix_along_m x f0 t0 f1 t1 f2 t2 w K := by kernel_rfl
theorem mix_along_go (x f0 t0 f1 t1 f2 t2 : Int) {w : World} {K : Value → World → Prop} (h : mix_along_m x f0 t0 f1 t1 f2 t2 w K) : Rets Tryz.prog 99 #[.int .u64 x, .agg #[.int .i64 f0, .int .u64 t0, .int .i64 f1, .int .u64 t1, .int .i64 f2, .int .u64 t2]] w K :=
  calls_of_fw plain mixed Tryz.func99 (by kernel_rfl) (by rw [mix_along_eq]; exact h)
def mix_Mix_m (x : Int) (w : World) (K : Value → World → Prop) : Prop :=
  ∃ (n1 : Int),
  ∃ (n2 : Int),
  ∃ (n3 : Int),
  ∃ (n4 : Int),
  ∃ (n5 : Int),
  ∃ (n6 : Int),
  (cellAt w (Addr.add { block := (0 : Nat), off := (0 : Nat) } (0 : Nat)) (Value.int IntKind.i64 n1) ∧
  cellAt w (Addr.add { block := (0 : Nat), off := (0 : Nat) } (1 : Nat)) (Value.int IntKind.u64 n2) ∧
  cellAt w (Addr.add { block := (0 : Nat), off := (0 : Nat) } (2 : Nat)) (Value.int IntKind.i64 n3) ∧
  cellAt w (Addr.add { block := (0 : Nat), off := (0 : Nat) } (3 : Nat)) (Value.int IntKind.u64 n4) ∧
  cellAt w (Addr.add { block := (0 : Nat), off := (0 : Nat) } (4 : Nat)) (Value.int IntKind.i64 n5) ∧
  cellAt w (Addr.add { block := (0 : Nat), off := (0 : Nat) } (5 : Nat)) (Value.int IntKind.u64 n6)) ∧
  Rets Tryz.prog (99 : Nat)
  {
  toList :=
  [Value.int IntKind.u64 x,
  Value.agg
  {
  toList :=
  [Value.int IntKind.i64 n1, Value.int IntKind.u64 n2, Value.int IntKind.i64 n3, Value.int IntKind.u64 n4,
  Value.int IntKind.i64 n5, Value.int IntKind.u64 n6] }] }
  w fun (v1 : Value) (w1 : World) => ∃ (n7 : Int), v1 = Value.int IntKind.u64 n7 ∧ K (Value.int IntKind.u64 n7) w1
theorem mix_Mix_eq (x : Int) (w : World) (K : Value → World → Prop) : fw Tryz.prog Tryz.f73 (annL []) (ordL []) [.int .u64 x] w K = mix_Mix_m x w K := by kernel_rfl
theorem mix_Mix_go (x : Int) {w : World} {K : Value → World → Prop} (h : mix_Mix_m x w K) : Rets Tryz.prog 73 #[.int .u64 x] w K :=
  calls_of_fw plain mixed Tryz.func73 (by kernel_rfl) (by rw [mix_Mix_eq]; exact h)
def mix_Twist_m (x : Int) (w : World) (K : Value → World → Prop) : Prop :=
  ∃ (n1 : Int),
  ∃ (n2 : Int),
  ∃ (n3 : Int),
  ∃ (n4 : Int),
  ∃ (n5 : Int),
  ∃ (n6 : Int),
  (cellAt w (Addr.add { block := (1 : Nat), off := (0 : Nat) } (0 : Nat)) (Value.int IntKind.i64 n1) ∧
  cellAt w (Addr.add { block := (1 : Nat), off := (0 : Nat) } (1 : Nat)) (Value.int IntKind.u64 n2) ∧
  cellAt w (Addr.add { block := (1 : Nat), off := (0 : Nat) } (2 : Nat)) (Value.int IntKind.i64 n3) ∧
  cellAt w (Addr.add { block := (1 : Nat), off := (0 : Nat) } (3 : Nat)) (Value.int IntKind.u64 n4) ∧
  cellAt w (Addr.add { block := (1 : Nat), off := (0 : Nat) } (4 : Nat)) (Value.int IntKind.i64 n5) ∧
  cellAt w (Addr.add { block := (1 : Nat), off := (0 : Nat) } (5 : Nat)) (Value.int IntKind.u64 n6)) ∧
  Rets Tryz.prog (99 : Nat)
  {
  toList :=
  [Value.int IntKind.u64 x,
  Value.agg
  {
  toList :=
  [Value.int IntKind.i64 n1, Value.int IntKind.u64 n2, Value.int IntKind.i64 n3, Value.int IntKind.u64 n4,
  Value.int IntKind.i64 n5, Value.int IntKind.u64 n6] }] }
  w fun (v1 : Value) (w1 : World) => ∃ (n7 : Int), v1 = Value.int IntKind.u64 n7 ∧ K (Value.int IntKind.u64 n7) w1
theorem mix_Twist_eq (x : Int) (w : World) (K : Value → World → Prop) : fw Tryz.prog Tryz.f117 (annL []) (ordL []) [.int .u64 x] w K = mix_Twist_m x w K := by kernel_rfl
theorem mix_Twist_go (x : Int) {w : World} {K : Value → World → Prop} (h : mix_Twist_m x w K) : Rets Tryz.prog 117 #[.int .u64 x] w K :=
  calls_of_fw plain mixed Tryz.func117 (by kernel_rfl) (by rw [mix_Twist_eq]; exact h)
def cortadoref03_Mix_m (x : Int) (w : World) (K : Value → World → Prop) : Prop :=
  Rets Tryz.prog (118 : Nat) { toList := [Value.int IntKind.u64 x, Value.int IntKind.i64 (30 : Int)] } w
  fun (v1 : Value) (w1 : World) =>
  ∃ (n1 : Int),
  v1 = Value.int IntKind.u64 n1 ∧
  Rets Tryz.prog (118 : Nat)
  {
  toList :=
  [Value.int IntKind.u64 (IntKind.wrap IntKind.u64 (n1 * (13787848793156543929 : Int))),
  Value.int IntKind.i64 (27 : Int)] }
  w1 fun (v2 : Value) (w2 : World) =>
  ∃ (n2 : Int),
  v2 = Value.int IntKind.u64 n2 ∧
  Rets Tryz.prog (118 : Nat)
  {
  toList :=
  [Value.int IntKind.u64 (IntKind.wrap IntKind.u64 (n2 * (10723151780598845931 : Int))),
  Value.int IntKind.i64 (31 : Int)] }
  w2 fun (v3 : Value) (w3 : World) => ∃ (n3 : Int), v3 = Value.int IntKind.u64 n3 ∧ K (Value.int IntKind.u64 n3) w3
theorem cortadoref03_Mix_eq (x : Int) (w : World) (K : Value → World → Prop) : fw Tryz.prog Tryz.f93 (annL []) (ordL []) [.int .u64 x] w K = cortadoref03_Mix_m x w K := by kernel_rfl
theorem cortadoref03_Mix_go (x : Int) {w : World} {K : Value → World → Prop} (h : cortadoref03_Mix_m x w K) : Rets Tryz.prog 93 #[.int .u64 x] w K :=
  calls_of_fw plain mixed Tryz.func93 (by kernel_rfl) (by rw [cortadoref03_Mix_eq]; exact h)
def cortadoref03_Twist_m (x : Int) (w : World) (K : Value → World → Prop) : Prop :=
  Rets Tryz.prog (118 : Nat) { toList := [Value.int IntKind.u64 x, Value.int IntKind.i64 (33 : Int)] } w
  fun (v1 : Value) (w1 : World) =>
  ∃ (n1 : Int),
  v1 = Value.int IntKind.u64 n1 ∧
  Rets Tryz.prog (118 : Nat)
  {
  toList :=
  [Value.int IntKind.u64 (IntKind.wrap IntKind.u64 (n1 * (18397679294719823053 : Int))),
  Value.int IntKind.i64 (33 : Int)] }
  w1 fun (v2 : Value) (w2 : World) =>
  ∃ (n2 : Int),
  v2 = Value.int IntKind.u64 n2 ∧
  Rets Tryz.prog (118 : Nat)
  {
  toList :=
  [Value.int IntKind.u64 (IntKind.wrap IntKind.u64 (n2 * (14181476777654086739 : Int))),
  Value.int IntKind.i64 (33 : Int)] }
  w2 fun (v3 : Value) (w3 : World) => ∃ (n3 : Int), v3 = Value.int IntKind.u64 n3 ∧ K (Value.int IntKind.u64 n3) w3
theorem cortadoref03_Twist_eq (x : Int) (w : World) (K : Value → World → Prop) : fw Tryz.prog Tryz.f94 (annL []) (ordL []) [.int .u64 x] w K = cortadoref03_Twist_m x w K := by kernel_rfl
theorem cortadoref03_Twist_go (x : Int) {w : World} {K : Value → World → Prop} (h : cortadoref03_Twist_m x w K) : Rets Tryz.prog 94 #[.int .u64 x] w K :=
  calls_of_fw plain mixed Tryz.func94 (by kernel_rfl) (by rw [cortadoref03_Twist_eq]; exact h)
end Go.Proofs.YtggflkjdgcdcmaaGreatDoor.Eng
