/- What the code of these functions asks for: printed by a program of this session's (gens.py) out of the seat's own functions; the kernel checks each row. -/
import Derived.Test.YtggflkjdgcdcmaaGreatDoorEngH
import Derived.Test.YtggflkjdgcdcmaaGreatDoorProg
import Derived.Test.YtggflkjdgcdcmaaGreatDoorBase
namespace Go.Proofs.YtggflkjdgcdcmaaGreatDoor.Eng
open Go Go.Proofs
set_option linter.unusedVariables false
set_option maxRecDepth 1000000
def clone64_m (q : Option Addr) (l c : Nat) (w : World) (K : Value → World → Prop) : Prop :=
  (Option.isNone q = true → K (Value.slice none (0 : Nat) (0 : Nat)) w) ∧
  (Option.isNone q = false →
  NewR (30 : Nat) [] w fun (a1 : Addr) (w1 : World) =>
  RunR Tryz.prog
  (builtinV Builtin.append { toList := [(87 : Nat), (87 : Nat)] } (nat_lit 87)
  { toList := [Value.slice (some a1) (0 : Nat) (0 : Nat), Value.slice q l c] })
  w1 fun (v1 : Value) (w2 : World) =>
  ∃ (q1 : Option Addr), ∃ (k1 : Nat), ∃ (k2 : Nat), v1 = Value.slice q1 k1 k2 ∧ K (Value.slice q1 k1 k2) w2)
theorem clone64_eq (q : Option Addr) (l c : Nat) (w : World) (K : Value → World → Prop) : fw Tryz.prog Tryz.f111 (annL []) (ordL []) [.slice q l c] w K = clone64_m q l c w K := by kernel_rfl
theorem clone64_go (q : Option Addr) (l c : Nat) {w : World} {K : Value → World → Prop} (h : clone64_m q l c w K) : Rets Tryz.prog 111 #[.slice q l c] w K :=
  calls_of_fw plain mixed Tryz.func111 (by kernel_rfl) (by rw [clone64_eq]; exact h)
def index64_m (q : Option Addr) (l c : Nat) (k : Int) (w : World) (K : Value → World → Prop) : Prop :=
  ∃ (h1 : Nat → List Value → World → Prop),
  (∃ (k1 : Nat), h1 k1 [Value.int IntKind.i64 (0 : Int)] w) ∧
  ∀ (k2 : Nat) (w1 : World) (v1 v2 : Value) (n1 : Int) (v3 v4 v5 v6 v7 v8 v9 v10 v11 v12 : Value),
  h1 k2 [Value.int IntKind.i64 n1] w1 →
  (decide (n1 < (↑l : Int)) = true →
  (0 : Int) ≤ n1 ∧
  n1 < (↑l : Int) ∧
  someR q fun (a1 : Addr) =>
  ∃ (n2 : Int),
  cellAt w1 (Addr.add a1 (Int.toNat n1 * (1 : Nat))) (Value.int IntKind.u64 n2) ∧
  ((k == n2) = true → K (Value.int IntKind.i64 n1) w1) ∧
  ((k == n2) = false →
  ∃ (k3 : Nat), k3 < k2 ∧ h1 k3 [Value.int IntKind.i64 (IntKind.wrap IntKind.i64 (n1 + (1 : Int)))] w1)) ∧
  (decide (n1 < (↑l : Int)) = false → K (Value.int IntKind.i64 (-1 : Int)) w1)
theorem index64_eq (q : Option Addr) (l c : Nat) (k : Int) (w : World) (K : Value → World → Prop) : fw Tryz.prog Tryz.f140 (annL [(1, [(4, none), (5, none), (8, some 3), (9, none), (10, none), (11, none), (12, none), (13, none), (14, none), (15, none), (16, none), (17, none), (18, none)])]) (ordL []) [.slice q l c, .int .u64 k] w K = index64_m q l c k w K := by kernel_rfl
theorem index64_go (q : Option Addr) (l c : Nat) (k : Int) {w : World} {K : Value → World → Prop} (h : index64_m q l c k w K) : Rets Tryz.prog 140 #[.slice q l c, .int .u64 k] w K :=
  calls_of_fw plain mixed Tryz.func140 (by kernel_rfl) (by rw [index64_eq]; exact h)
def contains64_m (q : Option Addr) (l c : Nat) (k : Int) (w : World) (K : Value → World → Prop) : Prop :=
  Rets Tryz.prog (140 : Nat) { toList := [Value.slice q l c, Value.int IntKind.u64 k] } w fun (v1 : Value) (w1 : World) =>
  ∃ (n1 : Int), v1 = Value.int IntKind.i64 n1 ∧ K (Value.bool (decide (n1 ≥ (0 : Int)))) w1
theorem contains64_eq (q : Option Addr) (l c : Nat) (k : Int) (w : World) (K : Value → World → Prop) : fw Tryz.prog Tryz.f130 (annL []) (ordL []) [.slice q l c, .int .u64 k] w K = contains64_m q l c k w K := by kernel_rfl
theorem contains64_go (q : Option Addr) (l c : Nat) (k : Int) {w : World} {K : Value → World → Prop} (h : contains64_m q l c k w K) : Rets Tryz.prog 130 #[.slice q l c, .int .u64 k] w K :=
  calls_of_fw plain mixed Tryz.func130 (by kernel_rfl) (by rw [contains64_eq]; exact h)
def sample_next_m (p : Option Addr) (f : Int) (q : Option Addr) (l c : Nat) (w : World) (K : Value → World → Prop) : Prop :=
  Rets Tryz.prog (17 : Nat) { toList := [Value.pointer p] } w fun (v1 : Value) (w1 : World) =>
  ∃ (n1 : Int),
  v1 = Value.int IntKind.i64 n1 ∧
  ∃ (h1 : Nat → List Value → World → Prop),
  (∃ (k1 : Nat), h1 k1 [Value.int IntKind.i64 (0 : Int)] w1) ∧
  ∀ (k2 : Nat) (w2 : World) (v2 v3 v4 v5 v6 : Value) (n2 : Int)
  (v7 v8 v9 v10 v11 v12 v13 v14 v15 v16 v17 v18 v19 v20 v21 v22 v23 v24 : Value),
  h1 k2 [Value.int IntKind.i64 n2] w2 →
  (decide (n2 < n1) = true →
  n1 ≠ (0 : Int) ∧
  Rets Tryz.prog (129 : Nat)
  { toList := [Value.pointer p, Value.int IntKind.i64 (Int.tmod (IntKind.wrap IntKind.i64 (f + n2)) n1)] } w2
  fun (v25 : Value) (w3 : World) =>
  ∃ (n3 : Int),
  ∃ (b1 : Bool),
  v25 = Value.tuple { toList := [Value.int IntKind.u64 n3, Value.bool b1] } ∧
  Rets Tryz.prog (130 : Nat) { toList := [Value.slice q l c, Value.int IntKind.u64 n3] } w3
  fun (v26 : Value) (w4 : World) =>
  ∃ (b2 : Bool),
  v26 = Value.bool b2 ∧
  ((!b2) = true → K (Value.tuple { toList := [Value.int IntKind.u64 n3, Value.bool true] }) w4) ∧
  ((!b2) = false →
  ∃ (k3 : Nat), k3 < k2 ∧ h1 k3 [Value.int IntKind.i64 (IntKind.wrap IntKind.i64 (n2 + (1 : Int)))] w4)) ∧
  (decide (n2 < n1) = false → K (Value.tuple { toList := [Value.int IntKind.u64 (0 : Int), Value.bool false] }) w2)
theorem sample_next_eq (p : Option Addr) (f : Int) (q : Option Addr) (l c : Nat) (w : World) (K : Value → World → Prop) : fw Tryz.prog Tryz.f112 (annL [(1, [(6, none), (7, none), (9, none), (10, none), (11, none), (15, some 3), (16, none), (17, none), (18, none), (19, none), (20, none), (21, none), (22, none), (23, none), (24, none), (25, none), (26, none), (27, none), (28, none), (29, none), (30, none), (31, none), (32, none), (33, none)])]) (ordL []) [.pointer p, .int .i64 f, .slice q l c] w K = sample_next_m p f q l c w K := by kernel_rfl
theorem sample_next_go (p : Option Addr) (f : Int) (q : Option Addr) (l c : Nat) {w : World} {K : Value → World → Prop} (h : sample_next_m p f q l c w K) : Rets Tryz.prog 112 #[.pointer p, .int .i64 f, .slice q l c] w K :=
  calls_of_fw plain mixed Tryz.func112 (by kernel_rfl) (by rw [sample_next_eq]; exact h)
def sample_Fill_m (p : Option Addr) (q : Option Addr) (l c : Nat) (d : Option Addr) (w : World) (K : Value → World → Prop) : Prop :=
  Rets Tryz.prog (111 : Nat) { toList := [Value.slice q l c] } w fun (v1 : Value) (w1 : World) =>
  ∃ (q1 : Option Addr),
  ∃ (k1 : Nat),
  ∃ (k2 : Nat),
  v1 = Value.slice q1 k1 k2 ∧
  ∃ (h1 : Nat → List Value → World → Prop),
  (∃ (k3 : Nat), h1 k3 [Value.slice q1 k1 k2] w1) ∧
  ∀ (k4 : Nat) (w2 : World) (q2 : Option Addr) (k5 k6 : Nat)
  (v2 v3 v4 v5 v6 v7 v8 v9 v10 v11 v12 v13 v14 v15 v16 v17 v18 v19 v20 v21 v22 v23 v24 v25 v26 v27 v28 v29 v30 : Value),
  h1 k4 [Value.slice q2 k5 k6] w2 →
  (decide ((↑k5 : Int) < (5 : Int)) = true →
  Rets Tryz.prog (112 : Nat) { toList := [Value.pointer p, Value.int IntKind.i64 (0 : Int), Value.slice q2 k5 k6] } w2
  fun (v31 : Value) (w3 : World) =>
  ∃ (n1 : Int),
  ∃ (b1 : Bool),
  v31 = Value.tuple { toList := [Value.int IntKind.u64 n1, Value.bool b1] } ∧
  ((!b1) = true → K (Value.slice q2 k5 k6) w3) ∧
  ((!b1) = false →
  Rets Tryz.prog (17 : Nat) { toList := [Value.pointer p] } w3 fun (v32 : Value) (w4 : World) =>
  ∃ (n2 : Int),
  v32 = Value.int IntKind.i64 n2 ∧
  Rets Tryz.prog (113 : Nat) { toList := [Value.pointer d, Value.int IntKind.i64 n2] } w4
  fun (v33 : Value) (w5 : World) =>
  ∃ (n3 : Int),
  v33 = Value.int IntKind.i64 n3 ∧
  Rets Tryz.prog (112 : Nat) { toList := [Value.pointer p, Value.int IntKind.i64 n3, Value.slice q2 k5 k6] } w5
  fun (v34 : Value) (w6 : World) =>
  ∃ (n4 : Int),
  ∃ (b2 : Bool),
  v34 = Value.tuple { toList := [Value.int IntKind.u64 n4, Value.bool b2] } ∧
  NewR (30 : Nat) [Value.int IntKind.u64 n4] w6 fun (a1 : Addr) (w7 : World) =>
  RunR Tryz.prog
  (builtinV Builtin.append { toList := [(87 : Nat), (87 : Nat)] } (nat_lit 87)
  { toList := [Value.slice q2 k5 k6, Value.slice (some a1) (1 : Nat) (1 : Nat)] })
  w7 fun (v35 : Value) (w8 : World) =>
  ∃ (q3 : Option Addr),
  ∃ (k7 : Nat), ∃ (k8 : Nat), v35 = Value.slice q3 k7 k8 ∧ ∃ (k9 : Nat), k9 < k4 ∧ h1 k9 [Value.slice q3 k7 k8] w8)) ∧
  (decide ((↑k5 : Int) < (5 : Int)) = false → K (Value.slice q2 k5 k6) w2)
theorem sample_Fill_eq (p : Option Addr) (q : Option Addr) (l c : Nat) (d : Option Addr) (w : World) (K : Value → World → Prop) : fw Tryz.prog Tryz.f84 (annL [(1, [(7, some 87), (8, none), (9, none), (10, none), (11, none), (14, none), (15, none), (16, none), (17, none), (18, none), (19, none), (20, none), (21, none), (22, none), (23, none), (24, none), (25, none), (26, none), (27, none), (28, none), (29, none), (30, none), (31, none), (32, none), (33, none), (34, none), (35, none), (36, none), (37, none), (38, none)])]) (ordL []) [.pointer p, .slice q l c, .pointer d] w K = sample_Fill_m p q l c d w K := by kernel_rfl
theorem sample_Fill_go (p : Option Addr) (q : Option Addr) (l c : Nat) (d : Option Addr) {w : World} {K : Value → World → Prop} (h : sample_Fill_m p q l c d w K) : Rets Tryz.prog 84 #[.pointer p, .slice q l c, .pointer d] w K :=
  calls_of_fw plain mixed Tryz.func84 (by kernel_rfl) (by rw [sample_Fill_eq]; exact h)
def sample_Without_m (q : Option Addr) (l c : Nat) (i : Int) (w : World) (K : Value → World → Prop) : Prop :=
  ∃ (h1 : List Value → World → Prop),
  ((decide (i < (0 : Int)) = false → h1 [Value.bool (decide (i ≥ (↑l : Int)))] w) ∧
  (decide (i < (0 : Int)) = true → h1 [Value.bool true] w)) ∧
  ∀ (w1 : World) (v1 v2 v3 v4 v5 v6 v7 : Value) (b1 : Bool),
  h1 [Value.bool b1] w1 →
  (b1 = true → K (Value.slice q l c) w1) ∧
  (b1 = false →
  Rets Tryz.prog (111 : Nat) { toList := [Value.slice q l c] } w1 fun (v8 : Value) (w2 : World) =>
  ∃ (q1 : Option Addr),
  ∃ (k1 : Nat),
  ∃ (k2 : Nat),
  v8 = Value.slice q1 k1 k2 ∧
  (0 : Int) ≤ IntKind.wrap IntKind.i64 ((↑k1 : Int) - (1 : Int)) ∧
  IntKind.wrap IntKind.i64 ((↑k1 : Int) - (1 : Int)) < (↑k1 : Int) ∧
  someR q1 fun (a1 : Addr) =>
  ∃ (n1 : Int),
  cellAt w2 (Addr.add a1 (Int.toNat (IntKind.wrap IntKind.i64 ((↑k1 : Int) - (1 : Int))) * (1 : Nat)))
  (Value.int IntKind.u64 n1) ∧
  (0 : Int) ≤ i ∧
  i < (↑k1 : Int) ∧
  someR q1 fun (a2 : Addr) =>
  StoreR (Addr.add a2 (Int.toNat i * (1 : Nat))) [Value.int IntKind.u64 n1] w2 fun (w3 : World) =>
  (0 : Int) ≤ IntKind.wrap IntKind.i64 ((↑k1 : Int) - (1 : Int)) ∧
  IntKind.wrap IntKind.i64 ((↑k1 : Int) - (1 : Int)) ≤ (↑k2 : Int) ∧
  K
  (Value.slice (slcA q1 (0 : Nat) k2 (1 : Nat))
  (Int.toNat (IntKind.wrap IntKind.i64 ((↑k1 : Int) - (1 : Int))) - (0 : Nat)) (k2 - (0 : Nat)))
  w3)
theorem sample_Without_eq (q : Option Addr) (l c : Nat) (i : Int) (w : World) (K : Value → World → Prop) : fw Tryz.prog Tryz.f86 (annL []) (ordL [(2000001, [(6, 0), (7, 0), (8, 0), (9, 0), (10, 0), (11, 0), (12, 0), (13, 5)])]) [.slice q l c, .int .i64 i] w K = sample_Without_m q l c i w K := by kernel_rfl
theorem sample_Without_go (q : Option Addr) (l c : Nat) (i : Int) {w : World} {K : Value → World → Prop} (h : sample_Without_m q l c i w K) : Rets Tryz.prog 86 #[.slice q l c, .int .i64 i] w K :=
  calls_of_fw plain mixed Tryz.func86 (by kernel_rfl) (by rw [sample_Without_eq]; exact h)
def cortadoref25_Among_m (q : Option Addr) (l c : Nat) (k : Int) (w : World) (K : Value → World → Prop) : Prop :=
  ∃ (h1 : Nat → List Value → World → Prop),
  (∃ (k1 : Nat), h1 k1 [Value.int IntKind.i64 (0 : Int)] w) ∧
  ∀ (k2 : Nat) (w1 : World) (v1 : Value) (n1 : Int) (v2 v3 v4 v5 v6 v7 v8 v9 v10 v11 v12 v13 : Value),
  h1 k2 [Value.int IntKind.i64 n1] w1 →
  (decide (n1 < (↑l : Int)) = true →
  (0 : Int) ≤ n1 ∧
  n1 < (↑l : Int) ∧
  someR q fun (a1 : Addr) =>
  ∃ (n2 : Int),
  cellAt w1 (Addr.add a1 (Int.toNat n1 * (1 : Nat))) (Value.int IntKind.u64 n2) ∧
  ((n2 == k) = true → K (Value.bool true) w1) ∧
  ((n2 == k) = false →
  ∃ (k3 : Nat), k3 < k2 ∧ h1 k3 [Value.int IntKind.i64 (IntKind.wrap IntKind.i64 (n1 + (1 : Int)))] w1)) ∧
  (decide (n1 < (↑l : Int)) = false → K (Value.bool false) w1)
theorem cortadoref25_Among_eq (q : Option Addr) (l c : Nat) (k : Int) (w : World) (K : Value → World → Prop) : fw Tryz.prog Tryz.f126 (annL [(1, [(4, none), (5, some 3), (6, none), (7, none), (8, none), (9, none), (10, none), (11, none), (12, none), (13, none), (14, none), (15, none), (16, none), (17, none)])]) (ordL []) [.slice q l c, .int .u64 k] w K = cortadoref25_Among_m q l c k w K := by kernel_rfl
theorem cortadoref25_Among_go (q : Option Addr) (l c : Nat) (k : Int) {w : World} {K : Value → World → Prop} (h : cortadoref25_Among_m q l c k w K) : Rets Tryz.prog 126 #[.slice q l c, .int .u64 k] w K :=
  calls_of_fw plain mixed Tryz.func126 (by kernel_rfl) (by rw [cortadoref25_Among_eq]; exact h)
def cortadoref25_rest_m (q : Option Addr) (l c : Nat) (m : Int) (q2 : Option Addr) (l2 c2 : Nat) (w : World) (K : Value → World → Prop) : Prop :=
  NewR (41 : Nat) [Value.slice q l c, Value.int IntKind.i64 m] w fun (a1 : Addr) (w1 : World) =>
  ∃ (h1 : Nat → List Value → World → Prop),
  (∃ (k1 : Nat), h1 k1 [Value.int IntKind.i64 (0 : Int), Value.int IntKind.i64 (0 : Int)] w1) ∧
  ∀ (k2 : Nat) (w2 : World) (n1 n2 : Int) (v1 v2 v3 v4 v5 v6 v7 v8 v9 v10 v11 v12 v13 v14 v15 v16 v17 v18 : Value),
  h1 k2 [Value.int IntKind.i64 n1, Value.int IntKind.i64 n2] w2 →
  ∃ (q1 : Option Addr),
  ∃ (k3 : Nat),
  ∃ (k4 : Nat),
  cellAt w2 (Addr.add a1 (0 : Nat)) (Value.slice q1 k3 k4) ∧
  (decide (n2 < (↑k3 : Int)) = true →
  ∃ (q2_1 : Option Addr),
  ∃ (k5 : Nat),
  ∃ (k6 : Nat),
  cellAt w2 (Addr.add a1 (0 : Nat)) (Value.slice q2_1 k5 k6) ∧
  (0 : Int) ≤ n2 ∧
  n2 < (↑k5 : Int) ∧
  someR q2_1 fun (a2 : Addr) =>
  ∃ (n3 : Int),
  cellAt w2 (Addr.add (Addr.add a2 (Int.toNat n2 * (2 : Nat))) (0 : Nat)) (Value.int IntKind.u64 n3) ∧
  Rets Tryz.prog (126 : Nat) { toList := [Value.slice q2 l2 c2, Value.int IntKind.u64 n3] } w2
  fun (v19 : Value) (w3 : World) =>
  ∃ (b1 : Bool),
  v19 = Value.bool b1 ∧
  ∃ (h2 : List Value → World → Prop),
  (((!b1) = true → h2 [Value.int IntKind.i64 (IntKind.wrap IntKind.i64 (n1 + (1 : Int)))] w3) ∧
  ((!b1) = false → h2 [Value.int IntKind.i64 n1] w3)) ∧
  ∀ (w4 : World) (n4 : Int) (v20 v21 : Value),
  h2 [Value.int IntKind.i64 n4] w4 →
  ∃ (k7 : Nat),
  k7 < k2 ∧ h1 k7 [Value.int IntKind.i64 n4, Value.int IntKind.i64 (IntKind.wrap IntKind.i64 (n2 + (1 : Int)))] w4) ∧
  (decide (n2 < (↑k3 : Int)) = false → K (Value.int IntKind.i64 n1) w2)
theorem cortadoref25_rest_eq (q : Option Addr) (l c : Nat) (m : Int) (q2 : Option Addr) (l2 c2 : Nat) (w : World) (K : Value → World → Prop) : fw Tryz.prog Tryz.f124 (annL [(1, [(5, some 3), (6, some 3), (7, none), (8, none), (9, none), (10, none), (11, none), (12, none), (13, none), (14, none), (15, none), (16, none), (17, none), (18, none), (19, none), (20, none), (21, none), (22, none), (23, none), (24, none)]), (4, [(5, some 3), (23, none), (24, none)])]) (ordL []) [.agg #[.slice q l c, .int .i64 m], .slice q2 l2 c2] w K = cortadoref25_rest_m q l c m q2 l2 c2 w K := by kernel_rfl
theorem cortadoref25_rest_go (q : Option Addr) (l c : Nat) (m : Int) (q2 : Option Addr) (l2 c2 : Nat) {w : World} {K : Value → World → Prop} (h : cortadoref25_rest_m q l c m q2 l2 c2 w K) : Rets Tryz.prog 124 #[.agg #[.slice q l c, .int .i64 m], .slice q2 l2 c2] w K :=
  calls_of_fw plain mixed Tryz.func124 (by kernel_rfl) (by rw [cortadoref25_rest_eq]; exact h)
def cortadoref25_Fill_m (q : Option Addr) (l c : Nat) (m : Int) (q2 : Option Addr) (l2 c2 : Nat) (d : Nat) (w : World) (K : Value → World → Prop) : Prop :=
  NewR (41 : Nat) [Value.slice q l c, Value.int IntKind.i64 m] w fun (a1 : Addr) (w1 : World) =>
  NewR (30 : Nat) [] w1 fun (a2 : Addr) (w2 : World) =>
  RunR Tryz.prog
  (builtinV Builtin.append { toList := [(87 : Nat), (87 : Nat)] } (nat_lit 87)
  { toList := [Value.slice (some a2) (0 : Nat) (0 : Nat), Value.slice q2 l2 c2] })
  w2 fun (v1 : Value) (w3 : World) =>
  ∃ (q1 : Option Addr),
  ∃ (k1 : Nat),
  ∃ (k2 : Nat),
  v1 = Value.slice q1 k1 k2 ∧
  ∃ (h1 : Nat → List Value → World → Prop),
  (∃ (k3 : Nat), h1 k3 [Value.slice q1 k1 k2] w3) ∧
  ∀ (k4 : Nat) (w4 : World) (q2 : Option Addr) (k5 k6 : Nat)
  (v2 v3 v4 v5 v6 v7 v8 v9 v10 v11 v12 v13 v14 v15 v16 v17 v18 v19 v20 v21 v22 v23 v24 v25 v26 v27 v28 v29 v30 v31 v32 v33
  v34 v35 v36 v37 v38 v39 v40 : Value),
  h1 k4 [Value.slice q2 k5 k6] w4 →
  ∃ (h2 : List Value → World → Prop),
  ((decide ((↑k5 : Int) < (5 : Int)) = true →
  ∃ (q3 : Option Addr),
  ∃ (k7 : Nat),
  ∃ (k8 : Nat),
  ∃ (n1 : Int),
  (cellAt w4 (Addr.add a1 (0 : Nat)) (Value.slice q3 k7 k8) ∧
  cellAt w4 (Addr.add a1 (1 : Nat)) (Value.int IntKind.i64 n1)) ∧
  Rets Tryz.prog (124 : Nat)
  { toList := [Value.agg { toList := [Value.slice q3 k7 k8, Value.int IntKind.i64 n1] }, Value.slice q2 k5 k6] } w4
  fun (v41 : Value) (w5 : World) =>
  ∃ (n2 : Int), v41 = Value.int IntKind.i64 n2 ∧ h2 [Value.bool (decide (n2 > (0 : Int)))] w5) ∧
  (decide ((↑k5 : Int) < (5 : Int)) = false → h2 [Value.bool false] w4)) ∧
  ∀ (w6 : World) (v42 v43 v44 v45 v46 v47 v48 v49 : Value) (b1 : Bool),
  h2 [Value.bool b1] w6 →
  (b1 = true →
  ∃ (q4 : Option Addr),
  ∃ (k9 : Nat),
  ∃ (k10 : Nat),
  cellAt w6 (Addr.add a1 (0 : Nat)) (Value.slice q4 k9 k10) ∧
  Rets Tryz.prog (125 : Nat)
  { toList := [Value.pointer (some { block := d, off := (0 : Nat) }), Value.int IntKind.i64 (↑k9 : Int)] } w6
  fun (v50 : Value) (w7 : World) =>
  ∃ (n3 : Int),
  v50 = Value.int IntKind.i64 n3 ∧
  ∃ (h3 : Nat → List Value → World → Prop),
  (∃ (k11 : Nat), h3 k11 [Value.int IntKind.i64 n3] w7) ∧
  ∀ (k12 : Nat) (w8 : World) (n4 : Int) (v51 v52 v53 v54 v55 v56 v57 v58 v59 v60 v61 v62 v63 v64 v65 : Value),
  h3 k12 [Value.int IntKind.i64 n4] w8 →
  ∃ (q5 : Option Addr),
  ∃ (k13 : Nat),
  ∃ (k14 : Nat),
  cellAt w8 (Addr.add a1 (0 : Nat)) (Value.slice q5 k13 k14) ∧
  (0 : Int) ≤ n4 ∧
  n4 < (↑k13 : Int) ∧
  someR q5 fun (a3 : Addr) =>
  ∃ (n5 : Int),
  cellAt w8 (Addr.add (Addr.add a3 (Int.toNat n4 * (2 : Nat))) (0 : Nat)) (Value.int IntKind.u64 n5) ∧
  Rets Tryz.prog (126 : Nat) { toList := [Value.slice q2 k5 k6, Value.int IntKind.u64 n5] } w8
  fun (v66 : Value) (w9 : World) =>
  ∃ (b2 : Bool),
  v66 = Value.bool b2 ∧
  (b2 = true →
  ∃ (q6 : Option Addr),
  ∃ (k15 : Nat),
  ∃ (k16 : Nat),
  cellAt w9 (Addr.add a1 (0 : Nat)) (Value.slice q6 k15 k16) ∧
  ∃ (h4 : List Value → World → Prop),
  (((IntKind.wrap IntKind.i64 (n4 + (1 : Int)) == (↑k15 : Int)) = true → h4 [Value.int IntKind.i64 (0 : Int)] w9) ∧
  ((IntKind.wrap IntKind.i64 (n4 + (1 : Int)) == (↑k15 : Int)) = false →
  h4 [Value.int IntKind.i64 (IntKind.wrap IntKind.i64 (n4 + (1 : Int)))] w9)) ∧
  ∀ (w10 : World) (n6 : Int),
  h4 [Value.int IntKind.i64 n6] w10 → ∃ (k17 : Nat), k17 < k12 ∧ h3 k17 [Value.int IntKind.i64 n6] w10) ∧
  (b2 = false →
  ∃ (q7 : Option Addr),
  ∃ (k18 : Nat),
  ∃ (k19 : Nat),
  cellAt w9 (Addr.add a1 (0 : Nat)) (Value.slice q7 k18 k19) ∧
  (0 : Int) ≤ n4 ∧
  n4 < (↑k18 : Int) ∧
  someR q7 fun (a4 : Addr) =>
  ∃ (n7 : Int),
  cellAt w9 (Addr.add (Addr.add a4 (Int.toNat n4 * (2 : Nat))) (0 : Nat)) (Value.int IntKind.u64 n7) ∧
  NewR (30 : Nat) [Value.int IntKind.u64 n7] w9 fun (a5 : Addr) (w11 : World) =>
  RunR Tryz.prog
  (builtinV Builtin.append { toList := [(87 : Nat), (87 : Nat)] } (nat_lit 87)
  { toList := [Value.slice q2 k5 k6, Value.slice (some a5) (1 : Nat) (1 : Nat)] })
  w11 fun (v67 : Value) (w12 : World) =>
  ∃ (q8 : Option Addr),
  ∃ (k20 : Nat),
  ∃ (k21 : Nat), v67 = Value.slice q8 k20 k21 ∧ ∃ (k22 : Nat), k22 < k4 ∧ h1 k22 [Value.slice q8 k20 k21] w12)) ∧
  (b1 = false → K (Value.slice q2 k5 k6) w6)
theorem cortadoref25_Fill_eq (q : Option Addr) (l c : Nat) (m : Int) (q2 : Option Addr) (l2 c2 : Nat) (d : Nat) (w : World) (K : Value → World → Prop) : fw Tryz.prog Tryz.f102 (annL [(1, [(7, some 87), (8, none), (12, none), (13, none), (14, none), (15, none), (16, none), (17, none), (18, none), (19, none), (20, none), (21, none), (22, none), (23, none), (24, none), (25, none), (26, none), (27, none), (28, none), (29, none), (30, none), (31, none), (32, none), (33, none), (34, none), (35, none), (36, none), (37, none), (38, none), (39, none), (40, none), (41, none), (42, none), (43, none), (44, none), (45, none), (46, none), (47, none), (48, none), (49, none)]), (5, [(8, some 3), (26, none), (27, none), (28, none), (29, none), (30, none), (31, none), (32, none), (33, none), (34, none), (35, none), (36, none), (37, none), (38, none), (39, none), (40, none)]), (8, [(8, some 3)])]) (ordL [(2000002, [(12, 0), (13, 0), (14, 0), (15, 0), (16, 0), (17, 0), (18, 0), (19, 0), (20, 5)])]) [.agg #[.slice q l c, .int .i64 m], .slice q2 l2 c2, .pointer (some ⟨d, 0, none⟩)] w K = cortadoref25_Fill_m q l c m q2 l2 c2 d w K := by kernel_rfl
theorem cortadoref25_Fill_go (q : Option Addr) (l c : Nat) (m : Int) (q2 : Option Addr) (l2 c2 : Nat) (d : Nat) {w : World} {K : Value → World → Prop} (h : cortadoref25_Fill_m q l c m q2 l2 c2 d w K) : Rets Tryz.prog 102 #[.agg #[.slice q l c, .int .i64 m], .slice q2 l2 c2, .pointer (some ⟨d, 0, none⟩)] w K :=
  calls_of_fw plain mixed Tryz.func102 (by kernel_rfl) (by rw [cortadoref25_Fill_eq]; exact h)
def cortadoref25_Least_m (q : Option Addr) (l c : Nat) (w : World) (K : Value → World → Prop) : Prop :=
  ∃ (h1 : Nat → List Value → World → Prop),
  (∃ (k1 : Nat), h1 k1 [Value.int IntKind.i64 (0 : Int), Value.int IntKind.i64 (0 : Int)] w) ∧
  ∀ (k2 : Nat) (w1 : World) (n1 n2 : Int) (v1 v2 v3 v4 v5 v6 v7 v8 v9 v10 v11 v12 v13 v14 v15 v16 : Value),
  h1 k2 [Value.int IntKind.i64 n1, Value.int IntKind.i64 n2] w1 →
  (decide (n2 < (↑l : Int)) = true →
  Drw w1 fun (w2 : World) =>
  (0 : Int) ≤ n2 ∧
  n2 < (↑l : Int) ∧
  someR q fun (a1 : Addr) =>
  (0 : Int) ≤ n1 ∧
  n1 < (↑l : Int) ∧
  someR q fun (a2 : Addr) =>
  ∃ (n3 : Int),
  cellAt w2 (Addr.add a1 (Int.toNat n2 * (1 : Nat))) (Value.int IntKind.i64 n3) ∧
  ∃ (n4 : Int),
  cellAt w2 (Addr.add a2 (Int.toNat n1 * (1 : Nat))) (Value.int IntKind.i64 n4) ∧
  ∃ (h2 : List Value → World → Prop),
  ((decide (n3 < n4) = true → h2 [Value.int IntKind.i64 n2] w2) ∧
  (decide (n3 < n4) = false → h2 [Value.int IntKind.i64 n1] w2)) ∧
  ∀ (w3 : World) (n5 : Int) (v17 : Value),
  h2 [Value.int IntKind.i64 n5] w3 →
  ∃ (k3 : Nat),
  k3 < k2 ∧ h1 k3 [Value.int IntKind.i64 n5, Value.int IntKind.i64 (IntKind.wrap IntKind.i64 (n2 + (1 : Int)))] w3) ∧
  (decide (n2 < (↑l : Int)) = false →
  (((↑l : Int) == (0 : Int)) = true →
  K (Value.tuple { toList := [Value.int IntKind.i64 (0 : Int), Value.int IntKind.i64 (0 : Int), Value.bool false] }) w1) ∧
  (((↑l : Int) == (0 : Int)) = false →
  Drw w1 fun (w4 : World) =>
  (0 : Int) ≤ n1 ∧
  n1 < (↑l : Int) ∧
  someR q fun (a3 : Addr) =>
  ∃ (n6 : Int),
  cellAt w4 (Addr.add a3 (Int.toNat n1 * (1 : Nat))) (Value.int IntKind.i64 n6) ∧
  K (Value.tuple { toList := [Value.int IntKind.i64 n1, Value.int IntKind.i64 n6, Value.bool true] }) w4))
theorem cortadoref25_Least_eq (q : Option Addr) (l c : Nat) (w : World) (K : Value → World → Prop) : fw Tryz.prog Tryz.f103 (annL [(1, [(5, some 3), (6, some 3), (7, none), (8, none), (9, none), (10, none), (11, none), (12, none), (13, none), (14, none), (15, none), (16, none), (17, none), (18, none), (19, none), (20, none), (21, none), (22, none)]), (4, [(5, some 3), (22, none)])]) (ordL [(5, [(0, 0), (1, 0), (2, 0), (4, 0), (5, 0), (6, 0), (3, 1), (7, 1), (8, 0)]), (9, [(0, 0), (1, 0), (2, 0), (3, 0), (5, 0), (4, 1), (6, 0), (7, 0)])]) [.slice q l c] w K = cortadoref25_Least_m q l c w K := by kernel_rfl
theorem cortadoref25_Least_go (q : Option Addr) (l c : Nat) {w : World} {K : Value → World → Prop} (h : cortadoref25_Least_m q l c w K) : Rets Tryz.prog 103 #[.slice q l c] w K :=
  calls_of_fw plain mixed Tryz.func103 (by kernel_rfl) (by rw [cortadoref25_Least_eq]; exact h)
def cortadoref25_Without_m (q : Option Addr) (l c : Nat) (i : Int) (w : World) (K : Value → World → Prop) : Prop :=
  ∃ (h1 : List Value → World → Prop),
  ((decide (i < (0 : Int)) = false → h1 [Value.bool (decide (i ≥ (↑l : Int)))] w) ∧
  (decide (i < (0 : Int)) = true → h1 [Value.bool true] w)) ∧
  ∀ (w1 : World) (v1 v2 v3 v4 v5 v6 v7 : Value) (b1 : Bool),
  h1 [Value.bool b1] w1 →
  (b1 = true → K (Value.slice q l c) w1) ∧
  (b1 = false →
  ∃ (h2 : Nat → List Value → World → Prop),
  (∃ (k1 : Nat), h2 k1 [Value.slice none (0 : Nat) (0 : Nat), Value.int IntKind.i64 (0 : Int)] w1) ∧
  ∀ (k2 : Nat) (w2 : World) (q1 : Option Addr) (k3 k4 : Nat) (n1 : Int)
  (v8 v9 v10 v11 v12 v13 v14 v15 v16 v17 v18 v19 v20 v21 v22 v23 v24 v25 v26 v27 v28 v29 v30 v31 v32 v33 : Value),
  h2 k2 [Value.slice q1 k3 k4, Value.int IntKind.i64 n1] w2 →
  (decide (n1 < IntKind.wrap IntKind.i64 ((↑l : Int) - (1 : Int))) = true →
  ∃ (h3 : List Value → World → Prop),
  (((n1 == i) = true →
  (0 : Int) ≤ IntKind.wrap IntKind.i64 ((↑l : Int) - (1 : Int)) ∧
  IntKind.wrap IntKind.i64 ((↑l : Int) - (1 : Int)) < (↑l : Int) ∧
  someR q fun (a1 : Addr) =>
  ∃ (n2 : Int),
  cellAt w2 (Addr.add a1 (Int.toNat (IntKind.wrap IntKind.i64 ((↑l : Int) - (1 : Int))) * (1 : Nat)))
  (Value.int IntKind.u64 n2) ∧
  NewR (30 : Nat) [Value.int IntKind.u64 n2] w2 fun (a2 : Addr) (w3 : World) =>
  RunR Tryz.prog
  (builtinV Builtin.append { toList := [(87 : Nat), (87 : Nat)] } (nat_lit 87)
  { toList := [Value.slice q1 k3 k4, Value.slice (some a2) (1 : Nat) (1 : Nat)] })
  w3 fun (v34 : Value) (w4 : World) =>
  ∃ (q2 : Option Addr), ∃ (k5 : Nat), ∃ (k6 : Nat), v34 = Value.slice q2 k5 k6 ∧ h3 [Value.slice q2 k5 k6] w4) ∧
  ((n1 == i) = false →
  (0 : Int) ≤ n1 ∧
  n1 < (↑l : Int) ∧
  someR q fun (a3 : Addr) =>
  ∃ (n3 : Int),
  cellAt w2 (Addr.add a3 (Int.toNat n1 * (1 : Nat))) (Value.int IntKind.u64 n3) ∧
  NewR (30 : Nat) [Value.int IntKind.u64 n3] w2 fun (a4 : Addr) (w5 : World) =>
  RunR Tryz.prog
  (builtinV Builtin.append { toList := [(87 : Nat), (87 : Nat)] } (nat_lit 87)
  { toList := [Value.slice q1 k3 k4, Value.slice (some a4) (1 : Nat) (1 : Nat)] })
  w5 fun (v35 : Value) (w6 : World) =>
  ∃ (q3 : Option Addr), ∃ (k7 : Nat), ∃ (k8 : Nat), v35 = Value.slice q3 k7 k8 ∧ h3 [Value.slice q3 k7 k8] w6)) ∧
  ∀ (w7 : World) (q4 : Option Addr) (k9 k10 : Nat)
  (v36 v37 v38 v39 v40 v41 v42 v43 v44 v45 v46 v47 v48 v49 v50 v51 : Value),
  h3 [Value.slice q4 k9 k10] w7 →
  ∃ (k11 : Nat),
  k11 < k2 ∧ h2 k11 [Value.slice q4 k9 k10, Value.int IntKind.i64 (IntKind.wrap IntKind.i64 (n1 + (1 : Int)))] w7) ∧
  (decide (n1 < IntKind.wrap IntKind.i64 ((↑l : Int) - (1 : Int))) = false → K (Value.slice q1 k3 k4) w2))
theorem cortadoref25_Without_eq (q : Option Addr) (l c : Nat) (i : Int) (w : World) (K : Value → World → Prop) : fw Tryz.prog Tryz.f104 (annL [(2, [(5, some 87), (6, some 3), (16, none), (17, none), (18, none), (19, none), (20, none), (21, none), (22, none), (23, none), (24, none), (25, none), (26, none), (27, none), (28, none), (29, none), (30, none), (31, none), (32, none), (33, none), (34, none), (35, none), (36, none), (37, none), (38, none), (39, none), (40, none), (41, none)]), (5, [(5, some 87), (26, none), (27, none), (28, none), (29, none), (30, none), (31, none), (32, none), (33, none), (34, none), (35, none), (36, none), (37, none), (38, none), (39, none), (40, none), (41, none)])]) (ordL [(2000001, [(7, 0), (8, 0), (9, 0), (10, 0), (11, 0), (12, 0), (13, 0), (14, 5)])]) [.slice q l c, .int .i64 i] w K = cortadoref25_Without_m q l c i w K := by kernel_rfl
theorem cortadoref25_Without_go (q : Option Addr) (l c : Nat) (i : Int) {w : World} {K : Value → World → Prop} (h : cortadoref25_Without_m q l c i w K) : Rets Tryz.prog 104 #[.slice q l c, .int .i64 i] w K :=
  calls_of_fw plain mixed Tryz.func104 (by kernel_rfl) (by rw [cortadoref25_Without_eq]; exact h)
end Go.Proofs.YtggflkjdgcdcmaaGreatDoor.Eng
