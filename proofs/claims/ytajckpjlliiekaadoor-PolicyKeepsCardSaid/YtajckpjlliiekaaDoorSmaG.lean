/- What the code of these functions asks for: printed by a program of this session's (gens.py) out of the seat's own functions; the kernel checks each row. -/
import Derived.Test.YtajckpjlliiekaaDoorEngH
import Derived.Test.YtajckpjlliiekaaDoorProg
import Derived.Test.YtajckpjlliiekaaDoorBase
namespace Go.Proofs.YtajckpjlliiekaaDoor.Eng
open Go Go.Proofs
set_option linter.unusedVariables false
set_option maxRecDepth 1000000
def clone64_m (q : Option Addr) (l c : Nat) (w : World) (K : Value → World → Prop) : Prop :=
  (Option.isNone q = true → K (Value.slice none (0 : Nat) (0 : Nat)) w) ∧
  (Option.isNone q = false →
  NewR (32 : Nat) [] w fun (a1 : Addr) (w1 : World) =>
  RunR Tryd.prog
  (builtinV Builtin.append { toList := [(22 : Nat), (22 : Nat)] } (nat_lit 22)
  { toList := [Value.slice (some a1) (0 : Nat) (0 : Nat), Value.slice q l c] })
  w1 fun (v1 : Value) (w2 : World) =>
  ∃ (q1 : Option Addr), ∃ (k1 : Nat), ∃ (k2 : Nat), v1 = Value.slice q1 k1 k2 ∧ K (Value.slice q1 k1 k2) w2)
theorem clone64_eq (q : Option Addr) (l c : Nat) (w : World) (K : Value → World → Prop) : fw Tryd.prog Tryd.f43 (annL []) (ordL []) [.slice q l c] w K = clone64_m q l c w K := by kernel_rfl
theorem clone64_go (q : Option Addr) (l c : Nat) {w : World} {K : Value → World → Prop} (h : clone64_m q l c w K) : Rets Tryd.prog 43 #[.slice q l c] w K :=
  calls_of_fw plain mixed Tryd.func43 (by kernel_rfl) (by rw [clone64_eq]; exact h)
def index64_m (q : Option Addr) (l c : Nat) (k : Int) (w : World) (K : Value → World → Prop) : Prop :=
  ∃ (h1 : Nat → List Value → World → Prop),
  (∃ (k1 : Nat), h1 k1 [Value.int IntKind.i64 (0 : Int)] w) ∧
  ∀ (k2 : Nat) (w1 : World) (v1 v2 : Value) (n1 : Int) (v3 v4 v5 v6 v7 v8 v9 v10 v11 v12 : Value),
  h1 k2 [Value.int IntKind.i64 n1] w1 →
  (decide (n1 < (↑l : Int)) = true →
  (0 : Int) ≤ n1 ∧
  n1 < (↑l : Int) ∧
  someR q fun (a1 : Addr) =>
  ∃ (n2 : Int),
  cellAt w1 (Addr.add a1 (Int.toNat n1 * (1 : Nat))) (Value.int IntKind.u64 n2) ∧
  ((k == n2) = true → K (Value.int IntKind.i64 n1) w1) ∧
  ((k == n2) = false →
  ∃ (k3 : Nat), k3 < k2 ∧ h1 k3 [Value.int IntKind.i64 (IntKind.wrap IntKind.i64 (n1 + (1 : Int)))] w1)) ∧
  (decide (n1 < (↑l : Int)) = false → K (Value.int IntKind.i64 (-1 : Int)) w1)
theorem index64_eq (q : Option Addr) (l c : Nat) (k : Int) (w : World) (K : Value → World → Prop) : fw Tryd.prog Tryd.f86 (annL [(1, [(4, none), (5, none), (8, some 3), (9, none), (10, none), (11, none), (12, none), (13, none), (14, none), (15, none), (16, none), (17, none), (18, none)])]) (ordL []) [.slice q l c, .int .u64 k] w K = index64_m q l c k w K := by kernel_rfl
theorem index64_go (q : Option Addr) (l c : Nat) (k : Int) {w : World} {K : Value → World → Prop} (h : index64_m q l c k w K) : Rets Tryd.prog 86 #[.slice q l c, .int .u64 k] w K :=
  calls_of_fw plain mixed Tryd.func86 (by kernel_rfl) (by rw [index64_eq]; exact h)
def contains64_m (q : Option Addr) (l c : Nat) (k : Int) (w : World) (K : Value → World → Prop) : Prop :=
  Rets Tryd.prog (86 : Nat) { toList := [Value.slice q l c, Value.int IntKind.u64 k] } w fun (v1 : Value) (w1 : World) =>
  ∃ (n1 : Int), v1 = Value.int IntKind.i64 n1 ∧ K (Value.bool (decide (n1 ≥ (0 : Int)))) w1
theorem contains64_eq (q : Option Addr) (l c : Nat) (k : Int) (w : World) (K : Value → World → Prop) : fw Tryd.prog Tryd.f67 (annL []) (ordL []) [.slice q l c, .int .u64 k] w K = contains64_m q l c k w K := by kernel_rfl
theorem contains64_go (q : Option Addr) (l c : Nat) (k : Int) {w : World} {K : Value → World → Prop} (h : contains64_m q l c k w K) : Rets Tryd.prog 67 #[.slice q l c, .int .u64 k] w K :=
  calls_of_fw plain mixed Tryd.func67 (by kernel_rfl) (by rw [contains64_eq]; exact h)
def sample_next_m (p : Option Addr) (f : Int) (q : Option Addr) (l c : Nat) (w : World) (K : Value → World → Prop) : Prop :=
  Rets Tryd.prog (28 : Nat) { toList := [Value.pointer p] } w fun (v1 : Value) (w1 : World) =>
  ∃ (n1 : Int),
  v1 = Value.int IntKind.i64 n1 ∧
  ∃ (h1 : Nat → List Value → World → Prop),
  (∃ (k1 : Nat), h1 k1 [Value.int IntKind.i64 (0 : Int)] w1) ∧
  ∀ (k2 : Nat) (w2 : World) (v2 v3 v4 v5 v6 : Value) (n2 : Int)
  (v7 v8 v9 v10 v11 v12 v13 v14 v15 v16 v17 v18 v19 v20 v21 v22 v23 v24 : Value),
  h1 k2 [Value.int IntKind.i64 n2] w2 →
  (decide (n2 < n1) = true →
  n1 ≠ (0 : Int) ∧
  Rets Tryd.prog (66 : Nat)
  { toList := [Value.pointer p, Value.int IntKind.i64 (Int.tmod (IntKind.wrap IntKind.i64 (f + n2)) n1)] } w2
  fun (v25 : Value) (w3 : World) =>
  ∃ (n3 : Int),
  ∃ (b1 : Bool),
  v25 = Value.tuple { toList := [Value.int IntKind.u64 n3, Value.bool b1] } ∧
  Rets Tryd.prog (67 : Nat) { toList := [Value.slice q l c, Value.int IntKind.u64 n3] } w3
  fun (v26 : Value) (w4 : World) =>
  ∃ (b2 : Bool),
  v26 = Value.bool b2 ∧
  ((!b2) = true → K (Value.tuple { toList := [Value.int IntKind.u64 n3, Value.bool true] }) w4) ∧
  ((!b2) = false →
  ∃ (k3 : Nat), k3 < k2 ∧ h1 k3 [Value.int IntKind.i64 (IntKind.wrap IntKind.i64 (n2 + (1 : Int)))] w4)) ∧
  (decide (n2 < n1) = false → K (Value.tuple { toList := [Value.int IntKind.u64 (0 : Int), Value.bool false] }) w2)
theorem sample_next_eq (p : Option Addr) (f : Int) (q : Option Addr) (l c : Nat) (w : World) (K : Value → World → Prop) : fw Tryd.prog Tryd.f44 (annL [(1, [(6, none), (7, none), (9, none), (10, none), (11, none), (15, some 3), (16, none), (17, none), (18, none), (19, none), (20, none), (21, none), (22, none), (23, none), (24, none), (25, none), (26, none), (27, none), (28, none), (29, none), (30, none), (31, none), (32, none), (33, none)])]) (ordL []) [.pointer p, .int .i64 f, .slice q l c] w K = sample_next_m p f q l c w K := by kernel_rfl
theorem sample_next_go (p : Option Addr) (f : Int) (q : Option Addr) (l c : Nat) {w : World} {K : Value → World → Prop} (h : sample_next_m p f q l c w K) : Rets Tryd.prog 44 #[.pointer p, .int .i64 f, .slice q l c] w K :=
  calls_of_fw plain mixed Tryd.func44 (by kernel_rfl) (by rw [sample_next_eq]; exact h)
def sample_Fill_m (p : Option Addr) (q : Option Addr) (l c : Nat) (d : Option Addr) (w : World) (K : Value → World → Prop) : Prop :=
  Rets Tryd.prog (43 : Nat) { toList := [Value.slice q l c] } w fun (v1 : Value) (w1 : World) =>
  ∃ (q1 : Option Addr),
  ∃ (k1 : Nat),
  ∃ (k2 : Nat),
  v1 = Value.slice q1 k1 k2 ∧
  ∃ (h1 : Nat → List Value → World → Prop),
  (∃ (k3 : Nat), h1 k3 [Value.slice q1 k1 k2] w1) ∧
  ∀ (k4 : Nat) (w2 : World) (q2 : Option Addr) (k5 k6 : Nat)
  (v2 v3 v4 v5 v6 v7 v8 v9 v10 v11 v12 v13 v14 v15 v16 v17 v18 v19 v20 v21 v22 v23 v24 v25 v26 v27 v28 v29 v30 : Value),
  h1 k4 [Value.slice q2 k5 k6] w2 →
  (decide ((↑k5 : Int) < (5 : Int)) = true →
  Rets Tryd.prog (44 : Nat) { toList := [Value.pointer p, Value.int IntKind.i64 (0 : Int), Value.slice q2 k5 k6] } w2
  fun (v31 : Value) (w3 : World) =>
  ∃ (n1 : Int),
  ∃ (b1 : Bool),
  v31 = Value.tuple { toList := [Value.int IntKind.u64 n1, Value.bool b1] } ∧
  ((!b1) = true → K (Value.slice q2 k5 k6) w3) ∧
  ((!b1) = false →
  Rets Tryd.prog (28 : Nat) { toList := [Value.pointer p] } w3 fun (v32 : Value) (w4 : World) =>
  ∃ (n2 : Int),
  v32 = Value.int IntKind.i64 n2 ∧
  Rets Tryd.prog (45 : Nat) { toList := [Value.pointer d, Value.int IntKind.i64 n2] } w4 fun (v33 : Value) (w5 : World) =>
  ∃ (n3 : Int),
  v33 = Value.int IntKind.i64 n3 ∧
  Rets Tryd.prog (44 : Nat) { toList := [Value.pointer p, Value.int IntKind.i64 n3, Value.slice q2 k5 k6] } w5
  fun (v34 : Value) (w6 : World) =>
  ∃ (n4 : Int),
  ∃ (b2 : Bool),
  v34 = Value.tuple { toList := [Value.int IntKind.u64 n4, Value.bool b2] } ∧
  NewR (32 : Nat) [Value.int IntKind.u64 n4] w6 fun (a1 : Addr) (w7 : World) =>
  RunR Tryd.prog
  (builtinV Builtin.append { toList := [(22 : Nat), (22 : Nat)] } (nat_lit 22)
  { toList := [Value.slice q2 k5 k6, Value.slice (some a1) (1 : Nat) (1 : Nat)] })
  w7 fun (v35 : Value) (w8 : World) =>
  ∃ (q3 : Option Addr),
  ∃ (k7 : Nat), ∃ (k8 : Nat), v35 = Value.slice q3 k7 k8 ∧ ∃ (k9 : Nat), k9 < k4 ∧ h1 k9 [Value.slice q3 k7 k8] w8)) ∧
  (decide ((↑k5 : Int) < (5 : Int)) = false → K (Value.slice q2 k5 k6) w2)
theorem sample_Fill_eq (p : Option Addr) (q : Option Addr) (l c : Nat) (d : Option Addr) (w : World) (K : Value → World → Prop) : fw Tryd.prog Tryd.f10 (annL [(1, [(7, some 22), (8, none), (9, none), (10, none), (11, none), (14, none), (15, none), (16, none), (17, none), (18, none), (19, none), (20, none), (21, none), (22, none), (23, none), (24, none), (25, none), (26, none), (27, none), (28, none), (29, none), (30, none), (31, none), (32, none), (33, none), (34, none), (35, none), (36, none), (37, none), (38, none)])]) (ordL []) [.pointer p, .slice q l c, .pointer d] w K = sample_Fill_m p q l c d w K := by kernel_rfl
theorem sample_Fill_go (p : Option Addr) (q : Option Addr) (l c : Nat) (d : Option Addr) {w : World} {K : Value → World → Prop} (h : sample_Fill_m p q l c d w K) : Rets Tryd.prog 10 #[.pointer p, .slice q l c, .pointer d] w K :=
  calls_of_fw plain mixed Tryd.func10 (by kernel_rfl) (by rw [sample_Fill_eq]; exact h)
def sample_Without_m (q : Option Addr) (l c : Nat) (i : Int) (w : World) (K : Value → World → Prop) : Prop :=
  ∃ (h1 : List Value → World → Prop),
  ((decide (i < (0 : Int)) = false → h1 [Value.bool (decide (i ≥ (↑l : Int)))] w) ∧
  (decide (i < (0 : Int)) = true → h1 [Value.bool true] w)) ∧
  ∀ (w1 : World) (v1 v2 v3 v4 v5 v6 v7 : Value) (b1 : Bool),
  h1 [Value.bool b1] w1 →
  (b1 = true → K (Value.slice q l c) w1) ∧
  (b1 = false →
  Rets Tryd.prog (43 : Nat) { toList := [Value.slice q l c] } w1 fun (v8 : Value) (w2 : World) =>
  ∃ (q1 : Option Addr),
  ∃ (k1 : Nat),
  ∃ (k2 : Nat),
  v8 = Value.slice q1 k1 k2 ∧
  (0 : Int) ≤ IntKind.wrap IntKind.i64 ((↑k1 : Int) - (1 : Int)) ∧
  IntKind.wrap IntKind.i64 ((↑k1 : Int) - (1 : Int)) < (↑k1 : Int) ∧
  someR q1 fun (a1 : Addr) =>
  ∃ (n1 : Int),
  cellAt w2 (Addr.add a1 (Int.toNat (IntKind.wrap IntKind.i64 ((↑k1 : Int) - (1 : Int))) * (1 : Nat)))
  (Value.int IntKind.u64 n1) ∧
  (0 : Int) ≤ i ∧
  i < (↑k1 : Int) ∧
  someR q1 fun (a2 : Addr) =>
  StoreR (Addr.add a2 (Int.toNat i * (1 : Nat))) [Value.int IntKind.u64 n1] w2 fun (w3 : World) =>
  (0 : Int) ≤ IntKind.wrap IntKind.i64 ((↑k1 : Int) - (1 : Int)) ∧
  IntKind.wrap IntKind.i64 ((↑k1 : Int) - (1 : Int)) ≤ (↑k2 : Int) ∧
  K
  (Value.slice (slcA q1 (0 : Nat) k2 (1 : Nat))
  (Int.toNat (IntKind.wrap IntKind.i64 ((↑k1 : Int) - (1 : Int))) - (0 : Nat)) (k2 - (0 : Nat)))
  w3)
theorem sample_Without_eq (q : Option Addr) (l c : Nat) (i : Int) (w : World) (K : Value → World → Prop) : fw Tryd.prog Tryd.f20 (annL []) (ordL [(2000001, [(6, 0), (7, 0), (8, 0), (9, 0), (10, 0), (11, 0), (12, 0), (13, 5)])]) [.slice q l c, .int .i64 i] w K = sample_Without_m q l c i w K := by kernel_rfl
theorem sample_Without_go (q : Option Addr) (l c : Nat) (i : Int) {w : World} {K : Value → World → Prop} (h : sample_Without_m q l c i w K) : Rets Tryd.prog 20 #[.slice q l c, .int .i64 i] w K :=
  calls_of_fw plain mixed Tryd.func20 (by kernel_rfl) (by rw [sample_Without_eq]; exact h)
def cortadoref25_Among_m (q : Option Addr) (l c : Nat) (k : Int) (w : World) (K : Value → World → Prop) : Prop :=
  ∃ (h1 : Nat → List Value → World → Prop),
  (∃ (k1 : Nat), h1 k1 [Value.int IntKind.i64 (0 : Int)] w) ∧
  ∀ (k2 : Nat) (w1 : World) (v1 : Value) (n1 : Int) (v2 v3 v4 v5 v6 v7 v8 v9 v10 v11 v12 v13 : Value),
  h1 k2 [Value.int IntKind.i64 n1] w1 →
  (decide (n1 < (↑l : Int)) = true →
  (0 : Int) ≤ n1 ∧
  n1 < (↑l : Int) ∧
  someR q fun (a1 : Addr) =>
  ∃ (n2 : Int),
  cellAt w1 (Addr.add a1 (Int.toNat n1 * (1 : Nat))) (Value.int IntKind.u64 n2) ∧
  ((n2 == k) = true → K (Value.bool true) w1) ∧
  ((n2 == k) = false →
  ∃ (k3 : Nat), k3 < k2 ∧ h1 k3 [Value.int IntKind.i64 (IntKind.wrap IntKind.i64 (n1 + (1 : Int)))] w1)) ∧
  (decide (n1 < (↑l : Int)) = false → K (Value.bool false) w1)
theorem cortadoref25_Among_eq (q : Option Addr) (l c : Nat) (k : Int) (w : World) (K : Value → World → Prop) : fw Tryd.prog Tryd.f13 (annL [(1, [(4, none), (5, some 3), (6, none), (7, none), (8, none), (9, none), (10, none), (11, none), (12, none), (13, none), (14, none), (15, none), (16, none), (17, none)])]) (ordL []) [.slice q l c, .int .u64 k] w K = cortadoref25_Among_m q l c k w K := by kernel_rfl
theorem cortadoref25_Among_go (q : Option Addr) (l c : Nat) (k : Int) {w : World} {K : Value → World → Prop} (h : cortadoref25_Among_m q l c k w K) : Rets Tryd.prog 13 #[.slice q l c, .int .u64 k] w K :=
  calls_of_fw plain mixed Tryd.func13 (by kernel_rfl) (by rw [cortadoref25_Among_eq]; exact h)
def cortadoref25_rest_m (q : Option Addr) (l c : Nat) (m : Int) (q2 : Option Addr) (l2 c2 : Nat) (w : World) (K : Value → World → Prop) : Prop :=
  NewR (29 : Nat) [Value.slice q l c, Value.int IntKind.i64 m] w fun (a1 : Addr) (w1 : World) =>
  ∃ (h1 : Nat → List Value → World → Prop),
  (∃ (k1 : Nat), h1 k1 [Value.int IntKind.i64 (0 : Int), Value.int IntKind.i64 (0 : Int)] w1) ∧
  ∀ (k2 : Nat) (w2 : World) (n1 n2 : Int) (v1 v2 v3 v4 v5 v6 v7 v8 v9 v10 v11 v12 v13 v14 v15 v16 v17 v18 : Value),
  h1 k2 [Value.int IntKind.i64 n1, Value.int IntKind.i64 n2] w2 →
  ∃ (q1 : Option Addr),
  ∃ (k3 : Nat),
  ∃ (k4 : Nat),
  cellAt w2 (Addr.add a1 (0 : Nat)) (Value.slice q1 k3 k4) ∧
  (decide (n2 < (↑k3 : Int)) = true →
  ∃ (q2_1 : Option Addr),
  ∃ (k5 : Nat),
  ∃ (k6 : Nat),
  cellAt w2 (Addr.add a1 (0 : Nat)) (Value.slice q2_1 k5 k6) ∧
  (0 : Int) ≤ n2 ∧
  n2 < (↑k5 : Int) ∧
  someR q2_1 fun (a2 : Addr) =>
  ∃ (n3 : Int),
  cellAt w2 (Addr.add (Addr.add a2 (Int.toNat n2 * (2 : Nat))) (0 : Nat)) (Value.int IntKind.u64 n3) ∧
  Rets Tryd.prog (13 : Nat) { toList := [Value.slice q2 l2 c2, Value.int IntKind.u64 n3] } w2
  fun (v19 : Value) (w3 : World) =>
  ∃ (b1 : Bool),
  v19 = Value.bool b1 ∧
  ∃ (h2 : List Value → World → Prop),
  (((!b1) = true → h2 [Value.int IntKind.i64 (IntKind.wrap IntKind.i64 (n1 + (1 : Int)))] w3) ∧
  ((!b1) = false → h2 [Value.int IntKind.i64 n1] w3)) ∧
  ∀ (w4 : World) (n4 : Int) (v20 v21 : Value),
  h2 [Value.int IntKind.i64 n4] w4 →
  ∃ (k7 : Nat),
  k7 < k2 ∧ h1 k7 [Value.int IntKind.i64 n4, Value.int IntKind.i64 (IntKind.wrap IntKind.i64 (n2 + (1 : Int)))] w4) ∧
  (decide (n2 < (↑k3 : Int)) = false → K (Value.int IntKind.i64 n1) w2)
theorem cortadoref25_rest_eq (q : Option Addr) (l c : Nat) (m : Int) (q2 : Option Addr) (l2 c2 : Nat) (w : World) (K : Value → World → Prop) : fw Tryd.prog Tryd.f47 (annL [(1, [(5, some 3), (6, some 3), (7, none), (8, none), (9, none), (10, none), (11, none), (12, none), (13, none), (14, none), (15, none), (16, none), (17, none), (18, none), (19, none), (20, none), (21, none), (22, none), (23, none), (24, none)]), (4, [(5, some 3), (23, none), (24, none)])]) (ordL []) [.agg #[.slice q l c, .int .i64 m], .slice q2 l2 c2] w K = cortadoref25_rest_m q l c m q2 l2 c2 w K := by kernel_rfl
theorem cortadoref25_rest_go (q : Option Addr) (l c : Nat) (m : Int) (q2 : Option Addr) (l2 c2 : Nat) {w : World} {K : Value → World → Prop} (h : cortadoref25_rest_m q l c m q2 l2 c2 w K) : Rets Tryd.prog 47 #[.agg #[.slice q l c, .int .i64 m], .slice q2 l2 c2] w K :=
  calls_of_fw plain mixed Tryd.func47 (by kernel_rfl) (by rw [cortadoref25_rest_eq]; exact h)
def cortadoref25_Fill_m (q : Option Addr) (l c : Nat) (m : Int) (q2 : Option Addr) (l2 c2 : Nat) (d : Nat) (w : World) (K : Value → World → Prop) : Prop :=
  NewR (29 : Nat) [Value.slice q l c, Value.int IntKind.i64 m] w fun (a1 : Addr) (w1 : World) =>
  NewR (32 : Nat) [] w1 fun (a2 : Addr) (w2 : World) =>
  RunR Tryd.prog
  (builtinV Builtin.append { toList := [(22 : Nat), (22 : Nat)] } (nat_lit 22)
  { toList := [Value.slice (some a2) (0 : Nat) (0 : Nat), Value.slice q2 l2 c2] })
  w2 fun (v1 : Value) (w3 : World) =>
  ∃ (q1 : Option Addr),
  ∃ (k1 : Nat),
  ∃ (k2 : Nat),
  v1 = Value.slice q1 k1 k2 ∧
  ∃ (h1 : Nat → List Value → World → Prop),
  (∃ (k3 : Nat), h1 k3 [Value.slice q1 k1 k2] w3) ∧
  ∀ (k4 : Nat) (w4 : World) (q2 : Option Addr) (k5 k6 : Nat)
  (v2 v3 v4 v5 v6 v7 v8 v9 v10 v11 v12 v13 v14 v15 v16 v17 v18 v19 v20 v21 v22 v23 v24 v25 v26 v27 v28 v29 v30 v31 v32 v33
  v34 v35 v36 v37 v38 v39 v40 : Value),
  h1 k4 [Value.slice q2 k5 k6] w4 →
  ∃ (h2 : List Value → World → Prop),
  ((decide ((↑k5 : Int) < (5 : Int)) = true →
  ∃ (q3 : Option Addr),
  ∃ (k7 : Nat),
  ∃ (k8 : Nat),
  ∃ (n1 : Int),
  (cellAt w4 (Addr.add a1 (0 : Nat)) (Value.slice q3 k7 k8) ∧
  cellAt w4 (Addr.add a1 (1 : Nat)) (Value.int IntKind.i64 n1)) ∧
  Rets Tryd.prog (47 : Nat)
  { toList := [Value.agg { toList := [Value.slice q3 k7 k8, Value.int IntKind.i64 n1] }, Value.slice q2 k5 k6] } w4
  fun (v41 : Value) (w5 : World) =>
  ∃ (n2 : Int), v41 = Value.int IntKind.i64 n2 ∧ h2 [Value.bool (decide (n2 > (0 : Int)))] w5) ∧
  (decide ((↑k5 : Int) < (5 : Int)) = false → h2 [Value.bool false] w4)) ∧
  ∀ (w6 : World) (v42 v43 v44 v45 v46 v47 v48 v49 : Value) (b1 : Bool),
  h2 [Value.bool b1] w6 →
  (b1 = true →
  ∃ (q4 : Option Addr),
  ∃ (k9 : Nat),
  ∃ (k10 : Nat),
  cellAt w6 (Addr.add a1 (0 : Nat)) (Value.slice q4 k9 k10) ∧
  Rets Tryd.prog (48 : Nat)
  { toList := [Value.pointer (some { block := d, off := (0 : Nat) }), Value.int IntKind.i64 (↑k9 : Int)] } w6
  fun (v50 : Value) (w7 : World) =>
  ∃ (n3 : Int),
  v50 = Value.int IntKind.i64 n3 ∧
  ∃ (h3 : Nat → List Value → World → Prop),
  (∃ (k11 : Nat), h3 k11 [Value.int IntKind.i64 n3] w7) ∧
  ∀ (k12 : Nat) (w8 : World) (n4 : Int) (v51 v52 v53 v54 v55 v56 v57 v58 v59 v60 v61 v62 v63 v64 v65 : Value),
  h3 k12 [Value.int IntKind.i64 n4] w8 →
  ∃ (q5 : Option Addr),
  ∃ (k13 : Nat),
  ∃ (k14 : Nat),
  cellAt w8 (Addr.add a1 (0 : Nat)) (Value.slice q5 k13 k14) ∧
  (0 : Int) ≤ n4 ∧
  n4 < (↑k13 : Int) ∧
  someR q5 fun (a3 : Addr) =>
  ∃ (n5 : Int),
  cellAt w8 (Addr.add (Addr.add a3 (Int.toNat n4 * (2 : Nat))) (0 : Nat)) (Value.int IntKind.u64 n5) ∧
  Rets Tryd.prog (13 : Nat) { toList := [Value.slice q2 k5 k6, Value.int IntKind.u64 n5] } w8
  fun (v66 : Value) (w9 : World) =>
  ∃ (b2 : Bool),
  v66 = Value.bool b2 ∧
  (b2 = true →
  ∃ (q6 : Option Addr),
  ∃ (k15 : Nat),
  ∃ (k16 : Nat),
  cellAt w9 (Addr.add a1 (0 : Nat)) (Value.slice q6 k15 k16) ∧
  ∃ (h4 : List Value → World → Prop),
  (((IntKind.wrap IntKind.i64 (n4 + (1 : Int)) == (↑k15 : Int)) = true → h4 [Value.int IntKind.i64 (0 : Int)] w9) ∧
  ((IntKind.wrap IntKind.i64 (n4 + (1 : Int)) == (↑k15 : Int)) = false →
  h4 [Value.int IntKind.i64 (IntKind.wrap IntKind.i64 (n4 + (1 : Int)))] w9)) ∧
  ∀ (w10 : World) (n6 : Int),
  h4 [Value.int IntKind.i64 n6] w10 → ∃ (k17 : Nat), k17 < k12 ∧ h3 k17 [Value.int IntKind.i64 n6] w10) ∧
  (b2 = false →
  ∃ (q7 : Option Addr),
  ∃ (k18 : Nat),
  ∃ (k19 : Nat),
  cellAt w9 (Addr.add a1 (0 : Nat)) (Value.slice q7 k18 k19) ∧
  (0 : Int) ≤ n4 ∧
  n4 < (↑k18 : Int) ∧
  someR q7 fun (a4 : Addr) =>
  ∃ (n7 : Int),
  cellAt w9 (Addr.add (Addr.add a4 (Int.toNat n4 * (2 : Nat))) (0 : Nat)) (Value.int IntKind.u64 n7) ∧
  NewR (32 : Nat) [Value.int IntKind.u64 n7] w9 fun (a5 : Addr) (w11 : World) =>
  RunR Tryd.prog
  (builtinV Builtin.append { toList := [(22 : Nat), (22 : Nat)] } (nat_lit 22)
  { toList := [Value.slice q2 k5 k6, Value.slice (some a5) (1 : Nat) (1 : Nat)] })
  w11 fun (v67 : Value) (w12 : World) =>
  ∃ (q8 : Option Addr),
  ∃ (k20 : Nat),
  ∃ (k21 : Nat), v67 = Value.slice q8 k20 k21 ∧ ∃ (k22 : Nat), k22 < k4 ∧ h1 k22 [Value.slice q8 k20 k21] w12)) ∧
  (b1 = false → K (Value.slice q2 k5 k6) w6)
theorem cortadoref25_Fill_eq (q : Option Addr) (l c : Nat) (m : Int) (q2 : Option Addr) (l2 c2 : Nat) (d : Nat) (w : World) (K : Value → World → Prop) : fw Tryd.prog Tryd.f15 (annL [(1, [(7, some 22), (8, none), (12, none), (13, none), (14, none), (15, none), (16, none), (17, none), (18, none), (19, none), (20, none), (21, none), (22, none), (23, none), (24, none), (25, none), (26, none), (27, none), (28, none), (29, none), (30, none), (31, none), (32, none), (33, none), (34, none), (35, none), (36, none), (37, none), (38, none), (39, none), (40, none), (41, none), (42, none), (43, none), (44, none), (45, none), (46, none), (47, none), (48, none), (49, none)]), (5, [(8, some 3), (26, none), (27, none), (28, none), (29, none), (30, none), (31, none), (32, none), (33, none), (34, none), (35, none), (36, none), (37, none), (38, none), (39, none), (40, none)]), (8, [(8, some 3)])]) (ordL [(2000002, [(12, 0), (13, 0), (14, 0), (15, 0), (16, 0), (17, 0), (18, 0), (19, 0), (20, 5)])]) [.agg #[.slice q l c, .int .i64 m], .slice q2 l2 c2, .pointer (some ⟨d, 0, none⟩)] w K = cortadoref25_Fill_m q l c m q2 l2 c2 d w K := by kernel_rfl
theorem cortadoref25_Fill_go (q : Option Addr) (l c : Nat) (m : Int) (q2 : Option Addr) (l2 c2 : Nat) (d : Nat) {w : World} {K : Value → World → Prop} (h : cortadoref25_Fill_m q l c m q2 l2 c2 d w K) : Rets Tryd.prog 15 #[.agg #[.slice q l c, .int .i64 m], .slice q2 l2 c2, .pointer (some ⟨d, 0, none⟩)] w K :=
  calls_of_fw plain mixed Tryd.func15 (by kernel_rfl) (by rw [cortadoref25_Fill_eq]; exact h)
def cortadoref25_Same_m (q : Option Addr) (l c : Nat) (q2 : Option Addr) (l2 c2 : Nat) (w : World) (K : Value → World → Prop) : Prop :=
  (((↑l : Int) != (↑l2 : Int)) = true → K (Value.bool false) w) ∧
  (((↑l : Int) != (↑l2 : Int)) = false →
  ∃ (h1 : Nat → List Value → World → Prop),
  (∃ (k1 : Nat), h1 k1 [Value.int IntKind.i64 (0 : Int)] w) ∧
  ∀ (k2 : Nat) (w1 : World) (v1 : Value) (n1 : Int) (v2 v3 v4 v5 v6 v7 v8 v9 v10 v11 v12 v13 v14 v15 v16 : Value),
  h1 k2 [Value.int IntKind.i64 n1] w1 →
  (decide (n1 < (↑l : Int)) = true →
  Drw w1 fun (w2 : World) =>
  (0 : Int) ≤ n1 ∧
  n1 < (↑l : Int) ∧
  someR q fun (a1 : Addr) =>
  (0 : Int) ≤ n1 ∧
  n1 < (↑l2 : Int) ∧
  someR q2 fun (a2 : Addr) =>
  ∃ (n2 : Int),
  cellAt w2 (Addr.add a1 (Int.toNat n1 * (1 : Nat))) (Value.int IntKind.u64 n2) ∧
  ∃ (n3 : Int),
  cellAt w2 (Addr.add a2 (Int.toNat n1 * (1 : Nat))) (Value.int IntKind.u64 n3) ∧
  ((n2 != n3) = true → K (Value.bool false) w2) ∧
  ((n2 != n3) = false →
  ∃ (k3 : Nat), k3 < k2 ∧ h1 k3 [Value.int IntKind.i64 (IntKind.wrap IntKind.i64 (n1 + (1 : Int)))] w2)) ∧
  (decide (n1 < (↑l : Int)) = false → K (Value.bool true) w1))
theorem cortadoref25_Same_eq (q : Option Addr) (l c : Nat) (q2 : Option Addr) (l2 c2 : Nat) (w : World) (K : Value → World → Prop) : fw Tryd.prog Tryd.f14 (annL [(2, [(4, none), (5, some 3), (11, none), (12, none), (13, none), (14, none), (15, none), (16, none), (17, none), (18, none), (19, none), (20, none), (21, none), (22, none), (23, none), (24, none), (25, none)])]) (ordL [(6, [(0, 0), (1, 0), (2, 0), (4, 0), (5, 0), (6, 0), (3, 1), (7, 1), (8, 0)])]) [.slice q l c, .slice q2 l2 c2] w K = cortadoref25_Same_m q l c q2 l2 c2 w K := by kernel_rfl
theorem cortadoref25_Same_go (q : Option Addr) (l c : Nat) (q2 : Option Addr) (l2 c2 : Nat) {w : World} {K : Value → World → Prop} (h : cortadoref25_Same_m q l c q2 l2 c2 w K) : Rets Tryd.prog 14 #[.slice q l c, .slice q2 l2 c2] w K :=
  calls_of_fw plain mixed Tryd.func14 (by kernel_rfl) (by rw [cortadoref25_Same_eq]; exact h)
def cortadoref25_Least_m (q : Option Addr) (l c : Nat) (w : World) (K : Value → World → Prop) : Prop :=
  ∃ (h1 : Nat → List Value → World → Prop),
  (∃ (k1 : Nat), h1 k1 [Value.int IntKind.i64 (0 : Int), Value.int IntKind.i64 (0 : Int)] w) ∧
  ∀ (k2 : Nat) (w1 : World) (n1 n2 : Int) (v1 v2 v3 v4 v5 v6 v7 v8 v9 v10 v11 v12 v13 v14 v15 v16 : Value),
  h1 k2 [Value.int IntKind.i64 n1, Value.int IntKind.i64 n2] w1 →
  (decide (n2 < (↑l : Int)) = true →
  Drw w1 fun (w2 : World) =>
  (0 : Int) ≤ n2 ∧
  n2 < (↑l : Int) ∧
  someR q fun (a1 : Addr) =>
  (0 : Int) ≤ n1 ∧
  n1 < (↑l : Int) ∧
  someR q fun (a2 : Addr) =>
  ∃ (n3 : Int),
  cellAt w2 (Addr.add a1 (Int.toNat n2 * (1 : Nat))) (Value.int IntKind.i64 n3) ∧
  ∃ (n4 : Int),
  cellAt w2 (Addr.add a2 (Int.toNat n1 * (1 : Nat))) (Value.int IntKind.i64 n4) ∧
  ∃ (h2 : List Value → World → Prop),
  ((decide (n3 < n4) = true → h2 [Value.int IntKind.i64 n2] w2) ∧
  (decide (n3 < n4) = false → h2 [Value.int IntKind.i64 n1] w2)) ∧
  ∀ (w3 : World) (n5 : Int) (v17 : Value),
  h2 [Value.int IntKind.i64 n5] w3 →
  ∃ (k3 : Nat),
  k3 < k2 ∧ h1 k3 [Value.int IntKind.i64 n5, Value.int IntKind.i64 (IntKind.wrap IntKind.i64 (n2 + (1 : Int)))] w3) ∧
  (decide (n2 < (↑l : Int)) = false →
  (((↑l : Int) == (0 : Int)) = true →
  K (Value.tuple { toList := [Value.int IntKind.i64 (0 : Int), Value.int IntKind.i64 (0 : Int), Value.bool false] }) w1) ∧
  (((↑l : Int) == (0 : Int)) = false →
  Drw w1 fun (w4 : World) =>
  (0 : Int) ≤ n1 ∧
  n1 < (↑l : Int) ∧
  someR q fun (a3 : Addr) =>
  ∃ (n6 : Int),
  cellAt w4 (Addr.add a3 (Int.toNat n1 * (1 : Nat))) (Value.int IntKind.i64 n6) ∧
  K (Value.tuple { toList := [Value.int IntKind.i64 n1, Value.int IntKind.i64 n6, Value.bool true] }) w4))
theorem cortadoref25_Least_eq (q : Option Addr) (l c : Nat) (w : World) (K : Value → World → Prop) : fw Tryd.prog Tryd.f19 (annL [(1, [(5, some 3), (6, some 3), (7, none), (8, none), (9, none), (10, none), (11, none), (12, none), (13, none), (14, none), (15, none), (16, none), (17, none), (18, none), (19, none), (20, none), (21, none), (22, none)]), (4, [(5, some 3), (22, none)])]) (ordL [(5, [(0, 0), (1, 0), (2, 0), (4, 0), (5, 0), (6, 0), (3, 1), (7, 1), (8, 0)]), (9, [(0, 0), (1, 0), (2, 0), (3, 0), (5, 0), (4, 1), (6, 0), (7, 0)])]) [.slice q l c] w K = cortadoref25_Least_m q l c w K := by kernel_rfl
theorem cortadoref25_Least_go (q : Option Addr) (l c : Nat) {w : World} {K : Value → World → Prop} (h : cortadoref25_Least_m q l c w K) : Rets Tryd.prog 19 #[.slice q l c] w K :=
  calls_of_fw plain mixed Tryd.func19 (by kernel_rfl) (by rw [cortadoref25_Least_eq]; exact h)
def cortadoref25_Without_m (q : Option Addr) (l c : Nat) (i : Int) (w : World) (K : Value → World → Prop) : Prop :=
  ∃ (h1 : List Value → World → Prop),
  ((decide (i < (0 : Int)) = false → h1 [Value.bool (decide (i ≥ (↑l : Int)))] w) ∧
  (decide (i < (0 : Int)) = true → h1 [Value.bool true] w)) ∧
  ∀ (w1 : World) (v1 v2 v3 v4 v5 v6 v7 : Value) (b1 : Bool),
  h1 [Value.bool b1] w1 →
  (b1 = true → K (Value.slice q l c) w1) ∧
  (b1 = false →
  ∃ (h2 : Nat → List Value → World → Prop),
  (∃ (k1 : Nat), h2 k1 [Value.slice none (0 : Nat) (0 : Nat), Value.int IntKind.i64 (0 : Int)] w1) ∧
  ∀ (k2 : Nat) (w2 : World) (q1 : Option Addr) (k3 k4 : Nat) (n1 : Int)
  (v8 v9 v10 v11 v12 v13 v14 v15 v16 v17 v18 v19 v20 v21 v22 v23 v24 v25 v26 v27 v28 v29 v30 v31 v32 v33 : Value),
  h2 k2 [Value.slice q1 k3 k4, Value.int IntKind.i64 n1] w2 →
  (decide (n1 < IntKind.wrap IntKind.i64 ((↑l : Int) - (1 : Int))) = true →
  ∃ (h3 : List Value → World → Prop),
  (((n1 == i) = true →
  (0 : Int) ≤ IntKind.wrap IntKind.i64 ((↑l : Int) - (1 : Int)) ∧
  IntKind.wrap IntKind.i64 ((↑l : Int) - (1 : Int)) < (↑l : Int) ∧
  someR q fun (a1 : Addr) =>
  ∃ (n2 : Int),
  cellAt w2 (Addr.add a1 (Int.toNat (IntKind.wrap IntKind.i64 ((↑l : Int) - (1 : Int))) * (1 : Nat)))
  (Value.int IntKind.u64 n2) ∧
  NewR (32 : Nat) [Value.int IntKind.u64 n2] w2 fun (a2 : Addr) (w3 : World) =>
  RunR Tryd.prog
  (builtinV Builtin.append { toList := [(22 : Nat), (22 : Nat)] } (nat_lit 22)
  { toList := [Value.slice q1 k3 k4, Value.slice (some a2) (1 : Nat) (1 : Nat)] })
  w3 fun (v34 : Value) (w4 : World) =>
  ∃ (q2 : Option Addr), ∃ (k5 : Nat), ∃ (k6 : Nat), v34 = Value.slice q2 k5 k6 ∧ h3 [Value.slice q2 k5 k6] w4) ∧
  ((n1 == i) = false →
  (0 : Int) ≤ n1 ∧
  n1 < (↑l : Int) ∧
  someR q fun (a3 : Addr) =>
  ∃ (n3 : Int),
  cellAt w2 (Addr.add a3 (Int.toNat n1 * (1 : Nat))) (Value.int IntKind.u64 n3) ∧
  NewR (32 : Nat) [Value.int IntKind.u64 n3] w2 fun (a4 : Addr) (w5 : World) =>
  RunR Tryd.prog
  (builtinV Builtin.append { toList := [(22 : Nat), (22 : Nat)] } (nat_lit 22)
  { toList := [Value.slice q1 k3 k4, Value.slice (some a4) (1 : Nat) (1 : Nat)] })
  w5 fun (v35 : Value) (w6 : World) =>
  ∃ (q3 : Option Addr), ∃ (k7 : Nat), ∃ (k8 : Nat), v35 = Value.slice q3 k7 k8 ∧ h3 [Value.slice q3 k7 k8] w6)) ∧
  ∀ (w7 : World) (q4 : Option Addr) (k9 k10 : Nat)
  (v36 v37 v38 v39 v40 v41 v42 v43 v44 v45 v46 v47 v48 v49 v50 v51 : Value),
  h3 [Value.slice q4 k9 k10] w7 →
  ∃ (k11 : Nat),
  k11 < k2 ∧ h2 k11 [Value.slice q4 k9 k10, Value.int IntKind.i64 (IntKind.wrap IntKind.i64 (n1 + (1 : Int)))] w7) ∧
  (decide (n1 < IntKind.wrap IntKind.i64 ((↑l : Int) - (1 : Int))) = false → K (Value.slice q1 k3 k4) w2))
theorem cortadoref25_Without_eq (q : Option Addr) (l c : Nat) (i : Int) (w : World) (K : Value → World → Prop) : fw Tryd.prog Tryd.f21 (annL [(2, [(5, some 22), (6, some 3), (16, none), (17, none), (18, none), (19, none), (20, none), (21, none), (22, none), (23, none), (24, none), (25, none), (26, none), (27, none), (28, none), (29, none), (30, none), (31, none), (32, none), (33, none), (34, none), (35, none), (36, none), (37, none), (38, none), (39, none), (40, none), (41, none)]), (5, [(5, some 22), (26, none), (27, none), (28, none), (29, none), (30, none), (31, none), (32, none), (33, none), (34, none), (35, none), (36, none), (37, none), (38, none), (39, none), (40, none), (41, none)])]) (ordL [(2000001, [(7, 0), (8, 0), (9, 0), (10, 0), (11, 0), (12, 0), (13, 0), (14, 5)])]) [.slice q l c, .int .i64 i] w K = cortadoref25_Without_m q l c i w K := by kernel_rfl
theorem cortadoref25_Without_go (q : Option Addr) (l c : Nat) (i : Int) {w : World} {K : Value → World → Prop} (h : cortadoref25_Without_m q l c i w K) : Rets Tryd.prog 21 #[.slice q l c, .int .i64 i] w K :=
  calls_of_fw plain mixed Tryd.func21 (by kernel_rfl) (by rw [cortadoref25_Without_eq]; exact h)
def cortadolaw25_made_m (q : Option Addr) (l c : Nat) (w : World) (K : Value → World → Prop) : Prop :=
  NewR (29 : Nat) [Value.slice none (0 : Nat) (0 : Nat), Value.int IntKind.i64 (0 : Int)] w
  fun (a1 : Addr) (w1 : World) =>
  Rets Tryd.prog (40 : Nat) { toList := [Value.int IntKind.i64 (0 : Int)] } w1 fun (v1 : Value) (w2 : World) =>
  ∃ (q1 : Option Addr),
  v1 = Value.pointer q1 ∧
  NewR (29 : Nat) [Value.slice none (0 : Nat) (0 : Nat), Value.int IntKind.i64 (0 : Int)] w2
  fun (a2 : Addr) (w3 : World) =>
  StoreR a2 [Value.slice none (0 : Nat) (0 : Nat), Value.int IntKind.i64 (0 : Int)] w3 fun (w4 : World) =>
  ∃ (h1 : Nat → List Value → World → Prop),
  (∃ (k1 : Nat), h1 k1 [Value.int IntKind.i64 (0 : Int)] w4) ∧
  ∀ (k2 : Nat) (w5 : World) (n1 : Int)
  (v2 v3 v4 v5 v6 v7 v8 v9 v10 v11 v12 v13 v14 v15 v16 v17 v18 v19 v20 v21 v22 : Value),
  h1 k2 [Value.int IntKind.i64 n1] w5 →
  (decide (n1 < (↑l : Int)) = true →
  (0 : Int) ≤ n1 ∧
  n1 < (↑l : Int) ∧
  someR q fun (a3 : Addr) =>
  ∃ (n2 : Int),
  cellAt w5 (Addr.add a3 (Int.toNat n1 * (1 : Nat))) (Value.int IntKind.u64 n2) ∧
  Rets Tryd.prog (41 : Nat) { toList := [Value.pointer q1, Value.int IntKind.u64 n2, Value.int IntKind.i64 (0 : Int)] } w5
  fun (v23 : Value) (w6 : World) =>
  ∃ (b1 : Bool),
  v23 = Value.bool b1 ∧
  Drw w6 fun (w7 : World) =>
  (0 : Int) ≤ n1 ∧
  n1 < (↑l : Int) ∧
  someR q fun (a4 : Addr) =>
  ∃ (q2 : Option Addr),
  ∃ (k3 : Nat),
  ∃ (k4 : Nat),
  ∃ (n3 : Int),
  (cellAt w7 (Addr.add a2 (0 : Nat)) (Value.slice q2 k3 k4) ∧
  cellAt w7 (Addr.add a2 (1 : Nat)) (Value.int IntKind.i64 n3)) ∧
  ∃ (n4 : Int),
  cellAt w7 (Addr.add a4 (Int.toNat n1 * (1 : Nat))) (Value.int IntKind.u64 n4) ∧
  Rets Tryd.prog (42 : Nat)
  {
  toList :=
  [Value.agg { toList := [Value.slice q2 k3 k4, Value.int IntKind.i64 n3] }, Value.int IntKind.u64 n4,
  Value.int IntKind.i64 (0 : Int)] }
  w7 fun (v24 : Value) (w8 : World) =>
  ∃ (q3 : Option Addr),
  ∃ (k5 : Nat),
  ∃ (k6 : Nat),
  ∃ (n5 : Int),
  ∃ (b2 : Bool),
  v24 =
  Value.tuple { toList := [Value.agg { toList := [Value.slice q3 k5 k6, Value.int IntKind.i64 n5] }, Value.bool b2] } ∧
  StoreR a2 [Value.slice q3 k5 k6, Value.int IntKind.i64 n5] w8 fun (w9 : World) =>
  ∃ (k7 : Nat), k7 < k2 ∧ h1 k7 [Value.int IntKind.i64 (IntKind.wrap IntKind.i64 (n1 + (1 : Int)))] w9) ∧
  (decide (n1 < (↑l : Int)) = false →
  Drw w5 fun (w10 : World) =>
  ∃ (q4 : Option Addr),
  ∃ (k8 : Nat),
  ∃ (k9 : Nat),
  ∃ (n6 : Int),
  (cellAt w10 (Addr.add a2 (0 : Nat)) (Value.slice q4 k8 k9) ∧
  cellAt w10 (Addr.add a2 (1 : Nat)) (Value.int IntKind.i64 n6)) ∧
  StoreR a1 [Value.slice q4 k8 k9, Value.int IntKind.i64 n6] w10 fun (w11 : World) =>
  ∃ (q5 : Option Addr),
  ∃ (k10 : Nat),
  ∃ (k11 : Nat),
  ∃ (n7 : Int),
  (cellAt w11 (Addr.add a1 (0 : Nat)) (Value.slice q5 k10 k11) ∧
  cellAt w11 (Addr.add a1 (1 : Nat)) (Value.int IntKind.i64 n7)) ∧
  K
  (Value.tuple
  { toList := [Value.pointer q1, Value.agg { toList := [Value.slice q5 k10 k11, Value.int IntKind.i64 n7] }] })
  w11)
theorem cortadolaw25_made_eq (q : Option Addr) (l c : Nat) (w : World) (K : Value → World → Prop) : fw Tryd.prog Tryd.f9 (annL [(1, [(6, some 3), (9, none), (10, none), (11, none), (12, none), (13, none), (14, none), (15, none), (16, none), (17, none), (18, none), (19, none), (20, none), (21, none), (22, none), (23, none), (24, none), (25, none), (26, none), (27, none), (28, none), (29, none)])]) (ordL [(6, [(1, 0), (2, 0), (3, 0), (0, 1), (4, 1), (5, 3), (6, 0), (7, 0), (8, 0), (9, 3)]), (7, [(0, 0), (2, 0), (1, 1), (3, 3)])]) [.slice q l c] w K = cortadolaw25_made_m q l c w K := by kernel_rfl
theorem cortadolaw25_made_go (q : Option Addr) (l c : Nat) {w : World} {K : Value → World → Prop} (h : cortadolaw25_made_m q l c w K) : Rets Tryd.prog 9 #[.slice q l c] w K :=
  calls_of_fw plain mixed Tryd.func9 (by kernel_rfl) (by rw [cortadolaw25_made_eq]; exact h)
def cortadolaw25_awake_m  (w : World) (K : Value → World → Prop) : Prop :=
  NewR (32 : Nat) [Value.int IntKind.u64 (10 : Int), Value.int IntKind.u64 (20 : Int), Value.int IntKind.u64 (30 : Int)] w
  fun (a1 : Addr) (w1 : World) =>
  Rets Tryd.prog (9 : Nat) { toList := [Value.slice (some a1) (3 : Nat) (3 : Nat)] } w1 fun (v1 : Value) (w2 : World) =>
  ∃ (q1 : Option Addr),
  ∃ (q2 : Option Addr),
  ∃ (k1 : Nat),
  ∃ (k2 : Nat),
  ∃ (n1 : Int),
  v1 =
  Value.tuple { toList := [Value.pointer q1, Value.agg { toList := [Value.slice q2 k1 k2, Value.int IntKind.i64 n1] }] } ∧
  NewR (29 : Nat) [Value.slice none (0 : Nat) (0 : Nat), Value.int IntKind.i64 (0 : Int)] w2
  fun (a2 : Addr) (w3 : World) =>
  StoreR a2 [Value.slice q2 k1 k2, Value.int IntKind.i64 n1] w3 fun (w4 : World) =>
  NewR (3 : Nat) [Value.int IntKind.i64 (5 : Int), Value.int IntKind.i64 (0 : Int), Value.int IntKind.i64 (0 : Int)] w4
  fun (a3 : Addr) (w5 : World) =>
  Rets Tryd.prog (11 : Nat) { toList := [Value.slice (some a3) (3 : Nat) (3 : Nat), Value.int IntKind.u64 (0 : Int)] } w5
  fun (v2 : Value) (w6 : World) =>
  ∃ (q3 : Option Addr),
  v2 = Value.pointer q3 ∧
  Rets Tryd.prog (10 : Nat) { toList := [Value.pointer q1, Value.slice none (0 : Nat) (0 : Nat), Value.pointer q3] } w6
  fun (v3 : Value) (w7 : World) =>
  ∃ (q4 : Option Addr),
  ∃ (k3 : Nat),
  ∃ (k4 : Nat),
  v3 = Value.slice q4 k3 k4 ∧
  NewR (32 : Nat) [Value.int IntKind.u64 (30 : Int), Value.int IntKind.u64 (10 : Int), Value.int IntKind.u64 (20 : Int)]
  w7 fun (a4 : Addr) (w8 : World) =>
  Rets Tryd.prog (14 : Nat) { toList := [Value.slice q4 k3 k4, Value.slice (some a4) (3 : Nat) (3 : Nat)] } w8
  fun (v4 : Value) (w9 : World) => ∃ (b1 : Bool), v4 = Value.bool b1 ∧ K (Value.bool b1) w9
theorem cortadolaw25_awake_eq  (w : World) (K : Value → World → Prop) : fw Tryd.prog Tryd.f8 (annL []) (ordL []) [] w K = cortadolaw25_awake_m  w K := by kernel_rfl
theorem cortadolaw25_awake_go  {w : World} {K : Value → World → Prop} (h : cortadolaw25_awake_m  w K) : Rets Tryd.prog 8 #[] w K :=
  calls_of_fw plain mixed Tryd.func8 (by kernel_rfl) (by rw [cortadolaw25_awake_eq]; exact h)
end Go.Proofs.YtajckpjlliiekaaDoor.Eng
