/- What the code of these functions asks for: printed by a program of this session's (gens.py) out of the seat's own functions; the kernel checks each row. -/
import Derived.Test.YtipcbhaeoeghnaaDoorEngH
import Derived.Test.YtipcbhaeoeghnaaDoorProg
import Derived.Test.YtipcbhaeoeghnaaDoorBase
namespace Go.Proofs.YtipcbhaeoeghnaaDoor.Eng
open Go Go.Proofs
set_option linter.unusedVariables false
set_option maxRecDepth 1000000
def fnv_Next_m (hh b : Int) (w : World) (K : Value → World → Prop) : Prop :=
  K
  (Value.int IntKind.u64
  (IntKind.wrap IntKind.u64 (bits BinOp.xor IntKind.u64 hh (IntKind.wrap IntKind.u64 b) * (1099511628211 : Int))))
  w
theorem fnv_Next_eq (hh b : Int) (w : World) (K : Value → World → Prop) : fw Tryd.prog Tryd.f74 (annL []) (ordL []) [.int .u64 hh, .int .u8 b] w K = fnv_Next_m hh b w K := by kernel_rfl
theorem fnv_Next_go (hh b : Int) {w : World} {K : Value → World → Prop} (h : fnv_Next_m hh b w K) : Rets Tryd.prog 74 #[.int .u64 hh, .int .u8 b] w K :=
  calls_of_fw plain mixed Tryd.func74 (by kernel_rfl) (by rw [fnv_Next_eq]; exact h)
def fnv_Go_m (hh : Int) (q : Option Addr) (l c : Nat) (w : World) (K : Value → World → Prop) : Prop :=
  ∃ (h1 : Nat → List Value → World → Prop),
  (∃ (k1 : Nat), h1 k1 [Value.int IntKind.u64 hh, Value.int IntKind.i64 (0 : Int)] w) ∧
  ∀ (k2 : Nat) (w1 : World) (n1 : Int) (v1 : Value) (n2 : Int) (v2 v3 v4 v5 v6 v7 v8 : Value),
  h1 k2 [Value.int IntKind.u64 n1, Value.int IntKind.i64 n2] w1 →
  (decide (n2 < (↑l : Int)) = true →
  (0 : Int) ≤ n2 ∧
  n2 < (↑l : Int) ∧
  someR q fun (a1 : Addr) =>
  ∃ (n3 : Int),
  cellAt w1 (Addr.add a1 (Int.toNat n2 * (1 : Nat))) (Value.int IntKind.u8 n3) ∧
  Rets Tryd.prog (74 : Nat) { toList := [Value.int IntKind.u64 n1, Value.int IntKind.u8 n3] } w1
  fun (v9 : Value) (w2 : World) =>
  ∃ (n4 : Int),
  v9 = Value.int IntKind.u64 n4 ∧
  ∃ (k3 : Nat),
  k3 < k2 ∧ h1 k3 [Value.int IntKind.u64 n4, Value.int IntKind.i64 (IntKind.wrap IntKind.i64 (n2 + (1 : Int)))] w2) ∧
  (decide (n2 < (↑l : Int)) = false → K (Value.int IntKind.u64 n1) w1)
theorem fnv_Go_eq (hh : Int) (q : Option Addr) (l c : Nat) (w : World) (K : Value → World → Prop) : fw Tryd.prog Tryd.f45 (annL [(1, [(0, some 33), (6, none), (9, some 3), (10, none), (11, none), (12, none), (13, none), (14, none), (15, none), (16, none)])]) (ordL []) [.int .u64 hh, .slice q l c] w K = fnv_Go_m hh q l c w K := by kernel_rfl
theorem fnv_Go_go (hh : Int) (q : Option Addr) (l c : Nat) {w : World} {K : Value → World → Prop} (h : fnv_Go_m hh q l c w K) : Rets Tryd.prog 45 #[.int .u64 hh, .slice q l c] w K :=
  calls_of_fw plain mixed Tryd.func45 (by kernel_rfl) (by rw [fnv_Go_eq]; exact h)
def cortadoref05_Go_m (hh : Int) (q : Option Addr) (l c : Nat) (w : World) (K : Value → World → Prop) : Prop :=
  ∃ (h1 : Nat → List Value → World → Prop),
  (∃ (k1 : Nat), h1 k1 [Value.int IntKind.u64 hh, Value.int IntKind.i64 (0 : Int)] w) ∧
  ∀ (k2 : Nat) (w1 : World) (n1 n2 : Int)
  (v1 v2 v3 v4 v5 v6 v7 v8 v9 v10 v11 v12 v13 v14 v15 v16 v17 v18 v19 v20 v21 v22 v23 v24 : Value),
  h1 k2 [Value.int IntKind.u64 n1, Value.int IntKind.i64 n2] w1 →
  (decide (n2 < (↑l : Int)) = true →
  (256 : Int) ≠ (0 : Int) ∧
  (256 : Int) ≠ (0 : Int) ∧
  (0 : Int) ≤ n2 ∧
  n2 < (↑l : Int) ∧
  someR q fun (a1 : Addr) =>
  ∃ (n3 : Int),
  cellAt w1 (Addr.add a1 (Int.toNat n2 * (1 : Nat))) (Value.int IntKind.u8 n3) ∧
  ∃ (k3 : Nat),
  k3 < k2 ∧
  h1 k3
  [Value.int IntKind.u64
  (IntKind.wrap IntKind.u64
  (IntKind.wrap IntKind.u64
  (IntKind.wrap IntKind.u64 (n1 - Int.tmod n1 (256 : Int)) +
  bits BinOp.xor IntKind.u64 (Int.tmod n1 (256 : Int)) (IntKind.wrap IntKind.u64 n3)) *
  (1099511628211 : Int))),
  Value.int IntKind.i64 (IntKind.wrap IntKind.i64 (n2 + (1 : Int)))]
  w1) ∧
  (decide (n2 < (↑l : Int)) = false → K (Value.int IntKind.u64 n1) w1)
theorem cortadoref05_Go_eq (hh : Int) (q : Option Addr) (l c : Nat) (w : World) (K : Value → World → Prop) : fw Tryd.prog Tryd.f82 (annL [(1, [(0, some 33), (5, some 3), (6, none), (7, none), (8, none), (9, none), (10, none), (11, none), (12, none), (13, none), (14, none), (15, none), (16, none), (17, none), (18, none), (19, none), (20, none), (21, none), (22, none), (23, none), (24, none), (25, none), (26, none), (27, none), (28, none), (29, none)])]) (ordL []) [.int .u64 hh, .slice q l c] w K = cortadoref05_Go_m hh q l c w K := by kernel_rfl
theorem cortadoref05_Go_go (hh : Int) (q : Option Addr) (l c : Nat) {w : World} {K : Value → World → Prop} (h : cortadoref05_Go_m hh q l c w K) : Rets Tryd.prog 82 #[.int .u64 hh, .slice q l c] w K :=
  calls_of_fw plain mixed Tryd.func82 (by kernel_rfl) (by rw [cortadoref05_Go_eq]; exact h)
def cortadoref05_Text_m (s : ByteArray) (w : World) (K : Value → World → Prop) : Prop :=
  RunR Tryd.prog (convert (9 : Nat) (32 : Nat) (Value.string s)) w fun (v1 : Value) (w1 : World) =>
  ∃ (q1 : Option Addr),
  ∃ (k1 : Nat),
  ∃ (k2 : Nat),
  v1 = Value.slice q1 k1 k2 ∧
  Rets Tryd.prog (82 : Nat) { toList := [Value.int IntKind.u64 (14695981039346656037 : Int), Value.slice q1 k1 k2] } w1
  fun (v2 : Value) (w2 : World) => ∃ (n1 : Int), v2 = Value.int IntKind.u64 n1 ∧ K (Value.int IntKind.u64 n1) w2
theorem cortadoref05_Text_eq (s : ByteArray) (w : World) (K : Value → World → Prop) : fw Tryd.prog Tryd.f49 (annL []) (ordL []) [.string s] w K = cortadoref05_Text_m s w K := by kernel_rfl
theorem cortadoref05_Text_go (s : ByteArray) {w : World} {K : Value → World → Prop} (h : cortadoref05_Text_m s w K) : Rets Tryd.prog 49 #[.string s] w K :=
  calls_of_fw plain mixed Tryd.func49 (by kernel_rfl) (by rw [cortadoref05_Text_eq]; exact h)
def word_Low_m (x k : Int) (w : World) (K : Value → World → Prop) : Prop :=
  (decide (k ≥ (64 : Int)) = true → K (Value.int IntKind.u64 x) w) ∧
  (decide (k ≥ (64 : Int)) = false →
  (0 : Int) ≤ IntKind.wrap IntKind.u64 (maxI k (0 : Int)) ∧
  K
  (Value.int IntKind.u64
  (bits BinOp.and IntKind.u64 x
  (IntKind.wrap IntKind.u64 (shlI IntKind.u64 (1 : Int) (IntKind.wrap IntKind.u64 (maxI k (0 : Int))) - (1 : Int)))))
  w)
theorem word_Low_eq (x k : Int) (w : World) (K : Value → World → Prop) : fw Tryd.prog Tryd.f50 (annL []) (ordL []) [.int .u64 x, .int .i64 k] w K = word_Low_m x k w K := by kernel_rfl
theorem word_Low_go (x k : Int) {w : World} {K : Value → World → Prop} (h : word_Low_m x k w K) : Rets Tryd.prog 50 #[.int .u64 x, .int .i64 k] w K :=
  calls_of_fw plain mixed Tryd.func50 (by kernel_rfl) (by rw [word_Low_eq]; exact h)
def cortadoref01_Low_m (x k : Int) (w : World) (K : Value → World → Prop) : Prop :=
  Rets Tryd.prog (83 : Nat) { toList := [Value.int IntKind.u64 x] } w fun (v1 : Value) (w1 : World) =>
  ∃ (q1 : Option Addr),
  ∃ (k1 : Nat),
  ∃ (k2 : Nat),
  v1 = Value.slice q1 k1 k2 ∧
  ∃ (h1 : Nat → List Value → World → Prop),
  (∃ (k3 : Nat), h1 k3 [Value.int IntKind.i64 (0 : Int)] w1) ∧
  ∀ (k4 : Nat) (w2 : World) (n1 : Int) (v2 v3 v4 v5 v6 v7 v8 v9 v10 v11 v12 v13 : Value),
  h1 k4 [Value.int IntKind.i64 n1] w2 →
  (decide (n1 < (↑k1 : Int)) = true →
  ∃ (h2 : List Value → World → Prop),
  ((decide (n1 ≥ k) = true →
  (0 : Int) ≤ n1 ∧
  n1 < (↑k1 : Int) ∧
  someR q1 fun (a1 : Addr) =>
  StoreR (Addr.add a1 (Int.toNat n1 * (1 : Nat))) [Value.int IntKind.u64 (0 : Int)] w2 fun (w3 : World) => h2 [] w3) ∧
  (decide (n1 ≥ k) = false → h2 [] w2)) ∧
  ∀ (w4 : World) (v14 v15 v16 : Value),
  h2 [] w4 → ∃ (k5 : Nat), k5 < k4 ∧ h1 k5 [Value.int IntKind.i64 (IntKind.wrap IntKind.i64 (n1 + (1 : Int)))] w4) ∧
  (decide (n1 < (↑k1 : Int)) = false →
  Rets Tryd.prog (84 : Nat) { toList := [Value.slice q1 k1 k2] } w2 fun (v17 : Value) (w5 : World) =>
  ∃ (n2 : Int), v17 = Value.int IntKind.u64 n2 ∧ K (Value.int IntKind.u64 n2) w5)
theorem cortadoref01_Low_eq (x k : Int) (w : World) (K : Value → World → Prop) : fw Tryd.prog Tryd.f51 (annL [(1, [(6, some 3), (9, none), (10, none), (11, none), (12, none), (13, none), (14, none), (15, none), (16, none), (17, none), (18, none), (19, none), (20, none)]), (4, [(18, none), (19, none), (20, none)])]) (ordL []) [.int .u64 x, .int .i64 k] w K = cortadoref01_Low_m x k w K := by kernel_rfl
theorem cortadoref01_Low_go (x k : Int) {w : World} {K : Value → World → Prop} (h : cortadoref01_Low_m x k w K) : Rets Tryd.prog 51 #[.int .u64 x, .int .i64 k] w K :=
  calls_of_fw plain mixed Tryd.func51 (by kernel_rfl) (by rw [cortadoref01_Low_eq]; exact h)
def key_Number_m (n : Int) (w : World) (K : Value → World → Prop) : Prop :=
  NewR (35 : Nat) [Value.int IntKind.u64 (0 : Int), Value.int IntKind.u64 (0 : Int)] w fun (a1 : Addr) (w1 : World) =>
  Rets Tryd.prog (46 : Nat) { toList := [Value.int IntKind.u64 n] } w1 fun (v1 : Value) (w2 : World) =>
  ∃ (n1 : Int),
  v1 = Value.int IntKind.u64 n1 ∧
  Rets Tryd.prog (47 : Nat) { toList := [Value.int IntKind.u64 n] } w2 fun (v2 : Value) (w3 : World) =>
  ∃ (n2 : Int),
  v2 = Value.int IntKind.u64 n2 ∧
  StoreR a1 [Value.int IntKind.u64 n1, Value.int IntKind.u64 n2] w3 fun (w4 : World) =>
  ∃ (n3 : Int),
  ∃ (n4 : Int),
  (cellAt w4 (Addr.add a1 (0 : Nat)) (Value.int IntKind.u64 n3) ∧
  cellAt w4 (Addr.add a1 (1 : Nat)) (Value.int IntKind.u64 n4)) ∧
  K (Value.agg { toList := [Value.int IntKind.u64 n3, Value.int IntKind.u64 n4] }) w4
theorem key_Number_eq (n : Int) (w : World) (K : Value → World → Prop) : fw Tryd.prog Tryd.f20 (annL []) (ordL []) [.int .u64 n] w K = key_Number_m n w K := by kernel_rfl
theorem key_Number_go (n : Int) {w : World} {K : Value → World → Prop} (h : key_Number_m n w K) : Rets Tryd.prog 20 #[.int .u64 n] w K :=
  calls_of_fw plain mixed Tryd.func20 (by kernel_rfl) (by rw [key_Number_eq]; exact h)
def key_Int_m (n : Int) (w : World) (K : Value → World → Prop) : Prop :=
  NewR (35 : Nat) [Value.int IntKind.u64 (0 : Int), Value.int IntKind.u64 (0 : Int)] w fun (a1 : Addr) (w1 : World) =>
  Rets Tryd.prog (20 : Nat) { toList := [Value.int IntKind.u64 (IntKind.wrap IntKind.u64 n)] } w1
  fun (v1 : Value) (w2 : World) =>
  ∃ (n1 : Int),
  ∃ (n2 : Int),
  v1 = Value.agg { toList := [Value.int IntKind.u64 n1, Value.int IntKind.u64 n2] } ∧
  StoreR a1 [Value.int IntKind.u64 n1, Value.int IntKind.u64 n2] w2 fun (w3 : World) =>
  ∃ (n3 : Int),
  ∃ (n4 : Int),
  (cellAt w3 (Addr.add a1 (0 : Nat)) (Value.int IntKind.u64 n3) ∧
  cellAt w3 (Addr.add a1 (1 : Nat)) (Value.int IntKind.u64 n4)) ∧
  K (Value.agg { toList := [Value.int IntKind.u64 n3, Value.int IntKind.u64 n4] }) w3
theorem key_Int_eq (n : Int) (w : World) (K : Value → World → Prop) : fw Tryd.prog Tryd.f17 (annL []) (ordL []) [.int .i64 n] w K = key_Int_m n w K := by kernel_rfl
theorem key_Int_go (n : Int) {w : World} {K : Value → World → Prop} (h : key_Int_m n w K) : Rets Tryd.prog 17 #[.int .i64 n] w K :=
  calls_of_fw plain mixed Tryd.func17 (by kernel_rfl) (by rw [key_Int_eq]; exact h)
def key_Bytes_m (q : Option Addr) (l c : Nat) (w : World) (K : Value → World → Prop) : Prop :=
  NewR (35 : Nat) [Value.int IntKind.u64 (0 : Int), Value.int IntKind.u64 (0 : Int)] w fun (a1 : Addr) (w1 : World) =>
  Rets Tryd.prog (44 : Nat) { toList := [Value.slice q l c, Value.int IntKind.u64 (0 : Int)] } w1
  fun (v1 : Value) (w2 : World) =>
  ∃ (n1 : Int),
  v1 = Value.int IntKind.u64 n1 ∧
  Rets Tryd.prog (45 : Nat) { toList := [Value.int IntKind.u64 (14695981039346656037 : Int), Value.slice q l c] } w2
  fun (v2 : Value) (w3 : World) =>
  ∃ (n2 : Int),
  v2 = Value.int IntKind.u64 n2 ∧
  StoreR a1 [Value.int IntKind.u64 n1, Value.int IntKind.u64 n2] w3 fun (w4 : World) =>
  ∃ (n3 : Int),
  ∃ (n4 : Int),
  (cellAt w4 (Addr.add a1 (0 : Nat)) (Value.int IntKind.u64 n3) ∧
  cellAt w4 (Addr.add a1 (1 : Nat)) (Value.int IntKind.u64 n4)) ∧
  K (Value.agg { toList := [Value.int IntKind.u64 n3, Value.int IntKind.u64 n4] }) w4
theorem key_Bytes_eq (q : Option Addr) (l c : Nat) (w : World) (K : Value → World → Prop) : fw Tryd.prog Tryd.f18 (annL []) (ordL []) [.slice q l c] w K = key_Bytes_m q l c w K := by kernel_rfl
theorem key_Bytes_go (q : Option Addr) (l c : Nat) {w : World} {K : Value → World → Prop} (h : key_Bytes_m q l c w K) : Rets Tryd.prog 18 #[.slice q l c] w K :=
  calls_of_fw plain mixed Tryd.func18 (by kernel_rfl) (by rw [key_Bytes_eq]; exact h)
def key_Text_m (s : ByteArray) (w : World) (K : Value → World → Prop) : Prop :=
  NewR (35 : Nat) [Value.int IntKind.u64 (0 : Int), Value.int IntKind.u64 (0 : Int)] w fun (a1 : Addr) (w1 : World) =>
  RunR Tryd.prog (convert (9 : Nat) (32 : Nat) (Value.string s)) w1 fun (v1 : Value) (w2 : World) =>
  ∃ (q1 : Option Addr),
  ∃ (k1 : Nat),
  ∃ (k2 : Nat),
  v1 = Value.slice q1 k1 k2 ∧
  Rets Tryd.prog (18 : Nat) { toList := [Value.slice q1 k1 k2] } w2 fun (v2 : Value) (w3 : World) =>
  ∃ (n1 : Int),
  ∃ (n2 : Int),
  v2 = Value.agg { toList := [Value.int IntKind.u64 n1, Value.int IntKind.u64 n2] } ∧
  StoreR a1 [Value.int IntKind.u64 n1, Value.int IntKind.u64 n2] w3 fun (w4 : World) =>
  ∃ (n3 : Int),
  ∃ (n4 : Int),
  (cellAt w4 (Addr.add a1 (0 : Nat)) (Value.int IntKind.u64 n3) ∧
  cellAt w4 (Addr.add a1 (1 : Nat)) (Value.int IntKind.u64 n4)) ∧
  K (Value.agg { toList := [Value.int IntKind.u64 n3, Value.int IntKind.u64 n4] }) w4
theorem key_Text_eq (s : ByteArray) (w : World) (K : Value → World → Prop) : fw Tryd.prog Tryd.f22 (annL []) (ordL []) [.string s] w K = key_Text_m s w K := by kernel_rfl
theorem key_Text_go (s : ByteArray) {w : World} {K : Value → World → Prop} (h : key_Text_m s w K) : Rets Tryd.prog 22 #[.string s] w K :=
  calls_of_fw plain mixed Tryd.func22 (by kernel_rfl) (by rw [key_Text_eq]; exact h)
def key_Cut_m (a b k : Int) (w : World) (K : Value → World → Prop) : Prop :=
  NewR (35 : Nat) [Value.int IntKind.u64 a, Value.int IntKind.u64 b] w fun (a1 : Addr) (w1 : World) =>
  NewR (35 : Nat) [Value.int IntKind.u64 (0 : Int), Value.int IntKind.u64 (0 : Int)] w1 fun (a2 : Addr) (w2 : World) =>
  ∃ (n1 : Int),
  cellAt w2 (Addr.add a1 (0 : Nat)) (Value.int IntKind.u64 n1) ∧
  Rets Tryd.prog (50 : Nat) { toList := [Value.int IntKind.u64 n1, Value.int IntKind.i64 k] } w2
  fun (v1 : Value) (w3 : World) =>
  ∃ (n2 : Int),
  v1 = Value.int IntKind.u64 n2 ∧
  StoreR (Addr.add a1 (0 : Nat)) [Value.int IntKind.u64 n2] w3 fun (w4 : World) =>
  ∃ (n3 : Int),
  ∃ (n4 : Int),
  (cellAt w4 (Addr.add a1 (0 : Nat)) (Value.int IntKind.u64 n3) ∧
  cellAt w4 (Addr.add a1 (1 : Nat)) (Value.int IntKind.u64 n4)) ∧
  StoreR a2 [Value.int IntKind.u64 n3, Value.int IntKind.u64 n4] w4 fun (w5 : World) =>
  ∃ (n5 : Int),
  ∃ (n6 : Int),
  (cellAt w5 (Addr.add a2 (0 : Nat)) (Value.int IntKind.u64 n5) ∧
  cellAt w5 (Addr.add a2 (1 : Nat)) (Value.int IntKind.u64 n6)) ∧
  K (Value.agg { toList := [Value.int IntKind.u64 n5, Value.int IntKind.u64 n6] }) w5
theorem key_Cut_eq (a b k : Int) (w : World) (K : Value → World → Prop) : fw Tryd.prog Tryd.f23 (annL []) (ordL []) [.agg #[.int .u64 a, .int .u64 b], .int .i64 k] w K = key_Cut_m a b k w K := by kernel_rfl
theorem key_Cut_go (a b k : Int) {w : World} {K : Value → World → Prop} (h : key_Cut_m a b k w K) : Rets Tryd.prog 23 #[.agg #[.int .u64 a, .int .u64 b], .int .i64 k] w K :=
  calls_of_fw plain mixed Tryd.func23 (by kernel_rfl) (by rw [key_Cut_eq]; exact h)
def key_Shard_m (hh : Int) (w : World) (K : Value → World → Prop) : Prop :=
  (256 : Int) ≠ (0 : Int) ∧ K (Value.int IntKind.i64 (IntKind.wrap IntKind.i64 (Int.tmod hh (256 : Int)))) w
theorem key_Shard_eq (hh : Int) (w : World) (K : Value → World → Prop) : fw Tryd.prog Tryd.f25 (annL []) (ordL []) [.int .u64 hh] w K = key_Shard_m hh w K := by kernel_rfl
theorem key_Shard_go (hh : Int) {w : World} {K : Value → World → Prop} (h : key_Shard_m hh w K) : Rets Tryd.prog 25 #[.int .u64 hh] w K :=
  calls_of_fw plain mixed Tryd.func25 (by kernel_rfl) (by rw [key_Shard_eq]; exact h)
def cortadoref06_Number_m (n : Int) (w : World) (K : Value → World → Prop) : Prop :=
  NewR (35 : Nat) [Value.int IntKind.u64 (0 : Int), Value.int IntKind.u64 (0 : Int)] w fun (a1 : Addr) (w1 : World) =>
  Rets Tryd.prog (69 : Nat) { toList := [Value.int IntKind.u64 n] } w1 fun (v1 : Value) (w2 : World) =>
  ∃ (n1 : Int),
  v1 = Value.int IntKind.u64 n1 ∧
  Rets Tryd.prog (70 : Nat) { toList := [Value.int IntKind.u64 n] } w2 fun (v2 : Value) (w3 : World) =>
  ∃ (n2 : Int),
  v2 = Value.int IntKind.u64 n2 ∧
  StoreR a1 [Value.int IntKind.u64 n1, Value.int IntKind.u64 n2] w3 fun (w4 : World) =>
  ∃ (n3 : Int),
  ∃ (n4 : Int),
  (cellAt w4 (Addr.add a1 (0 : Nat)) (Value.int IntKind.u64 n3) ∧
  cellAt w4 (Addr.add a1 (1 : Nat)) (Value.int IntKind.u64 n4)) ∧
  K (Value.agg { toList := [Value.int IntKind.u64 n3, Value.int IntKind.u64 n4] }) w4
theorem cortadoref06_Number_eq (n : Int) (w : World) (K : Value → World → Prop) : fw Tryd.prog Tryd.f43 (annL []) (ordL []) [.int .u64 n] w K = cortadoref06_Number_m n w K := by kernel_rfl
theorem cortadoref06_Number_go (n : Int) {w : World} {K : Value → World → Prop} (h : cortadoref06_Number_m n w K) : Rets Tryd.prog 43 #[.int .u64 n] w K :=
  calls_of_fw plain mixed Tryd.func43 (by kernel_rfl) (by rw [cortadoref06_Number_eq]; exact h)
def cortadoref06_Int_m (n : Int) (w : World) (K : Value → World → Prop) : Prop :=
  NewR (35 : Nat) [Value.int IntKind.u64 (0 : Int), Value.int IntKind.u64 (0 : Int)] w fun (a1 : Addr) (w1 : World) =>
  Rets Tryd.prog (43 : Nat) { toList := [Value.int IntKind.u64 (IntKind.wrap IntKind.u64 n)] } w1
  fun (v1 : Value) (w2 : World) =>
  ∃ (n1 : Int),
  ∃ (n2 : Int),
  v1 = Value.agg { toList := [Value.int IntKind.u64 n1, Value.int IntKind.u64 n2] } ∧
  StoreR a1 [Value.int IntKind.u64 n1, Value.int IntKind.u64 n2] w2 fun (w3 : World) =>
  ∃ (n3 : Int),
  ∃ (n4 : Int),
  (cellAt w3 (Addr.add a1 (0 : Nat)) (Value.int IntKind.u64 n3) ∧
  cellAt w3 (Addr.add a1 (1 : Nat)) (Value.int IntKind.u64 n4)) ∧
  K (Value.agg { toList := [Value.int IntKind.u64 n3, Value.int IntKind.u64 n4] }) w3
theorem cortadoref06_Int_eq (n : Int) (w : World) (K : Value → World → Prop) : fw Tryd.prog Tryd.f19 (annL []) (ordL []) [.int .i64 n] w K = cortadoref06_Int_m n w K := by kernel_rfl
theorem cortadoref06_Int_go (n : Int) {w : World} {K : Value → World → Prop} (h : cortadoref06_Int_m n w K) : Rets Tryd.prog 19 #[.int .i64 n] w K :=
  calls_of_fw plain mixed Tryd.func19 (by kernel_rfl) (by rw [cortadoref06_Int_eq]; exact h)
def cortadoref06_Bytes_m (q : Option Addr) (l c : Nat) (w : World) (K : Value → World → Prop) : Prop :=
  NewR (35 : Nat) [Value.int IntKind.u64 (0 : Int), Value.int IntKind.u64 (0 : Int)] w fun (a1 : Addr) (w1 : World) =>
  Drw w1 fun (w2 : World) =>
  ∃ (h1 : World → Prop),
  h1 w2 ∧
  ∃ (v1 : Value),
  SameRun Tryd.prog h1 (convert (32 : Nat) (9 : Nat) (Value.slice q l c)) v1 ∧
  ∃ (s1 : ByteArray),
  v1 = Value.string s1 ∧
  Rets Tryd.prog (48 : Nat) { toList := [Value.slice q l c, Value.int IntKind.u64 (0 : Int)] } w2
  fun (v2 : Value) (w3 : World) =>
  ∃ (n1 : Int),
  v2 = Value.int IntKind.u64 n1 ∧
  h1 w3 ∧
  Rets Tryd.prog (49 : Nat) { toList := [Value.string s1] } w3 fun (v3 : Value) (w4 : World) =>
  ∃ (n2 : Int),
  v3 = Value.int IntKind.u64 n2 ∧
  StoreR a1 [Value.int IntKind.u64 n1, Value.int IntKind.u64 n2] w4 fun (w5 : World) =>
  ∃ (n3 : Int),
  ∃ (n4 : Int),
  (cellAt w5 (Addr.add a1 (0 : Nat)) (Value.int IntKind.u64 n3) ∧
  cellAt w5 (Addr.add a1 (1 : Nat)) (Value.int IntKind.u64 n4)) ∧
  K (Value.agg { toList := [Value.int IntKind.u64 n3, Value.int IntKind.u64 n4] }) w5
theorem cortadoref06_Bytes_eq (q : Option Addr) (l c : Nat) (w : World) (K : Value → World → Prop) : fw Tryd.prog Tryd.f21 (annL []) (ordL [(1, [(0, 0), (2, 0), (3, 1), (1, 2), (4, 3), (5, 0), (6, 3)])]) [.slice q l c] w K = cortadoref06_Bytes_m q l c w K := by kernel_rfl
theorem cortadoref06_Bytes_go (q : Option Addr) (l c : Nat) {w : World} {K : Value → World → Prop} (h : cortadoref06_Bytes_m q l c w K) : Rets Tryd.prog 21 #[.slice q l c] w K :=
  calls_of_fw plain mixed Tryd.func21 (by kernel_rfl) (by rw [cortadoref06_Bytes_eq]; exact h)
def cortadoref06_Cut_m (a b k : Int) (w : World) (K : Value → World → Prop) : Prop :=
  NewR (35 : Nat) [Value.int IntKind.u64 a, Value.int IntKind.u64 b] w fun (a1 : Addr) (w1 : World) =>
  NewR (35 : Nat) [Value.int IntKind.u64 (0 : Int), Value.int IntKind.u64 (0 : Int)] w1 fun (a2 : Addr) (w2 : World) =>
  Drw w2 fun (w3 : World) =>
  ∃ (h1 : World → Prop),
  h1 w3 ∧
  ∃ (n1 : Int),
  (∀ (w4 : World), h1 w4 → World.cell? w4 (Addr.add a1 (0 : Nat)) = some (Value.int IntKind.u64 n1)) ∧
  ∃ (n2 : Int),
  (∀ (w5 : World), h1 w5 → World.cell? w5 (Addr.add a1 (1 : Nat)) = some (Value.int IntKind.u64 n2)) ∧
  Rets Tryd.prog (51 : Nat) { toList := [Value.int IntKind.u64 n1, Value.int IntKind.i64 k] } w3
  fun (v1 : Value) (w6 : World) =>
  ∃ (n3 : Int),
  v1 = Value.int IntKind.u64 n3 ∧
  h1 w6 ∧
  StoreR a2 [Value.int IntKind.u64 n3, Value.int IntKind.u64 n2] w6 fun (w7 : World) =>
  ∃ (n4 : Int),
  ∃ (n5 : Int),
  (cellAt w7 (Addr.add a2 (0 : Nat)) (Value.int IntKind.u64 n4) ∧
  cellAt w7 (Addr.add a2 (1 : Nat)) (Value.int IntKind.u64 n5)) ∧
  K (Value.agg { toList := [Value.int IntKind.u64 n4, Value.int IntKind.u64 n5] }) w7
theorem cortadoref06_Cut_eq (a b k : Int) (w : World) (K : Value → World → Prop) : fw Tryd.prog Tryd.f24 (annL []) (ordL [(1, [(0, 0), (2, 0), (4, 0), (1, 1), (5, 1), (3, 2), (6, 0), (7, 3)])]) [.agg #[.int .u64 a, .int .u64 b], .int .i64 k] w K = cortadoref06_Cut_m a b k w K := by kernel_rfl
theorem cortadoref06_Cut_go (a b k : Int) {w : World} {K : Value → World → Prop} (h : cortadoref06_Cut_m a b k w K) : Rets Tryd.prog 24 #[.agg #[.int .u64 a, .int .u64 b], .int .i64 k] w K :=
  calls_of_fw plain mixed Tryd.func24 (by kernel_rfl) (by rw [cortadoref06_Cut_eq]; exact h)
def cortadolaw06_awake_m  (w : World) (K : Value → World → Prop) : Prop :=
  Rets Tryd.prog (25 : Nat) { toList := [Value.int IntKind.u64 (515 : Int)] } w fun (v1 : Value) (w1 : World) =>
  ∃ (n1 : Int),
  v1 = Value.int IntKind.i64 n1 ∧
  ((n1 == (3 : Int)) = true →
  Rets Tryd.prog (20 : Nat) { toList := [Value.int IntKind.u64 (1 : Int)] } w1 fun (v2 : Value) (w2 : World) =>
  ∃ (n2 : Int),
  ∃ (n3 : Int),
  v2 = Value.agg { toList := [Value.int IntKind.u64 n2, Value.int IntKind.u64 n3] } ∧
  Rets Tryd.prog (43 : Nat) { toList := [Value.int IntKind.u64 (1 : Int)] } w2 fun (v3 : Value) (w3 : World) =>
  ∃ (n4 : Int),
  ∃ (n5 : Int),
  v3 = Value.agg { toList := [Value.int IntKind.u64 n4, Value.int IntKind.u64 n5] } ∧
  K (Value.bool (n2 == n4 && n3 == n5)) w3) ∧
  ((n1 == (3 : Int)) = false → K (Value.bool false) w1)
theorem cortadolaw06_awake_eq  (w : World) (K : Value → World → Prop) : fw Tryd.prog Tryd.f16 (annL []) (ordL []) [] w K = cortadolaw06_awake_m  w K := by kernel_rfl
theorem cortadolaw06_awake_go  {w : World} {K : Value → World → Prop} (h : cortadolaw06_awake_m  w K) : Rets Tryd.prog 16 #[] w K :=
  calls_of_fw plain mixed Tryd.func16 (by kernel_rfl) (by rw [cortadolaw06_awake_eq]; exact h)
end Go.Proofs.YtipcbhaeoeghnaaDoor.Eng
