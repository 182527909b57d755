/- What the code of these functions asks for: printed by a program of this session's (gens.py) out of the seat's own functions; the kernel checks each row. -/
import Derived.Test.YtfcddffcjmgpkaaDoorEngH
import Derived.Test.YtfcddffcjmgpkaaDoorProg
import Derived.Test.YtfcddffcjmgpkaaDoorBase
namespace Go.Proofs.YtfcddffcjmgpkaaDoor.Eng
open Go Go.Proofs
set_option linter.unusedVariables false
set_option maxRecDepth 1000000
def word_Log_m (x : Int) (w : World) (K : Value → World → Prop) : Prop :=
  ∃ (h1 : Nat → List Value → World → Prop),
  (∃ (k1 : Nat), h1 k1 [Value.int IntKind.u64 x, Value.int IntKind.i64 (-1 : Int)] w) ∧
  ∀ (k2 : Nat) (w1 : World) (n1 n2 : Int) (v1 v2 v3 v4 v5 v6 : Value),
  h1 k2 [Value.int IntKind.u64 n1, Value.int IntKind.i64 n2] w1 →
  ((n1 != (0 : Int)) = true →
  (0 : Int) ≤ (1 : Int) ∧
  ∃ (k3 : Nat),
  k3 < k2 ∧
  h1 k3
  [Value.int IntKind.u64 (shrI IntKind.u64 n1 (1 : Int)),
  Value.int IntKind.i64 (IntKind.wrap IntKind.i64 (n2 + (1 : Int)))]
  w1) ∧
  ((n1 != (0 : Int)) = false → K (Value.int IntKind.i64 n2) w1)
theorem word_Log_eq (x : Int) (w : World) (K : Value → World → Prop) : fw Tryd.prog Tryd.f28 (annL [(1, [(0, some 22), (3, some 3), (4, none), (5, none), (6, none), (7, none), (8, none), (9, none)])]) (ordL []) [.int .u64 x] w K = word_Log_m x w K := by kernel_rfl
theorem word_Log_go (x : Int) {w : World} {K : Value → World → Prop} (h : word_Log_m x w K) : Rets Tryd.prog 28 #[.int .u64 x] w K :=
  calls_of_fw plain mixed Tryd.func28 (by kernel_rfl) (by rw [word_Log_eq]; exact h)
def word_Power_m (n : Int) (w : World) (K : Value → World → Prop) : Prop :=
  Rets Tryd.prog (28 : Nat)
  {
  toList :=
  [Value.int IntKind.u64
  (IntKind.wrap IntKind.u64
  (IntKind.wrap IntKind.i64 (maxI (1 : Int) (minI n (4611686018427387904 : Int)) - (1 : Int))))] }
  w fun (v1 : Value) (w1 : World) =>
  ∃ (n1 : Int),
  v1 = Value.int IntKind.i64 n1 ∧
  (0 : Int) ≤ IntKind.wrap IntKind.i64 (n1 + (1 : Int)) ∧
  K (Value.int IntKind.i64 (shlI IntKind.i64 (1 : Int) (IntKind.wrap IntKind.i64 (n1 + (1 : Int))))) w1
theorem word_Power_eq (n : Int) (w : World) (K : Value → World → Prop) : fw Tryd.prog Tryd.f20 (annL []) (ordL []) [.int .i64 n] w K = word_Power_m n w K := by kernel_rfl
theorem word_Power_go (n : Int) {w : World} {K : Value → World → Prop} (h : word_Power_m n w K) : Rets Tryd.prog 20 #[.int .i64 n] w K :=
  calls_of_fw plain mixed Tryd.func20 (by kernel_rfl) (by rw [word_Power_eq]; exact h)
def cortadoref01_Power_m (n : Int) (w : World) (K : Value → World → Prop) : Prop :=
  ∃ (h1 : Nat → List Value → World → Prop),
  (∃ (k1 : Nat), h1 k1 [Value.int IntKind.i64 (1 : Int), Value.int IntKind.i64 (0 : Int)] w) ∧
  ∀ (k2 : Nat) (w1 : World) (n1 n2 : Int) (v1 v2 v3 v4 v5 v6 v7 v8 v9 v10 v11 : Value),
  h1 k2 [Value.int IntKind.i64 n1, Value.int IntKind.i64 n2] w1 →
  (decide (n2 < (62 : Int)) = true →
  (decide (n1 < n) = true →
  ∃ (k3 : Nat),
  k3 < k2 ∧
  h1 k3
  [Value.int IntKind.i64 (IntKind.wrap IntKind.i64 ((2 : Int) * n1)),
  Value.int IntKind.i64 (IntKind.wrap IntKind.i64 (n2 + (1 : Int)))]
  w1) ∧
  (decide (n1 < n) = false → K (Value.int IntKind.i64 n1) w1)) ∧
  (decide (n2 < (62 : Int)) = false → K (Value.int IntKind.i64 n1) w1)
theorem cortadoref01_Power_eq (n : Int) (w : World) (K : Value → World → Prop) : fw Tryd.prog Tryd.f22 (annL [(1, [(3, some 3), (4, some 3), (5, none), (6, none), (7, none), (8, none), (9, none), (10, none), (11, none), (12, none), (13, none), (14, none), (15, none)])]) (ordL []) [.int .i64 n] w K = cortadoref01_Power_m n w K := by kernel_rfl
theorem cortadoref01_Power_go (n : Int) {w : World} {K : Value → World → Prop} (h : cortadoref01_Power_m n w K) : Rets Tryd.prog 22 #[.int .i64 n] w K :=
  calls_of_fw plain mixed Tryd.func22 (by kernel_rfl) (by rw [cortadoref01_Power_eq]; exact h)
def door_New_m (k s : Int) (w : World) (K : Value → World → Prop) : Prop :=
  Rets Tryd.prog (20 : Nat)
  { toList := [Value.int IntKind.i64 (IntKind.wrap IntKind.i64 ((8 : Int) * maxI (1 : Int) (minI k (4096 : Int))))] } w
  fun (v1 : Value) (w1 : World) =>
  ∃ (n1 : Int),
  v1 = Value.int IntKind.i64 n1 ∧
  Drw w1 fun (w2 : World) =>
  (64 : Int) ≠ (0 : Int) ∧
  (MakeR (22 : Nat) [Value.int IntKind.u64 (0 : Int)] (8 : Nat)
  (IntKind.wrap IntKind.i64
  (Int.tdiv (IntKind.wrap IntKind.i64 (IntKind.wrap IntKind.i64 (n1 + (64 : Int)) - (1 : Int))) (64 : Int)))
  (IntKind.wrap IntKind.i64
  (Int.tdiv (IntKind.wrap IntKind.i64 (IntKind.wrap IntKind.i64 (n1 + (64 : Int)) - (1 : Int))) (64 : Int)))
  w2 fun (a1 : Addr) (w3 : World) =>
  Rets Tryd.prog (21 : Nat) { toList := [Value.int IntKind.u64 s] } w3 fun (v2 : Value) (w4 : World) =>
  ∃ (n2 : Int),
  v2 = Value.int IntKind.u64 n2 ∧
  NewR (47 : Nat)
  [Value.slice (some a1)
  (Int.toNat
  (IntKind.wrap IntKind.i64
  (Int.tdiv (IntKind.wrap IntKind.i64 (IntKind.wrap IntKind.i64 (n1 + (64 : Int)) - (1 : Int))) (64 : Int))))
  (Int.toNat
  (IntKind.wrap IntKind.i64
  (Int.tdiv (IntKind.wrap IntKind.i64 (IntKind.wrap IntKind.i64 (n1 + (64 : Int)) - (1 : Int))) (64 : Int)))),
  Value.int IntKind.i64 n1, Value.int IntKind.u64 n2]
  w4 fun (a2 : Addr) (w5 : World) => K (Value.pointer (some a2)) w5) ∧
  Rets Tryd.prog (21 : Nat) { toList := [Value.int IntKind.u64 s] } w2 fun (v3 : Value) (w6 : World) =>
  ∃ (n3 : Int),
  v3 = Value.int IntKind.u64 n3 ∧
  MakeR (22 : Nat) [Value.int IntKind.u64 (0 : Int)] (8 : Nat)
  (IntKind.wrap IntKind.i64
  (Int.tdiv (IntKind.wrap IntKind.i64 (IntKind.wrap IntKind.i64 (n1 + (64 : Int)) - (1 : Int))) (64 : Int)))
  (IntKind.wrap IntKind.i64
  (Int.tdiv (IntKind.wrap IntKind.i64 (IntKind.wrap IntKind.i64 (n1 + (64 : Int)) - (1 : Int))) (64 : Int)))
  w6 fun (a3 : Addr) (w7 : World) =>
  NewR (47 : Nat)
  [Value.slice (some a3)
  (Int.toNat
  (IntKind.wrap IntKind.i64
  (Int.tdiv (IntKind.wrap IntKind.i64 (IntKind.wrap IntKind.i64 (n1 + (64 : Int)) - (1 : Int))) (64 : Int))))
  (Int.toNat
  (IntKind.wrap IntKind.i64
  (Int.tdiv (IntKind.wrap IntKind.i64 (IntKind.wrap IntKind.i64 (n1 + (64 : Int)) - (1 : Int))) (64 : Int)))),
  Value.int IntKind.i64 n1, Value.int IntKind.u64 n3]
  w7 fun (a4 : Addr) (w8 : World) => K (Value.pointer (some a4)) w8
theorem door_New_eq (k s : Int) (w : World) (K : Value → World → Prop) : fw Tryd.prog Tryd.f6 (annL []) (ordL [(2, [(0, 0), (1, 0), (2, 0), (3, 0), (5, 0), (6, 0), (0, 6), (4, 3), (7, 3), (8, 0), (9, 3), (10, 0), (0, 7), (7, 3), (4, 3), (8, 0), (9, 3), (10, 0), (0, 7)])]) [.int .i64 k, .int .u64 s] w K = door_New_m k s w K := by kernel_rfl
theorem door_New_go (k s : Int) {w : World} {K : Value → World → Prop} (h : door_New_m k s w K) : Rets Tryd.prog 6 #[.int .i64 k, .int .u64 s] w K :=
  calls_of_fw plain mixed Tryd.func6 (by kernel_rfl) (by rw [door_New_eq]; exact h)
def door_Door_Bits_m (g : Nat) (w : World) (K : Value → World → Prop) : Prop :=
  (false = true → K (Value.int IntKind.i64 (0 : Int)) w) ∧
  (false = false →
  ∃ (n1 : Int),
  cellAt w (Addr.add { block := g, off := (0 : Nat) } (1 : Nat)) (Value.int IntKind.i64 n1) ∧
  K (Value.int IntKind.i64 n1) w)
theorem door_Door_Bits_eq (g : Nat) (w : World) (K : Value → World → Prop) : fw Tryd.prog Tryd.f17 (annL []) (ordL []) [.pointer (some ⟨g, 0, none⟩)] w K = door_Door_Bits_m g w K := by kernel_rfl
theorem door_Door_Bits_go (g : Nat) {w : World} {K : Value → World → Prop} (h : door_Door_Bits_m g w K) : Rets Tryd.prog 17 #[.pointer (some ⟨g, 0, none⟩)] w K :=
  calls_of_fw plain mixed Tryd.func17 (by kernel_rfl) (by rw [door_Door_Bits_eq]; exact h)
def door_nil_Bits_m  (w : World) (K : Value → World → Prop) : Prop :=
  (true = true → K (Value.int IntKind.i64 (0 : Int)) w) ∧ (true = false → False)
theorem door_nil_Bits_eq  (w : World) (K : Value → World → Prop) : fw Tryd.prog Tryd.f17 (annL []) (ordL []) [.pointer none] w K = door_nil_Bits_m  w K := by kernel_rfl
theorem door_nil_Bits_go  {w : World} {K : Value → World → Prop} (h : door_nil_Bits_m  w K) : Rets Tryd.prog 17 #[.pointer none] w K :=
  calls_of_fw plain mixed Tryd.func17 (by kernel_rfl) (by rw [door_nil_Bits_eq]; exact h)
def door_Door_Places_m (g : Nat) (hh : Int) (w : World) (K : Value → World → Prop) : Prop :=
  NewR (31 : Nat)
  [Value.int IntKind.i64 (0 : Int), Value.int IntKind.i64 (0 : Int), Value.int IntKind.i64 (0 : Int),
  Value.int IntKind.i64 (0 : Int)]
  w fun (a1 : Addr) (w1 : World) =>
  (false = true →
  ∃ (n1 : Int),
  ∃ (n2 : Int),
  ∃ (n3 : Int),
  ∃ (n4 : Int),
  (cellAt w1 (Addr.add a1 (0 : Nat)) (Value.int IntKind.i64 n1) ∧
  cellAt w1 (Addr.add a1 (1 : Nat)) (Value.int IntKind.i64 n2) ∧
  cellAt w1 (Addr.add a1 (2 : Nat)) (Value.int IntKind.i64 n3) ∧
  cellAt w1 (Addr.add a1 (3 : Nat)) (Value.int IntKind.i64 n4)) ∧
  StoreR a1 [Value.int IntKind.i64 n1, Value.int IntKind.i64 n2, Value.int IntKind.i64 n3, Value.int IntKind.i64 n4] w1
  fun (w2 : World) =>
  ∃ (n5 : Int),
  ∃ (n6 : Int),
  ∃ (n7 : Int),
  ∃ (n8 : Int),
  (cellAt w2 (Addr.add a1 (0 : Nat)) (Value.int IntKind.i64 n5) ∧
  cellAt w2 (Addr.add a1 (1 : Nat)) (Value.int IntKind.i64 n6) ∧
  cellAt w2 (Addr.add a1 (2 : Nat)) (Value.int IntKind.i64 n7) ∧
  cellAt w2 (Addr.add a1 (3 : Nat)) (Value.int IntKind.i64 n8)) ∧
  K
  (Value.agg
  { toList := [Value.int IntKind.i64 n5, Value.int IntKind.i64 n6, Value.int IntKind.i64 n7, Value.int IntKind.i64 n8] })
  w2) ∧
  (false = false →
  ∃ (n9 : Int),
  cellAt w1 (Addr.add { block := g, off := (0 : Nat) } (2 : Nat)) (Value.int IntKind.u64 n9) ∧
  Rets Tryd.prog (21 : Nat) { toList := [Value.int IntKind.u64 (bits BinOp.xor IntKind.u64 hh n9)] } w1
  fun (v1 : Value) (w3 : World) =>
  ∃ (n10 : Int),
  v1 = Value.int IntKind.u64 n10 ∧
  Rets Tryd.prog (23 : Nat) { toList := [Value.int IntKind.u64 (bits BinOp.xor IntKind.u64 hh n9)] } w3
  fun (v2 : Value) (w4 : World) =>
  ∃ (n11 : Int),
  v2 = Value.int IntKind.u64 n11 ∧
  ∃ (h1 : Nat → List Value → World → Prop),
  (∃ (k1 : Nat), h1 k1 [Value.int IntKind.u64 n10, Value.int IntKind.i64 (0 : Int)] w4) ∧
  ∀ (k2 : Nat) (w5 : World) (n12 : Int) (v3 : Value) (n13 : Int)
  (v4 v5 v6 v7 v8 v9 v10 v11 v12 v13 v14 v15 v16 v17 v18 v19 v20 : Value),
  h1 k2 [Value.int IntKind.u64 n12, Value.int IntKind.i64 n13] w5 →
  (decide (n13 < (4 : Int)) = true →
  ∃ (n14 : Int),
  cellAt w5 (Addr.add { block := g, off := (0 : Nat) } (1 : Nat)) (Value.int IntKind.i64 n14) ∧
  (0 : Int) ≤ n13 ∧
  n13 < (↑(4 : Nat) : Int) ∧
  StoreR (Addr.add a1 (Int.toNat n13 * (1 : Nat)))
  [Value.int IntKind.i64
  (IntKind.wrap IntKind.i64
  (bits BinOp.and IntKind.u64 n12 (IntKind.wrap IntKind.u64 (IntKind.wrap IntKind.i64 (n14 - (1 : Int))))))]
  w5 fun (w6 : World) =>
  ∃ (k3 : Nat),
  k3 < k2 ∧
  h1 k3
  [Value.int IntKind.u64 (IntKind.wrap IntKind.u64 (n12 + bits BinOp.or IntKind.u64 n11 (1 : Int))),
  Value.int IntKind.i64 (IntKind.wrap IntKind.i64 (n13 + (1 : Int)))]
  w6) ∧
  (decide (n13 < (4 : Int)) = false →
  ∃ (n15 : Int),
  ∃ (n16 : Int),
  ∃ (n17 : Int),
  ∃ (n18 : Int),
  (cellAt w5 (Addr.add a1 (0 : Nat)) (Value.int IntKind.i64 n15) ∧
  cellAt w5 (Addr.add a1 (1 : Nat)) (Value.int IntKind.i64 n16) ∧
  cellAt w5 (Addr.add a1 (2 : Nat)) (Value.int IntKind.i64 n17) ∧
  cellAt w5 (Addr.add a1 (3 : Nat)) (Value.int IntKind.i64 n18)) ∧
  StoreR a1 [Value.int IntKind.i64 n15, Value.int IntKind.i64 n16, Value.int IntKind.i64 n17, Value.int IntKind.i64 n18]
  w5 fun (w7 : World) =>
  ∃ (n19 : Int),
  ∃ (n20 : Int),
  ∃ (n21 : Int),
  ∃ (n22 : Int),
  (cellAt w7 (Addr.add a1 (0 : Nat)) (Value.int IntKind.i64 n19) ∧
  cellAt w7 (Addr.add a1 (1 : Nat)) (Value.int IntKind.i64 n20) ∧
  cellAt w7 (Addr.add a1 (2 : Nat)) (Value.int IntKind.i64 n21) ∧
  cellAt w7 (Addr.add a1 (3 : Nat)) (Value.int IntKind.i64 n22)) ∧
  K
  (Value.agg
  {
  toList :=
  [Value.int IntKind.i64 n19, Value.int IntKind.i64 n20, Value.int IntKind.i64 n21, Value.int IntKind.i64 n22] })
  w7))
theorem door_Door_Places_eq (g : Nat) (hh : Int) (w : World) (K : Value → World → Prop) : fw Tryd.prog Tryd.f8 (annL [(2, [(6, some 22), (8, none), (23, some 3), (24, none), (25, none), (26, none), (27, none), (28, none), (29, none), (30, none), (31, none), (32, none), (33, none), (34, none), (35, none), (36, none), (37, none), (38, none), (39, none), (40, none)])]) (ordL []) [.pointer (some ⟨g, 0, none⟩), .int .u64 hh] w K = door_Door_Places_m g hh w K := by kernel_rfl
theorem door_Door_Places_go (g : Nat) (hh : Int) {w : World} {K : Value → World → Prop} (h : door_Door_Places_m g hh w K) : Rets Tryd.prog 8 #[.pointer (some ⟨g, 0, none⟩), .int .u64 hh] w K :=
  calls_of_fw plain mixed Tryd.func8 (by kernel_rfl) (by rw [door_Door_Places_eq]; exact h)
def door_nil_Places_m (hh : Int) (w : World) (K : Value → World → Prop) : Prop :=
  NewR (31 : Nat)
  [Value.int IntKind.i64 (0 : Int), Value.int IntKind.i64 (0 : Int), Value.int IntKind.i64 (0 : Int),
  Value.int IntKind.i64 (0 : Int)]
  w fun (a1 : Addr) (w1 : World) =>
  (true = true →
  ∃ (n1 : Int),
  ∃ (n2 : Int),
  ∃ (n3 : Int),
  ∃ (n4 : Int),
  (cellAt w1 (Addr.add a1 (0 : Nat)) (Value.int IntKind.i64 n1) ∧
  cellAt w1 (Addr.add a1 (1 : Nat)) (Value.int IntKind.i64 n2) ∧
  cellAt w1 (Addr.add a1 (2 : Nat)) (Value.int IntKind.i64 n3) ∧
  cellAt w1 (Addr.add a1 (3 : Nat)) (Value.int IntKind.i64 n4)) ∧
  StoreR a1 [Value.int IntKind.i64 n1, Value.int IntKind.i64 n2, Value.int IntKind.i64 n3, Value.int IntKind.i64 n4] w1
  fun (w2 : World) =>
  ∃ (n5 : Int),
  ∃ (n6 : Int),
  ∃ (n7 : Int),
  ∃ (n8 : Int),
  (cellAt w2 (Addr.add a1 (0 : Nat)) (Value.int IntKind.i64 n5) ∧
  cellAt w2 (Addr.add a1 (1 : Nat)) (Value.int IntKind.i64 n6) ∧
  cellAt w2 (Addr.add a1 (2 : Nat)) (Value.int IntKind.i64 n7) ∧
  cellAt w2 (Addr.add a1 (3 : Nat)) (Value.int IntKind.i64 n8)) ∧
  K
  (Value.agg
  { toList := [Value.int IntKind.i64 n5, Value.int IntKind.i64 n6, Value.int IntKind.i64 n7, Value.int IntKind.i64 n8] })
  w2) ∧
  (true = false → False)
theorem door_nil_Places_eq (hh : Int) (w : World) (K : Value → World → Prop) : fw Tryd.prog Tryd.f8 (annL [(2, [(6, some 22), (8, none), (23, some 3), (24, none), (25, none), (26, none), (27, none), (28, none), (29, none), (30, none), (31, none), (32, none), (33, none), (34, none), (35, none), (36, none), (37, none), (38, none), (39, none), (40, none)])]) (ordL []) [.pointer none, .int .u64 hh] w K = door_nil_Places_m hh w K := by kernel_rfl
theorem door_nil_Places_go (hh : Int) {w : World} {K : Value → World → Prop} (h : door_nil_Places_m hh w K) : Rets Tryd.prog 8 #[.pointer none, .int .u64 hh] w K :=
  calls_of_fw plain mixed Tryd.func8 (by kernel_rfl) (by rw [door_nil_Places_eq]; exact h)
def door_Door_is_m (g : Nat) (at_ : Int) (w : World) (K : Value → World → Prop) : Prop :=
  ∃ (q1 : Option Addr),
  ∃ (k1 : Nat),
  ∃ (k2 : Nat),
  cellAt w (Addr.add { block := g, off := (0 : Nat) } (0 : Nat)) (Value.slice q1 k1 k2) ∧
  (64 : Int) ≠ (0 : Int) ∧
  (0 : Int) ≤ IntKind.wrap IntKind.i64 (Int.tdiv at_ (64 : Int)) ∧
  IntKind.wrap IntKind.i64 (Int.tdiv at_ (64 : Int)) < (↑k1 : Int) ∧
  someR q1 fun (a1 : Addr) =>
  ∃ (n1 : Int),
  cellAt w (Addr.add a1 (Int.toNat (IntKind.wrap IntKind.i64 (Int.tdiv at_ (64 : Int))) * (1 : Nat)))
  (Value.int IntKind.u64 n1) ∧
  (64 : Int) ≠ (0 : Int) ∧
  (0 : Int) ≤ IntKind.wrap IntKind.u64 (Int.tmod at_ (64 : Int)) ∧
  K
  (Value.bool
  (bits BinOp.and IntKind.u64 (shrI IntKind.u64 n1 (IntKind.wrap IntKind.u64 (Int.tmod at_ (64 : Int)))) (1 : Int) ==
  (1 : Int)))
  w
theorem door_Door_is_eq (g : Nat) (at_ : Int) (w : World) (K : Value → World → Prop) : fw Tryd.prog Tryd.f26 (annL []) (ordL []) [.pointer (some ⟨g, 0, none⟩), .int .i64 at_] w K = door_Door_is_m g at_ w K := by kernel_rfl
theorem door_Door_is_go (g : Nat) (at_ : Int) {w : World} {K : Value → World → Prop} (h : door_Door_is_m g at_ w K) : Rets Tryd.prog 26 #[.pointer (some ⟨g, 0, none⟩), .int .i64 at_] w K :=
  calls_of_fw plain mixed Tryd.func26 (by kernel_rfl) (by rw [door_Door_is_eq]; exact h)
def door_Door_Has_m (g : Nat) (hh : Int) (w : World) (K : Value → World → Prop) : Prop :=
  (false = true → K (Value.bool false) w) ∧
  (false = false →
  Rets Tryd.prog (8 : Nat) { toList := [Value.pointer (some { block := g, off := (0 : Nat) }), Value.int IntKind.u64 hh] }
  w fun (v1 : Value) (w1 : World) =>
  ∃ (n1 : Int),
  ∃ (n2 : Int),
  ∃ (n3 : Int),
  ∃ (n4 : Int),
  v1 =
  Value.agg
  { toList := [Value.int IntKind.i64 n1, Value.int IntKind.i64 n2, Value.int IntKind.i64 n3, Value.int IntKind.i64 n4] } ∧
  ∃ (h1 : Nat → List Value → World → Prop),
  (∃ (k1 : Nat), h1 k1 [Value.int IntKind.i64 (0 : Int)] w1) ∧
  ∀ (k2 : Nat) (w2 : World) (v2 v3 : Value) (n5 : Int) (v4 v5 v6 v7 v8 v9 v10 : Value),
  h1 k2 [Value.int IntKind.i64 n5] w2 →
  (decide (n5 < (4 : Int)) = true →
  (0 : Int) ≤ n5 ∧
  n5 < (↑(4 : Nat) : Int) ∧
  ∃ (n6 : Int),
  List.get?Internal
  (Array.toList
  { toList := [Value.int IntKind.i64 n1, Value.int IntKind.i64 n2, Value.int IntKind.i64 n3, Value.int IntKind.i64 n4] })
  (Int.toNat n5) =
  some (Value.int IntKind.i64 n6) ∧
  Rets Tryd.prog (26 : Nat)
  { toList := [Value.pointer (some { block := g, off := (0 : Nat) }), Value.int IntKind.i64 n6] } w2
  fun (v11 : Value) (w3 : World) =>
  ∃ (b1 : Bool),
  v11 = Value.bool b1 ∧
  ((!b1) = true → K (Value.bool false) w3) ∧
  ((!b1) = false →
  ∃ (k3 : Nat), k3 < k2 ∧ h1 k3 [Value.int IntKind.i64 (IntKind.wrap IntKind.i64 (n5 + (1 : Int)))] w3)) ∧
  (decide (n5 < (4 : Int)) = false → K (Value.bool true) w2))
theorem door_Door_Has_eq (g : Nat) (hh : Int) (w : World) (K : Value → World → Prop) : fw Tryd.prog Tryd.f11 (annL [(2, [(4, none), (6, none), (12, some 3), (13, none), (14, none), (15, none), (16, none), (17, none), (18, none), (19, none)])]) (ordL []) [.pointer (some ⟨g, 0, none⟩), .int .u64 hh] w K = door_Door_Has_m g hh w K := by kernel_rfl
theorem door_Door_Has_go (g : Nat) (hh : Int) {w : World} {K : Value → World → Prop} (h : door_Door_Has_m g hh w K) : Rets Tryd.prog 11 #[.pointer (some ⟨g, 0, none⟩), .int .u64 hh] w K :=
  calls_of_fw plain mixed Tryd.func11 (by kernel_rfl) (by rw [door_Door_Has_eq]; exact h)
def door_nil_Has_m (hh : Int) (w : World) (K : Value → World → Prop) : Prop :=
  (true = true → K (Value.bool false) w) ∧
  (true = false →
  Rets Tryd.prog (8 : Nat) { toList := [Value.pointer none, Value.int IntKind.u64 hh] } w fun (v1 : Value) (w1 : World) =>
  ∃ (n1 : Int),
  ∃ (n2 : Int),
  ∃ (n3 : Int),
  ∃ (n4 : Int),
  v1 =
  Value.agg
  { toList := [Value.int IntKind.i64 n1, Value.int IntKind.i64 n2, Value.int IntKind.i64 n3, Value.int IntKind.i64 n4] } ∧
  ∃ (h1 : Nat → List Value → World → Prop),
  (∃ (k1 : Nat), h1 k1 [Value.int IntKind.i64 (0 : Int)] w1) ∧
  ∀ (k2 : Nat) (w2 : World) (v2 v3 : Value) (n5 : Int) (v4 v5 v6 v7 v8 v9 v10 : Value),
  h1 k2 [Value.int IntKind.i64 n5] w2 →
  (decide (n5 < (4 : Int)) = true →
  (0 : Int) ≤ n5 ∧
  n5 < (↑(4 : Nat) : Int) ∧
  ∃ (n6 : Int),
  List.get?Internal
  (Array.toList
  { toList := [Value.int IntKind.i64 n1, Value.int IntKind.i64 n2, Value.int IntKind.i64 n3, Value.int IntKind.i64 n4] })
  (Int.toNat n5) =
  some (Value.int IntKind.i64 n6) ∧
  Rets Tryd.prog (26 : Nat) { toList := [Value.pointer none, Value.int IntKind.i64 n6] } w2
  fun (v11 : Value) (w3 : World) =>
  ∃ (b1 : Bool),
  v11 = Value.bool b1 ∧
  ((!b1) = true → K (Value.bool false) w3) ∧
  ((!b1) = false →
  ∃ (k3 : Nat), k3 < k2 ∧ h1 k3 [Value.int IntKind.i64 (IntKind.wrap IntKind.i64 (n5 + (1 : Int)))] w3)) ∧
  (decide (n5 < (4 : Int)) = false → K (Value.bool true) w2))
theorem door_nil_Has_eq (hh : Int) (w : World) (K : Value → World → Prop) : fw Tryd.prog Tryd.f11 (annL [(2, [(4, none), (6, none), (12, some 3), (13, none), (14, none), (15, none), (16, none), (17, none), (18, none), (19, none)])]) (ordL []) [.pointer none, .int .u64 hh] w K = door_nil_Has_m hh w K := by kernel_rfl
theorem door_nil_Has_go (hh : Int) {w : World} {K : Value → World → Prop} (h : door_nil_Has_m hh w K) : Rets Tryd.prog 11 #[.pointer none, .int .u64 hh] w K :=
  calls_of_fw plain mixed Tryd.func11 (by kernel_rfl) (by rw [door_nil_Has_eq]; exact h)
def door_Door_Put_m (g : Nat) (hh : Int) (w : World) (K : Value → World → Prop) : Prop :=
  (false = false →
  Rets Tryd.prog (11 : Nat)
  { toList := [Value.pointer (some { block := g, off := (0 : Nat) }), Value.int IntKind.u64 hh] } w
  fun (v1 : Value) (w1 : World) =>
  ∃ (b1 : Bool),
  v1 = Value.bool b1 ∧
  (b1 = true → K (Value.bool false) w1) ∧
  (b1 = false →
  Rets Tryd.prog (8 : Nat) { toList := [Value.pointer (some { block := g, off := (0 : Nat) }), Value.int IntKind.u64 hh] }
  w1 fun (v2 : Value) (w2 : World) =>
  ∃ (n1 : Int),
  ∃ (n2 : Int),
  ∃ (n3 : Int),
  ∃ (n4 : Int),
  v2 =
  Value.agg
  { toList := [Value.int IntKind.i64 n1, Value.int IntKind.i64 n2, Value.int IntKind.i64 n3, Value.int IntKind.i64 n4] } ∧
  ∃ (h1 : Nat → List Value → World → Prop),
  (∃ (k1 : Nat), h1 k1 [Value.int IntKind.i64 (0 : Int)] w2) ∧
  ∀ (k2 : Nat) (w3 : World) (v3 : Value) (n5 : Int)
  (v4 v5 v6 v7 v8 v9 v10 v11 v12 v13 v14 v15 v16 v17 v18 v19 v20 : Value),
  h1 k2 [Value.int IntKind.i64 n5] w3 →
  (decide (n5 < (4 : Int)) = true →
  (0 : Int) ≤ n5 ∧
  n5 < (↑(4 : Nat) : Int) ∧
  ∃ (n6 : Int),
  List.get?Internal
  (Array.toList
  { toList := [Value.int IntKind.i64 n1, Value.int IntKind.i64 n2, Value.int IntKind.i64 n3, Value.int IntKind.i64 n4] })
  (Int.toNat n5) =
  some (Value.int IntKind.i64 n6) ∧
  ∃ (q1 : Option Addr),
  ∃ (k3 : Nat),
  ∃ (k4 : Nat),
  cellAt w3 (Addr.add { block := g, off := (0 : Nat) } (0 : Nat)) (Value.slice q1 k3 k4) ∧
  (64 : Int) ≠ (0 : Int) ∧
  (0 : Int) ≤ IntKind.wrap IntKind.i64 (Int.tdiv n6 (64 : Int)) ∧
  IntKind.wrap IntKind.i64 (Int.tdiv n6 (64 : Int)) < (↑k3 : Int) ∧
  someR q1 fun (a1 : Addr) =>
  ∃ (n7 : Int),
  cellAt w3 (Addr.add a1 (Int.toNat (IntKind.wrap IntKind.i64 (Int.tdiv n6 (64 : Int))) * (1 : Nat)))
  (Value.int IntKind.u64 n7) ∧
  (64 : Int) ≠ (0 : Int) ∧
  (0 : Int) ≤ IntKind.wrap IntKind.u64 (Int.tmod n6 (64 : Int)) ∧
  (0 : Int) ≤ IntKind.wrap IntKind.i64 (Int.tdiv n6 (64 : Int)) ∧
  IntKind.wrap IntKind.i64 (Int.tdiv n6 (64 : Int)) < (↑k3 : Int) ∧
  someR q1 fun (a2 : Addr) =>
  StoreR (Addr.add a2 (Int.toNat (IntKind.wrap IntKind.i64 (Int.tdiv n6 (64 : Int))) * (1 : Nat)))
  [Value.int IntKind.u64
  (bits BinOp.or IntKind.u64 n7 (shlI IntKind.u64 (1 : Int) (IntKind.wrap IntKind.u64 (Int.tmod n6 (64 : Int)))))]
  w3 fun (w4 : World) =>
  ∃ (k5 : Nat), k5 < k2 ∧ h1 k5 [Value.int IntKind.i64 (IntKind.wrap IntKind.i64 (n5 + (1 : Int)))] w4) ∧
  (decide (n5 < (4 : Int)) = false → K (Value.bool true) w3))) ∧
  (false = true → K (Value.bool false) w)
theorem door_Door_Put_eq (g : Nat) (hh : Int) (w : World) (K : Value → World → Prop) : fw Tryd.prog Tryd.f14 (annL [(2, [(6, none), (17, some 3), (18, none), (19, none), (20, none), (21, none), (22, none), (23, none), (24, none), (25, none), (26, none), (27, none), (28, none), (29, none), (30, none), (31, none), (32, none), (33, none), (34, none)])]) (ordL []) [.pointer (some ⟨g, 0, none⟩), .int .u64 hh] w K = door_Door_Put_m g hh w K := by kernel_rfl
theorem door_Door_Put_go (g : Nat) (hh : Int) {w : World} {K : Value → World → Prop} (h : door_Door_Put_m g hh w K) : Rets Tryd.prog 14 #[.pointer (some ⟨g, 0, none⟩), .int .u64 hh] w K :=
  calls_of_fw plain mixed Tryd.func14 (by kernel_rfl) (by rw [door_Door_Put_eq]; exact h)
def door_nil_Put_m (hh : Int) (w : World) (K : Value → World → Prop) : Prop :=
  (true = false →
  Rets Tryd.prog (11 : Nat) { toList := [Value.pointer none, Value.int IntKind.u64 hh] } w
  fun (v1 : Value) (w1 : World) =>
  ∃ (b1 : Bool),
  v1 = Value.bool b1 ∧
  (b1 = true → K (Value.bool false) w1) ∧
  (b1 = false →
  Rets Tryd.prog (8 : Nat) { toList := [Value.pointer none, Value.int IntKind.u64 hh] } w1
  fun (v2 : Value) (w2 : World) =>
  ∃ (n1 : Int),
  ∃ (n2 : Int),
  ∃ (n3 : Int),
  ∃ (n4 : Int),
  v2 =
  Value.agg
  { toList := [Value.int IntKind.i64 n1, Value.int IntKind.i64 n2, Value.int IntKind.i64 n3, Value.int IntKind.i64 n4] } ∧
  ∃ (h1 : Nat → List Value → World → Prop),
  (∃ (k1 : Nat), h1 k1 [Value.int IntKind.i64 (0 : Int)] w2) ∧
  ∀ (k2 : Nat) (w3 : World) (v3 : Value) (n5 : Int)
  (v4 v5 v6 v7 v8 v9 v10 v11 v12 v13 v14 v15 v16 v17 v18 v19 v20 : Value),
  h1 k2 [Value.int IntKind.i64 n5] w3 →
  (decide (n5 < (4 : Int)) = true →
  (0 : Int) ≤ n5 ∧
  n5 < (↑(4 : Nat) : Int) ∧
  ∃ (n6 : Int),
  List.get?Internal
  (Array.toList
  { toList := [Value.int IntKind.i64 n1, Value.int IntKind.i64 n2, Value.int IntKind.i64 n3, Value.int IntKind.i64 n4] })
  (Int.toNat n5) =
  some (Value.int IntKind.i64 n6) ∧
  False) ∧
  (decide (n5 < (4 : Int)) = false → K (Value.bool true) w3))) ∧
  (true = true → K (Value.bool false) w)
theorem door_nil_Put_eq (hh : Int) (w : World) (K : Value → World → Prop) : fw Tryd.prog Tryd.f14 (annL [(2, [(6, none), (17, some 3), (18, none), (19, none), (20, none), (21, none), (22, none), (23, none), (24, none), (25, none), (26, none), (27, none), (28, none), (29, none), (30, none), (31, none), (32, none), (33, none), (34, none)])]) (ordL []) [.pointer none, .int .u64 hh] w K = door_nil_Put_m hh w K := by kernel_rfl
theorem door_nil_Put_go (hh : Int) {w : World} {K : Value → World → Prop} (h : door_nil_Put_m hh w K) : Rets Tryd.prog 14 #[.pointer none, .int .u64 hh] w K :=
  calls_of_fw plain mixed Tryd.func14 (by kernel_rfl) (by rw [door_nil_Put_eq]; exact h)
def door_nil_Clear_m  (w : World) (K : Value → World → Prop) : Prop :=
  (false = true → False) ∧ (false = false → K (Value.tuple { toList := [] }) w)
theorem door_nil_Clear_eq  (w : World) (K : Value → World → Prop) : fw Tryd.prog Tryd.f18 (annL []) (ordL []) [.pointer none] w K = door_nil_Clear_m  w K := by kernel_rfl
theorem door_nil_Clear_go  {w : World} {K : Value → World → Prop} (h : door_nil_Clear_m  w K) : Rets Tryd.prog 18 #[.pointer none] w K :=
  calls_of_fw plain mixed Tryd.func18 (by kernel_rfl) (by rw [door_nil_Clear_eq]; exact h)
def door_nil_Full_m  (w : World) (K : Value → World → Prop) : Prop :=
  (true = true → K (Value.int IntKind.i64 (0 : Int)) w) ∧ (true = false → False)
theorem door_nil_Full_eq  (w : World) (K : Value → World → Prop) : fw Tryd.prog Tryd.f15 (annL [(2, [(2, some 3), (4, none), (12, some 3), (13, none), (14, none), (15, none), (16, none), (17, none), (18, none), (19, none), (20, none)])]) (ordL []) [.pointer none] w K = door_nil_Full_m  w K := by kernel_rfl
theorem door_nil_Full_go  {w : World} {K : Value → World → Prop} (h : door_nil_Full_m  w K) : Rets Tryd.prog 15 #[.pointer none] w K :=
  calls_of_fw plain mixed Tryd.func15 (by kernel_rfl) (by rw [door_nil_Full_eq]; exact h)
def cortadoref12_New_m (k s : Int) (w : World) (K : Value → World → Prop) : Prop :=
  NewR (29 : Nat) [Value.slice none (0 : Nat) (0 : Nat), Value.int IntKind.u64 (0 : Int)] w
  fun (a1 : Addr) (w1 : World) =>
  Rets Tryd.prog (22 : Nat)
  { toList := [Value.int IntKind.i64 (IntKind.wrap IntKind.i64 ((8 : Int) * maxI (1 : Int) (minI k (4096 : Int))))] } w1
  fun (v1 : Value) (w2 : World) =>
  ∃ (n1 : Int),
  v1 = Value.int IntKind.i64 n1 ∧
  MakeR (4 : Nat) [Value.bool false] (1 : Nat) n1 n1 w2 fun (a2 : Addr) (w3 : World) =>
  StoreR a1 [Value.slice (some a2) (Int.toNat n1) (Int.toNat n1), Value.int IntKind.u64 s] w3 fun (w4 : World) =>
  ∃ (q1 : Option Addr),
  ∃ (k1 : Nat),
  ∃ (k2 : Nat),
  ∃ (n2 : Int),
  (cellAt w4 (Addr.add a1 (0 : Nat)) (Value.slice q1 k1 k2) ∧
  cellAt w4 (Addr.add a1 (1 : Nat)) (Value.int IntKind.u64 n2)) ∧
  K (Value.agg { toList := [Value.slice q1 k1 k2, Value.int IntKind.u64 n2] }) w4
theorem cortadoref12_New_eq (k s : Int) (w : World) (K : Value → World → Prop) : fw Tryd.prog Tryd.f7 (annL []) (ordL []) [.int .i64 k, .int .u64 s] w K = cortadoref12_New_m k s w K := by kernel_rfl
theorem cortadoref12_New_go (k s : Int) {w : World} {K : Value → World → Prop} (h : cortadoref12_New_m k s w K) : Rets Tryd.prog 7 #[.int .i64 k, .int .u64 s] w K :=
  calls_of_fw plain mixed Tryd.func7 (by kernel_rfl) (by rw [cortadoref12_New_eq]; exact h)
def cortadoref12_Places_m (q : Option Addr) (l c : Nat) (s hh : Int) (w : World) (K : Value → World → Prop) : Prop :=
  NewR (29 : Nat) [Value.slice q l c, Value.int IntKind.u64 s] w fun (a1 : Addr) (w1 : World) =>
  ∃ (n1 : Int),
  cellAt w1 (Addr.add a1 (1 : Nat)) (Value.int IntKind.u64 n1) ∧
  Rets Tryd.prog (24 : Nat) { toList := [Value.int IntKind.u64 n1] } w1 fun (v1 : Value) (w2 : World) =>
  ∃ (n2 : Int),
  v1 = Value.int IntKind.u64 n2 ∧
  Rets Tryd.prog (24 : Nat) { toList := [Value.int IntKind.u64 (bits BinOp.xor IntKind.u64 hh n2)] } w2
  fun (v2 : Value) (w3 : World) =>
  ∃ (n3 : Int),
  v2 = Value.int IntKind.u64 n3 ∧
  Rets Tryd.prog (25 : Nat) { toList := [Value.int IntKind.u64 (bits BinOp.xor IntKind.u64 hh n2)] } w3
  fun (v3 : Value) (w4 : World) =>
  ∃ (n4 : Int),
  v3 = Value.int IntKind.u64 n4 ∧
  (2 : Int) ≠ (0 : Int) ∧
  ∃ (h1 : List Value → World → Prop),
  (((Int.tmod n4 (2 : Int) == (0 : Int)) = true →
  h1 [Value.int IntKind.u64 (IntKind.wrap IntKind.u64 (n4 + (1 : Int)))] w4) ∧
  ((Int.tmod n4 (2 : Int) == (0 : Int)) = false → h1 [Value.int IntKind.u64 n4] w4)) ∧
  ∀ (w5 : World) (n5 : Int) (v4 v5 : Value),
  h1 [Value.int IntKind.u64 n5] w5 →
  ∃ (h2 : Nat → List Value → World → Prop),
  (∃ (k1 : Nat), h2 k1 [Value.slice none (0 : Nat) (0 : Nat), Value.int IntKind.i64 (0 : Int)] w5) ∧
  ∀ (k2 : Nat) (w6 : World) (q1 : Option Addr) (k3 k4 : Nat) (n6 : Int)
  (v6 v7 v8 v9 v10 v11 v12 v13 v14 v15 v16 v17 v18 v19 v20 v21 v22 v23 v24 : Value),
  h2 k2 [Value.slice q1 k3 k4, Value.int IntKind.i64 n6] w6 →
  (decide (n6 < (4 : Int)) = true →
  ∃ (q2 : Option Addr),
  ∃ (k5 : Nat),
  ∃ (k6 : Nat),
  cellAt w6 (Addr.add a1 (0 : Nat)) (Value.slice q2 k5 k6) ∧
  IntKind.wrap IntKind.u64 (↑k5 : Int) ≠ (0 : Int) ∧
  NewR (3 : Nat)
  [Value.int IntKind.i64
  (IntKind.wrap IntKind.i64
  (Int.tmod (IntKind.wrap IntKind.u64 (n3 + IntKind.wrap IntKind.u64 (IntKind.wrap IntKind.u64 n6 * n5)))
  (IntKind.wrap IntKind.u64 (↑k5 : Int))))]
  w6 fun (a2 : Addr) (w7 : World) =>
  RunR Tryd.prog
  (builtinV Builtin.append { toList := [(33 : Nat), (33 : Nat)] } (nat_lit 33)
  { toList := [Value.slice q1 k3 k4, Value.slice (some a2) (1 : Nat) (1 : Nat)] })
  w7 fun (v25 : Value) (w8 : World) =>
  ∃ (q3 : Option Addr),
  ∃ (k7 : Nat),
  ∃ (k8 : Nat),
  v25 = Value.slice q3 k7 k8 ∧
  ∃ (k9 : Nat),
  k9 < k2 ∧ h2 k9 [Value.slice q3 k7 k8, Value.int IntKind.i64 (IntKind.wrap IntKind.i64 (n6 + (1 : Int)))] w8) ∧
  (decide (n6 < (4 : Int)) = false → K (Value.slice q1 k3 k4) w6)
theorem cortadoref12_Places_eq (q : Option Addr) (l c : Nat) (s hh : Int) (w : World) (K : Value → World → Prop) : fw Tryd.prog Tryd.f9 (annL [(0, [(7, some 22), (22, none), (23, none)]), (2, [(8, some 33), (9, some 3), (24, none), (25, none), (26, none), (27, none), (28, none), (29, none), (30, none), (31, none), (32, none), (33, none), (34, none), (35, none), (36, none), (37, none), (38, none), (39, none), (40, none), (41, none), (42, none)])]) (ordL []) [.agg #[.slice q l c, .int .u64 s], .int .u64 hh] w K = cortadoref12_Places_m q l c s hh w K := by kernel_rfl
theorem cortadoref12_Places_go (q : Option Addr) (l c : Nat) (s hh : Int) {w : World} {K : Value → World → Prop} (h : cortadoref12_Places_m q l c s hh w K) : Rets Tryd.prog 9 #[.agg #[.slice q l c, .int .u64 s], .int .u64 hh] w K :=
  calls_of_fw plain mixed Tryd.func9 (by kernel_rfl) (by rw [cortadoref12_Places_eq]; exact h)
def cortadoref12_Lonely_m (q : Option Addr) (l c : Nat) (s hh : Int) (q2 : Option Addr) (l2 c2 : Nat) (w : World) (K : Value → World → Prop) : Prop :=
  NewR (29 : Nat) [Value.slice q l c, Value.int IntKind.u64 s] w fun (a1 : Addr) (w1 : World) =>
  ∃ (q1 : Option Addr),
  ∃ (k1 : Nat),
  ∃ (k2 : Nat),
  ∃ (n1 : Int),
  (cellAt w1 (Addr.add a1 (0 : Nat)) (Value.slice q1 k1 k2) ∧
  cellAt w1 (Addr.add a1 (1 : Nat)) (Value.int IntKind.u64 n1)) ∧
  Rets Tryd.prog (9 : Nat)
  { toList := [Value.agg { toList := [Value.slice q1 k1 k2, Value.int IntKind.u64 n1] }, Value.int IntKind.u64 hh] } w1
  fun (v1 : Value) (w2 : World) =>
  ∃ (q2_1 : Option Addr),
  ∃ (k3 : Nat),
  ∃ (k4 : Nat),
  v1 = Value.slice q2_1 k3 k4 ∧
  ∃ (h1 : Nat → List Value → World → Prop),
  (∃ (k5 : Nat), h1 k5 [Value.int IntKind.i64 (0 : Int)] w2) ∧
  ∀ (k6 : Nat) (w3 : World) (v2 : Value) (n2 : Int)
  (v3 v4 v5 v6 v7 v8 v9 v10 v11 v12 v13 v14 v15 v16 v17 v18 v19 v20 v21 v22 v23 v24 v25 v26 v27 v28 v29 v30 v31 v32 v33
  v34 v35 v36 v37 v38 v39 v40 v41 v42 v43 v44 v45 v46 : Value),
  h1 k6 [Value.int IntKind.i64 n2] w3 →
  (decide (n2 < (↑k3 : Int)) = true →
  ∃ (h2 : Nat → List Value → World → Prop),
  (∃ (k7 : Nat), h2 k7 [Value.bool true, Value.int IntKind.i64 (0 : Int)] w3) ∧
  ∀ (k8 : Nat) (w4 : World) (b1 : Bool) (n3 : Int)
  (v47 v48 v49 v50 v51 v52 v53 v54 v55 v56 v57 v58 v59 v60 v61 v62 v63 v64 v65 v66 v67 v68 v69 v70 v71 v72 v73 v74 v75 v76
  v77 v78 v79 v80 v81 : Value),
  h2 k8 [Value.bool b1, Value.int IntKind.i64 n3] w4 →
  (decide (n3 < (↑l2 : Int)) = true →
  (0 : Int) ≤ n3 ∧
  n3 < (↑l2 : Int) ∧
  someR q2 fun (a2 : Addr) =>
  ∃ (n4 : Int),
  cellAt w4 (Addr.add a2 (Int.toNat n3 * (1 : Nat))) (Value.int IntKind.u64 n4) ∧
  ((n4 == hh) = true →
  ∃ (k9 : Nat), k9 < k8 ∧ h2 k9 [Value.bool b1, Value.int IntKind.i64 (IntKind.wrap IntKind.i64 (n3 + (1 : Int)))] w4) ∧
  ((n4 == hh) = false →
  Drw w4 fun (w5 : World) =>
  (0 : Int) ≤ n3 ∧
  n3 < (↑l2 : Int) ∧
  someR q2 fun (a3 : Addr) =>
  ∃ (q3 : Option Addr),
  ∃ (k10 : Nat),
  ∃ (k11 : Nat),
  ∃ (n5 : Int),
  (cellAt w5 (Addr.add a1 (0 : Nat)) (Value.slice q3 k10 k11) ∧
  cellAt w5 (Addr.add a1 (1 : Nat)) (Value.int IntKind.u64 n5)) ∧
  ∃ (n6 : Int),
  cellAt w5 (Addr.add a3 (Int.toNat n3 * (1 : Nat))) (Value.int IntKind.u64 n6) ∧
  Rets Tryd.prog (9 : Nat)
  { toList := [Value.agg { toList := [Value.slice q3 k10 k11, Value.int IntKind.u64 n5] }, Value.int IntKind.u64 n6] } w5
  fun (v82 : Value) (w6 : World) =>
  ∃ (q4 : Option Addr),
  ∃ (k12 : Nat),
  ∃ (k13 : Nat),
  v82 = Value.slice q4 k12 k13 ∧
  ∃ (h3 : Nat → List Value → World → Prop),
  (∃ (k14 : Nat), h3 k14 [Value.bool b1, Value.int IntKind.i64 (0 : Int)] w6) ∧
  ∀ (k15 : Nat) (w7 : World) (b2 : Bool) (n7 : Int) (v83 v84 v85 v86 v87 v88 v89 v90 v91 v92 v93 v94 v95 v96 v97 : Value),
  h3 k15 [Value.bool b2, Value.int IntKind.i64 n7] w7 →
  (decide (n7 < (↑k12 : Int)) = true →
  Drw w7 fun (w8 : World) =>
  (0 : Int) ≤ n7 ∧
  n7 < (↑k12 : Int) ∧
  someR q4 fun (a4 : Addr) =>
  (0 : Int) ≤ n2 ∧
  n2 < (↑k3 : Int) ∧
  someR q2_1 fun (a5 : Addr) =>
  ∃ (n8 : Int),
  cellAt w8 (Addr.add a4 (Int.toNat n7 * (1 : Nat))) (Value.int IntKind.i64 n8) ∧
  ∃ (n9 : Int),
  cellAt w8 (Addr.add a5 (Int.toNat n2 * (1 : Nat))) (Value.int IntKind.i64 n9) ∧
  ((n8 == n9) = true →
  ∃ (k16 : Nat),
  k16 < k15 ∧ h3 k16 [Value.bool false, Value.int IntKind.i64 (IntKind.wrap IntKind.i64 (n7 + (1 : Int)))] w8) ∧
  ((n8 == n9) = false →
  ∃ (k17 : Nat),
  k17 < k15 ∧ h3 k17 [Value.bool b2, Value.int IntKind.i64 (IntKind.wrap IntKind.i64 (n7 + (1 : Int)))] w8)) ∧
  (decide (n7 < (↑k12 : Int)) = false →
  ∃ (k18 : Nat),
  k18 < k8 ∧ h2 k18 [Value.bool b2, Value.int IntKind.i64 (IntKind.wrap IntKind.i64 (n3 + (1 : Int)))] w7))) ∧
  (decide (n3 < (↑l2 : Int)) = false →
  (b1 = true → K (Value.bool true) w4) ∧
  (b1 = false →
  ∃ (k19 : Nat), k19 < k6 ∧ h1 k19 [Value.int IntKind.i64 (IntKind.wrap IntKind.i64 (n2 + (1 : Int)))] w4))) ∧
  (decide (n2 < (↑k3 : Int)) = false → K (Value.bool false) w3)
theorem cortadoref12_Lonely_eq (q : Option Addr) (l c : Nat) (s hh : Int) (q2 : Option Addr) (l2 c2 : Nat) (w : World) (K : Value → World → Prop) : fw Tryd.prog Tryd.f19 (annL [(1, [(6, none), (8, some 3), (9, none), (10, none), (11, none), (12, none), (16, none), (17, none), (18, none), (19, none), (20, none), (21, none), (22, none), (23, none), (24, none), (25, none), (26, none), (27, none), (28, none), (29, none), (30, none), (31, none), (32, none), (33, none), (34, none), (35, none), (36, none), (37, none), (38, none), (39, none), (40, none), (41, none), (42, none), (43, none), (44, none), (45, none), (46, none), (47, none), (48, none), (49, none), (50, none), (51, none), (52, none), (53, none), (54, none), (55, none)]), (5, [(9, some 4), (10, some 3), (11, none), (12, none), (22, none), (23, none), (24, none), (25, none), (26, none), (27, none), (28, none), (29, none), (30, none), (31, none), (32, none), (33, none), (34, none), (35, none), (36, none), (37, none), (38, none), (39, none), (40, none), (41, none), (42, none), (43, none), (44, none), (45, none), (46, none), (47, none), (48, none), (49, none), (50, none), (51, none), (52, none), (53, none), (54, none)]), (10, [(9, some 4), (12, some 3), (40, none), (41, none), (42, none), (43, none), (44, none), (45, none), (46, none), (47, none), (48, none), (49, none), (50, none), (51, none), (52, none), (53, none), (54, none)])]) (ordL [(10, [(1, 0), (2, 0), (3, 0), (0, 1), (4, 1), (5, 3), (6, 0)]), (14, [(0, 0), (1, 0), (2, 0), (4, 0), (5, 0), (6, 0), (3, 1), (7, 1), (8, 0)])]) [.agg #[.slice q l c, .int .u64 s], .int .u64 hh, .slice q2 l2 c2] w K = cortadoref12_Lonely_m q l c s hh q2 l2 c2 w K := by kernel_rfl
theorem cortadoref12_Lonely_go (q : Option Addr) (l c : Nat) (s hh : Int) (q2 : Option Addr) (l2 c2 : Nat) {w : World} {K : Value → World → Prop} (h : cortadoref12_Lonely_m q l c s hh q2 l2 c2 w K) : Rets Tryd.prog 19 #[.agg #[.slice q l c, .int .u64 s], .int .u64 hh, .slice q2 l2 c2] w K :=
  calls_of_fw plain mixed Tryd.func19 (by kernel_rfl) (by rw [cortadoref12_Lonely_eq]; exact h)
def cortadolaw12_awake_m  (w : World) (K : Value → World → Prop) : Prop :=
  Rets Tryd.prog (6 : Nat) { toList := [Value.int IntKind.i64 (4 : Int), Value.int IntKind.u64 (0 : Int)] } w
  fun (v1 : Value) (w1 : World) =>
  ∃ (q1 : Option Addr),
  v1 = Value.pointer q1 ∧
  Rets Tryd.prog (14 : Nat) { toList := [Value.pointer q1, Value.int IntKind.u64 (3 : Int)] } w1
  fun (v2 : Value) (w2 : World) =>
  ∃ (b1 : Bool),
  v2 = Value.bool b1 ∧
  (b1 = true →
  Rets Tryd.prog (14 : Nat) { toList := [Value.pointer q1, Value.int IntKind.u64 (3 : Int)] } w2
  fun (v3 : Value) (w3 : World) =>
  ∃ (b2 : Bool),
  v3 = Value.bool b2 ∧
  ((!b2) = true →
  Rets Tryd.prog (17 : Nat) { toList := [Value.pointer q1] } w3 fun (v4 : Value) (w4 : World) =>
  ∃ (n1 : Int), v4 = Value.int IntKind.i64 n1 ∧ K (Value.bool (n1 == (32 : Int))) w4) ∧
  ((!b2) = false → K (Value.bool false) w3)) ∧
  (b1 = false → K (Value.bool false) w2)
theorem cortadolaw12_awake_eq  (w : World) (K : Value → World → Prop) : fw Tryd.prog Tryd.f5 (annL []) (ordL []) [] w K = cortadolaw12_awake_m  w K := by kernel_rfl
theorem cortadolaw12_awake_go  {w : World} {K : Value → World → Prop} (h : cortadolaw12_awake_m  w K) : Rets Tryd.prog 5 #[] w K :=
  calls_of_fw plain mixed Tryd.func5 (by kernel_rfl) (by rw [cortadolaw12_awake_eq]; exact h)
def cortadolaw12_DoorKeeps_m (k s : Int) (q : Option Addr) (l c : Nat) (w : World) (K : Value → World → Prop) : Prop :=
  (decide ((↑l : Int) > (60 : Int)) = true →
  Rets Tryd.prog (5 : Nat) { toList := [] } w fun (v1 : Value) (w1 : World) =>
  ∃ (b1 : Bool), v1 = Value.bool b1 ∧ K (Value.bool b1) w1) ∧
  (decide ((↑l : Int) > (60 : Int)) = false →
  Rets Tryd.prog (6 : Nat) { toList := [Value.int IntKind.i64 (minI k (1000 : Int)), Value.int IntKind.u64 s] } w
  fun (v2 : Value) (w2 : World) =>
  ∃ (q1 : Option Addr),
  v2 = Value.pointer q1 ∧
  Rets Tryd.prog (7 : Nat) { toList := [Value.int IntKind.i64 (minI k (1000 : Int)), Value.int IntKind.u64 s] } w2
  fun (v3 : Value) (w3 : World) =>
  ∃ (q2 : Option Addr),
  ∃ (k1 : Nat),
  ∃ (k2 : Nat),
  ∃ (n1 : Int),
  v3 = Value.agg { toList := [Value.slice q2 k1 k2, Value.int IntKind.u64 n1] } ∧
  NewR (29 : Nat) [Value.slice none (0 : Nat) (0 : Nat), Value.int IntKind.u64 (0 : Int)] w3
  fun (a1 : Addr) (w4 : World) =>
  StoreR a1 [Value.slice q2 k1 k2, Value.int IntKind.u64 n1] w4 fun (w5 : World) =>
  (2 : Int) ≠ (0 : Int) ∧
  (0 : Int) ≤ IntKind.wrap IntKind.i64 (Int.tdiv (↑l : Int) (2 : Int)) ∧
  IntKind.wrap IntKind.i64 (Int.tdiv (↑l : Int) (2 : Int)) ≤ (↑c : Int) ∧
  ∃ (h1 : Nat → List Value → World → Prop),
  (∃ (k3 : Nat), h1 k3 [Value.int IntKind.i64 (0 : Int)] w5) ∧
  ∀ (k4 : Nat) (w6 : World) (n2 : Int) (v4 v5 v6 v7 v8 v9 v10 v11 v12 v13 v14 v15 : Value),
  h1 k4 [Value.int IntKind.i64 n2] w6 →
  (decide (n2 < (↑(Int.toNat (IntKind.wrap IntKind.i64 (Int.tdiv (↑l : Int) (2 : Int))) - (0 : Nat)) : Int)) = true →
  (0 : Int) ≤ n2 ∧
  n2 < (↑(Int.toNat (IntKind.wrap IntKind.i64 (Int.tdiv (↑l : Int) (2 : Int))) - (0 : Nat)) : Int) ∧
  someR (slcA q (0 : Nat) c (1 : Nat)) fun (a2 : Addr) =>
  ∃ (n3 : Int),
  cellAt w6 (Addr.add a2 (Int.toNat n2 * (1 : Nat))) (Value.int IntKind.u64 n3) ∧
  Rets Tryd.prog (14 : Nat) { toList := [Value.pointer q1, Value.int IntKind.u64 n3] } w6
  fun (v16 : Value) (w7 : World) =>
  ∃ (b2 : Bool),
  v16 = Value.bool b2 ∧
  ∃ (k5 : Nat), k5 < k4 ∧ h1 k5 [Value.int IntKind.i64 (IntKind.wrap IntKind.i64 (n2 + (1 : Int)))] w7) ∧
  (decide (n2 < (↑(Int.toNat (IntKind.wrap IntKind.i64 (Int.tdiv (↑l : Int) (2 : Int))) - (0 : Nat)) : Int)) = false →
  ∃ (h2 : Nat → List Value → World → Prop),
  (∃ (k6 : Nat), h2 k6 [Value.int IntKind.i64 (0 : Int)] w6) ∧
  ∀ (k7 : Nat) (w8 : World) (v17 : Value) (n4 : Int)
  (v18 v19 v20 v21 v22 v23 v24 v25 v26 v27 v28 v29 v30 v31 v32 v33 v34 v35 v36 v37 v38 v39 v40 v41 v42 v43 v44 v45 v46 v47
  v48 v49 v50 v51 v52 v53 v54 v55 v56 v57 v58 v59 v60 v61 v62 v63 v64 v65 v66 v67 v68 v69 v70 v71 v72 v73 v74 : Value),
  h2 k7 [Value.int IntKind.i64 n4] w8 →
  (decide (n4 < (↑l : Int)) = true →
  ∃ (h3 : Nat → List Value → World → Prop),
  (∃ (k8 : Nat), h3 k8 [Value.bool false, Value.int IntKind.i64 (0 : Int)] w8) ∧
  ∀ (k9 : Nat) (w9 : World) (b3 : Bool) (n5 : Int)
  (v75 v76 v77 v78 v79 v80 v81 v82 v83 v84 v85 v86 v87 v88 v89 v90 v91 v92 : Value),
  h3 k9 [Value.bool b3, Value.int IntKind.i64 n5] w9 →
  (decide (n5 < (↑(Int.toNat (IntKind.wrap IntKind.i64 (Int.tdiv (↑l : Int) (2 : Int))) - (0 : Nat)) : Int)) = true →
  Drw w9 fun (w10 : World) =>
  (b3 = false →
  (0 : Int) ≤ n5 ∧
  n5 < (↑(Int.toNat (IntKind.wrap IntKind.i64 (Int.tdiv (↑l : Int) (2 : Int))) - (0 : Nat)) : Int) ∧
  someR (slcA q (0 : Nat) c (1 : Nat)) fun (a3 : Addr) =>
  (0 : Int) ≤ n4 ∧
  n4 < (↑l : Int) ∧
  someR q fun (a4 : Addr) =>
  ∃ (n6 : Int),
  cellAt w10 (Addr.add a3 (Int.toNat n5 * (1 : Nat))) (Value.int IntKind.u64 n6) ∧
  ∃ (n7 : Int),
  cellAt w10 (Addr.add a4 (Int.toNat n4 * (1 : Nat))) (Value.int IntKind.u64 n7) ∧
  ∃ (k10 : Nat),
  k10 < k9 ∧ h3 k10 [Value.bool (n6 == n7), Value.int IntKind.i64 (IntKind.wrap IntKind.i64 (n5 + (1 : Int)))] w10) ∧
  (b3 = true →
  ∃ (k11 : Nat),
  k11 < k9 ∧ h3 k11 [Value.bool true, Value.int IntKind.i64 (IntKind.wrap IntKind.i64 (n5 + (1 : Int)))] w10)) ∧
  (decide (n5 < (↑(Int.toNat (IntKind.wrap IntKind.i64 (Int.tdiv (↑l : Int) (2 : Int))) - (0 : Nat)) : Int)) = false →
  Drw w9 fun (w11 : World) =>
  ∃ (h4 : World → Prop),
  h4 w11 ∧
  (b3 = true →
  (0 : Int) ≤ n4 ∧
  n4 < (↑l : Int) ∧
  someR q fun (a5 : Addr) =>
  ∃ (n8 : Int),
  (∀ (w12 : World), h4 w12 → World.cell? w12 (Addr.add a5 (Int.toNat n4 * (1 : Nat))) = some (Value.int IntKind.u64 n8)) ∧
  Rets Tryd.prog (11 : Nat) { toList := [Value.pointer q1, Value.int IntKind.u64 n8] } w11
  fun (v93 : Value) (w13 : World) =>
  ∃ (b4 : Bool),
  v93 = Value.bool b4 ∧
  h4 w13 ∧
  ((!b4) = false →
  ((!b3) = true →
  (0 : Int) ≤ n4 ∧
  n4 < (↑l : Int) ∧
  someR q fun (a6 : Addr) =>
  ∃ (q3 : Option Addr),
  ∃ (k12 : Nat),
  ∃ (k13 : Nat),
  ∃ (n9 : Int),
  ((∀ (w14 : World), h4 w14 → World.cell? w14 (Addr.add a1 (0 : Nat)) = some (Value.slice q3 k12 k13)) ∧
  ∀ (w15 : World), h4 w15 → World.cell? w15 (Addr.add a1 ((0 : Nat) + (1 : Nat))) = some (Value.int IntKind.u64 n9)) ∧
  ∃ (n10 : Int),
  (∀ (w16 : World),
  h4 w16 → World.cell? w16 (Addr.add a6 (Int.toNat n4 * (1 : Nat))) = some (Value.int IntKind.u64 n10)) ∧
  Rets Tryd.prog (19 : Nat)
  {
  toList :=
  [Value.agg { toList := [Value.slice q3 k12 k13, Value.int IntKind.u64 n9] }, Value.int IntKind.u64 n10,
  Value.slice (slcA q (0 : Nat) c (1 : Nat))
  (Int.toNat (IntKind.wrap IntKind.i64 (Int.tdiv (↑l : Int) (2 : Int))) - (0 : Nat)) (c - (0 : Nat))] }
  w13 fun (v94 : Value) (w17 : World) =>
  ∃ (b5 : Bool),
  v94 = Value.bool b5 ∧
  h4 w17 ∧
  (b5 = true →
  (0 : Int) ≤ n4 ∧
  n4 < (↑l : Int) ∧
  someR q fun (a7 : Addr) =>
  ∃ (n11 : Int),
  (∀ (w18 : World),
  h4 w18 → World.cell? w18 (Addr.add a7 (Int.toNat n4 * (1 : Nat))) = some (Value.int IntKind.u64 n11)) ∧
  Rets Tryd.prog (11 : Nat) { toList := [Value.pointer q1, Value.int IntKind.u64 n11] } w17
  fun (v95 : Value) (w19 : World) =>
  ∃ (b6 : Bool),
  v95 = Value.bool b6 ∧
  (b6 = true → K (Value.bool false) w19) ∧
  (b6 = false →
  ∃ (k14 : Nat), k14 < k7 ∧ h2 k14 [Value.int IntKind.i64 (IntKind.wrap IntKind.i64 (n4 + (1 : Int)))] w19)) ∧
  (b5 = false →
  ∃ (k15 : Nat), k15 < k7 ∧ h2 k15 [Value.int IntKind.i64 (IntKind.wrap IntKind.i64 (n4 + (1 : Int)))] w17)) ∧
  ((!b3) = false →
  ∃ (k16 : Nat), k16 < k7 ∧ h2 k16 [Value.int IntKind.i64 (IntKind.wrap IntKind.i64 (n4 + (1 : Int)))] w13)) ∧
  ((!b4) = true → K (Value.bool false) w13)) ∧
  (b3 = false →
  ((!b3) = true →
  (0 : Int) ≤ n4 ∧
  n4 < (↑l : Int) ∧
  someR q fun (a8 : Addr) =>
  ∃ (q4 : Option Addr),
  ∃ (k17 : Nat),
  ∃ (k18 : Nat),
  ∃ (n12 : Int),
  ((∀ (w20 : World), h4 w20 → World.cell? w20 (Addr.add a1 (0 : Nat)) = some (Value.slice q4 k17 k18)) ∧
  ∀ (w21 : World), h4 w21 → World.cell? w21 (Addr.add a1 ((0 : Nat) + (1 : Nat))) = some (Value.int IntKind.u64 n12)) ∧
  ∃ (n13 : Int),
  (∀ (w22 : World),
  h4 w22 → World.cell? w22 (Addr.add a8 (Int.toNat n4 * (1 : Nat))) = some (Value.int IntKind.u64 n13)) ∧
  Rets Tryd.prog (19 : Nat)
  {
  toList :=
  [Value.agg { toList := [Value.slice q4 k17 k18, Value.int IntKind.u64 n12] }, Value.int IntKind.u64 n13,
  Value.slice (slcA q (0 : Nat) c (1 : Nat))
  (Int.toNat (IntKind.wrap IntKind.i64 (Int.tdiv (↑l : Int) (2 : Int))) - (0 : Nat)) (c - (0 : Nat))] }
  w11 fun (v96 : Value) (w23 : World) =>
  ∃ (b7 : Bool),
  v96 = Value.bool b7 ∧
  h4 w23 ∧
  (b7 = true →
  (0 : Int) ≤ n4 ∧
  n4 < (↑l : Int) ∧
  someR q fun (a9 : Addr) =>
  ∃ (n14 : Int),
  (∀ (w24 : World),
  h4 w24 → World.cell? w24 (Addr.add a9 (Int.toNat n4 * (1 : Nat))) = some (Value.int IntKind.u64 n14)) ∧
  Rets Tryd.prog (11 : Nat) { toList := [Value.pointer q1, Value.int IntKind.u64 n14] } w23
  fun (v97 : Value) (w25 : World) =>
  ∃ (b8 : Bool),
  v97 = Value.bool b8 ∧
  (b8 = true → K (Value.bool false) w25) ∧
  (b8 = false →
  ∃ (k19 : Nat), k19 < k7 ∧ h2 k19 [Value.int IntKind.i64 (IntKind.wrap IntKind.i64 (n4 + (1 : Int)))] w25)) ∧
  (b7 = false →
  ∃ (k20 : Nat), k20 < k7 ∧ h2 k20 [Value.int IntKind.i64 (IntKind.wrap IntKind.i64 (n4 + (1 : Int)))] w23)) ∧
  ((!b3) = false →
  ∃ (k21 : Nat), k21 < k7 ∧ h2 k21 [Value.int IntKind.i64 (IntKind.wrap IntKind.i64 (n4 + (1 : Int)))] w11)))) ∧
  (decide (n4 < (↑l : Int)) = false →
  Rets Tryd.prog (18 : Nat) { toList := [Value.pointer none] } w8 fun (v98 : Value) (w26 : World) =>
  v98 = Value.tuple { toList := [] } ∧
  Rets Tryd.prog (14 : Nat) { toList := [Value.pointer none, Value.int IntKind.u64 (1 : Int)] } w26
  fun (v99 : Value) (w27 : World) =>
  ∃ (b9 : Bool),
  v99 = Value.bool b9 ∧
  ((!b9) = true →
  Rets Tryd.prog (11 : Nat) { toList := [Value.pointer none, Value.int IntKind.u64 (1 : Int)] } w27
  fun (v100 : Value) (w28 : World) =>
  ∃ (b10 : Bool),
  v100 = Value.bool b10 ∧
  ((!b10) = true →
  Rets Tryd.prog (17 : Nat) { toList := [Value.pointer none] } w28 fun (v101 : Value) (w29 : World) =>
  ∃ (n15 : Int),
  v101 = Value.int IntKind.i64 n15 ∧
  Rets Tryd.prog (15 : Nat) { toList := [Value.pointer none] } w29 fun (v102 : Value) (w30 : World) =>
  ∃ (n16 : Int),
  v102 = Value.int IntKind.i64 n16 ∧
  ((IntKind.wrap IntKind.i64 (n15 + n16) == (0 : Int)) = true →
  Rets Tryd.prog (8 : Nat) { toList := [Value.pointer none, Value.int IntKind.u64 (1 : Int)] } w30
  fun (v103 : Value) (w31 : World) =>
  ∃ (n17 : Int),
  ∃ (n18 : Int),
  ∃ (n19 : Int),
  ∃ (n20 : Int),
  v103 =
  Value.agg
  {
  toList :=
  [Value.int IntKind.i64 n17, Value.int IntKind.i64 n18, Value.int IntKind.i64 n19, Value.int IntKind.i64 n20] } ∧
  RunR Tryd.prog
  (binV BinOp.eql (31 : Nat) (Operand.tmp (119 : Nat)) (Operand.tmp (120 : Nat))
  (Value.agg
  {
  toList :=
  [Value.int IntKind.i64 n17, Value.int IntKind.i64 n18, Value.int IntKind.i64 n19, Value.int IntKind.i64 n20] })
  (Value.agg
  {
  toList :=
  [Value.int IntKind.i64 (0 : Int), Value.int IntKind.i64 (0 : Int), Value.int IntKind.i64 (0 : Int),
  Value.int IntKind.i64 (0 : Int)] }))
  w31 fun (v104 : Value) (w32 : World) =>
  ∃ (b11 : Bool),
  v104 = Value.bool b11 ∧
  (b11 = true →
  Rets Tryd.prog (10 : Nat)
  { toList := [Value.pointer none, Value.int IntKind.u64 (1 : Int), Value.int IntKind.u64 (2 : Int)] } w32
  fun (v105 : Value) (w33 : World) =>
  ∃ (b12 : Bool),
  v105 = Value.bool b12 ∧
  (b12 = true →
  Rets Tryd.prog (5 : Nat) { toList := [] } w33 fun (v106 : Value) (w34 : World) =>
  ∃ (b13 : Bool), v106 = Value.bool b13 ∧ K (Value.bool b13) w34) ∧
  (b12 = false → K (Value.bool false) w33)) ∧
  (b11 = false → K (Value.bool false) w32)) ∧
  ((IntKind.wrap IntKind.i64 (n15 + n16) == (0 : Int)) = false → K (Value.bool false) w30)) ∧
  ((!b10) = false → K (Value.bool false) w28)) ∧
  ((!b9) = false → K (Value.bool false) w27))))
theorem cortadolaw12_DoorKeeps_eq (k s : Int) (q : Option Addr) (l c : Nat) (w : World) (K : Value → World → Prop) : fw Tryd.prog Tryd.f4 (annL [(2, [(10, some 3), (32, none), (33, none), (34, none), (35, none), (36, none), (37, none), (38, none), (39, none), (40, none), (41, none), (42, none), (43, none)]), (6, [(6, none), (11, some 3), (12, none), (13, none), (44, none), (45, none), (46, none), (47, none), (48, none), (49, none), (50, none), (51, none), (52, none), (53, none), (54, none), (55, none), (56, none), (57, none), (58, none), (59, none), (60, none), (61, none), (62, none), (63, none), (64, none), (65, none), (66, none), (67, none), (68, none), (69, none), (70, none), (71, none), (72, none), (73, none), (74, none), (75, none), (76, none), (77, none), (78, none), (79, none), (80, none), (81, none), (82, none), (83, none), (84, none), (85, none), (86, none), (87, none), (88, none), (89, none), (90, none), (91, none), (92, none), (93, none), (94, none), (95, none), (96, none), (97, none), (98, none)]), (10, [(12, some 4), (13, some 3), (50, none), (51, none), (52, none), (53, none), (54, none), (55, none), (56, none), (57, none), (58, none), (59, none), (60, none), (61, none), (62, none), (63, none), (64, none), (65, none), (66, none), (67, none)])]) (ordL [(17, [(0, 0), (1, 0), (2, 0), (3, 0), (4, 0), (6, 0), (7, 0), (8, 0), (5, 1), (9, 1), (10, 0), (11, 0), (12, 0)]), (18, [(0, 0), (1, 0), (2, 0), (3, 0), (4, 0), (5, 0), (6, 1), (7, 2), (8, 0), (9, 0), (10, 0), (11, 0), (12, 0), (13, 0), (15, 0), (16, 0), (17, 0), (19, 0), (14, 1), (18, 1), (20, 2), (21, 0), (22, 0), (23, 0), (24, 0), (25, 0), (26, 0), (27, 1), (28, 3), (29, 0), (30, 0)])]) [.int .i64 k, .int .u64 s, .slice q l c] w K = cortadolaw12_DoorKeeps_m k s q l c w K := by kernel_rfl
theorem cortadolaw12_DoorKeeps_go (k s : Int) (q : Option Addr) (l c : Nat) {w : World} {K : Value → World → Prop} (h : cortadolaw12_DoorKeeps_m k s q l c w K) : Rets Tryd.prog 4 #[.int .i64 k, .int .u64 s, .slice q l c] w K :=
  calls_of_fw plain mixed Tryd.func4 (by kernel_rfl) (by rw [cortadolaw12_DoorKeeps_eq]; exact h)
def door_nil_Alike_m (a b : Int) (w : World) (K : Value → World → Prop) : Prop :=
  Rets Tryd.prog (8 : Nat) { toList := [Value.pointer none, Value.int IntKind.u64 a] } w fun (v1 : Value) (w1 : World) =>
  ∃ (n1 : Int),
  ∃ (n2 : Int),
  ∃ (n3 : Int),
  ∃ (n4 : Int),
  v1 =
  Value.agg
  { toList := [Value.int IntKind.i64 n1, Value.int IntKind.i64 n2, Value.int IntKind.i64 n3, Value.int IntKind.i64 n4] } ∧
  Rets Tryd.prog (8 : Nat) { toList := [Value.pointer none, Value.int IntKind.u64 b] } w1 fun (v2 : Value) (w2 : World) =>
  ∃ (n5 : Int),
  ∃ (n6 : Int),
  ∃ (n7 : Int),
  ∃ (n8 : Int),
  v2 =
  Value.agg
  { toList := [Value.int IntKind.i64 n5, Value.int IntKind.i64 n6, Value.int IntKind.i64 n7, Value.int IntKind.i64 n8] } ∧
  RunR Tryd.prog
  (binV BinOp.eql (31 : Nat) (Operand.tmp (9 : Nat)) (Operand.tmp (12 : Nat))
  (Value.agg
  { toList := [Value.int IntKind.i64 n1, Value.int IntKind.i64 n2, Value.int IntKind.i64 n3, Value.int IntKind.i64 n4] })
  (Value.agg
  { toList := [Value.int IntKind.i64 n5, Value.int IntKind.i64 n6, Value.int IntKind.i64 n7, Value.int IntKind.i64 n8] }))
  w2 fun (v3 : Value) (w3 : World) => ∃ (b1 : Bool), v3 = Value.bool b1 ∧ K (Value.bool b1) w3
theorem door_nil_Alike_eq (a b : Int) (w : World) (K : Value → World → Prop) : fw Tryd.prog Tryd.f10 (annL []) (ordL []) [.pointer none, .int .u64 a, .int .u64 b] w K = door_nil_Alike_m a b w K := by kernel_rfl
theorem door_nil_Alike_go (a b : Int) {w : World} {K : Value → World → Prop} (h : door_nil_Alike_m a b w K) : Rets Tryd.prog 10 #[.pointer none, .int .u64 a, .int .u64 b] w K :=
  calls_of_fw plain mixed Tryd.func10 (by kernel_rfl) (by rw [door_nil_Alike_eq]; exact h)
end Go.Proofs.YtfcddffcjmgpkaaDoor.Eng
