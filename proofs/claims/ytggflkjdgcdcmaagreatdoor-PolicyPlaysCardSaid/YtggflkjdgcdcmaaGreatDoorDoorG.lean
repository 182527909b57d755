/- What the code of these functions asks for: printed by a program of this session's (gens.py) out of the seat's own functions; the kernel checks each row. -/
import Derived.Test.YtggflkjdgcdcmaaGreatDoorEngH
import Derived.Test.YtggflkjdgcdcmaaGreatDoorProg
import Derived.Test.YtggflkjdgcdcmaaGreatDoorBase
namespace Go.Proofs.YtggflkjdgcdcmaaGreatDoor.Eng
open Go Go.Proofs
set_option linter.unusedVariables false
set_option maxRecDepth 1000000
def word_Log_m (x : Int) (w : World) (K : Value → World → Prop) : Prop :=
  ∃ (h1 : Nat → List Value → World → Prop),
  (∃ (k1 : Nat), h1 k1 [Value.int IntKind.u64 x, Value.int IntKind.i64 (-1 : Int)] w) ∧
  ∀ (k2 : Nat) (w1 : World) (n1 n2 : Int) (v1 v2 v3 v4 v5 v6 : Value),
  h1 k2 [Value.int IntKind.u64 n1, Value.int IntKind.i64 n2] w1 →
  ((n1 != (0 : Int)) = true →
  (0 : Int) ≤ (1 : Int) ∧
  ∃ (k3 : Nat),
  k3 < k2 ∧
  h1 k3
  [Value.int IntKind.u64 (shrI IntKind.u64 n1 (1 : Int)),
  Value.int IntKind.i64 (IntKind.wrap IntKind.i64 (n2 + (1 : Int)))]
  w1) ∧
  ((n1 != (0 : Int)) = false → K (Value.int IntKind.i64 n2) w1)
theorem word_Log_eq (x : Int) (w : World) (K : Value → World → Prop) : fw Tryz.prog Tryz.f98 (annL [(1, [(0, some 30), (3, some 3), (4, none), (5, none), (6, none), (7, none), (8, none), (9, none)])]) (ordL []) [.int .u64 x] w K = word_Log_m x w K := by kernel_rfl
theorem word_Log_go (x : Int) {w : World} {K : Value → World → Prop} (h : word_Log_m x w K) : Rets Tryz.prog 98 #[.int .u64 x] w K :=
  calls_of_fw plain mixed Tryz.func98 (by kernel_rfl) (by rw [word_Log_eq]; exact h)
def word_Power_m (n : Int) (w : World) (K : Value → World → Prop) : Prop :=
  Rets Tryz.prog (98 : Nat)
  {
  toList :=
  [Value.int IntKind.u64
  (IntKind.wrap IntKind.u64
  (IntKind.wrap IntKind.i64 (maxI (1 : Int) (minI n (4611686018427387904 : Int)) - (1 : Int))))] }
  w fun (v1 : Value) (w1 : World) =>
  ∃ (n1 : Int),
  v1 = Value.int IntKind.i64 n1 ∧
  (0 : Int) ≤ IntKind.wrap IntKind.i64 (n1 + (1 : Int)) ∧
  K (Value.int IntKind.i64 (shlI IntKind.i64 (1 : Int) (IntKind.wrap IntKind.i64 (n1 + (1 : Int))))) w1
theorem word_Power_eq (n : Int) (w : World) (K : Value → World → Prop) : fw Tryz.prog Tryz.f71 (annL []) (ordL []) [.int .i64 n] w K = word_Power_m n w K := by kernel_rfl
theorem word_Power_go (n : Int) {w : World} {K : Value → World → Prop} (h : word_Power_m n w K) : Rets Tryz.prog 71 #[.int .i64 n] w K :=
  calls_of_fw plain mixed Tryz.func71 (by kernel_rfl) (by rw [word_Power_eq]; exact h)
def cortadoref01_Power_m (n : Int) (w : World) (K : Value → World → Prop) : Prop :=
  ∃ (h1 : Nat → List Value → World → Prop),
  (∃ (k1 : Nat), h1 k1 [Value.int IntKind.i64 (1 : Int), Value.int IntKind.i64 (0 : Int)] w) ∧
  ∀ (k2 : Nat) (w1 : World) (n1 n2 : Int) (v1 v2 v3 v4 v5 v6 v7 v8 v9 v10 v11 : Value),
  h1 k2 [Value.int IntKind.i64 n1, Value.int IntKind.i64 n2] w1 →
  (decide (n2 < (62 : Int)) = true →
  (decide (n1 < n) = true →
  ∃ (k3 : Nat),
  k3 < k2 ∧
  h1 k3
  [Value.int IntKind.i64 (IntKind.wrap IntKind.i64 ((2 : Int) * n1)),
  Value.int IntKind.i64 (IntKind.wrap IntKind.i64 (n2 + (1 : Int)))]
  w1) ∧
  (decide (n1 < n) = false → K (Value.int IntKind.i64 n1) w1)) ∧
  (decide (n2 < (62 : Int)) = false → K (Value.int IntKind.i64 n1) w1)
theorem cortadoref01_Power_eq (n : Int) (w : World) (K : Value → World → Prop) : fw Tryz.prog Tryz.f76 (annL [(1, [(3, some 3), (4, some 3), (5, none), (6, none), (7, none), (8, none), (9, none), (10, none), (11, none), (12, none), (13, none), (14, none), (15, none)])]) (ordL []) [.int .i64 n] w K = cortadoref01_Power_m n w K := by kernel_rfl
theorem cortadoref01_Power_go (n : Int) {w : World} {K : Value → World → Prop} (h : cortadoref01_Power_m n w K) : Rets Tryz.prog 76 #[.int .i64 n] w K :=
  calls_of_fw plain mixed Tryz.func76 (by kernel_rfl) (by rw [cortadoref01_Power_eq]; exact h)
def door_New_m (k s : Int) (w : World) (K : Value → World → Prop) : Prop :=
  Rets Tryz.prog (71 : Nat)
  { toList := [Value.int IntKind.i64 (IntKind.wrap IntKind.i64 ((8 : Int) * maxI (1 : Int) (minI k (4096 : Int))))] } w
  fun (v1 : Value) (w1 : World) =>
  ∃ (n1 : Int),
  v1 = Value.int IntKind.i64 n1 ∧
  Drw w1 fun (w2 : World) =>
  (64 : Int) ≠ (0 : Int) ∧
  (MakeR (30 : Nat) [Value.int IntKind.u64 (0 : Int)] (8 : Nat)
  (IntKind.wrap IntKind.i64
  (Int.tdiv (IntKind.wrap IntKind.i64 (IntKind.wrap IntKind.i64 (n1 + (64 : Int)) - (1 : Int))) (64 : Int)))
  (IntKind.wrap IntKind.i64
  (Int.tdiv (IntKind.wrap IntKind.i64 (IntKind.wrap IntKind.i64 (n1 + (64 : Int)) - (1 : Int))) (64 : Int)))
  w2 fun (a1 : Addr) (w3 : World) =>
  Rets Tryz.prog (73 : Nat) { toList := [Value.int IntKind.u64 s] } w3 fun (v2 : Value) (w4 : World) =>
  ∃ (n2 : Int),
  v2 = Value.int IntKind.u64 n2 ∧
  NewR (141 : Nat)
  [Value.slice (some a1)
  (Int.toNat
  (IntKind.wrap IntKind.i64
  (Int.tdiv (IntKind.wrap IntKind.i64 (IntKind.wrap IntKind.i64 (n1 + (64 : Int)) - (1 : Int))) (64 : Int))))
  (Int.toNat
  (IntKind.wrap IntKind.i64
  (Int.tdiv (IntKind.wrap IntKind.i64 (IntKind.wrap IntKind.i64 (n1 + (64 : Int)) - (1 : Int))) (64 : Int)))),
  Value.int IntKind.i64 n1, Value.int IntKind.u64 n2]
  w4 fun (a2 : Addr) (w5 : World) => K (Value.pointer (some a2)) w5) ∧
  Rets Tryz.prog (73 : Nat) { toList := [Value.int IntKind.u64 s] } w2 fun (v3 : Value) (w6 : World) =>
  ∃ (n3 : Int),
  v3 = Value.int IntKind.u64 n3 ∧
  MakeR (30 : Nat) [Value.int IntKind.u64 (0 : Int)] (8 : Nat)
  (IntKind.wrap IntKind.i64
  (Int.tdiv (IntKind.wrap IntKind.i64 (IntKind.wrap IntKind.i64 (n1 + (64 : Int)) - (1 : Int))) (64 : Int)))
  (IntKind.wrap IntKind.i64
  (Int.tdiv (IntKind.wrap IntKind.i64 (IntKind.wrap IntKind.i64 (n1 + (64 : Int)) - (1 : Int))) (64 : Int)))
  w6 fun (a3 : Addr) (w7 : World) =>
  NewR (141 : Nat)
  [Value.slice (some a3)
  (Int.toNat
  (IntKind.wrap IntKind.i64
  (Int.tdiv (IntKind.wrap IntKind.i64 (IntKind.wrap IntKind.i64 (n1 + (64 : Int)) - (1 : Int))) (64 : Int))))
  (Int.toNat
  (IntKind.wrap IntKind.i64
  (Int.tdiv (IntKind.wrap IntKind.i64 (IntKind.wrap IntKind.i64 (n1 + (64 : Int)) - (1 : Int))) (64 : Int)))),
  Value.int IntKind.i64 n1, Value.int IntKind.u64 n3]
  w7 fun (a4 : Addr) (w8 : World) => K (Value.pointer (some a4)) w8
theorem door_New_eq (k s : Int) (w : World) (K : Value → World → Prop) : fw Tryz.prog Tryz.f47 (annL []) (ordL [(2, [(0, 0), (1, 0), (2, 0), (3, 0), (5, 0), (6, 0), (0, 6), (4, 3), (7, 3), (8, 0), (9, 3), (10, 0), (0, 7), (7, 3), (4, 3), (8, 0), (9, 3), (10, 0), (0, 7)])]) [.int .i64 k, .int .u64 s] w K = door_New_m k s w K := by kernel_rfl
theorem door_New_go (k s : Int) {w : World} {K : Value → World → Prop} (h : door_New_m k s w K) : Rets Tryz.prog 47 #[.int .i64 k, .int .u64 s] w K :=
  calls_of_fw plain mixed Tryz.func47 (by kernel_rfl) (by rw [door_New_eq]; exact h)
def door_Door_Places_m (g : Nat) (hh : Int) (w : World) (K : Value → World → Prop) : Prop :=
  NewR (157 : Nat)
  [Value.int IntKind.i64 (0 : Int), Value.int IntKind.i64 (0 : Int), Value.int IntKind.i64 (0 : Int),
  Value.int IntKind.i64 (0 : Int)]
  w fun (a1 : Addr) (w1 : World) =>
  (false = true →
  ∃ (n1 : Int),
  ∃ (n2 : Int),
  ∃ (n3 : Int),
  ∃ (n4 : Int),
  (cellAt w1 (Addr.add a1 (0 : Nat)) (Value.int IntKind.i64 n1) ∧
  cellAt w1 (Addr.add a1 (1 : Nat)) (Value.int IntKind.i64 n2) ∧
  cellAt w1 (Addr.add a1 (2 : Nat)) (Value.int IntKind.i64 n3) ∧
  cellAt w1 (Addr.add a1 (3 : Nat)) (Value.int IntKind.i64 n4)) ∧
  StoreR a1 [Value.int IntKind.i64 n1, Value.int IntKind.i64 n2, Value.int IntKind.i64 n3, Value.int IntKind.i64 n4] w1
  fun (w2 : World) =>
  ∃ (n5 : Int),
  ∃ (n6 : Int),
  ∃ (n7 : Int),
  ∃ (n8 : Int),
  (cellAt w2 (Addr.add a1 (0 : Nat)) (Value.int IntKind.i64 n5) ∧
  cellAt w2 (Addr.add a1 (1 : Nat)) (Value.int IntKind.i64 n6) ∧
  cellAt w2 (Addr.add a1 (2 : Nat)) (Value.int IntKind.i64 n7) ∧
  cellAt w2 (Addr.add a1 (3 : Nat)) (Value.int IntKind.i64 n8)) ∧
  K
  (Value.agg
  { toList := [Value.int IntKind.i64 n5, Value.int IntKind.i64 n6, Value.int IntKind.i64 n7, Value.int IntKind.i64 n8] })
  w2) ∧
  (false = false →
  ∃ (n9 : Int),
  cellAt w1 (Addr.add { block := g, off := (0 : Nat) } (2 : Nat)) (Value.int IntKind.u64 n9) ∧
  Rets Tryz.prog (73 : Nat) { toList := [Value.int IntKind.u64 (bits BinOp.xor IntKind.u64 hh n9)] } w1
  fun (v1 : Value) (w3 : World) =>
  ∃ (n10 : Int),
  v1 = Value.int IntKind.u64 n10 ∧
  Rets Tryz.prog (117 : Nat) { toList := [Value.int IntKind.u64 (bits BinOp.xor IntKind.u64 hh n9)] } w3
  fun (v2 : Value) (w4 : World) =>
  ∃ (n11 : Int),
  v2 = Value.int IntKind.u64 n11 ∧
  ∃ (h1 : Nat → List Value → World → Prop),
  (∃ (k1 : Nat), h1 k1 [Value.int IntKind.u64 n10, Value.int IntKind.i64 (0 : Int)] w4) ∧
  ∀ (k2 : Nat) (w5 : World) (n12 : Int) (v3 : Value) (n13 : Int)
  (v4 v5 v6 v7 v8 v9 v10 v11 v12 v13 v14 v15 v16 v17 v18 v19 v20 : Value),
  h1 k2 [Value.int IntKind.u64 n12, Value.int IntKind.i64 n13] w5 →
  (decide (n13 < (4 : Int)) = true →
  ∃ (n14 : Int),
  cellAt w5 (Addr.add { block := g, off := (0 : Nat) } (1 : Nat)) (Value.int IntKind.i64 n14) ∧
  (0 : Int) ≤ n13 ∧
  n13 < (↑(4 : Nat) : Int) ∧
  StoreR (Addr.add a1 (Int.toNat n13 * (1 : Nat)))
  [Value.int IntKind.i64
  (IntKind.wrap IntKind.i64
  (bits BinOp.and IntKind.u64 n12 (IntKind.wrap IntKind.u64 (IntKind.wrap IntKind.i64 (n14 - (1 : Int))))))]
  w5 fun (w6 : World) =>
  ∃ (k3 : Nat),
  k3 < k2 ∧
  h1 k3
  [Value.int IntKind.u64 (IntKind.wrap IntKind.u64 (n12 + bits BinOp.or IntKind.u64 n11 (1 : Int))),
  Value.int IntKind.i64 (IntKind.wrap IntKind.i64 (n13 + (1 : Int)))]
  w6) ∧
  (decide (n13 < (4 : Int)) = false →
  ∃ (n15 : Int),
  ∃ (n16 : Int),
  ∃ (n17 : Int),
  ∃ (n18 : Int),
  (cellAt w5 (Addr.add a1 (0 : Nat)) (Value.int IntKind.i64 n15) ∧
  cellAt w5 (Addr.add a1 (1 : Nat)) (Value.int IntKind.i64 n16) ∧
  cellAt w5 (Addr.add a1 (2 : Nat)) (Value.int IntKind.i64 n17) ∧
  cellAt w5 (Addr.add a1 (3 : Nat)) (Value.int IntKind.i64 n18)) ∧
  StoreR a1 [Value.int IntKind.i64 n15, Value.int IntKind.i64 n16, Value.int IntKind.i64 n17, Value.int IntKind.i64 n18]
  w5 fun (w7 : World) =>
  ∃ (n19 : Int),
  ∃ (n20 : Int),
  ∃ (n21 : Int),
  ∃ (n22 : Int),
  (cellAt w7 (Addr.add a1 (0 : Nat)) (Value.int IntKind.i64 n19) ∧
  cellAt w7 (Addr.add a1 (1 : Nat)) (Value.int IntKind.i64 n20) ∧
  cellAt w7 (Addr.add a1 (2 : Nat)) (Value.int IntKind.i64 n21) ∧
  cellAt w7 (Addr.add a1 (3 : Nat)) (Value.int IntKind.i64 n22)) ∧
  K
  (Value.agg
  {
  toList :=
  [Value.int IntKind.i64 n19, Value.int IntKind.i64 n20, Value.int IntKind.i64 n21, Value.int IntKind.i64 n22] })
  w7))
theorem door_Door_Places_eq (g : Nat) (hh : Int) (w : World) (K : Value → World → Prop) : fw Tryz.prog Tryz.f91 (annL [(2, [(6, some 30), (8, none), (23, some 3), (24, none), (25, none), (26, none), (27, none), (28, none), (29, none), (30, none), (31, none), (32, none), (33, none), (34, none), (35, none), (36, none), (37, none), (38, none), (39, none), (40, none)])]) (ordL []) [.pointer (some ⟨g, 0, none⟩), .int .u64 hh] w K = door_Door_Places_m g hh w K := by kernel_rfl
theorem door_Door_Places_go (g : Nat) (hh : Int) {w : World} {K : Value → World → Prop} (h : door_Door_Places_m g hh w K) : Rets Tryz.prog 91 #[.pointer (some ⟨g, 0, none⟩), .int .u64 hh] w K :=
  calls_of_fw plain mixed Tryz.func91 (by kernel_rfl) (by rw [door_Door_Places_eq]; exact h)
def door_Door_is_m (g : Nat) (at_ : Int) (w : World) (K : Value → World → Prop) : Prop :=
  ∃ (q1 : Option Addr),
  ∃ (k1 : Nat),
  ∃ (k2 : Nat),
  cellAt w (Addr.add { block := g, off := (0 : Nat) } (0 : Nat)) (Value.slice q1 k1 k2) ∧
  (64 : Int) ≠ (0 : Int) ∧
  (0 : Int) ≤ IntKind.wrap IntKind.i64 (Int.tdiv at_ (64 : Int)) ∧
  IntKind.wrap IntKind.i64 (Int.tdiv at_ (64 : Int)) < (↑k1 : Int) ∧
  someR q1 fun (a1 : Addr) =>
  ∃ (n1 : Int),
  cellAt w (Addr.add a1 (Int.toNat (IntKind.wrap IntKind.i64 (Int.tdiv at_ (64 : Int))) * (1 : Nat)))
  (Value.int IntKind.u64 n1) ∧
  (64 : Int) ≠ (0 : Int) ∧
  (0 : Int) ≤ IntKind.wrap IntKind.u64 (Int.tmod at_ (64 : Int)) ∧
  K
  (Value.bool
  (bits BinOp.and IntKind.u64 (shrI IntKind.u64 n1 (IntKind.wrap IntKind.u64 (Int.tmod at_ (64 : Int)))) (1 : Int) ==
  (1 : Int)))
  w
theorem door_Door_is_eq (g : Nat) (at_ : Int) (w : World) (K : Value → World → Prop) : fw Tryz.prog Tryz.f92 (annL []) (ordL []) [.pointer (some ⟨g, 0, none⟩), .int .i64 at_] w K = door_Door_is_m g at_ w K := by kernel_rfl
theorem door_Door_is_go (g : Nat) (at_ : Int) {w : World} {K : Value → World → Prop} (h : door_Door_is_m g at_ w K) : Rets Tryz.prog 92 #[.pointer (some ⟨g, 0, none⟩), .int .i64 at_] w K :=
  calls_of_fw plain mixed Tryz.func92 (by kernel_rfl) (by rw [door_Door_is_eq]; exact h)
def door_Door_Has_m (g : Nat) (hh : Int) (w : World) (K : Value → World → Prop) : Prop :=
  (false = true → K (Value.bool false) w) ∧
  (false = false →
  Rets Tryz.prog (91 : Nat)
  { toList := [Value.pointer (some { block := g, off := (0 : Nat) }), Value.int IntKind.u64 hh] } w
  fun (v1 : Value) (w1 : World) =>
  ∃ (n1 : Int),
  ∃ (n2 : Int),
  ∃ (n3 : Int),
  ∃ (n4 : Int),
  v1 =
  Value.agg
  { toList := [Value.int IntKind.i64 n1, Value.int IntKind.i64 n2, Value.int IntKind.i64 n3, Value.int IntKind.i64 n4] } ∧
  ∃ (h1 : Nat → List Value → World → Prop),
  (∃ (k1 : Nat), h1 k1 [Value.int IntKind.i64 (0 : Int)] w1) ∧
  ∀ (k2 : Nat) (w2 : World) (v2 v3 : Value) (n5 : Int) (v4 v5 v6 v7 v8 v9 v10 : Value),
  h1 k2 [Value.int IntKind.i64 n5] w2 →
  (decide (n5 < (4 : Int)) = true →
  (0 : Int) ≤ n5 ∧
  n5 < (↑(4 : Nat) : Int) ∧
  ∃ (n6 : Int),
  List.get?Internal
  (Array.toList
  { toList := [Value.int IntKind.i64 n1, Value.int IntKind.i64 n2, Value.int IntKind.i64 n3, Value.int IntKind.i64 n4] })
  (Int.toNat n5) =
  some (Value.int IntKind.i64 n6) ∧
  Rets Tryz.prog (92 : Nat)
  { toList := [Value.pointer (some { block := g, off := (0 : Nat) }), Value.int IntKind.i64 n6] } w2
  fun (v11 : Value) (w3 : World) =>
  ∃ (b1 : Bool),
  v11 = Value.bool b1 ∧
  ((!b1) = true → K (Value.bool false) w3) ∧
  ((!b1) = false →
  ∃ (k3 : Nat), k3 < k2 ∧ h1 k3 [Value.int IntKind.i64 (IntKind.wrap IntKind.i64 (n5 + (1 : Int)))] w3)) ∧
  (decide (n5 < (4 : Int)) = false → K (Value.bool true) w2))
theorem door_Door_Has_eq (g : Nat) (hh : Int) (w : World) (K : Value → World → Prop) : fw Tryz.prog Tryz.f63 (annL [(2, [(4, none), (6, none), (12, some 3), (13, none), (14, none), (15, none), (16, none), (17, none), (18, none), (19, none)])]) (ordL []) [.pointer (some ⟨g, 0, none⟩), .int .u64 hh] w K = door_Door_Has_m g hh w K := by kernel_rfl
theorem door_Door_Has_go (g : Nat) (hh : Int) {w : World} {K : Value → World → Prop} (h : door_Door_Has_m g hh w K) : Rets Tryz.prog 63 #[.pointer (some ⟨g, 0, none⟩), .int .u64 hh] w K :=
  calls_of_fw plain mixed Tryz.func63 (by kernel_rfl) (by rw [door_Door_Has_eq]; exact h)
def door_Door_Put_m (g : Nat) (hh : Int) (w : World) (K : Value → World → Prop) : Prop :=
  (false = false →
  Rets Tryz.prog (63 : Nat)
  { toList := [Value.pointer (some { block := g, off := (0 : Nat) }), Value.int IntKind.u64 hh] } w
  fun (v1 : Value) (w1 : World) =>
  ∃ (b1 : Bool),
  v1 = Value.bool b1 ∧
  (b1 = true → K (Value.bool false) w1) ∧
  (b1 = false →
  Rets Tryz.prog (91 : Nat)
  { toList := [Value.pointer (some { block := g, off := (0 : Nat) }), Value.int IntKind.u64 hh] } w1
  fun (v2 : Value) (w2 : World) =>
  ∃ (n1 : Int),
  ∃ (n2 : Int),
  ∃ (n3 : Int),
  ∃ (n4 : Int),
  v2 =
  Value.agg
  { toList := [Value.int IntKind.i64 n1, Value.int IntKind.i64 n2, Value.int IntKind.i64 n3, Value.int IntKind.i64 n4] } ∧
  ∃ (h1 : Nat → List Value → World → Prop),
  (∃ (k1 : Nat), h1 k1 [Value.int IntKind.i64 (0 : Int)] w2) ∧
  ∀ (k2 : Nat) (w3 : World) (v3 : Value) (n5 : Int)
  (v4 v5 v6 v7 v8 v9 v10 v11 v12 v13 v14 v15 v16 v17 v18 v19 v20 : Value),
  h1 k2 [Value.int IntKind.i64 n5] w3 →
  (decide (n5 < (4 : Int)) = true →
  (0 : Int) ≤ n5 ∧
  n5 < (↑(4 : Nat) : Int) ∧
  ∃ (n6 : Int),
  List.get?Internal
  (Array.toList
  { toList := [Value.int IntKind.i64 n1, Value.int IntKind.i64 n2, Value.int IntKind.i64 n3, Value.int IntKind.i64 n4] })
  (Int.toNat n5) =
  some (Value.int IntKind.i64 n6) ∧
  ∃ (q1 : Option Addr),
  ∃ (k3 : Nat),
  ∃ (k4 : Nat),
  cellAt w3 (Addr.add { block := g, off := (0 : Nat) } (0 : Nat)) (Value.slice q1 k3 k4) ∧
  (64 : Int) ≠ (0 : Int) ∧
  (0 : Int) ≤ IntKind.wrap IntKind.i64 (Int.tdiv n6 (64 : Int)) ∧
  IntKind.wrap IntKind.i64 (Int.tdiv n6 (64 : Int)) < (↑k3 : Int) ∧
  someR q1 fun (a1 : Addr) =>
  ∃ (n7 : Int),
  cellAt w3 (Addr.add a1 (Int.toNat (IntKind.wrap IntKind.i64 (Int.tdiv n6 (64 : Int))) * (1 : Nat)))
  (Value.int IntKind.u64 n7) ∧
  (64 : Int) ≠ (0 : Int) ∧
  (0 : Int) ≤ IntKind.wrap IntKind.u64 (Int.tmod n6 (64 : Int)) ∧
  (0 : Int) ≤ IntKind.wrap IntKind.i64 (Int.tdiv n6 (64 : Int)) ∧
  IntKind.wrap IntKind.i64 (Int.tdiv n6 (64 : Int)) < (↑k3 : Int) ∧
  someR q1 fun (a2 : Addr) =>
  StoreR (Addr.add a2 (Int.toNat (IntKind.wrap IntKind.i64 (Int.tdiv n6 (64 : Int))) * (1 : Nat)))
  [Value.int IntKind.u64
  (bits BinOp.or IntKind.u64 n7 (shlI IntKind.u64 (1 : Int) (IntKind.wrap IntKind.u64 (Int.tmod n6 (64 : Int)))))]
  w3 fun (w4 : World) =>
  ∃ (k5 : Nat), k5 < k2 ∧ h1 k5 [Value.int IntKind.i64 (IntKind.wrap IntKind.i64 (n5 + (1 : Int)))] w4) ∧
  (decide (n5 < (4 : Int)) = false → K (Value.bool true) w3))) ∧
  (false = true → K (Value.bool false) w)
theorem door_Door_Put_eq (g : Nat) (hh : Int) (w : World) (K : Value → World → Prop) : fw Tryz.prog Tryz.f105 (annL [(2, [(6, none), (17, some 3), (18, none), (19, none), (20, none), (21, none), (22, none), (23, none), (24, none), (25, none), (26, none), (27, none), (28, none), (29, none), (30, none), (31, none), (32, none), (33, none), (34, none)])]) (ordL []) [.pointer (some ⟨g, 0, none⟩), .int .u64 hh] w K = door_Door_Put_m g hh w K := by kernel_rfl
theorem door_Door_Put_go (g : Nat) (hh : Int) {w : World} {K : Value → World → Prop} (h : door_Door_Put_m g hh w K) : Rets Tryz.prog 105 #[.pointer (some ⟨g, 0, none⟩), .int .u64 hh] w K :=
  calls_of_fw plain mixed Tryz.func105 (by kernel_rfl) (by rw [door_Door_Put_eq]; exact h)
def door_Door_Clear_m (g : Nat) (w : World) (K : Value → World → Prop) : Prop :=
  (true = true →
  ∃ (q1 : Option Addr),
  ∃ (k1 : Nat),
  ∃ (k2 : Nat),
  cellAt w (Addr.add { block := g, off := (0 : Nat) } (0 : Nat)) (Value.slice q1 k1 k2) ∧
  RunR Tryz.prog (builtinV Builtin.clear { toList := [(87 : Nat)] } (nat_lit 0) { toList := [Value.slice q1 k1 k2] }) w
  fun (v1 : Value) (w1 : World) => v1 = Value.tuple { toList := [] } ∧ K (Value.tuple { toList := [] }) w1) ∧
  (true = false → K (Value.tuple { toList := [] }) w)
theorem door_Door_Clear_eq (g : Nat) (w : World) (K : Value → World → Prop) : fw Tryz.prog Tryz.f88 (annL []) (ordL []) [.pointer (some ⟨g, 0, none⟩)] w K = door_Door_Clear_m g w K := by kernel_rfl
theorem door_Door_Clear_go (g : Nat) {w : World} {K : Value → World → Prop} (h : door_Door_Clear_m g w K) : Rets Tryz.prog 88 #[.pointer (some ⟨g, 0, none⟩)] w K :=
  calls_of_fw plain mixed Tryz.func88 (by kernel_rfl) (by rw [door_Door_Clear_eq]; exact h)
end Go.Proofs.YtggflkjdgcdcmaaGreatDoor.Eng
