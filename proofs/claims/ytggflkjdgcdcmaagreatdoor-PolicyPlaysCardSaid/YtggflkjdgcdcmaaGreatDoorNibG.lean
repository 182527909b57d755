/- What the code of these functions asks for: printed by a program of this session's (gens.py) out of the seat's own functions; the kernel checks each row. -/
import Derived.Test.YtggflkjdgcdcmaaGreatDoorEngH
import Derived.Test.YtggflkjdgcdcmaaGreatDoorProg
import Derived.Test.YtggflkjdgcdcmaaGreatDoorBase
namespace Go.Proofs.YtggflkjdgcdcmaaGreatDoor.Eng
open Go Go.Proofs
set_option linter.unusedVariables false
set_option maxRecDepth 1000000
def nibble_New_m (n : Int) (w : World) (K : Value → World → Prop) : Prop :=
  (2 : Int) ≠ (0 : Int) ∧
  MakeR (5 : Nat) [Value.int IntKind.u8 (0 : Int)] (1 : Nat)
  (IntKind.wrap IntKind.i64
  (Int.tdiv (IntKind.wrap IntKind.i64 (maxI (0 : Int) (minI n (65536 : Int)) + (1 : Int))) (2 : Int)))
  (IntKind.wrap IntKind.i64
  (Int.tdiv (IntKind.wrap IntKind.i64 (maxI (0 : Int) (minI n (65536 : Int)) + (1 : Int))) (2 : Int)))
  w fun (a1 : Addr) (w1 : World) =>
  NewR (164 : Nat)
  [Value.slice (some a1)
  (Int.toNat
  (IntKind.wrap IntKind.i64
  (Int.tdiv (IntKind.wrap IntKind.i64 (maxI (0 : Int) (minI n (65536 : Int)) + (1 : Int))) (2 : Int))))
  (Int.toNat
  (IntKind.wrap IntKind.i64
  (Int.tdiv (IntKind.wrap IntKind.i64 (maxI (0 : Int) (minI n (65536 : Int)) + (1 : Int))) (2 : Int)))),
  Value.int IntKind.i64 (maxI (0 : Int) (minI n (65536 : Int)))]
  w1 fun (a2 : Addr) (w2 : World) => K (Value.pointer (some a2)) w2
theorem nibble_New_eq (n : Int) (w : World) (K : Value → World → Prop) : fw Tryz.prog Tryz.f72 (annL []) (ordL []) [.int .i64 n] w K = nibble_New_m n w K := by kernel_rfl
theorem nibble_New_go (n : Int) {w : World} {K : Value → World → Prop} (h : nibble_New_m n w K) : Rets Tryz.prog 72 #[.int .i64 n] w K :=
  calls_of_fw plain mixed Tryz.func72 (by kernel_rfl) (by rw [nibble_New_eq]; exact h)
def nibble_Row_Len_m (g : Nat) (w : World) (K : Value → World → Prop) : Prop :=
  (false = true → K (Value.int IntKind.i64 (0 : Int)) w) ∧
  (false = false →
  ∃ (n1 : Int),
  cellAt w (Addr.add { block := g, off := (0 : Nat) } (1 : Nat)) (Value.int IntKind.i64 n1) ∧
  K (Value.int IntKind.i64 n1) w)
theorem nibble_Row_Len_eq (g : Nat) (w : World) (K : Value → World → Prop) : fw Tryz.prog Tryz.f132 (annL []) (ordL []) [.pointer (some ⟨g, 0, none⟩)] w K = nibble_Row_Len_m g w K := by kernel_rfl
theorem nibble_Row_Len_go (g : Nat) {w : World} {K : Value → World → Prop} (h : nibble_Row_Len_m g w K) : Rets Tryz.prog 132 #[.pointer (some ⟨g, 0, none⟩)] w K :=
  calls_of_fw plain mixed Tryz.func132 (by kernel_rfl) (by rw [nibble_Row_Len_eq]; exact h)
def nibble_Row_in_m (q : Option Addr) (i : Int) (w : World) (K : Value → World → Prop) : Prop :=
  (decide (i ≥ (0 : Int)) = true →
  Rets Tryz.prog (132 : Nat) { toList := [Value.pointer q] } w fun (v1 : Value) (w1 : World) =>
  ∃ (n1 : Int), v1 = Value.int IntKind.i64 n1 ∧ K (Value.bool (decide (i < n1))) w1) ∧
  (decide (i ≥ (0 : Int)) = false → K (Value.bool false) w)
theorem nibble_Row_in_eq (q : Option Addr) (i : Int) (w : World) (K : Value → World → Prop) : fw Tryz.prog Tryz.f115 (annL []) (ordL []) [.pointer q, .int .i64 i] w K = nibble_Row_in_m q i w K := by kernel_rfl
theorem nibble_Row_in_go (q : Option Addr) (i : Int) {w : World} {K : Value → World → Prop} (h : nibble_Row_in_m q i w K) : Rets Tryz.prog 115 #[.pointer q, .int .i64 i] w K :=
  calls_of_fw plain mixed Tryz.func115 (by kernel_rfl) (by rw [nibble_Row_in_eq]; exact h)
def nibble_bits_m (i : Int) (w : World) (K : Value → World → Prop) : Prop :=
  (2 : Int) ≠ (0 : Int) ∧
  ((Int.tmod i (2 : Int) == (0 : Int)) = true → K (Value.int IntKind.u64 (0 : Int)) w) ∧
  ((Int.tmod i (2 : Int) == (0 : Int)) = false → K (Value.int IntKind.u64 (4 : Int)) w)
theorem nibble_bits_eq (i : Int) (w : World) (K : Value → World → Prop) : fw Tryz.prog Tryz.f116 (annL []) (ordL []) [.int .i64 i] w K = nibble_bits_m i w K := by kernel_rfl
theorem nibble_bits_go (i : Int) {w : World} {K : Value → World → Prop} (h : nibble_bits_m i w K) : Rets Tryz.prog 116 #[.int .i64 i] w K :=
  calls_of_fw plain mixed Tryz.func116 (by kernel_rfl) (by rw [nibble_bits_eq]; exact h)
def nibble_Row_Get_m (g : Nat) (i : Int) (w : World) (K : Value → World → Prop) : Prop :=
  Rets Tryz.prog (115 : Nat)
  { toList := [Value.pointer (some { block := g, off := (0 : Nat) }), Value.int IntKind.i64 i] } w
  fun (v1 : Value) (w1 : World) =>
  ∃ (b1 : Bool),
  v1 = Value.bool b1 ∧
  ((!b1) = true → K (Value.int IntKind.i64 (0 : Int)) w1) ∧
  ((!b1) = false →
  Drw w1 fun (w2 : World) =>
  ∃ (h1 : World → Prop),
  h1 w2 ∧
  (2 : Int) ≠ (0 : Int) ∧
  ∃ (q1 : Option Addr),
  ∃ (k1 : Nat),
  ∃ (k2 : Nat),
  (∀ (w3 : World),
  h1 w3 → World.cell? w3 (Addr.add { block := g, off := (0 : Nat) } (0 : Nat)) = some (Value.slice q1 k1 k2)) ∧
  (0 : Int) ≤ IntKind.wrap IntKind.i64 (Int.tdiv i (2 : Int)) ∧
  IntKind.wrap IntKind.i64 (Int.tdiv i (2 : Int)) < (↑k1 : Int) ∧
  someR q1 fun (a1 : Addr) =>
  ∃ (n1 : Int),
  (∀ (w4 : World),
  h1 w4 →
  World.cell? w4 (Addr.add a1 (Int.toNat (IntKind.wrap IntKind.i64 (Int.tdiv i (2 : Int))) * (1 : Nat))) =
  some (Value.int IntKind.u8 n1)) ∧
  Rets Tryz.prog (116 : Nat) { toList := [Value.int IntKind.i64 i] } w2 fun (v2 : Value) (w5 : World) =>
  ∃ (n2 : Int),
  v2 = Value.int IntKind.u64 n2 ∧
  h1 w5 ∧
  (0 : Int) ≤ n2 ∧
  K (Value.int IntKind.i64 (IntKind.wrap IntKind.i64 (bits BinOp.and IntKind.u8 (shrI IntKind.u8 n1 n2) (15 : Int)))) w5)
theorem nibble_Row_Get_eq (g : Nat) (i : Int) (w : World) (K : Value → World → Prop) : fw Tryz.prog Tryz.f89 (annL []) (ordL [(3, [(0, 0), (1, 0), (2, 0), (4, 0), (5, 0), (8, 0), (3, 1), (6, 0), (7, 1), (9, 2), (10, 0), (11, 0), (12, 0), (13, 0)])]) [.pointer (some ⟨g, 0, none⟩), .int .i64 i] w K = nibble_Row_Get_m g i w K := by kernel_rfl
theorem nibble_Row_Get_go (g : Nat) (i : Int) {w : World} {K : Value → World → Prop} (h : nibble_Row_Get_m g i w K) : Rets Tryz.prog 89 #[.pointer (some ⟨g, 0, none⟩), .int .i64 i] w K :=
  calls_of_fw plain mixed Tryz.func89 (by kernel_rfl) (by rw [nibble_Row_Get_eq]; exact h)
def nibble_Row_Add_m (g : Nat) (i : Int) (w : World) (K : Value → World → Prop) : Prop :=
  Rets Tryz.prog (115 : Nat)
  { toList := [Value.pointer (some { block := g, off := (0 : Nat) }), Value.int IntKind.i64 i] } w
  fun (v1 : Value) (w1 : World) =>
  ∃ (b1 : Bool),
  v1 = Value.bool b1 ∧
  ((!b1) = false →
  Rets Tryz.prog (89 : Nat) { toList := [Value.pointer (some { block := g, off := (0 : Nat) }), Value.int IntKind.i64 i] }
  w1 fun (v2 : Value) (w2 : World) =>
  ∃ (n1 : Int),
  v2 = Value.int IntKind.i64 n1 ∧
  ((n1 == (15 : Int)) = true → K (Value.bool false) w2) ∧
  ((n1 == (15 : Int)) = false →
  Drw w2 fun (w3 : World) =>
  ∃ (h1 : World → Prop),
  h1 w3 ∧
  (2 : Int) ≠ (0 : Int) ∧
  ∃ (q1 : Option Addr),
  ∃ (k1 : Nat),
  ∃ (k2 : Nat),
  (∀ (w4 : World),
  h1 w4 → World.cell? w4 (Addr.add { block := g, off := (0 : Nat) } (0 : Nat)) = some (Value.slice q1 k1 k2)) ∧
  (0 : Int) ≤ IntKind.wrap IntKind.i64 (Int.tdiv i (2 : Int)) ∧
  IntKind.wrap IntKind.i64 (Int.tdiv i (2 : Int)) < (↑k1 : Int) ∧
  someR q1 fun (a1 : Addr) =>
  ∃ (n2 : Int),
  (∀ (w5 : World),
  h1 w5 →
  World.cell? w5 (Addr.add a1 (Int.toNat (IntKind.wrap IntKind.i64 (Int.tdiv i (2 : Int))) * (1 : Nat))) =
  some (Value.int IntKind.u8 n2)) ∧
  Rets Tryz.prog (116 : Nat) { toList := [Value.int IntKind.i64 i] } w3 fun (v3 : Value) (w6 : World) =>
  ∃ (n3 : Int),
  v3 = Value.int IntKind.u64 n3 ∧
  h1 w6 ∧
  (0 : Int) ≤ n3 ∧
  (0 : Int) ≤ IntKind.wrap IntKind.i64 (Int.tdiv i (2 : Int)) ∧
  IntKind.wrap IntKind.i64 (Int.tdiv i (2 : Int)) < (↑k1 : Int) ∧
  someR q1 fun (a2 : Addr) =>
  StoreR (Addr.add a2 (Int.toNat (IntKind.wrap IntKind.i64 (Int.tdiv i (2 : Int))) * (1 : Nat)))
  [Value.int IntKind.u8 (IntKind.wrap IntKind.u8 (n2 + shlI IntKind.u8 (1 : Int) n3))] w6 fun (w7 : World) =>
  K (Value.bool true) w7)) ∧
  ((!b1) = true → K (Value.bool false) w1)
theorem nibble_Row_Add_eq (g : Nat) (i : Int) (w : World) (K : Value → World → Prop) : fw Tryz.prog Tryz.f127 (annL []) (ordL [(3, [(0, 0), (1, 0), (2, 0), (4, 0), (5, 0), (8, 0), (3, 1), (6, 0), (7, 1), (9, 2), (10, 0), (11, 0), (12, 0), (13, 3)])]) [.pointer (some ⟨g, 0, none⟩), .int .i64 i] w K = nibble_Row_Add_m g i w K := by kernel_rfl
theorem nibble_Row_Add_go (g : Nat) (i : Int) {w : World} {K : Value → World → Prop} (h : nibble_Row_Add_m g i w K) : Rets Tryz.prog 127 #[.pointer (some ⟨g, 0, none⟩), .int .i64 i] w K :=
  calls_of_fw plain mixed Tryz.func127 (by kernel_rfl) (by rw [nibble_Row_Add_eq]; exact h)
def nibble_Row_Halve_m (g : Nat) (w : World) (K : Value → World → Prop) : Prop :=
  (false = true → K (Value.tuple { toList := [] }) w) ∧
  (false = false →
  ∃ (q1 : Option Addr),
  ∃ (k1 : Nat),
  ∃ (k2 : Nat),
  cellAt w (Addr.add { block := g, off := (0 : Nat) } (0 : Nat)) (Value.slice q1 k1 k2) ∧
  ∃ (h1 : Nat → List Value → World → Prop),
  (∃ (k3 : Nat), h1 k3 [Value.int IntKind.i64 (0 : Int)] w) ∧
  ∀ (k4 : Nat) (w1 : World) (v1 v2 : Value) (n1 : Int) (v3 v4 v5 v6 v7 v8 v9 v10 v11 v12 v13 v14 v15 v16 : Value),
  h1 k4 [Value.int IntKind.i64 n1] w1 →
  (decide (n1 < (↑k1 : Int)) = true →
  (0 : Int) ≤ n1 ∧
  n1 < (↑k1 : Int) ∧
  someR q1 fun (a1 : Addr) =>
  ∃ (n2 : Int),
  cellAt w1 (Addr.add a1 (Int.toNat n1 * (1 : Nat))) (Value.int IntKind.u8 n2) ∧
  ∃ (q2 : Option Addr),
  ∃ (k5 : Nat),
  ∃ (k6 : Nat),
  cellAt w1 (Addr.add { block := g, off := (0 : Nat) } (0 : Nat)) (Value.slice q2 k5 k6) ∧
  (0 : Int) ≤ (1 : Int) ∧
  (0 : Int) ≤ n1 ∧
  n1 < (↑k5 : Int) ∧
  someR q2 fun (a2 : Addr) =>
  StoreR (Addr.add a2 (Int.toNat n1 * (1 : Nat)))
  [Value.int IntKind.u8 (bits BinOp.and IntKind.u8 (shrI IntKind.u8 n2 (1 : Int)) (119 : Int))] w1 fun (w2 : World) =>
  ∃ (k7 : Nat), k7 < k4 ∧ h1 k7 [Value.int IntKind.i64 (IntKind.wrap IntKind.i64 (n1 + (1 : Int)))] w2) ∧
  (decide (n1 < (↑k1 : Int)) = false → K (Value.tuple { toList := [] }) w1))
theorem nibble_Row_Halve_eq (g : Nat) (w : World) (K : Value → World → Prop) : fw Tryz.prog Tryz.f138 (annL [(2, [(2, none), (3, none), (11, some 3), (12, none), (13, none), (14, none), (15, none), (16, none), (17, none), (18, none), (19, none), (20, none), (21, none), (22, none), (23, none), (24, none), (25, none)])]) (ordL []) [.pointer (some ⟨g, 0, none⟩)] w K = nibble_Row_Halve_m g w K := by kernel_rfl
theorem nibble_Row_Halve_go (g : Nat) {w : World} {K : Value → World → Prop} (h : nibble_Row_Halve_m g w K) : Rets Tryz.prog 138 #[.pointer (some ⟨g, 0, none⟩)] w K :=
  calls_of_fw plain mixed Tryz.func138 (by kernel_rfl) (by rw [nibble_Row_Halve_eq]; exact h)
def nibble_Row_Clear_m (g : Nat) (w : World) (K : Value → World → Prop) : Prop :=
  (true = true →
  ∃ (q1 : Option Addr),
  ∃ (k1 : Nat),
  ∃ (k2 : Nat),
  cellAt w (Addr.add { block := g, off := (0 : Nat) } (0 : Nat)) (Value.slice q1 k1 k2) ∧
  RunR Tryz.prog (builtinV Builtin.clear { toList := [(162 : Nat)] } (nat_lit 0) { toList := [Value.slice q1 k1 k2] }) w
  fun (v1 : Value) (w1 : World) => v1 = Value.tuple { toList := [] } ∧ K (Value.tuple { toList := [] }) w1) ∧
  (true = false → K (Value.tuple { toList := [] }) w)
theorem nibble_Row_Clear_eq (g : Nat) (w : World) (K : Value → World → Prop) : fw Tryz.prog Tryz.f114 (annL []) (ordL []) [.pointer (some ⟨g, 0, none⟩)] w K = nibble_Row_Clear_m g w K := by kernel_rfl
theorem nibble_Row_Clear_go (g : Nat) {w : World} {K : Value → World → Prop} (h : nibble_Row_Clear_m g w K) : Rets Tryz.prog 114 #[.pointer (some ⟨g, 0, none⟩)] w K :=
  calls_of_fw plain mixed Tryz.func114 (by kernel_rfl) (by rw [nibble_Row_Clear_eq]; exact h)
end Go.Proofs.YtggflkjdgcdcmaaGreatDoor.Eng
