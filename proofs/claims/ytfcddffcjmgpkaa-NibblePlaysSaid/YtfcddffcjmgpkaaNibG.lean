/- What the code of these functions asks for: printed by a program of this session's (gens.py) out of the seat's own functions; the kernel checks each row. -/
import Derived.Test.YtfcddffcjmgpkaaEngH
import Derived.Test.YtfcddffcjmgpkaaProg
import Derived.Test.YtfcddffcjmgpkaaBase
namespace Go.Proofs.Ytfcddffcjmgpkaa.Eng
open Go Go.Proofs
set_option linter.unusedVariables false
set_option maxRecDepth 1000000
def nibble_New_m (n : Int) (w : World) (K : Value → World → Prop) : Prop :=
  (2 : Int) ≠ (0 : Int) ∧
  MakeR (5 : Nat) [Value.int IntKind.u8 (0 : Int)] (1 : Nat)
  (IntKind.wrap IntKind.i64
  (Int.tdiv (IntKind.wrap IntKind.i64 (maxI (0 : Int) (minI n (65536 : Int)) + (1 : Int))) (2 : Int)))
  (IntKind.wrap IntKind.i64
  (Int.tdiv (IntKind.wrap IntKind.i64 (maxI (0 : Int) (minI n (65536 : Int)) + (1 : Int))) (2 : Int)))
  w fun (a1 : Addr) (w1 : World) =>
  NewR (125 : Nat)
  [Value.slice (some a1)
  (Int.toNat
  (IntKind.wrap IntKind.i64
  (Int.tdiv (IntKind.wrap IntKind.i64 (maxI (0 : Int) (minI n (65536 : Int)) + (1 : Int))) (2 : Int))))
  (Int.toNat
  (IntKind.wrap IntKind.i64
  (Int.tdiv (IntKind.wrap IntKind.i64 (maxI (0 : Int) (minI n (65536 : Int)) + (1 : Int))) (2 : Int)))),
  Value.int IntKind.i64 (maxI (0 : Int) (minI n (65536 : Int)))]
  w1 fun (a2 : Addr) (w2 : World) => K (Value.pointer (some a2)) w2
theorem nibble_New_eq (n : Int) (w : World) (K : Value → World → Prop) : fw Try.prog Try.f31 (annL []) (ordL []) [.int .i64 n] w K = nibble_New_m n w K := by kernel_rfl
theorem nibble_New_go (n : Int) {w : World} {K : Value → World → Prop} (h : nibble_New_m n w K) : Rets Try.prog 31 #[.int .i64 n] w K :=
  calls_of_fw plain mixed Try.func31 (by kernel_rfl) (by rw [nibble_New_eq]; exact h)
def nibble_Row_Len_m (g : Nat) (w : World) (K : Value → World → Prop) : Prop :=
  (false = true → K (Value.int IntKind.i64 (0 : Int)) w) ∧
  (false = false →
  ∃ (n1 : Int),
  cellAt w (Addr.add { block := g, off := (0 : Nat) } (1 : Nat)) (Value.int IntKind.i64 n1) ∧
  K (Value.int IntKind.i64 n1) w)
theorem nibble_Row_Len_eq (g : Nat) (w : World) (K : Value → World → Prop) : fw Try.prog Try.f40 (annL []) (ordL []) [.pointer (some ⟨g, 0, none⟩)] w K = nibble_Row_Len_m g w K := by kernel_rfl
theorem nibble_Row_Len_go (g : Nat) {w : World} {K : Value → World → Prop} (h : nibble_Row_Len_m g w K) : Rets Try.prog 40 #[.pointer (some ⟨g, 0, none⟩)] w K :=
  calls_of_fw plain mixed Try.func40 (by kernel_rfl) (by rw [nibble_Row_Len_eq]; exact h)
def nibble_nil_Len_m  (w : World) (K : Value → World → Prop) : Prop :=
  (true = true → K (Value.int IntKind.i64 (0 : Int)) w) ∧ (true = false → False)
theorem nibble_nil_Len_eq  (w : World) (K : Value → World → Prop) : fw Try.prog Try.f40 (annL []) (ordL []) [.pointer none] w K = nibble_nil_Len_m  w K := by kernel_rfl
theorem nibble_nil_Len_go  {w : World} {K : Value → World → Prop} (h : nibble_nil_Len_m  w K) : Rets Try.prog 40 #[.pointer none] w K :=
  calls_of_fw plain mixed Try.func40 (by kernel_rfl) (by rw [nibble_nil_Len_eq]; exact h)
def nibble_Row_in_m (q : Option Addr) (i : Int) (w : World) (K : Value → World → Prop) : Prop :=
  (decide (i ≥ (0 : Int)) = true →
  Rets Try.prog (40 : Nat) { toList := [Value.pointer q] } w fun (v1 : Value) (w1 : World) =>
  ∃ (n1 : Int), v1 = Value.int IntKind.i64 n1 ∧ K (Value.bool (decide (i < n1))) w1) ∧
  (decide (i ≥ (0 : Int)) = false → K (Value.bool false) w)
theorem nibble_Row_in_eq (q : Option Addr) (i : Int) (w : World) (K : Value → World → Prop) : fw Try.prog Try.f96 (annL []) (ordL []) [.pointer q, .int .i64 i] w K = nibble_Row_in_m q i w K := by kernel_rfl
theorem nibble_Row_in_go (q : Option Addr) (i : Int) {w : World} {K : Value → World → Prop} (h : nibble_Row_in_m q i w K) : Rets Try.prog 96 #[.pointer q, .int .i64 i] w K :=
  calls_of_fw plain mixed Try.func96 (by kernel_rfl) (by rw [nibble_Row_in_eq]; exact h)
def nibble_bits_m (i : Int) (w : World) (K : Value → World → Prop) : Prop :=
  (2 : Int) ≠ (0 : Int) ∧
  ((Int.tmod i (2 : Int) == (0 : Int)) = true → K (Value.int IntKind.u64 (0 : Int)) w) ∧
  ((Int.tmod i (2 : Int) == (0 : Int)) = false → K (Value.int IntKind.u64 (4 : Int)) w)
theorem nibble_bits_eq (i : Int) (w : World) (K : Value → World → Prop) : fw Try.prog Try.f97 (annL []) (ordL []) [.int .i64 i] w K = nibble_bits_m i w K := by kernel_rfl
theorem nibble_bits_go (i : Int) {w : World} {K : Value → World → Prop} (h : nibble_bits_m i w K) : Rets Try.prog 97 #[.int .i64 i] w K :=
  calls_of_fw plain mixed Try.func97 (by kernel_rfl) (by rw [nibble_bits_eq]; exact h)
def nibble_Row_Get_m (g : Nat) (i : Int) (w : World) (K : Value → World → Prop) : Prop :=
  Rets Try.prog (96 : Nat) { toList := [Value.pointer (some { block := g, off := (0 : Nat) }), Value.int IntKind.i64 i] }
  w fun (v1 : Value) (w1 : World) =>
  ∃ (b1 : Bool),
  v1 = Value.bool b1 ∧
  ((!b1) = true → K (Value.int IntKind.i64 (0 : Int)) w1) ∧
  ((!b1) = false →
  Drw w1 fun (w2 : World) =>
  ∃ (h1 : World → Prop),
  h1 w2 ∧
  (2 : Int) ≠ (0 : Int) ∧
  ∃ (q1 : Option Addr),
  ∃ (k1 : Nat),
  ∃ (k2 : Nat),
  (∀ (w3 : World),
  h1 w3 → World.cell? w3 (Addr.add { block := g, off := (0 : Nat) } (0 : Nat)) = some (Value.slice q1 k1 k2)) ∧
  (0 : Int) ≤ IntKind.wrap IntKind.i64 (Int.tdiv i (2 : Int)) ∧
  IntKind.wrap IntKind.i64 (Int.tdiv i (2 : Int)) < (↑k1 : Int) ∧
  someR q1 fun (a1 : Addr) =>
  ∃ (n1 : Int),
  (∀ (w4 : World),
  h1 w4 →
  World.cell? w4 (Addr.add a1 (Int.toNat (IntKind.wrap IntKind.i64 (Int.tdiv i (2 : Int))) * (1 : Nat))) =
  some (Value.int IntKind.u8 n1)) ∧
  Rets Try.prog (97 : Nat) { toList := [Value.int IntKind.i64 i] } w2 fun (v2 : Value) (w5 : World) =>
  ∃ (n2 : Int),
  v2 = Value.int IntKind.u64 n2 ∧
  h1 w5 ∧
  (0 : Int) ≤ n2 ∧
  K (Value.int IntKind.i64 (IntKind.wrap IntKind.i64 (bits BinOp.and IntKind.u8 (shrI IntKind.u8 n1 n2) (15 : Int)))) w5)
theorem nibble_Row_Get_eq (g : Nat) (i : Int) (w : World) (K : Value → World → Prop) : fw Try.prog Try.f35 (annL []) (ordL [(3, [(0, 0), (1, 0), (2, 0), (4, 0), (5, 0), (8, 0), (3, 1), (6, 0), (7, 1), (9, 2), (10, 0), (11, 0), (12, 0), (13, 0)])]) [.pointer (some ⟨g, 0, none⟩), .int .i64 i] w K = nibble_Row_Get_m g i w K := by kernel_rfl
theorem nibble_Row_Get_go (g : Nat) (i : Int) {w : World} {K : Value → World → Prop} (h : nibble_Row_Get_m g i w K) : Rets Try.prog 35 #[.pointer (some ⟨g, 0, none⟩), .int .i64 i] w K :=
  calls_of_fw plain mixed Try.func35 (by kernel_rfl) (by rw [nibble_Row_Get_eq]; exact h)
def nibble_nil_Get_m (i : Int) (w : World) (K : Value → World → Prop) : Prop :=
  Rets Try.prog (96 : Nat) { toList := [Value.pointer none, Value.int IntKind.i64 i] } w fun (v1 : Value) (w1 : World) =>
  ∃ (b1 : Bool),
  v1 = Value.bool b1 ∧
  ((!b1) = true → K (Value.int IntKind.i64 (0 : Int)) w1) ∧
  ((!b1) = false → Drw w1 fun (w2 : World) => ∃ (h1 : World → Prop), h1 w2 ∧ False)
theorem nibble_nil_Get_eq (i : Int) (w : World) (K : Value → World → Prop) : fw Try.prog Try.f35 (annL []) (ordL [(3, [(0, 0), (1, 0), (2, 0), (4, 0), (5, 0), (8, 0), (3, 1), (6, 0), (7, 1), (9, 2), (10, 0), (11, 0), (12, 0), (13, 0)])]) [.pointer none, .int .i64 i] w K = nibble_nil_Get_m i w K := by kernel_rfl
theorem nibble_nil_Get_go (i : Int) {w : World} {K : Value → World → Prop} (h : nibble_nil_Get_m i w K) : Rets Try.prog 35 #[.pointer none, .int .i64 i] w K :=
  calls_of_fw plain mixed Try.func35 (by kernel_rfl) (by rw [nibble_nil_Get_eq]; exact h)
def nibble_Row_Add_m (g : Nat) (i : Int) (w : World) (K : Value → World → Prop) : Prop :=
  Rets Try.prog (96 : Nat) { toList := [Value.pointer (some { block := g, off := (0 : Nat) }), Value.int IntKind.i64 i] }
  w fun (v1 : Value) (w1 : World) =>
  ∃ (b1 : Bool),
  v1 = Value.bool b1 ∧
  ((!b1) = false →
  Rets Try.prog (35 : Nat) { toList := [Value.pointer (some { block := g, off := (0 : Nat) }), Value.int IntKind.i64 i] }
  w1 fun (v2 : Value) (w2 : World) =>
  ∃ (n1 : Int),
  v2 = Value.int IntKind.i64 n1 ∧
  ((n1 == (15 : Int)) = true → K (Value.bool false) w2) ∧
  ((n1 == (15 : Int)) = false →
  Drw w2 fun (w3 : World) =>
  ∃ (h1 : World → Prop),
  h1 w3 ∧
  (2 : Int) ≠ (0 : Int) ∧
  ∃ (q1 : Option Addr),
  ∃ (k1 : Nat),
  ∃ (k2 : Nat),
  (∀ (w4 : World),
  h1 w4 → World.cell? w4 (Addr.add { block := g, off := (0 : Nat) } (0 : Nat)) = some (Value.slice q1 k1 k2)) ∧
  (0 : Int) ≤ IntKind.wrap IntKind.i64 (Int.tdiv i (2 : Int)) ∧
  IntKind.wrap IntKind.i64 (Int.tdiv i (2 : Int)) < (↑k1 : Int) ∧
  someR q1 fun (a1 : Addr) =>
  ∃ (n2 : Int),
  (∀ (w5 : World),
  h1 w5 →
  World.cell? w5 (Addr.add a1 (Int.toNat (IntKind.wrap IntKind.i64 (Int.tdiv i (2 : Int))) * (1 : Nat))) =
  some (Value.int IntKind.u8 n2)) ∧
  Rets Try.prog (97 : Nat) { toList := [Value.int IntKind.i64 i] } w3 fun (v3 : Value) (w6 : World) =>
  ∃ (n3 : Int),
  v3 = Value.int IntKind.u64 n3 ∧
  h1 w6 ∧
  (0 : Int) ≤ n3 ∧
  (0 : Int) ≤ IntKind.wrap IntKind.i64 (Int.tdiv i (2 : Int)) ∧
  IntKind.wrap IntKind.i64 (Int.tdiv i (2 : Int)) < (↑k1 : Int) ∧
  someR q1 fun (a2 : Addr) =>
  StoreR (Addr.add a2 (Int.toNat (IntKind.wrap IntKind.i64 (Int.tdiv i (2 : Int))) * (1 : Nat)))
  [Value.int IntKind.u8 (IntKind.wrap IntKind.u8 (n2 + shlI IntKind.u8 (1 : Int) n3))] w6 fun (w7 : World) =>
  K (Value.bool true) w7)) ∧
  ((!b1) = true → K (Value.bool false) w1)
theorem nibble_Row_Add_eq (g : Nat) (i : Int) (w : World) (K : Value → World → Prop) : fw Try.prog Try.f38 (annL []) (ordL [(3, [(0, 0), (1, 0), (2, 0), (4, 0), (5, 0), (8, 0), (3, 1), (6, 0), (7, 1), (9, 2), (10, 0), (11, 0), (12, 0), (13, 3)])]) [.pointer (some ⟨g, 0, none⟩), .int .i64 i] w K = nibble_Row_Add_m g i w K := by kernel_rfl
theorem nibble_Row_Add_go (g : Nat) (i : Int) {w : World} {K : Value → World → Prop} (h : nibble_Row_Add_m g i w K) : Rets Try.prog 38 #[.pointer (some ⟨g, 0, none⟩), .int .i64 i] w K :=
  calls_of_fw plain mixed Try.func38 (by kernel_rfl) (by rw [nibble_Row_Add_eq]; exact h)
def nibble_nil_Add_m (i : Int) (w : World) (K : Value → World → Prop) : Prop :=
  Rets Try.prog (96 : Nat) { toList := [Value.pointer none, Value.int IntKind.i64 i] } w fun (v1 : Value) (w1 : World) =>
  ∃ (b1 : Bool),
  v1 = Value.bool b1 ∧
  ((!b1) = false →
  Rets Try.prog (35 : Nat) { toList := [Value.pointer none, Value.int IntKind.i64 i] } w1 fun (v2 : Value) (w2 : World) =>
  ∃ (n1 : Int),
  v2 = Value.int IntKind.i64 n1 ∧
  ((n1 == (15 : Int)) = true → K (Value.bool false) w2) ∧
  ((n1 == (15 : Int)) = false → Drw w2 fun (w3 : World) => ∃ (h1 : World → Prop), h1 w3 ∧ False)) ∧
  ((!b1) = true → K (Value.bool false) w1)
theorem nibble_nil_Add_eq (i : Int) (w : World) (K : Value → World → Prop) : fw Try.prog Try.f38 (annL []) (ordL [(3, [(0, 0), (1, 0), (2, 0), (4, 0), (5, 0), (8, 0), (3, 1), (6, 0), (7, 1), (9, 2), (10, 0), (11, 0), (12, 0), (13, 3)])]) [.pointer none, .int .i64 i] w K = nibble_nil_Add_m i w K := by kernel_rfl
theorem nibble_nil_Add_go (i : Int) {w : World} {K : Value → World → Prop} (h : nibble_nil_Add_m i w K) : Rets Try.prog 38 #[.pointer none, .int .i64 i] w K :=
  calls_of_fw plain mixed Try.func38 (by kernel_rfl) (by rw [nibble_nil_Add_eq]; exact h)
def nibble_Row_Halve_m (g : Nat) (w : World) (K : Value → World → Prop) : Prop :=
  (false = true → K (Value.tuple { toList := [] }) w) ∧
  (false = false →
  ∃ (q1 : Option Addr),
  ∃ (k1 : Nat),
  ∃ (k2 : Nat),
  cellAt w (Addr.add { block := g, off := (0 : Nat) } (0 : Nat)) (Value.slice q1 k1 k2) ∧
  ∃ (h1 : Nat → List Value → World → Prop),
  (∃ (k3 : Nat), h1 k3 [Value.int IntKind.i64 (0 : Int)] w) ∧
  ∀ (k4 : Nat) (w1 : World) (v1 v2 : Value) (n1 : Int) (v3 v4 v5 v6 v7 v8 v9 v10 v11 v12 v13 v14 v15 v16 : Value),
  h1 k4 [Value.int IntKind.i64 n1] w1 →
  (decide (n1 < (↑k1 : Int)) = true →
  (0 : Int) ≤ n1 ∧
  n1 < (↑k1 : Int) ∧
  someR q1 fun (a1 : Addr) =>
  ∃ (n2 : Int),
  cellAt w1 (Addr.add a1 (Int.toNat n1 * (1 : Nat))) (Value.int IntKind.u8 n2) ∧
  ∃ (q2 : Option Addr),
  ∃ (k5 : Nat),
  ∃ (k6 : Nat),
  cellAt w1 (Addr.add { block := g, off := (0 : Nat) } (0 : Nat)) (Value.slice q2 k5 k6) ∧
  (0 : Int) ≤ (1 : Int) ∧
  (0 : Int) ≤ n1 ∧
  n1 < (↑k5 : Int) ∧
  someR q2 fun (a2 : Addr) =>
  StoreR (Addr.add a2 (Int.toNat n1 * (1 : Nat)))
  [Value.int IntKind.u8 (bits BinOp.and IntKind.u8 (shrI IntKind.u8 n2 (1 : Int)) (119 : Int))] w1 fun (w2 : World) =>
  ∃ (k7 : Nat), k7 < k4 ∧ h1 k7 [Value.int IntKind.i64 (IntKind.wrap IntKind.i64 (n1 + (1 : Int)))] w2) ∧
  (decide (n1 < (↑k1 : Int)) = false → K (Value.tuple { toList := [] }) w1))
theorem nibble_Row_Halve_eq (g : Nat) (w : World) (K : Value → World → Prop) : fw Try.prog Try.f32 (annL [(2, [(2, none), (3, none), (11, some 3), (12, none), (13, none), (14, none), (15, none), (16, none), (17, none), (18, none), (19, none), (20, none), (21, none), (22, none), (23, none), (24, none), (25, none)])]) (ordL []) [.pointer (some ⟨g, 0, none⟩)] w K = nibble_Row_Halve_m g w K := by kernel_rfl
theorem nibble_Row_Halve_go (g : Nat) {w : World} {K : Value → World → Prop} (h : nibble_Row_Halve_m g w K) : Rets Try.prog 32 #[.pointer (some ⟨g, 0, none⟩)] w K :=
  calls_of_fw plain mixed Try.func32 (by kernel_rfl) (by rw [nibble_Row_Halve_eq]; exact h)
def nibble_nil_Halve_m  (w : World) (K : Value → World → Prop) : Prop :=
  (true = true → K (Value.tuple { toList := [] }) w) ∧ (true = false → False)
theorem nibble_nil_Halve_eq  (w : World) (K : Value → World → Prop) : fw Try.prog Try.f32 (annL [(2, [(2, none), (3, none), (11, some 3), (12, none), (13, none), (14, none), (15, none), (16, none), (17, none), (18, none), (19, none), (20, none), (21, none), (22, none), (23, none), (24, none), (25, none)])]) (ordL []) [.pointer none] w K = nibble_nil_Halve_m  w K := by kernel_rfl
theorem nibble_nil_Halve_go  {w : World} {K : Value → World → Prop} (h : nibble_nil_Halve_m  w K) : Rets Try.prog 32 #[.pointer none] w K :=
  calls_of_fw plain mixed Try.func32 (by kernel_rfl) (by rw [nibble_nil_Halve_eq]; exact h)
def nibble_Row_Clear_m (g : Nat) (w : World) (K : Value → World → Prop) : Prop :=
  (true = true →
  ∃ (q1 : Option Addr),
  ∃ (k1 : Nat),
  ∃ (k2 : Nat),
  cellAt w (Addr.add { block := g, off := (0 : Nat) } (0 : Nat)) (Value.slice q1 k1 k2) ∧
  RunR Try.prog (builtinV Builtin.clear { toList := [(45 : Nat)] } (nat_lit 0) { toList := [Value.slice q1 k1 k2] }) w
  fun (v1 : Value) (w1 : World) => v1 = Value.tuple { toList := [] } ∧ K (Value.tuple { toList := [] }) w1) ∧
  (true = false → K (Value.tuple { toList := [] }) w)
theorem nibble_Row_Clear_eq (g : Nat) (w : World) (K : Value → World → Prop) : fw Try.prog Try.f34 (annL []) (ordL []) [.pointer (some ⟨g, 0, none⟩)] w K = nibble_Row_Clear_m g w K := by kernel_rfl
theorem nibble_Row_Clear_go (g : Nat) {w : World} {K : Value → World → Prop} (h : nibble_Row_Clear_m g w K) : Rets Try.prog 34 #[.pointer (some ⟨g, 0, none⟩)] w K :=
  calls_of_fw plain mixed Try.func34 (by kernel_rfl) (by rw [nibble_Row_Clear_eq]; exact h)
def nibble_nil_Clear_m  (w : World) (K : Value → World → Prop) : Prop :=
  (false = true → False) ∧ (false = false → K (Value.tuple { toList := [] }) w)
theorem nibble_nil_Clear_eq  (w : World) (K : Value → World → Prop) : fw Try.prog Try.f34 (annL []) (ordL []) [.pointer none] w K = nibble_nil_Clear_m  w K := by kernel_rfl
theorem nibble_nil_Clear_go  {w : World} {K : Value → World → Prop} (h : nibble_nil_Clear_m  w K) : Rets Try.prog 34 #[.pointer none] w K :=
  calls_of_fw plain mixed Try.func34 (by kernel_rfl) (by rw [nibble_nil_Clear_eq]; exact h)
def nibble_Row_All_m (q : Option Addr) (w : World) (K : Value → World → Prop) : Prop :=
  NewR (50 : Nat) [Value.pointer q] w fun (a1 : Addr) (w1 : World) =>
  K (Value.func (Fn.func (121 : Nat)) { toList := [] } { toList := [Value.pointer (some a1)] }) w1
theorem nibble_Row_All_eq (q : Option Addr) (w : World) (K : Value → World → Prop) : fw Try.prog Try.f99 (annL []) (ordL []) [.pointer q] w K = nibble_Row_All_m q w K := by kernel_rfl
theorem nibble_Row_All_go (q : Option Addr) {w : World} {K : Value → World → Prop} (h : nibble_Row_All_m q w K) : Rets Try.prog 99 #[.pointer q] w K :=
  calls_of_fw plain mixed Try.func99 (by kernel_rfl) (by rw [nibble_Row_All_eq]; exact h)
def nibble_Row_All_1_m (l b : Nat) (w : World) (K : Value → World → Prop) : Prop :=
  ∃ (q1 : Option Addr),
  cellAt w { block := b, off := (0 : Nat) } (Value.pointer q1) ∧
  Rets Try.prog (40 : Nat) { toList := [Value.pointer q1] } w fun (v1 : Value) (w1 : World) =>
  ∃ (n1 : Int),
  v1 = Value.int IntKind.i64 n1 ∧
  ∃ (h1 : Nat → List Value → World → Prop),
  (∃ (k1 : Nat), h1 k1 [Value.int IntKind.i64 (0 : Int)] w1) ∧
  ∀ (k2 : Nat) (w2 : World) (v2 v3 : Value) (n2 : Int) (v4 v5 v6 v7 v8 v9 v10 v11 v12 v13 v14 v15 v16 v17 v18 : Value),
  h1 k2 [Value.int IntKind.i64 n2] w2 →
  (decide (n2 < n1) = true →
  ∃ (q2 : Option Addr),
  cellAt w2 { block := b, off := (0 : Nat) } (Value.pointer q2) ∧
  Rets Try.prog (35 : Nat) { toList := [Value.pointer q2, Value.int IntKind.i64 n2] } w2 fun (v19 : Value) (w3 : World) =>
  ∃ (n3 : Int),
  v19 = Value.int IntKind.i64 n3 ∧
  (decide (n3 > (0 : Int)) = true →
  RoundR Try.prog l { toList := [Value.int IntKind.i64 n2, Value.int IntKind.i64 n3] } w3
  fun (v20 : Value) (w4 : World) =>
  ∃ (b1 : Bool),
  v20 = Value.bool b1 ∧
  ((!b1) = true → K (Value.tuple { toList := [] }) w4) ∧
  ((!b1) = false →
  ∃ (k3 : Nat), k3 < k2 ∧ h1 k3 [Value.int IntKind.i64 (IntKind.wrap IntKind.i64 (n2 + (1 : Int)))] w4)) ∧
  (decide (n3 > (0 : Int)) = false →
  ∃ (k4 : Nat), k4 < k2 ∧ h1 k4 [Value.int IntKind.i64 (IntKind.wrap IntKind.i64 (n2 + (1 : Int)))] w3)) ∧
  (decide (n2 < n1) = false → K (Value.tuple { toList := [] }) w2)
theorem nibble_Row_All_1_eq (l b : Nat) (w : World) (K : Value → World → Prop) : fw Try.prog Try.f121 (annL [(1, [(3, none), (4, none), (7, some 3), (8, none), (9, none), (10, none), (11, none), (12, none), (13, none), (14, none), (15, none), (16, none), (17, none), (18, none), (19, none), (20, none), (21, none), (22, none)])]) (ordL []) [.func (.yield l) #[] #[], .pointer (some ⟨b, 0, none⟩)] w K = nibble_Row_All_1_m l b w K := by kernel_rfl
theorem nibble_Row_All_1_go (l b : Nat) {w : World} {K : Value → World → Prop} (h : nibble_Row_All_1_m l b w K) : Rets Try.prog 121 #[.func (.yield l) #[] #[], .pointer (some ⟨b, 0, none⟩)] w K :=
  calls_of_fw plain mixed Try.func121 (by kernel_rfl) (by rw [nibble_Row_All_1_eq]; exact h)
def nibble_Row_Sum_m (q : Option Addr) (w : World) (K : Value → World → Prop) : Prop :=
  NewR (3 : Nat) [Value.int IntKind.i64 (0 : Int)] w fun (a1 : Addr) (w1 : World) =>
  Rets Try.prog (99 : Nat) { toList := [Value.pointer q] } w1 fun (v1 : Value) (w2 : World) =>
  ∃ (v2 : Value),
  v1 = v2 ∧
  ∃ (v3 : Value),
  v2 = Value.func (Fn.func (121 : Nat)) { toList := [] } { toList := [v3] } ∧
  LoopR w2 fun (k1 k2 : Nat) (L1 : Loop) (w3 : World) =>
  (∀ (n1 n2 : Int) (w4 : World) (h1 : Value → World → Prop),
  RecR k2 L1 w4 →
  (BegR k2 L1 w4 fun (w5 : World) =>
  ∃ (n3 : Int),
  cellAt w5 a1 (Value.int IntKind.i64 n3) ∧
  StoreR a1 [Value.int IntKind.i64 (IntKind.wrap IntKind.i64 (n3 + n2))] w5 fun (w6 : World) =>
  FinR k2 L1 none w6 fun (w7 : World) => h1 (Value.bool true) w7) →
  RoundR Try.prog k2 { toList := [Value.int IntKind.i64 n1, Value.int IntKind.i64 n2] } w4 h1) →
  Rets Try.prog (121 : Nat) { toList := [Value.func (Fn.yield k2) { toList := [] } { toList := [] }, v3] } w3
  fun (v4 : Value) (w8 : World) =>
  EndR k2 L1 none w8 fun (w9 : World) =>
  ∃ (n4 : Int),
  cellAt w9 a1 (Value.int IntKind.i64 n4) ∧
  StoreR a1 [Value.int IntKind.i64 n4] w9 fun (w10 : World) =>
  MarkR k1 w10 fun (w11 : World) =>
  ∃ (n5 : Int), cellAt w11 a1 (Value.int IntKind.i64 n5) ∧ K (Value.int IntKind.i64 n5) w11
theorem nibble_Row_Sum_eq (q : Option Addr) (w : World) (K : Value → World → Prop) : fw Try.prog Try.f41 (annL [(1, [(7, some 3), (8, some 3)])]) (ordL [(1000001, [(121, 1)])]) [.pointer q] w K = nibble_Row_Sum_m q w K := by kernel_rfl
theorem nibble_Row_Sum_go (q : Option Addr) {w : World} {K : Value → World → Prop} (h : nibble_Row_Sum_m q w K) : Rets Try.prog 41 #[.pointer q] w K :=
  calls_of_fw plain mixed Try.func41 (by kernel_rfl) (by rw [nibble_Row_Sum_eq]; exact h)
def nibble_Row_Bytes_m (g : Nat) (w : World) (K : Value → World → Prop) : Prop :=
  (false = true → K (Value.slice none (0 : Nat) (0 : Nat)) w) ∧
  (false = false →
  ∃ (q1 : Option Addr),
  ∃ (k1 : Nat),
  ∃ (k2 : Nat),
  cellAt w (Addr.add { block := g, off := (0 : Nat) } (0 : Nat)) (Value.slice q1 k1 k2) ∧
  Rets Try.prog (100 : Nat) { toList := [Value.slice q1 k1 k2] } w fun (v1 : Value) (w1 : World) =>
  ∃ (q2 : Option Addr), ∃ (k3 : Nat), ∃ (k4 : Nat), v1 = Value.slice q2 k3 k4 ∧ K (Value.slice q2 k3 k4) w1)
theorem nibble_Row_Bytes_eq (g : Nat) (w : World) (K : Value → World → Prop) : fw Try.prog Try.f42 (annL []) (ordL []) [.pointer (some ⟨g, 0, none⟩)] w K = nibble_Row_Bytes_m g w K := by kernel_rfl
theorem nibble_Row_Bytes_go (g : Nat) {w : World} {K : Value → World → Prop} (h : nibble_Row_Bytes_m g w K) : Rets Try.prog 42 #[.pointer (some ⟨g, 0, none⟩)] w K :=
  calls_of_fw plain mixed Try.func42 (by kernel_rfl) (by rw [nibble_Row_Bytes_eq]; exact h)
def nibble_nil_Bytes_m  (w : World) (K : Value → World → Prop) : Prop :=
  (true = true → K (Value.slice none (0 : Nat) (0 : Nat)) w) ∧ (true = false → False)
theorem nibble_nil_Bytes_eq  (w : World) (K : Value → World → Prop) : fw Try.prog Try.f42 (annL []) (ordL []) [.pointer none] w K = nibble_nil_Bytes_m  w K := by kernel_rfl
theorem nibble_nil_Bytes_go  {w : World} {K : Value → World → Prop} (h : nibble_nil_Bytes_m  w K) : Rets Try.prog 42 #[.pointer none] w K :=
  calls_of_fw plain mixed Try.func42 (by kernel_rfl) (by rw [nibble_nil_Bytes_eq]; exact h)
def cortadolaw10_awake_m  (w : World) (K : Value → World → Prop) : Prop :=
  Rets Try.prog (31 : Nat) { toList := [Value.int IntKind.i64 (3 : Int)] } w fun (v1 : Value) (w1 : World) =>
  ∃ (q1 : Option Addr),
  v1 = Value.pointer q1 ∧
  Rets Try.prog (38 : Nat) { toList := [Value.pointer q1, Value.int IntKind.i64 (1 : Int)] } w1
  fun (v2 : Value) (w2 : World) =>
  ∃ (b1 : Bool),
  v2 = Value.bool b1 ∧
  (b1 = true →
  Rets Try.prog (35 : Nat) { toList := [Value.pointer q1, Value.int IntKind.i64 (1 : Int)] } w2
  fun (v3 : Value) (w3 : World) =>
  ∃ (n1 : Int),
  v3 = Value.int IntKind.i64 n1 ∧
  ((n1 == (1 : Int)) = true →
  Rets Try.prog (42 : Nat) { toList := [Value.pointer q1] } w3 fun (v4 : Value) (w4 : World) =>
  ∃ (q2 : Option Addr),
  ∃ (k1 : Nat),
  ∃ (k2 : Nat),
  v4 = Value.slice q2 k1 k2 ∧
  match Value.bool ((↑k1 : Int) == (2 : Int)) with
  | Value.bool true => K (Value.bool true) w4
  | Value.bool false => K (Value.bool false) w4
  | v6 => False) ∧
  ((n1 == (1 : Int)) = false → K (Value.bool false) w3)) ∧
  (b1 = false → K (Value.bool false) w2)
theorem cortadolaw10_awake_eq  (w : World) (K : Value → World → Prop) : fw Try.prog Try.f30 (annL []) (ordL []) [] w K = cortadolaw10_awake_m  w K := by kernel_rfl
theorem cortadolaw10_awake_go  {w : World} {K : Value → World → Prop} (h : cortadolaw10_awake_m  w K) : Rets Try.prog 30 #[] w K :=
  calls_of_fw plain mixed Try.func30 (by kernel_rfl) (by rw [cortadolaw10_awake_eq]; exact h)
def cortadolaw10_NibbleApart_m (n : Int) (i : Int) (k : Int) (w : World) (K : Value → World → Prop) : Prop :=
  (decide (n > (5000 : Int)) = false →
  ((i == k) = true →
  Rets Try.prog (30 : Nat) { toList := [] } w fun (v1 : Value) (w1 : World) =>
  ∃ (b1 : Bool), v1 = Value.bool b1 ∧ K (Value.bool b1) w1) ∧
  ((i == k) = false →
  Rets Try.prog (31 : Nat) { toList := [Value.int IntKind.i64 n] } w fun (v2 : Value) (w2 : World) =>
  ∃ (q1 : Option Addr),
  v2 = Value.pointer q1 ∧
  Rets Try.prog (38 : Nat) { toList := [Value.pointer q1, Value.int IntKind.i64 k] } w2 fun (v3 : Value) (w3 : World) =>
  ∃ (b2 : Bool),
  v3 = Value.bool b2 ∧
  Rets Try.prog (35 : Nat) { toList := [Value.pointer q1, Value.int IntKind.i64 k] } w3 fun (v4 : Value) (w4 : World) =>
  ∃ (n1 : Int),
  v4 = Value.int IntKind.i64 n1 ∧
  ∃ (h1 : Nat → List Value → World → Prop),
  (∃ (k1 : Nat), h1 k1 [Value.int IntKind.i64 (0 : Int)] w4) ∧
  ∀ (k2 : Nat) (w5 : World) (v5 : Value) (n2 : Int) (v6 v7 v8 v9 v10 v11 v12 v13 v14 v15 v16 v17 : Value),
  h1 k2 [Value.int IntKind.i64 n2] w5 →
  (decide (n2 < (20 : Int)) = true →
  Rets Try.prog (38 : Nat) { toList := [Value.pointer q1, Value.int IntKind.i64 i] } w5 fun (v18 : Value) (w6 : World) =>
  ∃ (b3 : Bool),
  v18 = Value.bool b3 ∧
  Rets Try.prog (35 : Nat) { toList := [Value.pointer q1, Value.int IntKind.i64 k] } w6 fun (v19 : Value) (w7 : World) =>
  ∃ (n3 : Int),
  v19 = Value.int IntKind.i64 n3 ∧
  ((n3 != n1) = true → K (Value.bool false) w7) ∧
  ((n3 != n1) = false →
  ∃ (k3 : Nat), k3 < k2 ∧ h1 k3 [Value.int IntKind.i64 (IntKind.wrap IntKind.i64 (n2 + (1 : Int)))] w7)) ∧
  (decide (n2 < (20 : Int)) = false →
  (decide (i ≥ (0 : Int)) = true →
  Rets Try.prog (32 : Nat) { toList := [Value.pointer none] } w5 fun (v20 : Value) (w8 : World) =>
  v20 = Value.tuple { toList := [] } ∧
  Rets Try.prog (34 : Nat) { toList := [Value.pointer none] } w8 fun (v21 : Value) (w9 : World) =>
  v21 = Value.tuple { toList := [] } ∧
  Rets Try.prog (38 : Nat) { toList := [Value.pointer q1, Value.int IntKind.i64 i] } w9 fun (v22 : Value) (w10 : World) =>
  ∃ (b4 : Bool),
  v22 = Value.bool b4 ∧
  ((b4 == false) = true →
  Rets Try.prog (35 : Nat) { toList := [Value.pointer q1, Value.int IntKind.i64 i] } w10
  fun (v23 : Value) (w11 : World) =>
  ∃ (n4 : Int),
  v23 = Value.int IntKind.i64 n4 ∧
  (((n4 == (15 : Int)) == decide (i < n)) = true →
  Rets Try.prog (40 : Nat) { toList := [Value.pointer none] } w11 fun (v24 : Value) (w12 : World) =>
  ∃ (n5 : Int),
  v24 = Value.int IntKind.i64 n5 ∧
  Rets Try.prog (35 : Nat) { toList := [Value.pointer none, Value.int IntKind.i64 (0 : Int)] } w12
  fun (v25 : Value) (w13 : World) =>
  ∃ (n6 : Int),
  v25 = Value.int IntKind.i64 n6 ∧
  Rets Try.prog (41 : Nat) { toList := [Value.pointer none] } w13 fun (v26 : Value) (w14 : World) =>
  ∃ (n7 : Int),
  v26 = Value.int IntKind.i64 n7 ∧
  ((IntKind.wrap IntKind.i64 (IntKind.wrap IntKind.i64 (n5 + n6) + n7) == (0 : Int)) = true →
  Rets Try.prog (38 : Nat) { toList := [Value.pointer none, Value.int IntKind.i64 (0 : Int)] } w14
  fun (v27 : Value) (w15 : World) =>
  ∃ (b5 : Bool),
  v27 = Value.bool b5 ∧
  ((!b5) = true →
  Rets Try.prog (42 : Nat) { toList := [Value.pointer none] } w15 fun (v28 : Value) (w16 : World) =>
  ∃ (q2 : Option Addr),
  ∃ (k4 : Nat),
  ∃ (k5 : Nat),
  v28 = Value.slice q2 k4 k5 ∧
  (((↑k4 : Int) == (0 : Int)) = true →
  Rets Try.prog (30 : Nat) { toList := [] } w16 fun (v29 : Value) (w17 : World) =>
  ∃ (b6 : Bool), v29 = Value.bool b6 ∧ K (Value.bool b6) w17) ∧
  (((↑k4 : Int) == (0 : Int)) = false → K (Value.bool false) w16)) ∧
  ((!b5) = false → K (Value.bool false) w15)) ∧
  ((IntKind.wrap IntKind.i64 (IntKind.wrap IntKind.i64 (n5 + n6) + n7) == (0 : Int)) = false →
  K (Value.bool false) w14)) ∧
  (((n4 == (15 : Int)) == decide (i < n)) = false → K (Value.bool false) w11)) ∧
  ((b4 == false) = false → K (Value.bool false) w10)) ∧
  (decide (i ≥ (0 : Int)) = false →
  Rets Try.prog (32 : Nat) { toList := [Value.pointer none] } w5 fun (v30 : Value) (w18 : World) =>
  v30 = Value.tuple { toList := [] } ∧
  Rets Try.prog (34 : Nat) { toList := [Value.pointer none] } w18 fun (v31 : Value) (w19 : World) =>
  v31 = Value.tuple { toList := [] } ∧
  Rets Try.prog (38 : Nat) { toList := [Value.pointer q1, Value.int IntKind.i64 i] } w19
  fun (v32 : Value) (w20 : World) =>
  ∃ (b7 : Bool),
  v32 = Value.bool b7 ∧
  ((b7 == false) = true →
  Rets Try.prog (35 : Nat) { toList := [Value.pointer q1, Value.int IntKind.i64 i] } w20
  fun (v33 : Value) (w21 : World) =>
  ∃ (n8 : Int),
  v33 = Value.int IntKind.i64 n8 ∧
  (((n8 == (15 : Int)) == false) = true →
  Rets Try.prog (40 : Nat) { toList := [Value.pointer none] } w21 fun (v34 : Value) (w22 : World) =>
  ∃ (n9 : Int),
  v34 = Value.int IntKind.i64 n9 ∧
  Rets Try.prog (35 : Nat) { toList := [Value.pointer none, Value.int IntKind.i64 (0 : Int)] } w22
  fun (v35 : Value) (w23 : World) =>
  ∃ (n10 : Int),
  v35 = Value.int IntKind.i64 n10 ∧
  Rets Try.prog (41 : Nat) { toList := [Value.pointer none] } w23 fun (v36 : Value) (w24 : World) =>
  ∃ (n11 : Int),
  v36 = Value.int IntKind.i64 n11 ∧
  ((IntKind.wrap IntKind.i64 (IntKind.wrap IntKind.i64 (n9 + n10) + n11) == (0 : Int)) = true →
  Rets Try.prog (38 : Nat) { toList := [Value.pointer none, Value.int IntKind.i64 (0 : Int)] } w24
  fun (v37 : Value) (w25 : World) =>
  ∃ (b8 : Bool),
  v37 = Value.bool b8 ∧
  ((!b8) = true →
  Rets Try.prog (42 : Nat) { toList := [Value.pointer none] } w25 fun (v38 : Value) (w26 : World) =>
  ∃ (q3 : Option Addr),
  ∃ (k6 : Nat),
  ∃ (k7 : Nat),
  v38 = Value.slice q3 k6 k7 ∧
  (((↑k6 : Int) == (0 : Int)) = true →
  Rets Try.prog (30 : Nat) { toList := [] } w26 fun (v39 : Value) (w27 : World) =>
  ∃ (b9 : Bool), v39 = Value.bool b9 ∧ K (Value.bool b9) w27) ∧
  (((↑k6 : Int) == (0 : Int)) = false → K (Value.bool false) w26)) ∧
  ((!b8) = false → K (Value.bool false) w25)) ∧
  ((IntKind.wrap IntKind.i64 (IntKind.wrap IntKind.i64 (n9 + n10) + n11) == (0 : Int)) = false →
  K (Value.bool false) w24)) ∧
  (((n8 == (15 : Int)) == false) = false → K (Value.bool false) w21)) ∧
  ((b7 == false) = false → K (Value.bool false) w20))))) ∧
  (decide (n > (5000 : Int)) = true →
  Rets Try.prog (30 : Nat) { toList := [] } w fun (v40 : Value) (w28 : World) =>
  ∃ (b10 : Bool), v40 = Value.bool b10 ∧ K (Value.bool b10) w28)
theorem cortadolaw10_NibbleApart_eq (n : Int) (i : Int) (k : Int) (w : World) (K : Value → World → Prop) : fw Try.prog Try.f7 (annL [(2, [(6, none), (9, some 3), (28, none), (29, none), (30, none), (31, none), (32, none), (33, none), (34, none), (35, none), (36, none), (37, none), (38, none), (39, none)])]) (ordL []) [.int .i64 n, .int .i64 i, .int .i64 k] w K = cortadolaw10_NibbleApart_m n i k w K := by kernel_rfl
theorem cortadolaw10_NibbleApart_go (n : Int) (i : Int) (k : Int) {w : World} {K : Value → World → Prop} (h : cortadolaw10_NibbleApart_m n i k w K) : Rets Try.prog 7 #[.int .i64 n, .int .i64 i, .int .i64 k] w K :=
  calls_of_fw plain mixed Try.func7 (by kernel_rfl) (by rw [cortadolaw10_NibbleApart_eq]; exact h)
end Go.Proofs.Ytfcddffcjmgpkaa.Eng
