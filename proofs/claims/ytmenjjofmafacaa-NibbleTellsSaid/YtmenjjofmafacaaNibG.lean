/- What the code of these functions asks for: printed by a program of this session's (gens.py) out of the seat's own functions; the kernel checks each row. -/
import Derived.Test.YtmenjjofmafacaaEngH
import Derived.Test.YtmenjjofmafacaaProg
import Derived.Test.YtmenjjofmafacaaBase
namespace Go.Proofs.Ytmenjjofmafacaa.Eng
open Go Go.Proofs
set_option linter.unusedVariables false
set_option maxRecDepth 1000000
def nibble_New_m (n : Int) (w : World) (K : Value → World → Prop) : Prop :=
  (2 : Int) ≠ (0 : Int) ∧
  MakeR (5 : Nat) [Value.int IntKind.u8 (0 : Int)] (1 : Nat)
  (IntKind.wrap IntKind.i64
  (Int.tdiv (IntKind.wrap IntKind.i64 (maxI (0 : Int) (minI n (65536 : Int)) + (1 : Int))) (2 : Int)))
  (IntKind.wrap IntKind.i64
  (Int.tdiv (IntKind.wrap IntKind.i64 (maxI (0 : Int) (minI n (65536 : Int)) + (1 : Int))) (2 : Int)))
  w fun (a1 : Addr) (w1 : World) =>
  NewR (118 : Nat)
  [Value.slice (some a1)
  (Int.toNat
  (IntKind.wrap IntKind.i64
  (Int.tdiv (IntKind.wrap IntKind.i64 (maxI (0 : Int) (minI n (65536 : Int)) + (1 : Int))) (2 : Int))))
  (Int.toNat
  (IntKind.wrap IntKind.i64
  (Int.tdiv (IntKind.wrap IntKind.i64 (maxI (0 : Int) (minI n (65536 : Int)) + (1 : Int))) (2 : Int)))),
  Value.int IntKind.i64 (maxI (0 : Int) (minI n (65536 : Int)))]
  w1 fun (a2 : Addr) (w2 : World) => K (Value.pointer (some a2)) w2
theorem nibble_New_eq (n : Int) (w : World) (K : Value → World → Prop) : fw Try.prog Try.f51 (annL []) (ordL []) [.int .i64 n] w K = nibble_New_m n w K := by kernel_rfl
theorem nibble_New_go (n : Int) {w : World} {K : Value → World → Prop} (h : nibble_New_m n w K) : Rets Try.prog 51 #[.int .i64 n] w K :=
  calls_of_fw plain mixed Try.func51 (by kernel_rfl) (by rw [nibble_New_eq]; exact h)
def nibble_Row_Len_m (g : Nat) (w : World) (K : Value → World → Prop) : Prop :=
  (false = true → K (Value.int IntKind.i64 (0 : Int)) w) ∧
  (false = false →
  ∃ (n1 : Int),
  cellAt w (Addr.add { block := g, off := (0 : Nat) } (1 : Nat)) (Value.int IntKind.i64 n1) ∧
  K (Value.int IntKind.i64 n1) w)
theorem nibble_Row_Len_eq (g : Nat) (w : World) (K : Value → World → Prop) : fw Try.prog Try.f80 (annL []) (ordL []) [.pointer (some ⟨g, 0, none⟩)] w K = nibble_Row_Len_m g w K := by kernel_rfl
theorem nibble_Row_Len_go (g : Nat) {w : World} {K : Value → World → Prop} (h : nibble_Row_Len_m g w K) : Rets Try.prog 80 #[.pointer (some ⟨g, 0, none⟩)] w K :=
  calls_of_fw plain mixed Try.func80 (by kernel_rfl) (by rw [nibble_Row_Len_eq]; exact h)
def nibble_nil_Len_m  (w : World) (K : Value → World → Prop) : Prop :=
  (true = true → K (Value.int IntKind.i64 (0 : Int)) w) ∧ (true = false → False)
theorem nibble_nil_Len_eq  (w : World) (K : Value → World → Prop) : fw Try.prog Try.f80 (annL []) (ordL []) [.pointer none] w K = nibble_nil_Len_m  w K := by kernel_rfl
theorem nibble_nil_Len_go  {w : World} {K : Value → World → Prop} (h : nibble_nil_Len_m  w K) : Rets Try.prog 80 #[.pointer none] w K :=
  calls_of_fw plain mixed Try.func80 (by kernel_rfl) (by rw [nibble_nil_Len_eq]; exact h)
def nibble_Row_in_m (q : Option Addr) (i : Int) (w : World) (K : Value → World → Prop) : Prop :=
  (decide (i ≥ (0 : Int)) = true →
  Rets Try.prog (80 : Nat) { toList := [Value.pointer q] } w fun (v1 : Value) (w1 : World) =>
  ∃ (n1 : Int), v1 = Value.int IntKind.i64 n1 ∧ K (Value.bool (decide (i < n1))) w1) ∧
  (decide (i ≥ (0 : Int)) = false → K (Value.bool false) w)
theorem nibble_Row_in_eq (q : Option Addr) (i : Int) (w : World) (K : Value → World → Prop) : fw Try.prog Try.f77 (annL []) (ordL []) [.pointer q, .int .i64 i] w K = nibble_Row_in_m q i w K := by kernel_rfl
theorem nibble_Row_in_go (q : Option Addr) (i : Int) {w : World} {K : Value → World → Prop} (h : nibble_Row_in_m q i w K) : Rets Try.prog 77 #[.pointer q, .int .i64 i] w K :=
  calls_of_fw plain mixed Try.func77 (by kernel_rfl) (by rw [nibble_Row_in_eq]; exact h)
def nibble_bits_m (i : Int) (w : World) (K : Value → World → Prop) : Prop :=
  (2 : Int) ≠ (0 : Int) ∧
  ((Int.tmod i (2 : Int) == (0 : Int)) = true → K (Value.int IntKind.u64 (0 : Int)) w) ∧
  ((Int.tmod i (2 : Int) == (0 : Int)) = false → K (Value.int IntKind.u64 (4 : Int)) w)
theorem nibble_bits_eq (i : Int) (w : World) (K : Value → World → Prop) : fw Try.prog Try.f78 (annL []) (ordL []) [.int .i64 i] w K = nibble_bits_m i w K := by kernel_rfl
theorem nibble_bits_go (i : Int) {w : World} {K : Value → World → Prop} (h : nibble_bits_m i w K) : Rets Try.prog 78 #[.int .i64 i] w K :=
  calls_of_fw plain mixed Try.func78 (by kernel_rfl) (by rw [nibble_bits_eq]; exact h)
def nibble_Row_Get_m (g : Nat) (i : Int) (w : World) (K : Value → World → Prop) : Prop :=
  Rets Try.prog (77 : Nat) { toList := [Value.pointer (some { block := g, off := (0 : Nat) }), Value.int IntKind.i64 i] }
  w fun (v1 : Value) (w1 : World) =>
  ∃ (b1 : Bool),
  v1 = Value.bool b1 ∧
  ((!b1) = true → K (Value.int IntKind.i64 (0 : Int)) w1) ∧
  ((!b1) = false →
  Drw w1 fun (w2 : World) =>
  ∃ (h1 : World → Prop),
  h1 w2 ∧
  (2 : Int) ≠ (0 : Int) ∧
  ∃ (q1 : Option Addr),
  ∃ (k1 : Nat),
  ∃ (k2 : Nat),
  (∀ (w3 : World),
  h1 w3 → World.cell? w3 (Addr.add { block := g, off := (0 : Nat) } (0 : Nat)) = some (Value.slice q1 k1 k2)) ∧
  (0 : Int) ≤ IntKind.wrap IntKind.i64 (Int.tdiv i (2 : Int)) ∧
  IntKind.wrap IntKind.i64 (Int.tdiv i (2 : Int)) < (↑k1 : Int) ∧
  someR q1 fun (a1 : Addr) =>
  ∃ (n1 : Int),
  (∀ (w4 : World),
  h1 w4 →
  World.cell? w4 (Addr.add a1 (Int.toNat (IntKind.wrap IntKind.i64 (Int.tdiv i (2 : Int))) * (1 : Nat))) =
  some (Value.int IntKind.u8 n1)) ∧
  Rets Try.prog (78 : Nat) { toList := [Value.int IntKind.i64 i] } w2 fun (v2 : Value) (w5 : World) =>
  ∃ (n2 : Int),
  v2 = Value.int IntKind.u64 n2 ∧
  h1 w5 ∧
  (0 : Int) ≤ n2 ∧
  K (Value.int IntKind.i64 (IntKind.wrap IntKind.i64 (bits BinOp.and IntKind.u8 (shrI IntKind.u8 n1 n2) (15 : Int)))) w5)
theorem nibble_Row_Get_eq (g : Nat) (i : Int) (w : World) (K : Value → World → Prop) : fw Try.prog Try.f75 (annL []) (ordL [(3, [(0, 0), (1, 0), (2, 0), (4, 0), (5, 0), (8, 0), (3, 1), (6, 0), (7, 1), (9, 2), (10, 0), (11, 0), (12, 0), (13, 0)])]) [.pointer (some ⟨g, 0, none⟩), .int .i64 i] w K = nibble_Row_Get_m g i w K := by kernel_rfl
theorem nibble_Row_Get_go (g : Nat) (i : Int) {w : World} {K : Value → World → Prop} (h : nibble_Row_Get_m g i w K) : Rets Try.prog 75 #[.pointer (some ⟨g, 0, none⟩), .int .i64 i] w K :=
  calls_of_fw plain mixed Try.func75 (by kernel_rfl) (by rw [nibble_Row_Get_eq]; exact h)
def nibble_nil_Get_m (i : Int) (w : World) (K : Value → World → Prop) : Prop :=
  Rets Try.prog (77 : Nat) { toList := [Value.pointer none, Value.int IntKind.i64 i] } w fun (v1 : Value) (w1 : World) =>
  ∃ (b1 : Bool),
  v1 = Value.bool b1 ∧
  ((!b1) = true → K (Value.int IntKind.i64 (0 : Int)) w1) ∧
  ((!b1) = false → Drw w1 fun (w2 : World) => ∃ (h1 : World → Prop), h1 w2 ∧ False)
theorem nibble_nil_Get_eq (i : Int) (w : World) (K : Value → World → Prop) : fw Try.prog Try.f75 (annL []) (ordL [(3, [(0, 0), (1, 0), (2, 0), (4, 0), (5, 0), (8, 0), (3, 1), (6, 0), (7, 1), (9, 2), (10, 0), (11, 0), (12, 0), (13, 0)])]) [.pointer none, .int .i64 i] w K = nibble_nil_Get_m i w K := by kernel_rfl
theorem nibble_nil_Get_go (i : Int) {w : World} {K : Value → World → Prop} (h : nibble_nil_Get_m i w K) : Rets Try.prog 75 #[.pointer none, .int .i64 i] w K :=
  calls_of_fw plain mixed Try.func75 (by kernel_rfl) (by rw [nibble_nil_Get_eq]; exact h)
def nibble_Row_Add_m (g : Nat) (i : Int) (w : World) (K : Value → World → Prop) : Prop :=
  Rets Try.prog (77 : Nat) { toList := [Value.pointer (some { block := g, off := (0 : Nat) }), Value.int IntKind.i64 i] }
  w fun (v1 : Value) (w1 : World) =>
  ∃ (b1 : Bool),
  v1 = Value.bool b1 ∧
  ((!b1) = false →
  Rets Try.prog (75 : Nat) { toList := [Value.pointer (some { block := g, off := (0 : Nat) }), Value.int IntKind.i64 i] }
  w1 fun (v2 : Value) (w2 : World) =>
  ∃ (n1 : Int),
  v2 = Value.int IntKind.i64 n1 ∧
  ((n1 == (15 : Int)) = true → K (Value.bool false) w2) ∧
  ((n1 == (15 : Int)) = false →
  Drw w2 fun (w3 : World) =>
  ∃ (h1 : World → Prop),
  h1 w3 ∧
  (2 : Int) ≠ (0 : Int) ∧
  ∃ (q1 : Option Addr),
  ∃ (k1 : Nat),
  ∃ (k2 : Nat),
  (∀ (w4 : World),
  h1 w4 → World.cell? w4 (Addr.add { block := g, off := (0 : Nat) } (0 : Nat)) = some (Value.slice q1 k1 k2)) ∧
  (0 : Int) ≤ IntKind.wrap IntKind.i64 (Int.tdiv i (2 : Int)) ∧
  IntKind.wrap IntKind.i64 (Int.tdiv i (2 : Int)) < (↑k1 : Int) ∧
  someR q1 fun (a1 : Addr) =>
  ∃ (n2 : Int),
  (∀ (w5 : World),
  h1 w5 →
  World.cell? w5 (Addr.add a1 (Int.toNat (IntKind.wrap IntKind.i64 (Int.tdiv i (2 : Int))) * (1 : Nat))) =
  some (Value.int IntKind.u8 n2)) ∧
  Rets Try.prog (78 : Nat) { toList := [Value.int IntKind.i64 i] } w3 fun (v3 : Value) (w6 : World) =>
  ∃ (n3 : Int),
  v3 = Value.int IntKind.u64 n3 ∧
  h1 w6 ∧
  (0 : Int) ≤ n3 ∧
  (0 : Int) ≤ IntKind.wrap IntKind.i64 (Int.tdiv i (2 : Int)) ∧
  IntKind.wrap IntKind.i64 (Int.tdiv i (2 : Int)) < (↑k1 : Int) ∧
  someR q1 fun (a2 : Addr) =>
  StoreR (Addr.add a2 (Int.toNat (IntKind.wrap IntKind.i64 (Int.tdiv i (2 : Int))) * (1 : Nat)))
  [Value.int IntKind.u8 (IntKind.wrap IntKind.u8 (n2 + shlI IntKind.u8 (1 : Int) n3))] w6 fun (w7 : World) =>
  K (Value.bool true) w7)) ∧
  ((!b1) = true → K (Value.bool false) w1)
theorem nibble_Row_Add_eq (g : Nat) (i : Int) (w : World) (K : Value → World → Prop) : fw Try.prog Try.f52 (annL []) (ordL [(3, [(0, 0), (1, 0), (2, 0), (4, 0), (5, 0), (8, 0), (3, 1), (6, 0), (7, 1), (9, 2), (10, 0), (11, 0), (12, 0), (13, 3)])]) [.pointer (some ⟨g, 0, none⟩), .int .i64 i] w K = nibble_Row_Add_m g i w K := by kernel_rfl
theorem nibble_Row_Add_go (g : Nat) (i : Int) {w : World} {K : Value → World → Prop} (h : nibble_Row_Add_m g i w K) : Rets Try.prog 52 #[.pointer (some ⟨g, 0, none⟩), .int .i64 i] w K :=
  calls_of_fw plain mixed Try.func52 (by kernel_rfl) (by rw [nibble_Row_Add_eq]; exact h)
def nibble_nil_Add_m (i : Int) (w : World) (K : Value → World → Prop) : Prop :=
  Rets Try.prog (77 : Nat) { toList := [Value.pointer none, Value.int IntKind.i64 i] } w fun (v1 : Value) (w1 : World) =>
  ∃ (b1 : Bool),
  v1 = Value.bool b1 ∧
  ((!b1) = false →
  Rets Try.prog (75 : Nat) { toList := [Value.pointer none, Value.int IntKind.i64 i] } w1 fun (v2 : Value) (w2 : World) =>
  ∃ (n1 : Int),
  v2 = Value.int IntKind.i64 n1 ∧
  ((n1 == (15 : Int)) = true → K (Value.bool false) w2) ∧
  ((n1 == (15 : Int)) = false → Drw w2 fun (w3 : World) => ∃ (h1 : World → Prop), h1 w3 ∧ False)) ∧
  ((!b1) = true → K (Value.bool false) w1)
theorem nibble_nil_Add_eq (i : Int) (w : World) (K : Value → World → Prop) : fw Try.prog Try.f52 (annL []) (ordL [(3, [(0, 0), (1, 0), (2, 0), (4, 0), (5, 0), (8, 0), (3, 1), (6, 0), (7, 1), (9, 2), (10, 0), (11, 0), (12, 0), (13, 3)])]) [.pointer none, .int .i64 i] w K = nibble_nil_Add_m i w K := by kernel_rfl
theorem nibble_nil_Add_go (i : Int) {w : World} {K : Value → World → Prop} (h : nibble_nil_Add_m i w K) : Rets Try.prog 52 #[.pointer none, .int .i64 i] w K :=
  calls_of_fw plain mixed Try.func52 (by kernel_rfl) (by rw [nibble_nil_Add_eq]; exact h)
def nibble_Row_All_m (q : Option Addr) (w : World) (K : Value → World → Prop) : Prop :=
  NewR (75 : Nat) [Value.pointer q] w fun (a1 : Addr) (w1 : World) =>
  K (Value.func (Fn.func (79 : Nat)) { toList := [] } { toList := [Value.pointer (some a1)] }) w1
theorem nibble_Row_All_eq (q : Option Addr) (w : World) (K : Value → World → Prop) : fw Try.prog Try.f54 (annL []) (ordL []) [.pointer q] w K = nibble_Row_All_m q w K := by kernel_rfl
theorem nibble_Row_All_go (q : Option Addr) {w : World} {K : Value → World → Prop} (h : nibble_Row_All_m q w K) : Rets Try.prog 54 #[.pointer q] w K :=
  calls_of_fw plain mixed Try.func54 (by kernel_rfl) (by rw [nibble_Row_All_eq]; exact h)
def nibble_Row_All_1_m (l b : Nat) (w : World) (K : Value → World → Prop) : Prop :=
  ∃ (q1 : Option Addr),
  cellAt w { block := b, off := (0 : Nat) } (Value.pointer q1) ∧
  Rets Try.prog (80 : Nat) { toList := [Value.pointer q1] } w fun (v1 : Value) (w1 : World) =>
  ∃ (n1 : Int),
  v1 = Value.int IntKind.i64 n1 ∧
  ∃ (h1 : Nat → List Value → World → Prop),
  (∃ (k1 : Nat), h1 k1 [Value.int IntKind.i64 (0 : Int)] w1) ∧
  ∀ (k2 : Nat) (w2 : World) (v2 v3 : Value) (n2 : Int) (v4 v5 v6 v7 v8 v9 v10 v11 v12 v13 v14 v15 v16 v17 v18 : Value),
  h1 k2 [Value.int IntKind.i64 n2] w2 →
  (decide (n2 < n1) = true →
  ∃ (q2 : Option Addr),
  cellAt w2 { block := b, off := (0 : Nat) } (Value.pointer q2) ∧
  Rets Try.prog (75 : Nat) { toList := [Value.pointer q2, Value.int IntKind.i64 n2] } w2 fun (v19 : Value) (w3 : World) =>
  ∃ (n3 : Int),
  v19 = Value.int IntKind.i64 n3 ∧
  (decide (n3 > (0 : Int)) = true →
  RoundR Try.prog l { toList := [Value.int IntKind.i64 n2, Value.int IntKind.i64 n3] } w3
  fun (v20 : Value) (w4 : World) =>
  ∃ (b1 : Bool),
  v20 = Value.bool b1 ∧
  ((!b1) = true → K (Value.tuple { toList := [] }) w4) ∧
  ((!b1) = false →
  ∃ (k3 : Nat), k3 < k2 ∧ h1 k3 [Value.int IntKind.i64 (IntKind.wrap IntKind.i64 (n2 + (1 : Int)))] w4)) ∧
  (decide (n3 > (0 : Int)) = false →
  ∃ (k4 : Nat), k4 < k2 ∧ h1 k4 [Value.int IntKind.i64 (IntKind.wrap IntKind.i64 (n2 + (1 : Int)))] w3)) ∧
  (decide (n2 < n1) = false → K (Value.tuple { toList := [] }) w2)
theorem nibble_Row_All_1_eq (l b : Nat) (w : World) (K : Value → World → Prop) : fw Try.prog Try.f79 (annL [(1, [(3, none), (4, none), (7, some 3), (8, none), (9, none), (10, none), (11, none), (12, none), (13, none), (14, none), (15, none), (16, none), (17, none), (18, none), (19, none), (20, none), (21, none), (22, none)])]) (ordL []) [.func (.yield l) #[] #[], .pointer (some ⟨b, 0, none⟩)] w K = nibble_Row_All_1_m l b w K := by kernel_rfl
theorem nibble_Row_All_1_go (l b : Nat) {w : World} {K : Value → World → Prop} (h : nibble_Row_All_1_m l b w K) : Rets Try.prog 79 #[.func (.yield l) #[] #[], .pointer (some ⟨b, 0, none⟩)] w K :=
  calls_of_fw plain mixed Try.func79 (by kernel_rfl) (by rw [nibble_Row_All_1_eq]; exact h)
def nibble_Row_Bytes_m (g : Nat) (w : World) (K : Value → World → Prop) : Prop :=
  (false = true → K (Value.slice none (0 : Nat) (0 : Nat)) w) ∧
  (false = false →
  ∃ (q1 : Option Addr),
  ∃ (k1 : Nat),
  ∃ (k2 : Nat),
  cellAt w (Addr.add { block := g, off := (0 : Nat) } (0 : Nat)) (Value.slice q1 k1 k2) ∧
  Rets Try.prog (82 : Nat) { toList := [Value.slice q1 k1 k2] } w fun (v1 : Value) (w1 : World) =>
  ∃ (q2 : Option Addr), ∃ (k3 : Nat), ∃ (k4 : Nat), v1 = Value.slice q2 k3 k4 ∧ K (Value.slice q2 k3 k4) w1)
theorem nibble_Row_Bytes_eq (g : Nat) (w : World) (K : Value → World → Prop) : fw Try.prog Try.f76 (annL []) (ordL []) [.pointer (some ⟨g, 0, none⟩)] w K = nibble_Row_Bytes_m g w K := by kernel_rfl
theorem nibble_Row_Bytes_go (g : Nat) {w : World} {K : Value → World → Prop} (h : nibble_Row_Bytes_m g w K) : Rets Try.prog 76 #[.pointer (some ⟨g, 0, none⟩)] w K :=
  calls_of_fw plain mixed Try.func76 (by kernel_rfl) (by rw [nibble_Row_Bytes_eq]; exact h)
def nibble_nil_Bytes_m  (w : World) (K : Value → World → Prop) : Prop :=
  (true = true → K (Value.slice none (0 : Nat) (0 : Nat)) w) ∧ (true = false → False)
theorem nibble_nil_Bytes_eq  (w : World) (K : Value → World → Prop) : fw Try.prog Try.f76 (annL []) (ordL []) [.pointer none] w K = nibble_nil_Bytes_m  w K := by kernel_rfl
theorem nibble_nil_Bytes_go  {w : World} {K : Value → World → Prop} (h : nibble_nil_Bytes_m  w K) : Rets Try.prog 76 #[.pointer none] w K :=
  calls_of_fw plain mixed Try.func76 (by kernel_rfl) (by rw [nibble_nil_Bytes_eq]; exact h)
def cortadolaw10_awake_m  (w : World) (K : Value → World → Prop) : Prop :=
  Rets Try.prog (51 : Nat) { toList := [Value.int IntKind.i64 (3 : Int)] } w fun (v1 : Value) (w1 : World) =>
  ∃ (q1 : Option Addr),
  v1 = Value.pointer q1 ∧
  Rets Try.prog (52 : Nat) { toList := [Value.pointer q1, Value.int IntKind.i64 (1 : Int)] } w1
  fun (v2 : Value) (w2 : World) =>
  ∃ (b1 : Bool),
  v2 = Value.bool b1 ∧
  (b1 = true →
  Rets Try.prog (75 : Nat) { toList := [Value.pointer q1, Value.int IntKind.i64 (1 : Int)] } w2
  fun (v3 : Value) (w3 : World) =>
  ∃ (n1 : Int),
  v3 = Value.int IntKind.i64 n1 ∧
  ((n1 == (1 : Int)) = true →
  Rets Try.prog (76 : Nat) { toList := [Value.pointer q1] } w3 fun (v4 : Value) (w4 : World) =>
  ∃ (q2 : Option Addr),
  ∃ (k1 : Nat),
  ∃ (k2 : Nat),
  v4 = Value.slice q2 k1 k2 ∧ pickB ((↑k1 : Int) == (2 : Int)) (K (Value.bool true) w4) (K (Value.bool false) w4)) ∧
  ((n1 == (1 : Int)) = false → K (Value.bool false) w3)) ∧
  (b1 = false → K (Value.bool false) w2)
theorem cortadolaw10_awake_eq  (w : World) (K : Value → World → Prop) : fw Try.prog Try.f50 (annL []) (ordL []) [] w K = cortadolaw10_awake_m  w K := by kernel_rfl
theorem cortadolaw10_awake_go  {w : World} {K : Value → World → Prop} (h : cortadolaw10_awake_m  w K) : Rets Try.prog 50 #[] w K :=
  calls_of_fw plain mixed Try.func50 (by kernel_rfl) (by rw [cortadolaw10_awake_eq]; exact h)
end Go.Proofs.Ytmenjjofmafacaa.Eng
