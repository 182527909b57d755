/- What the code of these functions asks for: printed by a program of this session's (gens.py) out of the seat's own functions; the kernel checks each row. -/
import Derived.Test.YtfcddffcjmgpkaaEngH
import Derived.Test.YtfcddffcjmgpkaaProg
import Derived.Test.YtfcddffcjmgpkaaBase
namespace Go.Proofs.Ytfcddffcjmgpkaa.Eng
open Go Go.Proofs
set_option linter.unusedVariables false
set_option maxRecDepth 1000000
def ring_New_int_m (room : Int) (w : World) (K : Value → World → Prop) : Prop :=
  NewR (146 : Nat)
  [Value.slice none (0 : Nat) (0 : Nat), Value.int IntKind.i64 (0 : Int), Value.int IntKind.i64 (0 : Int),
  Value.int IntKind.i64 (maxI (0 : Int) (minI room (65536 : Int)))]
  w fun (a1 : Addr) (w1 : World) => K (Value.pointer (some a1)) w1
theorem ring_New_int_eq (room : Int) (w : World) (K : Value → World → Prop) : fw Try.prog Try.f62 (annL []) (ordL []) [.int .i64 room] w K = ring_New_int_m room w K := by kernel_rfl
theorem ring_New_int_go (room : Int) {w : World} {K : Value → World → Prop} (h : ring_New_int_m room w K) : Rets Try.prog 62 #[.int .i64 room] w K :=
  calls_of_fw plain mixed Try.func62 (by kernel_rfl) (by rw [ring_New_int_eq]; exact h)
def ring_Ring_int_place_m (g : Nat) (i : Int) (w : World) (K : Value → World → Prop) : Prop :=
  Drw w fun (w1 : World) =>
  ∃ (n1 : Int),
  cellAt w1 (Addr.add { block := g, off := (0 : Nat) } (1 : Nat)) (Value.int IntKind.i64 n1) ∧
  ∃ (q1 : Option Addr),
  ∃ (k1 : Nat),
  ∃ (k2 : Nat),
  cellAt w1 (Addr.add { block := g, off := (0 : Nat) } (0 : Nat)) (Value.slice q1 k1 k2) ∧
  (↑k1 : Int) ≠ (0 : Int) ∧ K (Value.int IntKind.i64 (Int.tmod (IntKind.wrap IntKind.i64 (n1 + i)) (↑k1 : Int))) w1
theorem ring_Ring_int_place_eq (g : Nat) (i : Int) (w : World) (K : Value → World → Prop) : fw Try.prog Try.f112 (annL []) (ordL [(1, [(0, 0), (1, 0), (2, 0), (4, 0), (6, 0), (7, 0), (8, 0), (3, 1), (5, 0), (9, 1), (10, 0), (11, 0), (12, 0)])]) [.pointer (some ⟨g, 0, none⟩), .int .i64 i] w K = ring_Ring_int_place_m g i w K := by kernel_rfl
theorem ring_Ring_int_place_go (g : Nat) (i : Int) {w : World} {K : Value → World → Prop} (h : ring_Ring_int_place_m g i w K) : Rets Try.prog 112 #[.pointer (some ⟨g, 0, none⟩), .int .i64 i] w K :=
  calls_of_fw plain mixed Try.func112 (by kernel_rfl) (by rw [ring_Ring_int_place_eq]; exact h)
def ring_Ring_int_Len_m (g : Nat) (w : World) (K : Value → World → Prop) : Prop :=
  (false = true → K (Value.int IntKind.i64 (0 : Int)) w) ∧
  (false = false →
  ∃ (n1 : Int),
  cellAt w (Addr.add { block := g, off := (0 : Nat) } (2 : Nat)) (Value.int IntKind.i64 n1) ∧
  K (Value.int IntKind.i64 n1) w)
theorem ring_Ring_int_Len_eq (g : Nat) (w : World) (K : Value → World → Prop) : fw Try.prog Try.f72 (annL []) (ordL []) [.pointer (some ⟨g, 0, none⟩)] w K = ring_Ring_int_Len_m g w K := by kernel_rfl
theorem ring_Ring_int_Len_go (g : Nat) {w : World} {K : Value → World → Prop} (h : ring_Ring_int_Len_m g w K) : Rets Try.prog 72 #[.pointer (some ⟨g, 0, none⟩)] w K :=
  calls_of_fw plain mixed Try.func72 (by kernel_rfl) (by rw [ring_Ring_int_Len_eq]; exact h)
def ring_nil_int_Len_m  (w : World) (K : Value → World → Prop) : Prop :=
  (true = true → K (Value.int IntKind.i64 (0 : Int)) w) ∧ (true = false → False)
theorem ring_nil_int_Len_eq  (w : World) (K : Value → World → Prop) : fw Try.prog Try.f72 (annL []) (ordL []) [.pointer none] w K = ring_nil_int_Len_m  w K := by kernel_rfl
theorem ring_nil_int_Len_go  {w : World} {K : Value → World → Prop} (h : ring_nil_int_Len_m  w K) : Rets Try.prog 72 #[.pointer none] w K :=
  calls_of_fw plain mixed Try.func72 (by kernel_rfl) (by rw [ring_nil_int_Len_eq]; exact h)
def ring_Ring_int_Room_m (g : Nat) (w : World) (K : Value → World → Prop) : Prop :=
  (false = true → K (Value.int IntKind.i64 (0 : Int)) w) ∧
  (false = false →
  ∃ (n1 : Int),
  cellAt w (Addr.add { block := g, off := (0 : Nat) } (3 : Nat)) (Value.int IntKind.i64 n1) ∧
  K (Value.int IntKind.i64 n1) w)
theorem ring_Ring_int_Room_eq (g : Nat) (w : World) (K : Value → World → Prop) : fw Try.prog Try.f73 (annL []) (ordL []) [.pointer (some ⟨g, 0, none⟩)] w K = ring_Ring_int_Room_m g w K := by kernel_rfl
theorem ring_Ring_int_Room_go (g : Nat) {w : World} {K : Value → World → Prop} (h : ring_Ring_int_Room_m g w K) : Rets Try.prog 73 #[.pointer (some ⟨g, 0, none⟩)] w K :=
  calls_of_fw plain mixed Try.func73 (by kernel_rfl) (by rw [ring_Ring_int_Room_eq]; exact h)
def ring_nil_int_Room_m  (w : World) (K : Value → World → Prop) : Prop :=
  (true = true → K (Value.int IntKind.i64 (0 : Int)) w) ∧ (true = false → False)
theorem ring_nil_int_Room_eq  (w : World) (K : Value → World → Prop) : fw Try.prog Try.f73 (annL []) (ordL []) [.pointer none] w K = ring_nil_int_Room_m  w K := by kernel_rfl
theorem ring_nil_int_Room_go  {w : World} {K : Value → World → Prop} (h : ring_nil_int_Room_m  w K) : Rets Try.prog 73 #[.pointer none] w K :=
  calls_of_fw plain mixed Try.func73 (by kernel_rfl) (by rw [ring_nil_int_Room_eq]; exact h)
def slices_Clone_int_int_m (q : Option Addr) (l c : Nat) (w : World) (K : Value → World → Prop) : Prop :=
  (Option.isNone q = true → K (Value.slice none (0 : Nat) (0 : Nat)) w) ∧
  (Option.isNone q = false →
  NewR (3 : Nat) [] w fun (a1 : Addr) (w1 : World) =>
  RunR Try.prog
  (builtinV Builtin.append { toList := [(22 : Nat), (22 : Nat)] } (nat_lit 22)
  { toList := [Value.slice (some a1) (0 : Nat) (0 : Nat), Value.slice q l c] })
  w1 fun (v1 : Value) (w2 : World) =>
  ∃ (q1 : Option Addr), ∃ (k1 : Nat), ∃ (k2 : Nat), v1 = Value.slice q1 k1 k2 ∧ K (Value.slice q1 k1 k2) w2)
theorem slices_Clone_int_int_eq (q : Option Addr) (l c : Nat) (w : World) (K : Value → World → Prop) : fw Try.prog Try.f105 (annL []) (ordL []) [.slice q l c] w K = slices_Clone_int_int_m q l c w K := by kernel_rfl
theorem slices_Clone_int_int_go (q : Option Addr) (l c : Nat) {w : World} {K : Value → World → Prop} (h : slices_Clone_int_int_m q l c w K) : Rets Try.prog 105 #[.slice q l c] w K :=
  calls_of_fw plain mixed Try.func105 (by kernel_rfl) (by rw [slices_Clone_int_int_eq]; exact h)
def ring_Ring_int_Clone_m (g : Nat) (w : World) (K : Value → World → Prop) : Prop :=
  (false = true → K (Value.pointer none) w) ∧
  (false = false →
  Drw w fun (w1 : World) =>
  ∃ (h1 : World → Prop),
  h1 w1 ∧
  ∃ (q1 : Option Addr),
  ∃ (k1 : Nat),
  ∃ (k2 : Nat),
  (∀ (w2 : World),
  h1 w2 → World.cell? w2 (Addr.add { block := g, off := (0 : Nat) } (0 : Nat)) = some (Value.slice q1 k1 k2)) ∧
  ∃ (n1 : Int),
  (∀ (w3 : World),
  h1 w3 → World.cell? w3 (Addr.add { block := g, off := (0 : Nat) } (1 : Nat)) = some (Value.int IntKind.i64 n1)) ∧
  ∃ (n2 : Int),
  (∀ (w4 : World),
  h1 w4 → World.cell? w4 (Addr.add { block := g, off := (0 : Nat) } (2 : Nat)) = some (Value.int IntKind.i64 n2)) ∧
  ∃ (n3 : Int),
  (∀ (w5 : World),
  h1 w5 → World.cell? w5 (Addr.add { block := g, off := (0 : Nat) } (3 : Nat)) = some (Value.int IntKind.i64 n3)) ∧
  Rets Try.prog (105 : Nat) { toList := [Value.slice q1 k1 k2] } w1 fun (v1 : Value) (w6 : World) =>
  ∃ (q2 : Option Addr),
  ∃ (k3 : Nat),
  ∃ (k4 : Nat),
  v1 = Value.slice q2 k3 k4 ∧
  h1 w6 ∧
  NewR (146 : Nat) [Value.slice q2 k3 k4, Value.int IntKind.i64 n1, Value.int IntKind.i64 n2, Value.int IntKind.i64 n3] w6
  fun (a1 : Addr) (w7 : World) => K (Value.pointer (some a1)) w7)
theorem ring_Ring_int_Clone_eq (g : Nat) (w : World) (K : Value → World → Prop) : fw Try.prog Try.f76 (annL []) (ordL [(3, [(0, 0), (1, 0), (2, 0), (5, 0), (6, 0), (7, 0), (9, 0), (10, 0), (11, 0), (13, 0), (14, 0), (15, 0), (3, 1), (8, 1), (12, 1), (16, 1), (4, 2), (17, 0), (18, 3), (19, 0)])]) [.pointer (some ⟨g, 0, none⟩)] w K = ring_Ring_int_Clone_m g w K := by kernel_rfl
theorem ring_Ring_int_Clone_go (g : Nat) {w : World} {K : Value → World → Prop} (h : ring_Ring_int_Clone_m g w K) : Rets Try.prog 76 #[.pointer (some ⟨g, 0, none⟩)] w K :=
  calls_of_fw plain mixed Try.func76 (by kernel_rfl) (by rw [ring_Ring_int_Clone_eq]; exact h)
def ring_nil_int_Clone_m  (w : World) (K : Value → World → Prop) : Prop :=
  (true = true → K (Value.pointer none) w) ∧
  (true = false → Drw w fun (w1 : World) => ∃ (h1 : World → Prop), h1 w1 ∧ False)
theorem ring_nil_int_Clone_eq  (w : World) (K : Value → World → Prop) : fw Try.prog Try.f76 (annL []) (ordL [(3, [(0, 0), (1, 0), (2, 0), (5, 0), (6, 0), (7, 0), (9, 0), (10, 0), (11, 0), (13, 0), (14, 0), (15, 0), (3, 1), (8, 1), (12, 1), (16, 1), (4, 2), (17, 0), (18, 3), (19, 0)])]) [.pointer none] w K = ring_nil_int_Clone_m  w K := by kernel_rfl
theorem ring_nil_int_Clone_go  {w : World} {K : Value → World → Prop} (h : ring_nil_int_Clone_m  w K) : Rets Try.prog 76 #[.pointer none] w K :=
  calls_of_fw plain mixed Try.func76 (by kernel_rfl) (by rw [ring_nil_int_Clone_eq]; exact h)
def ring_Ring_int_At_m (g : Nat) (i : Int) (w : World) (K : Value → World → Prop) : Prop :=
  (false = false →
  (decide (i < (0 : Int)) = false →
  ∃ (n1 : Int),
  cellAt w (Addr.add { block := g, off := (0 : Nat) } (2 : Nat)) (Value.int IntKind.i64 n1) ∧
  (decide (i ≥ n1) = true → K (Value.tuple { toList := [Value.int IntKind.i64 (0 : Int), Value.bool false] }) w) ∧
  (decide (i ≥ n1) = false →
  Drw w fun (w1 : World) =>
  ∃ (h1 : World → Prop),
  h1 w1 ∧
  ∃ (q1 : Option Addr),
  ∃ (k1 : Nat),
  ∃ (k2 : Nat),
  (∀ (w2 : World),
  h1 w2 → World.cell? w2 (Addr.add { block := g, off := (0 : Nat) } (0 : Nat)) = some (Value.slice q1 k1 k2)) ∧
  Rets Try.prog (112 : Nat) { toList := [Value.pointer (some { block := g, off := (0 : Nat) }), Value.int IntKind.i64 i] }
  w1 fun (v1 : Value) (w3 : World) =>
  ∃ (n2 : Int),
  v1 = Value.int IntKind.i64 n2 ∧
  ∃ (h2 : World → Prop),
  (∀ (w4 : World), h2 w4 → h1 w4) ∧
  h2 w3 ∧
  (0 : Int) ≤ n2 ∧
  n2 < (↑k1 : Int) ∧
  someR q1 fun (a1 : Addr) =>
  ∃ (n3 : Int),
  (∀ (w5 : World), h2 w5 → World.cell? w5 (Addr.add a1 (Int.toNat n2 * (1 : Nat))) = some (Value.int IntKind.i64 n3)) ∧
  K (Value.tuple { toList := [Value.int IntKind.i64 n3, Value.bool true] }) w3)) ∧
  (decide (i < (0 : Int)) = true → K (Value.tuple { toList := [Value.int IntKind.i64 (0 : Int), Value.bool false] }) w)) ∧
  (false = true → K (Value.tuple { toList := [Value.int IntKind.i64 (0 : Int), Value.bool false] }) w)
theorem ring_Ring_int_At_eq (g : Nat) (i : Int) (w : World) (K : Value → World → Prop) : fw Try.prog Try.f69 (annL []) (ordL [(3, [(0, 0), (1, 0), (2, 0), (4, 0), (5, 0), (3, 1), (6, 4), (7, 0), (8, 1), (9, 0), (10, 0)])]) [.pointer (some ⟨g, 0, none⟩), .int .i64 i] w K = ring_Ring_int_At_m g i w K := by kernel_rfl
theorem ring_Ring_int_At_go (g : Nat) (i : Int) {w : World} {K : Value → World → Prop} (h : ring_Ring_int_At_m g i w K) : Rets Try.prog 69 #[.pointer (some ⟨g, 0, none⟩), .int .i64 i] w K :=
  calls_of_fw plain mixed Try.func69 (by kernel_rfl) (by rw [ring_Ring_int_At_eq]; exact h)
def ring_nil_int_At_m (i : Int) (w : World) (K : Value → World → Prop) : Prop :=
  (true = false →
  (decide (i < (0 : Int)) = false → False) ∧
  (decide (i < (0 : Int)) = true → K (Value.tuple { toList := [Value.int IntKind.i64 (0 : Int), Value.bool false] }) w)) ∧
  (true = true → K (Value.tuple { toList := [Value.int IntKind.i64 (0 : Int), Value.bool false] }) w)
theorem ring_nil_int_At_eq (i : Int) (w : World) (K : Value → World → Prop) : fw Try.prog Try.f69 (annL []) (ordL [(3, [(0, 0), (1, 0), (2, 0), (4, 0), (5, 0), (3, 1), (6, 4), (7, 0), (8, 1), (9, 0), (10, 0)])]) [.pointer none, .int .i64 i] w K = ring_nil_int_At_m i w K := by kernel_rfl
theorem ring_nil_int_At_go (i : Int) {w : World} {K : Value → World → Prop} (h : ring_nil_int_At_m i w K) : Rets Try.prog 69 #[.pointer none, .int .i64 i] w K :=
  calls_of_fw plain mixed Try.func69 (by kernel_rfl) (by rw [ring_nil_int_At_eq]; exact h)
def ring_Ring_int_All_m (q : Option Addr) (w : World) (K : Value → World → Prop) : Prop :=
  NewR (82 : Nat) [Value.pointer q] w fun (a1 : Addr) (w1 : World) =>
  K (Value.func (Fn.func (128 : Nat)) { toList := [] } { toList := [Value.pointer (some a1)] }) w1
theorem ring_Ring_int_All_eq (q : Option Addr) (w : World) (K : Value → World → Prop) : fw Try.prog Try.f114 (annL []) (ordL []) [.pointer q] w K = ring_Ring_int_All_m q w K := by kernel_rfl
theorem ring_Ring_int_All_go (q : Option Addr) {w : World} {K : Value → World → Prop} (h : ring_Ring_int_All_m q w K) : Rets Try.prog 114 #[.pointer q] w K :=
  calls_of_fw plain mixed Try.func114 (by kernel_rfl) (by rw [ring_Ring_int_All_eq]; exact h)
def ring_Ring_int_All_1_m (l b : Nat) (w : World) (K : Value → World → Prop) : Prop :=
  ∃ (q1 : Option Addr),
  cellAt w { block := b, off := (0 : Nat) } (Value.pointer q1) ∧
  Rets Try.prog (76 : Nat) { toList := [Value.pointer q1] } w fun (v1 : Value) (w1 : World) =>
  ∃ (q2 : Option Addr),
  v1 = Value.pointer q2 ∧
  Rets Try.prog (72 : Nat) { toList := [Value.pointer q2] } w1 fun (v2 : Value) (w2 : World) =>
  ∃ (n1 : Int),
  v2 = Value.int IntKind.i64 n1 ∧
  ∃ (h1 : Nat → List Value → World → Prop),
  (∃ (k1 : Nat), h1 k1 [Value.int IntKind.i64 (0 : Int)] w2) ∧
  ∀ (k2 : Nat) (w3 : World) (v3 v4 v5 : Value) (n2 : Int) (v6 v7 v8 v9 v10 v11 v12 v13 v14 v15 v16 v17 v18 v19 : Value),
  h1 k2 [Value.int IntKind.i64 n2] w3 →
  (decide (n2 < n1) = true →
  Rets Try.prog (69 : Nat) { toList := [Value.pointer q2, Value.int IntKind.i64 n2] } w3 fun (v20 : Value) (w4 : World) =>
  ∃ (n3 : Int),
  ∃ (b1 : Bool),
  v20 = Value.tuple { toList := [Value.int IntKind.i64 n3, Value.bool b1] } ∧
  RoundR Try.prog l { toList := [Value.int IntKind.i64 n2, Value.int IntKind.i64 n3] } w4
  fun (v21 : Value) (w5 : World) =>
  ∃ (b2 : Bool),
  v21 = Value.bool b2 ∧
  ((!b2) = true → K (Value.tuple { toList := [] }) w5) ∧
  ((!b2) = false →
  ∃ (k3 : Nat), k3 < k2 ∧ h1 k3 [Value.int IntKind.i64 (IntKind.wrap IntKind.i64 (n2 + (1 : Int)))] w5)) ∧
  (decide (n2 < n1) = false → K (Value.tuple { toList := [] }) w3)
theorem ring_Ring_int_All_1_eq (l b : Nat) (w : World) (K : Value → World → Prop) : fw Try.prog Try.f128 (annL [(1, [(4, none), (5, none), (6, none), (11, some 3), (12, none), (13, none), (14, none), (15, none), (16, none), (17, none), (18, none), (19, none), (20, none), (21, none), (22, none), (23, none), (24, none), (25, none)])]) (ordL []) [.func (.yield l) #[] #[], .pointer (some ⟨b, 0, none⟩)] w K = ring_Ring_int_All_1_m l b w K := by kernel_rfl
theorem ring_Ring_int_All_1_go (l b : Nat) {w : World} {K : Value → World → Prop} (h : ring_Ring_int_All_1_m l b w K) : Rets Try.prog 128 #[.func (.yield l) #[] #[], .pointer (some ⟨b, 0, none⟩)] w K :=
  calls_of_fw plain mixed Try.func128 (by kernel_rfl) (by rw [ring_Ring_int_All_1_eq]; exact h)
def ring_Ring_int_grow_m (g : Nat) (w : World) (K : Value → World → Prop) : Prop :=
  Drw w fun (w1 : World) =>
  ∃ (n1 : Int),
  cellAt w1 (Addr.add { block := g, off := (0 : Nat) } (2 : Nat)) (Value.int IntKind.i64 n1) ∧
  ∃ (q1 : Option Addr),
  ∃ (k1 : Nat),
  ∃ (k2 : Nat),
  cellAt w1 (Addr.add { block := g, off := (0 : Nat) } (0 : Nat)) (Value.slice q1 k1 k2) ∧
  (decide (n1 < (↑k1 : Int)) = true → K (Value.tuple { toList := [] }) w1) ∧
  (decide (n1 < (↑k1 : Int)) = false →
  ∃ (n2 : Int),
  cellAt w1 (Addr.add { block := g, off := (0 : Nat) } (2 : Nat)) (Value.int IntKind.i64 n2) ∧
  MakeR (3 : Nat) [Value.int IntKind.i64 (0 : Int)] (8 : Nat) (0 : Int) n2 w1 fun (a1 : Addr) (w2 : World) =>
  NewR (22 : Nat) [Value.slice none (0 : Nat) (0 : Nat)] w2 fun (a2 : Addr) (w3 : World) =>
  StoreR a2 [Value.slice (some a1) (0 : Nat) (Int.toNat n2)] w3 fun (w4 : World) =>
  Rets Try.prog (114 : Nat) { toList := [Value.pointer (some { block := g, off := (0 : Nat) })] } w4
  fun (v1 : Value) (w5 : World) =>
  ∃ (f1 : Fn),
  ∃ (a3 : Array Value),
  ∃ (c1 : Array Value),
  v1 = Value.func f1 a3 c1 ∧
  ∃ (v2 : Value),
  Value.func f1 a3 c1 = Value.func (Fn.func (128 : Nat)) { toList := [] } { toList := [v2] } ∧
  LoopR w5 fun (k3 k4 : Nat) (L1 : Loop) (w6 : World) =>
  (∀ (n3 n4 : Int) (w7 : World) (h1 : Value → World → Prop),
  RecR k4 L1 w7 →
  (BegR k4 L1 w7 fun (w8 : World) =>
  ∃ (q2 : Option Addr),
  ∃ (k5 : Nat),
  ∃ (k6 : Nat),
  cellAt w8 a2 (Value.slice q2 k5 k6) ∧
  NewR (3 : Nat) [Value.int IntKind.i64 n4] w8 fun (a4 : Addr) (w9 : World) =>
  RunR Try.prog
  (builtinV Builtin.append { toList := [(22 : Nat), (22 : Nat)] } (nat_lit 22)
  { toList := [Value.slice q2 k5 k6, Value.slice (some a4) (1 : Nat) (1 : Nat)] })
  w9 fun (v3 : Value) (w10 : World) =>
  ∃ (q3 : Option Addr),
  ∃ (k7 : Nat),
  ∃ (k8 : Nat),
  v3 = Value.slice q3 k7 k8 ∧
  StoreR a2 [Value.slice q3 k7 k8] w10 fun (w11 : World) =>
  FinR k4 L1 none w11 fun (w12 : World) => h1 (Value.bool true) w12) →
  RoundR Try.prog k4 { toList := [Value.int IntKind.i64 n3, Value.int IntKind.i64 n4] } w7 h1) →
  Rets Try.prog (128 : Nat) { toList := [Value.func (Fn.yield k4) { toList := [] } { toList := [] }, v2] } w6
  fun (v4 : Value) (w13 : World) =>
  EndR k4 L1 none w13 fun (w14 : World) =>
  Drw w14 fun (w15 : World) =>
  ∃ (n5 : Int),
  cellAt w15 (Addr.add { block := g, off := (0 : Nat) } (3 : Nat)) (Value.int IntKind.i64 n5) ∧
  ∃ (n6 : Int),
  cellAt w15 (Addr.add { block := g, off := (0 : Nat) } (2 : Nat)) (Value.int IntKind.i64 n6) ∧
  MakeR (3 : Nat) [Value.int IntKind.i64 (0 : Int)] (8 : Nat)
  (minI n5 (maxI (4 : Int) (IntKind.wrap IntKind.i64 ((2 : Int) * n6))))
  (minI n5 (maxI (4 : Int) (IntKind.wrap IntKind.i64 ((2 : Int) * n6)))) w15 fun (a5 : Addr) (w16 : World) =>
  ∃ (q4 : Option Addr),
  ∃ (k9 : Nat),
  ∃ (k10 : Nat),
  cellAt w16 a2 (Value.slice q4 k9 k10) ∧
  RunR Try.prog
  (builtinV Builtin.copy { toList := [(22 : Nat), (22 : Nat)] } (nat_lit 3)
  {
  toList :=
  [Value.slice (some a5) (Int.toNat (minI n5 (maxI (4 : Int) (IntKind.wrap IntKind.i64 ((2 : Int) * n6)))))
  (Int.toNat (minI n5 (maxI (4 : Int) (IntKind.wrap IntKind.i64 ((2 : Int) * n6))))),
  Value.slice q4 k9 k10] })
  w16 fun (v5 : Value) (w17 : World) =>
  ∃ (n7 : Int),
  v5 = Value.int IntKind.i64 n7 ∧
  StoreR (Addr.add { block := g, off := (0 : Nat) } (0 : Nat))
  [Value.slice (some a5) (Int.toNat (minI n5 (maxI (4 : Int) (IntKind.wrap IntKind.i64 ((2 : Int) * n6)))))
  (Int.toNat (minI n5 (maxI (4 : Int) (IntKind.wrap IntKind.i64 ((2 : Int) * n6)))))]
  w17 fun (w18 : World) =>
  StoreR (Addr.add { block := g, off := (0 : Nat) } (1 : Nat)) [Value.int IntKind.i64 (0 : Int)] w18 fun (w19 : World) =>
  MarkR k3 w19 fun (w20 : World) => K (Value.tuple { toList := [] }) w20)
theorem ring_Ring_int_grow_eq (g : Nat) (w : World) (K : Value → World → Prop) : fw Try.prog Try.f111 (annL [(2, [(23, some 3), (24, some 3)])]) (ordL [(0, [(0, 0), (1, 0), (2, 0), (4, 0), (5, 0), (6, 0), (3, 1), (7, 1), (8, 0), (9, 0)]), (1000002, [(128, 1)]), (5, [(0, 0), (1, 0), (2, 0), (4, 0), (5, 0), (6, 0), (3, 1), (7, 1), (8, 0), (9, 0), (10, 0), (11, 3), (12, 0)])]) [.pointer (some ⟨g, 0, none⟩)] w K = ring_Ring_int_grow_m g w K := by kernel_rfl
theorem ring_Ring_int_grow_go (g : Nat) {w : World} {K : Value → World → Prop} (h : ring_Ring_int_grow_m g w K) : Rets Try.prog 111 #[.pointer (some ⟨g, 0, none⟩)] w K :=
  calls_of_fw plain mixed Try.func111 (by kernel_rfl) (by rw [ring_Ring_int_grow_eq]; exact h)
def ring_Ring_int_Send_m (g : Nat) (x : Int) (w : World) (K : Value → World → Prop) : Prop :=
  Drw w fun (w1 : World) =>
  (false = false →
  ∃ (n1 : Int),
  cellAt w1 (Addr.add { block := g, off := (0 : Nat) } (2 : Nat)) (Value.int IntKind.i64 n1) ∧
  ∃ (n2 : Int),
  cellAt w1 (Addr.add { block := g, off := (0 : Nat) } (3 : Nat)) (Value.int IntKind.i64 n2) ∧
  (decide (n1 ≥ n2) = true → K (Value.bool false) w1) ∧
  (decide (n1 ≥ n2) = false →
  Rets Try.prog (111 : Nat) { toList := [Value.pointer (some { block := g, off := (0 : Nat) })] } w1
  fun (v1 : Value) (w2 : World) =>
  v1 = Value.tuple { toList := [] } ∧
  Drw w2 fun (w3 : World) =>
  ∃ (h1 : World → Prop),
  h1 w3 ∧
  ∃ (q1 : Option Addr),
  ∃ (k1 : Nat),
  ∃ (k2 : Nat),
  (∀ (w4 : World),
  h1 w4 → World.cell? w4 (Addr.add { block := g, off := (0 : Nat) } (0 : Nat)) = some (Value.slice q1 k1 k2)) ∧
  ∃ (n3 : Int),
  (∀ (w5 : World),
  h1 w5 → World.cell? w5 (Addr.add { block := g, off := (0 : Nat) } (2 : Nat)) = some (Value.int IntKind.i64 n3)) ∧
  Rets Try.prog (112 : Nat)
  { toList := [Value.pointer (some { block := g, off := (0 : Nat) }), Value.int IntKind.i64 n3] } w3
  fun (v2 : Value) (w6 : World) =>
  ∃ (n4 : Int),
  v2 = Value.int IntKind.i64 n4 ∧
  h1 w6 ∧
  (0 : Int) ≤ n4 ∧
  n4 < (↑k1 : Int) ∧
  someR q1 fun (a1 : Addr) =>
  StoreR (Addr.add a1 (Int.toNat n4 * (1 : Nat))) [Value.int IntKind.i64 x] w6 fun (w7 : World) =>
  ∃ (n5 : Int),
  cellAt w7 (Addr.add { block := g, off := (0 : Nat) } (2 : Nat)) (Value.int IntKind.i64 n5) ∧
  StoreR (Addr.add { block := g, off := (0 : Nat) } (2 : Nat))
  [Value.int IntKind.i64 (IntKind.wrap IntKind.i64 (n5 + (1 : Int)))] w7 fun (w8 : World) => K (Value.bool true) w8)) ∧
  (false = true → K (Value.bool false) w1)
theorem ring_Ring_int_Send_eq (g : Nat) (x : Int) (w : World) (K : Value → World → Prop) : fw Try.prog Try.f65 (annL []) (ordL [(1, [(0, 0), (1, 0), (2, 0), (3, 0), (4, 0), (5, 0), (7, 0), (8, 0), (9, 0), (6, 1), (10, 1), (11, 0), (12, 0)]), (4, [(0, 0), (1, 0), (2, 0), (4, 0), (5, 0), (6, 0), (7, 0), (10, 0), (3, 1), (8, 1), (9, 2), (11, 0), (12, 3)])]) [.pointer (some ⟨g, 0, none⟩), .int .i64 x] w K = ring_Ring_int_Send_m g x w K := by kernel_rfl
theorem ring_Ring_int_Send_go (g : Nat) (x : Int) {w : World} {K : Value → World → Prop} (h : ring_Ring_int_Send_m g x w K) : Rets Try.prog 65 #[.pointer (some ⟨g, 0, none⟩), .int .i64 x] w K :=
  calls_of_fw plain mixed Try.func65 (by kernel_rfl) (by rw [ring_Ring_int_Send_eq]; exact h)
def ring_nil_int_Send_m (x : Int) (w : World) (K : Value → World → Prop) : Prop :=
  Drw w fun (w1 : World) => (true = false → False) ∧ (true = true → K (Value.bool false) w1)
theorem ring_nil_int_Send_eq (x : Int) (w : World) (K : Value → World → Prop) : fw Try.prog Try.f65 (annL []) (ordL [(1, [(0, 0), (1, 0), (2, 0), (3, 0), (4, 0), (5, 0), (7, 0), (8, 0), (9, 0), (6, 1), (10, 1), (11, 0), (12, 0)]), (4, [(0, 0), (1, 0), (2, 0), (4, 0), (5, 0), (6, 0), (7, 0), (10, 0), (3, 1), (8, 1), (9, 2), (11, 0), (12, 3)])]) [.pointer none, .int .i64 x] w K = ring_nil_int_Send_m x w K := by kernel_rfl
theorem ring_nil_int_Send_go (x : Int) {w : World} {K : Value → World → Prop} (h : ring_nil_int_Send_m x w K) : Rets Try.prog 65 #[.pointer none, .int .i64 x] w K :=
  calls_of_fw plain mixed Try.func65 (by kernel_rfl) (by rw [ring_nil_int_Send_eq]; exact h)
def ring_Ring_int_Take_m (g : Nat) (w : World) (K : Value → World → Prop) : Prop :=
  (false = false →
  ∃ (n1 : Int),
  cellAt w (Addr.add { block := g, off := (0 : Nat) } (2 : Nat)) (Value.int IntKind.i64 n1) ∧
  ((n1 == (0 : Int)) = true → K (Value.tuple { toList := [Value.int IntKind.i64 (0 : Int), Value.bool false] }) w) ∧
  ((n1 == (0 : Int)) = false →
  Drw w fun (w1 : World) =>
  ∃ (q1 : Option Addr),
  ∃ (k1 : Nat),
  ∃ (k2 : Nat),
  cellAt w1 (Addr.add { block := g, off := (0 : Nat) } (0 : Nat)) (Value.slice q1 k1 k2) ∧
  ∃ (n2 : Int),
  cellAt w1 (Addr.add { block := g, off := (0 : Nat) } (1 : Nat)) (Value.int IntKind.i64 n2) ∧
  ∃ (q2 : Option Addr),
  ∃ (k3 : Nat),
  ∃ (k4 : Nat),
  cellAt w1 (Addr.add { block := g, off := (0 : Nat) } (0 : Nat)) (Value.slice q2 k3 k4) ∧
  ∃ (n3 : Int),
  cellAt w1 (Addr.add { block := g, off := (0 : Nat) } (1 : Nat)) (Value.int IntKind.i64 n3) ∧
  (0 : Int) ≤ n3 ∧
  n3 < (↑k3 : Int) ∧
  someR q2 fun (a1 : Addr) =>
  ∃ (n4 : Int),
  cellAt w1 (Addr.add a1 (Int.toNat n3 * (1 : Nat))) (Value.int IntKind.i64 n4) ∧
  (0 : Int) ≤ n2 ∧
  n2 < (↑k1 : Int) ∧
  someR q1 fun (a2 : Addr) =>
  StoreR (Addr.add a2 (Int.toNat n2 * (1 : Nat))) [Value.int IntKind.i64 (0 : Int)] w1 fun (w2 : World) =>
  Drw w2 fun (w3 : World) =>
  ∃ (h1 : World → Prop),
  h1 w3 ∧
  ∃ (n5 : Int),
  (∀ (w4 : World),
  h1 w4 → World.cell? w4 (Addr.add { block := g, off := (0 : Nat) } (2 : Nat)) = some (Value.int IntKind.i64 n5)) ∧
  Rets Try.prog (112 : Nat)
  { toList := [Value.pointer (some { block := g, off := (0 : Nat) }), Value.int IntKind.i64 (1 : Int)] } w3
  fun (v1 : Value) (w5 : World) =>
  ∃ (n6 : Int),
  v1 = Value.int IntKind.i64 n6 ∧
  h1 w5 ∧
  StoreR (Addr.add { block := g, off := (0 : Nat) } (1 : Nat)) [Value.int IntKind.i64 n6] w5 fun (w6 : World) =>
  StoreR (Addr.add { block := g, off := (0 : Nat) } (2 : Nat))
  [Value.int IntKind.i64 (IntKind.wrap IntKind.i64 (n5 - (1 : Int)))] w6 fun (w7 : World) =>
  K (Value.tuple { toList := [Value.int IntKind.i64 n4, Value.bool true] }) w7)) ∧
  (false = true → K (Value.tuple { toList := [Value.int IntKind.i64 (0 : Int), Value.bool false] }) w)
theorem ring_Ring_int_Take_eq (g : Nat) (w : World) (K : Value → World → Prop) : fw Try.prog Try.f67 (annL []) (ordL [(4, [(0, 0), (1, 0), (2, 0), (4, 0), (5, 0), (6, 0), (8, 0), (9, 0), (10, 0), (12, 0), (13, 0), (14, 0), (18, 0), (3, 1), (7, 1), (11, 1), (15, 1), (16, 0), (17, 1), (19, 0), (20, 0), (21, 3)]), (5, [(0, 0), (1, 0), (2, 0), (4, 0), (5, 0), (6, 0), (7, 1), (8, 0), (3, 2), (9, 0), (10, 0), (11, 3), (12, 0), (13, 0), (14, 3)])]) [.pointer (some ⟨g, 0, none⟩)] w K = ring_Ring_int_Take_m g w K := by kernel_rfl
theorem ring_Ring_int_Take_go (g : Nat) {w : World} {K : Value → World → Prop} (h : ring_Ring_int_Take_m g w K) : Rets Try.prog 67 #[.pointer (some ⟨g, 0, none⟩)] w K :=
  calls_of_fw plain mixed Try.func67 (by kernel_rfl) (by rw [ring_Ring_int_Take_eq]; exact h)
def ring_nil_int_Take_m  (w : World) (K : Value → World → Prop) : Prop :=
  (true = false → False) ∧
  (true = true → K (Value.tuple { toList := [Value.int IntKind.i64 (0 : Int), Value.bool false] }) w)
theorem ring_nil_int_Take_eq  (w : World) (K : Value → World → Prop) : fw Try.prog Try.f67 (annL []) (ordL [(4, [(0, 0), (1, 0), (2, 0), (4, 0), (5, 0), (6, 0), (8, 0), (9, 0), (10, 0), (12, 0), (13, 0), (14, 0), (18, 0), (3, 1), (7, 1), (11, 1), (15, 1), (16, 0), (17, 1), (19, 0), (20, 0), (21, 3)]), (5, [(0, 0), (1, 0), (2, 0), (4, 0), (5, 0), (6, 0), (7, 1), (8, 0), (3, 2), (9, 0), (10, 0), (11, 3), (12, 0), (13, 0), (14, 3)])]) [.pointer none] w K = ring_nil_int_Take_m  w K := by kernel_rfl
theorem ring_nil_int_Take_go  {w : World} {K : Value → World → Prop} (h : ring_nil_int_Take_m  w K) : Rets Try.prog 67 #[.pointer none] w K :=
  calls_of_fw plain mixed Try.func67 (by kernel_rfl) (by rw [ring_nil_int_Take_eq]; exact h)
def ring_Ring_int_Drain_m (q : Option Addr) (w : World) (K : Value → World → Prop) : Prop :=
  NewR (82 : Nat) [Value.pointer q] w fun (a1 : Addr) (w1 : World) =>
  K (Value.func (Fn.func (127 : Nat)) { toList := [] } { toList := [Value.pointer (some a1)] }) w1
theorem ring_Ring_int_Drain_eq (q : Option Addr) (w : World) (K : Value → World → Prop) : fw Try.prog Try.f113 (annL []) (ordL []) [.pointer q] w K = ring_Ring_int_Drain_m q w K := by kernel_rfl
theorem ring_Ring_int_Drain_go (q : Option Addr) {w : World} {K : Value → World → Prop} (h : ring_Ring_int_Drain_m q w K) : Rets Try.prog 113 #[.pointer q] w K :=
  calls_of_fw plain mixed Try.func113 (by kernel_rfl) (by rw [ring_Ring_int_Drain_eq]; exact h)
def ring_Ring_int_Drain_1_m (l b : Nat) (w : World) (K : Value → World → Prop) : Prop :=
  ∃ (h1 : Nat → List Value → World → Prop),
  (∃ (k1 : Nat), h1 k1 [] w) ∧
  ∀ (k2 : Nat) (w1 : World) (v1 v2 v3 v4 v5 v6 v7 v8 v9 v10 v11 v12 v13 v14 v15 : Value),
  h1 k2 [] w1 →
  ∃ (q1 : Option Addr),
  cellAt w1 { block := b, off := (0 : Nat) } (Value.pointer q1) ∧
  Rets Try.prog (67 : Nat) { toList := [Value.pointer q1] } w1 fun (v16 : Value) (w2 : World) =>
  ∃ (n1 : Int),
  ∃ (b1 : Bool),
  v16 = Value.tuple { toList := [Value.int IntKind.i64 n1, Value.bool b1] } ∧
  ((!b1) = false →
  RoundR Try.prog l { toList := [Value.int IntKind.i64 n1] } w2 fun (v17 : Value) (w3 : World) =>
  ∃ (b2 : Bool),
  v17 = Value.bool b2 ∧
  ((!b2) = true → K (Value.tuple { toList := [] }) w3) ∧ ((!b2) = false → ∃ (k3 : Nat), k3 < k2 ∧ h1 k3 [] w3)) ∧
  ((!b1) = true → K (Value.tuple { toList := [] }) w2)
theorem ring_Ring_int_Drain_1_eq (l b : Nat) (w : World) (K : Value → World → Prop) : fw Try.prog Try.f127 (annL [(1, [(3, none), (4, none), (5, none), (6, none), (7, none), (8, none), (9, none), (10, none), (11, none), (12, none), (13, none), (14, none), (15, none), (16, none), (17, none)])]) (ordL []) [.func (.yield l) #[] #[], .pointer (some ⟨b, 0, none⟩)] w K = ring_Ring_int_Drain_1_m l b w K := by kernel_rfl
theorem ring_Ring_int_Drain_1_go (l b : Nat) {w : World} {K : Value → World → Prop} (h : ring_Ring_int_Drain_1_m l b w K) : Rets Try.prog 127 #[.func (.yield l) #[] #[], .pointer (some ⟨b, 0, none⟩)] w K :=
  calls_of_fw plain mixed Try.func127 (by kernel_rfl) (by rw [ring_Ring_int_Drain_1_eq]; exact h)
end Go.Proofs.Ytfcddffcjmgpkaa.Eng
