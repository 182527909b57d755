/- What the code of these functions asks for: printed by a program of this session's (gens.py) out of the seat's own functions; the kernel checks each row. -/
import Derived.Test.YtmenjjofmafacaaEngH
import Derived.Test.YtmenjjofmafacaaProg
import Derived.Test.YtmenjjofmafacaaBase
namespace Go.Proofs.Ytmenjjofmafacaa.Eng
open Go Go.Proofs
set_option linter.unusedVariables false
set_option maxRecDepth 1000000
def event_Known_m (c : Int) (w : World) (K : Value → World → Prop) : Prop :=
  (decide (c ≥ (1 : Int)) = true → K (Value.bool (decide (c ≤ (6 : Int)))) w) ∧
  (decide (c ≥ (1 : Int)) = false → K (Value.bool false) w)
theorem event_Known_eq (c : Int) (w : World) (K : Value → World → Prop) : fw Try.prog Try.f33 (annL []) (ordL []) [.int .i64 c] w K = event_Known_m c w K := by kernel_rfl
theorem event_Known_go (c : Int) {w : World} {K : Value → World → Prop} (h : event_Known_m c w K) : Rets Try.prog 33 #[.int .i64 c] w K :=
  calls_of_fw plain mixed Try.func33 (by kernel_rfl) (by rw [event_Known_eq]; exact h)
def event_Removes_m (c : Int) (w : World) (K : Value → World → Prop) : Prop :=
  Rets Try.prog (33 : Nat) { toList := [Value.int IntKind.i64 c] } w fun (v1 : Value) (w1 : World) =>
  ∃ (b1 : Bool),
  v1 = Value.bool b1 ∧ (b1 = true → K (Value.bool (c != (6 : Int))) w1) ∧ (b1 = false → K (Value.bool false) w1)
theorem event_Removes_eq (c : Int) (w : World) (K : Value → World → Prop) : fw Try.prog Try.f59 (annL []) (ordL []) [.int .i64 c] w K = event_Removes_m c w K := by kernel_rfl
theorem event_Removes_go (c : Int) {w : World} {K : Value → World → Prop} (h : event_Removes_m c w K) : Rets Try.prog 59 #[.int .i64 c] w K :=
  calls_of_fw plain mixed Try.func59 (by kernel_rfl) (by rw [event_Removes_eq]; exact h)
def event_Name_m (c : Int) (w : World) (K : Value → World → Prop) : Prop :=
  Rets Try.prog (33 : Nat) { toList := [Value.int IntKind.i64 c] } w fun (v1 : Value) (w1 : World) =>
  ∃ (b1 : Bool),
  v1 = Value.bool b1 ∧
  ((!b1) = true → K (Value.string { data := #[] }) w1) ∧
  ((!b1) = false →
  (0 : Int) ≤ IntKind.wrap IntKind.i64 (c - (1 : Int)) ∧
  IntKind.wrap IntKind.i64 (c - (1 : Int)) < (↑(6 : Nat) : Int) ∧
  match
  List.get?Internal
  (Array.toList
  {
  toList :=
  [Value.string { data := #[(101 : UInt8), (118 : UInt8), (105 : UInt8), (99 : UInt8), (116 : UInt8)] },
  Value.string { data := #[(101 : UInt8), (120 : UInt8), (112 : UInt8), (105 : UInt8), (114 : UInt8), (101 : UInt8)] },
  Value.string { data := #[(100 : UInt8), (101 : UInt8), (108 : UInt8)] },
  Value.string { data := #[(99 : UInt8), (108 : UInt8), (101 : UInt8), (97 : UInt8), (114 : UInt8)] },
  Value.string { data := #[(99 : UInt8), (108 : UInt8), (111 : UInt8), (115 : UInt8), (101 : UInt8)] },
  Value.string { data := #[(114 : UInt8), (101 : UInt8), (106 : UInt8), (101 : UInt8), (99 : UInt8), (116 : UInt8)] }] })
  (Int.toNat (IntKind.wrap IntKind.i64 (c - (1 : Int))) *
  (fun (i : TypeInfo) => TypeInfo.size i) (Tables.types (Program.toTables Try.prog))[(9 : Nat)]) with
  | some v2 => K v2 w1
  | none => False)
theorem event_Name_eq (c : Int) (w : World) (K : Value → World → Prop) : fw Try.prog Try.f58 (annL []) (ordL []) [.int .i64 c] w K = event_Name_m c w K := by kernel_rfl
theorem event_Name_go (c : Int) {w : World} {K : Value → World → Prop} (h : event_Name_m c w K) : Rets Try.prog 58 #[.int .i64 c] w K :=
  calls_of_fw plain mixed Try.func58 (by kernel_rfl) (by rw [event_Name_eq]; exact h)
def slices_Index_int_int_m (q : Option Addr) (l c : Nat) (x : Int) (w : World) (K : Value → World → Prop) : Prop :=
  ∃ (h1 : Nat → List Value → World → Prop),
  (∃ (k1 : Nat), h1 k1 [Value.int IntKind.i64 (0 : Int)] w) ∧
  ∀ (k2 : Nat) (w1 : World) (v1 v2 : Value) (n1 : Int) (v3 v4 v5 v6 v7 v8 v9 v10 v11 v12 : Value),
  h1 k2 [Value.int IntKind.i64 n1] w1 →
  (decide (n1 < (↑l : Int)) = true →
  (0 : Int) ≤ n1 ∧
  n1 < (↑l : Int) ∧
  someR q fun (a1 : Addr) =>
  ∃ (n2 : Int),
  cellAt w1 (Addr.add a1 (Int.toNat n1 * (1 : Nat))) (Value.int IntKind.i64 n2) ∧
  ((x == n2) = true → K (Value.int IntKind.i64 n1) w1) ∧
  ((x == n2) = false →
  ∃ (k3 : Nat), k3 < k2 ∧ h1 k3 [Value.int IntKind.i64 (IntKind.wrap IntKind.i64 (n1 + (1 : Int)))] w1)) ∧
  (decide (n1 < (↑l : Int)) = false → K (Value.int IntKind.i64 (-1 : Int)) w1)
theorem slices_Index_int_int_eq (q : Option Addr) (l c : Nat) (x : Int) (w : World) (K : Value → World → Prop) : fw Try.prog Try.f83 (annL [(1, [(4, none), (5, none), (8, some 3), (9, none), (10, none), (11, none), (12, none), (13, none), (14, none), (15, none), (16, none), (17, none), (18, none)])]) (ordL []) [.slice q l c, .int .i64 x] w K = slices_Index_int_int_m q l c x w K := by kernel_rfl
theorem slices_Index_int_int_go (q : Option Addr) (l c : Nat) (x : Int) {w : World} {K : Value → World → Prop} (h : slices_Index_int_int_m q l c x w K) : Rets Try.prog 83 #[.slice q l c, .int .i64 x] w K :=
  calls_of_fw plain mixed Try.func83 (by kernel_rfl) (by rw [slices_Index_int_int_eq]; exact h)
def slices_Contains_int_int_m (q : Option Addr) (l c : Nat) (x : Int) (w : World) (K : Value → World → Prop) : Prop :=
  Rets Try.prog (83 : Nat) { toList := [Value.slice q l c, Value.int IntKind.i64 x] } w fun (v1 : Value) (w1 : World) =>
  ∃ (n1 : Int), v1 = Value.int IntKind.i64 n1 ∧ K (Value.bool (decide (n1 ≥ (0 : Int)))) w1
theorem slices_Contains_int_int_eq (q : Option Addr) (l c : Nat) (x : Int) (w : World) (K : Value → World → Prop) : fw Try.prog Try.f71 (annL []) (ordL []) [.slice q l c, .int .i64 x] w K = slices_Contains_int_int_m q l c x w K := by kernel_rfl
theorem slices_Contains_int_int_go (q : Option Addr) (l c : Nat) (x : Int) {w : World} {K : Value → World → Prop} (h : slices_Contains_int_int_m q l c x w K) : Rets Try.prog 71 #[.slice q l c, .int .i64 x] w K :=
  calls_of_fw plain mixed Try.func71 (by kernel_rfl) (by rw [slices_Contains_int_int_eq]; exact h)
def event_New_int_m  (w : World) (K : Value → World → Prop) : Prop :=
  NewR (113 : Nat)
  [Value.slice none (0 : Nat) (0 : Nat), Value.int IntKind.i64 (0 : Int), Value.int IntKind.i64 (0 : Int),
  Value.int IntKind.i64 (0 : Int), Value.int IntKind.i64 (0 : Int), Value.int IntKind.i64 (0 : Int),
  Value.int IntKind.i64 (0 : Int), Value.int IntKind.i64 (0 : Int)]
  w fun (a1 : Addr) (w1 : World) => K (Value.pointer (some a1)) w1
theorem event_New_int_eq  (w : World) (K : Value → World → Prop) : fw Try.prog Try.f55 (annL []) (ordL []) [] w K = event_New_int_m  w K := by kernel_rfl
theorem event_New_int_go  {w : World} {K : Value → World → Prop} (h : event_New_int_m  w K) : Rets Try.prog 55 #[] w K :=
  calls_of_fw plain mixed Try.func55 (by kernel_rfl) (by rw [event_New_int_eq]; exact h)
def event_Log_int_Add_m (g : Nat) (c hs cf : Int) (v : Int) (i : Int) (w : World) (K : Value → World → Prop) : Prop :=
  NewR (61 : Nat)
  [Value.int IntKind.i64 c, Value.int IntKind.u64 hs, Value.int IntKind.u64 cf, Value.int IntKind.i64 v,
  Value.int IntKind.i64 i]
  w fun (a1 : Addr) (w1 : World) =>
  (false = false →
  ∃ (n1 : Int),
  cellAt w1 (Addr.add a1 (0 : Nat)) (Value.int IntKind.i64 n1) ∧
  Rets Try.prog (33 : Nat) { toList := [Value.int IntKind.i64 n1] } w1 fun (v1 : Value) (w2 : World) =>
  ∃ (b1 : Bool),
  v1 = Value.bool b1 ∧
  ((!b1) = true → K (Value.bool false) w2) ∧
  ((!b1) = false →
  Drw w2 fun (w3 : World) =>
  ∃ (h1 : World → Prop),
  h1 w3 ∧
  ∃ (q1 : Option Addr),
  ∃ (k1 : Nat),
  ∃ (k2 : Nat),
  (∀ (w4 : World),
  h1 w4 → World.cell? w4 (Addr.add { block := g, off := (0 : Nat) } (0 : Nat)) = some (Value.slice q1 k1 k2)) ∧
  ∃ (n2 : Int),
  ∃ (n3 : Int),
  ∃ (n4 : Int),
  ∃ (n5 : Int),
  ∃ (n6 : Int),
  ((∀ (w5 : World), h1 w5 → World.cell? w5 (Addr.add a1 (0 : Nat)) = some (Value.int IntKind.i64 n2)) ∧
  (∀ (w6 : World), h1 w6 → World.cell? w6 (Addr.add a1 ((0 : Nat) + (1 : Nat))) = some (Value.int IntKind.u64 n3)) ∧
  (∀ (w7 : World),
  h1 w7 → World.cell? w7 (Addr.add a1 ((0 : Nat) + (1 : Nat) + (1 : Nat))) = some (Value.int IntKind.u64 n4)) ∧
  (∀ (w8 : World),
  h1 w8 →
  World.cell? w8 (Addr.add a1 ((0 : Nat) + (1 : Nat) + (1 : Nat) + (1 : Nat))) = some (Value.int IntKind.i64 n5)) ∧
  ∀ (w9 : World),
  h1 w9 →
  World.cell? w9 (Addr.add a1 ((0 : Nat) + (1 : Nat) + (1 : Nat) + (1 : Nat) + (1 : Nat))) =
  some (Value.int IntKind.i64 n6)) ∧
  NewR (61 : Nat)
  [Value.int IntKind.i64 n2, Value.int IntKind.u64 n3, Value.int IntKind.u64 n4, Value.int IntKind.i64 n5,
  Value.int IntKind.i64 n6]
  w3 fun (a2 : Addr) (w10 : World) =>
  h1 w10 ∧
  RunR Try.prog
  (builtinV Builtin.append { toList := [(111 : Nat), (111 : Nat)] } (nat_lit 111)
  { toList := [Value.slice q1 k1 k2, Value.slice (some a2) (1 : Nat) (1 : Nat)] })
  w10 fun (v2 : Value) (w11 : World) =>
  ∃ (q2 : Option Addr),
  ∃ (k3 : Nat),
  ∃ (k4 : Nat),
  v2 = Value.slice q2 k3 k4 ∧
  StoreR (Addr.add { block := g, off := (0 : Nat) } (0 : Nat)) [Value.slice q2 k3 k4] w11 fun (w12 : World) =>
  Drw w12 fun (w13 : World) =>
  ∃ (n7 : Int),
  cellAt w13 (Addr.add a1 (0 : Nat)) (Value.int IntKind.i64 n7) ∧
  (0 : Int) ≤ n7 ∧
  n7 < (↑(7 : Nat) : Int) ∧
  ∃ (n8 : Int),
  cellAt w13 (Addr.add (Addr.add { block := g, off := (0 : Nat) } (1 : Nat)) (Int.toNat n7 * (1 : Nat)))
  (Value.int IntKind.i64 n8) ∧
  (0 : Int) ≤ n7 ∧
  n7 < (↑(7 : Nat) : Int) ∧
  StoreR (Addr.add (Addr.add { block := g, off := (0 : Nat) } (1 : Nat)) (Int.toNat n7 * (1 : Nat)))
  [Value.int IntKind.i64 (IntKind.wrap IntKind.i64 (n8 + (1 : Int)))] w13 fun (w14 : World) => K (Value.bool true) w14)) ∧
  (false = true → K (Value.bool false) w1)
theorem event_Log_int_Add_eq (g : Nat) (c hs cf : Int) (v : Int) (i : Int) (w : World) (K : Value → World → Prop) : fw Try.prog Try.f35 (annL []) (ordL [(3, [(0, 0), (1, 0), (2, 0), (3, 0), (4, 1), (5, 1), (6, 2), (7, 3), (8, 0), (9, 0), (10, 3)]), (4, [(0, 0), (1, 0), (3, 0), (4, 0), (8, 0), (9, 0), (2, 1), (5, 0), (6, 1), (7, 0), (10, 0), (11, 3)])]) [.pointer (some ⟨g, 0, none⟩), .agg #[.int .i64 c, .int .u64 hs, .int .u64 cf, .int .i64 v, .int .i64 i]] w K = event_Log_int_Add_m g c hs cf v i w K := by kernel_rfl
theorem event_Log_int_Add_go (g : Nat) (c hs cf : Int) (v : Int) (i : Int) {w : World} {K : Value → World → Prop} (h : event_Log_int_Add_m g c hs cf v i w K) : Rets Try.prog 35 #[.pointer (some ⟨g, 0, none⟩), .agg #[.int .i64 c, .int .u64 hs, .int .u64 cf, .int .i64 v, .int .i64 i]] w K :=
  calls_of_fw plain mixed Try.func35 (by kernel_rfl) (by rw [event_Log_int_Add_eq]; exact h)
def event_nil_int_Add_m (c hs cf : Int) (v : Int) (i : Int) (w : World) (K : Value → World → Prop) : Prop :=
  NewR (61 : Nat)
  [Value.int IntKind.i64 c, Value.int IntKind.u64 hs, Value.int IntKind.u64 cf, Value.int IntKind.i64 v,
  Value.int IntKind.i64 i]
  w fun (a1 : Addr) (w1 : World) =>
  (true = false →
  ∃ (n1 : Int),
  cellAt w1 (Addr.add a1 (0 : Nat)) (Value.int IntKind.i64 n1) ∧
  Rets Try.prog (33 : Nat) { toList := [Value.int IntKind.i64 n1] } w1 fun (v1 : Value) (w2 : World) =>
  ∃ (b1 : Bool),
  v1 = Value.bool b1 ∧
  ((!b1) = true → K (Value.bool false) w2) ∧
  ((!b1) = false → Drw w2 fun (w3 : World) => ∃ (h1 : World → Prop), h1 w3 ∧ False)) ∧
  (true = true → K (Value.bool false) w1)
theorem event_nil_int_Add_eq (c hs cf : Int) (v : Int) (i : Int) (w : World) (K : Value → World → Prop) : fw Try.prog Try.f35 (annL []) (ordL [(3, [(0, 0), (1, 0), (2, 0), (3, 0), (4, 1), (5, 1), (6, 2), (7, 3), (8, 0), (9, 0), (10, 3)]), (4, [(0, 0), (1, 0), (3, 0), (4, 0), (8, 0), (9, 0), (2, 1), (5, 0), (6, 1), (7, 0), (10, 0), (11, 3)])]) [.pointer none, .agg #[.int .i64 c, .int .u64 hs, .int .u64 cf, .int .i64 v, .int .i64 i]] w K = event_nil_int_Add_m c hs cf v i w K := by kernel_rfl
theorem event_nil_int_Add_go (c hs cf : Int) (v : Int) (i : Int) {w : World} {K : Value → World → Prop} (h : event_nil_int_Add_m c hs cf v i w K) : Rets Try.prog 35 #[.pointer none, .agg #[.int .i64 c, .int .u64 hs, .int .u64 cf, .int .i64 v, .int .i64 i]] w K :=
  calls_of_fw plain mixed Try.func35 (by kernel_rfl) (by rw [event_nil_int_Add_eq]; exact h)
def event_Log_int_Len_m (g : Nat) (w : World) (K : Value → World → Prop) : Prop :=
  (false = true → K (Value.int IntKind.i64 (0 : Int)) w) ∧
  (false = false →
  ∃ (q1 : Option Addr),
  ∃ (k1 : Nat),
  ∃ (k2 : Nat),
  cellAt w (Addr.add { block := g, off := (0 : Nat) } (0 : Nat)) (Value.slice q1 k1 k2) ∧
  K (Value.int IntKind.i64 (↑k1 : Int)) w)
theorem event_Log_int_Len_eq (g : Nat) (w : World) (K : Value → World → Prop) : fw Try.prog Try.f36 (annL []) (ordL []) [.pointer (some ⟨g, 0, none⟩)] w K = event_Log_int_Len_m g w K := by kernel_rfl
theorem event_Log_int_Len_go (g : Nat) {w : World} {K : Value → World → Prop} (h : event_Log_int_Len_m g w K) : Rets Try.prog 36 #[.pointer (some ⟨g, 0, none⟩)] w K :=
  calls_of_fw plain mixed Try.func36 (by kernel_rfl) (by rw [event_Log_int_Len_eq]; exact h)
def event_nil_int_Len_m  (w : World) (K : Value → World → Prop) : Prop :=
  (true = true → K (Value.int IntKind.i64 (0 : Int)) w) ∧ (true = false → False)
theorem event_nil_int_Len_eq  (w : World) (K : Value → World → Prop) : fw Try.prog Try.f36 (annL []) (ordL []) [.pointer none] w K = event_nil_int_Len_m  w K := by kernel_rfl
theorem event_nil_int_Len_go  {w : World} {K : Value → World → Prop} (h : event_nil_int_Len_m  w K) : Rets Try.prog 36 #[.pointer none] w K :=
  calls_of_fw plain mixed Try.func36 (by kernel_rfl) (by rw [event_nil_int_Len_eq]; exact h)
def event_Log_int_At_m (g : Nat) (i : Int) (w : World) (K : Value → World → Prop) : Prop :=
  NewR (61 : Nat)
  [Value.int IntKind.i64 (0 : Int), Value.int IntKind.u64 (0 : Int), Value.int IntKind.u64 (0 : Int),
  Value.int IntKind.i64 (0 : Int), Value.int IntKind.i64 (0 : Int)]
  w fun (a1 : Addr) (w1 : World) =>
  (decide (i < (0 : Int)) = false →
  Rets Try.prog (36 : Nat) { toList := [Value.pointer (some { block := g, off := (0 : Nat) })] } w1
  fun (v1 : Value) (w2 : World) =>
  ∃ (n1 : Int),
  v1 = Value.int IntKind.i64 n1 ∧
  (decide (i ≥ n1) = true →
  ∃ (n2 : Int),
  ∃ (n3 : Int),
  ∃ (n4 : Int),
  ∃ (n5 : Int),
  ∃ (n6 : Int),
  (cellAt w2 (Addr.add a1 (0 : Nat)) (Value.int IntKind.i64 n2) ∧
  cellAt w2 (Addr.add a1 (1 : Nat)) (Value.int IntKind.u64 n3) ∧
  cellAt w2 (Addr.add a1 (2 : Nat)) (Value.int IntKind.u64 n4) ∧
  cellAt w2 (Addr.add a1 (3 : Nat)) (Value.int IntKind.i64 n5) ∧
  cellAt w2 (Addr.add a1 (4 : Nat)) (Value.int IntKind.i64 n6)) ∧
  StoreR a1
  [Value.int IntKind.i64 n2, Value.int IntKind.u64 n3, Value.int IntKind.u64 n4, Value.int IntKind.i64 n5,
  Value.int IntKind.i64 n6]
  w2 fun (w3 : World) =>
  ∃ (n7 : Int),
  ∃ (n8 : Int),
  ∃ (n9 : Int),
  ∃ (n10 : Int),
  ∃ (n11 : Int),
  (cellAt w3 (Addr.add a1 (0 : Nat)) (Value.int IntKind.i64 n7) ∧
  cellAt w3 (Addr.add a1 (1 : Nat)) (Value.int IntKind.u64 n8) ∧
  cellAt w3 (Addr.add a1 (2 : Nat)) (Value.int IntKind.u64 n9) ∧
  cellAt w3 (Addr.add a1 (3 : Nat)) (Value.int IntKind.i64 n10) ∧
  cellAt w3 (Addr.add a1 (4 : Nat)) (Value.int IntKind.i64 n11)) ∧
  K
  (Value.tuple
  {
  toList :=
  [Value.agg
  {
  toList :=
  [Value.int IntKind.i64 n7, Value.int IntKind.u64 n8, Value.int IntKind.u64 n9, Value.int IntKind.i64 n10,
  Value.int IntKind.i64 n11] },
  Value.bool false] })
  w3) ∧
  (decide (i ≥ n1) = false →
  ∃ (q1 : Option Addr),
  ∃ (k1 : Nat),
  ∃ (k2 : Nat),
  cellAt w2 (Addr.add { block := g, off := (0 : Nat) } (0 : Nat)) (Value.slice q1 k1 k2) ∧
  (0 : Int) ≤ i ∧
  i < (↑k1 : Int) ∧
  someR q1 fun (a2 : Addr) =>
  ∃ (n12 : Int),
  ∃ (n13 : Int),
  ∃ (n14 : Int),
  ∃ (n15 : Int),
  ∃ (n16 : Int),
  (cellAt w2 (Addr.add (Addr.add a2 (Int.toNat i * (5 : Nat))) (0 : Nat)) (Value.int IntKind.i64 n12) ∧
  cellAt w2 (Addr.add (Addr.add a2 (Int.toNat i * (5 : Nat))) (1 : Nat)) (Value.int IntKind.u64 n13) ∧
  cellAt w2 (Addr.add (Addr.add a2 (Int.toNat i * (5 : Nat))) (2 : Nat)) (Value.int IntKind.u64 n14) ∧
  cellAt w2 (Addr.add (Addr.add a2 (Int.toNat i * (5 : Nat))) (3 : Nat)) (Value.int IntKind.i64 n15) ∧
  cellAt w2 (Addr.add (Addr.add a2 (Int.toNat i * (5 : Nat))) (4 : Nat)) (Value.int IntKind.i64 n16)) ∧
  StoreR a1
  [Value.int IntKind.i64 n12, Value.int IntKind.u64 n13, Value.int IntKind.u64 n14, Value.int IntKind.i64 n15,
  Value.int IntKind.i64 n16]
  w2 fun (w4 : World) =>
  ∃ (n17 : Int),
  ∃ (n18 : Int),
  ∃ (n19 : Int),
  ∃ (n20 : Int),
  ∃ (n21 : Int),
  (cellAt w4 (Addr.add a1 (0 : Nat)) (Value.int IntKind.i64 n17) ∧
  cellAt w4 (Addr.add a1 (1 : Nat)) (Value.int IntKind.u64 n18) ∧
  cellAt w4 (Addr.add a1 (2 : Nat)) (Value.int IntKind.u64 n19) ∧
  cellAt w4 (Addr.add a1 (3 : Nat)) (Value.int IntKind.i64 n20) ∧
  cellAt w4 (Addr.add a1 (4 : Nat)) (Value.int IntKind.i64 n21)) ∧
  K
  (Value.tuple
  {
  toList :=
  [Value.agg
  {
  toList :=
  [Value.int IntKind.i64 n17, Value.int IntKind.u64 n18, Value.int IntKind.u64 n19, Value.int IntKind.i64 n20,
  Value.int IntKind.i64 n21] },
  Value.bool true] })
  w4)) ∧
  (decide (i < (0 : Int)) = true →
  ∃ (n22 : Int),
  ∃ (n23 : Int),
  ∃ (n24 : Int),
  ∃ (n25 : Int),
  ∃ (n26 : Int),
  (cellAt w1 (Addr.add a1 (0 : Nat)) (Value.int IntKind.i64 n22) ∧
  cellAt w1 (Addr.add a1 (1 : Nat)) (Value.int IntKind.u64 n23) ∧
  cellAt w1 (Addr.add a1 (2 : Nat)) (Value.int IntKind.u64 n24) ∧
  cellAt w1 (Addr.add a1 (3 : Nat)) (Value.int IntKind.i64 n25) ∧
  cellAt w1 (Addr.add a1 (4 : Nat)) (Value.int IntKind.i64 n26)) ∧
  StoreR a1
  [Value.int IntKind.i64 n22, Value.int IntKind.u64 n23, Value.int IntKind.u64 n24, Value.int IntKind.i64 n25,
  Value.int IntKind.i64 n26]
  w1 fun (w5 : World) =>
  ∃ (n27 : Int),
  ∃ (n28 : Int),
  ∃ (n29 : Int),
  ∃ (n30 : Int),
  ∃ (n31 : Int),
  (cellAt w5 (Addr.add a1 (0 : Nat)) (Value.int IntKind.i64 n27) ∧
  cellAt w5 (Addr.add a1 (1 : Nat)) (Value.int IntKind.u64 n28) ∧
  cellAt w5 (Addr.add a1 (2 : Nat)) (Value.int IntKind.u64 n29) ∧
  cellAt w5 (Addr.add a1 (3 : Nat)) (Value.int IntKind.i64 n30) ∧
  cellAt w5 (Addr.add a1 (4 : Nat)) (Value.int IntKind.i64 n31)) ∧
  K
  (Value.tuple
  {
  toList :=
  [Value.agg
  {
  toList :=
  [Value.int IntKind.i64 n27, Value.int IntKind.u64 n28, Value.int IntKind.u64 n29, Value.int IntKind.i64 n30,
  Value.int IntKind.i64 n31] },
  Value.bool false] })
  w5)
theorem event_Log_int_At_eq (g : Nat) (i : Int) (w : World) (K : Value → World → Prop) : fw Try.prog Try.f34 (annL []) (ordL []) [.pointer (some ⟨g, 0, none⟩), .int .i64 i] w K = event_Log_int_At_m g i w K := by kernel_rfl
theorem event_Log_int_At_go (g : Nat) (i : Int) {w : World} {K : Value → World → Prop} (h : event_Log_int_At_m g i w K) : Rets Try.prog 34 #[.pointer (some ⟨g, 0, none⟩), .int .i64 i] w K :=
  calls_of_fw plain mixed Try.func34 (by kernel_rfl) (by rw [event_Log_int_At_eq]; exact h)
def event_nil_int_At_m (i : Int) (w : World) (K : Value → World → Prop) : Prop :=
  NewR (61 : Nat)
  [Value.int IntKind.i64 (0 : Int), Value.int IntKind.u64 (0 : Int), Value.int IntKind.u64 (0 : Int),
  Value.int IntKind.i64 (0 : Int), Value.int IntKind.i64 (0 : Int)]
  w fun (a1 : Addr) (w1 : World) =>
  (decide (i < (0 : Int)) = false →
  Rets Try.prog (36 : Nat) { toList := [Value.pointer none] } w1 fun (v1 : Value) (w2 : World) =>
  ∃ (n1 : Int),
  v1 = Value.int IntKind.i64 n1 ∧
  (decide (i ≥ n1) = true →
  ∃ (n2 : Int),
  ∃ (n3 : Int),
  ∃ (n4 : Int),
  ∃ (n5 : Int),
  ∃ (n6 : Int),
  (cellAt w2 (Addr.add a1 (0 : Nat)) (Value.int IntKind.i64 n2) ∧
  cellAt w2 (Addr.add a1 (1 : Nat)) (Value.int IntKind.u64 n3) ∧
  cellAt w2 (Addr.add a1 (2 : Nat)) (Value.int IntKind.u64 n4) ∧
  cellAt w2 (Addr.add a1 (3 : Nat)) (Value.int IntKind.i64 n5) ∧
  cellAt w2 (Addr.add a1 (4 : Nat)) (Value.int IntKind.i64 n6)) ∧
  StoreR a1
  [Value.int IntKind.i64 n2, Value.int IntKind.u64 n3, Value.int IntKind.u64 n4, Value.int IntKind.i64 n5,
  Value.int IntKind.i64 n6]
  w2 fun (w3 : World) =>
  ∃ (n7 : Int),
  ∃ (n8 : Int),
  ∃ (n9 : Int),
  ∃ (n10 : Int),
  ∃ (n11 : Int),
  (cellAt w3 (Addr.add a1 (0 : Nat)) (Value.int IntKind.i64 n7) ∧
  cellAt w3 (Addr.add a1 (1 : Nat)) (Value.int IntKind.u64 n8) ∧
  cellAt w3 (Addr.add a1 (2 : Nat)) (Value.int IntKind.u64 n9) ∧
  cellAt w3 (Addr.add a1 (3 : Nat)) (Value.int IntKind.i64 n10) ∧
  cellAt w3 (Addr.add a1 (4 : Nat)) (Value.int IntKind.i64 n11)) ∧
  K
  (Value.tuple
  {
  toList :=
  [Value.agg
  {
  toList :=
  [Value.int IntKind.i64 n7, Value.int IntKind.u64 n8, Value.int IntKind.u64 n9, Value.int IntKind.i64 n10,
  Value.int IntKind.i64 n11] },
  Value.bool false] })
  w3) ∧
  (decide (i ≥ n1) = false → False)) ∧
  (decide (i < (0 : Int)) = true →
  ∃ (n12 : Int),
  ∃ (n13 : Int),
  ∃ (n14 : Int),
  ∃ (n15 : Int),
  ∃ (n16 : Int),
  (cellAt w1 (Addr.add a1 (0 : Nat)) (Value.int IntKind.i64 n12) ∧
  cellAt w1 (Addr.add a1 (1 : Nat)) (Value.int IntKind.u64 n13) ∧
  cellAt w1 (Addr.add a1 (2 : Nat)) (Value.int IntKind.u64 n14) ∧
  cellAt w1 (Addr.add a1 (3 : Nat)) (Value.int IntKind.i64 n15) ∧
  cellAt w1 (Addr.add a1 (4 : Nat)) (Value.int IntKind.i64 n16)) ∧
  StoreR a1
  [Value.int IntKind.i64 n12, Value.int IntKind.u64 n13, Value.int IntKind.u64 n14, Value.int IntKind.i64 n15,
  Value.int IntKind.i64 n16]
  w1 fun (w4 : World) =>
  ∃ (n17 : Int),
  ∃ (n18 : Int),
  ∃ (n19 : Int),
  ∃ (n20 : Int),
  ∃ (n21 : Int),
  (cellAt w4 (Addr.add a1 (0 : Nat)) (Value.int IntKind.i64 n17) ∧
  cellAt w4 (Addr.add a1 (1 : Nat)) (Value.int IntKind.u64 n18) ∧
  cellAt w4 (Addr.add a1 (2 : Nat)) (Value.int IntKind.u64 n19) ∧
  cellAt w4 (Addr.add a1 (3 : Nat)) (Value.int IntKind.i64 n20) ∧
  cellAt w4 (Addr.add a1 (4 : Nat)) (Value.int IntKind.i64 n21)) ∧
  K
  (Value.tuple
  {
  toList :=
  [Value.agg
  {
  toList :=
  [Value.int IntKind.i64 n17, Value.int IntKind.u64 n18, Value.int IntKind.u64 n19, Value.int IntKind.i64 n20,
  Value.int IntKind.i64 n21] },
  Value.bool false] })
  w4)
theorem event_nil_int_At_eq (i : Int) (w : World) (K : Value → World → Prop) : fw Try.prog Try.f34 (annL []) (ordL []) [.pointer none, .int .i64 i] w K = event_nil_int_At_m i w K := by kernel_rfl
theorem event_nil_int_At_go (i : Int) {w : World} {K : Value → World → Prop} (h : event_nil_int_At_m i w K) : Rets Try.prog 34 #[.pointer none, .int .i64 i] w K :=
  calls_of_fw plain mixed Try.func34 (by kernel_rfl) (by rw [event_nil_int_At_eq]; exact h)
def event_Log_int_Count_m (g : Nat) (i : Int) (w : World) (K : Value → World → Prop) : Prop :=
  (false = false →
  Rets Try.prog (33 : Nat) { toList := [Value.int IntKind.i64 i] } w fun (v1 : Value) (w1 : World) =>
  ∃ (b1 : Bool),
  v1 = Value.bool b1 ∧
  ((!b1) = true → K (Value.int IntKind.i64 (0 : Int)) w1) ∧
  ((!b1) = false →
  (0 : Int) ≤ i ∧
  i < (↑(7 : Nat) : Int) ∧
  ∃ (n1 : Int),
  cellAt w1 (Addr.add (Addr.add { block := g, off := (0 : Nat) } (1 : Nat)) (Int.toNat i * (1 : Nat)))
  (Value.int IntKind.i64 n1) ∧
  K (Value.int IntKind.i64 n1) w1)) ∧
  (false = true → K (Value.int IntKind.i64 (0 : Int)) w)
theorem event_Log_int_Count_eq (g : Nat) (i : Int) (w : World) (K : Value → World → Prop) : fw Try.prog Try.f37 (annL []) (ordL []) [.pointer (some ⟨g, 0, none⟩), .int .i64 i] w K = event_Log_int_Count_m g i w K := by kernel_rfl
theorem event_Log_int_Count_go (g : Nat) (i : Int) {w : World} {K : Value → World → Prop} (h : event_Log_int_Count_m g i w K) : Rets Try.prog 37 #[.pointer (some ⟨g, 0, none⟩), .int .i64 i] w K :=
  calls_of_fw plain mixed Try.func37 (by kernel_rfl) (by rw [event_Log_int_Count_eq]; exact h)
def event_nil_int_Count_m (i : Int) (w : World) (K : Value → World → Prop) : Prop :=
  (true = false →
  Rets Try.prog (33 : Nat) { toList := [Value.int IntKind.i64 i] } w fun (v1 : Value) (w1 : World) =>
  ∃ (b1 : Bool), v1 = Value.bool b1 ∧ ((!b1) = true → K (Value.int IntKind.i64 (0 : Int)) w1) ∧ ((!b1) = false → False)) ∧
  (true = true → K (Value.int IntKind.i64 (0 : Int)) w)
theorem event_nil_int_Count_eq (i : Int) (w : World) (K : Value → World → Prop) : fw Try.prog Try.f37 (annL []) (ordL []) [.pointer none, .int .i64 i] w K = event_nil_int_Count_m i w K := by kernel_rfl
theorem event_nil_int_Count_go (i : Int) {w : World} {K : Value → World → Prop} (h : event_nil_int_Count_m i w K) : Rets Try.prog 37 #[.pointer none, .int .i64 i] w K :=
  calls_of_fw plain mixed Try.func37 (by kernel_rfl) (by rw [event_nil_int_Count_eq]; exact h)
def event_Log_int_Removed_m (q : Option Addr) (w : World) (K : Value → World → Prop) : Prop :=
  Rets Try.prog (36 : Nat) { toList := [Value.pointer q] } w fun (v1 : Value) (w1 : World) =>
  ∃ (n1 : Int),
  v1 = Value.int IntKind.i64 n1 ∧
  Rets Try.prog (37 : Nat) { toList := [Value.pointer q, Value.int IntKind.i64 (6 : Int)] } w1
  fun (v2 : Value) (w2 : World) =>
  ∃ (n2 : Int), v2 = Value.int IntKind.i64 n2 ∧ K (Value.int IntKind.i64 (IntKind.wrap IntKind.i64 (n1 - n2))) w2
theorem event_Log_int_Removed_eq (q : Option Addr) (w : World) (K : Value → World → Prop) : fw Try.prog Try.f38 (annL []) (ordL []) [.pointer q] w K = event_Log_int_Removed_m q w K := by kernel_rfl
theorem event_Log_int_Removed_go (q : Option Addr) {w : World} {K : Value → World → Prop} (h : event_Log_int_Removed_m q w K) : Rets Try.prog 38 #[.pointer q] w K :=
  calls_of_fw plain mixed Try.func38 (by kernel_rfl) (by rw [event_Log_int_Removed_eq]; exact h)
def event_Log_int_All_m (q q2 : Option Addr) (l c : Nat) (w : World) (K : Value → World → Prop) : Prop :=
  NewR (59 : Nat) [Value.pointer q] w fun (a1 : Addr) (w1 : World) =>
  NewR (26 : Nat) [Value.slice q2 l c] w1 fun (a2 : Addr) (w2 : World) =>
  K (Value.func (Fn.func (81 : Nat)) { toList := [] } { toList := [Value.pointer (some a1), Value.pointer (some a2)] }) w2
theorem event_Log_int_All_eq (q q2 : Option Addr) (l c : Nat) (w : World) (K : Value → World → Prop) : fw Try.prog Try.f60 (annL []) (ordL []) [.pointer q, .slice q2 l c] w K = event_Log_int_All_m q q2 l c w K := by kernel_rfl
theorem event_Log_int_All_go (q q2 : Option Addr) (l c : Nat) {w : World} {K : Value → World → Prop} (h : event_Log_int_All_m q q2 l c w K) : Rets Try.prog 60 #[.pointer q, .slice q2 l c] w K :=
  calls_of_fw plain mixed Try.func60 (by kernel_rfl) (by rw [event_Log_int_All_eq]; exact h)
def event_Log_int_All_1_m (l a b : Nat) (w : World) (K : Value → World → Prop) : Prop :=
  ∃ (q1 : Option Addr),
  cellAt w { block := a, off := (0 : Nat) } (Value.pointer q1) ∧
  (Option.isNone q1 = true → K (Value.tuple { toList := [] }) w) ∧
  (Option.isNone q1 = false →
  ∃ (q2 : Option Addr),
  cellAt w { block := a, off := (0 : Nat) } (Value.pointer q2) ∧
  someR q2 fun (a1 : Addr) =>
  ∃ (q3 : Option Addr),
  ∃ (k1 : Nat),
  ∃ (k2 : Nat),
  cellAt w (Addr.add a1 (0 : Nat)) (Value.slice q3 k1 k2) ∧
  ∃ (h1 : Nat → List Value → World → Prop),
  (∃ (k3 : Nat), h1 k3 [Value.int IntKind.i64 (0 : Int)] w) ∧
  ∀ (k4 : Nat) (w1 : World) (v1 v2 : Value) (n1 : Int)
  (v3 v4 v5 v6 v7 v8 v9 v10 v11 v12 v13 v14 v15 v16 v17 v18 v19 v20 v21 v22 v23 : Value),
  h1 k4 [Value.int IntKind.i64 n1] w1 →
  (decide (n1 < (↑k1 : Int)) = true →
  (0 : Int) ≤ n1 ∧
  n1 < (↑k1 : Int) ∧
  someR q3 fun (a2 : Addr) =>
  ∃ (n2 : Int),
  ∃ (n3 : Int),
  ∃ (n4 : Int),
  ∃ (n5 : Int),
  ∃ (n6 : Int),
  (cellAt w1 (Addr.add (Addr.add a2 (Int.toNat n1 * (5 : Nat))) (0 : Nat)) (Value.int IntKind.i64 n2) ∧
  cellAt w1 (Addr.add (Addr.add a2 (Int.toNat n1 * (5 : Nat))) (1 : Nat)) (Value.int IntKind.u64 n3) ∧
  cellAt w1 (Addr.add (Addr.add a2 (Int.toNat n1 * (5 : Nat))) (2 : Nat)) (Value.int IntKind.u64 n4) ∧
  cellAt w1 (Addr.add (Addr.add a2 (Int.toNat n1 * (5 : Nat))) (3 : Nat)) (Value.int IntKind.i64 n5) ∧
  cellAt w1 (Addr.add (Addr.add a2 (Int.toNat n1 * (5 : Nat))) (4 : Nat)) (Value.int IntKind.i64 n6)) ∧
  NewR (61 : Nat)
  [Value.int IntKind.i64 (0 : Int), Value.int IntKind.u64 (0 : Int), Value.int IntKind.u64 (0 : Int),
  Value.int IntKind.i64 (0 : Int), Value.int IntKind.i64 (0 : Int)]
  w1 fun (a3 : Addr) (w2 : World) =>
  StoreR a3
  [Value.int IntKind.i64 n2, Value.int IntKind.u64 n3, Value.int IntKind.u64 n4, Value.int IntKind.i64 n5,
  Value.int IntKind.i64 n6]
  w2 fun (w3 : World) =>
  ∃ (q4 : Option Addr),
  ∃ (k5 : Nat),
  ∃ (k6 : Nat),
  cellAt w3 { block := b, off := (0 : Nat) } (Value.slice q4 k5 k6) ∧
  (((↑k5 : Int) == (0 : Int)) = false →
  ∃ (q5 : Option Addr),
  ∃ (k7 : Nat),
  ∃ (k8 : Nat),
  cellAt w3 { block := b, off := (0 : Nat) } (Value.slice q5 k7 k8) ∧
  ∃ (n7 : Int),
  cellAt w3 (Addr.add a3 (0 : Nat)) (Value.int IntKind.i64 n7) ∧
  Rets Try.prog (71 : Nat) { toList := [Value.slice q5 k7 k8, Value.int IntKind.i64 n7] } w3
  fun (v24 : Value) (w4 : World) =>
  ∃ (b1 : Bool),
  v24 = Value.bool b1 ∧
  (b1 = true →
  ∃ (n8 : Int),
  ∃ (n9 : Int),
  ∃ (n10 : Int),
  ∃ (n11 : Int),
  ∃ (n12 : Int),
  (cellAt w4 (Addr.add a3 (0 : Nat)) (Value.int IntKind.i64 n8) ∧
  cellAt w4 (Addr.add a3 (1 : Nat)) (Value.int IntKind.u64 n9) ∧
  cellAt w4 (Addr.add a3 (2 : Nat)) (Value.int IntKind.u64 n10) ∧
  cellAt w4 (Addr.add a3 (3 : Nat)) (Value.int IntKind.i64 n11) ∧
  cellAt w4 (Addr.add a3 (4 : Nat)) (Value.int IntKind.i64 n12)) ∧
  RoundR Try.prog l
  {
  toList :=
  [Value.int IntKind.i64 n1,
  Value.agg
  {
  toList :=
  [Value.int IntKind.i64 n8, Value.int IntKind.u64 n9, Value.int IntKind.u64 n10, Value.int IntKind.i64 n11,
  Value.int IntKind.i64 n12] }] }
  w4 fun (v25 : Value) (w5 : World) =>
  ∃ (b2 : Bool),
  v25 = Value.bool b2 ∧
  ((!b2) = true → K (Value.tuple { toList := [] }) w5) ∧
  ((!b2) = false →
  ∃ (k9 : Nat), k9 < k4 ∧ h1 k9 [Value.int IntKind.i64 (IntKind.wrap IntKind.i64 (n1 + (1 : Int)))] w5)) ∧
  (b1 = false →
  ∃ (k10 : Nat), k10 < k4 ∧ h1 k10 [Value.int IntKind.i64 (IntKind.wrap IntKind.i64 (n1 + (1 : Int)))] w4)) ∧
  (((↑k5 : Int) == (0 : Int)) = true →
  ∃ (n13 : Int),
  ∃ (n14 : Int),
  ∃ (n15 : Int),
  ∃ (n16 : Int),
  ∃ (n17 : Int),
  (cellAt w3 (Addr.add a3 (0 : Nat)) (Value.int IntKind.i64 n13) ∧
  cellAt w3 (Addr.add a3 (1 : Nat)) (Value.int IntKind.u64 n14) ∧
  cellAt w3 (Addr.add a3 (2 : Nat)) (Value.int IntKind.u64 n15) ∧
  cellAt w3 (Addr.add a3 (3 : Nat)) (Value.int IntKind.i64 n16) ∧
  cellAt w3 (Addr.add a3 (4 : Nat)) (Value.int IntKind.i64 n17)) ∧
  RoundR Try.prog l
  {
  toList :=
  [Value.int IntKind.i64 n1,
  Value.agg
  {
  toList :=
  [Value.int IntKind.i64 n13, Value.int IntKind.u64 n14, Value.int IntKind.u64 n15, Value.int IntKind.i64 n16,
  Value.int IntKind.i64 n17] }] }
  w3 fun (v26 : Value) (w6 : World) =>
  ∃ (b3 : Bool),
  v26 = Value.bool b3 ∧
  ((!b3) = true → K (Value.tuple { toList := [] }) w6) ∧
  ((!b3) = false →
  ∃ (k11 : Nat), k11 < k4 ∧ h1 k11 [Value.int IntKind.i64 (IntKind.wrap IntKind.i64 (n1 + (1 : Int)))] w6))) ∧
  (decide (n1 < (↑k1 : Int)) = false → K (Value.tuple { toList := [] }) w1))
theorem event_Log_int_All_1_eq (l a b : Nat) (w : World) (K : Value → World → Prop) : fw Try.prog Try.f81 (annL [(2, [(4, none), (5, none), (13, some 3), (14, none), (15, none), (16, none), (17, none), (18, none), (19, none), (20, none), (21, none), (22, none), (23, none), (24, none), (25, none), (26, none), (27, none), (28, none), (29, none), (30, none), (31, none), (32, none), (33, none), (34, none)])]) (ordL []) [.func (.yield l) #[] #[], .pointer (some ⟨a, 0, none⟩), .pointer (some ⟨b, 0, none⟩)] w K = event_Log_int_All_1_m l a b w K := by kernel_rfl
theorem event_Log_int_All_1_go (l a b : Nat) {w : World} {K : Value → World → Prop} (h : event_Log_int_All_1_m l a b w K) : Rets Try.prog 81 #[.func (.yield l) #[] #[], .pointer (some ⟨a, 0, none⟩), .pointer (some ⟨b, 0, none⟩)] w K :=
  calls_of_fw plain mixed Try.func81 (by kernel_rfl) (by rw [event_Log_int_All_1_eq]; exact h)
def event_New_string_m  (w : World) (K : Value → World → Prop) : Prop :=
  NewR (108 : Nat)
  [Value.slice none (0 : Nat) (0 : Nat), Value.int IntKind.i64 (0 : Int), Value.int IntKind.i64 (0 : Int),
  Value.int IntKind.i64 (0 : Int), Value.int IntKind.i64 (0 : Int), Value.int IntKind.i64 (0 : Int),
  Value.int IntKind.i64 (0 : Int), Value.int IntKind.i64 (0 : Int)]
  w fun (a1 : Addr) (w1 : World) => K (Value.pointer (some a1)) w1
theorem event_New_string_eq  (w : World) (K : Value → World → Prop) : fw Try.prog Try.f30 (annL []) (ordL []) [] w K = event_New_string_m  w K := by kernel_rfl
theorem event_New_string_go  {w : World} {K : Value → World → Prop} (h : event_New_string_m  w K) : Rets Try.prog 30 #[] w K :=
  calls_of_fw plain mixed Try.func30 (by kernel_rfl) (by rw [event_New_string_eq]; exact h)
def event_Log_string_Add_m (g : Nat) (c hs cf : Int) (v : ByteArray) (i : Int) (w : World) (K : Value → World → Prop) : Prop :=
  NewR (54 : Nat)
  [Value.int IntKind.i64 c, Value.int IntKind.u64 hs, Value.int IntKind.u64 cf, Value.string v, Value.int IntKind.i64 i] w
  fun (a1 : Addr) (w1 : World) =>
  (false = false →
  ∃ (n1 : Int),
  cellAt w1 (Addr.add a1 (0 : Nat)) (Value.int IntKind.i64 n1) ∧
  Rets Try.prog (33 : Nat) { toList := [Value.int IntKind.i64 n1] } w1 fun (v1 : Value) (w2 : World) =>
  ∃ (b1 : Bool),
  v1 = Value.bool b1 ∧
  ((!b1) = true → K (Value.bool false) w2) ∧
  ((!b1) = false →
  Drw w2 fun (w3 : World) =>
  ∃ (h1 : World → Prop),
  h1 w3 ∧
  ∃ (q1 : Option Addr),
  ∃ (k1 : Nat),
  ∃ (k2 : Nat),
  (∀ (w4 : World),
  h1 w4 → World.cell? w4 (Addr.add { block := g, off := (0 : Nat) } (0 : Nat)) = some (Value.slice q1 k1 k2)) ∧
  ∃ (n2 : Int),
  ∃ (n3 : Int),
  ∃ (n4 : Int),
  ∃ (s1 : ByteArray),
  ∃ (n5 : Int),
  ((∀ (w5 : World), h1 w5 → World.cell? w5 (Addr.add a1 (0 : Nat)) = some (Value.int IntKind.i64 n2)) ∧
  (∀ (w6 : World), h1 w6 → World.cell? w6 (Addr.add a1 ((0 : Nat) + (1 : Nat))) = some (Value.int IntKind.u64 n3)) ∧
  (∀ (w7 : World),
  h1 w7 → World.cell? w7 (Addr.add a1 ((0 : Nat) + (1 : Nat) + (1 : Nat))) = some (Value.int IntKind.u64 n4)) ∧
  (∀ (w8 : World),
  h1 w8 → World.cell? w8 (Addr.add a1 ((0 : Nat) + (1 : Nat) + (1 : Nat) + (1 : Nat))) = some (Value.string s1)) ∧
  ∀ (w9 : World),
  h1 w9 →
  World.cell? w9 (Addr.add a1 ((0 : Nat) + (1 : Nat) + (1 : Nat) + (1 : Nat) + (1 : Nat))) =
  some (Value.int IntKind.i64 n5)) ∧
  NewR (54 : Nat)
  [Value.int IntKind.i64 n2, Value.int IntKind.u64 n3, Value.int IntKind.u64 n4, Value.string s1,
  Value.int IntKind.i64 n5]
  w3 fun (a2 : Addr) (w10 : World) =>
  h1 w10 ∧
  RunR Try.prog
  (builtinV Builtin.append { toList := [(105 : Nat), (105 : Nat)] } (nat_lit 105)
  { toList := [Value.slice q1 k1 k2, Value.slice (some a2) (1 : Nat) (1 : Nat)] })
  w10 fun (v2 : Value) (w11 : World) =>
  ∃ (q2 : Option Addr),
  ∃ (k3 : Nat),
  ∃ (k4 : Nat),
  v2 = Value.slice q2 k3 k4 ∧
  StoreR (Addr.add { block := g, off := (0 : Nat) } (0 : Nat)) [Value.slice q2 k3 k4] w11 fun (w12 : World) =>
  Drw w12 fun (w13 : World) =>
  ∃ (n6 : Int),
  cellAt w13 (Addr.add a1 (0 : Nat)) (Value.int IntKind.i64 n6) ∧
  (0 : Int) ≤ n6 ∧
  n6 < (↑(7 : Nat) : Int) ∧
  ∃ (n7 : Int),
  cellAt w13 (Addr.add (Addr.add { block := g, off := (0 : Nat) } (1 : Nat)) (Int.toNat n6 * (1 : Nat)))
  (Value.int IntKind.i64 n7) ∧
  (0 : Int) ≤ n6 ∧
  n6 < (↑(7 : Nat) : Int) ∧
  StoreR (Addr.add (Addr.add { block := g, off := (0 : Nat) } (1 : Nat)) (Int.toNat n6 * (1 : Nat)))
  [Value.int IntKind.i64 (IntKind.wrap IntKind.i64 (n7 + (1 : Int)))] w13 fun (w14 : World) => K (Value.bool true) w14)) ∧
  (false = true → K (Value.bool false) w1)
theorem event_Log_string_Add_eq (g : Nat) (c hs cf : Int) (v : ByteArray) (i : Int) (w : World) (K : Value → World → Prop) : fw Try.prog Try.f31 (annL []) (ordL [(3, [(0, 0), (1, 0), (2, 0), (3, 0), (4, 1), (5, 1), (6, 2), (7, 3), (8, 0), (9, 0), (10, 3)]), (4, [(0, 0), (1, 0), (3, 0), (4, 0), (8, 0), (9, 0), (2, 1), (5, 0), (6, 1), (7, 0), (10, 0), (11, 3)])]) [.pointer (some ⟨g, 0, none⟩), .agg #[.int .i64 c, .int .u64 hs, .int .u64 cf, .string v, .int .i64 i]] w K = event_Log_string_Add_m g c hs cf v i w K := by kernel_rfl
theorem event_Log_string_Add_go (g : Nat) (c hs cf : Int) (v : ByteArray) (i : Int) {w : World} {K : Value → World → Prop} (h : event_Log_string_Add_m g c hs cf v i w K) : Rets Try.prog 31 #[.pointer (some ⟨g, 0, none⟩), .agg #[.int .i64 c, .int .u64 hs, .int .u64 cf, .string v, .int .i64 i]] w K :=
  calls_of_fw plain mixed Try.func31 (by kernel_rfl) (by rw [event_Log_string_Add_eq]; exact h)
def event_nil_string_Add_m (c hs cf : Int) (v : ByteArray) (i : Int) (w : World) (K : Value → World → Prop) : Prop :=
  NewR (54 : Nat)
  [Value.int IntKind.i64 c, Value.int IntKind.u64 hs, Value.int IntKind.u64 cf, Value.string v, Value.int IntKind.i64 i] w
  fun (a1 : Addr) (w1 : World) =>
  (true = false →
  ∃ (n1 : Int),
  cellAt w1 (Addr.add a1 (0 : Nat)) (Value.int IntKind.i64 n1) ∧
  Rets Try.prog (33 : Nat) { toList := [Value.int IntKind.i64 n1] } w1 fun (v1 : Value) (w2 : World) =>
  ∃ (b1 : Bool),
  v1 = Value.bool b1 ∧
  ((!b1) = true → K (Value.bool false) w2) ∧
  ((!b1) = false → Drw w2 fun (w3 : World) => ∃ (h1 : World → Prop), h1 w3 ∧ False)) ∧
  (true = true → K (Value.bool false) w1)
theorem event_nil_string_Add_eq (c hs cf : Int) (v : ByteArray) (i : Int) (w : World) (K : Value → World → Prop) : fw Try.prog Try.f31 (annL []) (ordL [(3, [(0, 0), (1, 0), (2, 0), (3, 0), (4, 1), (5, 1), (6, 2), (7, 3), (8, 0), (9, 0), (10, 3)]), (4, [(0, 0), (1, 0), (3, 0), (4, 0), (8, 0), (9, 0), (2, 1), (5, 0), (6, 1), (7, 0), (10, 0), (11, 3)])]) [.pointer none, .agg #[.int .i64 c, .int .u64 hs, .int .u64 cf, .string v, .int .i64 i]] w K = event_nil_string_Add_m c hs cf v i w K := by kernel_rfl
theorem event_nil_string_Add_go (c hs cf : Int) (v : ByteArray) (i : Int) {w : World} {K : Value → World → Prop} (h : event_nil_string_Add_m c hs cf v i w K) : Rets Try.prog 31 #[.pointer none, .agg #[.int .i64 c, .int .u64 hs, .int .u64 cf, .string v, .int .i64 i]] w K :=
  calls_of_fw plain mixed Try.func31 (by kernel_rfl) (by rw [event_nil_string_Add_eq]; exact h)
def event_Log_string_All_m (q q2 : Option Addr) (l c : Nat) (w : World) (K : Value → World → Prop) : Prop :=
  NewR (49 : Nat) [Value.pointer q] w fun (a1 : Addr) (w1 : World) =>
  NewR (26 : Nat) [Value.slice q2 l c] w1 fun (a2 : Addr) (w2 : World) =>
  K (Value.func (Fn.func (70 : Nat)) { toList := [] } { toList := [Value.pointer (some a1), Value.pointer (some a2)] }) w2
theorem event_Log_string_All_eq (q q2 : Option Addr) (l c : Nat) (w : World) (K : Value → World → Prop) : fw Try.prog Try.f32 (annL []) (ordL []) [.pointer q, .slice q2 l c] w K = event_Log_string_All_m q q2 l c w K := by kernel_rfl
theorem event_Log_string_All_go (q q2 : Option Addr) (l c : Nat) {w : World} {K : Value → World → Prop} (h : event_Log_string_All_m q q2 l c w K) : Rets Try.prog 32 #[.pointer q, .slice q2 l c] w K :=
  calls_of_fw plain mixed Try.func32 (by kernel_rfl) (by rw [event_Log_string_All_eq]; exact h)
def event_Log_string_All_1_m (l a b : Nat) (w : World) (K : Value → World → Prop) : Prop :=
  ∃ (q1 : Option Addr),
  cellAt w { block := a, off := (0 : Nat) } (Value.pointer q1) ∧
  (Option.isNone q1 = true → K (Value.tuple { toList := [] }) w) ∧
  (Option.isNone q1 = false →
  ∃ (q2 : Option Addr),
  cellAt w { block := a, off := (0 : Nat) } (Value.pointer q2) ∧
  someR q2 fun (a1 : Addr) =>
  ∃ (q3 : Option Addr),
  ∃ (k1 : Nat),
  ∃ (k2 : Nat),
  cellAt w (Addr.add a1 (0 : Nat)) (Value.slice q3 k1 k2) ∧
  ∃ (h1 : Nat → List Value → World → Prop),
  (∃ (k3 : Nat), h1 k3 [Value.int IntKind.i64 (0 : Int)] w) ∧
  ∀ (k4 : Nat) (w1 : World) (v1 v2 : Value) (n1 : Int)
  (v3 v4 v5 v6 v7 v8 v9 v10 v11 v12 v13 v14 v15 v16 v17 v18 v19 v20 v21 v22 v23 : Value),
  h1 k4 [Value.int IntKind.i64 n1] w1 →
  (decide (n1 < (↑k1 : Int)) = true →
  (0 : Int) ≤ n1 ∧
  n1 < (↑k1 : Int) ∧
  someR q3 fun (a2 : Addr) =>
  ∃ (n2 : Int),
  ∃ (n3 : Int),
  ∃ (n4 : Int),
  ∃ (s1 : ByteArray),
  ∃ (n5 : Int),
  (cellAt w1 (Addr.add (Addr.add a2 (Int.toNat n1 * (5 : Nat))) (0 : Nat)) (Value.int IntKind.i64 n2) ∧
  cellAt w1 (Addr.add (Addr.add a2 (Int.toNat n1 * (5 : Nat))) (1 : Nat)) (Value.int IntKind.u64 n3) ∧
  cellAt w1 (Addr.add (Addr.add a2 (Int.toNat n1 * (5 : Nat))) (2 : Nat)) (Value.int IntKind.u64 n4) ∧
  cellAt w1 (Addr.add (Addr.add a2 (Int.toNat n1 * (5 : Nat))) (3 : Nat)) (Value.string s1) ∧
  cellAt w1 (Addr.add (Addr.add a2 (Int.toNat n1 * (5 : Nat))) (4 : Nat)) (Value.int IntKind.i64 n5)) ∧
  NewR (54 : Nat)
  [Value.int IntKind.i64 (0 : Int), Value.int IntKind.u64 (0 : Int), Value.int IntKind.u64 (0 : Int),
  Value.string { data := #[] }, Value.int IntKind.i64 (0 : Int)]
  w1 fun (a3 : Addr) (w2 : World) =>
  StoreR a3
  [Value.int IntKind.i64 n2, Value.int IntKind.u64 n3, Value.int IntKind.u64 n4, Value.string s1,
  Value.int IntKind.i64 n5]
  w2 fun (w3 : World) =>
  ∃ (q4 : Option Addr),
  ∃ (k5 : Nat),
  ∃ (k6 : Nat),
  cellAt w3 { block := b, off := (0 : Nat) } (Value.slice q4 k5 k6) ∧
  (((↑k5 : Int) == (0 : Int)) = false →
  ∃ (q5 : Option Addr),
  ∃ (k7 : Nat),
  ∃ (k8 : Nat),
  cellAt w3 { block := b, off := (0 : Nat) } (Value.slice q5 k7 k8) ∧
  ∃ (n6 : Int),
  cellAt w3 (Addr.add a3 (0 : Nat)) (Value.int IntKind.i64 n6) ∧
  Rets Try.prog (71 : Nat) { toList := [Value.slice q5 k7 k8, Value.int IntKind.i64 n6] } w3
  fun (v24 : Value) (w4 : World) =>
  ∃ (b1 : Bool),
  v24 = Value.bool b1 ∧
  (b1 = true →
  ∃ (n7 : Int),
  ∃ (n8 : Int),
  ∃ (n9 : Int),
  ∃ (s2 : ByteArray),
  ∃ (n10 : Int),
  (cellAt w4 (Addr.add a3 (0 : Nat)) (Value.int IntKind.i64 n7) ∧
  cellAt w4 (Addr.add a3 (1 : Nat)) (Value.int IntKind.u64 n8) ∧
  cellAt w4 (Addr.add a3 (2 : Nat)) (Value.int IntKind.u64 n9) ∧
  cellAt w4 (Addr.add a3 (3 : Nat)) (Value.string s2) ∧ cellAt w4 (Addr.add a3 (4 : Nat)) (Value.int IntKind.i64 n10)) ∧
  RoundR Try.prog l
  {
  toList :=
  [Value.int IntKind.i64 n1,
  Value.agg
  {
  toList :=
  [Value.int IntKind.i64 n7, Value.int IntKind.u64 n8, Value.int IntKind.u64 n9, Value.string s2,
  Value.int IntKind.i64 n10] }] }
  w4 fun (v25 : Value) (w5 : World) =>
  ∃ (b2 : Bool),
  v25 = Value.bool b2 ∧
  ((!b2) = true → K (Value.tuple { toList := [] }) w5) ∧
  ((!b2) = false →
  ∃ (k9 : Nat), k9 < k4 ∧ h1 k9 [Value.int IntKind.i64 (IntKind.wrap IntKind.i64 (n1 + (1 : Int)))] w5)) ∧
  (b1 = false →
  ∃ (k10 : Nat), k10 < k4 ∧ h1 k10 [Value.int IntKind.i64 (IntKind.wrap IntKind.i64 (n1 + (1 : Int)))] w4)) ∧
  (((↑k5 : Int) == (0 : Int)) = true →
  ∃ (n11 : Int),
  ∃ (n12 : Int),
  ∃ (n13 : Int),
  ∃ (s3 : ByteArray),
  ∃ (n14 : Int),
  (cellAt w3 (Addr.add a3 (0 : Nat)) (Value.int IntKind.i64 n11) ∧
  cellAt w3 (Addr.add a3 (1 : Nat)) (Value.int IntKind.u64 n12) ∧
  cellAt w3 (Addr.add a3 (2 : Nat)) (Value.int IntKind.u64 n13) ∧
  cellAt w3 (Addr.add a3 (3 : Nat)) (Value.string s3) ∧ cellAt w3 (Addr.add a3 (4 : Nat)) (Value.int IntKind.i64 n14)) ∧
  RoundR Try.prog l
  {
  toList :=
  [Value.int IntKind.i64 n1,
  Value.agg
  {
  toList :=
  [Value.int IntKind.i64 n11, Value.int IntKind.u64 n12, Value.int IntKind.u64 n13, Value.string s3,
  Value.int IntKind.i64 n14] }] }
  w3 fun (v26 : Value) (w6 : World) =>
  ∃ (b3 : Bool),
  v26 = Value.bool b3 ∧
  ((!b3) = true → K (Value.tuple { toList := [] }) w6) ∧
  ((!b3) = false →
  ∃ (k11 : Nat), k11 < k4 ∧ h1 k11 [Value.int IntKind.i64 (IntKind.wrap IntKind.i64 (n1 + (1 : Int)))] w6))) ∧
  (decide (n1 < (↑k1 : Int)) = false → K (Value.tuple { toList := [] }) w1))
theorem event_Log_string_All_1_eq (l a b : Nat) (w : World) (K : Value → World → Prop) : fw Try.prog Try.f70 (annL [(2, [(4, none), (5, none), (13, some 3), (14, none), (15, none), (16, none), (17, none), (18, none), (19, none), (20, none), (21, none), (22, none), (23, none), (24, none), (25, none), (26, none), (27, none), (28, none), (29, none), (30, none), (31, none), (32, none), (33, none), (34, none)])]) (ordL []) [.func (.yield l) #[] #[], .pointer (some ⟨a, 0, none⟩), .pointer (some ⟨b, 0, none⟩)] w K = event_Log_string_All_1_m l a b w K := by kernel_rfl
theorem event_Log_string_All_1_go (l a b : Nat) {w : World} {K : Value → World → Prop} (h : event_Log_string_All_1_m l a b w K) : Rets Try.prog 70 #[.func (.yield l) #[] #[], .pointer (some ⟨a, 0, none⟩), .pointer (some ⟨b, 0, none⟩)] w K :=
  calls_of_fw plain mixed Try.func70 (by kernel_rfl) (by rw [event_Log_string_All_1_eq]; exact h)
def cortadoref31_Add_m (q : Option Addr) (l k : Nat) (c hs cf v i : Int) (w : World) (K : Value → World → Prop) : Prop :=
  NewR (87 : Nat)
  [Value.int IntKind.i64 c, Value.int IntKind.u64 hs, Value.int IntKind.u64 cf, Value.int IntKind.i64 v,
  Value.int IntKind.i64 i]
  w fun (a1 : Addr) (w1 : World) =>
  ∃ (n1 : Int),
  cellAt w1 (Addr.add a1 (0 : Nat)) (Value.int IntKind.i64 n1) ∧
  (decide (n1 < (1 : Int)) = false →
  ∃ (n2 : Int),
  cellAt w1 (Addr.add a1 (0 : Nat)) (Value.int IntKind.i64 n2) ∧
  (decide (n2 > (6 : Int)) = true → K (Value.tuple { toList := [Value.slice q l k, Value.bool false] }) w1) ∧
  (decide (n2 > (6 : Int)) = false →
  Drw w1 fun (w2 : World) =>
  ∃ (h1 : World → Prop),
  h1 w2 ∧
  ∃ (n3 : Int),
  ∃ (n4 : Int),
  ∃ (n5 : Int),
  ∃ (n6 : Int),
  ∃ (n7 : Int),
  ((∀ (w3 : World), h1 w3 → World.cell? w3 (Addr.add a1 (0 : Nat)) = some (Value.int IntKind.i64 n3)) ∧
  (∀ (w4 : World), h1 w4 → World.cell? w4 (Addr.add a1 ((0 : Nat) + (1 : Nat))) = some (Value.int IntKind.u64 n4)) ∧
  (∀ (w5 : World),
  h1 w5 → World.cell? w5 (Addr.add a1 ((0 : Nat) + (1 : Nat) + (1 : Nat))) = some (Value.int IntKind.u64 n5)) ∧
  (∀ (w6 : World),
  h1 w6 →
  World.cell? w6 (Addr.add a1 ((0 : Nat) + (1 : Nat) + (1 : Nat) + (1 : Nat))) = some (Value.int IntKind.i64 n6)) ∧
  ∀ (w7 : World),
  h1 w7 →
  World.cell? w7 (Addr.add a1 ((0 : Nat) + (1 : Nat) + (1 : Nat) + (1 : Nat) + (1 : Nat))) =
  some (Value.int IntKind.i64 n7)) ∧
  (NewR (87 : Nat) [] w2 fun (a2 : Addr) (w8 : World) =>
  h1 w8 ∧
  (RunR Try.prog
  (builtinV Builtin.append { toList := [(83 : Nat), (83 : Nat)] } (nat_lit 83)
  { toList := [Value.slice (some a2) (0 : Nat) (0 : Nat), Value.slice q l k] })
  w8 fun (v1 : Value) (w9 : World) =>
  ∃ (q1 : Option Addr),
  ∃ (k1 : Nat),
  ∃ (k2 : Nat),
  v1 = Value.slice q1 k1 k2 ∧
  h1 w9 ∧
  NewR (87 : Nat)
  [Value.int IntKind.i64 n3, Value.int IntKind.u64 n4, Value.int IntKind.u64 n5, Value.int IntKind.i64 n6,
  Value.int IntKind.i64 n7]
  w9 fun (a3 : Addr) (w10 : World) =>
  h1 w10 ∧
  RunR Try.prog
  (builtinV Builtin.append { toList := [(83 : Nat), (83 : Nat)] } (nat_lit 83)
  { toList := [Value.slice q1 k1 k2, Value.slice (some a3) (1 : Nat) (1 : Nat)] })
  w10 fun (v2 : Value) (w11 : World) =>
  ∃ (q2 : Option Addr),
  ∃ (k3 : Nat),
  ∃ (k4 : Nat),
  v2 = Value.slice q2 k3 k4 ∧ h1 w11 ∧ K (Value.tuple { toList := [Value.slice q2 k3 k4, Value.bool true] }) w11) ∧
  NewR (87 : Nat)
  [Value.int IntKind.i64 n3, Value.int IntKind.u64 n4, Value.int IntKind.u64 n5, Value.int IntKind.i64 n6,
  Value.int IntKind.i64 n7]
  w8 fun (a4 : Addr) (w12 : World) =>
  h1 w12 ∧
  RunR Try.prog
  (builtinV Builtin.append { toList := [(83 : Nat), (83 : Nat)] } (nat_lit 83)
  { toList := [Value.slice (some a2) (0 : Nat) (0 : Nat), Value.slice q l k] })
  w12 fun (v3 : Value) (w13 : World) =>
  ∃ (q3 : Option Addr),
  ∃ (k5 : Nat),
  ∃ (k6 : Nat),
  v3 = Value.slice q3 k5 k6 ∧
  h1 w13 ∧
  RunR Try.prog
  (builtinV Builtin.append { toList := [(83 : Nat), (83 : Nat)] } (nat_lit 83)
  { toList := [Value.slice q3 k5 k6, Value.slice (some a4) (1 : Nat) (1 : Nat)] })
  w13 fun (v4 : Value) (w14 : World) =>
  ∃ (q4 : Option Addr),
  ∃ (k7 : Nat),
  ∃ (k8 : Nat),
  v4 = Value.slice q4 k7 k8 ∧ h1 w14 ∧ K (Value.tuple { toList := [Value.slice q4 k7 k8, Value.bool true] }) w14) ∧
  NewR (87 : Nat)
  [Value.int IntKind.i64 n3, Value.int IntKind.u64 n4, Value.int IntKind.u64 n5, Value.int IntKind.i64 n6,
  Value.int IntKind.i64 n7]
  w2 fun (a5 : Addr) (w15 : World) =>
  h1 w15 ∧
  NewR (87 : Nat) [] w15 fun (a6 : Addr) (w16 : World) =>
  h1 w16 ∧
  RunR Try.prog
  (builtinV Builtin.append { toList := [(83 : Nat), (83 : Nat)] } (nat_lit 83)
  { toList := [Value.slice (some a6) (0 : Nat) (0 : Nat), Value.slice q l k] })
  w16 fun (v5 : Value) (w17 : World) =>
  ∃ (q5 : Option Addr),
  ∃ (k9 : Nat),
  ∃ (k10 : Nat),
  v5 = Value.slice q5 k9 k10 ∧
  h1 w17 ∧
  RunR Try.prog
  (builtinV Builtin.append { toList := [(83 : Nat), (83 : Nat)] } (nat_lit 83)
  { toList := [Value.slice q5 k9 k10, Value.slice (some a5) (1 : Nat) (1 : Nat)] })
  w17 fun (v6 : Value) (w18 : World) =>
  ∃ (q6 : Option Addr),
  ∃ (k11 : Nat),
  ∃ (k12 : Nat),
  v6 = Value.slice q6 k11 k12 ∧ h1 w18 ∧ K (Value.tuple { toList := [Value.slice q6 k11 k12, Value.bool true] }) w18)) ∧
  (decide (n1 < (1 : Int)) = true → K (Value.tuple { toList := [Value.slice q l k, Value.bool false] }) w1)
theorem cortadoref31_Add_eq (q : Option Addr) (l k : Nat) (c hs cf v i : Int) (w : World) (K : Value → World → Prop) : fw Try.prog Try.f56 (annL []) (ordL [(3, [(1, 0), (3, 1), (0, 6), (0, 2), (0, 6), (2, 2), (4, 2), (5, 2), (6, 0), (7, 0), (0, 7), (4, 2), (2, 2), (5, 2), (6, 0), (7, 0), (0, 7), (4, 2), (0, 2), (2, 2), (5, 2), (6, 0), (7, 0), (0, 7)])]) [.slice q l k, .agg #[.int .i64 c, .int .u64 hs, .int .u64 cf, .int .i64 v, .int .i64 i]] w K = cortadoref31_Add_m q l k c hs cf v i w K := by kernel_rfl
theorem cortadoref31_Add_go (q : Option Addr) (l k : Nat) (c hs cf v i : Int) {w : World} {K : Value → World → Prop} (h : cortadoref31_Add_m q l k c hs cf v i w K) : Rets Try.prog 56 #[.slice q l k, .agg #[.int .i64 c, .int .u64 hs, .int .u64 cf, .int .i64 v, .int .i64 i]] w K :=
  calls_of_fw plain mixed Try.func56 (by kernel_rfl) (by rw [cortadoref31_Add_eq]; exact h)
def cortadoref31_Count_m (q : Option Addr) (l k : Nat) (c : Int) (w : World) (K : Value → World → Prop) : Prop :=
  ∃ (h1 : Nat → List Value → World → Prop),
  (∃ (k1 : Nat), h1 k1 [Value.int IntKind.i64 (0 : Int), Value.int IntKind.i64 (0 : Int)] w) ∧
  ∀ (k2 : Nat) (w1 : World) (n1 n2 : Int) (v1 v2 v3 v4 v5 v6 v7 v8 v9 v10 v11 v12 v13 v14 v15 : Value),
  h1 k2 [Value.int IntKind.i64 n1, Value.int IntKind.i64 n2] w1 →
  (decide (n2 < (↑l : Int)) = true →
  (0 : Int) ≤ n2 ∧
  n2 < (↑l : Int) ∧
  someR q fun (a1 : Addr) =>
  ∃ (n3 : Int),
  cellAt w1 (Addr.add (Addr.add a1 (Int.toNat n2 * (5 : Nat))) (0 : Nat)) (Value.int IntKind.i64 n3) ∧
  ((n3 == c) = true →
  ∃ (k3 : Nat),
  k3 < k2 ∧
  h1 k3
  [Value.int IntKind.i64 (IntKind.wrap IntKind.i64 (n1 + (1 : Int))),
  Value.int IntKind.i64 (IntKind.wrap IntKind.i64 (n2 + (1 : Int)))]
  w1) ∧
  ((n3 == c) = false →
  ∃ (k4 : Nat),
  k4 < k2 ∧ h1 k4 [Value.int IntKind.i64 n1, Value.int IntKind.i64 (IntKind.wrap IntKind.i64 (n2 + (1 : Int)))] w1)) ∧
  (decide (n2 < (↑l : Int)) = false → K (Value.int IntKind.i64 n1) w1)
theorem cortadoref31_Count_eq (q : Option Addr) (l k : Nat) (c : Int) (w : World) (K : Value → World → Prop) : fw Try.prog Try.f57 (annL [(1, [(5, some 3), (6, some 3), (7, none), (8, none), (9, none), (10, none), (11, none), (12, none), (13, none), (14, none), (15, none), (16, none), (17, none), (18, none), (19, none), (20, none), (21, none)])]) (ordL []) [.slice q l k, .int .i64 c] w K = cortadoref31_Count_m q l k c w K := by kernel_rfl
theorem cortadoref31_Count_go (q : Option Addr) (l k : Nat) (c : Int) {w : World} {K : Value → World → Prop} (h : cortadoref31_Count_m q l k c w K) : Rets Try.prog 57 #[.slice q l k, .int .i64 c] w K :=
  calls_of_fw plain mixed Try.func57 (by kernel_rfl) (by rw [cortadoref31_Count_eq]; exact h)
def cortadoref31_Same_m (q : Option Addr) (l k : Nat) (q2 : Option Addr) (l2 k2 : Nat) (w : World) (K : Value → World → Prop) : Prop :=
  (((↑l : Int) != (↑l2 : Int)) = true → K (Value.bool false) w) ∧
  (((↑l : Int) != (↑l2 : Int)) = false →
  ∃ (h1 : Nat → List Value → World → Prop),
  (∃ (k1 : Nat), h1 k1 [Value.int IntKind.i64 (0 : Int)] w) ∧
  ∀ (k2 : Nat) (w1 : World) (v1 : Value) (n1 : Int) (v2 v3 v4 v5 v6 v7 v8 v9 v10 v11 v12 v13 v14 v15 v16 : Value),
  h1 k2 [Value.int IntKind.i64 n1] w1 →
  (decide (n1 < (↑l : Int)) = true →
  Drw w1 fun (w2 : World) =>
  (0 : Int) ≤ n1 ∧
  n1 < (↑l : Int) ∧
  someR q fun (a1 : Addr) =>
  (0 : Int) ≤ n1 ∧
  n1 < (↑l2 : Int) ∧
  someR q2 fun (a2 : Addr) =>
  ∃ (n2 : Int),
  ∃ (n3 : Int),
  ∃ (n4 : Int),
  ∃ (n5 : Int),
  ∃ (n6 : Int),
  (cellAt w2 (Addr.add (Addr.add a1 (Int.toNat n1 * (5 : Nat))) (0 : Nat)) (Value.int IntKind.i64 n2) ∧
  cellAt w2 (Addr.add (Addr.add a1 (Int.toNat n1 * (5 : Nat))) (1 : Nat)) (Value.int IntKind.u64 n3) ∧
  cellAt w2 (Addr.add (Addr.add a1 (Int.toNat n1 * (5 : Nat))) (2 : Nat)) (Value.int IntKind.u64 n4) ∧
  cellAt w2 (Addr.add (Addr.add a1 (Int.toNat n1 * (5 : Nat))) (3 : Nat)) (Value.int IntKind.i64 n5) ∧
  cellAt w2 (Addr.add (Addr.add a1 (Int.toNat n1 * (5 : Nat))) (4 : Nat)) (Value.int IntKind.i64 n6)) ∧
  ∃ (n7 : Int),
  ∃ (n8 : Int),
  ∃ (n9 : Int),
  ∃ (n10 : Int),
  ∃ (n11 : Int),
  (cellAt w2 (Addr.add (Addr.add a2 (Int.toNat n1 * (5 : Nat))) (0 : Nat)) (Value.int IntKind.i64 n7) ∧
  cellAt w2 (Addr.add (Addr.add a2 (Int.toNat n1 * (5 : Nat))) (1 : Nat)) (Value.int IntKind.u64 n8) ∧
  cellAt w2 (Addr.add (Addr.add a2 (Int.toNat n1 * (5 : Nat))) (2 : Nat)) (Value.int IntKind.u64 n9) ∧
  cellAt w2 (Addr.add (Addr.add a2 (Int.toNat n1 * (5 : Nat))) (3 : Nat)) (Value.int IntKind.i64 n10) ∧
  cellAt w2 (Addr.add (Addr.add a2 (Int.toNat n1 * (5 : Nat))) (4 : Nat)) (Value.int IntKind.i64 n11)) ∧
  ((!(n2 == n7 && (n3 == n8 && (n4 == n9 && (n5 == n10 && n6 == n11))))) = true → K (Value.bool false) w2) ∧
  ((!(n2 == n7 && (n3 == n8 && (n4 == n9 && (n5 == n10 && n6 == n11))))) = false →
  ∃ (k3 : Nat), k3 < k2 ∧ h1 k3 [Value.int IntKind.i64 (IntKind.wrap IntKind.i64 (n1 + (1 : Int)))] w2)) ∧
  (decide (n1 < (↑l : Int)) = false → K (Value.bool true) w1))
theorem cortadoref31_Same_eq (q : Option Addr) (l k : Nat) (q2 : Option Addr) (l2 k2 : Nat) (w : World) (K : Value → World → Prop) : fw Try.prog Try.f61 (annL [(2, [(4, none), (5, some 3), (11, none), (12, none), (13, none), (14, none), (15, none), (16, none), (17, none), (18, none), (19, none), (20, none), (21, none), (22, none), (23, none), (24, none), (25, none)])]) (ordL [(6, [(0, 0), (1, 0), (2, 0), (4, 0), (5, 0), (6, 0), (3, 1), (7, 1), (8, 0)])]) [.slice q l k, .slice q2 l2 k2] w K = cortadoref31_Same_m q l k q2 l2 k2 w K := by kernel_rfl
theorem cortadoref31_Same_go (q : Option Addr) (l k : Nat) (q2 : Option Addr) (l2 k2 : Nat) {w : World} {K : Value → World → Prop} (h : cortadoref31_Same_m q l k q2 l2 k2 w K) : Rets Try.prog 61 #[.slice q l k, .slice q2 l2 k2] w K :=
  calls_of_fw plain mixed Try.func61 (by kernel_rfl) (by rw [cortadoref31_Same_eq]; exact h)
def cortadolaw31_awake_m  (w : World) (K : Value → World → Prop) : Prop :=
  Rets Try.prog (55 : Nat) { toList := [] } w fun (v1 : Value) (w1 : World) =>
  ∃ (q1 : Option Addr),
  v1 = Value.pointer q1 ∧
  Rets Try.prog (35 : Nat)
  {
  toList :=
  [Value.pointer q1,
  Value.agg
  {
  toList :=
  [Value.int IntKind.i64 (3 : Int), Value.int IntKind.u64 (0 : Int), Value.int IntKind.u64 (0 : Int),
  Value.int IntKind.i64 (0 : Int), Value.int IntKind.i64 (0 : Int)] }] }
  w1 fun (v2 : Value) (w2 : World) =>
  ∃ (b1 : Bool),
  v2 = Value.bool b1 ∧
  (b1 = true →
  Rets Try.prog (38 : Nat) { toList := [Value.pointer q1] } w2 fun (v3 : Value) (w3 : World) =>
  ∃ (n1 : Int),
  v3 = Value.int IntKind.i64 n1 ∧
  ((n1 == (1 : Int)) = true →
  Rets Try.prog (35 : Nat)
  {
  toList :=
  [Value.pointer q1,
  Value.agg
  {
  toList :=
  [Value.int IntKind.i64 (0 : Int), Value.int IntKind.u64 (0 : Int), Value.int IntKind.u64 (0 : Int),
  Value.int IntKind.i64 (0 : Int), Value.int IntKind.i64 (0 : Int)] }] }
  w3 fun (v4 : Value) (w4 : World) => ∃ (b2 : Bool), v4 = Value.bool b2 ∧ K (Value.bool !b2) w4) ∧
  ((n1 == (1 : Int)) = false → K (Value.bool false) w3)) ∧
  (b1 = false → K (Value.bool false) w2)
theorem cortadolaw31_awake_eq  (w : World) (K : Value → World → Prop) : fw Try.prog Try.f29 (annL []) (ordL []) [] w K = cortadolaw31_awake_m  w K := by kernel_rfl
theorem cortadolaw31_awake_go  {w : World} {K : Value → World → Prop} (h : cortadolaw31_awake_m  w K) : Rets Try.prog 29 #[] w K :=
  calls_of_fw plain mixed Try.func29 (by kernel_rfl) (by rw [cortadolaw31_awake_eq]; exact h)
def cortadolaw31_EventPlays_m (q : Option Addr) (l c : Nat) (cause most : Int) (w : World) (K : Value → World → Prop) : Prop :=
  NewR (46 : Nat) [Value.int IntKind.u64 most] w fun (a1 : Addr) (w1 : World) =>
  NewR (4 : Nat) [Value.bool false] w1 fun (a2 : Addr) (w2 : World) =>
  (decide ((↑l : Int) > (60 : Int)) = true →
  Rets Try.prog (29 : Nat) { toList := [] } w2 fun (v1 : Value) (w3 : World) =>
  ∃ (b1 : Bool),
  v1 = Value.bool b1 ∧
  StoreR a2 [Value.bool b1] w3 fun (w4 : World) => ∃ (b2 : Bool), cellAt w4 a2 (Value.bool b2) ∧ K (Value.bool b2) w4) ∧
  (decide ((↑l : Int) > (60 : Int)) = false →
  Rets Try.prog (55 : Nat) { toList := [] } w2 fun (v2 : Value) (w5 : World) =>
  ∃ (q1 : Option Addr),
  v2 = Value.pointer q1 ∧
  NewR (83 : Nat) [Value.slice none (0 : Nat) (0 : Nat)] w5 fun (a3 : Addr) (w6 : World) =>
  ∃ (h1 : Nat → List Value → World → Prop),
  (∃ (k1 : Nat), h1 k1 [Value.slice none (0 : Nat) (0 : Nat), Value.int IntKind.i64 (0 : Int)] w6) ∧
  ∀ (k2 : Nat) (w7 : World) (q2 : Option Addr) (k3 k4 : Nat) (n1 : Int)
  (v3 v4 v5 v6 v7 v8 v9 v10 v11 v12 v13 v14 v15 v16 v17 v18 v19 v20 v21 v22 v23 v24 v25 v26 v27 v28 v29 v30 v31 v32 v33
  v34 v35 v36 v37 v38 v39 v40 v41 v42 v43 v44 v45 v46 v47 v48 v49 v50 v51 v52 : Value),
  h1 k2 [Value.slice q2 k3 k4, Value.int IntKind.i64 n1] w7 →
  (decide (n1 < (↑l : Int)) = true →
  Drw w7 fun (w8 : World) =>
  (0 : Int) ≤ n1 ∧
  n1 < (↑l : Int) ∧
  someR q fun (a4 : Addr) =>
  ∃ (q3 : Option Addr),
  ∃ (k5 : Nat),
  ∃ (k6 : Nat),
  cellAt w8 a3 (Value.slice q3 k5 k6) ∧
  ∃ (n2 : Int),
  ∃ (n3 : Int),
  ∃ (n4 : Int),
  ∃ (n5 : Int),
  ∃ (n6 : Int),
  (cellAt w8 (Addr.add (Addr.add a4 (Int.toNat n1 * (5 : Nat))) (0 : Nat)) (Value.int IntKind.i64 n2) ∧
  cellAt w8 (Addr.add (Addr.add a4 (Int.toNat n1 * (5 : Nat))) (1 : Nat)) (Value.int IntKind.u64 n3) ∧
  cellAt w8 (Addr.add (Addr.add a4 (Int.toNat n1 * (5 : Nat))) (2 : Nat)) (Value.int IntKind.u64 n4) ∧
  cellAt w8 (Addr.add (Addr.add a4 (Int.toNat n1 * (5 : Nat))) (3 : Nat)) (Value.int IntKind.i64 n5) ∧
  cellAt w8 (Addr.add (Addr.add a4 (Int.toNat n1 * (5 : Nat))) (4 : Nat)) (Value.int IntKind.i64 n6)) ∧
  Rets Try.prog (56 : Nat)
  {
  toList :=
  [Value.slice q3 k5 k6,
  Value.agg
  {
  toList :=
  [Value.int IntKind.i64 n2, Value.int IntKind.u64 n3, Value.int IntKind.u64 n4, Value.int IntKind.i64 n5,
  Value.int IntKind.i64 n6] }] }
  w8 fun (v53 : Value) (w9 : World) =>
  ∃ (q4 : Option Addr),
  ∃ (k7 : Nat),
  ∃ (k8 : Nat),
  ∃ (b3 : Bool),
  v53 = Value.tuple { toList := [Value.slice q4 k7 k8, Value.bool b3] } ∧
  (0 : Int) ≤ n1 ∧
  n1 < (↑l : Int) ∧
  someR q fun (a5 : Addr) =>
  ∃ (n7 : Int),
  ∃ (n8 : Int),
  ∃ (n9 : Int),
  ∃ (n10 : Int),
  ∃ (n11 : Int),
  (cellAt w9 (Addr.add (Addr.add a5 (Int.toNat n1 * (5 : Nat))) (0 : Nat)) (Value.int IntKind.i64 n7) ∧
  cellAt w9 (Addr.add (Addr.add a5 (Int.toNat n1 * (5 : Nat))) (1 : Nat)) (Value.int IntKind.u64 n8) ∧
  cellAt w9 (Addr.add (Addr.add a5 (Int.toNat n1 * (5 : Nat))) (2 : Nat)) (Value.int IntKind.u64 n9) ∧
  cellAt w9 (Addr.add (Addr.add a5 (Int.toNat n1 * (5 : Nat))) (3 : Nat)) (Value.int IntKind.i64 n10) ∧
  cellAt w9 (Addr.add (Addr.add a5 (Int.toNat n1 * (5 : Nat))) (4 : Nat)) (Value.int IntKind.i64 n11)) ∧
  Rets Try.prog (35 : Nat)
  {
  toList :=
  [Value.pointer q1,
  Value.agg
  {
  toList :=
  [Value.int IntKind.i64 n7, Value.int IntKind.u64 n8, Value.int IntKind.u64 n9, Value.int IntKind.i64 n10,
  Value.int IntKind.i64 n11] }] }
  w9 fun (v54 : Value) (w10 : World) =>
  ∃ (b4 : Bool),
  v54 = Value.bool b4 ∧
  ((!b4 == b3) = false →
  Rets Try.prog (36 : Nat) { toList := [Value.pointer q1] } w10 fun (v55 : Value) (w11 : World) =>
  ∃ (n12 : Int),
  v55 = Value.int IntKind.i64 n12 ∧
  ((n12 != (↑k7 : Int)) = true →
  StoreR a2 [Value.bool false] w11 fun (w12 : World) =>
  ∃ (b5 : Bool), cellAt w12 a2 (Value.bool b5) ∧ K (Value.bool b5) w12) ∧
  ((n12 != (↑k7 : Int)) = false →
  (b3 = true →
  (0 : Int) ≤ n1 ∧
  n1 < (↑l : Int) ∧
  someR q fun (a6 : Addr) =>
  ∃ (n13 : Int),
  cellAt w11 (Addr.add (Addr.add a6 (Int.toNat n1 * (5 : Nat))) (0 : Nat)) (Value.int IntKind.i64 n13) ∧
  ∃ (h2 : List Value → World → Prop),
  (((n13 == cause) = true →
  (0 : Int) ≤ n1 ∧
  n1 < (↑l : Int) ∧
  someR q fun (a7 : Addr) =>
  ∃ (n14 : Int),
  ∃ (n15 : Int),
  ∃ (n16 : Int),
  ∃ (n17 : Int),
  ∃ (n18 : Int),
  (cellAt w11 (Addr.add (Addr.add a7 (Int.toNat n1 * (5 : Nat))) (0 : Nat)) (Value.int IntKind.i64 n14) ∧
  cellAt w11 (Addr.add (Addr.add a7 (Int.toNat n1 * (5 : Nat))) (1 : Nat)) (Value.int IntKind.u64 n15) ∧
  cellAt w11 (Addr.add (Addr.add a7 (Int.toNat n1 * (5 : Nat))) (2 : Nat)) (Value.int IntKind.u64 n16) ∧
  cellAt w11 (Addr.add (Addr.add a7 (Int.toNat n1 * (5 : Nat))) (3 : Nat)) (Value.int IntKind.i64 n17) ∧
  cellAt w11 (Addr.add (Addr.add a7 (Int.toNat n1 * (5 : Nat))) (4 : Nat)) (Value.int IntKind.i64 n18)) ∧
  NewR (87 : Nat)
  [Value.int IntKind.i64 n14, Value.int IntKind.u64 n15, Value.int IntKind.u64 n16, Value.int IntKind.i64 n17,
  Value.int IntKind.i64 n18]
  w11 fun (a8 : Addr) (w13 : World) =>
  RunR Try.prog
  (builtinV Builtin.append { toList := [(83 : Nat), (83 : Nat)] } (nat_lit 83)
  { toList := [Value.slice q2 k3 k4, Value.slice (some a8) (1 : Nat) (1 : Nat)] })
  w13 fun (v56 : Value) (w14 : World) =>
  ∃ (q5 : Option Addr), ∃ (k9 : Nat), ∃ (k10 : Nat), v56 = Value.slice q5 k9 k10 ∧ h2 [Value.slice q5 k9 k10] w14) ∧
  ((n13 == cause) = false → h2 [Value.slice q2 k3 k4] w11)) ∧
  ∀ (w15 : World) (q6 : Option Addr) (k11 k12 : Nat) (v57 v58 v59 v60 v61 v62 v63 : Value),
  h2 [Value.slice q6 k11 k12] w15 →
  StoreR a3 [Value.slice q4 k7 k8] w15 fun (w16 : World) =>
  ∃ (k13 : Nat),
  k13 < k2 ∧ h1 k13 [Value.slice q6 k11 k12, Value.int IntKind.i64 (IntKind.wrap IntKind.i64 (n1 + (1 : Int)))] w16) ∧
  (b3 = false →
  ∃ (h3 : List Value → World → Prop),
  h3 [Value.slice q2 k3 k4] w11 ∧
  ∀ (w17 : World) (q7 : Option Addr) (k14 k15 : Nat) (v64 v65 v66 v67 v68 v69 v70 : Value),
  h3 [Value.slice q7 k14 k15] w17 →
  StoreR a3 [Value.slice q4 k7 k8] w17 fun (w18 : World) =>
  ∃ (k16 : Nat),
  k16 < k2 ∧ h1 k16 [Value.slice q7 k14 k15, Value.int IntKind.i64 (IntKind.wrap IntKind.i64 (n1 + (1 : Int)))] w18))) ∧
  ((!b4 == b3) = true →
  StoreR a2 [Value.bool false] w10 fun (w19 : World) =>
  ∃ (b6 : Bool), cellAt w19 a2 (Value.bool b6) ∧ K (Value.bool b6) w19)) ∧
  (decide (n1 < (↑l : Int)) = false →
  ∃ (h4 : Nat → List Value → World → Prop),
  (∃ (k17 : Nat), h4 k17 [Value.int IntKind.i64 (-1 : Int)] w7) ∧
  ∀ (k18 : Nat) (w20 : World) (n19 : Int)
  (v71 v72 v73 v74 v75 v76 v77 v78 v79 v80 v81 v82 v83 v84 v85 v86 v87 v88 v89 v90 v91 v92 v93 v94 v95 v96 v97 v98 v99
  v100 v101 v102 v103 v104 v105 v106 v107 v108 v109 v110 v111 v112 v113 v114 v115 v116 v117 : Value),
  h4 k18 [Value.int IntKind.i64 n19] w20 →
  (decide (n19 < (8 : Int)) = true →
  (decide (n19 ≥ (1 : Int)) = true →
  ∃ (h5 : List Value → World → Prop),
  ((decide (n19 ≤ (6 : Int)) = true →
  NewR (9 : Nat)
  [Value.string { data := #[(101 : UInt8), (118 : UInt8), (105 : UInt8), (99 : UInt8), (116 : UInt8)] },
  Value.string { data := #[(101 : UInt8), (120 : UInt8), (112 : UInt8), (105 : UInt8), (114 : UInt8), (101 : UInt8)] },
  Value.string { data := #[(100 : UInt8), (101 : UInt8), (108 : UInt8)] },
  Value.string { data := #[(99 : UInt8), (108 : UInt8), (101 : UInt8), (97 : UInt8), (114 : UInt8)] },
  Value.string { data := #[(99 : UInt8), (108 : UInt8), (111 : UInt8), (115 : UInt8), (101 : UInt8)] },
  Value.string { data := #[(114 : UInt8), (101 : UInt8), (106 : UInt8), (101 : UInt8), (99 : UInt8), (116 : UInt8)] }]
  w20 fun (a9 : Addr) (w21 : World) =>
  (0 : Int) ≤ IntKind.wrap IntKind.i64 (n19 - (1 : Int)) ∧
  IntKind.wrap IntKind.i64 (n19 - (1 : Int)) < (↑(6 : Nat) : Int) ∧
  ∃ (s1 : ByteArray),
  cellAt w21 (Addr.add a9 (Int.toNat (IntKind.wrap IntKind.i64 (n19 - (1 : Int))) * (1 : Nat))) (Value.string s1) ∧
  h5 [Value.string s1] w21) ∧
  (decide (n19 ≤ (6 : Int)) = false → h5 [Value.string { data := #[] }] w20)) ∧
  ∀ (w22 : World) (s2 : ByteArray) (v118 v119 v120 v121 v122 : Value),
  h5 [Value.string s2] w22 →
  Drw w22 fun (w23 : World) =>
  ∃ (h6 : World → Prop),
  h6 w23 ∧
  ∃ (q8 : Option Addr),
  ∃ (k19 : Nat),
  ∃ (k20 : Nat),
  (∀ (w24 : World), h6 w24 → World.cell? w24 a3 = some (Value.slice q8 k19 k20)) ∧
  Rets Try.prog (37 : Nat) { toList := [Value.pointer q1, Value.int IntKind.i64 n19] } w23
  fun (v123 : Value) (w25 : World) =>
  ∃ (n20 : Int),
  v123 = Value.int IntKind.i64 n20 ∧
  h6 w25 ∧
  Rets Try.prog (57 : Nat) { toList := [Value.slice q8 k19 k20, Value.int IntKind.i64 n19] } w25
  fun (v124 : Value) (w26 : World) =>
  ∃ (n21 : Int),
  v124 = Value.int IntKind.i64 n21 ∧
  ((n20 != n21) = false →
  Rets Try.prog (58 : Nat) { toList := [Value.int IntKind.i64 n19] } w26 fun (v125 : Value) (w27 : World) =>
  ∃ (s3 : ByteArray),
  v125 = Value.string s3 ∧
  ((!ByteArray.toList s3 == ByteArray.toList s2) = false →
  Rets Try.prog (33 : Nat) { toList := [Value.int IntKind.i64 n19] } w27 fun (v126 : Value) (w28 : World) =>
  ∃ (b7 : Bool),
  v126 = Value.bool b7 ∧
  ((!b7 == !ByteArray.toList s2 == ByteArray.toList { data := #[] }) = false →
  Rets Try.prog (59 : Nat) { toList := [Value.int IntKind.i64 n19] } w28 fun (v127 : Value) (w29 : World) =>
  ∃ (b8 : Bool),
  v127 = Value.bool b8 ∧
  ((!ByteArray.toList s2 == ByteArray.toList { data := #[] }) = true →
  ((!b8 == (n19 != (6 : Int))) = true →
  StoreR a2 [Value.bool false] w29 fun (w30 : World) =>
  ∃ (b9 : Bool), cellAt w30 a2 (Value.bool b9) ∧ K (Value.bool b9) w30) ∧
  ((!b8 == (n19 != (6 : Int))) = false →
  ∃ (k21 : Nat), k21 < k18 ∧ h4 k21 [Value.int IntKind.i64 (IntKind.wrap IntKind.i64 (n19 + (1 : Int)))] w29)) ∧
  ((!ByteArray.toList s2 == ByteArray.toList { data := #[] }) = false →
  ((!b8 == false) = true →
  StoreR a2 [Value.bool false] w29 fun (w31 : World) =>
  ∃ (b10 : Bool), cellAt w31 a2 (Value.bool b10) ∧ K (Value.bool b10) w31) ∧
  ((!b8 == false) = false →
  ∃ (k22 : Nat), k22 < k18 ∧ h4 k22 [Value.int IntKind.i64 (IntKind.wrap IntKind.i64 (n19 + (1 : Int)))] w29))) ∧
  ((!b7 == !ByteArray.toList s2 == ByteArray.toList { data := #[] }) = true →
  StoreR a2 [Value.bool false] w28 fun (w32 : World) =>
  ∃ (b11 : Bool), cellAt w32 a2 (Value.bool b11) ∧ K (Value.bool b11) w32)) ∧
  ((!ByteArray.toList s3 == ByteArray.toList s2) = true →
  StoreR a2 [Value.bool false] w27 fun (w33 : World) =>
  ∃ (b12 : Bool), cellAt w33 a2 (Value.bool b12) ∧ K (Value.bool b12) w33)) ∧
  ((n20 != n21) = true →
  StoreR a2 [Value.bool false] w26 fun (w34 : World) =>
  ∃ (b13 : Bool), cellAt w34 a2 (Value.bool b13) ∧ K (Value.bool b13) w34)) ∧
  (decide (n19 ≥ (1 : Int)) = false →
  ∃ (h7 : List Value → World → Prop),
  h7 [Value.string { data := #[] }] w20 ∧
  ∀ (w35 : World) (s4 : ByteArray) (v128 v129 v130 v131 v132 : Value),
  h7 [Value.string s4] w35 →
  Drw w35 fun (w36 : World) =>
  ∃ (h8 : World → Prop),
  h8 w36 ∧
  ∃ (q9 : Option Addr),
  ∃ (k23 : Nat),
  ∃ (k24 : Nat),
  (∀ (w37 : World), h8 w37 → World.cell? w37 a3 = some (Value.slice q9 k23 k24)) ∧
  Rets Try.prog (37 : Nat) { toList := [Value.pointer q1, Value.int IntKind.i64 n19] } w36
  fun (v133 : Value) (w38 : World) =>
  ∃ (n22 : Int),
  v133 = Value.int IntKind.i64 n22 ∧
  h8 w38 ∧
  Rets Try.prog (57 : Nat) { toList := [Value.slice q9 k23 k24, Value.int IntKind.i64 n19] } w38
  fun (v134 : Value) (w39 : World) =>
  ∃ (n23 : Int),
  v134 = Value.int IntKind.i64 n23 ∧
  ((n22 != n23) = false →
  Rets Try.prog (58 : Nat) { toList := [Value.int IntKind.i64 n19] } w39 fun (v135 : Value) (w40 : World) =>
  ∃ (s5 : ByteArray),
  v135 = Value.string s5 ∧
  ((!ByteArray.toList s5 == ByteArray.toList s4) = false →
  Rets Try.prog (33 : Nat) { toList := [Value.int IntKind.i64 n19] } w40 fun (v136 : Value) (w41 : World) =>
  ∃ (b14 : Bool),
  v136 = Value.bool b14 ∧
  ((!b14 == !ByteArray.toList s4 == ByteArray.toList { data := #[] }) = false →
  Rets Try.prog (59 : Nat) { toList := [Value.int IntKind.i64 n19] } w41 fun (v137 : Value) (w42 : World) =>
  ∃ (b15 : Bool),
  v137 = Value.bool b15 ∧
  ((!ByteArray.toList s4 == ByteArray.toList { data := #[] }) = true →
  ((!b15 == (n19 != (6 : Int))) = true →
  StoreR a2 [Value.bool false] w42 fun (w43 : World) =>
  ∃ (b16 : Bool), cellAt w43 a2 (Value.bool b16) ∧ K (Value.bool b16) w43) ∧
  ((!b15 == (n19 != (6 : Int))) = false →
  ∃ (k25 : Nat), k25 < k18 ∧ h4 k25 [Value.int IntKind.i64 (IntKind.wrap IntKind.i64 (n19 + (1 : Int)))] w42)) ∧
  ((!ByteArray.toList s4 == ByteArray.toList { data := #[] }) = false →
  ((!b15 == false) = true →
  StoreR a2 [Value.bool false] w42 fun (w44 : World) =>
  ∃ (b17 : Bool), cellAt w44 a2 (Value.bool b17) ∧ K (Value.bool b17) w44) ∧
  ((!b15 == false) = false →
  ∃ (k26 : Nat), k26 < k18 ∧ h4 k26 [Value.int IntKind.i64 (IntKind.wrap IntKind.i64 (n19 + (1 : Int)))] w42))) ∧
  ((!b14 == !ByteArray.toList s4 == ByteArray.toList { data := #[] }) = true →
  StoreR a2 [Value.bool false] w41 fun (w45 : World) =>
  ∃ (b18 : Bool), cellAt w45 a2 (Value.bool b18) ∧ K (Value.bool b18) w45)) ∧
  ((!ByteArray.toList s5 == ByteArray.toList s4) = true →
  StoreR a2 [Value.bool false] w40 fun (w46 : World) =>
  ∃ (b19 : Bool), cellAt w46 a2 (Value.bool b19) ∧ K (Value.bool b19) w46)) ∧
  ((n22 != n23) = true →
  StoreR a2 [Value.bool false] w39 fun (w47 : World) =>
  ∃ (b20 : Bool), cellAt w47 a2 (Value.bool b20) ∧ K (Value.bool b20) w47))) ∧
  (decide (n19 < (8 : Int)) = false →
  ∃ (h9 : Nat → List Value → World → Prop),
  (∃ (k27 : Nat), h9 k27 [Value.int IntKind.i64 (-1 : Int)] w20) ∧
  ∀ (k28 : Nat) (w48 : World) (n24 : Int)
  (v138 v139 v140 v141 v142 v143 v144 v145 v146 v147 v148 v149 v150 v151 v152 v153 v154 v155 v156 v157 v158 v159 v160 v161
  v162 v163 v164 v165 v166 v167 v168 v169 v170 v171 v172 : Value),
  h9 k28 [Value.int IntKind.i64 n24] w48 →
  ∃ (q10 : Option Addr),
  ∃ (k29 : Nat),
  ∃ (k30 : Nat),
  cellAt w48 a3 (Value.slice q10 k29 k30) ∧
  (decide (n24 ≤ (↑k29 : Int)) = true →
  Rets Try.prog (34 : Nat) { toList := [Value.pointer q1, Value.int IntKind.i64 n24] } w48
  fun (v173 : Value) (w49 : World) =>
  ∃ (n25 : Int),
  ∃ (n26 : Int),
  ∃ (n27 : Int),
  ∃ (n28 : Int),
  ∃ (n29 : Int),
  ∃ (b21 : Bool),
  v173 =
  Value.tuple
  {
  toList :=
  [Value.agg
  {
  toList :=
  [Value.int IntKind.i64 n25, Value.int IntKind.u64 n26, Value.int IntKind.u64 n27, Value.int IntKind.i64 n28,
  Value.int IntKind.i64 n29] },
  Value.bool b21] } ∧
  NewR (61 : Nat)
  [Value.int IntKind.i64 (0 : Int), Value.int IntKind.u64 (0 : Int), Value.int IntKind.u64 (0 : Int),
  Value.int IntKind.i64 (0 : Int), Value.int IntKind.i64 (0 : Int)]
  w49 fun (a10 : Addr) (w50 : World) =>
  StoreR a10
  [Value.int IntKind.i64 n25, Value.int IntKind.u64 n26, Value.int IntKind.u64 n27, Value.int IntKind.i64 n28,
  Value.int IntKind.i64 n29]
  w50 fun (w51 : World) =>
  Drw w51 fun (w52 : World) =>
  (decide (n24 ≥ (0 : Int)) = true →
  ∃ (q11 : Option Addr),
  ∃ (k31 : Nat),
  ∃ (k32 : Nat),
  cellAt w52 a3 (Value.slice q11 k31 k32) ∧
  ((!b21 == decide (n24 < (↑k31 : Int))) = false →
  (b21 = true →
  ∃ (n30 : Int),
  ∃ (n31 : Int),
  ∃ (n32 : Int),
  ∃ (n33 : Int),
  ∃ (n34 : Int),
  (cellAt w52 (Addr.add a10 (0 : Nat)) (Value.int IntKind.i64 n30) ∧
  cellAt w52 (Addr.add a10 (1 : Nat)) (Value.int IntKind.u64 n31) ∧
  cellAt w52 (Addr.add a10 (2 : Nat)) (Value.int IntKind.u64 n32) ∧
  cellAt w52 (Addr.add a10 (3 : Nat)) (Value.int IntKind.i64 n33) ∧
  cellAt w52 (Addr.add a10 (4 : Nat)) (Value.int IntKind.i64 n34)) ∧
  ∃ (q12 : Option Addr),
  ∃ (k33 : Nat),
  ∃ (k34 : Nat),
  cellAt w52 a3 (Value.slice q12 k33 k34) ∧
  (0 : Int) ≤ n24 ∧
  n24 < (↑k33 : Int) ∧
  someR q12 fun (a11 : Addr) =>
  ∃ (n35 : Int),
  ∃ (n36 : Int),
  ∃ (n37 : Int),
  ∃ (n38 : Int),
  ∃ (n39 : Int),
  (cellAt w52 (Addr.add (Addr.add a11 (Int.toNat n24 * (5 : Nat))) (0 : Nat)) (Value.int IntKind.i64 n35) ∧
  cellAt w52 (Addr.add (Addr.add a11 (Int.toNat n24 * (5 : Nat))) (1 : Nat)) (Value.int IntKind.u64 n36) ∧
  cellAt w52 (Addr.add (Addr.add a11 (Int.toNat n24 * (5 : Nat))) (2 : Nat)) (Value.int IntKind.u64 n37) ∧
  cellAt w52 (Addr.add (Addr.add a11 (Int.toNat n24 * (5 : Nat))) (3 : Nat)) (Value.int IntKind.i64 n38) ∧
  cellAt w52 (Addr.add (Addr.add a11 (Int.toNat n24 * (5 : Nat))) (4 : Nat)) (Value.int IntKind.i64 n39)) ∧
  ((!(n30 == n35 && (n31 == n36 && (n32 == n37 && (n33 == n38 && n34 == n39))))) = true →
  StoreR a2 [Value.bool false] w52 fun (w53 : World) =>
  ∃ (b22 : Bool), cellAt w53 a2 (Value.bool b22) ∧ K (Value.bool b22) w53) ∧
  ((!(n30 == n35 && (n31 == n36 && (n32 == n37 && (n33 == n38 && n34 == n39))))) = false →
  ∃ (k35 : Nat), k35 < k28 ∧ h9 k35 [Value.int IntKind.i64 (IntKind.wrap IntKind.i64 (n24 + (1 : Int)))] w52)) ∧
  (b21 = false →
  ∃ (k36 : Nat), k36 < k28 ∧ h9 k36 [Value.int IntKind.i64 (IntKind.wrap IntKind.i64 (n24 + (1 : Int)))] w52)) ∧
  ((!b21 == decide (n24 < (↑k31 : Int))) = true →
  StoreR a2 [Value.bool false] w52 fun (w54 : World) =>
  ∃ (b23 : Bool), cellAt w54 a2 (Value.bool b23) ∧ K (Value.bool b23) w54)) ∧
  (decide (n24 ≥ (0 : Int)) = false →
  ((!b21 == false) = false →
  (b21 = true →
  ∃ (n40 : Int),
  ∃ (n41 : Int),
  ∃ (n42 : Int),
  ∃ (n43 : Int),
  ∃ (n44 : Int),
  (cellAt w52 (Addr.add a10 (0 : Nat)) (Value.int IntKind.i64 n40) ∧
  cellAt w52 (Addr.add a10 (1 : Nat)) (Value.int IntKind.u64 n41) ∧
  cellAt w52 (Addr.add a10 (2 : Nat)) (Value.int IntKind.u64 n42) ∧
  cellAt w52 (Addr.add a10 (3 : Nat)) (Value.int IntKind.i64 n43) ∧
  cellAt w52 (Addr.add a10 (4 : Nat)) (Value.int IntKind.i64 n44)) ∧
  ∃ (q13 : Option Addr),
  ∃ (k37 : Nat),
  ∃ (k38 : Nat),
  cellAt w52 a3 (Value.slice q13 k37 k38) ∧
  (0 : Int) ≤ n24 ∧
  n24 < (↑k37 : Int) ∧
  someR q13 fun (a12 : Addr) =>
  ∃ (n45 : Int),
  ∃ (n46 : Int),
  ∃ (n47 : Int),
  ∃ (n48 : Int),
  ∃ (n49 : Int),
  (cellAt w52 (Addr.add (Addr.add a12 (Int.toNat n24 * (5 : Nat))) (0 : Nat)) (Value.int IntKind.i64 n45) ∧
  cellAt w52 (Addr.add (Addr.add a12 (Int.toNat n24 * (5 : Nat))) (1 : Nat)) (Value.int IntKind.u64 n46) ∧
  cellAt w52 (Addr.add (Addr.add a12 (Int.toNat n24 * (5 : Nat))) (2 : Nat)) (Value.int IntKind.u64 n47) ∧
  cellAt w52 (Addr.add (Addr.add a12 (Int.toNat n24 * (5 : Nat))) (3 : Nat)) (Value.int IntKind.i64 n48) ∧
  cellAt w52 (Addr.add (Addr.add a12 (Int.toNat n24 * (5 : Nat))) (4 : Nat)) (Value.int IntKind.i64 n49)) ∧
  ((!(n40 == n45 && (n41 == n46 && (n42 == n47 && (n43 == n48 && n44 == n49))))) = true →
  StoreR a2 [Value.bool false] w52 fun (w55 : World) =>
  ∃ (b24 : Bool), cellAt w55 a2 (Value.bool b24) ∧ K (Value.bool b24) w55) ∧
  ((!(n40 == n45 && (n41 == n46 && (n42 == n47 && (n43 == n48 && n44 == n49))))) = false →
  ∃ (k39 : Nat), k39 < k28 ∧ h9 k39 [Value.int IntKind.i64 (IntKind.wrap IntKind.i64 (n24 + (1 : Int)))] w52)) ∧
  (b21 = false →
  ∃ (k40 : Nat), k40 < k28 ∧ h9 k40 [Value.int IntKind.i64 (IntKind.wrap IntKind.i64 (n24 + (1 : Int)))] w52)) ∧
  ((!b21 == false) = true →
  StoreR a2 [Value.bool false] w52 fun (w56 : World) =>
  ∃ (b25 : Bool), cellAt w56 a2 (Value.bool b25) ∧ K (Value.bool b25) w56))) ∧
  (decide (n24 ≤ (↑k29 : Int)) = false →
  NewR (3 : Nat) [Value.int IntKind.i64 cause] w48 fun (a13 : Addr) (w57 : World) =>
  Rets Try.prog (60 : Nat) { toList := [Value.pointer q1, Value.slice (some a13) (1 : Nat) (1 : Nat)] } w57
  fun (v174 : Value) (w58 : World) =>
  ∃ (f1 : Fn),
  ∃ (a14 : Array Value),
  ∃ (c1 : Array Value),
  v174 = Value.func f1 a14 c1 ∧
  (false = true →
  StoreR a2 [Value.bool false] w58 fun (w59 : World) =>
  ∃ (b26 : Bool), cellAt w59 a2 (Value.bool b26) ∧ K (Value.bool b26) w59) ∧
  (false = false →
  NewR (83 : Nat) [Value.slice none (0 : Nat) (0 : Nat)] w58 fun (a15 : Addr) (w60 : World) =>
  NewR (3 : Nat) [Value.int IntKind.i64 (0 : Int)] w60 fun (a16 : Addr) (w61 : World) =>
  StoreR a16 [Value.int IntKind.i64 (-1 : Int)] w61 fun (w62 : World) =>
  ∃ (v175 : Value),
  ∃ (v176 : Value),
  Value.func f1 a14 c1 = Value.func (Fn.func (81 : Nat)) { toList := [] } { toList := [v175, v176] } ∧
  LoopR w62 fun (k41 k42 : Nat) (L1 : Loop) (w63 : World) =>
  (∀ (n50 n51 n52 n53 n54 n55 : Int) (w64 : World) (h10 : Value → World → Prop),
  RecR k42 L1 w64 →
  (NewR (61 : Nat)
  [Value.int IntKind.i64 (0 : Int), Value.int IntKind.u64 (0 : Int), Value.int IntKind.u64 (0 : Int),
  Value.int IntKind.i64 (0 : Int), Value.int IntKind.i64 (0 : Int)]
  w64 fun (a17 : Addr) (w65 : World) =>
  StoreR a17
  [Value.int IntKind.i64 n51, Value.int IntKind.u64 n52, Value.int IntKind.u64 n53, Value.int IntKind.i64 n54,
  Value.int IntKind.i64 n55]
  w65 fun (w66 : World) =>
  BegR k42 L1 w66 fun (w67 : World) =>
  ∃ (q14 : Option Addr),
  ∃ (k43 : Nat),
  ∃ (k44 : Nat),
  cellAt w67 a15 (Value.slice q14 k43 k44) ∧
  ∃ (n56 : Int),
  cellAt w67 a1 (Value.int IntKind.u64 n56) ∧
  (65 : Int) ≠ (0 : Int) ∧
  (decide ((↑k43 : Int) ≥ IntKind.wrap IntKind.i64 (Int.tmod n56 (65 : Int))) = true →
  FinR k42 L1 (some (Code.exit (6 : Nat))) w67 fun (w68 : World) => h10 (Value.bool false) w68) ∧
  (decide ((↑k43 : Int) ≥ IntKind.wrap IntKind.i64 (Int.tmod n56 (65 : Int))) = false →
  Drw w67 fun (w69 : World) =>
  ∃ (n57 : Int),
  cellAt w69 a16 (Value.int IntKind.i64 n57) ∧
  (decide (n50 ≤ n57) = false →
  ∃ (q15 : Option Addr),
  ∃ (k45 : Nat),
  ∃ (k46 : Nat),
  cellAt w69 a3 (Value.slice q15 k45 k46) ∧
  (decide (n50 ≥ (↑k45 : Int)) = false →
  ∃ (q16 : Option Addr),
  ∃ (k47 : Nat),
  ∃ (k48 : Nat),
  cellAt w69 a3 (Value.slice q16 k47 k48) ∧
  (0 : Int) ≤ n50 ∧
  n50 < (↑k47 : Int) ∧
  someR q16 fun (a18 : Addr) =>
  ∃ (n58 : Int),
  ∃ (n59 : Int),
  ∃ (n60 : Int),
  ∃ (n61 : Int),
  ∃ (n62 : Int),
  (cellAt w69 (Addr.add (Addr.add a18 (Int.toNat n50 * (5 : Nat))) (0 : Nat)) (Value.int IntKind.i64 n58) ∧
  cellAt w69 (Addr.add (Addr.add a18 (Int.toNat n50 * (5 : Nat))) (1 : Nat)) (Value.int IntKind.u64 n59) ∧
  cellAt w69 (Addr.add (Addr.add a18 (Int.toNat n50 * (5 : Nat))) (2 : Nat)) (Value.int IntKind.u64 n60) ∧
  cellAt w69 (Addr.add (Addr.add a18 (Int.toNat n50 * (5 : Nat))) (3 : Nat)) (Value.int IntKind.i64 n61) ∧
  cellAt w69 (Addr.add (Addr.add a18 (Int.toNat n50 * (5 : Nat))) (4 : Nat)) (Value.int IntKind.i64 n62)) ∧
  ∃ (n63 : Int),
  ∃ (n64 : Int),
  ∃ (n65 : Int),
  ∃ (n66 : Int),
  ∃ (n67 : Int),
  (cellAt w69 (Addr.add a17 (0 : Nat)) (Value.int IntKind.i64 n63) ∧
  cellAt w69 (Addr.add a17 (1 : Nat)) (Value.int IntKind.u64 n64) ∧
  cellAt w69 (Addr.add a17 (2 : Nat)) (Value.int IntKind.u64 n65) ∧
  cellAt w69 (Addr.add a17 (3 : Nat)) (Value.int IntKind.i64 n66) ∧
  cellAt w69 (Addr.add a17 (4 : Nat)) (Value.int IntKind.i64 n67)) ∧
  ((!(n58 == n63 && (n59 == n64 && (n60 == n65 && (n61 == n66 && n62 == n67))))) = true →
  StoreR a2 [Value.bool false] w69 fun (w70 : World) =>
  FinR k42 L1 (some Code.ret) w70 fun (w71 : World) => h10 (Value.bool false) w71) ∧
  ((!(n58 == n63 && (n59 == n64 && (n60 == n65 && (n61 == n66 && n62 == n67))))) = false →
  StoreR a16 [Value.int IntKind.i64 n50] w69 fun (w72 : World) =>
  ∃ (q17 : Option Addr),
  ∃ (k49 : Nat),
  ∃ (k50 : Nat),
  cellAt w72 a15 (Value.slice q17 k49 k50) ∧
  ∃ (n68 : Int),
  ∃ (n69 : Int),
  ∃ (n70 : Int),
  ∃ (n71 : Int),
  ∃ (n72 : Int),
  (cellAt w72 (Addr.add a17 (0 : Nat)) (Value.int IntKind.i64 n68) ∧
  cellAt w72 (Addr.add a17 (1 : Nat)) (Value.int IntKind.u64 n69) ∧
  cellAt w72 (Addr.add a17 (2 : Nat)) (Value.int IntKind.u64 n70) ∧
  cellAt w72 (Addr.add a17 (3 : Nat)) (Value.int IntKind.i64 n71) ∧
  cellAt w72 (Addr.add a17 (4 : Nat)) (Value.int IntKind.i64 n72)) ∧
  NewR (87 : Nat)
  [Value.int IntKind.i64 n68, Value.int IntKind.u64 n69, Value.int IntKind.u64 n70, Value.int IntKind.i64 n71,
  Value.int IntKind.i64 n72]
  w72 fun (a19 : Addr) (w73 : World) =>
  RunR Try.prog
  (builtinV Builtin.append { toList := [(83 : Nat), (83 : Nat)] } (nat_lit 83)
  { toList := [Value.slice q17 k49 k50, Value.slice (some a19) (1 : Nat) (1 : Nat)] })
  w73 fun (v177 : Value) (w74 : World) =>
  ∃ (q18 : Option Addr),
  ∃ (k51 : Nat),
  ∃ (k52 : Nat),
  v177 = Value.slice q18 k51 k52 ∧
  StoreR a15 [Value.slice q18 k51 k52] w74 fun (w75 : World) =>
  FinR k42 L1 none w75 fun (w76 : World) => h10 (Value.bool true) w76)) ∧
  (decide (n50 ≥ (↑k45 : Int)) = true →
  StoreR a2 [Value.bool false] w69 fun (w77 : World) =>
  FinR k42 L1 (some Code.ret) w77 fun (w78 : World) => h10 (Value.bool false) w78)) ∧
  (decide (n50 ≤ n57) = true →
  StoreR a2 [Value.bool false] w69 fun (w79 : World) =>
  FinR k42 L1 (some Code.ret) w79 fun (w80 : World) => h10 (Value.bool false) w80))) →
  RoundR Try.prog k42
  {
  toList :=
  [Value.int IntKind.i64 n50,
  Value.agg
  {
  toList :=
  [Value.int IntKind.i64 n51, Value.int IntKind.u64 n52, Value.int IntKind.u64 n53, Value.int IntKind.i64 n54,
  Value.int IntKind.i64 n55] }] }
  w64 h10) →
  Rets Try.prog (81 : Nat) { toList := [Value.func (Fn.yield k42) { toList := [] } { toList := [] }, v175, v176] } w63
  fun (v178 : Value) (w81 : World) =>
  (EndR k42 L1 none w81 fun (w82 : World) =>
  Drw w82 fun (w83 : World) =>
  ∃ (h11 : World → Prop),
  h11 w83 ∧
  ∃ (q19 : Option Addr),
  ∃ (k53 : Nat),
  ∃ (k54 : Nat),
  (∀ (w84 : World), h11 w84 → World.cell? w84 a15 = some (Value.slice q19 k53 k54)) ∧
  ∃ (n73 : Int),
  (∀ (w85 : World), h11 w85 → World.cell? w85 a1 = some (Value.int IntKind.u64 n73)) ∧
  (65 : Int) ≠ (0 : Int) ∧
  (0 : Int) ≤ minI (↑k3 : Int) (IntKind.wrap IntKind.i64 (Int.tmod n73 (65 : Int))) ∧
  minI (↑k3 : Int) (IntKind.wrap IntKind.i64 (Int.tmod n73 (65 : Int))) ≤ (↑k4 : Int) ∧
  Rets Try.prog (61 : Nat)
  {
  toList :=
  [Value.slice q19 k53 k54,
  Value.slice (slcA q2 (0 : Nat) k4 (5 : Nat))
  (Int.toNat (minI (↑k3 : Int) (IntKind.wrap IntKind.i64 (Int.tmod n73 (65 : Int)))) - (0 : Nat)) (k4 - (0 : Nat))] }
  w83 fun (v179 : Value) (w86 : World) =>
  ∃ (b27 : Bool),
  v179 = Value.bool b27 ∧
  h11 w86 ∧
  (b27 = true →
  ∃ (q20 : Option Addr),
  ∃ (k55 : Nat),
  ∃ (k56 : Nat),
  (∀ (w87 : World), h11 w87 → World.cell? w87 a3 = some (Value.slice q20 k55 k56)) ∧
  ∃ (q21 : Option Addr),
  ∃ (k57 : Nat),
  ∃ (k58 : Nat),
  (∀ (w88 : World), h11 w88 → World.cell? w88 a3 = some (Value.slice q21 k57 k58)) ∧
  Rets Try.prog (38 : Nat) { toList := [Value.pointer q1] } w86 fun (v180 : Value) (w89 : World) =>
  ∃ (n74 : Int),
  v180 = Value.int IntKind.i64 n74 ∧
  h11 w89 ∧
  Rets Try.prog (57 : Nat) { toList := [Value.slice q21 k57 k58, Value.int IntKind.i64 (6 : Int)] } w89
  fun (v181 : Value) (w90 : World) =>
  ∃ (n75 : Int),
  v181 = Value.int IntKind.i64 n75 ∧
  h11 w90 ∧
  ((n74 == IntKind.wrap IntKind.i64 ((↑k55 : Int) - n75)) = true →
  Rets Try.prog (29 : Nat) { toList := [] } w90 fun (v182 : Value) (w91 : World) =>
  ∃ (b28 : Bool),
  v182 = Value.bool b28 ∧
  StoreR a2 [Value.bool b28] w91 fun (w92 : World) =>
  MarkR k41 w92 fun (w93 : World) => ∃ (b29 : Bool), cellAt w93 a2 (Value.bool b29) ∧ K (Value.bool b29) w93) ∧
  ((n74 == IntKind.wrap IntKind.i64 ((↑k55 : Int) - n75)) = false →
  StoreR a2 [Value.bool false] w90 fun (w94 : World) =>
  MarkR k41 w94 fun (w95 : World) => ∃ (b30 : Bool), cellAt w95 a2 (Value.bool b30) ∧ K (Value.bool b30) w95)) ∧
  (b27 = false →
  StoreR a2 [Value.bool false] w86 fun (w96 : World) =>
  MarkR k41 w96 fun (w97 : World) => ∃ (b31 : Bool), cellAt w97 a2 (Value.bool b31) ∧ K (Value.bool b31) w97)) ∨
  (EndR k42 L1 (some Code.ret) w81 fun (w98 : World) =>
  MarkR k41 w98 fun (w99 : World) => ∃ (b32 : Bool), cellAt w99 a2 (Value.bool b32) ∧ K (Value.bool b32) w99) ∨
  EndR k42 L1 (some (Code.exit (6 : Nat))) w81 fun (w100 : World) =>
  Drw w100 fun (w101 : World) =>
  ∃ (h12 : World → Prop),
  h12 w101 ∧
  ∃ (q22 : Option Addr),
  ∃ (k59 : Nat),
  ∃ (k60 : Nat),
  (∀ (w102 : World), h12 w102 → World.cell? w102 a15 = some (Value.slice q22 k59 k60)) ∧
  ∃ (n76 : Int),
  (∀ (w103 : World), h12 w103 → World.cell? w103 a1 = some (Value.int IntKind.u64 n76)) ∧
  (65 : Int) ≠ (0 : Int) ∧
  (0 : Int) ≤ minI (↑k3 : Int) (IntKind.wrap IntKind.i64 (Int.tmod n76 (65 : Int))) ∧
  minI (↑k3 : Int) (IntKind.wrap IntKind.i64 (Int.tmod n76 (65 : Int))) ≤ (↑k4 : Int) ∧
  Rets Try.prog (61 : Nat)
  {
  toList :=
  [Value.slice q22 k59 k60,
  Value.slice (slcA q2 (0 : Nat) k4 (5 : Nat))
  (Int.toNat (minI (↑k3 : Int) (IntKind.wrap IntKind.i64 (Int.tmod n76 (65 : Int)))) - (0 : Nat)) (k4 - (0 : Nat))] }
  w101 fun (v183 : Value) (w104 : World) =>
  ∃ (b33 : Bool),
  v183 = Value.bool b33 ∧
  h12 w104 ∧
  (b33 = true →
  ∃ (q23 : Option Addr),
  ∃ (k61 : Nat),
  ∃ (k62 : Nat),
  (∀ (w105 : World), h12 w105 → World.cell? w105 a3 = some (Value.slice q23 k61 k62)) ∧
  ∃ (q24 : Option Addr),
  ∃ (k63 : Nat),
  ∃ (k64 : Nat),
  (∀ (w106 : World), h12 w106 → World.cell? w106 a3 = some (Value.slice q24 k63 k64)) ∧
  Rets Try.prog (38 : Nat) { toList := [Value.pointer q1] } w104 fun (v184 : Value) (w107 : World) =>
  ∃ (n77 : Int),
  v184 = Value.int IntKind.i64 n77 ∧
  h12 w107 ∧
  Rets Try.prog (57 : Nat) { toList := [Value.slice q24 k63 k64, Value.int IntKind.i64 (6 : Int)] } w107
  fun (v185 : Value) (w108 : World) =>
  ∃ (n78 : Int),
  v185 = Value.int IntKind.i64 n78 ∧
  h12 w108 ∧
  ((n77 == IntKind.wrap IntKind.i64 ((↑k61 : Int) - n78)) = true →
  Rets Try.prog (29 : Nat) { toList := [] } w108 fun (v186 : Value) (w109 : World) =>
  ∃ (b34 : Bool),
  v186 = Value.bool b34 ∧
  StoreR a2 [Value.bool b34] w109 fun (w110 : World) =>
  MarkR k41 w110 fun (w111 : World) => ∃ (b35 : Bool), cellAt w111 a2 (Value.bool b35) ∧ K (Value.bool b35) w111) ∧
  ((n77 == IntKind.wrap IntKind.i64 ((↑k61 : Int) - n78)) = false →
  StoreR a2 [Value.bool false] w108 fun (w112 : World) =>
  MarkR k41 w112 fun (w113 : World) => ∃ (b36 : Bool), cellAt w113 a2 (Value.bool b36) ∧ K (Value.bool b36) w113)) ∧
  (b33 = false →
  StoreR a2 [Value.bool false] w104 fun (w114 : World) =>
  MarkR k41 w114 fun (w115 : World) => ∃ (b37 : Bool), cellAt w115 a2 (Value.bool b37) ∧ K (Value.bool b37) w115))))))
theorem cortadolaw31_EventPlays_eq (q : Option Addr) (l c : Nat) (cause most : Int) (w : World) (K : Value → World → Prop) : fw Try.prog Try.f9 (annL [(2, [(9, some 83), (10, some 3), (11, none), (12, none), (28, none), (29, none), (30, none), (31, none), (32, none), (33, none), (34, none), (35, none), (36, none), (37, none), (38, none), (39, none), (40, none), (41, none), (42, none), (43, none), (44, none), (45, none), (46, none), (47, none), (48, none), (49, none), (50, none), (51, none), (52, none), (53, none), (54, none), (55, none), (56, none), (57, none), (58, none), (59, none), (60, none), (61, none), (62, none), (63, none), (64, none), (65, none), (66, none), (67, none), (68, none), (69, none), (70, none), (71, none), (72, none), (73, none), (74, none), (75, none)]), (6, [(9, some 83), (68, none), (69, none), (70, none), (71, none), (72, none), (73, none), (74, none)]), (8, [(13, some 3), (14, none), (76, none), (77, none), (78, none), (79, none), (80, none), (81, none), (82, none), (83, none), (84, none), (85, none), (86, none), (87, none), (88, none), (89, none), (90, none), (91, none), (92, none), (93, none), (94, none), (95, none), (96, none), (97, none), (98, none), (99, none), (100, none), (101, none), (102, none), (103, none), (104, none), (105, none), (106, none), (107, none), (108, none), (109, none), (110, none), (111, none), (112, none), (113, none), (114, none), (115, none), (116, none), (117, none), (118, none), (119, none), (120, none), (121, none)]), (11, [(14, some 9), (86, none), (87, none), (88, none), (89, none), (90, none)]), (14, [(15, some 3), (16, none), (17, none), (122, none), (123, none), (124, none), (125, none), (126, none), (127, none), (128, none), (129, none), (130, none), (131, none), (132, none), (133, none), (134, none), (135, none), (136, none), (137, none), (138, none), (139, none), (140, none), (141, none), (142, none), (143, none), (144, none), (145, none), (146, none), (147, none), (148, none), (149, none), (150, none), (151, none), (152, none), (153, none), (154, none)]), (20, [(162, some 3), (163, some 61)])]) (ordL [(8, [(1, 0), (2, 0), (3, 0), (0, 1), (4, 1), (5, 3), (6, 0), (7, 0), (8, 0), (9, 0), (10, 0)]), (20, [(0, 0), (1, 0), (4, 0), (3, 1), (2, 2), (5, 3), (6, 0), (7, 0), (8, 0), (10, 0), (9, 3), (11, 0), (12, 0), (13, 0), (14, 0), (16, 0), (17, 0), (15, 3), (18, 0), (19, 0), (20, 0), (21, 0), (23, 0), (24, 0), (22, 3), (25, 0), (26, 0), (27, 0), (28, 0), (29, 0), (30, 0)]), (26, [(0, 0), (1, 0), (2, 0), (3, 0), (4, 0), (5, 1), (6, 0), (7, 0), (8, 0), (9, 0), (10, 0), (11, 0), (12, 0), (15, 0), (13, 1), (14, 1), (16, 0), (17, 1), (18, 0), (19, 0), (20, 0)]), (1000020, [(81, 2)]), (37, [(0, 0), (1, 1), (2, 0), (3, 0), (4, 0), (5, 1), (6, 0), (7, 0), (8, 0), (9, 0), (11, 0), (10, 1), (12, 0), (13, 1), (14, 1), (15, 0), (16, 0)]), (41, [(1, 0), (2, 0), (3, 0), (0, 1), (4, 1), (5, 0), (6, 0), (7, 0), (8, 0), (9, 2), (10, 0), (11, 0), (13, 1), (14, 0), (15, 1), (12, 2), (16, 2), (17, 0), (18, 0), (19, 0), (20, 0), (21, 3), (22, 0), (23, 3)])]) [.slice q l c, .int .i64 cause, .int .u64 most] w K = cortadolaw31_EventPlays_m q l c cause most w K := by kernel_rfl
theorem cortadolaw31_EventPlays_go (q : Option Addr) (l c : Nat) (cause most : Int) {w : World} {K : Value → World → Prop} (h : cortadolaw31_EventPlays_m q l c cause most w K) : Rets Try.prog 9 #[.slice q l c, .int .i64 cause, .int .u64 most] w K :=
  calls_of_fw plain mixed Try.func9 (by kernel_rfl) (by rw [cortadolaw31_EventPlays_eq]; exact h)
def cortadolaw31_EventStays_m (q : Option Addr) (l c : Nat) (q2 : Option Addr) (l2 c2 : Nat) (w : World) (K : Value → World → Prop) : Prop :=
  NewR (4 : Nat) [Value.bool false] w fun (a1 : Addr) (w1 : World) =>
  (decide ((↑l : Int) > (60 : Int)) = false →
  (decide ((↑l2 : Int) > (60 : Int)) = true →
  Rets Try.prog (29 : Nat) { toList := [] } w1 fun (v1 : Value) (w2 : World) =>
  ∃ (b1 : Bool),
  v1 = Value.bool b1 ∧
  StoreR a1 [Value.bool b1] w2 fun (w3 : World) => ∃ (b2 : Bool), cellAt w3 a1 (Value.bool b2) ∧ K (Value.bool b2) w3) ∧
  (decide ((↑l2 : Int) > (60 : Int)) = false →
  Rets Try.prog (30 : Nat) { toList := [] } w1 fun (v2 : Value) (w4 : World) =>
  ∃ (q1 : Option Addr),
  v2 = Value.pointer q1 ∧
  NewR (44 : Nat) [Value.slice none (0 : Nat) (0 : Nat)] w4 fun (a2 : Addr) (w5 : World) =>
  ∃ (h1 : List Value → World → Prop),
  (∃ (h2 : Nat → List Value → World → Prop),
  (∃ (k1 : Nat), h2 k1 [Value.int IntKind.i64 (0 : Int)] w5) ∧
  ∀ (k2 : Nat) (w6 : World) (n1 : Int)
  (v3 v4 v5 v6 v7 v8 v9 v10 v11 v12 v13 v14 v15 v16 v17 v18 v19 v20 v21 v22 v23 v24 v25 v26 v27 v28 v29 v30 v31 v32 v33 :
  Value),
  h2 k2 [Value.int IntKind.i64 n1] w6 →
  (decide (n1 < (↑l : Int)) = true →
  (decide (n1 < (↑l2 : Int)) = true →
  Drw w6 fun (w7 : World) =>
  (0 : Int) ≤ n1 ∧
  n1 < (↑l2 : Int) ∧
  someR q2 fun (a3 : Addr) =>
  (0 : Int) ≤ n1 ∧
  n1 < (↑l : Int) ∧
  someR q fun (a4 : Addr) =>
  ∃ (n2 : Int),
  cellAt w7 (Addr.add a3 (Int.toNat n1 * (1 : Nat))) (Value.int IntKind.i64 n2) ∧
  ∃ (s1 : ByteArray),
  cellAt w7 (Addr.add a4 (Int.toNat n1 * (1 : Nat))) (Value.string s1) ∧
  Rets Try.prog (31 : Nat)
  {
  toList :=
  [Value.pointer q1,
  Value.agg
  {
  toList :=
  [Value.int IntKind.i64 n2, Value.int IntKind.u64 (0 : Int), Value.int IntKind.u64 (0 : Int), Value.string s1,
  Value.int IntKind.i64 n1] }] }
  w7 fun (v34 : Value) (w8 : World) =>
  ∃ (b3 : Bool),
  v34 = Value.bool b3 ∧
  (b3 = true →
  Drw w8 fun (w9 : World) =>
  ∃ (h3 : World → Prop),
  h3 w9 ∧
  (0 : Int) ≤ n1 ∧
  n1 < (↑l : Int) ∧
  someR q fun (a5 : Addr) =>
  ∃ (q2 : Option Addr),
  ∃ (k3 : Nat),
  ∃ (k4 : Nat),
  (∀ (w10 : World), h3 w10 → World.cell? w10 a2 = some (Value.slice q2 k3 k4)) ∧
  ∃ (s2 : ByteArray),
  (∀ (w11 : World), h3 w11 → World.cell? w11 (Addr.add a5 (Int.toNat n1 * (1 : Nat))) = some (Value.string s2)) ∧
  NewR (9 : Nat) [Value.string s2] w9 fun (a6 : Addr) (w12 : World) =>
  h3 w12 ∧
  RunR Try.prog
  (builtinV Builtin.append { toList := [(44 : Nat), (44 : Nat)] } (nat_lit 44)
  { toList := [Value.slice q2 k3 k4, Value.slice (some a6) (1 : Nat) (1 : Nat)] })
  w12 fun (v35 : Value) (w13 : World) =>
  ∃ (q3 : Option Addr),
  ∃ (k5 : Nat),
  ∃ (k6 : Nat),
  v35 = Value.slice q3 k5 k6 ∧
  StoreR a2 [Value.slice q3 k5 k6] w13 fun (w14 : World) =>
  ∃ (k7 : Nat), k7 < k2 ∧ h2 k7 [Value.int IntKind.i64 (IntKind.wrap IntKind.i64 (n1 + (1 : Int)))] w14) ∧
  (b3 = false → ∃ (k8 : Nat), k8 < k2 ∧ h2 k8 [Value.int IntKind.i64 (IntKind.wrap IntKind.i64 (n1 + (1 : Int)))] w8)) ∧
  (decide (n1 < (↑l2 : Int)) = false → h1 [] w6)) ∧
  (decide (n1 < (↑l : Int)) = false → h1 [] w6)) ∧
  ∀ (w15 : World)
  (v36 v37 v38 v39 v40 v41 v42 v43 v44 v45 v46 v47 v48 v49 v50 v51 v52 v53 v54 v55 v56 v57 v58 v59 v60 v61 v62 v63 v64 v65
  v66 v67 : Value),
  h1 [] w15 →
  Rets Try.prog (32 : Nat) { toList := [Value.pointer q1, Value.slice none (0 : Nat) (0 : Nat)] } w15
  fun (v68 : Value) (w16 : World) =>
  ∃ (f1 : Fn),
  ∃ (a7 : Array Value),
  ∃ (c1 : Array Value),
  v68 = Value.func f1 a7 c1 ∧
  (false = true →
  StoreR a1 [Value.bool false] w16 fun (w17 : World) =>
  ∃ (b4 : Bool), cellAt w17 a1 (Value.bool b4) ∧ K (Value.bool b4) w17) ∧
  (false = false →
  NewR (3 : Nat) [Value.int IntKind.i64 (0 : Int)] w16 fun (a8 : Addr) (w18 : World) =>
  StoreR a8 [Value.int IntKind.i64 (0 : Int)] w18 fun (w19 : World) =>
  ∃ (v69 : Value),
  ∃ (v70 : Value),
  Value.func f1 a7 c1 = Value.func (Fn.func (70 : Nat)) { toList := [] } { toList := [v69, v70] } ∧
  LoopR w19 fun (k9 k10 : Nat) (L1 : Loop) (w20 : World) =>
  (∀ (n3 n4 n5 n6 : Int) (s3 : ByteArray) (n7 : Int) (w21 : World) (h4 : Value → World → Prop),
  RecR k10 L1 w21 →
  (NewR (54 : Nat)
  [Value.int IntKind.i64 (0 : Int), Value.int IntKind.u64 (0 : Int), Value.int IntKind.u64 (0 : Int),
  Value.string { data := #[] }, Value.int IntKind.i64 (0 : Int)]
  w21 fun (a9 : Addr) (w22 : World) =>
  StoreR a9
  [Value.int IntKind.i64 n4, Value.int IntKind.u64 n5, Value.int IntKind.u64 n6, Value.string s3,
  Value.int IntKind.i64 n7]
  w22 fun (w23 : World) =>
  BegR k10 L1 w23 fun (w24 : World) =>
  Drw w24 fun (w25 : World) =>
  ∃ (n8 : Int),
  cellAt w25 a8 (Value.int IntKind.i64 n8) ∧
  ((n3 != n8) = false →
  ∃ (n9 : Int),
  cellAt w25 a8 (Value.int IntKind.i64 n9) ∧
  ∃ (q4 : Option Addr),
  ∃ (k11 : Nat),
  ∃ (k12 : Nat),
  cellAt w25 a2 (Value.slice q4 k11 k12) ∧
  (decide (n9 ≥ (↑k11 : Int)) = false →
  ∃ (s4 : ByteArray),
  cellAt w25 (Addr.add a9 (3 : Nat)) (Value.string s4) ∧
  ∃ (q5 : Option Addr),
  ∃ (k13 : Nat),
  ∃ (k14 : Nat),
  cellAt w25 a2 (Value.slice q5 k13 k14) ∧
  ∃ (n10 : Int),
  cellAt w25 a8 (Value.int IntKind.i64 n10) ∧
  (0 : Int) ≤ n10 ∧
  n10 < (↑k13 : Int) ∧
  someR q5 fun (a10 : Addr) =>
  ∃ (s5 : ByteArray),
  cellAt w25 (Addr.add a10 (Int.toNat n10 * (1 : Nat))) (Value.string s5) ∧
  ((!ByteArray.toList s4 == ByteArray.toList s5) = false →
  ∃ (n11 : Int),
  cellAt w25 (Addr.add a9 (0 : Nat)) (Value.int IntKind.i64 n11) ∧
  Rets Try.prog (33 : Nat) { toList := [Value.int IntKind.i64 n11] } w25 fun (v71 : Value) (w26 : World) =>
  ∃ (b5 : Bool),
  v71 = Value.bool b5 ∧
  ((!b5) = true →
  StoreR a1 [Value.bool false] w26 fun (w27 : World) =>
  FinR k10 L1 (some Code.ret) w27 fun (w28 : World) => h4 (Value.bool false) w28) ∧
  ((!b5) = false →
  ∃ (n12 : Int),
  cellAt w26 a8 (Value.int IntKind.i64 n12) ∧
  StoreR a8 [Value.int IntKind.i64 (IntKind.wrap IntKind.i64 (n12 + (1 : Int)))] w26 fun (w29 : World) =>
  FinR k10 L1 none w29 fun (w30 : World) => h4 (Value.bool true) w30)) ∧
  ((!ByteArray.toList s4 == ByteArray.toList s5) = true →
  StoreR a1 [Value.bool false] w25 fun (w31 : World) =>
  FinR k10 L1 (some Code.ret) w31 fun (w32 : World) => h4 (Value.bool false) w32)) ∧
  (decide (n9 ≥ (↑k11 : Int)) = true →
  StoreR a1 [Value.bool false] w25 fun (w33 : World) =>
  FinR k10 L1 (some Code.ret) w33 fun (w34 : World) => h4 (Value.bool false) w34)) ∧
  ((n3 != n8) = true →
  StoreR a1 [Value.bool false] w25 fun (w35 : World) =>
  FinR k10 L1 (some Code.ret) w35 fun (w36 : World) => h4 (Value.bool false) w36)) →
  RoundR Try.prog k10
  {
  toList :=
  [Value.int IntKind.i64 n3,
  Value.agg
  {
  toList :=
  [Value.int IntKind.i64 n4, Value.int IntKind.u64 n5, Value.int IntKind.u64 n6, Value.string s3,
  Value.int IntKind.i64 n7] }] }
  w21 h4) →
  Rets Try.prog (70 : Nat) { toList := [Value.func (Fn.yield k10) { toList := [] } { toList := [] }, v69, v70] } w20
  fun (v72 : Value) (w37 : World) =>
  (EndR k10 L1 none w37 fun (w38 : World) =>
  Rets Try.prog (34 : Nat) { toList := [Value.pointer none, Value.int IntKind.i64 (0 : Int)] } w38
  fun (v73 : Value) (w39 : World) =>
  ∃ (n13 : Int),
  ∃ (n14 : Int),
  ∃ (n15 : Int),
  ∃ (n16 : Int),
  ∃ (n17 : Int),
  ∃ (b6 : Bool),
  v73 =
  Value.tuple
  {
  toList :=
  [Value.agg
  {
  toList :=
  [Value.int IntKind.i64 n13, Value.int IntKind.u64 n14, Value.int IntKind.u64 n15, Value.int IntKind.i64 n16,
  Value.int IntKind.i64 n17] },
  Value.bool b6] } ∧
  NewR (61 : Nat)
  [Value.int IntKind.i64 (0 : Int), Value.int IntKind.u64 (0 : Int), Value.int IntKind.u64 (0 : Int),
  Value.int IntKind.i64 (0 : Int), Value.int IntKind.i64 (0 : Int)]
  w39 fun (a11 : Addr) (w40 : World) =>
  StoreR a11
  [Value.int IntKind.i64 n13, Value.int IntKind.u64 n14, Value.int IntKind.u64 n15, Value.int IntKind.i64 n16,
  Value.int IntKind.i64 n17]
  w40 fun (w41 : World) =>
  ∃ (n18 : Int),
  cellAt w41 a8 (Value.int IntKind.i64 n18) ∧
  ∃ (q6 : Option Addr),
  ∃ (k15 : Nat),
  ∃ (k16 : Nat),
  cellAt w41 a2 (Value.slice q6 k15 k16) ∧
  ((n18 == (↑k15 : Int)) = true →
  ((!b6) = true →
  Rets Try.prog (35 : Nat)
  {
  toList :=
  [Value.pointer none,
  Value.agg
  {
  toList :=
  [Value.int IntKind.i64 (1 : Int), Value.int IntKind.u64 (0 : Int), Value.int IntKind.u64 (0 : Int),
  Value.int IntKind.i64 (0 : Int), Value.int IntKind.i64 (0 : Int)] }] }
  w41 fun (v74 : Value) (w42 : World) =>
  ∃ (b7 : Bool),
  v74 = Value.bool b7 ∧
  ((!b7) = true →
  Rets Try.prog (36 : Nat) { toList := [Value.pointer none] } w42 fun (v75 : Value) (w43 : World) =>
  ∃ (n19 : Int),
  v75 = Value.int IntKind.i64 n19 ∧
  Rets Try.prog (37 : Nat) { toList := [Value.pointer none, Value.int IntKind.i64 (1 : Int)] } w43
  fun (v76 : Value) (w44 : World) =>
  ∃ (n20 : Int),
  v76 = Value.int IntKind.i64 n20 ∧
  Rets Try.prog (38 : Nat) { toList := [Value.pointer none] } w44 fun (v77 : Value) (w45 : World) =>
  ∃ (n21 : Int),
  v77 = Value.int IntKind.i64 n21 ∧
  ((IntKind.wrap IntKind.i64 (IntKind.wrap IntKind.i64 (n19 + n20) + n21) == (0 : Int)) = true →
  Rets Try.prog (29 : Nat) { toList := [] } w45 fun (v78 : Value) (w46 : World) =>
  ∃ (b8 : Bool),
  v78 = Value.bool b8 ∧
  StoreR a1 [Value.bool b8] w46 fun (w47 : World) =>
  MarkR k9 w47 fun (w48 : World) => ∃ (b9 : Bool), cellAt w48 a1 (Value.bool b9) ∧ K (Value.bool b9) w48) ∧
  ((IntKind.wrap IntKind.i64 (IntKind.wrap IntKind.i64 (n19 + n20) + n21) == (0 : Int)) = false →
  StoreR a1 [Value.bool false] w45 fun (w49 : World) =>
  MarkR k9 w49 fun (w50 : World) => ∃ (b10 : Bool), cellAt w50 a1 (Value.bool b10) ∧ K (Value.bool b10) w50)) ∧
  ((!b7) = false →
  StoreR a1 [Value.bool false] w42 fun (w51 : World) =>
  MarkR k9 w51 fun (w52 : World) => ∃ (b11 : Bool), cellAt w52 a1 (Value.bool b11) ∧ K (Value.bool b11) w52)) ∧
  ((!b6) = false →
  StoreR a1 [Value.bool false] w41 fun (w53 : World) =>
  MarkR k9 w53 fun (w54 : World) => ∃ (b12 : Bool), cellAt w54 a1 (Value.bool b12) ∧ K (Value.bool b12) w54)) ∧
  ((n18 == (↑k15 : Int)) = false →
  StoreR a1 [Value.bool false] w41 fun (w55 : World) =>
  MarkR k9 w55 fun (w56 : World) => ∃ (b13 : Bool), cellAt w56 a1 (Value.bool b13) ∧ K (Value.bool b13) w56)) ∨
  EndR k10 L1 (some Code.ret) w37 fun (w57 : World) =>
  MarkR k9 w57 fun (w58 : World) => ∃ (b14 : Bool), cellAt w58 a1 (Value.bool b14) ∧ K (Value.bool b14) w58))) ∧
  (decide ((↑l : Int) > (60 : Int)) = true →
  Rets Try.prog (29 : Nat) { toList := [] } w1 fun (v79 : Value) (w59 : World) =>
  ∃ (b15 : Bool),
  v79 = Value.bool b15 ∧
  StoreR a1 [Value.bool b15] w59 fun (w60 : World) =>
  ∃ (b16 : Bool), cellAt w60 a1 (Value.bool b16) ∧ K (Value.bool b16) w60)
theorem cortadolaw31_EventStays_eq (q : Option Addr) (l c : Nat) (q2 : Option Addr) (l2 c2 : Nat) (w : World) (K : Value → World → Prop) : fw Try.prog Try.f6 (annL [(1, [(7, none), (25, none), (26, none), (27, none), (28, none), (29, none), (30, none), (31, none), (32, none), (33, none), (34, none), (35, none), (36, none), (37, none), (38, none), (39, none), (40, none), (41, none), (42, none), (43, none), (44, none), (45, none), (46, none), (47, none), (48, none), (49, none), (50, none), (51, none), (52, none), (53, none), (54, none), (55, none)]), (2, [(7, some 3), (25, none), (26, none), (27, none), (28, none), (29, none), (30, none), (31, none), (32, none), (33, none), (34, none), (35, none), (36, none), (37, none), (38, none), (39, none), (40, none), (41, none), (42, none), (43, none), (44, none), (45, none), (46, none), (47, none), (48, none), (49, none), (50, none), (51, none), (52, none), (53, none), (54, none), (55, none)]), (8, [(61, some 3), (62, some 54)])]) (ordL [(8, [(0, 0), (1, 0), (2, 0), (3, 0), (5, 0), (6, 0), (7, 0), (9, 0), (4, 1), (8, 1), (10, 0), (11, 3)]), (9, [(1, 0), (2, 0), (3, 0), (0, 1), (4, 1), (5, 2), (6, 3), (7, 3)]), (1000008, [(70, 2)]), (17, [(0, 0), (1, 1), (2, 0), (3, 0), (4, 1), (5, 1), (6, 0), (7, 0), (8, 0), (9, 0), (10, 0), (11, 1), (12, 1), (13, 1), (14, 0), (15, 1), (16, 0), (17, 0), (18, 0), (19, 0), (20, 1), (21, 3), (22, 0), (23, 0)])]) [.slice q l c, .slice q2 l2 c2] w K = cortadolaw31_EventStays_m q l c q2 l2 c2 w K := by kernel_rfl
theorem cortadolaw31_EventStays_go (q : Option Addr) (l c : Nat) (q2 : Option Addr) (l2 c2 : Nat) {w : World} {K : Value → World → Prop} (h : cortadolaw31_EventStays_m q l c q2 l2 c2 w K) : Rets Try.prog 6 #[.slice q l c, .slice q2 l2 c2] w K :=
  calls_of_fw plain mixed Try.func6 (by kernel_rfl) (by rw [cortadolaw31_EventStays_eq]; exact h)
end Go.Proofs.Ytmenjjofmafacaa.Eng
