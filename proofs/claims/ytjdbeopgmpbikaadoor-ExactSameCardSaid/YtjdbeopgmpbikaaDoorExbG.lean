/- What the code of these functions asks for: printed by a program of this session's (gens.py) out of the seat's own functions; the kernel checks each row. -/
import Derived.Test.YtjdbeopgmpbikaaDoorEngH
import Derived.Test.YtjdbeopgmpbikaaDoorProg
import Derived.Test.YtjdbeopgmpbikaaDoorBase
namespace Go.Proofs.YtjdbeopgmpbikaaDoor.Eng
open Go Go.Proofs
set_option linter.unusedVariables false
set_option maxRecDepth 1000000
def exact_New_m (n : Int) (w : World) (K : Value → World → Prop) : Prop :=
  Rets Tryd.prog (21 : Nat) { toList := [] } w fun (v1 : Value) (w1 : World) =>
  ∃ (q1 : Option Addr),
  v1 = Value.pointer q1 ∧
  NewR (56 : Nat)
  [Value.pointer q1, Value.int IntKind.i64 (0 : Int), Value.int IntKind.i64 (maxI (1 : Int) (minI n (4096 : Int)))] w1
  fun (a1 : Addr) (w2 : World) => K (Value.pointer (some a1)) w2
theorem exact_New_eq (n : Int) (w : World) (K : Value → World → Prop) : fw Tryd.prog Tryd.f7 (annL []) (ordL []) [.int .i64 n] w K = exact_New_m n w K := by kernel_rfl
theorem exact_New_go (n : Int) {w : World} {K : Value → World → Prop} (h : exact_New_m n w K) : Rets Tryd.prog 7 #[.int .i64 n] w K :=
  calls_of_fw plain mixed Tryd.func7 (by kernel_rfl) (by rw [exact_New_eq]; exact h)
def exact_Exact_Add_m (g : Nat) (x : Int) (w : World) (K : Value → World → Prop) : Prop :=
  (false = true → K (Value.tuple { toList := [] }) w) ∧
  (false = false →
  ∃ (q1 : Option Addr),
  cellAt w (Addr.add { block := g, off := (0 : Nat) } (0 : Nat)) (Value.pointer q1) ∧
  Rets Tryd.prog (26 : Nat) { toList := [Value.pointer q1, Value.int IntKind.u64 x] } w fun (v1 : Value) (w1 : World) =>
  ∃ (b1 : Bool),
  ∃ (n1 : Int),
  ∃ (b2 : Bool),
  v1 = Value.tuple { toList := [Value.agg { toList := [Value.bool b1, Value.int IntKind.i64 n1] }, Value.bool b2] } ∧
  NewR (60 : Nat) [Value.bool false, Value.int IntKind.i64 (0 : Int)] w1 fun (a1 : Addr) (w2 : World) =>
  StoreR a1 [Value.bool b1, Value.int IntKind.i64 n1] w2 fun (w3 : World) =>
  ∃ (b3 : Bool),
  cellAt w3 (Addr.add a1 (0 : Nat)) (Value.bool b3) ∧
  ∃ (h1 : List Value → World → Prop),
  ((b3 = true →
  ∃ (n2 : Int),
  cellAt w3 (Addr.add a1 (1 : Nat)) (Value.int IntKind.i64 n2) ∧
  StoreR (Addr.add a1 (1 : Nat)) [Value.int IntKind.i64 (minI (15 : Int) (IntKind.wrap IntKind.i64 (n2 + (1 : Int))))] w3
  fun (w4 : World) => h1 [] w4) ∧
  (b3 = false → h1 [] w3)) ∧
  ∀ (w5 : World) (v2 v3 v4 v5 v6 : Value),
  h1 [] w5 →
  StoreR (Addr.add a1 (0 : Nat)) [Value.bool true] w5 fun (w6 : World) =>
  Drw w6 fun (w7 : World) =>
  ∃ (q2 : Option Addr),
  cellAt w7 (Addr.add { block := g, off := (0 : Nat) } (0 : Nat)) (Value.pointer q2) ∧
  ∃ (b4 : Bool),
  ∃ (n3 : Int),
  (cellAt w7 (Addr.add a1 (0 : Nat)) (Value.bool b4) ∧ cellAt w7 (Addr.add a1 (1 : Nat)) (Value.int IntKind.i64 n3)) ∧
  Rets Tryd.prog (27 : Nat)
  {
  toList :=
  [Value.pointer q2, Value.int IntKind.u64 x, Value.agg { toList := [Value.bool b4, Value.int IntKind.i64 n3] }] }
  w7 fun (v7 : Value) (w8 : World) =>
  ∃ (q3 : Option Addr),
  v7 = Value.pointer q3 ∧
  StoreR (Addr.add { block := g, off := (0 : Nat) } (0 : Nat)) [Value.pointer q3] w8 fun (w9 : World) =>
  ∃ (n4 : Int),
  cellAt w9 (Addr.add { block := g, off := (0 : Nat) } (1 : Nat)) (Value.int IntKind.i64 n4) ∧
  StoreR (Addr.add { block := g, off := (0 : Nat) } (1 : Nat))
  [Value.int IntKind.i64 (IntKind.wrap IntKind.i64 (n4 + (1 : Int)))] w9 fun (w10 : World) =>
  Drw w10 fun (w11 : World) =>
  ∃ (n5 : Int),
  cellAt w11 (Addr.add { block := g, off := (0 : Nat) } (1 : Nat)) (Value.int IntKind.i64 n5) ∧
  ∃ (n6 : Int),
  cellAt w11 (Addr.add { block := g, off := (0 : Nat) } (2 : Nat)) (Value.int IntKind.i64 n6) ∧
  (decide (n5 ≥ n6) = true →
  Rets Tryd.prog (28 : Nat) { toList := [Value.pointer (some { block := g, off := (0 : Nat) })] } w11
  fun (v8 : Value) (w12 : World) => v8 = Value.tuple { toList := [] } ∧ K (Value.tuple { toList := [] }) w12) ∧
  (decide (n5 ≥ n6) = false → K (Value.tuple { toList := [] }) w11))
theorem exact_Exact_Add_eq (g : Nat) (x : Int) (w : World) (K : Value → World → Prop) : fw Tryd.prog Tryd.f9 (annL [(1, [(19, none), (20, none), (21, none), (22, none), (23, none)])]) (ordL [(5, [(0, 0), (1, 0), (2, 0), (3, 0), (5, 0), (4, 1), (6, 1), (7, 3), (8, 0), (9, 0), (10, 3)]), (7, [(0, 0), (1, 0), (2, 0), (4, 0), (5, 0), (6, 0), (3, 1), (7, 1), (8, 0)])]) [.pointer (some ⟨g, 0, none⟩), .int .u64 x] w K = exact_Exact_Add_m g x w K := by kernel_rfl
theorem exact_Exact_Add_go (g : Nat) (x : Int) {w : World} {K : Value → World → Prop} (h : exact_Exact_Add_m g x w K) : Rets Tryd.prog 9 #[.pointer (some ⟨g, 0, none⟩), .int .u64 x] w K :=
  calls_of_fw plain mixed Tryd.func9 (by kernel_rfl) (by rw [exact_Exact_Add_eq]; exact h)
def exact_Exact_Push_m (g : Nat) (q : Option Addr) (l c : Nat) (w : World) (K : Value → World → Prop) : Prop :=
  ∃ (h1 : Nat → List Value → World → Prop),
  (∃ (k1 : Nat), h1 k1 [Value.int IntKind.i64 (0 : Int)] w) ∧
  ∀ (k2 : Nat) (w1 : World) (v1 : Value) (n1 : Int) (v2 v3 v4 v5 v6 v7 v8 : Value),
  h1 k2 [Value.int IntKind.i64 n1] w1 →
  (decide (n1 < (↑l : Int)) = true →
  (0 : Int) ≤ n1 ∧
  n1 < (↑l : Int) ∧
  someR q fun (a1 : Addr) =>
  ∃ (n2 : Int),
  cellAt w1 (Addr.add a1 (Int.toNat n1 * (1 : Nat))) (Value.int IntKind.u64 n2) ∧
  Rets Tryd.prog (9 : Nat) { toList := [Value.pointer (some { block := g, off := (0 : Nat) }), Value.int IntKind.u64 n2] }
  w1 fun (v9 : Value) (w2 : World) =>
  v9 = Value.tuple { toList := [] } ∧
  ∃ (k3 : Nat), k3 < k2 ∧ h1 k3 [Value.int IntKind.i64 (IntKind.wrap IntKind.i64 (n1 + (1 : Int)))] w2) ∧
  (decide (n1 < (↑l : Int)) = false → K (Value.tuple { toList := [] }) w1)
theorem exact_Exact_Push_eq (g : Nat) (q : Option Addr) (l c : Nat) (w : World) (K : Value → World → Prop) : fw Tryd.prog Tryd.f17 (annL [(1, [(5, none), (8, some 3), (9, none), (10, none), (11, none), (12, none), (13, none), (14, none), (15, none)])]) (ordL []) [.pointer (some ⟨g, 0, none⟩), .slice q l c] w K = exact_Exact_Push_m g q l c w K := by kernel_rfl
theorem exact_Exact_Push_go (g : Nat) (q : Option Addr) (l c : Nat) {w : World} {K : Value → World → Prop} (h : exact_Exact_Push_m g q l c w K) : Rets Tryd.prog 17 #[.pointer (some ⟨g, 0, none⟩), .slice q l c] w K :=
  calls_of_fw plain mixed Tryd.func17 (by kernel_rfl) (by rw [exact_Exact_Push_eq]; exact h)
def exact_Exact_Estimate_m (g : Nat) (x : Int) (w : World) (K : Value → World → Prop) : Prop :=
  (false = true → K (Value.int IntKind.i64 (0 : Int)) w) ∧
  (false = false →
  ∃ (q1 : Option Addr),
  cellAt w (Addr.add { block := g, off := (0 : Nat) } (0 : Nat)) (Value.pointer q1) ∧
  Rets Tryd.prog (26 : Nat) { toList := [Value.pointer q1, Value.int IntKind.u64 x] } w fun (v1 : Value) (w1 : World) =>
  ∃ (b1 : Bool),
  ∃ (n1 : Int),
  ∃ (b2 : Bool),
  v1 = Value.tuple { toList := [Value.agg { toList := [Value.bool b1, Value.int IntKind.i64 n1] }, Value.bool b2] } ∧
  NewR (60 : Nat) [Value.bool false, Value.int IntKind.i64 (0 : Int)] w1 fun (a1 : Addr) (w2 : World) =>
  StoreR a1 [Value.bool b1, Value.int IntKind.i64 n1] w2 fun (w3 : World) =>
  ∃ (b3 : Bool),
  cellAt w3 (Addr.add a1 (0 : Nat)) (Value.bool b3) ∧
  (b3 = true →
  ∃ (n2 : Int),
  cellAt w3 (Addr.add a1 (1 : Nat)) (Value.int IntKind.i64 n2) ∧
  K (Value.int IntKind.i64 (IntKind.wrap IntKind.i64 (n2 + (1 : Int)))) w3) ∧
  (b3 = false →
  ∃ (n3 : Int), cellAt w3 (Addr.add a1 (1 : Nat)) (Value.int IntKind.i64 n3) ∧ K (Value.int IntKind.i64 n3) w3))
theorem exact_Exact_Estimate_eq (g : Nat) (x : Int) (w : World) (K : Value → World → Prop) : fw Tryd.prog Tryd.f11 (annL []) (ordL []) [.pointer (some ⟨g, 0, none⟩), .int .u64 x] w K = exact_Exact_Estimate_m g x w K := by kernel_rfl
theorem exact_Exact_Estimate_go (g : Nat) (x : Int) {w : World} {K : Value → World → Prop} (h : exact_Exact_Estimate_m g x w K) : Rets Tryd.prog 11 #[.pointer (some ⟨g, 0, none⟩), .int .u64 x] w K :=
  calls_of_fw plain mixed Tryd.func11 (by kernel_rfl) (by rw [exact_Exact_Estimate_eq]; exact h)
def exact_Exact_Count_m (g : Nat) (w : World) (K : Value → World → Prop) : Prop :=
  (false = true → K (Value.int IntKind.i64 (0 : Int)) w) ∧
  (false = false →
  ∃ (n1 : Int),
  cellAt w (Addr.add { block := g, off := (0 : Nat) } (1 : Nat)) (Value.int IntKind.i64 n1) ∧
  K (Value.int IntKind.i64 n1) w)
theorem exact_Exact_Count_eq (g : Nat) (w : World) (K : Value → World → Prop) : fw Tryd.prog Tryd.f13 (annL []) (ordL []) [.pointer (some ⟨g, 0, none⟩)] w K = exact_Exact_Count_m g w K := by kernel_rfl
theorem exact_Exact_Count_go (g : Nat) {w : World} {K : Value → World → Prop} (h : exact_Exact_Count_m g w K) : Rets Tryd.prog 13 #[.pointer (some ⟨g, 0, none⟩)] w K :=
  calls_of_fw plain mixed Tryd.func13 (by kernel_rfl) (by rw [exact_Exact_Count_eq]; exact h)
def exact_Exact_Len_m (g : Nat) (w : World) (K : Value → World → Prop) : Prop :=
  (false = true → K (Value.int IntKind.i64 (0 : Int)) w) ∧
  (false = false →
  ∃ (q1 : Option Addr),
  cellAt w (Addr.add { block := g, off := (0 : Nat) } (0 : Nat)) (Value.pointer q1) ∧
  Rets Tryd.prog (37 : Nat) { toList := [Value.pointer q1] } w fun (v1 : Value) (w1 : World) =>
  ∃ (n1 : Int), v1 = Value.int IntKind.i64 n1 ∧ K (Value.int IntKind.i64 n1) w1)
theorem exact_Exact_Len_eq (g : Nat) (w : World) (K : Value → World → Prop) : fw Tryd.prog Tryd.f18 (annL []) (ordL []) [.pointer (some ⟨g, 0, none⟩)] w K = exact_Exact_Len_m g w K := by kernel_rfl
theorem exact_Exact_Len_go (g : Nat) {w : World} {K : Value → World → Prop} (h : exact_Exact_Len_m g w K) : Rets Tryd.prog 18 #[.pointer (some ⟨g, 0, none⟩)] w K :=
  calls_of_fw plain mixed Tryd.func18 (by kernel_rfl) (by rw [exact_Exact_Len_eq]; exact h)
def exact_nil_Add_m (x : Int) (w : World) (K : Value → World → Prop) : Prop :=
  (true = true → K (Value.tuple { toList := [] }) w) ∧ (true = false → False)
theorem exact_nil_Add_eq (x : Int) (w : World) (K : Value → World → Prop) : fw Tryd.prog Tryd.f9 (annL []) (ordL [(5, [(0, 0), (1, 0), (2, 0), (3, 0), (5, 0), (4, 1), (6, 1), (7, 3), (8, 0), (9, 0), (10, 3)]), (7, [(0, 0), (1, 0), (2, 0), (4, 0), (5, 0), (6, 0), (3, 1), (7, 1), (8, 0)])]) [.pointer none, .int .u64 x] w K = exact_nil_Add_m x w K := by kernel_rfl
theorem exact_nil_Add_go (x : Int) {w : World} {K : Value → World → Prop} (h : exact_nil_Add_m x w K) : Rets Tryd.prog 9 #[.pointer none, .int .u64 x] w K :=
  calls_of_fw plain mixed Tryd.func9 (by kernel_rfl) (by rw [exact_nil_Add_eq]; exact h)
def exact_nil_Push_m (q : Option Addr) (l c : Nat) (w : World) (K : Value → World → Prop) : Prop :=
  ∃ (h1 : Nat → List Value → World → Prop),
  (∃ (k1 : Nat), h1 k1 [Value.int IntKind.i64 (0 : Int)] w) ∧
  ∀ (k2 : Nat) (w1 : World) (v1 : Value) (n1 : Int) (v2 v3 v4 v5 v6 v7 v8 : Value),
  h1 k2 [Value.int IntKind.i64 n1] w1 →
  (decide (n1 < (↑l : Int)) = true →
  (0 : Int) ≤ n1 ∧
  n1 < (↑l : Int) ∧
  someR q fun (a1 : Addr) =>
  ∃ (n2 : Int),
  cellAt w1 (Addr.add a1 (Int.toNat n1 * (1 : Nat))) (Value.int IntKind.u64 n2) ∧
  Rets Tryd.prog (9 : Nat) { toList := [Value.pointer none, Value.int IntKind.u64 n2] } w1
  fun (v9 : Value) (w2 : World) =>
  v9 = Value.tuple { toList := [] } ∧
  ∃ (k3 : Nat), k3 < k2 ∧ h1 k3 [Value.int IntKind.i64 (IntKind.wrap IntKind.i64 (n1 + (1 : Int)))] w2) ∧
  (decide (n1 < (↑l : Int)) = false → K (Value.tuple { toList := [] }) w1)
theorem exact_nil_Push_eq (q : Option Addr) (l c : Nat) (w : World) (K : Value → World → Prop) : fw Tryd.prog Tryd.f17 (annL [(1, [(5, none), (8, some 3), (9, none), (10, none), (11, none), (12, none), (13, none), (14, none), (15, none)])]) (ordL []) [.pointer none, .slice q l c] w K = exact_nil_Push_m q l c w K := by kernel_rfl
theorem exact_nil_Push_go (q : Option Addr) (l c : Nat) {w : World} {K : Value → World → Prop} (h : exact_nil_Push_m q l c w K) : Rets Tryd.prog 17 #[.pointer none, .slice q l c] w K :=
  calls_of_fw plain mixed Tryd.func17 (by kernel_rfl) (by rw [exact_nil_Push_eq]; exact h)
def exact_nil_Estimate_m (x : Int) (w : World) (K : Value → World → Prop) : Prop :=
  (true = true → K (Value.int IntKind.i64 (0 : Int)) w) ∧ (true = false → False)
theorem exact_nil_Estimate_eq (x : Int) (w : World) (K : Value → World → Prop) : fw Tryd.prog Tryd.f11 (annL []) (ordL []) [.pointer none, .int .u64 x] w K = exact_nil_Estimate_m x w K := by kernel_rfl
theorem exact_nil_Estimate_go (x : Int) {w : World} {K : Value → World → Prop} (h : exact_nil_Estimate_m x w K) : Rets Tryd.prog 11 #[.pointer none, .int .u64 x] w K :=
  calls_of_fw plain mixed Tryd.func11 (by kernel_rfl) (by rw [exact_nil_Estimate_eq]; exact h)
def exact_nil_Count_m  (w : World) (K : Value → World → Prop) : Prop :=
  (true = true → K (Value.int IntKind.i64 (0 : Int)) w) ∧ (true = false → False)
theorem exact_nil_Count_eq  (w : World) (K : Value → World → Prop) : fw Tryd.prog Tryd.f13 (annL []) (ordL []) [.pointer none] w K = exact_nil_Count_m  w K := by kernel_rfl
theorem exact_nil_Count_go  {w : World} {K : Value → World → Prop} (h : exact_nil_Count_m  w K) : Rets Tryd.prog 13 #[.pointer none] w K :=
  calls_of_fw plain mixed Tryd.func13 (by kernel_rfl) (by rw [exact_nil_Count_eq]; exact h)
def exact_nil_Len_m  (w : World) (K : Value → World → Prop) : Prop :=
  (true = true → K (Value.int IntKind.i64 (0 : Int)) w) ∧ (true = false → False)
theorem exact_nil_Len_eq  (w : World) (K : Value → World → Prop) : fw Tryd.prog Tryd.f18 (annL []) (ordL []) [.pointer none] w K = exact_nil_Len_m  w K := by kernel_rfl
theorem exact_nil_Len_go  {w : World} {K : Value → World → Prop} (h : exact_nil_Len_m  w K) : Rets Tryd.prog 18 #[.pointer none] w K :=
  calls_of_fw plain mixed Tryd.func18 (by kernel_rfl) (by rw [exact_nil_Len_eq]; exact h)
def cortadolaw14_awake_m  (w : World) (K : Value → World → Prop) : Prop :=
  Rets Tryd.prog (7 : Nat) { toList := [Value.int IntKind.i64 (4 : Int)] } w fun (v1 : Value) (w1 : World) =>
  ∃ (q1 : Option Addr),
  v1 = Value.pointer q1 ∧
  NewR (22 : Nat) [Value.int IntKind.u64 (7 : Int), Value.int IntKind.u64 (7 : Int), Value.int IntKind.u64 (7 : Int)] w1
  fun (a1 : Addr) (w2 : World) =>
  Rets Tryd.prog (17 : Nat) { toList := [Value.pointer q1, Value.slice (some a1) (3 : Nat) (3 : Nat)] } w2
  fun (v2 : Value) (w3 : World) =>
  v2 = Value.tuple { toList := [] } ∧
  Rets Tryd.prog (11 : Nat) { toList := [Value.pointer q1, Value.int IntKind.u64 (7 : Int)] } w3
  fun (v3 : Value) (w4 : World) =>
  ∃ (n1 : Int),
  v3 = Value.int IntKind.i64 n1 ∧
  ((n1 == (3 : Int)) = true →
  Rets Tryd.prog (13 : Nat) { toList := [Value.pointer q1] } w4 fun (v4 : Value) (w5 : World) =>
  ∃ (n2 : Int),
  v4 = Value.int IntKind.i64 n2 ∧
  ((n2 == (3 : Int)) = true →
  Rets Tryd.prog (18 : Nat) { toList := [Value.pointer q1] } w5 fun (v5 : Value) (w6 : World) =>
  ∃ (n3 : Int), v5 = Value.int IntKind.i64 n3 ∧ K (Value.bool (n3 == (1 : Int))) w6) ∧
  ((n2 == (3 : Int)) = false → K (Value.bool false) w5)) ∧
  ((n1 == (3 : Int)) = false → K (Value.bool false) w4)
theorem cortadolaw14_awake_eq  (w : World) (K : Value → World → Prop) : fw Tryd.prog Tryd.f5 (annL []) (ordL []) [] w K = cortadolaw14_awake_m  w K := by kernel_rfl
theorem cortadolaw14_awake_go  {w : World} {K : Value → World → Prop} (h : cortadolaw14_awake_m  w K) : Rets Tryd.prog 5 #[] w K :=
  calls_of_fw plain mixed Tryd.func5 (by kernel_rfl) (by rw [cortadolaw14_awake_eq]; exact h)
end Go.Proofs.YtjdbeopgmpbikaaDoor.Eng
