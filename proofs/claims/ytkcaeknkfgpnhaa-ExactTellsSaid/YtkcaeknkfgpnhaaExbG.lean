/- What the code of these functions asks for: printed by a program of this session's (gens.py) out of the seat's own functions; the kernel checks each row. -/
import Derived.Test.YtkcaeknkfgpnhaaEngH
import Derived.Test.YtkcaeknkfgpnhaaProg
import Derived.Test.YtkcaeknkfgpnhaaBase
namespace Go.Proofs.Ytkcaeknkfgpnhaa.Eng
open Go Go.Proofs
set_option linter.unusedVariables false
set_option maxRecDepth 1000000
def exact_New_m (n : Int) (w : World) (K : Value → World → Prop) : Prop :=
  Rets Try.prog (120 : Nat) { toList := [] } w fun (v1 : Value) (w1 : World) =>
  ∃ (q1 : Option Addr),
  v1 = Value.pointer q1 ∧
  NewR (141 : Nat)
  [Value.pointer q1, Value.int IntKind.i64 (0 : Int), Value.int IntKind.i64 (maxI (1 : Int) (minI n (4096 : Int)))] w1
  fun (a1 : Addr) (w2 : World) => K (Value.pointer (some a1)) w2
theorem exact_New_eq (n : Int) (w : World) (K : Value → World → Prop) : fw Try.prog Try.f58 (annL []) (ordL []) [.int .i64 n] w K = exact_New_m n w K := by kernel_rfl
theorem exact_New_go (n : Int) {w : World} {K : Value → World → Prop} (h : exact_New_m n w K) : Rets Try.prog 58 #[.int .i64 n] w K :=
  calls_of_fw plain mixed Try.func58 (by kernel_rfl) (by rw [exact_New_eq]; exact h)
def exact_Exact_Add_m (g : Nat) (x : Int) (w : World) (K : Value → World → Prop) : Prop :=
  (false = true → K (Value.tuple { toList := [] }) w) ∧
  (false = false →
  ∃ (q1 : Option Addr),
  cellAt w (Addr.add { block := g, off := (0 : Nat) } (0 : Nat)) (Value.pointer q1) ∧
  Rets Try.prog (121 : Nat) { toList := [Value.pointer q1, Value.int IntKind.u64 x] } w fun (v1 : Value) (w1 : World) =>
  ∃ (b1 : Bool),
  ∃ (n1 : Int),
  ∃ (b2 : Bool),
  v1 = Value.tuple { toList := [Value.agg { toList := [Value.bool b1, Value.int IntKind.i64 n1] }, Value.bool b2] } ∧
  NewR (143 : Nat) [Value.bool false, Value.int IntKind.i64 (0 : Int)] w1 fun (a1 : Addr) (w2 : World) =>
  StoreR a1 [Value.bool b1, Value.int IntKind.i64 n1] w2 fun (w3 : World) =>
  ∃ (b3 : Bool),
  cellAt w3 (Addr.add a1 (0 : Nat)) (Value.bool b3) ∧
  ∃ (h1 : List Value → World → Prop),
  ((b3 = true →
  ∃ (n2 : Int),
  cellAt w3 (Addr.add a1 (1 : Nat)) (Value.int IntKind.i64 n2) ∧
  StoreR (Addr.add a1 (1 : Nat)) [Value.int IntKind.i64 (minI (15 : Int) (IntKind.wrap IntKind.i64 (n2 + (1 : Int))))] w3
  fun (w4 : World) => h1 [] w4) ∧
  (b3 = false → h1 [] w3)) ∧
  ∀ (w5 : World) (v2 v3 v4 v5 v6 : Value),
  h1 [] w5 →
  StoreR (Addr.add a1 (0 : Nat)) [Value.bool true] w5 fun (w6 : World) =>
  Drw w6 fun (w7 : World) =>
  ∃ (q2 : Option Addr),
  cellAt w7 (Addr.add { block := g, off := (0 : Nat) } (0 : Nat)) (Value.pointer q2) ∧
  ∃ (b4 : Bool),
  ∃ (n3 : Int),
  (cellAt w7 (Addr.add a1 (0 : Nat)) (Value.bool b4) ∧ cellAt w7 (Addr.add a1 (1 : Nat)) (Value.int IntKind.i64 n3)) ∧
  Rets Try.prog (122 : Nat)
  {
  toList :=
  [Value.pointer q2, Value.int IntKind.u64 x, Value.agg { toList := [Value.bool b4, Value.int IntKind.i64 n3] }] }
  w7 fun (v7 : Value) (w8 : World) =>
  ∃ (q3 : Option Addr),
  v7 = Value.pointer q3 ∧
  StoreR (Addr.add { block := g, off := (0 : Nat) } (0 : Nat)) [Value.pointer q3] w8 fun (w9 : World) =>
  ∃ (n4 : Int),
  cellAt w9 (Addr.add { block := g, off := (0 : Nat) } (1 : Nat)) (Value.int IntKind.i64 n4) ∧
  StoreR (Addr.add { block := g, off := (0 : Nat) } (1 : Nat))
  [Value.int IntKind.i64 (IntKind.wrap IntKind.i64 (n4 + (1 : Int)))] w9 fun (w10 : World) =>
  Drw w10 fun (w11 : World) =>
  ∃ (n5 : Int),
  cellAt w11 (Addr.add { block := g, off := (0 : Nat) } (1 : Nat)) (Value.int IntKind.i64 n5) ∧
  ∃ (n6 : Int),
  cellAt w11 (Addr.add { block := g, off := (0 : Nat) } (2 : Nat)) (Value.int IntKind.i64 n6) ∧
  (decide (n5 ≥ n6) = true →
  Rets Try.prog (123 : Nat) { toList := [Value.pointer (some { block := g, off := (0 : Nat) })] } w11
  fun (v8 : Value) (w12 : World) => v8 = Value.tuple { toList := [] } ∧ K (Value.tuple { toList := [] }) w12) ∧
  (decide (n5 ≥ n6) = false → K (Value.tuple { toList := [] }) w11))
theorem exact_Exact_Add_eq (g : Nat) (x : Int) (w : World) (K : Value → World → Prop) : fw Try.prog Try.f59 (annL [(1, [(19, none), (20, none), (21, none), (22, none), (23, none)])]) (ordL [(5, [(0, 0), (1, 0), (2, 0), (3, 0), (5, 0), (4, 1), (6, 1), (7, 3), (8, 0), (9, 0), (10, 3)]), (7, [(0, 0), (1, 0), (2, 0), (4, 0), (5, 0), (6, 0), (3, 1), (7, 1), (8, 0)])]) [.pointer (some ⟨g, 0, none⟩), .int .u64 x] w K = exact_Exact_Add_m g x w K := by kernel_rfl
theorem exact_Exact_Add_go (g : Nat) (x : Int) {w : World} {K : Value → World → Prop} (h : exact_Exact_Add_m g x w K) : Rets Try.prog 59 #[.pointer (some ⟨g, 0, none⟩), .int .u64 x] w K :=
  calls_of_fw plain mixed Try.func59 (by kernel_rfl) (by rw [exact_Exact_Add_eq]; exact h)
def exact_Exact_Push_m (g : Nat) (q : Option Addr) (l c : Nat) (w : World) (K : Value → World → Prop) : Prop :=
  ∃ (h1 : Nat → List Value → World → Prop),
  (∃ (k1 : Nat), h1 k1 [Value.int IntKind.i64 (0 : Int)] w) ∧
  ∀ (k2 : Nat) (w1 : World) (v1 : Value) (n1 : Int) (v2 v3 v4 v5 v6 v7 v8 : Value),
  h1 k2 [Value.int IntKind.i64 n1] w1 →
  (decide (n1 < (↑l : Int)) = true →
  (0 : Int) ≤ n1 ∧
  n1 < (↑l : Int) ∧
  someR q fun (a1 : Addr) =>
  ∃ (n2 : Int),
  cellAt w1 (Addr.add a1 (Int.toNat n1 * (1 : Nat))) (Value.int IntKind.u64 n2) ∧
  Rets Try.prog (59 : Nat) { toList := [Value.pointer (some { block := g, off := (0 : Nat) }), Value.int IntKind.u64 n2] }
  w1 fun (v9 : Value) (w2 : World) =>
  v9 = Value.tuple { toList := [] } ∧
  ∃ (k3 : Nat), k3 < k2 ∧ h1 k3 [Value.int IntKind.i64 (IntKind.wrap IntKind.i64 (n1 + (1 : Int)))] w2) ∧
  (decide (n1 < (↑l : Int)) = false → K (Value.tuple { toList := [] }) w1)
theorem exact_Exact_Push_eq (g : Nat) (q : Option Addr) (l c : Nat) (w : World) (K : Value → World → Prop) : fw Try.prog Try.f65 (annL [(1, [(5, none), (8, some 3), (9, none), (10, none), (11, none), (12, none), (13, none), (14, none), (15, none)])]) (ordL []) [.pointer (some ⟨g, 0, none⟩), .slice q l c] w K = exact_Exact_Push_m g q l c w K := by kernel_rfl
theorem exact_Exact_Push_go (g : Nat) (q : Option Addr) (l c : Nat) {w : World} {K : Value → World → Prop} (h : exact_Exact_Push_m g q l c w K) : Rets Try.prog 65 #[.pointer (some ⟨g, 0, none⟩), .slice q l c] w K :=
  calls_of_fw plain mixed Try.func65 (by kernel_rfl) (by rw [exact_Exact_Push_eq]; exact h)
def exact_Exact_Estimate_m (g : Nat) (x : Int) (w : World) (K : Value → World → Prop) : Prop :=
  (false = true → K (Value.int IntKind.i64 (0 : Int)) w) ∧
  (false = false →
  ∃ (q1 : Option Addr),
  cellAt w (Addr.add { block := g, off := (0 : Nat) } (0 : Nat)) (Value.pointer q1) ∧
  Rets Try.prog (121 : Nat) { toList := [Value.pointer q1, Value.int IntKind.u64 x] } w fun (v1 : Value) (w1 : World) =>
  ∃ (b1 : Bool),
  ∃ (n1 : Int),
  ∃ (b2 : Bool),
  v1 = Value.tuple { toList := [Value.agg { toList := [Value.bool b1, Value.int IntKind.i64 n1] }, Value.bool b2] } ∧
  NewR (143 : Nat) [Value.bool false, Value.int IntKind.i64 (0 : Int)] w1 fun (a1 : Addr) (w2 : World) =>
  StoreR a1 [Value.bool b1, Value.int IntKind.i64 n1] w2 fun (w3 : World) =>
  ∃ (b3 : Bool),
  cellAt w3 (Addr.add a1 (0 : Nat)) (Value.bool b3) ∧
  (b3 = true →
  ∃ (n2 : Int),
  cellAt w3 (Addr.add a1 (1 : Nat)) (Value.int IntKind.i64 n2) ∧
  K (Value.int IntKind.i64 (IntKind.wrap IntKind.i64 (n2 + (1 : Int)))) w3) ∧
  (b3 = false →
  ∃ (n3 : Int), cellAt w3 (Addr.add a1 (1 : Nat)) (Value.int IntKind.i64 n3) ∧ K (Value.int IntKind.i64 n3) w3))
theorem exact_Exact_Estimate_eq (g : Nat) (x : Int) (w : World) (K : Value → World → Prop) : fw Try.prog Try.f62 (annL []) (ordL []) [.pointer (some ⟨g, 0, none⟩), .int .u64 x] w K = exact_Exact_Estimate_m g x w K := by kernel_rfl
theorem exact_Exact_Estimate_go (g : Nat) (x : Int) {w : World} {K : Value → World → Prop} (h : exact_Exact_Estimate_m g x w K) : Rets Try.prog 62 #[.pointer (some ⟨g, 0, none⟩), .int .u64 x] w K :=
  calls_of_fw plain mixed Try.func62 (by kernel_rfl) (by rw [exact_Exact_Estimate_eq]; exact h)
def exact_Exact_Count_m (g : Nat) (w : World) (K : Value → World → Prop) : Prop :=
  (false = true → K (Value.int IntKind.i64 (0 : Int)) w) ∧
  (false = false →
  ∃ (n1 : Int),
  cellAt w (Addr.add { block := g, off := (0 : Nat) } (1 : Nat)) (Value.int IntKind.i64 n1) ∧
  K (Value.int IntKind.i64 n1) w)
theorem exact_Exact_Count_eq (g : Nat) (w : World) (K : Value → World → Prop) : fw Try.prog Try.f60 (annL []) (ordL []) [.pointer (some ⟨g, 0, none⟩)] w K = exact_Exact_Count_m g w K := by kernel_rfl
theorem exact_Exact_Count_go (g : Nat) {w : World} {K : Value → World → Prop} (h : exact_Exact_Count_m g w K) : Rets Try.prog 60 #[.pointer (some ⟨g, 0, none⟩)] w K :=
  calls_of_fw plain mixed Try.func60 (by kernel_rfl) (by rw [exact_Exact_Count_eq]; exact h)
def exact_Exact_Len_m (g : Nat) (w : World) (K : Value → World → Prop) : Prop :=
  (false = true → K (Value.int IntKind.i64 (0 : Int)) w) ∧
  (false = false →
  ∃ (q1 : Option Addr),
  cellAt w (Addr.add { block := g, off := (0 : Nat) } (0 : Nat)) (Value.pointer q1) ∧
  Rets Try.prog (124 : Nat) { toList := [Value.pointer q1] } w fun (v1 : Value) (w1 : World) =>
  ∃ (n1 : Int), v1 = Value.int IntKind.i64 n1 ∧ K (Value.int IntKind.i64 n1) w1)
theorem exact_Exact_Len_eq (g : Nat) (w : World) (K : Value → World → Prop) : fw Try.prog Try.f63 (annL []) (ordL []) [.pointer (some ⟨g, 0, none⟩)] w K = exact_Exact_Len_m g w K := by kernel_rfl
theorem exact_Exact_Len_go (g : Nat) {w : World} {K : Value → World → Prop} (h : exact_Exact_Len_m g w K) : Rets Try.prog 63 #[.pointer (some ⟨g, 0, none⟩)] w K :=
  calls_of_fw plain mixed Try.func63 (by kernel_rfl) (by rw [exact_Exact_Len_eq]; exact h)
def exact_Exact_Clear_m (g : Nat) (w : World) (K : Value → World → Prop) : Prop :=
  (true = true →
  Rets Try.prog (120 : Nat) { toList := [] } w fun (v1 : Value) (w1 : World) =>
  ∃ (q1 : Option Addr),
  v1 = Value.pointer q1 ∧
  StoreR (Addr.add { block := g, off := (0 : Nat) } (0 : Nat)) [Value.pointer q1] w1 fun (w2 : World) =>
  StoreR (Addr.add { block := g, off := (0 : Nat) } (1 : Nat)) [Value.int IntKind.i64 (0 : Int)] w2 fun (w3 : World) =>
  K (Value.tuple { toList := [] }) w3) ∧
  (true = false → K (Value.tuple { toList := [] }) w)
theorem exact_Exact_Clear_eq (g : Nat) (w : World) (K : Value → World → Prop) : fw Try.prog Try.f64 (annL []) (ordL []) [.pointer (some ⟨g, 0, none⟩)] w K = exact_Exact_Clear_m g w K := by kernel_rfl
theorem exact_Exact_Clear_go (g : Nat) {w : World} {K : Value → World → Prop} (h : exact_Exact_Clear_m g w K) : Rets Try.prog 64 #[.pointer (some ⟨g, 0, none⟩)] w K :=
  calls_of_fw plain mixed Try.func64 (by kernel_rfl) (by rw [exact_Exact_Clear_eq]; exact h)
def exact_nil_Add_m (x : Int) (w : World) (K : Value → World → Prop) : Prop :=
  (true = true → K (Value.tuple { toList := [] }) w) ∧ (true = false → False)
theorem exact_nil_Add_eq (x : Int) (w : World) (K : Value → World → Prop) : fw Try.prog Try.f59 (annL []) (ordL [(5, [(0, 0), (1, 0), (2, 0), (3, 0), (5, 0), (4, 1), (6, 1), (7, 3), (8, 0), (9, 0), (10, 3)]), (7, [(0, 0), (1, 0), (2, 0), (4, 0), (5, 0), (6, 0), (3, 1), (7, 1), (8, 0)])]) [.pointer none, .int .u64 x] w K = exact_nil_Add_m x w K := by kernel_rfl
theorem exact_nil_Add_go (x : Int) {w : World} {K : Value → World → Prop} (h : exact_nil_Add_m x w K) : Rets Try.prog 59 #[.pointer none, .int .u64 x] w K :=
  calls_of_fw plain mixed Try.func59 (by kernel_rfl) (by rw [exact_nil_Add_eq]; exact h)
def exact_nil_Push_m (q : Option Addr) (l c : Nat) (w : World) (K : Value → World → Prop) : Prop :=
  ∃ (h1 : Nat → List Value → World → Prop),
  (∃ (k1 : Nat), h1 k1 [Value.int IntKind.i64 (0 : Int)] w) ∧
  ∀ (k2 : Nat) (w1 : World) (v1 : Value) (n1 : Int) (v2 v3 v4 v5 v6 v7 v8 : Value),
  h1 k2 [Value.int IntKind.i64 n1] w1 →
  (decide (n1 < (↑l : Int)) = true →
  (0 : Int) ≤ n1 ∧
  n1 < (↑l : Int) ∧
  someR q fun (a1 : Addr) =>
  ∃ (n2 : Int),
  cellAt w1 (Addr.add a1 (Int.toNat n1 * (1 : Nat))) (Value.int IntKind.u64 n2) ∧
  Rets Try.prog (59 : Nat) { toList := [Value.pointer none, Value.int IntKind.u64 n2] } w1
  fun (v9 : Value) (w2 : World) =>
  v9 = Value.tuple { toList := [] } ∧
  ∃ (k3 : Nat), k3 < k2 ∧ h1 k3 [Value.int IntKind.i64 (IntKind.wrap IntKind.i64 (n1 + (1 : Int)))] w2) ∧
  (decide (n1 < (↑l : Int)) = false → K (Value.tuple { toList := [] }) w1)
theorem exact_nil_Push_eq (q : Option Addr) (l c : Nat) (w : World) (K : Value → World → Prop) : fw Try.prog Try.f65 (annL [(1, [(5, none), (8, some 3), (9, none), (10, none), (11, none), (12, none), (13, none), (14, none), (15, none)])]) (ordL []) [.pointer none, .slice q l c] w K = exact_nil_Push_m q l c w K := by kernel_rfl
theorem exact_nil_Push_go (q : Option Addr) (l c : Nat) {w : World} {K : Value → World → Prop} (h : exact_nil_Push_m q l c w K) : Rets Try.prog 65 #[.pointer none, .slice q l c] w K :=
  calls_of_fw plain mixed Try.func65 (by kernel_rfl) (by rw [exact_nil_Push_eq]; exact h)
def exact_nil_Estimate_m (x : Int) (w : World) (K : Value → World → Prop) : Prop :=
  (true = true → K (Value.int IntKind.i64 (0 : Int)) w) ∧ (true = false → False)
theorem exact_nil_Estimate_eq (x : Int) (w : World) (K : Value → World → Prop) : fw Try.prog Try.f62 (annL []) (ordL []) [.pointer none, .int .u64 x] w K = exact_nil_Estimate_m x w K := by kernel_rfl
theorem exact_nil_Estimate_go (x : Int) {w : World} {K : Value → World → Prop} (h : exact_nil_Estimate_m x w K) : Rets Try.prog 62 #[.pointer none, .int .u64 x] w K :=
  calls_of_fw plain mixed Try.func62 (by kernel_rfl) (by rw [exact_nil_Estimate_eq]; exact h)
def exact_nil_Count_m  (w : World) (K : Value → World → Prop) : Prop :=
  (true = true → K (Value.int IntKind.i64 (0 : Int)) w) ∧ (true = false → False)
theorem exact_nil_Count_eq  (w : World) (K : Value → World → Prop) : fw Try.prog Try.f60 (annL []) (ordL []) [.pointer none] w K = exact_nil_Count_m  w K := by kernel_rfl
theorem exact_nil_Count_go  {w : World} {K : Value → World → Prop} (h : exact_nil_Count_m  w K) : Rets Try.prog 60 #[.pointer none] w K :=
  calls_of_fw plain mixed Try.func60 (by kernel_rfl) (by rw [exact_nil_Count_eq]; exact h)
def exact_nil_Len_m  (w : World) (K : Value → World → Prop) : Prop :=
  (true = true → K (Value.int IntKind.i64 (0 : Int)) w) ∧ (true = false → False)
theorem exact_nil_Len_eq  (w : World) (K : Value → World → Prop) : fw Try.prog Try.f63 (annL []) (ordL []) [.pointer none] w K = exact_nil_Len_m  w K := by kernel_rfl
theorem exact_nil_Len_go  {w : World} {K : Value → World → Prop} (h : exact_nil_Len_m  w K) : Rets Try.prog 63 #[.pointer none] w K :=
  calls_of_fw plain mixed Try.func63 (by kernel_rfl) (by rw [exact_nil_Len_eq]; exact h)
def exact_nil_Clear_m  (w : World) (K : Value → World → Prop) : Prop :=
  (false = true →
  Rets Try.prog (120 : Nat) { toList := [] } w fun (v1 : Value) (w1 : World) =>
  ∃ (q1 : Option Addr), v1 = Value.pointer q1 ∧ False) ∧
  (false = false → K (Value.tuple { toList := [] }) w)
theorem exact_nil_Clear_eq  (w : World) (K : Value → World → Prop) : fw Try.prog Try.f64 (annL []) (ordL []) [.pointer none] w K = exact_nil_Clear_m  w K := by kernel_rfl
theorem exact_nil_Clear_go  {w : World} {K : Value → World → Prop} (h : exact_nil_Clear_m  w K) : Rets Try.prog 64 #[.pointer none] w K :=
  calls_of_fw plain mixed Try.func64 (by kernel_rfl) (by rw [exact_nil_Clear_eq]; exact h)
def cortadoref14_Estimate_m (n : Int) (q : Option Addr) (l c : Nat) (x : Int) (w : World) (K : Value → World → Prop) : Prop :=
  ∃ (h1 : List Value → World → Prop),
  (∃ (h2 : Nat → List Value → World → Prop),
  (∃ (k1 : Nat), h2 k1 [Value.bool false, Value.int IntKind.i64 (0 : Int), Value.int IntKind.i64 (0 : Int)] w) ∧
  ∀ (k2 : Nat) (w1 : World) (b1 : Bool) (n1 n2 : Int)
  (v1 v2 v3 v4 v5 v6 v7 v8 v9 v10 v11 v12 v13 v14 v15 v16 v17 v18 v19 v20 v21 v22 v23 v24 v25 v26 v27 v28 v29 v30 v31 :
  Value),
  h2 k2 [Value.bool b1, Value.int IntKind.i64 n1, Value.int IntKind.i64 n2] w1 →
  (decide (n2 < (↑l : Int)) = true →
  ∃ (h3 : List Value → World → Prop),
  ((0 : Int) ≤ n2 ∧
  n2 < (↑l : Int) ∧
  someR q fun (a1 : Addr) =>
  ∃ (n3 : Int),
  cellAt w1 (Addr.add a1 (Int.toNat n2 * (1 : Nat))) (Value.int IntKind.u64 n3) ∧
  ((n3 == x) = true → h3 [Value.bool b1] w1) ∧ ((n3 == x) = false → h3 [Value.bool false] w1)) ∧
  ∀ (w2 : World) (v32 v33 v34 v35 v36 v37 v38 v39 : Value) (b2 : Bool),
  h3 [Value.bool b2] w2 →
  ∃ (h4 : List Value → World → Prop),
  ((b2 = true → h4 [Value.int IntKind.i64 (minI (15 : Int) (IntKind.wrap IntKind.i64 (n1 + (1 : Int))))] w2) ∧
  (b2 = false → h4 [Value.int IntKind.i64 n1] w2)) ∧
  ∀ (w3 : World) (n4 : Int) (v40 v41 v42 : Value),
  h4 [Value.int IntKind.i64 n4] w3 →
  (0 : Int) ≤ n2 ∧
  n2 < (↑l : Int) ∧
  someR q fun (a2 : Addr) =>
  ∃ (n5 : Int),
  cellAt w3 (Addr.add a2 (Int.toNat n2 * (1 : Nat))) (Value.int IntKind.u64 n5) ∧
  ∃ (h5 : List Value → World → Prop),
  (((n5 == x) = true → h5 [Value.bool true] w3) ∧ ((n5 == x) = false → h5 [Value.bool b1] w3)) ∧
  ∀ (w4 : World) (b3 : Bool),
  h5 [Value.bool b3] w4 →
  maxI (1 : Int) (minI n (4096 : Int)) ≠ (0 : Int) ∧
  ∃ (h6 : List Value → World → Prop),
  (((Int.tmod (IntKind.wrap IntKind.i64 (n2 + (1 : Int))) (maxI (1 : Int) (minI n (4096 : Int))) == (0 : Int)) = true →
  (2 : Int) ≠ (0 : Int) ∧
  h6 [Value.bool false, Value.int IntKind.i64 (IntKind.wrap IntKind.i64 (Int.tdiv n4 (2 : Int)))] w4) ∧
  ((Int.tmod (IntKind.wrap IntKind.i64 (n2 + (1 : Int))) (maxI (1 : Int) (minI n (4096 : Int))) == (0 : Int)) = false →
  h6 [Value.bool b3, Value.int IntKind.i64 n4] w4)) ∧
  ∀ (w5 : World) (b4 : Bool) (n6 : Int) (v43 v44 : Value),
  h6 [Value.bool b4, Value.int IntKind.i64 n6] w5 →
  ∃ (k3 : Nat),
  k3 < k2 ∧
  h2 k3 [Value.bool b4, Value.int IntKind.i64 n6, Value.int IntKind.i64 (IntKind.wrap IntKind.i64 (n2 + (1 : Int)))] w5) ∧
  (decide (n2 < (↑l : Int)) = false → h1 [Value.bool b1, Value.int IntKind.i64 n1] w1)) ∧
  ∀ (w6 : World) (b5 : Bool) (n7 : Int)
  (v45 v46 v47 v48 v49 v50 v51 v52 v53 v54 v55 v56 v57 v58 v59 v60 v61 v62 v63 v64 v65 v66 v67 v68 v69 v70 v71 v72 v73 v74
  v75 v76 : Value),
  h1 [Value.bool b5, Value.int IntKind.i64 n7] w6 →
  (b5 = true → K (Value.int IntKind.i64 (IntKind.wrap IntKind.i64 (n7 + (1 : Int)))) w6) ∧
  (b5 = false → K (Value.int IntKind.i64 n7) w6)
theorem cortadoref14_Estimate_eq (n : Int) (q : Option Addr) (l c : Nat) (x : Int) (w : World) (K : Value → World → Prop) : fw Try.prog Try.f61 (annL [(0, [(8, some 4), (9, some 3), (10, none), (14, none), (15, none), (16, none), (17, none), (18, none), (19, none), (20, none), (21, none), (22, none), (23, none), (24, none), (25, none), (26, none), (27, none), (28, none), (29, none), (30, none), (31, none), (32, none), (33, none), (34, none), (35, none), (36, none), (37, none), (38, none), (39, none), (40, none), (41, none), (42, none), (43, none), (44, none)]), (1, [(8, some 4), (9, some 3), (10, some 3), (14, none), (15, none), (16, none), (17, none), (18, none), (19, none), (20, none), (21, none), (22, none), (23, none), (24, none), (25, none), (26, none), (27, none), (28, none), (29, none), (30, none), (31, none), (32, none), (33, none), (34, none), (35, none), (36, none), (37, none), (38, none), (39, none), (40, none), (41, none), (42, none), (43, none), (44, none)]), (4, [(9, some 3), (29, none), (30, none), (31, none)]), (5, [(8, some 4)]), (6, [(8, some 4), (9, some 3), (43, none), (44, none)])]) (ordL [(2000006, [(20, 0), (21, 0), (22, 0), (23, 0), (24, 0), (25, 0), (26, 0), (27, 0), (28, 5)])]) [.int .i64 n, .slice q l c, .int .u64 x] w K = cortadoref14_Estimate_m n q l c x w K := by kernel_rfl
theorem cortadoref14_Estimate_go (n : Int) (q : Option Addr) (l c : Nat) (x : Int) {w : World} {K : Value → World → Prop} (h : cortadoref14_Estimate_m n q l c x w K) : Rets Try.prog 61 #[.int .i64 n, .slice q l c, .int .u64 x] w K :=
  calls_of_fw plain mixed Try.func61 (by kernel_rfl) (by rw [cortadoref14_Estimate_eq]; exact h)
def cortadolaw14_awake_m  (w : World) (K : Value → World → Prop) : Prop :=
  Rets Try.prog (58 : Nat) { toList := [Value.int IntKind.i64 (4 : Int)] } w fun (v1 : Value) (w1 : World) =>
  ∃ (q1 : Option Addr),
  v1 = Value.pointer q1 ∧
  NewR (53 : Nat) [Value.int IntKind.u64 (7 : Int), Value.int IntKind.u64 (7 : Int), Value.int IntKind.u64 (7 : Int)] w1
  fun (a1 : Addr) (w2 : World) =>
  Rets Try.prog (65 : Nat) { toList := [Value.pointer q1, Value.slice (some a1) (3 : Nat) (3 : Nat)] } w2
  fun (v2 : Value) (w3 : World) =>
  v2 = Value.tuple { toList := [] } ∧
  Rets Try.prog (62 : Nat) { toList := [Value.pointer q1, Value.int IntKind.u64 (7 : Int)] } w3
  fun (v3 : Value) (w4 : World) =>
  ∃ (n1 : Int),
  v3 = Value.int IntKind.i64 n1 ∧
  ((n1 == (3 : Int)) = true →
  Rets Try.prog (60 : Nat) { toList := [Value.pointer q1] } w4 fun (v4 : Value) (w5 : World) =>
  ∃ (n2 : Int),
  v4 = Value.int IntKind.i64 n2 ∧
  ((n2 == (3 : Int)) = true →
  Rets Try.prog (63 : Nat) { toList := [Value.pointer q1] } w5 fun (v5 : Value) (w6 : World) =>
  ∃ (n3 : Int), v5 = Value.int IntKind.i64 n3 ∧ K (Value.bool (n3 == (1 : Int))) w6) ∧
  ((n2 == (3 : Int)) = false → K (Value.bool false) w5)) ∧
  ((n1 == (3 : Int)) = false → K (Value.bool false) w4)
theorem cortadolaw14_awake_eq  (w : World) (K : Value → World → Prop) : fw Try.prog Try.f57 (annL []) (ordL []) [] w K = cortadolaw14_awake_m  w K := by kernel_rfl
theorem cortadolaw14_awake_go  {w : World} {K : Value → World → Prop} (h : cortadolaw14_awake_m  w K) : Rets Try.prog 57 #[] w K :=
  calls_of_fw plain mixed Try.func57 (by kernel_rfl) (by rw [cortadolaw14_awake_eq]; exact h)
end Go.Proofs.Ytkcaeknkfgpnhaa.Eng
