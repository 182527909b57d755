/- What the code of these functions asks for: printed by a program of this session's (gens.py) out of the seat's own functions; the kernel checks each row. -/
import Derived.Test.YtfcddffcjmgpkaaEngH
import Derived.Test.YtfcddffcjmgpkaaProg
import Derived.Test.YtfcddffcjmgpkaaBase
namespace Go.Proofs.Ytfcddffcjmgpkaa.Eng
open Go Go.Proofs
set_option linter.unusedVariables false
set_option maxRecDepth 1000000
def slices_Clone_int_int_m (q : Option Addr) (l c : Nat) (w : World) (K : Value → World → Prop) : Prop :=
  (Option.isNone q = true → K (Value.slice none (0 : Nat) (0 : Nat)) w) ∧
  (Option.isNone q = false →
  NewR (3 : Nat) [] w fun (a1 : Addr) (w1 : World) =>
  RunR Try.prog
  (builtinV Builtin.append { toList := [(22 : Nat), (22 : Nat)] } (nat_lit 22)
  { toList := [Value.slice (some a1) (0 : Nat) (0 : Nat), Value.slice q l c] })
  w1 fun (v1 : Value) (w2 : World) =>
  ∃ (q1 : Option Addr), ∃ (k1 : Nat), ∃ (k2 : Nat), v1 = Value.slice q1 k1 k2 ∧ K (Value.slice q1 k1 k2) w2)
theorem slices_Clone_int_int_eq (q : Option Addr) (l c : Nat) (w : World) (K : Value → World → Prop) : fw Try.prog Try.f105 (annL []) (ordL []) [.slice q l c] w K = slices_Clone_int_int_m q l c w K := by kernel_rfl
theorem slices_Clone_int_int_go (q : Option Addr) (l c : Nat) {w : World} {K : Value → World → Prop} (h : slices_Clone_int_int_m q l c w K) : Rets Try.prog 105 #[.slice q l c] w K :=
  calls_of_fw plain mixed Try.func105 (by kernel_rfl) (by rw [slices_Clone_int_int_eq]; exact h)
def sched_New_m (q : Option Addr) (l c : Nat) (b : Int) (w : World) (K : Value → World → Prop) : Prop :=
  Rets Try.prog (105 : Nat) { toList := [Value.slice q l c] } w fun (v1 : Value) (w1 : World) =>
  ∃ (q1 : Option Addr),
  ∃ (k1 : Nat),
  ∃ (k2 : Nat),
  v1 = Value.slice q1 k1 k2 ∧
  NewR (141 : Nat)
  [Value.slice q1 k1 k2, Value.int IntKind.i64 (maxI b (0 : Int)), Value.int IntKind.i64 (0 : Int),
  Value.slice none (0 : Nat) (0 : Nat), Value.int IntKind.i64 (0 : Int)]
  w1 fun (a1 : Addr) (w2 : World) => K (Value.pointer (some a1)) w2
theorem sched_New_eq (q : Option Addr) (l c : Nat) (b : Int) (w : World) (K : Value → World → Prop) : fw Try.prog Try.f59 (annL []) (ordL []) [.slice q l c, .int .i64 b] w K = sched_New_m q l c b w K := by kernel_rfl
theorem sched_New_go (q : Option Addr) (l c : Nat) (b : Int) {w : World} {K : Value → World → Prop} (h : sched_New_m q l c b w K) : Rets Try.prog 59 #[.slice q l c, .int .i64 b] w K :=
  calls_of_fw plain mixed Try.func59 (by kernel_rfl) (by rw [sched_New_eq]; exact h)
def sched_Sched_Waited_m (g : Nat) (i : Int) (w : World) (K : Value → World → Prop) : Prop :=
  (false = false →
  (decide (i < (0 : Int)) = false →
  ∃ (q1 : Option Addr),
  ∃ (k1 : Nat),
  ∃ (k2 : Nat),
  cellAt w (Addr.add { block := g, off := (0 : Nat) } (3 : Nat)) (Value.slice q1 k1 k2) ∧
  (decide (i ≥ (↑k1 : Int)) = true → K (Value.int IntKind.i64 (0 : Int)) w) ∧
  (decide (i ≥ (↑k1 : Int)) = false →
  ∃ (q2 : Option Addr),
  ∃ (k3 : Nat),
  ∃ (k4 : Nat),
  cellAt w (Addr.add { block := g, off := (0 : Nat) } (3 : Nat)) (Value.slice q2 k3 k4) ∧
  (0 : Int) ≤ i ∧
  i < (↑k3 : Int) ∧
  someR q2 fun (a1 : Addr) =>
  ∃ (n1 : Int),
  cellAt w (Addr.add a1 (Int.toNat i * (1 : Nat))) (Value.int IntKind.i64 n1) ∧ K (Value.int IntKind.i64 n1) w)) ∧
  (decide (i < (0 : Int)) = true → K (Value.int IntKind.i64 (0 : Int)) w)) ∧
  (false = true → K (Value.int IntKind.i64 (0 : Int)) w)
theorem sched_Sched_Waited_eq (g : Nat) (i : Int) (w : World) (K : Value → World → Prop) : fw Try.prog Try.f108 (annL []) (ordL []) [.pointer (some ⟨g, 0, none⟩), .int .i64 i] w K = sched_Sched_Waited_m g i w K := by kernel_rfl
theorem sched_Sched_Waited_go (g : Nat) (i : Int) {w : World} {K : Value → World → Prop} (h : sched_Sched_Waited_m g i w K) : Rets Try.prog 108 #[.pointer (some ⟨g, 0, none⟩), .int .i64 i] w K :=
  calls_of_fw plain mixed Try.func108 (by kernel_rfl) (by rw [sched_Sched_Waited_eq]; exact h)
def sched_nil_Waited_m (i : Int) (w : World) (K : Value → World → Prop) : Prop :=
  (true = false →
  (decide (i < (0 : Int)) = false → False) ∧ (decide (i < (0 : Int)) = true → K (Value.int IntKind.i64 (0 : Int)) w)) ∧
  (true = true → K (Value.int IntKind.i64 (0 : Int)) w)
theorem sched_nil_Waited_eq (i : Int) (w : World) (K : Value → World → Prop) : fw Try.prog Try.f108 (annL []) (ordL []) [.pointer none, .int .i64 i] w K = sched_nil_Waited_m i w K := by kernel_rfl
theorem sched_nil_Waited_go (i : Int) {w : World} {K : Value → World → Prop} (h : sched_nil_Waited_m i w K) : Rets Try.prog 108 #[.pointer none, .int .i64 i] w K :=
  calls_of_fw plain mixed Try.func108 (by kernel_rfl) (by rw [sched_nil_Waited_eq]; exact h)
def sched_Sched_Worst_m (g : Nat) (w : World) (K : Value → World → Prop) : Prop :=
  (false = true → K (Value.int IntKind.i64 (0 : Int)) w) ∧
  (false = false →
  ∃ (n1 : Int),
  cellAt w (Addr.add { block := g, off := (0 : Nat) } (4 : Nat)) (Value.int IntKind.i64 n1) ∧
  K (Value.int IntKind.i64 n1) w)
theorem sched_Sched_Worst_eq (g : Nat) (w : World) (K : Value → World → Prop) : fw Try.prog Try.f61 (annL []) (ordL []) [.pointer (some ⟨g, 0, none⟩)] w K = sched_Sched_Worst_m g w K := by kernel_rfl
theorem sched_Sched_Worst_go (g : Nat) {w : World} {K : Value → World → Prop} (h : sched_Sched_Worst_m g w K) : Rets Try.prog 61 #[.pointer (some ⟨g, 0, none⟩)] w K :=
  calls_of_fw plain mixed Try.func61 (by kernel_rfl) (by rw [sched_Sched_Worst_eq]; exact h)
def sched_nil_Worst_m  (w : World) (K : Value → World → Prop) : Prop :=
  (true = true → K (Value.int IntKind.i64 (0 : Int)) w) ∧ (true = false → False)
theorem sched_nil_Worst_eq  (w : World) (K : Value → World → Prop) : fw Try.prog Try.f61 (annL []) (ordL []) [.pointer none] w K = sched_nil_Worst_m  w K := by kernel_rfl
theorem sched_nil_Worst_go  {w : World} {K : Value → World → Prop} (h : sched_nil_Worst_m  w K) : Rets Try.prog 61 #[.pointer none] w K :=
  calls_of_fw plain mixed Try.func61 (by kernel_rfl) (by rw [sched_nil_Worst_eq]; exact h)
def sched_those_m (q : Option Addr) (l c : Nat) (w : World) (K : Value → World → Prop) : Prop :=
  ∃ (h1 : Nat → List Value → World → Prop),
  (∃ (k1 : Nat), h1 k1 [Value.slice none (0 : Nat) (0 : Nat), Value.int IntKind.i64 (0 : Int)] w) ∧
  ∀ (k2 : Nat) (w1 : World) (q1 : Option Addr) (k3 k4 : Nat) (v1 v2 : Value) (n1 : Int)
  (v3 v4 v5 v6 v7 v8 v9 v10 v11 v12 : Value),
  h1 k2 [Value.slice q1 k3 k4, Value.int IntKind.i64 n1] w1 →
  (decide (n1 < (↑l : Int)) = true →
  (0 : Int) ≤ n1 ∧
  n1 < (↑l : Int) ∧
  someR q fun (a1 : Addr) =>
  ∃ (b1 : Bool),
  cellAt w1 (Addr.add a1 (Int.toNat n1 * (1 : Nat))) (Value.bool b1) ∧
  (b1 = true →
  NewR (3 : Nat) [Value.int IntKind.i64 n1] w1 fun (a2 : Addr) (w2 : World) =>
  RunR Try.prog
  (builtinV Builtin.append { toList := [(22 : Nat), (22 : Nat)] } (nat_lit 22)
  { toList := [Value.slice q1 k3 k4, Value.slice (some a2) (1 : Nat) (1 : Nat)] })
  w2 fun (v13 : Value) (w3 : World) =>
  ∃ (q2 : Option Addr),
  ∃ (k5 : Nat),
  ∃ (k6 : Nat),
  v13 = Value.slice q2 k5 k6 ∧
  ∃ (k7 : Nat),
  k7 < k2 ∧ h1 k7 [Value.slice q2 k5 k6, Value.int IntKind.i64 (IntKind.wrap IntKind.i64 (n1 + (1 : Int)))] w3) ∧
  (b1 = false →
  ∃ (k8 : Nat),
  k8 < k2 ∧ h1 k8 [Value.slice q1 k3 k4, Value.int IntKind.i64 (IntKind.wrap IntKind.i64 (n1 + (1 : Int)))] w1)) ∧
  (decide (n1 < (↑l : Int)) = false → K (Value.slice q1 k3 k4) w1)
theorem sched_those_eq (q : Option Addr) (l c : Nat) (w : World) (K : Value → World → Prop) : fw Try.prog Try.f106 (annL [(1, [(2, some 22), (3, none), (4, none), (7, some 3), (8, none), (9, none), (10, none), (11, none), (12, none), (13, none), (14, none), (15, none), (16, none), (17, none)])]) (ordL []) [.slice q l c] w K = sched_those_m q l c w K := by kernel_rfl
theorem sched_those_go (q : Option Addr) (l c : Nat) {w : World} {K : Value → World → Prop} (h : sched_those_m q l c w K) : Rets Try.prog 106 #[.slice q l c] w K :=
  calls_of_fw plain mixed Try.func106 (by kernel_rfl) (by rw [sched_those_eq]; exact h)
def sched_Sched_longest_1_m (a b : Int) (g : Nat) (w : World) (K : Value → World → Prop) : Prop :=
  Drw w fun (w1 : World) =>
  ∃ (h1 : World → Prop),
  h1 w1 ∧
  ∃ (q1 : Option Addr),
  (∀ (w2 : World), h1 w2 → World.cell? w2 { block := g, off := (0 : Nat) } = some (Value.pointer q1)) ∧
  ∃ (q2 : Option Addr),
  (∀ (w3 : World), h1 w3 → World.cell? w3 { block := g, off := (0 : Nat) } = some (Value.pointer q2)) ∧
  Rets Try.prog (108 : Nat) { toList := [Value.pointer q1, Value.int IntKind.i64 a] } w1 fun (v1 : Value) (w4 : World) =>
  ∃ (n1 : Int),
  v1 = Value.int IntKind.i64 n1 ∧
  h1 w4 ∧
  Rets Try.prog (108 : Nat) { toList := [Value.pointer q2, Value.int IntKind.i64 b] } w4 fun (v2 : Value) (w5 : World) =>
  ∃ (n2 : Int), v2 = Value.int IntKind.i64 n2 ∧ K (Value.int IntKind.i64 (IntKind.wrap IntKind.i64 (n1 - n2))) w5
theorem sched_Sched_longest_1_eq (a b : Int) (g : Nat) (w : World) (K : Value → World → Prop) : fw Try.prog Try.f126 (annL []) (ordL [(1, [(1, 0), (4, 0), (0, 1), (3, 1), (2, 2), (5, 3), (6, 0), (7, 0)])]) [.int .i64 a, .int .i64 b, .pointer (some ⟨g, 0, none⟩)] w K = sched_Sched_longest_1_m a b g w K := by kernel_rfl
theorem sched_Sched_longest_1_go (a b : Int) (g : Nat) {w : World} {K : Value → World → Prop} (h : sched_Sched_longest_1_m a b g w K) : Rets Try.prog 126 #[.int .i64 a, .int .i64 b, .pointer (some ⟨g, 0, none⟩)] w K :=
  calls_of_fw plain mixed Try.func126 (by kernel_rfl) (by rw [sched_Sched_longest_1_eq]; exact h)
def slices_MaxFunc_int_int_m (q : Option Addr) (l c : Nat) (g : Nat) (w : World) (K : Value → World → Prop) : Prop :=
  (decide ((↑l : Int) < (1 : Int)) = true → False) ∧
  (decide ((↑l : Int) < (1 : Int)) = false →
  (0 : Int) ≤ (0 : Int) ∧
  (0 : Int) < (↑l : Int) ∧
  someR q fun (a1 : Addr) =>
  ∃ (n1 : Int),
  cellAt w (Addr.add a1 (0 : Nat)) (Value.int IntKind.i64 n1) ∧
  ∃ (h1 : Nat → List Value → World → Prop),
  (∃ (k1 : Nat), h1 k1 [Value.int IntKind.i64 n1, Value.int IntKind.i64 (1 : Int)] w) ∧
  ∀ (k2 : Nat) (w1 : World) (n2 n3 : Int) (v1 v2 v3 v4 v5 v6 v7 v8 v9 v10 v11 v12 v13 v14 v15 v16 v17 v18 : Value),
  h1 k2 [Value.int IntKind.i64 n2, Value.int IntKind.i64 n3] w1 →
  (decide (n3 < (↑l : Int)) = true →
  (0 : Int) ≤ n3 ∧
  n3 < (↑l : Int) ∧
  someR q fun (a2 : Addr) =>
  ∃ (n4 : Int),
  cellAt w1 (Addr.add a2 (Int.toNat n3 * (1 : Nat))) (Value.int IntKind.i64 n4) ∧
  Rets Try.prog (126 : Nat)
  {
  toList := [Value.int IntKind.i64 n4, Value.int IntKind.i64 n2, Value.pointer (some { block := g, off := (0 : Nat) })] }
  w1 fun (v19 : Value) (w2 : World) =>
  ∃ (n5 : Int),
  v19 = Value.int IntKind.i64 n5 ∧
  (decide (n5 > (0 : Int)) = true →
  (0 : Int) ≤ n3 ∧
  n3 < (↑l : Int) ∧
  someR q fun (a3 : Addr) =>
  ∃ (n6 : Int),
  cellAt w2 (Addr.add a3 (Int.toNat n3 * (1 : Nat))) (Value.int IntKind.i64 n6) ∧
  ∃ (k3 : Nat),
  k3 < k2 ∧ h1 k3 [Value.int IntKind.i64 n6, Value.int IntKind.i64 (IntKind.wrap IntKind.i64 (n3 + (1 : Int)))] w2) ∧
  (decide (n5 > (0 : Int)) = false →
  ∃ (k4 : Nat),
  k4 < k2 ∧ h1 k4 [Value.int IntKind.i64 n2, Value.int IntKind.i64 (IntKind.wrap IntKind.i64 (n3 + (1 : Int)))] w2)) ∧
  (decide (n3 < (↑l : Int)) = false → K (Value.int IntKind.i64 n2) w1))
theorem slices_MaxFunc_int_int_eq (q : Option Addr) (l c : Nat) (g : Nat) (w : World) (K : Value → World → Prop) : fw Try.prog Try.f125 (annL [(2, [(5, some 3), (6, some 3), (14, none), (15, none), (16, none), (17, none), (18, none), (19, none), (20, none), (21, none), (22, none), (23, none), (24, none), (25, none), (26, none), (27, none), (28, none), (29, none), (30, none), (31, none)])]) (ordL []) [.slice q l c, .func (.func 126) #[] #[.pointer (some ⟨g, 0, none⟩)]] w K = slices_MaxFunc_int_int_m q l c g w K := by kernel_rfl
theorem slices_MaxFunc_int_int_go (q : Option Addr) (l c : Nat) (g : Nat) {w : World} {K : Value → World → Prop} (h : slices_MaxFunc_int_int_m q l c g w K) : Rets Try.prog 125 #[.slice q l c, .func (.func 126) #[] #[.pointer (some ⟨g, 0, none⟩)]] w K :=
  calls_of_fw plain mixed Try.func125 (by kernel_rfl) (by rw [slices_MaxFunc_int_int_eq]; exact h)
def sched_Sched_longest_m (g : Nat) (q : Option Addr) (l c : Nat) (w : World) (K : Value → World → Prop) : Prop :=
  NewR (76 : Nat) [Value.pointer (some { block := g, off := (0 : Nat) })] w fun (a1 : Addr) (w1 : World) =>
  Rets Try.prog (125 : Nat)
  {
  toList :=
  [Value.slice q l c, Value.func (Fn.func (126 : Nat)) { toList := [] } { toList := [Value.pointer (some a1)] }] }
  w1 fun (v1 : Value) (w2 : World) => ∃ (n1 : Int), v1 = Value.int IntKind.i64 n1 ∧ K (Value.int IntKind.i64 n1) w2
theorem sched_Sched_longest_eq (g : Nat) (q : Option Addr) (l c : Nat) (w : World) (K : Value → World → Prop) : fw Try.prog Try.f107 (annL []) (ordL []) [.pointer (some ⟨g, 0, none⟩), .slice q l c] w K = sched_Sched_longest_m g q l c w K := by kernel_rfl
theorem sched_Sched_longest_go (g : Nat) (q : Option Addr) (l c : Nat) {w : World} {K : Value → World → Prop} (h : sched_Sched_longest_m g q l c w K) : Rets Try.prog 107 #[.pointer (some ⟨g, 0, none⟩), .slice q l c] w K :=
  calls_of_fw plain mixed Try.func107 (by kernel_rfl) (by rw [sched_Sched_longest_eq]; exact h)
def sched_Sched_told_m (g : Nat) (w : World) (K : Value → World → Prop) : Prop :=
  ∃ (q1 : Option Addr),
  ∃ (k1 : Nat),
  ∃ (k2 : Nat),
  cellAt w (Addr.add { block := g, off := (0 : Nat) } (0 : Nat)) (Value.slice q1 k1 k2) ∧
  (((↑k1 : Int) == (0 : Int)) = true →
  K (Value.tuple { toList := [Value.int IntKind.i64 (0 : Int), Value.bool false] }) w) ∧
  (((↑k1 : Int) == (0 : Int)) = false →
  ∃ (q2 : Option Addr),
  ∃ (k3 : Nat),
  ∃ (k4 : Nat),
  cellAt w (Addr.add { block := g, off := (0 : Nat) } (0 : Nat)) (Value.slice q2 k3 k4) ∧
  (0 : Int) ≤ (0 : Int) ∧
  (0 : Int) < (↑k3 : Int) ∧
  someR q2 fun (a1 : Addr) =>
  ∃ (n1 : Int),
  cellAt w (Addr.add a1 (0 : Nat)) (Value.int IntKind.i64 n1) ∧
  ∃ (q3 : Option Addr),
  ∃ (k5 : Nat),
  ∃ (k6 : Nat),
  cellAt w (Addr.add { block := g, off := (0 : Nat) } (0 : Nat)) (Value.slice q3 k5 k6) ∧
  (0 : Int) ≤ (1 : Int) ∧
  (1 : Int) ≤ (↑k5 : Int) ∧
  StoreR (Addr.add { block := g, off := (0 : Nat) } (0 : Nat))
  [Value.slice (slcA q3 (1 : Nat) k6 (1 : Nat)) (k5 - (1 : Nat)) (k6 - (1 : Nat))] w fun (w1 : World) =>
  K (Value.tuple { toList := [Value.int IntKind.i64 (maxI n1 (0 : Int)), Value.bool true] }) w1)
theorem sched_Sched_told_eq (g : Nat) (w : World) (K : Value → World → Prop) : fw Try.prog Try.f109 (annL []) (ordL []) [.pointer (some ⟨g, 0, none⟩)] w K = sched_Sched_told_m g w K := by kernel_rfl
theorem sched_Sched_told_go (g : Nat) {w : World} {K : Value → World → Prop} (h : sched_Sched_told_m g w K) : Rets Try.prog 109 #[.pointer (some ⟨g, 0, none⟩)] w K :=
  calls_of_fw plain mixed Try.func109 (by kernel_rfl) (by rw [sched_Sched_told_eq]; exact h)
def sched_Sched_turn_m (g : Nat) (q : Option Addr) (l c : Nat) (who : Int) (w : World) (K : Value → World → Prop) : Prop :=
  ∃ (q1 : Option Addr),
  ∃ (k1 : Nat),
  ∃ (k2 : Nat),
  cellAt w (Addr.add { block := g, off := (0 : Nat) } (3 : Nat)) (Value.slice q1 k1 k2) ∧
  MakeR (3 : Nat) [Value.int IntKind.i64 (0 : Int)] (8 : Nat) (maxI (↑l : Int) (↑k1 : Int)) (maxI (↑l : Int) (↑k1 : Int))
  w fun (a1 : Addr) (w1 : World) =>
  ∃ (h1 : Nat → List Value → World → Prop),
  (∃ (k3 : Nat), h1 k3 [Value.int IntKind.i64 (0 : Int)] w1) ∧
  ∀ (k4 : Nat) (w2 : World) (v1 v2 : Value) (n1 : Int)
  (v3 v4 v5 v6 v7 v8 v9 v10 v11 v12 v13 v14 v15 v16 v17 v18 v19 v20 v21 v22 v23 v24 v25 v26 v27 v28 v29 v30 v31 v32 :
  Value),
  h1 k4 [Value.int IntKind.i64 n1] w2 →
  (decide (n1 < (↑l : Int)) = true →
  (0 : Int) ≤ n1 ∧
  n1 < (↑l : Int) ∧
  someR q fun (a2 : Addr) =>
  ∃ (b1 : Bool),
  cellAt w2 (Addr.add a2 (Int.toNat n1 * (1 : Nat))) (Value.bool b1) ∧
  (b1 = true →
  ∃ (h2 : List Value → World → Prop),
  (((n1 != who) = true →
  Rets Try.prog (108 : Nat)
  { toList := [Value.pointer (some { block := g, off := (0 : Nat) }), Value.int IntKind.i64 n1] } w2
  fun (v33 : Value) (w3 : World) =>
  ∃ (n2 : Int),
  v33 = Value.int IntKind.i64 n2 ∧
  (0 : Int) ≤ n1 ∧
  n1 < (↑(Int.toNat (maxI (↑l : Int) (↑k1 : Int))) : Int) ∧
  StoreR (Addr.add a1 (Int.toNat n1 * (1 : Nat))) [Value.int IntKind.i64 (IntKind.wrap IntKind.i64 (n2 + (1 : Int)))] w3
  fun (w4 : World) =>
  Drw w4 fun (w5 : World) =>
  (0 : Int) ≤ n1 ∧
  n1 < (↑(Int.toNat (maxI (↑l : Int) (↑k1 : Int))) : Int) ∧
  ∃ (n3 : Int),
  cellAt w5 (Addr.add { block := g, off := (0 : Nat) } (4 : Nat)) (Value.int IntKind.i64 n3) ∧
  ∃ (n4 : Int),
  cellAt w5 (Addr.add a1 (Int.toNat n1 * (1 : Nat))) (Value.int IntKind.i64 n4) ∧
  StoreR (Addr.add { block := g, off := (0 : Nat) } (4 : Nat)) [Value.int IntKind.i64 (maxI n3 n4)] w5 fun (w6 : World) =>
  h2 [] w6) ∧
  ((n1 != who) = false → h2 [] w2)) ∧
  ∀ (w7 : World) (v34 v35 v36 v37 v38 v39 v40 v41 v42 v43 v44 v45 v46 v47 v48 v49 v50 v51 v52 : Value),
  h2 [] w7 → ∃ (k5 : Nat), k5 < k4 ∧ h1 k5 [Value.int IntKind.i64 (IntKind.wrap IntKind.i64 (n1 + (1 : Int)))] w7) ∧
  (b1 = false →
  ∃ (h3 : List Value → World → Prop),
  h3 [] w2 ∧
  ∀ (w8 : World) (v53 v54 v55 v56 v57 v58 v59 v60 v61 v62 v63 v64 v65 v66 v67 v68 v69 v70 v71 : Value),
  h3 [] w8 → ∃ (k6 : Nat), k6 < k4 ∧ h1 k6 [Value.int IntKind.i64 (IntKind.wrap IntKind.i64 (n1 + (1 : Int)))] w8)) ∧
  (decide (n1 < (↑l : Int)) = false →
  StoreR (Addr.add { block := g, off := (0 : Nat) } (3 : Nat))
  [Value.slice (some a1) (Int.toNat (maxI (↑l : Int) (↑k1 : Int))) (Int.toNat (maxI (↑l : Int) (↑k1 : Int)))] w2
  fun (w9 : World) =>
  ∃ (n5 : Int),
  cellAt w9 (Addr.add { block := g, off := (0 : Nat) } (2 : Nat)) (Value.int IntKind.i64 n5) ∧
  StoreR (Addr.add { block := g, off := (0 : Nat) } (2 : Nat))
  [Value.int IntKind.i64 (IntKind.wrap IntKind.i64 (n5 + (1 : Int)))] w9 fun (w10 : World) =>
  K (Value.tuple { toList := [] }) w10)
theorem sched_Sched_turn_eq (g : Nat) (q : Option Addr) (l c : Nat) (who : Int) (w : World) (K : Value → World → Prop) : fw Try.prog Try.f110 (annL [(1, [(7, none), (8, none), (20, some 3), (21, none), (22, none), (23, none), (24, none), (25, none), (26, none), (27, none), (28, none), (29, none), (30, none), (31, none), (32, none), (33, none), (34, none), (35, none), (36, none), (37, none), (38, none), (39, none), (40, none), (41, none), (42, none), (43, none), (44, none), (45, none), (46, none), (47, none), (48, none), (49, none), (50, none)]), (4, [(31, none), (32, none), (33, none), (34, none), (35, none), (36, none), (37, none), (38, none), (39, none), (40, none), (41, none), (42, none), (43, none), (44, none), (45, none), (46, none), (47, none), (48, none), (49, none)])]) (ordL [(6, [(0, 0), (1, 0), (2, 0), (3, 0), (5, 0), (6, 0), (7, 0), (4, 1), (8, 1), (9, 0), (10, 0), (11, 0), (12, 3)])]) [.pointer (some ⟨g, 0, none⟩), .slice q l c, .int .i64 who] w K = sched_Sched_turn_m g q l c who w K := by kernel_rfl
theorem sched_Sched_turn_go (g : Nat) (q : Option Addr) (l c : Nat) (who : Int) {w : World} {K : Value → World → Prop} (h : sched_Sched_turn_m g q l c who w K) : Rets Try.prog 110 #[.pointer (some ⟨g, 0, none⟩), .slice q l c, .int .i64 who] w K :=
  calls_of_fw plain mixed Try.func110 (by kernel_rfl) (by rw [sched_Sched_turn_eq]; exact h)
def sched_Sched_Pick_m (g : Nat) (q : Option Addr) (l c : Nat) (w : World) (K : Value → World → Prop) : Prop :=
  Rets Try.prog (106 : Nat) { toList := [Value.slice q l c] } w fun (v1 : Value) (w1 : World) =>
  ∃ (q1 : Option Addr),
  ∃ (k1 : Nat),
  ∃ (k2 : Nat),
  v1 = Value.slice q1 k1 k2 ∧
  (false = false →
  (((↑k1 : Int) == (0 : Int)) = true →
  K (Value.tuple { toList := [Value.int IntKind.i64 (0 : Int), Value.bool false] }) w1) ∧
  (((↑k1 : Int) == (0 : Int)) = false →
  Rets Try.prog (107 : Nat) { toList := [Value.pointer (some { block := g, off := (0 : Nat) }), Value.slice q1 k1 k2] } w1
  fun (v2 : Value) (w2 : World) =>
  ∃ (n1 : Int),
  v2 = Value.int IntKind.i64 n1 ∧
  Drw w2 fun (w3 : World) =>
  ∃ (h1 : World → Prop),
  h1 w3 ∧
  ∃ (n2 : Int),
  (∀ (w4 : World),
  h1 w4 → World.cell? w4 (Addr.add { block := g, off := (0 : Nat) } (1 : Nat)) = some (Value.int IntKind.i64 n2)) ∧
  (decide (n2 > (0 : Int)) = true →
  ∃ (n3 : Int),
  (∀ (w5 : World),
  h1 w5 → World.cell? w5 (Addr.add { block := g, off := (0 : Nat) } (1 : Nat)) = some (Value.int IntKind.i64 n3)) ∧
  Rets Try.prog (108 : Nat)
  { toList := [Value.pointer (some { block := g, off := (0 : Nat) }), Value.int IntKind.i64 n1] } w3
  fun (v3 : Value) (w6 : World) =>
  ∃ (n4 : Int),
  v3 = Value.int IntKind.i64 n4 ∧
  h1 w6 ∧
  Rets Try.prog (109 : Nat) { toList := [Value.pointer (some { block := g, off := (0 : Nat) })] } w6
  fun (v4 : Value) (w7 : World) =>
  ∃ (n5 : Int),
  ∃ (b1 : Bool),
  v4 = Value.tuple { toList := [Value.int IntKind.i64 n5, Value.bool b1] } ∧
  (b1 = true →
  ∃ (h2 : List Value → World → Prop),
  (((!decide (n4 ≥ IntKind.wrap IntKind.i64 (maxI n3 (↑l : Int) - (↑l : Int)))) = true →
  (↑k1 : Int) ≠ (0 : Int) ∧
  (0 : Int) ≤ Int.tmod n5 (↑k1 : Int) ∧
  Int.tmod n5 (↑k1 : Int) < (↑k1 : Int) ∧
  someR q1 fun (a1 : Addr) =>
  ∃ (n6 : Int),
  cellAt w7 (Addr.add a1 (Int.toNat (Int.tmod n5 (↑k1 : Int)) * (1 : Nat))) (Value.int IntKind.i64 n6) ∧
  h2 [Value.int IntKind.i64 n6] w7) ∧
  ((!decide (n4 ≥ IntKind.wrap IntKind.i64 (maxI n3 (↑l : Int) - (↑l : Int)))) = false →
  h2 [Value.int IntKind.i64 n1] w7)) ∧
  ∀ (w8 : World) (n7 : Int) (v5 v6 v7 v8 v9 v10 v11 : Value),
  h2 [Value.int IntKind.i64 n7] w8 →
  Rets Try.prog (110 : Nat)
  { toList := [Value.pointer (some { block := g, off := (0 : Nat) }), Value.slice q l c, Value.int IntKind.i64 n7] } w8
  fun (v12 : Value) (w9 : World) =>
  v12 = Value.tuple { toList := [] } ∧ K (Value.tuple { toList := [Value.int IntKind.i64 n7, Value.bool true] }) w9) ∧
  (b1 = false →
  ∃ (h3 : List Value → World → Prop),
  h3 [Value.int IntKind.i64 n1] w7 ∧
  ∀ (w10 : World) (n8 : Int) (v13 v14 v15 v16 v17 v18 v19 : Value),
  h3 [Value.int IntKind.i64 n8] w10 →
  Rets Try.prog (110 : Nat)
  { toList := [Value.pointer (some { block := g, off := (0 : Nat) }), Value.slice q l c, Value.int IntKind.i64 n8] } w10
  fun (v20 : Value) (w11 : World) =>
  v20 = Value.tuple { toList := [] } ∧ K (Value.tuple { toList := [Value.int IntKind.i64 n8, Value.bool true] }) w11)) ∧
  (decide (n2 > (0 : Int)) = false →
  Rets Try.prog (109 : Nat) { toList := [Value.pointer (some { block := g, off := (0 : Nat) })] } w3
  fun (v21 : Value) (w12 : World) =>
  ∃ (n9 : Int),
  ∃ (b2 : Bool),
  v21 = Value.tuple { toList := [Value.int IntKind.i64 n9, Value.bool b2] } ∧
  (b2 = true →
  ∃ (h4 : List Value → World → Prop),
  ((↑k1 : Int) ≠ (0 : Int) ∧
  (0 : Int) ≤ Int.tmod n9 (↑k1 : Int) ∧
  Int.tmod n9 (↑k1 : Int) < (↑k1 : Int) ∧
  someR q1 fun (a2 : Addr) =>
  ∃ (n10 : Int),
  cellAt w12 (Addr.add a2 (Int.toNat (Int.tmod n9 (↑k1 : Int)) * (1 : Nat))) (Value.int IntKind.i64 n10) ∧
  h4 [Value.int IntKind.i64 n10] w12) ∧
  ∀ (w13 : World) (n11 : Int) (v22 v23 v24 v25 v26 v27 v28 : Value),
  h4 [Value.int IntKind.i64 n11] w13 →
  Rets Try.prog (110 : Nat)
  { toList := [Value.pointer (some { block := g, off := (0 : Nat) }), Value.slice q l c, Value.int IntKind.i64 n11] } w13
  fun (v29 : Value) (w14 : World) =>
  v29 = Value.tuple { toList := [] } ∧ K (Value.tuple { toList := [Value.int IntKind.i64 n11, Value.bool true] }) w14) ∧
  (b2 = false →
  ∃ (h5 : List Value → World → Prop),
  h5 [Value.int IntKind.i64 n1] w12 ∧
  ∀ (w15 : World) (n12 : Int) (v30 v31 v32 v33 v34 v35 v36 : Value),
  h5 [Value.int IntKind.i64 n12] w15 →
  Rets Try.prog (110 : Nat)
  { toList := [Value.pointer (some { block := g, off := (0 : Nat) }), Value.slice q l c, Value.int IntKind.i64 n12] } w15
  fun (v37 : Value) (w16 : World) =>
  v37 = Value.tuple { toList := [] } ∧
  K (Value.tuple { toList := [Value.int IntKind.i64 n12, Value.bool true] }) w16)))) ∧
  (false = true → K (Value.tuple { toList := [Value.int IntKind.i64 (0 : Int), Value.bool false] }) w1)
theorem sched_Sched_Pick_eq (g : Nat) (q : Option Addr) (l c : Nat) (w : World) (K : Value → World → Prop) : fw Try.prog Try.f60 (annL [(1, [(7, some 3), (54, none), (55, none), (56, none), (57, none), (58, none), (59, none), (60, none)])]) (ordL [(5, [(0, 0), (1, 0), (2, 0), (3, 1), (4, 0), (5, 0), (6, 0), (7, 0), (9, 0), (10, 0), (11, 0), (13, 0), (14, 0), (16, 0), (17, 0), (12, 1), (15, 0), (18, 0), (8, 2), (19, 0), (20, 0), (21, 0)])]) [.pointer (some ⟨g, 0, none⟩), .slice q l c] w K = sched_Sched_Pick_m g q l c w K := by kernel_rfl
theorem sched_Sched_Pick_go (g : Nat) (q : Option Addr) (l c : Nat) {w : World} {K : Value → World → Prop} (h : sched_Sched_Pick_m g q l c w K) : Rets Try.prog 60 #[.pointer (some ⟨g, 0, none⟩), .slice q l c] w K :=
  calls_of_fw plain mixed Try.func60 (by kernel_rfl) (by rw [sched_Sched_Pick_eq]; exact h)
def sched_nil_Pick_m (q : Option Addr) (l c : Nat) (w : World) (K : Value → World → Prop) : Prop :=
  Rets Try.prog (106 : Nat) { toList := [Value.slice q l c] } w fun (v1 : Value) (w1 : World) =>
  ∃ (q1 : Option Addr),
  ∃ (k1 : Nat),
  ∃ (k2 : Nat),
  v1 = Value.slice q1 k1 k2 ∧
  (true = false →
  (((↑k1 : Int) == (0 : Int)) = true →
  K (Value.tuple { toList := [Value.int IntKind.i64 (0 : Int), Value.bool false] }) w1) ∧
  (((↑k1 : Int) == (0 : Int)) = false →
  Rets Try.prog (107 : Nat) { toList := [Value.pointer none, Value.slice q1 k1 k2] } w1 fun (v2 : Value) (w2 : World) =>
  ∃ (n1 : Int), v2 = Value.int IntKind.i64 n1 ∧ Drw w2 fun (w3 : World) => ∃ (h1 : World → Prop), h1 w3 ∧ False)) ∧
  (true = true → K (Value.tuple { toList := [Value.int IntKind.i64 (0 : Int), Value.bool false] }) w1)
theorem sched_nil_Pick_eq (q : Option Addr) (l c : Nat) (w : World) (K : Value → World → Prop) : fw Try.prog Try.f60 (annL []) (ordL [(5, [(0, 0), (1, 0), (2, 0), (3, 1), (4, 0), (5, 0), (6, 0), (7, 0), (9, 0), (10, 0), (11, 0), (13, 0), (14, 0), (16, 0), (17, 0), (12, 1), (15, 0), (18, 0), (8, 2), (19, 0), (20, 0), (21, 0)])]) [.pointer none, .slice q l c] w K = sched_nil_Pick_m q l c w K := by kernel_rfl
theorem sched_nil_Pick_go (q : Option Addr) (l c : Nat) {w : World} {K : Value → World → Prop} (h : sched_nil_Pick_m q l c w K) : Rets Try.prog 60 #[.pointer none, .slice q l c] w K :=
  calls_of_fw plain mixed Try.func60 (by kernel_rfl) (by rw [sched_nil_Pick_eq]; exact h)
def cortadolaw35_awake_m  (w : World) (K : Value → World → Prop) : Prop :=
  NewR (3 : Nat) [Value.int IntKind.i64 (5 : Int), Value.int IntKind.i64 (0 : Int)] w fun (a1 : Addr) (w1 : World) =>
  Rets Try.prog (59 : Nat) { toList := [Value.slice (some a1) (2 : Nat) (2 : Nat), Value.int IntKind.i64 (0 : Int)] } w1
  fun (v1 : Value) (w2 : World) =>
  ∃ (q1 : Option Addr),
  v1 = Value.pointer q1 ∧
  NewR (4 : Nat) [Value.bool true, Value.bool true, Value.bool true] w2 fun (a2 : Addr) (w3 : World) =>
  Rets Try.prog (60 : Nat) { toList := [Value.pointer q1, Value.slice (some a2) (3 : Nat) (3 : Nat)] } w3
  fun (v2 : Value) (w4 : World) =>
  ∃ (n1 : Int),
  ∃ (b1 : Bool),
  v2 = Value.tuple { toList := [Value.int IntKind.i64 n1, Value.bool b1] } ∧
  Rets Try.prog (60 : Nat) { toList := [Value.pointer q1, Value.slice (some a2) (3 : Nat) (3 : Nat)] } w4
  fun (v3 : Value) (w5 : World) =>
  ∃ (n2 : Int),
  ∃ (b2 : Bool),
  v3 = Value.tuple { toList := [Value.int IntKind.i64 n2, Value.bool b2] } ∧
  Rets Try.prog (60 : Nat) { toList := [Value.pointer q1, Value.slice (some a2) (3 : Nat) (3 : Nat)] } w5
  fun (v4 : Value) (w6 : World) =>
  ∃ (n3 : Int),
  ∃ (b3 : Bool),
  v4 = Value.tuple { toList := [Value.int IntKind.i64 n3, Value.bool b3] } ∧
  ((n1 == (2 : Int)) = true →
  ((n2 == (0 : Int)) = true →
  ((n3 == (1 : Int)) = true → K (Value.bool b3) w6) ∧ ((n3 == (1 : Int)) = false → K (Value.bool false) w6)) ∧
  ((n2 == (0 : Int)) = false → K (Value.bool false) w6)) ∧
  ((n1 == (2 : Int)) = false → K (Value.bool false) w6)
theorem cortadolaw35_awake_eq  (w : World) (K : Value → World → Prop) : fw Try.prog Try.f58 (annL []) (ordL []) [] w K = cortadolaw35_awake_m  w K := by kernel_rfl
theorem cortadolaw35_awake_go  {w : World} {K : Value → World → Prop} (h : cortadolaw35_awake_m  w K) : Rets Try.prog 58 #[] w K :=
  calls_of_fw plain mixed Try.func58 (by kernel_rfl) (by rw [cortadolaw35_awake_eq]; exact h)
def cortadolaw35_SchedFair_m (q : Option Addr) (l c : Nat) (sa sb : Int) (q2 : Option Addr) (l2 c2 : Nat) (w : World) (K : Value → World → Prop) : Prop :=
  NewR (75 : Nat) [Value.int IntKind.u64 sa, Value.int IntKind.u64 sb] w fun (a1 : Addr) (w1 : World) =>
  (0 : Int) ≤ (0 : Int) ∧
  (0 : Int) < (↑(2 : Nat) : Int) ∧
  ∃ (n1 : Int),
  cellAt w1 (Addr.add a1 (0 : Nat)) (Value.int IntKind.u64 n1) ∧
  (8 : Int) ≠ (0 : Int) ∧
  (0 : Int) ≤ (1 : Int) ∧
  (1 : Int) < (↑(2 : Nat) : Int) ∧
  ∃ (n2 : Int),
  cellAt w1 (Addr.add a1 (1 : Nat)) (Value.int IntKind.u64 n2) ∧
  (20 : Int) ≠ (0 : Int) ∧
  (decide ((↑l2 : Int) > (80 : Int)) = true →
  Rets Try.prog (58 : Nat) { toList := [] } w1 fun (v1 : Value) (w2 : World) =>
  ∃ (b1 : Bool), v1 = Value.bool b1 ∧ K (Value.bool b1) w2) ∧
  (decide ((↑l2 : Int) > (80 : Int)) = false →
  Rets Try.prog (59 : Nat)
  {
  toList :=
  [Value.slice q l c,
  Value.int IntKind.i64
  (maxI (IntKind.wrap IntKind.i64 (IntKind.wrap IntKind.i64 (Int.tmod n1 (8 : Int)) + (1 : Int)))
  (IntKind.wrap IntKind.i64 (Int.tmod n2 (20 : Int))))] }
  w1 fun (v2 : Value) (w3 : World) =>
  ∃ (q1 : Option Addr),
  v2 = Value.pointer q1 ∧
  ∃ (h1 : Nat → List Value → World → Prop),
  (∃ (k1 : Nat), h1 k1 [Value.int IntKind.i64 (0 : Int)] w3) ∧
  ∀ (k2 : Nat) (w4 : World) (v3 : Value) (n3 : Int)
  (v4 v5 v6 v7 v8 v9 v10 v11 v12 v13 v14 v15 v16 v17 v18 v19 v20 v21 v22 v23 v24 v25 v26 v27 v28 v29 v30 v31 v32 v33 v34
  v35 v36 v37 v38 v39 v40 v41 v42 v43 v44 v45 v46 v47 v48 v49 v50 v51 v52 v53 v54 v55 v56 v57 v58 v59 v60 v61 v62 v63 v64
  v65 : Value),
  h1 k2 [Value.int IntKind.i64 n3] w4 →
  (decide (n3 < (↑l2 : Int)) = true →
  MakeR (4 : Nat) [Value.bool false] (1 : Nat)
  (IntKind.wrap IntKind.i64 (IntKind.wrap IntKind.i64 (Int.tmod n1 (8 : Int)) + (1 : Int)))
  (IntKind.wrap IntKind.i64 (IntKind.wrap IntKind.i64 (Int.tmod n1 (8 : Int)) + (1 : Int))) w4
  fun (a2 : Addr) (w5 : World) =>
  ∃ (h2 : Nat → List Value → World → Prop),
  (∃ (k3 : Nat), h2 k3 [Value.int IntKind.i64 (0 : Int), Value.int IntKind.i64 (0 : Int)] w5) ∧
  ∀ (k4 : Nat) (w6 : World) (n4 n5 : Int)
  (v66 v67 v68 v69 v70 v71 v72 v73 v74 v75 v76 v77 v78 v79 v80 v81 v82 v83 v84 : Value),
  h2 k4 [Value.int IntKind.i64 n4, Value.int IntKind.i64 n5] w6 →
  (decide (n5 < IntKind.wrap IntKind.i64 (IntKind.wrap IntKind.i64 (Int.tmod n1 (8 : Int)) + (1 : Int))) = true →
  (0 : Int) ≤ n3 ∧
  n3 < (↑l2 : Int) ∧
  someR q2 fun (a3 : Addr) =>
  ∃ (n6 : Int),
  cellAt w6 (Addr.add a3 (Int.toNat n3 * (1 : Nat))) (Value.int IntKind.u8 n6) ∧
  (0 : Int) ≤ IntKind.wrap IntKind.u64 n5 ∧
  (2 : Int) ≠ (0 : Int) ∧
  ∃ (h3 : List Value → World → Prop),
  (((Int.tmod (shrI IntKind.u8 n6 (IntKind.wrap IntKind.u64 n5)) (2 : Int) == (1 : Int)) = true →
  (0 : Int) ≤ n5 ∧
  n5 < (↑(Int.toNat (IntKind.wrap IntKind.i64 (IntKind.wrap IntKind.i64 (Int.tmod n1 (8 : Int)) + (1 : Int)))) : Int) ∧
  StoreR (Addr.add a2 (Int.toNat n5 * (1 : Nat))) [Value.bool true] w6 fun (w7 : World) =>
  h3 [Value.int IntKind.i64 (IntKind.wrap IntKind.i64 (n4 + (1 : Int)))] w7) ∧
  ((Int.tmod (shrI IntKind.u8 n6 (IntKind.wrap IntKind.u64 n5)) (2 : Int) == (1 : Int)) = false →
  h3 [Value.int IntKind.i64 n4] w6)) ∧
  ∀ (w8 : World) (n7 : Int) (v85 v86 v87 v88 v89 : Value),
  h3 [Value.int IntKind.i64 n7] w8 →
  ∃ (k5 : Nat),
  k5 < k4 ∧ h2 k5 [Value.int IntKind.i64 n7, Value.int IntKind.i64 (IntKind.wrap IntKind.i64 (n5 + (1 : Int)))] w8) ∧
  (decide (n5 < IntKind.wrap IntKind.i64 (IntKind.wrap IntKind.i64 (Int.tmod n1 (8 : Int)) + (1 : Int))) = false →
  Rets Try.prog (60 : Nat)
  {
  toList :=
  [Value.pointer q1,
  Value.slice (some a2)
  (Int.toNat (IntKind.wrap IntKind.i64 (IntKind.wrap IntKind.i64 (Int.tmod n1 (8 : Int)) + (1 : Int))))
  (Int.toNat (IntKind.wrap IntKind.i64 (IntKind.wrap IntKind.i64 (Int.tmod n1 (8 : Int)) + (1 : Int))))] }
  w6 fun (v90 : Value) (w9 : World) =>
  ∃ (n8 : Int),
  ∃ (b2 : Bool),
  v90 = Value.tuple { toList := [Value.int IntKind.i64 n8, Value.bool b2] } ∧
  ((!b2 == decide (n4 > (0 : Int))) = false →
  (b2 = true →
  (0 : Int) ≤ n8 ∧
  n8 < (↑(Int.toNat (IntKind.wrap IntKind.i64 (IntKind.wrap IntKind.i64 (Int.tmod n1 (8 : Int)) + (1 : Int)))) : Int) ∧
  ∃ (b3 : Bool),
  cellAt w9 (Addr.add a2 (Int.toNat n8 * (1 : Nat))) (Value.bool b3) ∧
  ((!b3) = false →
  Rets Try.prog (61 : Nat) { toList := [Value.pointer q1] } w9 fun (v91 : Value) (w10 : World) =>
  ∃ (n9 : Int),
  v91 = Value.int IntKind.i64 n9 ∧
  (decide
  (n9 ≥
  maxI (IntKind.wrap IntKind.i64 (IntKind.wrap IntKind.i64 (Int.tmod n1 (8 : Int)) + (1 : Int)))
  (IntKind.wrap IntKind.i64 (Int.tmod n2 (20 : Int)))) =
  true →
  (decide (IntKind.wrap IntKind.i64 (IntKind.wrap IntKind.i64 (Int.tmod n1 (8 : Int)) + (1 : Int)) > (1 : Int)) = true →
  K (Value.bool false) w10) ∧
  (decide (IntKind.wrap IntKind.i64 (IntKind.wrap IntKind.i64 (Int.tmod n1 (8 : Int)) + (1 : Int)) > (1 : Int)) = false →
  ∃ (k6 : Nat), k6 < k2 ∧ h1 k6 [Value.int IntKind.i64 (IntKind.wrap IntKind.i64 (n3 + (1 : Int)))] w10)) ∧
  (decide
  (n9 ≥
  maxI (IntKind.wrap IntKind.i64 (IntKind.wrap IntKind.i64 (Int.tmod n1 (8 : Int)) + (1 : Int)))
  (IntKind.wrap IntKind.i64 (Int.tmod n2 (20 : Int)))) =
  false →
  ∃ (k7 : Nat), k7 < k2 ∧ h1 k7 [Value.int IntKind.i64 (IntKind.wrap IntKind.i64 (n3 + (1 : Int)))] w10)) ∧
  ((!b3) = true → K (Value.bool false) w9)) ∧
  (b2 = false →
  Rets Try.prog (61 : Nat) { toList := [Value.pointer q1] } w9 fun (v92 : Value) (w11 : World) =>
  ∃ (n10 : Int),
  v92 = Value.int IntKind.i64 n10 ∧
  (decide
  (n10 ≥
  maxI (IntKind.wrap IntKind.i64 (IntKind.wrap IntKind.i64 (Int.tmod n1 (8 : Int)) + (1 : Int)))
  (IntKind.wrap IntKind.i64 (Int.tmod n2 (20 : Int)))) =
  true →
  (decide (IntKind.wrap IntKind.i64 (IntKind.wrap IntKind.i64 (Int.tmod n1 (8 : Int)) + (1 : Int)) > (1 : Int)) = true →
  K (Value.bool false) w11) ∧
  (decide (IntKind.wrap IntKind.i64 (IntKind.wrap IntKind.i64 (Int.tmod n1 (8 : Int)) + (1 : Int)) > (1 : Int)) = false →
  ∃ (k8 : Nat), k8 < k2 ∧ h1 k8 [Value.int IntKind.i64 (IntKind.wrap IntKind.i64 (n3 + (1 : Int)))] w11)) ∧
  (decide
  (n10 ≥
  maxI (IntKind.wrap IntKind.i64 (IntKind.wrap IntKind.i64 (Int.tmod n1 (8 : Int)) + (1 : Int)))
  (IntKind.wrap IntKind.i64 (Int.tmod n2 (20 : Int)))) =
  false →
  ∃ (k9 : Nat), k9 < k2 ∧ h1 k9 [Value.int IntKind.i64 (IntKind.wrap IntKind.i64 (n3 + (1 : Int)))] w11))) ∧
  ((!b2 == decide (n4 > (0 : Int))) = true → K (Value.bool false) w9))) ∧
  (decide (n3 < (↑l2 : Int)) = false →
  Rets Try.prog (61 : Nat) { toList := [Value.pointer q1] } w4 fun (v93 : Value) (w12 : World) =>
  ∃ (n11 : Int),
  v93 = Value.int IntKind.i64 n11 ∧
  (decide
  (n11 <
  maxI (IntKind.wrap IntKind.i64 (IntKind.wrap IntKind.i64 (Int.tmod n1 (8 : Int)) + (1 : Int)))
  (IntKind.wrap IntKind.i64 (Int.tmod n2 (20 : Int)))) =
  true →
  Rets Try.prog (58 : Nat) { toList := [] } w12 fun (v94 : Value) (w13 : World) =>
  ∃ (b4 : Bool), v94 = Value.bool b4 ∧ K (Value.bool b4) w13) ∧
  (decide
  (n11 <
  maxI (IntKind.wrap IntKind.i64 (IntKind.wrap IntKind.i64 (Int.tmod n1 (8 : Int)) + (1 : Int)))
  (IntKind.wrap IntKind.i64 (Int.tmod n2 (20 : Int)))) =
  false →
  K (Value.bool false) w12)))
theorem cortadolaw35_SchedFair_eq (q : Option Addr) (l c : Nat) (sa sb : Int) (q2 : Option Addr) (l2 c2 : Nat) (w : World) (K : Value → World → Prop) : fw Try.prog Try.f10 (annL [(2, [(6, none), (10, some 3), (11, none), (12, none), (13, none), (14, none), (15, none), (34, none), (35, none), (36, none), (37, none), (38, none), (39, none), (40, none), (41, none), (42, none), (43, none), (44, none), (45, none), (46, none), (47, none), (48, none), (49, none), (50, none), (51, none), (52, none), (53, none), (54, none), (55, none), (56, none), (57, none), (58, none), (59, none), (60, none), (61, none), (62, none), (63, none), (64, none), (65, none), (66, none), (67, none), (68, none), (69, none), (70, none), (71, none), (72, none), (73, none), (74, none), (75, none), (76, none), (77, none), (78, none), (79, none), (80, none), (81, none), (82, none), (83, none), (84, none), (85, none), (86, none), (87, none), (88, none), (89, none), (90, none)]), (6, [(12, some 3), (13, some 3), (42, none), (43, none), (44, none), (45, none), (46, none), (47, none), (48, none), (49, none), (50, none), (51, none), (52, none), (53, none), (54, none), (55, none), (56, none), (57, none), (58, none), (59, none), (60, none)]), (9, [(12, some 3), (56, none), (57, none), (58, none), (59, none), (60, none)])]) (ordL []) [.slice q l c, .agg #[.int .u64 sa, .int .u64 sb], .slice q2 l2 c2] w K = cortadolaw35_SchedFair_m q l c sa sb q2 l2 c2 w K := by kernel_rfl
theorem cortadolaw35_SchedFair_go (q : Option Addr) (l c : Nat) (sa sb : Int) (q2 : Option Addr) (l2 c2 : Nat) {w : World} {K : Value → World → Prop} (h : cortadolaw35_SchedFair_m q l c sa sb q2 l2 c2 w K) : Rets Try.prog 10 #[.slice q l c, .agg #[.int .u64 sa, .int .u64 sb], .slice q2 l2 c2] w K :=
  calls_of_fw plain mixed Try.func10 (by kernel_rfl) (by rw [cortadolaw35_SchedFair_eq]; exact h)
end Go.Proofs.Ytfcddffcjmgpkaa.Eng
