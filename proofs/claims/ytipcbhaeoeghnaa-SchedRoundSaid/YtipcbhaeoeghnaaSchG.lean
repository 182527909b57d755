/- What the code of these functions asks for: printed by a program of this session's (gens.py) out of the seat's own functions; the kernel checks each row. -/
import Derived.Test.YtipcbhaeoeghnaaEngH
import Derived.Test.YtipcbhaeoeghnaaProg
import Derived.Test.YtipcbhaeoeghnaaBase
namespace Go.Proofs.Ytipcbhaeoeghnaa.Eng
open Go Go.Proofs
set_option linter.unusedVariables false
set_option maxRecDepth 1000000
def slices_Clone_int_int_m (q : Option Addr) (l c : Nat) (w : World) (K : Value → World → Prop) : Prop :=
  (Option.isNone q = true → K (Value.slice none (0 : Nat) (0 : Nat)) w) ∧
  (Option.isNone q = false →
  NewR (3 : Nat) [] w fun (a1 : Addr) (w1 : World) =>
  RunR Try.prog
  (builtinV Builtin.append { toList := [(22 : Nat), (22 : Nat)] } (nat_lit 22)
  { toList := [Value.slice (some a1) (0 : Nat) (0 : Nat), Value.slice q l c] })
  w1 fun (v1 : Value) (w2 : World) =>
  ∃ (q1 : Option Addr), ∃ (k1 : Nat), ∃ (k2 : Nat), v1 = Value.slice q1 k1 k2 ∧ K (Value.slice q1 k1 k2) w2)
theorem slices_Clone_int_int_eq (q : Option Addr) (l c : Nat) (w : World) (K : Value → World → Prop) : fw Try.prog Try.f63 (annL []) (ordL []) [.slice q l c] w K = slices_Clone_int_int_m q l c w K := by kernel_rfl
theorem slices_Clone_int_int_go (q : Option Addr) (l c : Nat) {w : World} {K : Value → World → Prop} (h : slices_Clone_int_int_m q l c w K) : Rets Try.prog 63 #[.slice q l c] w K :=
  calls_of_fw plain mixed Try.func63 (by kernel_rfl) (by rw [slices_Clone_int_int_eq]; exact h)
def sched_New_m (q : Option Addr) (l c : Nat) (b : Int) (w : World) (K : Value → World → Prop) : Prop :=
  Rets Try.prog (63 : Nat) { toList := [Value.slice q l c] } w fun (v1 : Value) (w1 : World) =>
  ∃ (q1 : Option Addr),
  ∃ (k1 : Nat),
  ∃ (k2 : Nat),
  v1 = Value.slice q1 k1 k2 ∧
  NewR (105 : Nat)
  [Value.slice q1 k1 k2, Value.int IntKind.i64 (maxI b (0 : Int)), Value.int IntKind.i64 (0 : Int),
  Value.slice none (0 : Nat) (0 : Nat), Value.int IntKind.i64 (0 : Int)]
  w1 fun (a1 : Addr) (w2 : World) => K (Value.pointer (some a1)) w2
theorem sched_New_eq (q : Option Addr) (l c : Nat) (b : Int) (w : World) (K : Value → World → Prop) : fw Try.prog Try.f10 (annL []) (ordL []) [.slice q l c, .int .i64 b] w K = sched_New_m q l c b w K := by kernel_rfl
theorem sched_New_go (q : Option Addr) (l c : Nat) (b : Int) {w : World} {K : Value → World → Prop} (h : sched_New_m q l c b w K) : Rets Try.prog 10 #[.slice q l c, .int .i64 b] w K :=
  calls_of_fw plain mixed Try.func10 (by kernel_rfl) (by rw [sched_New_eq]; exact h)
def sched_Sched_Left_m (g : Nat) (w : World) (K : Value → World → Prop) : Prop :=
  (false = true → K (Value.int IntKind.i64 (0 : Int)) w) ∧
  (false = false →
  ∃ (q1 : Option Addr),
  ∃ (k1 : Nat),
  ∃ (k2 : Nat),
  cellAt w (Addr.add { block := g, off := (0 : Nat) } (0 : Nat)) (Value.slice q1 k1 k2) ∧
  K (Value.int IntKind.i64 (↑k1 : Int)) w)
theorem sched_Sched_Left_eq (g : Nat) (w : World) (K : Value → World → Prop) : fw Try.prog Try.f13 (annL []) (ordL []) [.pointer (some ⟨g, 0, none⟩)] w K = sched_Sched_Left_m g w K := by kernel_rfl
theorem sched_Sched_Left_go (g : Nat) {w : World} {K : Value → World → Prop} (h : sched_Sched_Left_m g w K) : Rets Try.prog 13 #[.pointer (some ⟨g, 0, none⟩)] w K :=
  calls_of_fw plain mixed Try.func13 (by kernel_rfl) (by rw [sched_Sched_Left_eq]; exact h)
def sched_nil_Left_m  (w : World) (K : Value → World → Prop) : Prop :=
  (true = true → K (Value.int IntKind.i64 (0 : Int)) w) ∧ (true = false → False)
theorem sched_nil_Left_eq  (w : World) (K : Value → World → Prop) : fw Try.prog Try.f13 (annL []) (ordL []) [.pointer none] w K = sched_nil_Left_m  w K := by kernel_rfl
theorem sched_nil_Left_go  {w : World} {K : Value → World → Prop} (h : sched_nil_Left_m  w K) : Rets Try.prog 13 #[.pointer none] w K :=
  calls_of_fw plain mixed Try.func13 (by kernel_rfl) (by rw [sched_nil_Left_eq]; exact h)
def sched_Sched_Turns_m (g : Nat) (w : World) (K : Value → World → Prop) : Prop :=
  (false = true → K (Value.int IntKind.i64 (0 : Int)) w) ∧
  (false = false →
  ∃ (n1 : Int),
  cellAt w (Addr.add { block := g, off := (0 : Nat) } (2 : Nat)) (Value.int IntKind.i64 n1) ∧
  K (Value.int IntKind.i64 n1) w)
theorem sched_Sched_Turns_eq (g : Nat) (w : World) (K : Value → World → Prop) : fw Try.prog Try.f14 (annL []) (ordL []) [.pointer (some ⟨g, 0, none⟩)] w K = sched_Sched_Turns_m g w K := by kernel_rfl
theorem sched_Sched_Turns_go (g : Nat) {w : World} {K : Value → World → Prop} (h : sched_Sched_Turns_m g w K) : Rets Try.prog 14 #[.pointer (some ⟨g, 0, none⟩)] w K :=
  calls_of_fw plain mixed Try.func14 (by kernel_rfl) (by rw [sched_Sched_Turns_eq]; exact h)
def sched_nil_Turns_m  (w : World) (K : Value → World → Prop) : Prop :=
  (true = true → K (Value.int IntKind.i64 (0 : Int)) w) ∧ (true = false → False)
theorem sched_nil_Turns_eq  (w : World) (K : Value → World → Prop) : fw Try.prog Try.f14 (annL []) (ordL []) [.pointer none] w K = sched_nil_Turns_m  w K := by kernel_rfl
theorem sched_nil_Turns_go  {w : World} {K : Value → World → Prop} (h : sched_nil_Turns_m  w K) : Rets Try.prog 14 #[.pointer none] w K :=
  calls_of_fw plain mixed Try.func14 (by kernel_rfl) (by rw [sched_nil_Turns_eq]; exact h)
def sched_Sched_Waited_m (g : Nat) (i : Int) (w : World) (K : Value → World → Prop) : Prop :=
  (false = false →
  (decide (i < (0 : Int)) = false →
  ∃ (q1 : Option Addr),
  ∃ (k1 : Nat),
  ∃ (k2 : Nat),
  cellAt w (Addr.add { block := g, off := (0 : Nat) } (3 : Nat)) (Value.slice q1 k1 k2) ∧
  (decide (i ≥ (↑k1 : Int)) = true → K (Value.int IntKind.i64 (0 : Int)) w) ∧
  (decide (i ≥ (↑k1 : Int)) = false →
  ∃ (q2 : Option Addr),
  ∃ (k3 : Nat),
  ∃ (k4 : Nat),
  cellAt w (Addr.add { block := g, off := (0 : Nat) } (3 : Nat)) (Value.slice q2 k3 k4) ∧
  (0 : Int) ≤ i ∧
  i < (↑k3 : Int) ∧
  someR q2 fun (a1 : Addr) =>
  ∃ (n1 : Int),
  cellAt w (Addr.add a1 (Int.toNat i * (1 : Nat))) (Value.int IntKind.i64 n1) ∧ K (Value.int IntKind.i64 n1) w)) ∧
  (decide (i < (0 : Int)) = true → K (Value.int IntKind.i64 (0 : Int)) w)) ∧
  (false = true → K (Value.int IntKind.i64 (0 : Int)) w)
theorem sched_Sched_Waited_eq (g : Nat) (i : Int) (w : World) (K : Value → World → Prop) : fw Try.prog Try.f16 (annL []) (ordL []) [.pointer (some ⟨g, 0, none⟩), .int .i64 i] w K = sched_Sched_Waited_m g i w K := by kernel_rfl
theorem sched_Sched_Waited_go (g : Nat) (i : Int) {w : World} {K : Value → World → Prop} (h : sched_Sched_Waited_m g i w K) : Rets Try.prog 16 #[.pointer (some ⟨g, 0, none⟩), .int .i64 i] w K :=
  calls_of_fw plain mixed Try.func16 (by kernel_rfl) (by rw [sched_Sched_Waited_eq]; exact h)
def sched_nil_Waited_m (i : Int) (w : World) (K : Value → World → Prop) : Prop :=
  (true = false →
  (decide (i < (0 : Int)) = false → False) ∧ (decide (i < (0 : Int)) = true → K (Value.int IntKind.i64 (0 : Int)) w)) ∧
  (true = true → K (Value.int IntKind.i64 (0 : Int)) w)
theorem sched_nil_Waited_eq (i : Int) (w : World) (K : Value → World → Prop) : fw Try.prog Try.f16 (annL []) (ordL []) [.pointer none, .int .i64 i] w K = sched_nil_Waited_m i w K := by kernel_rfl
theorem sched_nil_Waited_go (i : Int) {w : World} {K : Value → World → Prop} (h : sched_nil_Waited_m i w K) : Rets Try.prog 16 #[.pointer none, .int .i64 i] w K :=
  calls_of_fw plain mixed Try.func16 (by kernel_rfl) (by rw [sched_nil_Waited_eq]; exact h)
def sched_Sched_Worst_m (g : Nat) (w : World) (K : Value → World → Prop) : Prop :=
  (false = true → K (Value.int IntKind.i64 (0 : Int)) w) ∧
  (false = false →
  ∃ (n1 : Int),
  cellAt w (Addr.add { block := g, off := (0 : Nat) } (4 : Nat)) (Value.int IntKind.i64 n1) ∧
  K (Value.int IntKind.i64 n1) w)
theorem sched_Sched_Worst_eq (g : Nat) (w : World) (K : Value → World → Prop) : fw Try.prog Try.f15 (annL []) (ordL []) [.pointer (some ⟨g, 0, none⟩)] w K = sched_Sched_Worst_m g w K := by kernel_rfl
theorem sched_Sched_Worst_go (g : Nat) {w : World} {K : Value → World → Prop} (h : sched_Sched_Worst_m g w K) : Rets Try.prog 15 #[.pointer (some ⟨g, 0, none⟩)] w K :=
  calls_of_fw plain mixed Try.func15 (by kernel_rfl) (by rw [sched_Sched_Worst_eq]; exact h)
def sched_nil_Worst_m  (w : World) (K : Value → World → Prop) : Prop :=
  (true = true → K (Value.int IntKind.i64 (0 : Int)) w) ∧ (true = false → False)
theorem sched_nil_Worst_eq  (w : World) (K : Value → World → Prop) : fw Try.prog Try.f15 (annL []) (ordL []) [.pointer none] w K = sched_nil_Worst_m  w K := by kernel_rfl
theorem sched_nil_Worst_go  {w : World} {K : Value → World → Prop} (h : sched_nil_Worst_m  w K) : Rets Try.prog 15 #[.pointer none] w K :=
  calls_of_fw plain mixed Try.func15 (by kernel_rfl) (by rw [sched_nil_Worst_eq]; exact h)
def sched_those_m (q : Option Addr) (l c : Nat) (w : World) (K : Value → World → Prop) : Prop :=
  ∃ (h1 : Nat → List Value → World → Prop),
  (∃ (k1 : Nat), h1 k1 [Value.slice none (0 : Nat) (0 : Nat), Value.int IntKind.i64 (0 : Int)] w) ∧
  ∀ (k2 : Nat) (w1 : World) (q1 : Option Addr) (k3 k4 : Nat) (v1 v2 : Value) (n1 : Int)
  (v3 v4 v5 v6 v7 v8 v9 v10 v11 v12 : Value),
  h1 k2 [Value.slice q1 k3 k4, Value.int IntKind.i64 n1] w1 →
  (decide (n1 < (↑l : Int)) = true →
  (0 : Int) ≤ n1 ∧
  n1 < (↑l : Int) ∧
  someR q fun (a1 : Addr) =>
  ∃ (b1 : Bool),
  cellAt w1 (Addr.add a1 (Int.toNat n1 * (1 : Nat))) (Value.bool b1) ∧
  (b1 = true →
  NewR (3 : Nat) [Value.int IntKind.i64 n1] w1 fun (a2 : Addr) (w2 : World) =>
  RunR Try.prog
  (builtinV Builtin.append { toList := [(22 : Nat), (22 : Nat)] } (nat_lit 22)
  { toList := [Value.slice q1 k3 k4, Value.slice (some a2) (1 : Nat) (1 : Nat)] })
  w2 fun (v13 : Value) (w3 : World) =>
  ∃ (q2 : Option Addr),
  ∃ (k5 : Nat),
  ∃ (k6 : Nat),
  v13 = Value.slice q2 k5 k6 ∧
  ∃ (k7 : Nat),
  k7 < k2 ∧ h1 k7 [Value.slice q2 k5 k6, Value.int IntKind.i64 (IntKind.wrap IntKind.i64 (n1 + (1 : Int)))] w3) ∧
  (b1 = false →
  ∃ (k8 : Nat),
  k8 < k2 ∧ h1 k8 [Value.slice q1 k3 k4, Value.int IntKind.i64 (IntKind.wrap IntKind.i64 (n1 + (1 : Int)))] w1)) ∧
  (decide (n1 < (↑l : Int)) = false → K (Value.slice q1 k3 k4) w1)
theorem sched_those_eq (q : Option Addr) (l c : Nat) (w : World) (K : Value → World → Prop) : fw Try.prog Try.f64 (annL [(1, [(2, some 22), (3, none), (4, none), (7, some 3), (8, none), (9, none), (10, none), (11, none), (12, none), (13, none), (14, none), (15, none), (16, none), (17, none)])]) (ordL []) [.slice q l c] w K = sched_those_m q l c w K := by kernel_rfl
theorem sched_those_go (q : Option Addr) (l c : Nat) {w : World} {K : Value → World → Prop} (h : sched_those_m q l c w K) : Rets Try.prog 64 #[.slice q l c] w K :=
  calls_of_fw plain mixed Try.func64 (by kernel_rfl) (by rw [sched_those_eq]; exact h)
def sched_Sched_longest_1_m (a b : Int) (g : Nat) (w : World) (K : Value → World → Prop) : Prop :=
  Drw w fun (w1 : World) =>
  ∃ (h1 : World → Prop),
  h1 w1 ∧
  ∃ (q1 : Option Addr),
  (∀ (w2 : World), h1 w2 → World.cell? w2 { block := g, off := (0 : Nat) } = some (Value.pointer q1)) ∧
  ∃ (q2 : Option Addr),
  (∀ (w3 : World), h1 w3 → World.cell? w3 { block := g, off := (0 : Nat) } = some (Value.pointer q2)) ∧
  Rets Try.prog (16 : Nat) { toList := [Value.pointer q1, Value.int IntKind.i64 a] } w1 fun (v1 : Value) (w4 : World) =>
  ∃ (n1 : Int),
  v1 = Value.int IntKind.i64 n1 ∧
  h1 w4 ∧
  Rets Try.prog (16 : Nat) { toList := [Value.pointer q2, Value.int IntKind.i64 b] } w4 fun (v2 : Value) (w5 : World) =>
  ∃ (n2 : Int), v2 = Value.int IntKind.i64 n2 ∧ K (Value.int IntKind.i64 (IntKind.wrap IntKind.i64 (n1 - n2))) w5
theorem sched_Sched_longest_1_eq (a b : Int) (g : Nat) (w : World) (K : Value → World → Prop) : fw Try.prog Try.f104 (annL []) (ordL [(1, [(1, 0), (4, 0), (0, 1), (3, 1), (2, 2), (5, 3), (6, 0), (7, 0)])]) [.int .i64 a, .int .i64 b, .pointer (some ⟨g, 0, none⟩)] w K = sched_Sched_longest_1_m a b g w K := by kernel_rfl
theorem sched_Sched_longest_1_go (a b : Int) (g : Nat) {w : World} {K : Value → World → Prop} (h : sched_Sched_longest_1_m a b g w K) : Rets Try.prog 104 #[.int .i64 a, .int .i64 b, .pointer (some ⟨g, 0, none⟩)] w K :=
  calls_of_fw plain mixed Try.func104 (by kernel_rfl) (by rw [sched_Sched_longest_1_eq]; exact h)
def slices_MaxFunc_int_int_m (q : Option Addr) (l c : Nat) (g : Nat) (w : World) (K : Value → World → Prop) : Prop :=
  (decide ((↑l : Int) < (1 : Int)) = true → False) ∧
  (decide ((↑l : Int) < (1 : Int)) = false →
  (0 : Int) ≤ (0 : Int) ∧
  (0 : Int) < (↑l : Int) ∧
  someR q fun (a1 : Addr) =>
  ∃ (n1 : Int),
  cellAt w (Addr.add a1 (0 : Nat)) (Value.int IntKind.i64 n1) ∧
  ∃ (h1 : Nat → List Value → World → Prop),
  (∃ (k1 : Nat), h1 k1 [Value.int IntKind.i64 n1, Value.int IntKind.i64 (1 : Int)] w) ∧
  ∀ (k2 : Nat) (w1 : World) (n2 n3 : Int) (v1 v2 v3 v4 v5 v6 v7 v8 v9 v10 v11 v12 v13 v14 v15 v16 v17 v18 : Value),
  h1 k2 [Value.int IntKind.i64 n2, Value.int IntKind.i64 n3] w1 →
  (decide (n3 < (↑l : Int)) = true →
  (0 : Int) ≤ n3 ∧
  n3 < (↑l : Int) ∧
  someR q fun (a2 : Addr) =>
  ∃ (n4 : Int),
  cellAt w1 (Addr.add a2 (Int.toNat n3 * (1 : Nat))) (Value.int IntKind.i64 n4) ∧
  Rets Try.prog (104 : Nat)
  {
  toList := [Value.int IntKind.i64 n4, Value.int IntKind.i64 n2, Value.pointer (some { block := g, off := (0 : Nat) })] }
  w1 fun (v19 : Value) (w2 : World) =>
  ∃ (n5 : Int),
  v19 = Value.int IntKind.i64 n5 ∧
  (decide (n5 > (0 : Int)) = true →
  (0 : Int) ≤ n3 ∧
  n3 < (↑l : Int) ∧
  someR q fun (a3 : Addr) =>
  ∃ (n6 : Int),
  cellAt w2 (Addr.add a3 (Int.toNat n3 * (1 : Nat))) (Value.int IntKind.i64 n6) ∧
  ∃ (k3 : Nat),
  k3 < k2 ∧ h1 k3 [Value.int IntKind.i64 n6, Value.int IntKind.i64 (IntKind.wrap IntKind.i64 (n3 + (1 : Int)))] w2) ∧
  (decide (n5 > (0 : Int)) = false →
  ∃ (k4 : Nat),
  k4 < k2 ∧ h1 k4 [Value.int IntKind.i64 n2, Value.int IntKind.i64 (IntKind.wrap IntKind.i64 (n3 + (1 : Int)))] w2)) ∧
  (decide (n3 < (↑l : Int)) = false → K (Value.int IntKind.i64 n2) w1))
theorem slices_MaxFunc_int_int_eq (q : Option Addr) (l c : Nat) (g : Nat) (w : World) (K : Value → World → Prop) : fw Try.prog Try.f103 (annL [(2, [(5, some 3), (6, some 3), (14, none), (15, none), (16, none), (17, none), (18, none), (19, none), (20, none), (21, none), (22, none), (23, none), (24, none), (25, none), (26, none), (27, none), (28, none), (29, none), (30, none), (31, none)])]) (ordL []) [.slice q l c, .func (.func 104) #[] #[.pointer (some ⟨g, 0, none⟩)]] w K = slices_MaxFunc_int_int_m q l c g w K := by kernel_rfl
theorem slices_MaxFunc_int_int_go (q : Option Addr) (l c : Nat) (g : Nat) {w : World} {K : Value → World → Prop} (h : slices_MaxFunc_int_int_m q l c g w K) : Rets Try.prog 103 #[.slice q l c, .func (.func 104) #[] #[.pointer (some ⟨g, 0, none⟩)]] w K :=
  calls_of_fw plain mixed Try.func103 (by kernel_rfl) (by rw [slices_MaxFunc_int_int_eq]; exact h)
def sched_Sched_longest_m (g : Nat) (q : Option Addr) (l c : Nat) (w : World) (K : Value → World → Prop) : Prop :=
  NewR (25 : Nat) [Value.pointer (some { block := g, off := (0 : Nat) })] w fun (a1 : Addr) (w1 : World) =>
  Rets Try.prog (103 : Nat)
  {
  toList :=
  [Value.slice q l c, Value.func (Fn.func (104 : Nat)) { toList := [] } { toList := [Value.pointer (some a1)] }] }
  w1 fun (v1 : Value) (w2 : World) => ∃ (n1 : Int), v1 = Value.int IntKind.i64 n1 ∧ K (Value.int IntKind.i64 n1) w2
theorem sched_Sched_longest_eq (g : Nat) (q : Option Addr) (l c : Nat) (w : World) (K : Value → World → Prop) : fw Try.prog Try.f65 (annL []) (ordL []) [.pointer (some ⟨g, 0, none⟩), .slice q l c] w K = sched_Sched_longest_m g q l c w K := by kernel_rfl
theorem sched_Sched_longest_go (g : Nat) (q : Option Addr) (l c : Nat) {w : World} {K : Value → World → Prop} (h : sched_Sched_longest_m g q l c w K) : Rets Try.prog 65 #[.pointer (some ⟨g, 0, none⟩), .slice q l c] w K :=
  calls_of_fw plain mixed Try.func65 (by kernel_rfl) (by rw [sched_Sched_longest_eq]; exact h)
def sched_Sched_told_m (g : Nat) (w : World) (K : Value → World → Prop) : Prop :=
  ∃ (q1 : Option Addr),
  ∃ (k1 : Nat),
  ∃ (k2 : Nat),
  cellAt w (Addr.add { block := g, off := (0 : Nat) } (0 : Nat)) (Value.slice q1 k1 k2) ∧
  (((↑k1 : Int) == (0 : Int)) = true →
  K (Value.tuple { toList := [Value.int IntKind.i64 (0 : Int), Value.bool false] }) w) ∧
  (((↑k1 : Int) == (0 : Int)) = false →
  ∃ (q2 : Option Addr),
  ∃ (k3 : Nat),
  ∃ (k4 : Nat),
  cellAt w (Addr.add { block := g, off := (0 : Nat) } (0 : Nat)) (Value.slice q2 k3 k4) ∧
  (0 : Int) ≤ (0 : Int) ∧
  (0 : Int) < (↑k3 : Int) ∧
  someR q2 fun (a1 : Addr) =>
  ∃ (n1 : Int),
  cellAt w (Addr.add a1 (0 : Nat)) (Value.int IntKind.i64 n1) ∧
  ∃ (q3 : Option Addr),
  ∃ (k5 : Nat),
  ∃ (k6 : Nat),
  cellAt w (Addr.add { block := g, off := (0 : Nat) } (0 : Nat)) (Value.slice q3 k5 k6) ∧
  (0 : Int) ≤ (1 : Int) ∧
  (1 : Int) ≤ (↑k5 : Int) ∧
  StoreR (Addr.add { block := g, off := (0 : Nat) } (0 : Nat))
  [Value.slice (slcA q3 (1 : Nat) k6 (1 : Nat)) (k5 - (1 : Nat)) (k6 - (1 : Nat))] w fun (w1 : World) =>
  K (Value.tuple { toList := [Value.int IntKind.i64 (maxI n1 (0 : Int)), Value.bool true] }) w1)
theorem sched_Sched_told_eq (g : Nat) (w : World) (K : Value → World → Prop) : fw Try.prog Try.f66 (annL []) (ordL []) [.pointer (some ⟨g, 0, none⟩)] w K = sched_Sched_told_m g w K := by kernel_rfl
theorem sched_Sched_told_go (g : Nat) {w : World} {K : Value → World → Prop} (h : sched_Sched_told_m g w K) : Rets Try.prog 66 #[.pointer (some ⟨g, 0, none⟩)] w K :=
  calls_of_fw plain mixed Try.func66 (by kernel_rfl) (by rw [sched_Sched_told_eq]; exact h)
def sched_Sched_turn_m (g : Nat) (q : Option Addr) (l c : Nat) (who : Int) (w : World) (K : Value → World → Prop) : Prop :=
  ∃ (q1 : Option Addr),
  ∃ (k1 : Nat),
  ∃ (k2 : Nat),
  cellAt w (Addr.add { block := g, off := (0 : Nat) } (3 : Nat)) (Value.slice q1 k1 k2) ∧
  MakeR (3 : Nat) [Value.int IntKind.i64 (0 : Int)] (8 : Nat) (maxI (↑l : Int) (↑k1 : Int)) (maxI (↑l : Int) (↑k1 : Int))
  w fun (a1 : Addr) (w1 : World) =>
  ∃ (h1 : Nat → List Value → World → Prop),
  (∃ (k3 : Nat), h1 k3 [Value.int IntKind.i64 (0 : Int)] w1) ∧
  ∀ (k4 : Nat) (w2 : World) (v1 v2 : Value) (n1 : Int)
  (v3 v4 v5 v6 v7 v8 v9 v10 v11 v12 v13 v14 v15 v16 v17 v18 v19 v20 v21 v22 v23 v24 v25 v26 v27 v28 v29 v30 v31 v32 :
  Value),
  h1 k4 [Value.int IntKind.i64 n1] w2 →
  (decide (n1 < (↑l : Int)) = true →
  (0 : Int) ≤ n1 ∧
  n1 < (↑l : Int) ∧
  someR q fun (a2 : Addr) =>
  ∃ (b1 : Bool),
  cellAt w2 (Addr.add a2 (Int.toNat n1 * (1 : Nat))) (Value.bool b1) ∧
  (b1 = true →
  ∃ (h2 : List Value → World → Prop),
  (((n1 != who) = true →
  Rets Try.prog (16 : Nat) { toList := [Value.pointer (some { block := g, off := (0 : Nat) }), Value.int IntKind.i64 n1] }
  w2 fun (v33 : Value) (w3 : World) =>
  ∃ (n2 : Int),
  v33 = Value.int IntKind.i64 n2 ∧
  (0 : Int) ≤ n1 ∧
  n1 < (↑(Int.toNat (maxI (↑l : Int) (↑k1 : Int))) : Int) ∧
  StoreR (Addr.add a1 (Int.toNat n1 * (1 : Nat))) [Value.int IntKind.i64 (IntKind.wrap IntKind.i64 (n2 + (1 : Int)))] w3
  fun (w4 : World) =>
  Drw w4 fun (w5 : World) =>
  (0 : Int) ≤ n1 ∧
  n1 < (↑(Int.toNat (maxI (↑l : Int) (↑k1 : Int))) : Int) ∧
  ∃ (n3 : Int),
  cellAt w5 (Addr.add { block := g, off := (0 : Nat) } (4 : Nat)) (Value.int IntKind.i64 n3) ∧
  ∃ (n4 : Int),
  cellAt w5 (Addr.add a1 (Int.toNat n1 * (1 : Nat))) (Value.int IntKind.i64 n4) ∧
  StoreR (Addr.add { block := g, off := (0 : Nat) } (4 : Nat)) [Value.int IntKind.i64 (maxI n3 n4)] w5 fun (w6 : World) =>
  h2 [] w6) ∧
  ((n1 != who) = false → h2 [] w2)) ∧
  ∀ (w7 : World) (v34 v35 v36 v37 v38 v39 v40 v41 v42 v43 v44 v45 v46 v47 v48 v49 v50 v51 v52 : Value),
  h2 [] w7 → ∃ (k5 : Nat), k5 < k4 ∧ h1 k5 [Value.int IntKind.i64 (IntKind.wrap IntKind.i64 (n1 + (1 : Int)))] w7) ∧
  (b1 = false →
  ∃ (h3 : List Value → World → Prop),
  h3 [] w2 ∧
  ∀ (w8 : World) (v53 v54 v55 v56 v57 v58 v59 v60 v61 v62 v63 v64 v65 v66 v67 v68 v69 v70 v71 : Value),
  h3 [] w8 → ∃ (k6 : Nat), k6 < k4 ∧ h1 k6 [Value.int IntKind.i64 (IntKind.wrap IntKind.i64 (n1 + (1 : Int)))] w8)) ∧
  (decide (n1 < (↑l : Int)) = false →
  StoreR (Addr.add { block := g, off := (0 : Nat) } (3 : Nat))
  [Value.slice (some a1) (Int.toNat (maxI (↑l : Int) (↑k1 : Int))) (Int.toNat (maxI (↑l : Int) (↑k1 : Int)))] w2
  fun (w9 : World) =>
  ∃ (n5 : Int),
  cellAt w9 (Addr.add { block := g, off := (0 : Nat) } (2 : Nat)) (Value.int IntKind.i64 n5) ∧
  StoreR (Addr.add { block := g, off := (0 : Nat) } (2 : Nat))
  [Value.int IntKind.i64 (IntKind.wrap IntKind.i64 (n5 + (1 : Int)))] w9 fun (w10 : World) =>
  K (Value.tuple { toList := [] }) w10)
theorem sched_Sched_turn_eq (g : Nat) (q : Option Addr) (l c : Nat) (who : Int) (w : World) (K : Value → World → Prop) : fw Try.prog Try.f67 (annL [(1, [(7, none), (8, none), (20, some 3), (21, none), (22, none), (23, none), (24, none), (25, none), (26, none), (27, none), (28, none), (29, none), (30, none), (31, none), (32, none), (33, none), (34, none), (35, none), (36, none), (37, none), (38, none), (39, none), (40, none), (41, none), (42, none), (43, none), (44, none), (45, none), (46, none), (47, none), (48, none), (49, none), (50, none)]), (4, [(31, none), (32, none), (33, none), (34, none), (35, none), (36, none), (37, none), (38, none), (39, none), (40, none), (41, none), (42, none), (43, none), (44, none), (45, none), (46, none), (47, none), (48, none), (49, none)])]) (ordL [(6, [(0, 0), (1, 0), (2, 0), (3, 0), (5, 0), (6, 0), (7, 0), (4, 1), (8, 1), (9, 0), (10, 0), (11, 0), (12, 3)])]) [.pointer (some ⟨g, 0, none⟩), .slice q l c, .int .i64 who] w K = sched_Sched_turn_m g q l c who w K := by kernel_rfl
theorem sched_Sched_turn_go (g : Nat) (q : Option Addr) (l c : Nat) (who : Int) {w : World} {K : Value → World → Prop} (h : sched_Sched_turn_m g q l c who w K) : Rets Try.prog 67 #[.pointer (some ⟨g, 0, none⟩), .slice q l c, .int .i64 who] w K :=
  calls_of_fw plain mixed Try.func67 (by kernel_rfl) (by rw [sched_Sched_turn_eq]; exact h)
def sched_Sched_Pick_m (g : Nat) (q : Option Addr) (l c : Nat) (w : World) (K : Value → World → Prop) : Prop :=
  Rets Try.prog (64 : Nat) { toList := [Value.slice q l c] } w fun (v1 : Value) (w1 : World) =>
  ∃ (q1 : Option Addr),
  ∃ (k1 : Nat),
  ∃ (k2 : Nat),
  v1 = Value.slice q1 k1 k2 ∧
  (false = false →
  (((↑k1 : Int) == (0 : Int)) = true →
  K (Value.tuple { toList := [Value.int IntKind.i64 (0 : Int), Value.bool false] }) w1) ∧
  (((↑k1 : Int) == (0 : Int)) = false →
  Rets Try.prog (65 : Nat) { toList := [Value.pointer (some { block := g, off := (0 : Nat) }), Value.slice q1 k1 k2] } w1
  fun (v2 : Value) (w2 : World) =>
  ∃ (n1 : Int),
  v2 = Value.int IntKind.i64 n1 ∧
  Drw w2 fun (w3 : World) =>
  ∃ (h1 : World → Prop),
  h1 w3 ∧
  ∃ (n2 : Int),
  (∀ (w4 : World),
  h1 w4 → World.cell? w4 (Addr.add { block := g, off := (0 : Nat) } (1 : Nat)) = some (Value.int IntKind.i64 n2)) ∧
  (decide (n2 > (0 : Int)) = true →
  ∃ (n3 : Int),
  (∀ (w5 : World),
  h1 w5 → World.cell? w5 (Addr.add { block := g, off := (0 : Nat) } (1 : Nat)) = some (Value.int IntKind.i64 n3)) ∧
  Rets Try.prog (16 : Nat) { toList := [Value.pointer (some { block := g, off := (0 : Nat) }), Value.int IntKind.i64 n1] }
  w3 fun (v3 : Value) (w6 : World) =>
  ∃ (n4 : Int),
  v3 = Value.int IntKind.i64 n4 ∧
  h1 w6 ∧
  Rets Try.prog (66 : Nat) { toList := [Value.pointer (some { block := g, off := (0 : Nat) })] } w6
  fun (v4 : Value) (w7 : World) =>
  ∃ (n5 : Int),
  ∃ (b1 : Bool),
  v4 = Value.tuple { toList := [Value.int IntKind.i64 n5, Value.bool b1] } ∧
  (b1 = true →
  ∃ (h2 : List Value → World → Prop),
  (((!decide (n4 ≥ IntKind.wrap IntKind.i64 (maxI n3 (↑l : Int) - (↑l : Int)))) = true →
  (↑k1 : Int) ≠ (0 : Int) ∧
  (0 : Int) ≤ Int.tmod n5 (↑k1 : Int) ∧
  Int.tmod n5 (↑k1 : Int) < (↑k1 : Int) ∧
  someR q1 fun (a1 : Addr) =>
  ∃ (n6 : Int),
  cellAt w7 (Addr.add a1 (Int.toNat (Int.tmod n5 (↑k1 : Int)) * (1 : Nat))) (Value.int IntKind.i64 n6) ∧
  h2 [Value.int IntKind.i64 n6] w7) ∧
  ((!decide (n4 ≥ IntKind.wrap IntKind.i64 (maxI n3 (↑l : Int) - (↑l : Int)))) = false →
  h2 [Value.int IntKind.i64 n1] w7)) ∧
  ∀ (w8 : World) (n7 : Int) (v5 v6 v7 v8 v9 v10 v11 : Value),
  h2 [Value.int IntKind.i64 n7] w8 →
  Rets Try.prog (67 : Nat)
  { toList := [Value.pointer (some { block := g, off := (0 : Nat) }), Value.slice q l c, Value.int IntKind.i64 n7] } w8
  fun (v12 : Value) (w9 : World) =>
  v12 = Value.tuple { toList := [] } ∧ K (Value.tuple { toList := [Value.int IntKind.i64 n7, Value.bool true] }) w9) ∧
  (b1 = false →
  ∃ (h3 : List Value → World → Prop),
  h3 [Value.int IntKind.i64 n1] w7 ∧
  ∀ (w10 : World) (n8 : Int) (v13 v14 v15 v16 v17 v18 v19 : Value),
  h3 [Value.int IntKind.i64 n8] w10 →
  Rets Try.prog (67 : Nat)
  { toList := [Value.pointer (some { block := g, off := (0 : Nat) }), Value.slice q l c, Value.int IntKind.i64 n8] } w10
  fun (v20 : Value) (w11 : World) =>
  v20 = Value.tuple { toList := [] } ∧ K (Value.tuple { toList := [Value.int IntKind.i64 n8, Value.bool true] }) w11)) ∧
  (decide (n2 > (0 : Int)) = false →
  Rets Try.prog (66 : Nat) { toList := [Value.pointer (some { block := g, off := (0 : Nat) })] } w3
  fun (v21 : Value) (w12 : World) =>
  ∃ (n9 : Int),
  ∃ (b2 : Bool),
  v21 = Value.tuple { toList := [Value.int IntKind.i64 n9, Value.bool b2] } ∧
  (b2 = true →
  ∃ (h4 : List Value → World → Prop),
  ((↑k1 : Int) ≠ (0 : Int) ∧
  (0 : Int) ≤ Int.tmod n9 (↑k1 : Int) ∧
  Int.tmod n9 (↑k1 : Int) < (↑k1 : Int) ∧
  someR q1 fun (a2 : Addr) =>
  ∃ (n10 : Int),
  cellAt w12 (Addr.add a2 (Int.toNat (Int.tmod n9 (↑k1 : Int)) * (1 : Nat))) (Value.int IntKind.i64 n10) ∧
  h4 [Value.int IntKind.i64 n10] w12) ∧
  ∀ (w13 : World) (n11 : Int) (v22 v23 v24 v25 v26 v27 v28 : Value),
  h4 [Value.int IntKind.i64 n11] w13 →
  Rets Try.prog (67 : Nat)
  { toList := [Value.pointer (some { block := g, off := (0 : Nat) }), Value.slice q l c, Value.int IntKind.i64 n11] } w13
  fun (v29 : Value) (w14 : World) =>
  v29 = Value.tuple { toList := [] } ∧ K (Value.tuple { toList := [Value.int IntKind.i64 n11, Value.bool true] }) w14) ∧
  (b2 = false →
  ∃ (h5 : List Value → World → Prop),
  h5 [Value.int IntKind.i64 n1] w12 ∧
  ∀ (w15 : World) (n12 : Int) (v30 v31 v32 v33 v34 v35 v36 : Value),
  h5 [Value.int IntKind.i64 n12] w15 →
  Rets Try.prog (67 : Nat)
  { toList := [Value.pointer (some { block := g, off := (0 : Nat) }), Value.slice q l c, Value.int IntKind.i64 n12] } w15
  fun (v37 : Value) (w16 : World) =>
  v37 = Value.tuple { toList := [] } ∧
  K (Value.tuple { toList := [Value.int IntKind.i64 n12, Value.bool true] }) w16)))) ∧
  (false = true → K (Value.tuple { toList := [Value.int IntKind.i64 (0 : Int), Value.bool false] }) w1)
theorem sched_Sched_Pick_eq (g : Nat) (q : Option Addr) (l c : Nat) (w : World) (K : Value → World → Prop) : fw Try.prog Try.f11 (annL [(1, [(7, some 3), (54, none), (55, none), (56, none), (57, none), (58, none), (59, none), (60, none)])]) (ordL [(5, [(0, 0), (1, 0), (2, 0), (3, 1), (4, 0), (5, 0), (6, 0), (7, 0), (9, 0), (10, 0), (11, 0), (13, 0), (14, 0), (16, 0), (17, 0), (12, 1), (15, 0), (18, 0), (8, 2), (19, 0), (20, 0), (21, 0)])]) [.pointer (some ⟨g, 0, none⟩), .slice q l c] w K = sched_Sched_Pick_m g q l c w K := by kernel_rfl
theorem sched_Sched_Pick_go (g : Nat) (q : Option Addr) (l c : Nat) {w : World} {K : Value → World → Prop} (h : sched_Sched_Pick_m g q l c w K) : Rets Try.prog 11 #[.pointer (some ⟨g, 0, none⟩), .slice q l c] w K :=
  calls_of_fw plain mixed Try.func11 (by kernel_rfl) (by rw [sched_Sched_Pick_eq]; exact h)
def sched_nil_Pick_m (q : Option Addr) (l c : Nat) (w : World) (K : Value → World → Prop) : Prop :=
  Rets Try.prog (64 : Nat) { toList := [Value.slice q l c] } w fun (v1 : Value) (w1 : World) =>
  ∃ (q1 : Option Addr),
  ∃ (k1 : Nat),
  ∃ (k2 : Nat),
  v1 = Value.slice q1 k1 k2 ∧
  (true = false →
  (((↑k1 : Int) == (0 : Int)) = true →
  K (Value.tuple { toList := [Value.int IntKind.i64 (0 : Int), Value.bool false] }) w1) ∧
  (((↑k1 : Int) == (0 : Int)) = false →
  Rets Try.prog (65 : Nat) { toList := [Value.pointer none, Value.slice q1 k1 k2] } w1 fun (v2 : Value) (w2 : World) =>
  ∃ (n1 : Int), v2 = Value.int IntKind.i64 n1 ∧ Drw w2 fun (w3 : World) => ∃ (h1 : World → Prop), h1 w3 ∧ False)) ∧
  (true = true → K (Value.tuple { toList := [Value.int IntKind.i64 (0 : Int), Value.bool false] }) w1)
theorem sched_nil_Pick_eq (q : Option Addr) (l c : Nat) (w : World) (K : Value → World → Prop) : fw Try.prog Try.f11 (annL []) (ordL [(5, [(0, 0), (1, 0), (2, 0), (3, 1), (4, 0), (5, 0), (6, 0), (7, 0), (9, 0), (10, 0), (11, 0), (13, 0), (14, 0), (16, 0), (17, 0), (12, 1), (15, 0), (18, 0), (8, 2), (19, 0), (20, 0), (21, 0)])]) [.pointer none, .slice q l c] w K = sched_nil_Pick_m q l c w K := by kernel_rfl
theorem sched_nil_Pick_go (q : Option Addr) (l c : Nat) {w : World} {K : Value → World → Prop} (h : sched_nil_Pick_m q l c w K) : Rets Try.prog 11 #[.pointer none, .slice q l c] w K :=
  calls_of_fw plain mixed Try.func11 (by kernel_rfl) (by rw [sched_nil_Pick_eq]; exact h)
def cortadolaw35_awake_m  (w : World) (K : Value → World → Prop) : Prop :=
  NewR (3 : Nat) [Value.int IntKind.i64 (5 : Int), Value.int IntKind.i64 (0 : Int)] w fun (a1 : Addr) (w1 : World) =>
  Rets Try.prog (10 : Nat) { toList := [Value.slice (some a1) (2 : Nat) (2 : Nat), Value.int IntKind.i64 (0 : Int)] } w1
  fun (v1 : Value) (w2 : World) =>
  ∃ (q1 : Option Addr),
  v1 = Value.pointer q1 ∧
  NewR (4 : Nat) [Value.bool true, Value.bool true, Value.bool true] w2 fun (a2 : Addr) (w3 : World) =>
  Rets Try.prog (11 : Nat) { toList := [Value.pointer q1, Value.slice (some a2) (3 : Nat) (3 : Nat)] } w3
  fun (v2 : Value) (w4 : World) =>
  ∃ (n1 : Int),
  ∃ (b1 : Bool),
  v2 = Value.tuple { toList := [Value.int IntKind.i64 n1, Value.bool b1] } ∧
  Rets Try.prog (11 : Nat) { toList := [Value.pointer q1, Value.slice (some a2) (3 : Nat) (3 : Nat)] } w4
  fun (v3 : Value) (w5 : World) =>
  ∃ (n2 : Int),
  ∃ (b2 : Bool),
  v3 = Value.tuple { toList := [Value.int IntKind.i64 n2, Value.bool b2] } ∧
  Rets Try.prog (11 : Nat) { toList := [Value.pointer q1, Value.slice (some a2) (3 : Nat) (3 : Nat)] } w5
  fun (v4 : Value) (w6 : World) =>
  ∃ (n3 : Int),
  ∃ (b3 : Bool),
  v4 = Value.tuple { toList := [Value.int IntKind.i64 n3, Value.bool b3] } ∧
  ((n1 == (2 : Int)) = true →
  ((n2 == (0 : Int)) = true →
  ((n3 == (1 : Int)) = true → K (Value.bool b3) w6) ∧ ((n3 == (1 : Int)) = false → K (Value.bool false) w6)) ∧
  ((n2 == (0 : Int)) = false → K (Value.bool false) w6)) ∧
  ((n1 == (2 : Int)) = false → K (Value.bool false) w6)
theorem cortadolaw35_awake_eq  (w : World) (K : Value → World → Prop) : fw Try.prog Try.f9 (annL []) (ordL []) [] w K = cortadolaw35_awake_m  w K := by kernel_rfl
theorem cortadolaw35_awake_go  {w : World} {K : Value → World → Prop} (h : cortadolaw35_awake_m  w K) : Rets Try.prog 9 #[] w K :=
  calls_of_fw plain mixed Try.func9 (by kernel_rfl) (by rw [cortadolaw35_awake_eq]; exact h)
def cortadolaw35_SchedRound_m (shape : Int) (q2 : Option Addr) (l2 c2 : Nat) (w : World) (K : Value → World → Prop) : Prop :=
  (8 : Int) ≠ (0 : Int) ∧
  (decide ((↑l2 : Int) > (80 : Int)) = true →
  Rets Try.prog (9 : Nat) { toList := [] } w fun (v1 : Value) (w1 : World) =>
  ∃ (b1 : Bool), v1 = Value.bool b1 ∧ K (Value.bool b1) w1) ∧
  (decide ((↑l2 : Int) > (80 : Int)) = false →
  Rets Try.prog (10 : Nat) { toList := [Value.slice none (0 : Nat) (0 : Nat), Value.int IntKind.i64 (0 : Int)] } w
  fun (v2 : Value) (w2 : World) =>
  ∃ (q1 : Option Addr),
  v2 = Value.pointer q1 ∧
  Rets Try.prog (10 : Nat) { toList := [Value.slice none (0 : Nat) (0 : Nat), Value.int IntKind.i64 (0 : Int)] } w2
  fun (v3 : Value) (w3 : World) =>
  ∃ (q2_1 : Option Addr),
  v3 = Value.pointer q2_1 ∧
  MakeR (4 : Nat) [Value.bool false] (1 : Nat)
  (IntKind.wrap IntKind.i64 (IntKind.wrap IntKind.i64 (Int.tmod shape (8 : Int)) + (1 : Int)))
  (IntKind.wrap IntKind.i64 (IntKind.wrap IntKind.i64 (Int.tmod shape (8 : Int)) + (1 : Int))) w3
  fun (a1 : Addr) (w4 : World) =>
  ∃ (h1 : Nat → List Value → World → Prop),
  (∃ (k1 : Nat), h1 k1 [Value.int IntKind.i64 (0 : Int)] w4) ∧
  ∀ (k2 : Nat) (w5 : World) (n1 : Int) (v4 v5 v6 v7 v8 v9 v10 v11 : Value),
  h1 k2 [Value.int IntKind.i64 n1] w5 →
  (decide (n1 < IntKind.wrap IntKind.i64 (IntKind.wrap IntKind.i64 (Int.tmod shape (8 : Int)) + (1 : Int))) = true →
  (0 : Int) ≤ n1 ∧
  n1 < (↑(Int.toNat (IntKind.wrap IntKind.i64 (IntKind.wrap IntKind.i64 (Int.tmod shape (8 : Int)) + (1 : Int)))) : Int) ∧
  StoreR (Addr.add a1 (Int.toNat n1 * (1 : Nat))) [Value.bool true] w5 fun (w6 : World) =>
  ∃ (k3 : Nat), k3 < k2 ∧ h1 k3 [Value.int IntKind.i64 (IntKind.wrap IntKind.i64 (n1 + (1 : Int)))] w6) ∧
  (decide (n1 < IntKind.wrap IntKind.i64 (IntKind.wrap IntKind.i64 (Int.tmod shape (8 : Int)) + (1 : Int))) = false →
  ∃ (h2 : Nat → List Value → World → Prop),
  (∃ (k4 : Nat), h2 k4 [Value.int IntKind.i64 (0 : Int)] w5) ∧
  ∀ (k5 : Nat) (w7 : World) (v12 : Value) (n2 : Int)
  (v13 v14 v15 v16 v17 v18 v19 v20 v21 v22 v23 v24 v25 v26 v27 v28 v29 v30 v31 v32 v33 v34 v35 v36 v37 v38 v39 v40 v41 v42
  v43 v44 v45 v46 v47 v48 v49 v50 v51 v52 v53 v54 v55 v56 v57 v58 v59 v60 v61 v62 v63 v64 v65 : Value),
  h2 k5 [Value.int IntKind.i64 n2] w7 →
  (decide (n2 < (↑l2 : Int)) = true →
  MakeR (4 : Nat) [Value.bool false] (1 : Nat)
  (IntKind.wrap IntKind.i64 (IntKind.wrap IntKind.i64 (Int.tmod shape (8 : Int)) + (1 : Int)))
  (IntKind.wrap IntKind.i64 (IntKind.wrap IntKind.i64 (Int.tmod shape (8 : Int)) + (1 : Int))) w7
  fun (a2 : Addr) (w8 : World) =>
  ∃ (h3 : Nat → List Value → World → Prop),
  (∃ (k6 : Nat), h3 k6 [Value.int IntKind.i64 (0 : Int)] w8) ∧
  ∀ (k7 : Nat) (w9 : World) (n3 : Int) (v66 v67 v68 v69 v70 v71 v72 v73 v74 v75 v76 v77 v78 v79 v80 v81 v82 : Value),
  h3 k7 [Value.int IntKind.i64 n3] w9 →
  (decide (n3 < IntKind.wrap IntKind.i64 (IntKind.wrap IntKind.i64 (Int.tmod shape (8 : Int)) + (1 : Int))) = true →
  (0 : Int) ≤ n2 ∧
  n2 < (↑l2 : Int) ∧
  someR q2 fun (a3 : Addr) =>
  ∃ (n4 : Int),
  cellAt w9 (Addr.add a3 (Int.toNat n2 * (1 : Nat))) (Value.int IntKind.u8 n4) ∧
  (0 : Int) ≤ IntKind.wrap IntKind.u64 n3 ∧
  (2 : Int) ≠ (0 : Int) ∧
  (0 : Int) ≤ n3 ∧
  n3 < (↑(Int.toNat (IntKind.wrap IntKind.i64 (IntKind.wrap IntKind.i64 (Int.tmod shape (8 : Int)) + (1 : Int)))) : Int) ∧
  StoreR (Addr.add a2 (Int.toNat n3 * (1 : Nat)))
  [Value.bool (Int.tmod (shrI IntKind.u8 n4 (IntKind.wrap IntKind.u64 n3)) (2 : Int) == (1 : Int))] w9
  fun (w10 : World) =>
  ∃ (k8 : Nat), k8 < k7 ∧ h3 k8 [Value.int IntKind.i64 (IntKind.wrap IntKind.i64 (n3 + (1 : Int)))] w10) ∧
  (decide (n3 < IntKind.wrap IntKind.i64 (IntKind.wrap IntKind.i64 (Int.tmod shape (8 : Int)) + (1 : Int))) = false →
  Rets Try.prog (11 : Nat)
  {
  toList :=
  [Value.pointer q1,
  Value.slice (some a2)
  (Int.toNat (IntKind.wrap IntKind.i64 (IntKind.wrap IntKind.i64 (Int.tmod shape (8 : Int)) + (1 : Int))))
  (Int.toNat (IntKind.wrap IntKind.i64 (IntKind.wrap IntKind.i64 (Int.tmod shape (8 : Int)) + (1 : Int))))] }
  w9 fun (v83 : Value) (w11 : World) =>
  ∃ (n5 : Int),
  ∃ (b2 : Bool),
  v83 = Value.tuple { toList := [Value.int IntKind.i64 n5, Value.bool b2] } ∧
  Rets Try.prog (11 : Nat)
  {
  toList :=
  [Value.pointer q2_1,
  Value.slice (some a1)
  (Int.toNat (IntKind.wrap IntKind.i64 (IntKind.wrap IntKind.i64 (Int.tmod shape (8 : Int)) + (1 : Int))))
  (Int.toNat (IntKind.wrap IntKind.i64 (IntKind.wrap IntKind.i64 (Int.tmod shape (8 : Int)) + (1 : Int))))] }
  w11 fun (v84 : Value) (w12 : World) =>
  ∃ (n6 : Int),
  ∃ (b3 : Bool),
  v84 = Value.tuple { toList := [Value.int IntKind.i64 n6, Value.bool b3] } ∧
  ((!b3) = false →
  IntKind.wrap IntKind.i64 (IntKind.wrap IntKind.i64 (Int.tmod shape (8 : Int)) + (1 : Int)) ≠ (0 : Int) ∧
  ((n6 != Int.tmod n2 (IntKind.wrap IntKind.i64 (IntKind.wrap IntKind.i64 (Int.tmod shape (8 : Int)) + (1 : Int)))) =
  false →
  Rets Try.prog (15 : Nat) { toList := [Value.pointer q1] } w12 fun (v85 : Value) (w13 : World) =>
  ∃ (n7 : Int),
  v85 = Value.int IntKind.i64 n7 ∧
  (decide (n7 ≥ IntKind.wrap IntKind.i64 (IntKind.wrap IntKind.i64 (Int.tmod shape (8 : Int)) + (1 : Int))) = true →
  K (Value.bool false) w13) ∧
  (decide (n7 ≥ IntKind.wrap IntKind.i64 (IntKind.wrap IntKind.i64 (Int.tmod shape (8 : Int)) + (1 : Int))) = false →
  ∃ (k9 : Nat), k9 < k5 ∧ h2 k9 [Value.int IntKind.i64 (IntKind.wrap IntKind.i64 (n2 + (1 : Int)))] w13)) ∧
  ((n6 != Int.tmod n2 (IntKind.wrap IntKind.i64 (IntKind.wrap IntKind.i64 (Int.tmod shape (8 : Int)) + (1 : Int)))) =
  true →
  K (Value.bool false) w12)) ∧
  ((!b3) = true → K (Value.bool false) w12))) ∧
  (decide (n2 < (↑l2 : Int)) = false →
  Rets Try.prog (11 : Nat)
  {
  toList :=
  [Value.pointer none,
  Value.slice (some a1)
  (Int.toNat (IntKind.wrap IntKind.i64 (IntKind.wrap IntKind.i64 (Int.tmod shape (8 : Int)) + (1 : Int))))
  (Int.toNat (IntKind.wrap IntKind.i64 (IntKind.wrap IntKind.i64 (Int.tmod shape (8 : Int)) + (1 : Int))))] }
  w7 fun (v86 : Value) (w14 : World) =>
  ∃ (n8 : Int),
  ∃ (b4 : Bool),
  v86 = Value.tuple { toList := [Value.int IntKind.i64 n8, Value.bool b4] } ∧
  ((!b4) = true →
  Rets Try.prog (13 : Nat) { toList := [Value.pointer none] } w14 fun (v87 : Value) (w15 : World) =>
  ∃ (n9 : Int),
  v87 = Value.int IntKind.i64 n9 ∧
  Rets Try.prog (14 : Nat) { toList := [Value.pointer none] } w15 fun (v88 : Value) (w16 : World) =>
  ∃ (n10 : Int),
  v88 = Value.int IntKind.i64 n10 ∧
  Rets Try.prog (16 : Nat) { toList := [Value.pointer none, Value.int IntKind.i64 (0 : Int)] } w16
  fun (v89 : Value) (w17 : World) =>
  ∃ (n11 : Int),
  v89 = Value.int IntKind.i64 n11 ∧
  Rets Try.prog (15 : Nat) { toList := [Value.pointer none] } w17 fun (v90 : Value) (w18 : World) =>
  ∃ (n12 : Int),
  v90 = Value.int IntKind.i64 n12 ∧
  ((IntKind.wrap IntKind.i64 (IntKind.wrap IntKind.i64 (IntKind.wrap IntKind.i64 (n9 + n10) + n11) + n12) == (0 : Int)) =
  true →
  Rets Try.prog (9 : Nat) { toList := [] } w18 fun (v91 : Value) (w19 : World) =>
  ∃ (b5 : Bool), v91 = Value.bool b5 ∧ K (Value.bool b5) w19) ∧
  ((IntKind.wrap IntKind.i64 (IntKind.wrap IntKind.i64 (IntKind.wrap IntKind.i64 (n9 + n10) + n11) + n12) == (0 : Int)) =
  false →
  K (Value.bool false) w18)) ∧
  ((!b4) = false → K (Value.bool false) w14))))
theorem cortadolaw35_SchedRound_eq (shape : Int) (q2 : Option Addr) (l2 c2 : Nat) (w : World) (K : Value → World → Prop) : fw Try.prog Try.f4 (annL [(2, [(9, some 3), (30, none), (31, none), (32, none), (33, none), (34, none), (35, none), (36, none), (37, none)]), (6, [(4, none), (10, some 3), (11, none), (12, none), (13, none), (14, none), (38, none), (39, none), (40, none), (41, none), (42, none), (43, none), (44, none), (45, none), (46, none), (47, none), (48, none), (49, none), (50, none), (51, none), (52, none), (53, none), (54, none), (55, none), (56, none), (57, none), (58, none), (59, none), (60, none), (61, none), (62, none), (63, none), (64, none), (65, none), (66, none), (67, none), (68, none), (69, none), (70, none), (71, none), (72, none), (73, none), (74, none), (75, none), (76, none), (77, none), (78, none), (79, none), (80, none), (81, none), (82, none), (83, none), (84, none), (85, none), (86, none)]), (10, [(12, some 3), (46, none), (47, none), (48, none), (49, none), (50, none), (51, none), (52, none), (53, none), (54, none), (55, none), (56, none), (57, none), (58, none), (59, none), (60, none), (61, none), (62, none)])]) (ordL []) [.int .u64 shape, .slice q2 l2 c2] w K = cortadolaw35_SchedRound_m shape q2 l2 c2 w K := by kernel_rfl
theorem cortadolaw35_SchedRound_go (shape : Int) (q2 : Option Addr) (l2 c2 : Nat) {w : World} {K : Value → World → Prop} (h : cortadolaw35_SchedRound_m shape q2 l2 c2 w K) : Rets Try.prog 4 #[.int .u64 shape, .slice q2 l2 c2] w K :=
  calls_of_fw plain mixed Try.func4 (by kernel_rfl) (by rw [cortadolaw35_SchedRound_eq]; exact h)
def cortadoref35_S_Waited_m (g : Nat) (i : Int) (w : World) (K : Value → World → Prop) : Prop :=
  (decide (i < (0 : Int)) = false →
  ∃ (q1 : Option Addr),
  ∃ (k1 : Nat),
  ∃ (k2 : Nat),
  cellAt w (Addr.add { block := g, off := (0 : Nat) } (3 : Nat)) (Value.slice q1 k1 k2) ∧
  (decide (i ≥ (↑k1 : Int)) = true → K (Value.int IntKind.i64 (0 : Int)) w) ∧
  (decide (i ≥ (↑k1 : Int)) = false →
  ∃ (q2 : Option Addr),
  ∃ (k3 : Nat),
  ∃ (k4 : Nat),
  cellAt w (Addr.add { block := g, off := (0 : Nat) } (3 : Nat)) (Value.slice q2 k3 k4) ∧
  (0 : Int) ≤ i ∧
  i < (↑k3 : Int) ∧
  someR q2 fun (a1 : Addr) =>
  ∃ (n1 : Int),
  cellAt w (Addr.add a1 (Int.toNat i * (1 : Nat))) (Value.int IntKind.i64 n1) ∧ K (Value.int IntKind.i64 n1) w)) ∧
  (decide (i < (0 : Int)) = true → K (Value.int IntKind.i64 (0 : Int)) w)
theorem cortadoref35_S_Waited_eq (g : Nat) (i : Int) (w : World) (K : Value → World → Prop) : fw Try.prog Try.f17 (annL []) (ordL []) [.pointer (some ⟨g, 0, none⟩), .int .i64 i] w K = cortadoref35_S_Waited_m g i w K := by kernel_rfl
theorem cortadoref35_S_Waited_go (g : Nat) (i : Int) {w : World} {K : Value → World → Prop} (h : cortadoref35_S_Waited_m g i w K) : Rets Try.prog 17 #[.pointer (some ⟨g, 0, none⟩), .int .i64 i] w K :=
  calls_of_fw plain mixed Try.func17 (by kernel_rfl) (by rw [cortadoref35_S_Waited_eq]; exact h)
def cortadoref35_S_Pick_m (g : Nat) (q : Option Addr) (l c : Nat) (w : World) (K : Value → World → Prop) : Prop :=
  ∃ (h1 : Nat → List Value → World → Prop),
  (∃ (k1 : Nat),
  h1 k1 [Value.int IntKind.i64 (0 : Int), Value.int IntKind.i64 (-1 : Int), Value.int IntKind.i64 (0 : Int)] w) ∧
  ∀ (k2 : Nat) (w1 : World) (n1 n2 n3 : Int)
  (v1 v2 v3 v4 v5 v6 v7 v8 v9 v10 v11 v12 v13 v14 v15 v16 v17 v18 v19 v20 v21 v22 v23 v24 : Value),
  h1 k2 [Value.int IntKind.i64 n1, Value.int IntKind.i64 n2, Value.int IntKind.i64 n3] w1 →
  (decide (n3 < (↑l : Int)) = true →
  (0 : Int) ≤ n3 ∧
  n3 < (↑l : Int) ∧
  someR q fun (a1 : Addr) =>
  ∃ (b1 : Bool),
  cellAt w1 (Addr.add a1 (Int.toNat n3 * (1 : Nat))) (Value.bool b1) ∧
  (b1 = true →
  (decide (n2 < (0 : Int)) = false →
  Rets Try.prog (17 : Nat) { toList := [Value.pointer (some { block := g, off := (0 : Nat) }), Value.int IntKind.i64 n3] }
  w1 fun (v25 : Value) (w2 : World) =>
  ∃ (n4 : Int),
  v25 = Value.int IntKind.i64 n4 ∧
  Rets Try.prog (17 : Nat) { toList := [Value.pointer (some { block := g, off := (0 : Nat) }), Value.int IntKind.i64 n2] }
  w2 fun (v26 : Value) (w3 : World) =>
  ∃ (n5 : Int),
  v26 = Value.int IntKind.i64 n5 ∧
  (decide (n4 > n5) = true →
  ∃ (k3 : Nat),
  k3 < k2 ∧
  h1 k3
  [Value.int IntKind.i64 (IntKind.wrap IntKind.i64 (n1 + (1 : Int))), Value.int IntKind.i64 n3,
  Value.int IntKind.i64 (IntKind.wrap IntKind.i64 (n3 + (1 : Int)))]
  w3) ∧
  (decide (n4 > n5) = false →
  ∃ (k4 : Nat),
  k4 < k2 ∧
  h1 k4
  [Value.int IntKind.i64 (IntKind.wrap IntKind.i64 (n1 + (1 : Int))), Value.int IntKind.i64 n2,
  Value.int IntKind.i64 (IntKind.wrap IntKind.i64 (n3 + (1 : Int)))]
  w3)) ∧
  (decide (n2 < (0 : Int)) = true →
  ∃ (k5 : Nat),
  k5 < k2 ∧
  h1 k5
  [Value.int IntKind.i64 (IntKind.wrap IntKind.i64 (n1 + (1 : Int))), Value.int IntKind.i64 n3,
  Value.int IntKind.i64 (IntKind.wrap IntKind.i64 (n3 + (1 : Int)))]
  w1)) ∧
  (b1 = false →
  ∃ (k6 : Nat),
  k6 < k2 ∧
  h1 k6
  [Value.int IntKind.i64 n1, Value.int IntKind.i64 n2, Value.int IntKind.i64 (IntKind.wrap IntKind.i64 (n3 + (1 : Int)))]
  w1)) ∧
  (decide (n3 < (↑l : Int)) = false →
  ((n1 == (0 : Int)) = true → K (Value.tuple { toList := [Value.int IntKind.i64 (0 : Int), Value.bool false] }) w1) ∧
  ((n1 == (0 : Int)) = false →
  Drw w1 fun (w4 : World) =>
  ∃ (h2 : World → Prop),
  h2 w4 ∧
  ∃ (n6 : Int),
  (∀ (w5 : World),
  h2 w5 → World.cell? w5 (Addr.add { block := g, off := (0 : Nat) } (1 : Nat)) = some (Value.int IntKind.i64 n6)) ∧
  (decide (n6 > (0 : Int)) = true →
  ∃ (n7 : Int),
  (∀ (w6 : World),
  h2 w6 → World.cell? w6 (Addr.add { block := g, off := (0 : Nat) } (1 : Nat)) = some (Value.int IntKind.i64 n7)) ∧
  Rets Try.prog (17 : Nat) { toList := [Value.pointer (some { block := g, off := (0 : Nat) }), Value.int IntKind.i64 n2] }
  w4 fun (v27 : Value) (w7 : World) =>
  ∃ (n8 : Int),
  v27 = Value.int IntKind.i64 n8 ∧
  h2 w7 ∧
  ∃ (q1 : Option Addr),
  ∃ (k7 : Nat),
  ∃ (k8 : Nat),
  cellAt w7 (Addr.add { block := g, off := (0 : Nat) } (0 : Nat)) (Value.slice q1 k7 k8) ∧
  ∃ (h3 : List Value → World → Prop),
  ((decide ((↑k7 : Int) > (0 : Int)) = true →
  ((!decide (n8 ≥ IntKind.wrap IntKind.i64 (maxI n7 (↑l : Int) - (↑l : Int)))) = true →
  ∃ (q2 : Option Addr),
  ∃ (k9 : Nat),
  ∃ (k10 : Nat),
  cellAt w7 (Addr.add { block := g, off := (0 : Nat) } (0 : Nat)) (Value.slice q2 k9 k10) ∧
  (0 : Int) ≤ (0 : Int) ∧
  (0 : Int) < (↑k9 : Int) ∧
  someR q2 fun (a2 : Addr) =>
  ∃ (n9 : Int),
  cellAt w7 (Addr.add a2 (0 : Nat)) (Value.int IntKind.i64 n9) ∧
  n1 ≠ (0 : Int) ∧
  ∃ (h4 : Nat → List Value → World → Prop),
  (∃ (k11 : Nat),
  h4 k11
  [Value.int IntKind.i64 n1, Value.int IntKind.i64 n2,
  Value.int IntKind.i64 (IntKind.wrap IntKind.i64 ((↑l : Int) - (1 : Int)))]
  w7) ∧
  ∀ (k12 : Nat) (w8 : World) (n10 n11 n12 : Int) (v28 v29 v30 v31 v32 v33 v34 v35 v36 v37 v38 v39 v40 v41 : Value),
  h4 k12 [Value.int IntKind.i64 n10, Value.int IntKind.i64 n11, Value.int IntKind.i64 n12] w8 →
  (decide (n12 ≥ (0 : Int)) = true →
  (0 : Int) ≤ n12 ∧
  n12 < (↑l : Int) ∧
  someR q fun (a3 : Addr) =>
  ∃ (b2 : Bool),
  cellAt w8 (Addr.add a3 (Int.toNat n12 * (1 : Nat))) (Value.bool b2) ∧
  (b2 = true →
  ((IntKind.wrap IntKind.i64 (n10 - (1 : Int)) == Int.tmod (maxI n9 (0 : Int)) n1) = true →
  ∃ (k13 : Nat),
  k13 < k12 ∧
  h4 k13
  [Value.int IntKind.i64 (IntKind.wrap IntKind.i64 (n10 - (1 : Int))), Value.int IntKind.i64 n12,
  Value.int IntKind.i64 (IntKind.wrap IntKind.i64 (n12 - (1 : Int)))]
  w8) ∧
  ((IntKind.wrap IntKind.i64 (n10 - (1 : Int)) == Int.tmod (maxI n9 (0 : Int)) n1) = false →
  ∃ (k14 : Nat),
  k14 < k12 ∧
  h4 k14
  [Value.int IntKind.i64 (IntKind.wrap IntKind.i64 (n10 - (1 : Int))), Value.int IntKind.i64 n11,
  Value.int IntKind.i64 (IntKind.wrap IntKind.i64 (n12 - (1 : Int)))]
  w8)) ∧
  (b2 = false →
  ∃ (k15 : Nat),
  k15 < k12 ∧
  h4 k15
  [Value.int IntKind.i64 n10, Value.int IntKind.i64 n11,
  Value.int IntKind.i64 (IntKind.wrap IntKind.i64 (n12 - (1 : Int)))]
  w8)) ∧
  (decide (n12 ≥ (0 : Int)) = false →
  ∃ (q3 : Option Addr),
  ∃ (k16 : Nat),
  ∃ (k17 : Nat),
  cellAt w8 (Addr.add { block := g, off := (0 : Nat) } (0 : Nat)) (Value.slice q3 k16 k17) ∧
  (0 : Int) ≤ (1 : Int) ∧
  (1 : Int) ≤ (↑k16 : Int) ∧
  StoreR (Addr.add { block := g, off := (0 : Nat) } (0 : Nat))
  [Value.slice (slcA q3 (1 : Nat) k17 (1 : Nat)) (k16 - (1 : Nat)) (k17 - (1 : Nat))] w8 fun (w9 : World) =>
  h3 [Value.int IntKind.i64 n11] w9)) ∧
  ((!decide (n8 ≥ IntKind.wrap IntKind.i64 (maxI n7 (↑l : Int) - (↑l : Int)))) = false →
  ∃ (q4 : Option Addr),
  ∃ (k18 : Nat),
  ∃ (k19 : Nat),
  cellAt w7 (Addr.add { block := g, off := (0 : Nat) } (0 : Nat)) (Value.slice q4 k18 k19) ∧
  (0 : Int) ≤ (1 : Int) ∧
  (1 : Int) ≤ (↑k18 : Int) ∧
  StoreR (Addr.add { block := g, off := (0 : Nat) } (0 : Nat))
  [Value.slice (slcA q4 (1 : Nat) k19 (1 : Nat)) (k18 - (1 : Nat)) (k19 - (1 : Nat))] w7 fun (w10 : World) =>
  h3 [Value.int IntKind.i64 n2] w10)) ∧
  (decide ((↑k7 : Int) > (0 : Int)) = false → h3 [Value.int IntKind.i64 n2] w7)) ∧
  ∀ (w11 : World) (v42 : Value) (n13 : Int)
  (v43 v44 v45 v46 v47 v48 v49 v50 v51 v52 v53 v54 v55 v56 v57 v58 v59 v60 v61 v62 v63 v64 v65 v66 v67 v68 v69 v70 v71 v72
  v73 v74 v75 v76 v77 v78 v79 v80 : Value),
  h3 [Value.int IntKind.i64 n13] w11 →
  ∃ (q5 : Option Addr),
  ∃ (k20 : Nat),
  ∃ (k21 : Nat),
  cellAt w11 (Addr.add { block := g, off := (0 : Nat) } (3 : Nat)) (Value.slice q5 k20 k21) ∧
  MakeR (3 : Nat) [Value.int IntKind.i64 (0 : Int)] (8 : Nat) (maxI (↑l : Int) (↑k20 : Int))
  (maxI (↑l : Int) (↑k20 : Int)) w11 fun (a4 : Addr) (w12 : World) =>
  ∃ (h5 : Nat → List Value → World → Prop),
  (∃ (k22 : Nat), h5 k22 [Value.int IntKind.i64 (0 : Int)] w12) ∧
  ∀ (k23 : Nat) (w13 : World) (n14 : Int)
  (v81 v82 v83 v84 v85 v86 v87 v88 v89 v90 v91 v92 v93 v94 v95 v96 v97 v98 v99 v100 v101 v102 v103 v104 v105 v106 v107
  v108 v109 v110 v111 v112 v113 v114 : Value),
  h5 k23 [Value.int IntKind.i64 n14] w13 →
  (decide (n14 < (↑l : Int)) = true →
  (0 : Int) ≤ n14 ∧
  n14 < (↑l : Int) ∧
  someR q fun (a5 : Addr) =>
  ∃ (b3 : Bool),
  cellAt w13 (Addr.add a5 (Int.toNat n14 * (1 : Nat))) (Value.bool b3) ∧
  (b3 = true →
  ((n14 != n13) = true →
  Rets Try.prog (17 : Nat)
  { toList := [Value.pointer (some { block := g, off := (0 : Nat) }), Value.int IntKind.i64 n14] } w13
  fun (v115 : Value) (w14 : World) =>
  ∃ (n15 : Int),
  v115 = Value.int IntKind.i64 n15 ∧
  (0 : Int) ≤ n14 ∧
  n14 < (↑(Int.toNat (maxI (↑l : Int) (↑k20 : Int))) : Int) ∧
  StoreR (Addr.add a4 (Int.toNat n14 * (1 : Nat))) [Value.int IntKind.i64 (IntKind.wrap IntKind.i64 (n15 + (1 : Int)))]
  w14 fun (w15 : World) =>
  Drw w15 fun (w16 : World) =>
  (0 : Int) ≤ n14 ∧
  n14 < (↑(Int.toNat (maxI (↑l : Int) (↑k20 : Int))) : Int) ∧
  ∃ (n16 : Int),
  cellAt w16 (Addr.add { block := g, off := (0 : Nat) } (4 : Nat)) (Value.int IntKind.i64 n16) ∧
  ∃ (n17 : Int),
  cellAt w16 (Addr.add a4 (Int.toNat n14 * (1 : Nat))) (Value.int IntKind.i64 n17) ∧
  StoreR (Addr.add { block := g, off := (0 : Nat) } (4 : Nat)) [Value.int IntKind.i64 (maxI n16 n17)] w16
  fun (w17 : World) =>
  ∃ (k24 : Nat), k24 < k23 ∧ h5 k24 [Value.int IntKind.i64 (IntKind.wrap IntKind.i64 (n14 + (1 : Int)))] w17) ∧
  ((n14 != n13) = false →
  ∃ (k25 : Nat), k25 < k23 ∧ h5 k25 [Value.int IntKind.i64 (IntKind.wrap IntKind.i64 (n14 + (1 : Int)))] w13)) ∧
  (b3 = false →
  ∃ (k26 : Nat), k26 < k23 ∧ h5 k26 [Value.int IntKind.i64 (IntKind.wrap IntKind.i64 (n14 + (1 : Int)))] w13)) ∧
  (decide (n14 < (↑l : Int)) = false →
  StoreR (Addr.add { block := g, off := (0 : Nat) } (3 : Nat))
  [Value.slice (some a4) (Int.toNat (maxI (↑l : Int) (↑k20 : Int))) (Int.toNat (maxI (↑l : Int) (↑k20 : Int)))] w13
  fun (w18 : World) =>
  ∃ (n18 : Int),
  cellAt w18 (Addr.add { block := g, off := (0 : Nat) } (2 : Nat)) (Value.int IntKind.i64 n18) ∧
  StoreR (Addr.add { block := g, off := (0 : Nat) } (2 : Nat))
  [Value.int IntKind.i64 (IntKind.wrap IntKind.i64 (n18 + (1 : Int)))] w18 fun (w19 : World) =>
  K (Value.tuple { toList := [Value.int IntKind.i64 n13, Value.bool true] }) w19)) ∧
  (decide (n6 > (0 : Int)) = false →
  ∃ (q6 : Option Addr),
  ∃ (k27 : Nat),
  ∃ (k28 : Nat),
  cellAt w4 (Addr.add { block := g, off := (0 : Nat) } (0 : Nat)) (Value.slice q6 k27 k28) ∧
  ∃ (h6 : List Value → World → Prop),
  ((decide ((↑k27 : Int) > (0 : Int)) = true →
  ∃ (q7 : Option Addr),
  ∃ (k29 : Nat),
  ∃ (k30 : Nat),
  cellAt w4 (Addr.add { block := g, off := (0 : Nat) } (0 : Nat)) (Value.slice q7 k29 k30) ∧
  (0 : Int) ≤ (0 : Int) ∧
  (0 : Int) < (↑k29 : Int) ∧
  someR q7 fun (a6 : Addr) =>
  ∃ (n19 : Int),
  cellAt w4 (Addr.add a6 (0 : Nat)) (Value.int IntKind.i64 n19) ∧
  n1 ≠ (0 : Int) ∧
  ∃ (h7 : Nat → List Value → World → Prop),
  (∃ (k31 : Nat),
  h7 k31
  [Value.int IntKind.i64 n1, Value.int IntKind.i64 n2,
  Value.int IntKind.i64 (IntKind.wrap IntKind.i64 ((↑l : Int) - (1 : Int)))]
  w4) ∧
  ∀ (k32 : Nat) (w20 : World) (n20 n21 n22 : Int)
  (v116 v117 v118 v119 v120 v121 v122 v123 v124 v125 v126 v127 v128 v129 : Value),
  h7 k32 [Value.int IntKind.i64 n20, Value.int IntKind.i64 n21, Value.int IntKind.i64 n22] w20 →
  (decide (n22 ≥ (0 : Int)) = true →
  (0 : Int) ≤ n22 ∧
  n22 < (↑l : Int) ∧
  someR q fun (a7 : Addr) =>
  ∃ (b4 : Bool),
  cellAt w20 (Addr.add a7 (Int.toNat n22 * (1 : Nat))) (Value.bool b4) ∧
  (b4 = true →
  ((IntKind.wrap IntKind.i64 (n20 - (1 : Int)) == Int.tmod (maxI n19 (0 : Int)) n1) = true →
  ∃ (k33 : Nat),
  k33 < k32 ∧
  h7 k33
  [Value.int IntKind.i64 (IntKind.wrap IntKind.i64 (n20 - (1 : Int))), Value.int IntKind.i64 n22,
  Value.int IntKind.i64 (IntKind.wrap IntKind.i64 (n22 - (1 : Int)))]
  w20) ∧
  ((IntKind.wrap IntKind.i64 (n20 - (1 : Int)) == Int.tmod (maxI n19 (0 : Int)) n1) = false →
  ∃ (k34 : Nat),
  k34 < k32 ∧
  h7 k34
  [Value.int IntKind.i64 (IntKind.wrap IntKind.i64 (n20 - (1 : Int))), Value.int IntKind.i64 n21,
  Value.int IntKind.i64 (IntKind.wrap IntKind.i64 (n22 - (1 : Int)))]
  w20)) ∧
  (b4 = false →
  ∃ (k35 : Nat),
  k35 < k32 ∧
  h7 k35
  [Value.int IntKind.i64 n20, Value.int IntKind.i64 n21,
  Value.int IntKind.i64 (IntKind.wrap IntKind.i64 (n22 - (1 : Int)))]
  w20)) ∧
  (decide (n22 ≥ (0 : Int)) = false →
  ∃ (q8 : Option Addr),
  ∃ (k36 : Nat),
  ∃ (k37 : Nat),
  cellAt w20 (Addr.add { block := g, off := (0 : Nat) } (0 : Nat)) (Value.slice q8 k36 k37) ∧
  (0 : Int) ≤ (1 : Int) ∧
  (1 : Int) ≤ (↑k36 : Int) ∧
  StoreR (Addr.add { block := g, off := (0 : Nat) } (0 : Nat))
  [Value.slice (slcA q8 (1 : Nat) k37 (1 : Nat)) (k36 - (1 : Nat)) (k37 - (1 : Nat))] w20 fun (w21 : World) =>
  h6 [Value.int IntKind.i64 n21] w21)) ∧
  (decide ((↑k27 : Int) > (0 : Int)) = false → h6 [Value.int IntKind.i64 n2] w4)) ∧
  ∀ (w22 : World) (v130 : Value) (n23 : Int)
  (v131 v132 v133 v134 v135 v136 v137 v138 v139 v140 v141 v142 v143 v144 v145 v146 v147 v148 v149 v150 v151 v152 v153 v154
  v155 v156 v157 v158 v159 v160 v161 v162 v163 v164 v165 v166 v167 v168 : Value),
  h6 [Value.int IntKind.i64 n23] w22 →
  ∃ (q9 : Option Addr),
  ∃ (k38 : Nat),
  ∃ (k39 : Nat),
  cellAt w22 (Addr.add { block := g, off := (0 : Nat) } (3 : Nat)) (Value.slice q9 k38 k39) ∧
  MakeR (3 : Nat) [Value.int IntKind.i64 (0 : Int)] (8 : Nat) (maxI (↑l : Int) (↑k38 : Int))
  (maxI (↑l : Int) (↑k38 : Int)) w22 fun (a8 : Addr) (w23 : World) =>
  ∃ (h8 : Nat → List Value → World → Prop),
  (∃ (k40 : Nat), h8 k40 [Value.int IntKind.i64 (0 : Int)] w23) ∧
  ∀ (k41 : Nat) (w24 : World) (n24 : Int)
  (v169 v170 v171 v172 v173 v174 v175 v176 v177 v178 v179 v180 v181 v182 v183 v184 v185 v186 v187 v188 v189 v190 v191 v192
  v193 v194 v195 v196 v197 v198 v199 v200 v201 v202 : Value),
  h8 k41 [Value.int IntKind.i64 n24] w24 →
  (decide (n24 < (↑l : Int)) = true →
  (0 : Int) ≤ n24 ∧
  n24 < (↑l : Int) ∧
  someR q fun (a9 : Addr) =>
  ∃ (b5 : Bool),
  cellAt w24 (Addr.add a9 (Int.toNat n24 * (1 : Nat))) (Value.bool b5) ∧
  (b5 = true →
  ((n24 != n23) = true →
  Rets Try.prog (17 : Nat)
  { toList := [Value.pointer (some { block := g, off := (0 : Nat) }), Value.int IntKind.i64 n24] } w24
  fun (v203 : Value) (w25 : World) =>
  ∃ (n25 : Int),
  v203 = Value.int IntKind.i64 n25 ∧
  (0 : Int) ≤ n24 ∧
  n24 < (↑(Int.toNat (maxI (↑l : Int) (↑k38 : Int))) : Int) ∧
  StoreR (Addr.add a8 (Int.toNat n24 * (1 : Nat))) [Value.int IntKind.i64 (IntKind.wrap IntKind.i64 (n25 + (1 : Int)))]
  w25 fun (w26 : World) =>
  Drw w26 fun (w27 : World) =>
  (0 : Int) ≤ n24 ∧
  n24 < (↑(Int.toNat (maxI (↑l : Int) (↑k38 : Int))) : Int) ∧
  ∃ (n26 : Int),
  cellAt w27 (Addr.add { block := g, off := (0 : Nat) } (4 : Nat)) (Value.int IntKind.i64 n26) ∧
  ∃ (n27 : Int),
  cellAt w27 (Addr.add a8 (Int.toNat n24 * (1 : Nat))) (Value.int IntKind.i64 n27) ∧
  StoreR (Addr.add { block := g, off := (0 : Nat) } (4 : Nat)) [Value.int IntKind.i64 (maxI n26 n27)] w27
  fun (w28 : World) =>
  ∃ (k42 : Nat), k42 < k41 ∧ h8 k42 [Value.int IntKind.i64 (IntKind.wrap IntKind.i64 (n24 + (1 : Int)))] w28) ∧
  ((n24 != n23) = false →
  ∃ (k43 : Nat), k43 < k41 ∧ h8 k43 [Value.int IntKind.i64 (IntKind.wrap IntKind.i64 (n24 + (1 : Int)))] w24)) ∧
  (b5 = false →
  ∃ (k44 : Nat), k44 < k41 ∧ h8 k44 [Value.int IntKind.i64 (IntKind.wrap IntKind.i64 (n24 + (1 : Int)))] w24)) ∧
  (decide (n24 < (↑l : Int)) = false →
  StoreR (Addr.add { block := g, off := (0 : Nat) } (3 : Nat))
  [Value.slice (some a8) (Int.toNat (maxI (↑l : Int) (↑k38 : Int))) (Int.toNat (maxI (↑l : Int) (↑k38 : Int)))] w24
  fun (w29 : World) =>
  ∃ (n28 : Int),
  cellAt w29 (Addr.add { block := g, off := (0 : Nat) } (2 : Nat)) (Value.int IntKind.i64 n28) ∧
  StoreR (Addr.add { block := g, off := (0 : Nat) } (2 : Nat))
  [Value.int IntKind.i64 (IntKind.wrap IntKind.i64 (n28 + (1 : Int)))] w29 fun (w30 : World) =>
  K (Value.tuple { toList := [Value.int IntKind.i64 n23, Value.bool true] }) w30))))
theorem cortadoref35_S_Pick_eq (g : Nat) (q : Option Addr) (l c : Nat) (w : World) (K : Value → World → Prop) : fw Try.prog Try.f12 (annL [(1, [(6, some 3), (7, some 3), (8, some 3), (15, none), (16, none), (17, none), (18, none), (19, none), (20, none), (21, none), (22, none), (23, none), (24, none), (25, none), (26, none), (27, none), (28, none), (29, none), (30, none), (31, none), (32, none), (33, none), (34, none), (35, none), (36, none), (37, none), (38, none)]), (7, [(6, none), (9, some 3), (11, none), (12, none), (69, none), (70, none), (71, none), (72, none), (73, none), (74, none), (75, none), (76, none), (77, none), (78, none), (79, none), (80, none), (81, none), (82, none), (83, none), (84, none), (85, none), (86, none), (87, none), (88, none), (89, none), (90, none), (91, none), (92, none), (93, none), (94, none), (95, none), (96, none), (97, none), (98, none), (99, none), (100, none), (101, none), (102, none), (103, none), (104, none)]), (10, [(6, some 3), (9, some 3), (12, some 3), (83, none), (84, none), (85, none), (86, none), (87, none), (88, none), (89, none), (90, none), (91, none), (92, none), (93, none), (94, none), (95, none), (96, none)]), (16, [(14, some 3), (114, none), (115, none), (116, none), (117, none), (118, none), (119, none), (120, none), (121, none), (122, none), (123, none), (124, none), (125, none), (126, none), (127, none), (128, none), (129, none), (130, none), (131, none), (132, none), (133, none), (134, none), (135, none), (136, none), (137, none), (138, none), (139, none), (140, none), (141, none), (142, none), (143, none), (144, none), (145, none), (146, none), (147, none)])]) (ordL [(12, [(0, 0), (1, 0), (2, 0), (3, 1), (4, 0), (5, 0), (6, 0), (7, 0), (9, 0), (10, 0), (11, 0), (13, 0), (14, 0), (16, 0), (17, 0), (12, 1), (15, 0), (18, 0), (8, 2), (19, 0), (20, 0), (21, 0)]), (30, [(0, 0), (1, 0), (2, 0), (3, 0), (5, 0), (6, 0), (7, 0), (4, 1), (8, 1), (9, 0), (10, 0), (11, 0), (12, 3)])]) [.pointer (some ⟨g, 0, none⟩), .slice q l c] w K = cortadoref35_S_Pick_m g q l c w K := by kernel_rfl
theorem cortadoref35_S_Pick_go (g : Nat) (q : Option Addr) (l c : Nat) {w : World} {K : Value → World → Prop} (h : cortadoref35_S_Pick_m g q l c w K) : Rets Try.prog 12 #[.pointer (some ⟨g, 0, none⟩), .slice q l c] w K :=
  calls_of_fw plain mixed Try.func12 (by kernel_rfl) (by rw [cortadoref35_S_Pick_eq]; exact h)
def cortadolaw35_SchedPicks_m (q : Option Addr) (l c : Nat) (b : Int) (q2 : Option Addr) (l2 c2 : Nat) (w : World) (K : Value → World → Prop) : Prop :=
  (decide ((↑l2 : Int) > (60 : Int)) = true →
  Rets Try.prog (9 : Nat) { toList := [] } w fun (v1 : Value) (w1 : World) =>
  ∃ (b1 : Bool), v1 = Value.bool b1 ∧ K (Value.bool b1) w1) ∧
  (decide ((↑l2 : Int) > (60 : Int)) = false →
  Rets Try.prog (10 : Nat) { toList := [Value.slice q l c, Value.int IntKind.i64 b] } w fun (v2 : Value) (w2 : World) =>
  ∃ (q1 : Option Addr),
  v2 = Value.pointer q1 ∧
  NewR (29 : Nat)
  [Value.slice q l c, Value.int IntKind.i64 (maxI b (0 : Int)), Value.int IntKind.i64 (0 : Int),
  Value.slice none (0 : Nat) (0 : Nat), Value.int IntKind.i64 (0 : Int)]
  w2 fun (a1 : Addr) (w3 : World) =>
  ∃ (h1 : Nat → List Value → World → Prop),
  (∃ (k1 : Nat), h1 k1 [Value.int IntKind.i64 (0 : Int)] w3) ∧
  ∀ (k2 : Nat) (w4 : World) (v3 : Value) (n1 : Int)
  (v4 v5 v6 v7 v8 v9 v10 v11 v12 v13 v14 v15 v16 v17 v18 v19 v20 v21 v22 v23 v24 v25 v26 v27 v28 v29 v30 v31 v32 v33 v34
  v35 v36 v37 v38 v39 v40 v41 v42 v43 v44 v45 v46 v47 v48 v49 v50 v51 v52 v53 v54 v55 v56 v57 v58 v59 v60 v61 v62 v63 v64
  v65 v66 v67 v68 v69 v70 v71 v72 v73 v74 v75 v76 v77 v78 v79 v80 v81 v82 v83 v84 v85 v86 : Value),
  h1 k2 [Value.int IntKind.i64 n1] w4 →
  (decide (n1 < (↑l2 : Int)) = true →
  (0 : Int) ≤ n1 ∧
  n1 < (↑l2 : Int) ∧
  someR q2 fun (a2 : Addr) =>
  ∃ (q2_1 : Option Addr),
  ∃ (k3 : Nat),
  ∃ (k4 : Nat),
  cellAt w4 (Addr.add a2 (Int.toNat n1 * (1 : Nat))) (Value.slice q2_1 k3 k4) ∧
  (decide ((↑k3 : Int) > (10 : Int)) = true →
  Rets Try.prog (9 : Nat) { toList := [] } w4 fun (v87 : Value) (w5 : World) =>
  ∃ (b2 : Bool), v87 = Value.bool b2 ∧ K (Value.bool b2) w5) ∧
  (decide ((↑k3 : Int) > (10 : Int)) = false →
  (0 : Int) ≤ n1 ∧
  n1 < (↑l2 : Int) ∧
  someR q2 fun (a3 : Addr) =>
  ∃ (q3 : Option Addr),
  ∃ (k5 : Nat),
  ∃ (k6 : Nat),
  cellAt w4 (Addr.add a3 (Int.toNat n1 * (1 : Nat))) (Value.slice q3 k5 k6) ∧
  Rets Try.prog (11 : Nat) { toList := [Value.pointer q1, Value.slice q3 k5 k6] } w4 fun (v88 : Value) (w6 : World) =>
  ∃ (n2 : Int),
  ∃ (b3 : Bool),
  v88 = Value.tuple { toList := [Value.int IntKind.i64 n2, Value.bool b3] } ∧
  (0 : Int) ≤ n1 ∧
  n1 < (↑l2 : Int) ∧
  someR q2 fun (a4 : Addr) =>
  ∃ (q4 : Option Addr),
  ∃ (k7 : Nat),
  ∃ (k8 : Nat),
  cellAt w6 (Addr.add a4 (Int.toNat n1 * (1 : Nat))) (Value.slice q4 k7 k8) ∧
  Rets Try.prog (12 : Nat) { toList := [Value.pointer (some a1), Value.slice q4 k7 k8] } w6
  fun (v89 : Value) (w7 : World) =>
  ∃ (n3 : Int),
  ∃ (b4 : Bool),
  v89 = Value.tuple { toList := [Value.int IntKind.i64 n3, Value.bool b4] } ∧
  Drw w7 fun (w8 : World) =>
  ∃ (h2 : World → Prop),
  h2 w8 ∧
  ((n2 != n3) = false →
  ((!b3 == b4) = false →
  ∃ (q5 : Option Addr),
  ∃ (k9 : Nat),
  ∃ (k10 : Nat),
  (∀ (w9 : World), h2 w9 → World.cell? w9 (Addr.add a1 (0 : Nat)) = some (Value.slice q5 k9 k10)) ∧
  Rets Try.prog (13 : Nat) { toList := [Value.pointer q1] } w8 fun (v90 : Value) (w10 : World) =>
  ∃ (n4 : Int),
  v90 = Value.int IntKind.i64 n4 ∧
  h2 w10 ∧
  ((n4 != (↑k9 : Int)) = false →
  ∃ (n5 : Int),
  (∀ (w11 : World), h2 w11 → World.cell? w11 (Addr.add a1 (2 : Nat)) = some (Value.int IntKind.i64 n5)) ∧
  Rets Try.prog (14 : Nat) { toList := [Value.pointer q1] } w10 fun (v91 : Value) (w12 : World) =>
  ∃ (n6 : Int),
  v91 = Value.int IntKind.i64 n6 ∧
  h2 w12 ∧
  ((n6 != n5) = false →
  ∃ (n7 : Int),
  (∀ (w13 : World), h2 w13 → World.cell? w13 (Addr.add a1 (4 : Nat)) = some (Value.int IntKind.i64 n7)) ∧
  Rets Try.prog (15 : Nat) { toList := [Value.pointer q1] } w12 fun (v92 : Value) (w14 : World) =>
  ∃ (n8 : Int),
  v92 = Value.int IntKind.i64 n8 ∧
  h2 w14 ∧
  ((n8 != n7) = true → K (Value.bool false) w14) ∧
  ((n8 != n7) = false →
  ∃ (h3 : Nat → List Value → World → Prop),
  (∃ (k11 : Nat), h3 k11 [Value.int IntKind.i64 (-1 : Int)] w14) ∧
  ∀ (k12 : Nat) (w15 : World) (v93 : Value) (n9 : Int) (v94 v95 v96 v97 v98 v99 v100 v101 v102 v103 v104 : Value),
  h3 k12 [Value.int IntKind.i64 n9] w15 →
  (decide (n9 < (11 : Int)) = true →
  Rets Try.prog (16 : Nat) { toList := [Value.pointer q1, Value.int IntKind.i64 n9] } w15
  fun (v105 : Value) (w16 : World) =>
  ∃ (n10 : Int),
  v105 = Value.int IntKind.i64 n10 ∧
  Rets Try.prog (17 : Nat) { toList := [Value.pointer (some a1), Value.int IntKind.i64 n9] } w16
  fun (v106 : Value) (w17 : World) =>
  ∃ (n11 : Int),
  v106 = Value.int IntKind.i64 n11 ∧
  ((n10 != n11) = true → K (Value.bool false) w17) ∧
  ((n10 != n11) = false →
  ∃ (k13 : Nat), k13 < k12 ∧ h3 k13 [Value.int IntKind.i64 (IntKind.wrap IntKind.i64 (n9 + (1 : Int)))] w17)) ∧
  (decide (n9 < (11 : Int)) = false →
  ∃ (k14 : Nat), k14 < k2 ∧ h1 k14 [Value.int IntKind.i64 (IntKind.wrap IntKind.i64 (n1 + (1 : Int)))] w15))) ∧
  ((n6 != n5) = true → K (Value.bool false) w12)) ∧
  ((n4 != (↑k9 : Int)) = true → K (Value.bool false) w10)) ∧
  ((!b3 == b4) = true → K (Value.bool false) w8)) ∧
  ((n2 != n3) = true → K (Value.bool false) w8))) ∧
  (decide (n1 < (↑l2 : Int)) = false →
  Rets Try.prog (9 : Nat) { toList := [] } w4 fun (v107 : Value) (w18 : World) =>
  ∃ (b5 : Bool), v107 = Value.bool b5 ∧ K (Value.bool b5) w18))
theorem cortadolaw35_SchedPicks_eq (q : Option Addr) (l c : Nat) (b : Int) (q2 : Option Addr) (l2 c2 : Nat) (w : World) (K : Value → World → Prop) : fw Try.prog Try.f3 (annL [(2, [(6, none), (9, some 3), (10, none), (11, none), (12, none), (13, none), (14, none), (27, none), (28, none), (29, none), (30, none), (31, none), (32, none), (33, none), (34, none), (35, none), (36, none), (37, none), (38, none), (39, none), (40, none), (41, none), (42, none), (43, none), (44, none), (45, none), (46, none), (47, none), (48, none), (49, none), (50, none), (51, none), (52, none), (53, none), (54, none), (55, none), (56, none), (57, none), (58, none), (59, none), (60, none), (61, none), (62, none), (63, none), (64, none), (65, none), (66, none), (67, none), (68, none), (69, none), (70, none), (71, none), (72, none), (73, none), (74, none), (75, none), (76, none), (77, none), (78, none), (79, none), (80, none), (81, none), (82, none), (83, none), (84, none), (85, none), (86, none), (87, none), (88, none), (89, none), (90, none), (91, none), (92, none), (93, none), (94, none), (95, none), (96, none), (97, none), (98, none), (99, none), (100, none), (101, none), (102, none), (103, none), (104, none)]), (8, [(6, none), (14, some 3), (94, none), (95, none), (96, none), (97, none), (98, none), (99, none), (100, none), (101, none), (102, none), (103, none), (104, none)])]) (ordL [(11, [(0, 0), (1, 0), (2, 0), (3, 0), (4, 0), (5, 0), (6, 0), (7, 0), (8, 0), (9, 0), (11, 0), (12, 0), (13, 0), (14, 1), (15, 0), (10, 2), (16, 0), (17, 0), (18, 0), (19, 0), (21, 0), (22, 0), (23, 0), (24, 1), (20, 2), (25, 0), (26, 0), (27, 0), (28, 0), (30, 0), (31, 0), (32, 0), (33, 1), (29, 2), (34, 0), (35, 0)])]) [.slice q l c, .int .i64 b, .slice q2 l2 c2] w K = cortadolaw35_SchedPicks_m q l c b q2 l2 c2 w K := by kernel_rfl
theorem cortadolaw35_SchedPicks_go (q : Option Addr) (l c : Nat) (b : Int) (q2 : Option Addr) (l2 c2 : Nat) {w : World} {K : Value → World → Prop} (h : cortadolaw35_SchedPicks_m q l c b q2 l2 c2 w K) : Rets Try.prog 3 #[.slice q l c, .int .i64 b, .slice q2 l2 c2] w K :=
  calls_of_fw plain mixed Try.func3 (by kernel_rfl) (by rw [cortadolaw35_SchedPicks_eq]; exact h)
end Go.Proofs.Ytipcbhaeoeghnaa.Eng
