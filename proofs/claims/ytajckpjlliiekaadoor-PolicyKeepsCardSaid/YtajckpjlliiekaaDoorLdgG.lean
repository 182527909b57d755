/- What the code of these functions asks for: printed by a program of this session's (gens.py) out of the seat's own functions; the kernel checks each row. -/
import Derived.Test.YtajckpjlliiekaaDoorEngH
import Derived.Test.YtajckpjlliiekaaDoorProg
import Derived.Test.YtajckpjlliiekaaDoorBase
namespace Go.Proofs.YtajckpjlliiekaaDoor.Eng
open Go Go.Proofs
set_option linter.unusedVariables false
set_option maxRecDepth 1000000
def cost_Right_m (n : Int) (w : World) (K : Value → World → Prop) : Prop :=
  (decide (n ≥ (0 : Int)) = true → K (Value.bool (decide (n ≤ (4611686018427387904 : Int)))) w) ∧
  (decide (n ≥ (0 : Int)) = false → K (Value.bool false) w)
theorem cost_Right_eq (n : Int) (w : World) (K : Value → World → Prop) : fw Tryd.prog Tryd.f50 (annL []) (ordL []) [.int .i64 n] w K = cost_Right_m n w K := by kernel_rfl
theorem cost_Right_go (n : Int) {w : World} {K : Value → World → Prop} (h : cost_Right_m n w K) : Rets Tryd.prog 50 #[.int .i64 n] w K :=
  calls_of_fw plain mixed Tryd.func50 (by kernel_rfl) (by rw [cost_Right_eq]; exact h)
def cost_Cut_m (n : Int) (w : World) (K : Value → World → Prop) : Prop :=
  K (Value.int IntKind.i64 (maxI (0 : Int) (minI n (4611686018427387904 : Int)))) w
theorem cost_Cut_eq (n : Int) (w : World) (K : Value → World → Prop) : fw Tryd.prog Tryd.f61 (annL []) (ordL []) [.int .i64 n] w K = cost_Cut_m n w K := by kernel_rfl
theorem cost_Cut_go (n : Int) {w : World} {K : Value → World → Prop} (h : cost_Cut_m n w K) : Rets Tryd.prog 61 #[.int .i64 n] w K :=
  calls_of_fw plain mixed Tryd.func61 (by kernel_rfl) (by rw [cost_Cut_eq]; exact h)
def cost_Add_m (a b : Int) (w : World) (K : Value → World → Prop) : Prop :=
  Rets Tryd.prog (50 : Nat) { toList := [Value.int IntKind.i64 a] } w fun (v1 : Value) (w1 : World) =>
  ∃ (b1 : Bool),
  v1 = Value.bool b1 ∧
  ((!b1) = false →
  Rets Tryd.prog (50 : Nat) { toList := [Value.int IntKind.i64 b] } w1 fun (v2 : Value) (w2 : World) =>
  ∃ (b2 : Bool),
  v2 = Value.bool b2 ∧
  ((!b2) = false →
  (decide (a > IntKind.wrap IntKind.i64 ((4611686018427387904 : Int) - b)) = true →
  K (Value.tuple { toList := [Value.int IntKind.i64 (0 : Int), Value.bool false] }) w2) ∧
  (decide (a > IntKind.wrap IntKind.i64 ((4611686018427387904 : Int) - b)) = false →
  K (Value.tuple { toList := [Value.int IntKind.i64 (IntKind.wrap IntKind.i64 (a + b)), Value.bool true] }) w2)) ∧
  ((!b2) = true → K (Value.tuple { toList := [Value.int IntKind.i64 (0 : Int), Value.bool false] }) w2)) ∧
  ((!b1) = true → K (Value.tuple { toList := [Value.int IntKind.i64 (0 : Int), Value.bool false] }) w1)
theorem cost_Add_eq (a b : Int) (w : World) (K : Value → World → Prop) : fw Tryd.prog Tryd.f104 (annL []) (ordL []) [.int .i64 a, .int .i64 b] w K = cost_Add_m a b w K := by kernel_rfl
theorem cost_Add_go (a b : Int) {w : World} {K : Value → World → Prop} (h : cost_Add_m a b w K) : Rets Tryd.prog 104 #[.int .i64 a, .int .i64 b] w K :=
  calls_of_fw plain mixed Tryd.func104 (by kernel_rfl) (by rw [cost_Add_eq]; exact h)
def cost_Room_m (a b : Int) (w : World) (K : Value → World → Prop) : Prop :=
  Rets Tryd.prog (50 : Nat) { toList := [Value.int IntKind.i64 a] } w fun (v1 : Value) (w1 : World) =>
  ∃ (b1 : Bool),
  v1 = Value.bool b1 ∧
  ((!b1) = false →
  Rets Tryd.prog (50 : Nat) { toList := [Value.int IntKind.i64 b] } w1 fun (v2 : Value) (w2 : World) =>
  ∃ (b2 : Bool),
  v2 = Value.bool b2 ∧
  ((!b2) = false →
  (decide (b > a) = true → K (Value.tuple { toList := [Value.int IntKind.i64 (0 : Int), Value.bool false] }) w2) ∧
  (decide (b > a) = false →
  K (Value.tuple { toList := [Value.int IntKind.i64 (IntKind.wrap IntKind.i64 (a - b)), Value.bool true] }) w2)) ∧
  ((!b2) = true → K (Value.tuple { toList := [Value.int IntKind.i64 (0 : Int), Value.bool false] }) w2)) ∧
  ((!b1) = true → K (Value.tuple { toList := [Value.int IntKind.i64 (0 : Int), Value.bool false] }) w1)
theorem cost_Room_eq (a b : Int) (w : World) (K : Value → World → Prop) : fw Tryd.prog Tryd.f92 (annL []) (ordL []) [.int .i64 a, .int .i64 b] w K = cost_Room_m a b w K := by kernel_rfl
theorem cost_Room_go (a b : Int) {w : World} {K : Value → World → Prop} (h : cost_Room_m a b w K) : Rets Tryd.prog 92 #[.int .i64 a, .int .i64 b] w K :=
  calls_of_fw plain mixed Tryd.func92 (by kernel_rfl) (by rw [cost_Room_eq]; exact h)
def cost_Move_m (a b c : Int) (w : World) (K : Value → World → Prop) : Prop :=
  Rets Tryd.prog (92 : Nat) { toList := [Value.int IntKind.i64 a, Value.int IntKind.i64 b] } w
  fun (v1 : Value) (w1 : World) =>
  ∃ (n1 : Int),
  ∃ (b1 : Bool),
  v1 = Value.tuple { toList := [Value.int IntKind.i64 n1, Value.bool b1] } ∧
  ((!b1) = true → K (Value.tuple { toList := [Value.int IntKind.i64 (0 : Int), Value.bool false] }) w1) ∧
  ((!b1) = false →
  Rets Tryd.prog (104 : Nat) { toList := [Value.int IntKind.i64 n1, Value.int IntKind.i64 c] } w1
  fun (v2 : Value) (w2 : World) =>
  ∃ (n2 : Int),
  ∃ (b2 : Bool),
  v2 = Value.tuple { toList := [Value.int IntKind.i64 n2, Value.bool b2] } ∧
  K (Value.tuple { toList := [Value.int IntKind.i64 n2, Value.bool b2] }) w2)
theorem cost_Move_eq (a b c : Int) (w : World) (K : Value → World → Prop) : fw Tryd.prog Tryd.f83 (annL []) (ordL []) [.int .i64 a, .int .i64 b, .int .i64 c] w K = cost_Move_m a b c w K := by kernel_rfl
theorem cost_Move_go (a b c : Int) {w : World} {K : Value → World → Prop} (h : cost_Move_m a b c w K) : Rets Tryd.prog 83 #[.int .i64 a, .int .i64 b, .int .i64 c] w K :=
  calls_of_fw plain mixed Tryd.func83 (by kernel_rfl) (by rw [cost_Move_eq]; exact h)
def cortadoref02_Right_m (n : Int) (w : World) (K : Value → World → Prop) : Prop :=
  (decide (n ≥ (0 : Int)) = true → K (Value.bool (decide (n ≤ (4611686018427387904 : Int)))) w) ∧
  (decide (n ≥ (0 : Int)) = false → K (Value.bool false) w)
theorem cortadoref02_Right_eq (n : Int) (w : World) (K : Value → World → Prop) : fw Tryd.prog Tryd.f64 (annL []) (ordL []) [.int .i64 n] w K = cortadoref02_Right_m n w K := by kernel_rfl
theorem cortadoref02_Right_go (n : Int) {w : World} {K : Value → World → Prop} (h : cortadoref02_Right_m n w K) : Rets Tryd.prog 64 #[.int .i64 n] w K :=
  calls_of_fw plain mixed Tryd.func64 (by kernel_rfl) (by rw [cortadoref02_Right_eq]; exact h)
def ledger_none_m  (w : World) (K : Value → World → Prop) : Prop :=
  Rets Tryd.prog (81 : Nat) { toList := [Value.func (Fn.func (82 : Nat)) { toList := [] } { toList := [] }] } w
  fun (v1 : Value) (w1 : World) => ∃ (q1 : Option Addr), v1 = Value.pointer q1 ∧ K (Value.pointer q1) w1
theorem ledger_none_eq  (w : World) (K : Value → World → Prop) : fw Tryd.prog Tryd.f60 (annL []) (ordL []) [] w K = ledger_none_m  w K := by kernel_rfl
theorem ledger_none_go  {w : World} {K : Value → World → Prop} (h : ledger_none_m  w K) : Rets Tryd.prog 60 #[] w K :=
  calls_of_fw plain mixed Tryd.func60 (by kernel_rfl) (by rw [ledger_none_eq]; exact h)
def ledger_New_m (n : Int) (w : World) (K : Value → World → Prop) : Prop :=
  Rets Tryd.prog (60 : Nat) { toList := [] } w fun (v1 : Value) (w1 : World) =>
  ∃ (q1 : Option Addr),
  v1 = Value.pointer q1 ∧
  Rets Tryd.prog (61 : Nat) { toList := [Value.int IntKind.i64 n] } w1 fun (v2 : Value) (w2 : World) =>
  ∃ (n1 : Int),
  v2 = Value.int IntKind.i64 n1 ∧
  NewR (91 : Nat) [Value.pointer q1, Value.int IntKind.i64 (0 : Int), Value.int IntKind.i64 n1] w2
  fun (a1 : Addr) (w3 : World) => K (Value.pointer (some a1)) w3
theorem ledger_New_eq (n : Int) (w : World) (K : Value → World → Prop) : fw Tryd.prog Tryd.f40 (annL []) (ordL []) [.int .i64 n] w K = ledger_New_m n w K := by kernel_rfl
theorem ledger_New_go (n : Int) {w : World} {K : Value → World → Prop} (h : ledger_New_m n w K) : Rets Tryd.prog 40 #[.int .i64 n] w K :=
  calls_of_fw plain mixed Tryd.func40 (by kernel_rfl) (by rw [ledger_New_eq]; exact h)
def ledger_Ledger_spend_m (g : Nat) (a b : Int) (w : World) (K : Value → World → Prop) : Prop :=
  ∃ (n1 : Int),
  cellAt w (Addr.add { block := g, off := (0 : Nat) } (1 : Nat)) (Value.int IntKind.i64 n1) ∧
  Rets Tryd.prog (83 : Nat) { toList := [Value.int IntKind.i64 n1, Value.int IntKind.i64 a, Value.int IntKind.i64 b] } w
  fun (v1 : Value) (w1 : World) =>
  ∃ (n2 : Int),
  ∃ (b1 : Bool),
  v1 = Value.tuple { toList := [Value.int IntKind.i64 n2, Value.bool b1] } ∧
  ((!b1) = false →
  ∃ (n3 : Int),
  cellAt w1 (Addr.add { block := g, off := (0 : Nat) } (2 : Nat)) (Value.int IntKind.i64 n3) ∧
  (decide (n2 > n3) = true → K (Value.bool false) w1) ∧
  (decide (n2 > n3) = false →
  StoreR (Addr.add { block := g, off := (0 : Nat) } (1 : Nat)) [Value.int IntKind.i64 n2] w1 fun (w2 : World) =>
  K (Value.bool true) w2)) ∧
  ((!b1) = true → K (Value.bool false) w1)
theorem ledger_Ledger_spend_eq (g : Nat) (a b : Int) (w : World) (K : Value → World → Prop) : fw Tryd.prog Tryd.f62 (annL []) (ordL []) [.pointer (some ⟨g, 0, none⟩), .int .i64 a, .int .i64 b] w K = ledger_Ledger_spend_m g a b w K := by kernel_rfl
theorem ledger_Ledger_spend_go (g : Nat) (a b : Int) {w : World} {K : Value → World → Prop} (h : ledger_Ledger_spend_m g a b w K) : Rets Tryd.prog 62 #[.pointer (some ⟨g, 0, none⟩), .int .i64 a, .int .i64 b] w K :=
  calls_of_fw plain mixed Tryd.func62 (by kernel_rfl) (by rw [ledger_Ledger_spend_eq]; exact h)
def ledger_Ledger_Cost_m (g : Nat) (k : Int) (w : World) (K : Value → World → Prop) : Prop :=
  (false = true → K (Value.tuple { toList := [Value.int IntKind.i64 (0 : Int), Value.bool false] }) w) ∧
  (false = false →
  ∃ (q1 : Option Addr),
  cellAt w (Addr.add { block := g, off := (0 : Nat) } (0 : Nat)) (Value.pointer q1) ∧
  Rets Tryd.prog (46 : Nat) { toList := [Value.pointer q1, Value.int IntKind.u64 k] } w fun (v1 : Value) (w1 : World) =>
  ∃ (n1 : Int),
  ∃ (b1 : Bool),
  v1 = Value.tuple { toList := [Value.int IntKind.i64 n1, Value.bool b1] } ∧
  K (Value.tuple { toList := [Value.int IntKind.i64 n1, Value.bool b1] }) w1)
theorem ledger_Ledger_Cost_eq (g : Nat) (k : Int) (w : World) (K : Value → World → Prop) : fw Tryd.prog Tryd.f12 (annL []) (ordL []) [.pointer (some ⟨g, 0, none⟩), .int .u64 k] w K = ledger_Ledger_Cost_m g k w K := by kernel_rfl
theorem ledger_Ledger_Cost_go (g : Nat) (k : Int) {w : World} {K : Value → World → Prop} (h : ledger_Ledger_Cost_m g k w K) : Rets Tryd.prog 12 #[.pointer (some ⟨g, 0, none⟩), .int .u64 k] w K :=
  calls_of_fw plain mixed Tryd.func12 (by kernel_rfl) (by rw [ledger_Ledger_Cost_eq]; exact h)
def ledger_Ledger_Add_m (g : Nat) (k n : Int) (w : World) (K : Value → World → Prop) : Prop :=
  (false = true → K (Value.bool false) w) ∧
  (false = false →
  Rets Tryd.prog (12 : Nat) { toList := [Value.pointer (some { block := g, off := (0 : Nat) }), Value.int IntKind.u64 k] }
  w fun (v1 : Value) (w1 : World) =>
  ∃ (n1 : Int),
  ∃ (b1 : Bool),
  v1 = Value.tuple { toList := [Value.int IntKind.i64 n1, Value.bool b1] } ∧
  (b1 = false →
  Rets Tryd.prog (62 : Nat)
  {
  toList :=
  [Value.pointer (some { block := g, off := (0 : Nat) }), Value.int IntKind.i64 (0 : Int), Value.int IntKind.i64 n] }
  w1 fun (v2 : Value) (w2 : World) =>
  ∃ (b2 : Bool),
  v2 = Value.bool b2 ∧
  ((!b2) = true → K (Value.bool false) w2) ∧
  ((!b2) = false →
  ∃ (q1 : Option Addr),
  cellAt w2 (Addr.add { block := g, off := (0 : Nat) } (0 : Nat)) (Value.pointer q1) ∧
  Rets Tryd.prog (63 : Nat) { toList := [Value.pointer q1, Value.int IntKind.u64 k, Value.int IntKind.i64 n] } w2
  fun (v3 : Value) (w3 : World) =>
  ∃ (q2 : Option Addr),
  v3 = Value.pointer q2 ∧
  StoreR (Addr.add { block := g, off := (0 : Nat) } (0 : Nat)) [Value.pointer q2] w3 fun (w4 : World) =>
  K (Value.bool true) w4)) ∧
  (b1 = true → K (Value.bool false) w1))
theorem ledger_Ledger_Add_eq (g : Nat) (k n : Int) (w : World) (K : Value → World → Prop) : fw Tryd.prog Tryd.f41 (annL []) (ordL []) [.pointer (some ⟨g, 0, none⟩), .int .u64 k, .int .i64 n] w K = ledger_Ledger_Add_m g k n w K := by kernel_rfl
theorem ledger_Ledger_Add_go (g : Nat) (k n : Int) {w : World} {K : Value → World → Prop} (h : ledger_Ledger_Add_m g k n w K) : Rets Tryd.prog 41 #[.pointer (some ⟨g, 0, none⟩), .int .u64 k, .int .i64 n] w K :=
  calls_of_fw plain mixed Tryd.func41 (by kernel_rfl) (by rw [ledger_Ledger_Add_eq]; exact h)
def ledger_Ledger_Drop_m (g : Nat) (k : Int) (w : World) (K : Value → World → Prop) : Prop :=
  Rets Tryd.prog (12 : Nat) { toList := [Value.pointer (some { block := g, off := (0 : Nat) }), Value.int IntKind.u64 k] }
  w fun (v1 : Value) (w1 : World) =>
  ∃ (n1 : Int),
  ∃ (b1 : Bool),
  v1 = Value.tuple { toList := [Value.int IntKind.i64 n1, Value.bool b1] } ∧
  ((!b1) = true → K (Value.tuple { toList := [Value.int IntKind.i64 (0 : Int), Value.bool false] }) w1) ∧
  ((!b1) = false →
  Rets Tryd.prog (62 : Nat)
  {
  toList :=
  [Value.pointer (some { block := g, off := (0 : Nat) }), Value.int IntKind.i64 n1, Value.int IntKind.i64 (0 : Int)] }
  w1 fun (v2 : Value) (w2 : World) =>
  ∃ (b2 : Bool),
  v2 = Value.bool b2 ∧
  ∃ (q1 : Option Addr),
  cellAt w2 (Addr.add { block := g, off := (0 : Nat) } (0 : Nat)) (Value.pointer q1) ∧
  Rets Tryd.prog (78 : Nat) { toList := [Value.pointer q1, Value.int IntKind.u64 k] } w2 fun (v3 : Value) (w3 : World) =>
  ∃ (q2 : Option Addr),
  v3 = Value.pointer q2 ∧
  StoreR (Addr.add { block := g, off := (0 : Nat) } (0 : Nat)) [Value.pointer q2] w3 fun (w4 : World) =>
  K (Value.tuple { toList := [Value.int IntKind.i64 n1, Value.bool true] }) w4)
theorem ledger_Ledger_Drop_eq (g : Nat) (k : Int) (w : World) (K : Value → World → Prop) : fw Tryd.prog Tryd.f55 (annL []) (ordL []) [.pointer (some ⟨g, 0, none⟩), .int .u64 k] w K = ledger_Ledger_Drop_m g k w K := by kernel_rfl
theorem ledger_Ledger_Drop_go (g : Nat) (k : Int) {w : World} {K : Value → World → Prop} (h : ledger_Ledger_Drop_m g k w K) : Rets Tryd.prog 55 #[.pointer (some ⟨g, 0, none⟩), .int .u64 k] w K :=
  calls_of_fw plain mixed Tryd.func55 (by kernel_rfl) (by rw [ledger_Ledger_Drop_eq]; exact h)
def ledger_Ledger_Used_m (g : Nat) (w : World) (K : Value → World → Prop) : Prop :=
  (false = true → K (Value.int IntKind.i64 (0 : Int)) w) ∧
  (false = false →
  ∃ (n1 : Int),
  cellAt w (Addr.add { block := g, off := (0 : Nat) } (1 : Nat)) (Value.int IntKind.i64 n1) ∧
  K (Value.int IntKind.i64 n1) w)
theorem ledger_Ledger_Used_eq (g : Nat) (w : World) (K : Value → World → Prop) : fw Tryd.prog Tryd.f35 (annL []) (ordL []) [.pointer (some ⟨g, 0, none⟩)] w K = ledger_Ledger_Used_m g w K := by kernel_rfl
theorem ledger_Ledger_Used_go (g : Nat) {w : World} {K : Value → World → Prop} (h : ledger_Ledger_Used_m g w K) : Rets Tryd.prog 35 #[.pointer (some ⟨g, 0, none⟩)] w K :=
  calls_of_fw plain mixed Tryd.func35 (by kernel_rfl) (by rw [ledger_Ledger_Used_eq]; exact h)
def ledger_Ledger_Most_m (g : Nat) (w : World) (K : Value → World → Prop) : Prop :=
  (false = true → K (Value.int IntKind.i64 (0 : Int)) w) ∧
  (false = false →
  ∃ (n1 : Int),
  cellAt w (Addr.add { block := g, off := (0 : Nat) } (2 : Nat)) (Value.int IntKind.i64 n1) ∧
  K (Value.int IntKind.i64 n1) w)
theorem ledger_Ledger_Most_eq (g : Nat) (w : World) (K : Value → World → Prop) : fw Tryd.prog Tryd.f30 (annL []) (ordL []) [.pointer (some ⟨g, 0, none⟩)] w K = ledger_Ledger_Most_m g w K := by kernel_rfl
theorem ledger_Ledger_Most_go (g : Nat) {w : World} {K : Value → World → Prop} (h : ledger_Ledger_Most_m g w K) : Rets Tryd.prog 30 #[.pointer (some ⟨g, 0, none⟩)] w K :=
  calls_of_fw plain mixed Tryd.func30 (by kernel_rfl) (by rw [ledger_Ledger_Most_eq]; exact h)
def ledger_Ledger_Room_m (g : Nat) (w : World) (K : Value → World → Prop) : Prop :=
  Rets Tryd.prog (30 : Nat) { toList := [Value.pointer (some { block := g, off := (0 : Nat) })] } w
  fun (v1 : Value) (w1 : World) =>
  ∃ (n1 : Int),
  v1 = Value.int IntKind.i64 n1 ∧
  Rets Tryd.prog (35 : Nat) { toList := [Value.pointer (some { block := g, off := (0 : Nat) })] } w1
  fun (v2 : Value) (w2 : World) =>
  ∃ (n2 : Int),
  v2 = Value.int IntKind.i64 n2 ∧
  Rets Tryd.prog (92 : Nat) { toList := [Value.int IntKind.i64 n1, Value.int IntKind.i64 n2] } w2
  fun (v3 : Value) (w3 : World) =>
  ∃ (n3 : Int),
  ∃ (b1 : Bool),
  v3 = Value.tuple { toList := [Value.int IntKind.i64 n3, Value.bool b1] } ∧ K (Value.int IntKind.i64 n3) w3
theorem ledger_Ledger_Room_eq (g : Nat) (w : World) (K : Value → World → Prop) : fw Tryd.prog Tryd.f73 (annL []) (ordL []) [.pointer (some ⟨g, 0, none⟩)] w K = ledger_Ledger_Room_m g w K := by kernel_rfl
theorem ledger_Ledger_Room_go (g : Nat) {w : World} {K : Value → World → Prop} (h : ledger_Ledger_Room_m g w K) : Rets Tryd.prog 73 #[.pointer (some ⟨g, 0, none⟩)] w K :=
  calls_of_fw plain mixed Tryd.func73 (by kernel_rfl) (by rw [ledger_Ledger_Room_eq]; exact h)
def ledger_Ledger_Limit_m (g : Nat) (n : Int) (w : World) (K : Value → World → Prop) : Prop :=
  (false = false →
  Rets Tryd.prog (50 : Nat) { toList := [Value.int IntKind.i64 n] } w fun (v1 : Value) (w1 : World) =>
  ∃ (b1 : Bool),
  v1 = Value.bool b1 ∧
  ((!b1) = false →
  ∃ (n1 : Int),
  cellAt w1 (Addr.add { block := g, off := (0 : Nat) } (1 : Nat)) (Value.int IntKind.i64 n1) ∧
  (decide (n < n1) = true → K (Value.bool false) w1) ∧
  (decide (n < n1) = false →
  StoreR (Addr.add { block := g, off := (0 : Nat) } (2 : Nat)) [Value.int IntKind.i64 n] w1 fun (w2 : World) =>
  K (Value.bool true) w2)) ∧
  ((!b1) = true → K (Value.bool false) w1)) ∧
  (false = true → K (Value.bool false) w)
theorem ledger_Ledger_Limit_eq (g : Nat) (n : Int) (w : World) (K : Value → World → Prop) : fw Tryd.prog Tryd.f57 (annL []) (ordL []) [.pointer (some ⟨g, 0, none⟩), .int .i64 n] w K = ledger_Ledger_Limit_m g n w K := by kernel_rfl
theorem ledger_Ledger_Limit_go (g : Nat) (n : Int) {w : World} {K : Value → World → Prop} (h : ledger_Ledger_Limit_m g n w K) : Rets Tryd.prog 57 #[.pointer (some ⟨g, 0, none⟩), .int .i64 n] w K :=
  calls_of_fw plain mixed Tryd.func57 (by kernel_rfl) (by rw [ledger_Ledger_Limit_eq]; exact h)
def ledger_Ledger_Len_m (g : Nat) (w : World) (K : Value → World → Prop) : Prop :=
  (false = true → K (Value.int IntKind.i64 (0 : Int)) w) ∧
  (false = false →
  ∃ (q1 : Option Addr),
  cellAt w (Addr.add { block := g, off := (0 : Nat) } (0 : Nat)) (Value.pointer q1) ∧
  Rets Tryd.prog (54 : Nat) { toList := [Value.pointer q1] } w fun (v1 : Value) (w1 : World) =>
  ∃ (n1 : Int), v1 = Value.int IntKind.i64 n1 ∧ K (Value.int IntKind.i64 n1) w1)
theorem ledger_Ledger_Len_eq (g : Nat) (w : World) (K : Value → World → Prop) : fw Tryd.prog Tryd.f28 (annL []) (ordL []) [.pointer (some ⟨g, 0, none⟩)] w K = ledger_Ledger_Len_m g w K := by kernel_rfl
theorem ledger_Ledger_Len_go (g : Nat) {w : World} {K : Value → World → Prop} (h : ledger_Ledger_Len_m g w K) : Rets Tryd.prog 28 #[.pointer (some ⟨g, 0, none⟩)] w K :=
  calls_of_fw plain mixed Tryd.func28 (by kernel_rfl) (by rw [ledger_Ledger_Len_eq]; exact h)
def ledger_Ledger_At_m (g : Nat) (i : Int) (w : World) (K : Value → World → Prop) : Prop :=
  (false = true → K (Value.tuple { toList := [Value.int IntKind.u64 (0 : Int), Value.bool false] }) w) ∧
  (false = false →
  ∃ (q1 : Option Addr),
  cellAt w (Addr.add { block := g, off := (0 : Nat) } (0 : Nat)) (Value.pointer q1) ∧
  Rets Tryd.prog (85 : Nat) { toList := [Value.pointer q1, Value.int IntKind.i64 i] } w fun (v1 : Value) (w1 : World) =>
  ∃ (n1 : Int),
  ∃ (n2 : Int),
  ∃ (b1 : Bool),
  v1 = Value.tuple { toList := [Value.int IntKind.u64 n1, Value.int IntKind.i64 n2, Value.bool b1] } ∧
  K (Value.tuple { toList := [Value.int IntKind.u64 n1, Value.bool b1] }) w1)
theorem ledger_Ledger_At_eq (g : Nat) (i : Int) (w : World) (K : Value → World → Prop) : fw Tryd.prog Tryd.f66 (annL []) (ordL []) [.pointer (some ⟨g, 0, none⟩), .int .i64 i] w K = ledger_Ledger_At_m g i w K := by kernel_rfl
theorem ledger_Ledger_At_go (g : Nat) (i : Int) {w : World} {K : Value → World → Prop} (h : ledger_Ledger_At_m g i w K) : Rets Tryd.prog 66 #[.pointer (some ⟨g, 0, none⟩), .int .i64 i] w K :=
  calls_of_fw plain mixed Tryd.func66 (by kernel_rfl) (by rw [ledger_Ledger_At_eq]; exact h)
def ledger_Ledger_Clear_m (g : Nat) (w : World) (K : Value → World → Prop) : Prop :=
  (true = true →
  Rets Tryd.prog (60 : Nat) { toList := [] } w fun (v1 : Value) (w1 : World) =>
  ∃ (q1 : Option Addr),
  v1 = Value.pointer q1 ∧
  StoreR (Addr.add { block := g, off := (0 : Nat) } (0 : Nat)) [Value.pointer q1] w1 fun (w2 : World) =>
  StoreR (Addr.add { block := g, off := (0 : Nat) } (1 : Nat)) [Value.int IntKind.i64 (0 : Int)] w2 fun (w3 : World) =>
  K (Value.tuple { toList := [] }) w3) ∧
  (true = false → K (Value.tuple { toList := [] }) w)
theorem ledger_Ledger_Clear_eq (g : Nat) (w : World) (K : Value → World → Prop) : fw Tryd.prog Tryd.f58 (annL []) (ordL []) [.pointer (some ⟨g, 0, none⟩)] w K = ledger_Ledger_Clear_m g w K := by kernel_rfl
theorem ledger_Ledger_Clear_go (g : Nat) {w : World} {K : Value → World → Prop} (h : ledger_Ledger_Clear_m g w K) : Rets Tryd.prog 58 #[.pointer (some ⟨g, 0, none⟩)] w K :=
  calls_of_fw plain mixed Tryd.func58 (by kernel_rfl) (by rw [ledger_Ledger_Clear_eq]; exact h)
def ledger_nil_Cost_m (k : Int) (w : World) (K : Value → World → Prop) : Prop :=
  (true = true → K (Value.tuple { toList := [Value.int IntKind.i64 (0 : Int), Value.bool false] }) w) ∧
  (true = false → False)
theorem ledger_nil_Cost_eq (k : Int) (w : World) (K : Value → World → Prop) : fw Tryd.prog Tryd.f12 (annL []) (ordL []) [.pointer none, .int .u64 k] w K = ledger_nil_Cost_m k w K := by kernel_rfl
theorem ledger_nil_Cost_go (k : Int) {w : World} {K : Value → World → Prop} (h : ledger_nil_Cost_m k w K) : Rets Tryd.prog 12 #[.pointer none, .int .u64 k] w K :=
  calls_of_fw plain mixed Tryd.func12 (by kernel_rfl) (by rw [ledger_nil_Cost_eq]; exact h)
def ledger_nil_Add_m (k n : Int) (w : World) (K : Value → World → Prop) : Prop :=
  (true = true → K (Value.bool false) w) ∧
  (true = false →
  Rets Tryd.prog (12 : Nat) { toList := [Value.pointer none, Value.int IntKind.u64 k] } w fun (v1 : Value) (w1 : World) =>
  ∃ (n1 : Int),
  ∃ (b1 : Bool),
  v1 = Value.tuple { toList := [Value.int IntKind.i64 n1, Value.bool b1] } ∧
  (b1 = false →
  Rets Tryd.prog (62 : Nat) { toList := [Value.pointer none, Value.int IntKind.i64 (0 : Int), Value.int IntKind.i64 n] }
  w1 fun (v2 : Value) (w2 : World) =>
  ∃ (b2 : Bool), v2 = Value.bool b2 ∧ ((!b2) = true → K (Value.bool false) w2) ∧ ((!b2) = false → False)) ∧
  (b1 = true → K (Value.bool false) w1))
theorem ledger_nil_Add_eq (k n : Int) (w : World) (K : Value → World → Prop) : fw Tryd.prog Tryd.f41 (annL []) (ordL []) [.pointer none, .int .u64 k, .int .i64 n] w K = ledger_nil_Add_m k n w K := by kernel_rfl
theorem ledger_nil_Add_go (k n : Int) {w : World} {K : Value → World → Prop} (h : ledger_nil_Add_m k n w K) : Rets Tryd.prog 41 #[.pointer none, .int .u64 k, .int .i64 n] w K :=
  calls_of_fw plain mixed Tryd.func41 (by kernel_rfl) (by rw [ledger_nil_Add_eq]; exact h)
def ledger_nil_Drop_m (k : Int) (w : World) (K : Value → World → Prop) : Prop :=
  Rets Tryd.prog (12 : Nat) { toList := [Value.pointer none, Value.int IntKind.u64 k] } w fun (v1 : Value) (w1 : World) =>
  ∃ (n1 : Int),
  ∃ (b1 : Bool),
  v1 = Value.tuple { toList := [Value.int IntKind.i64 n1, Value.bool b1] } ∧
  ((!b1) = true → K (Value.tuple { toList := [Value.int IntKind.i64 (0 : Int), Value.bool false] }) w1) ∧
  ((!b1) = false →
  Rets Tryd.prog (62 : Nat) { toList := [Value.pointer none, Value.int IntKind.i64 n1, Value.int IntKind.i64 (0 : Int)] }
  w1 fun (v2 : Value) (w2 : World) => ∃ (b2 : Bool), v2 = Value.bool b2 ∧ False)
theorem ledger_nil_Drop_eq (k : Int) (w : World) (K : Value → World → Prop) : fw Tryd.prog Tryd.f55 (annL []) (ordL []) [.pointer none, .int .u64 k] w K = ledger_nil_Drop_m k w K := by kernel_rfl
theorem ledger_nil_Drop_go (k : Int) {w : World} {K : Value → World → Prop} (h : ledger_nil_Drop_m k w K) : Rets Tryd.prog 55 #[.pointer none, .int .u64 k] w K :=
  calls_of_fw plain mixed Tryd.func55 (by kernel_rfl) (by rw [ledger_nil_Drop_eq]; exact h)
def ledger_nil_Used_m  (w : World) (K : Value → World → Prop) : Prop :=
  (true = true → K (Value.int IntKind.i64 (0 : Int)) w) ∧ (true = false → False)
theorem ledger_nil_Used_eq  (w : World) (K : Value → World → Prop) : fw Tryd.prog Tryd.f35 (annL []) (ordL []) [.pointer none] w K = ledger_nil_Used_m  w K := by kernel_rfl
theorem ledger_nil_Used_go  {w : World} {K : Value → World → Prop} (h : ledger_nil_Used_m  w K) : Rets Tryd.prog 35 #[.pointer none] w K :=
  calls_of_fw plain mixed Tryd.func35 (by kernel_rfl) (by rw [ledger_nil_Used_eq]; exact h)
def ledger_nil_Most_m  (w : World) (K : Value → World → Prop) : Prop :=
  (true = true → K (Value.int IntKind.i64 (0 : Int)) w) ∧ (true = false → False)
theorem ledger_nil_Most_eq  (w : World) (K : Value → World → Prop) : fw Tryd.prog Tryd.f30 (annL []) (ordL []) [.pointer none] w K = ledger_nil_Most_m  w K := by kernel_rfl
theorem ledger_nil_Most_go  {w : World} {K : Value → World → Prop} (h : ledger_nil_Most_m  w K) : Rets Tryd.prog 30 #[.pointer none] w K :=
  calls_of_fw plain mixed Tryd.func30 (by kernel_rfl) (by rw [ledger_nil_Most_eq]; exact h)
def ledger_nil_Room_m  (w : World) (K : Value → World → Prop) : Prop :=
  Rets Tryd.prog (30 : Nat) { toList := [Value.pointer none] } w fun (v1 : Value) (w1 : World) =>
  ∃ (n1 : Int),
  v1 = Value.int IntKind.i64 n1 ∧
  Rets Tryd.prog (35 : Nat) { toList := [Value.pointer none] } w1 fun (v2 : Value) (w2 : World) =>
  ∃ (n2 : Int),
  v2 = Value.int IntKind.i64 n2 ∧
  Rets Tryd.prog (92 : Nat) { toList := [Value.int IntKind.i64 n1, Value.int IntKind.i64 n2] } w2
  fun (v3 : Value) (w3 : World) =>
  ∃ (n3 : Int),
  ∃ (b1 : Bool),
  v3 = Value.tuple { toList := [Value.int IntKind.i64 n3, Value.bool b1] } ∧ K (Value.int IntKind.i64 n3) w3
theorem ledger_nil_Room_eq  (w : World) (K : Value → World → Prop) : fw Tryd.prog Tryd.f73 (annL []) (ordL []) [.pointer none] w K = ledger_nil_Room_m  w K := by kernel_rfl
theorem ledger_nil_Room_go  {w : World} {K : Value → World → Prop} (h : ledger_nil_Room_m  w K) : Rets Tryd.prog 73 #[.pointer none] w K :=
  calls_of_fw plain mixed Tryd.func73 (by kernel_rfl) (by rw [ledger_nil_Room_eq]; exact h)
def ledger_nil_Limit_m (n : Int) (w : World) (K : Value → World → Prop) : Prop :=
  (true = false →
  Rets Tryd.prog (50 : Nat) { toList := [Value.int IntKind.i64 n] } w fun (v1 : Value) (w1 : World) =>
  ∃ (b1 : Bool), v1 = Value.bool b1 ∧ ((!b1) = false → False) ∧ ((!b1) = true → K (Value.bool false) w1)) ∧
  (true = true → K (Value.bool false) w)
theorem ledger_nil_Limit_eq (n : Int) (w : World) (K : Value → World → Prop) : fw Tryd.prog Tryd.f57 (annL []) (ordL []) [.pointer none, .int .i64 n] w K = ledger_nil_Limit_m n w K := by kernel_rfl
theorem ledger_nil_Limit_go (n : Int) {w : World} {K : Value → World → Prop} (h : ledger_nil_Limit_m n w K) : Rets Tryd.prog 57 #[.pointer none, .int .i64 n] w K :=
  calls_of_fw plain mixed Tryd.func57 (by kernel_rfl) (by rw [ledger_nil_Limit_eq]; exact h)
def ledger_nil_Len_m  (w : World) (K : Value → World → Prop) : Prop :=
  (true = true → K (Value.int IntKind.i64 (0 : Int)) w) ∧ (true = false → False)
theorem ledger_nil_Len_eq  (w : World) (K : Value → World → Prop) : fw Tryd.prog Tryd.f28 (annL []) (ordL []) [.pointer none] w K = ledger_nil_Len_m  w K := by kernel_rfl
theorem ledger_nil_Len_go  {w : World} {K : Value → World → Prop} (h : ledger_nil_Len_m  w K) : Rets Tryd.prog 28 #[.pointer none] w K :=
  calls_of_fw plain mixed Tryd.func28 (by kernel_rfl) (by rw [ledger_nil_Len_eq]; exact h)
def ledger_nil_At_m (i : Int) (w : World) (K : Value → World → Prop) : Prop :=
  (true = true → K (Value.tuple { toList := [Value.int IntKind.u64 (0 : Int), Value.bool false] }) w) ∧
  (true = false → False)
theorem ledger_nil_At_eq (i : Int) (w : World) (K : Value → World → Prop) : fw Tryd.prog Tryd.f66 (annL []) (ordL []) [.pointer none, .int .i64 i] w K = ledger_nil_At_m i w K := by kernel_rfl
theorem ledger_nil_At_go (i : Int) {w : World} {K : Value → World → Prop} (h : ledger_nil_At_m i w K) : Rets Tryd.prog 66 #[.pointer none, .int .i64 i] w K :=
  calls_of_fw plain mixed Tryd.func66 (by kernel_rfl) (by rw [ledger_nil_At_eq]; exact h)
def ledger_nil_Clear_m  (w : World) (K : Value → World → Prop) : Prop :=
  (false = true →
  Rets Tryd.prog (60 : Nat) { toList := [] } w fun (v1 : Value) (w1 : World) =>
  ∃ (q1 : Option Addr), v1 = Value.pointer q1 ∧ False) ∧
  (false = false → K (Value.tuple { toList := [] }) w)
theorem ledger_nil_Clear_eq  (w : World) (K : Value → World → Prop) : fw Tryd.prog Tryd.f58 (annL []) (ordL []) [.pointer none] w K = ledger_nil_Clear_m  w K := by kernel_rfl
theorem ledger_nil_Clear_go  {w : World} {K : Value → World → Prop} (h : ledger_nil_Clear_m  w K) : Rets Tryd.prog 58 #[.pointer none] w K :=
  calls_of_fw plain mixed Tryd.func58 (by kernel_rfl) (by rw [ledger_nil_Clear_eq]; exact h)
end Go.Proofs.YtajckpjlliiekaaDoor.Eng
