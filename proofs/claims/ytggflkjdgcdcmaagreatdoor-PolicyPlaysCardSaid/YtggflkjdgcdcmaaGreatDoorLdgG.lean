/- What the code of these functions asks for: printed by a program of this session's (gens.py) out of the seat's own functions; the kernel checks each row. -/
import Derived.Test.YtggflkjdgcdcmaaGreatDoorEngH
import Derived.Test.YtggflkjdgcdcmaaGreatDoorProg
import Derived.Test.YtggflkjdgcdcmaaGreatDoorBase
namespace Go.Proofs.YtggflkjdgcdcmaaGreatDoor.Eng
open Go Go.Proofs
set_option linter.unusedVariables false
set_option maxRecDepth 1000000
def cost_Right_m (n : Int) (w : World) (K : Value → World → Prop) : Prop :=
  (decide (n ≥ (0 : Int)) = true → K (Value.bool (decide (n ≤ (4611686018427387904 : Int)))) w) ∧
  (decide (n ≥ (0 : Int)) = false → K (Value.bool false) w)
theorem cost_Right_eq (n : Int) (w : World) (K : Value → World → Prop) : fw Tryz.prog Tryz.f43 (annL []) (ordL []) [.int .i64 n] w K = cost_Right_m n w K := by kernel_rfl
theorem cost_Right_go (n : Int) {w : World} {K : Value → World → Prop} (h : cost_Right_m n w K) : Rets Tryz.prog 43 #[.int .i64 n] w K :=
  calls_of_fw plain mixed Tryz.func43 (by kernel_rfl) (by rw [cost_Right_eq]; exact h)
def cost_Cut_m (n : Int) (w : World) (K : Value → World → Prop) : Prop :=
  K (Value.int IntKind.i64 (maxI (0 : Int) (minI n (4611686018427387904 : Int)))) w
theorem cost_Cut_eq (n : Int) (w : World) (K : Value → World → Prop) : fw Tryz.prog Tryz.f49 (annL []) (ordL []) [.int .i64 n] w K = cost_Cut_m n w K := by kernel_rfl
theorem cost_Cut_go (n : Int) {w : World} {K : Value → World → Prop} (h : cost_Cut_m n w K) : Rets Tryz.prog 49 #[.int .i64 n] w K :=
  calls_of_fw plain mixed Tryz.func49 (by kernel_rfl) (by rw [cost_Cut_eq]; exact h)
def cost_Add_m (a b : Int) (w : World) (K : Value → World → Prop) : Prop :=
  Rets Tryz.prog (43 : Nat) { toList := [Value.int IntKind.i64 a] } w fun (v1 : Value) (w1 : World) =>
  ∃ (b1 : Bool),
  v1 = Value.bool b1 ∧
  ((!b1) = false →
  Rets Tryz.prog (43 : Nat) { toList := [Value.int IntKind.i64 b] } w1 fun (v2 : Value) (w2 : World) =>
  ∃ (b2 : Bool),
  v2 = Value.bool b2 ∧
  ((!b2) = false →
  (decide (a > IntKind.wrap IntKind.i64 ((4611686018427387904 : Int) - b)) = true →
  K (Value.tuple { toList := [Value.int IntKind.i64 (0 : Int), Value.bool false] }) w2) ∧
  (decide (a > IntKind.wrap IntKind.i64 ((4611686018427387904 : Int) - b)) = false →
  K (Value.tuple { toList := [Value.int IntKind.i64 (IntKind.wrap IntKind.i64 (a + b)), Value.bool true] }) w2)) ∧
  ((!b2) = true → K (Value.tuple { toList := [Value.int IntKind.i64 (0 : Int), Value.bool false] }) w2)) ∧
  ((!b1) = true → K (Value.tuple { toList := [Value.int IntKind.i64 (0 : Int), Value.bool false] }) w1)
theorem cost_Add_eq (a b : Int) (w : World) (K : Value → World → Prop) : fw Tryz.prog Tryz.f119 (annL []) (ordL []) [.int .i64 a, .int .i64 b] w K = cost_Add_m a b w K := by kernel_rfl
theorem cost_Add_go (a b : Int) {w : World} {K : Value → World → Prop} (h : cost_Add_m a b w K) : Rets Tryz.prog 119 #[.int .i64 a, .int .i64 b] w K :=
  calls_of_fw plain mixed Tryz.func119 (by kernel_rfl) (by rw [cost_Add_eq]; exact h)
def cost_Room_m (a b : Int) (w : World) (K : Value → World → Prop) : Prop :=
  Rets Tryz.prog (43 : Nat) { toList := [Value.int IntKind.i64 a] } w fun (v1 : Value) (w1 : World) =>
  ∃ (b1 : Bool),
  v1 = Value.bool b1 ∧
  ((!b1) = false →
  Rets Tryz.prog (43 : Nat) { toList := [Value.int IntKind.i64 b] } w1 fun (v2 : Value) (w2 : World) =>
  ∃ (b2 : Bool),
  v2 = Value.bool b2 ∧
  ((!b2) = false →
  (decide (b > a) = true → K (Value.tuple { toList := [Value.int IntKind.i64 (0 : Int), Value.bool false] }) w2) ∧
  (decide (b > a) = false →
  K (Value.tuple { toList := [Value.int IntKind.i64 (IntKind.wrap IntKind.i64 (a - b)), Value.bool true] }) w2)) ∧
  ((!b2) = true → K (Value.tuple { toList := [Value.int IntKind.i64 (0 : Int), Value.bool false] }) w2)) ∧
  ((!b1) = true → K (Value.tuple { toList := [Value.int IntKind.i64 (0 : Int), Value.bool false] }) w1)
theorem cost_Room_eq (a b : Int) (w : World) (K : Value → World → Prop) : fw Tryz.prog Tryz.f95 (annL []) (ordL []) [.int .i64 a, .int .i64 b] w K = cost_Room_m a b w K := by kernel_rfl
theorem cost_Room_go (a b : Int) {w : World} {K : Value → World → Prop} (h : cost_Room_m a b w K) : Rets Tryz.prog 95 #[.int .i64 a, .int .i64 b] w K :=
  calls_of_fw plain mixed Tryz.func95 (by kernel_rfl) (by rw [cost_Room_eq]; exact h)
def cost_Move_m (a b c : Int) (w : World) (K : Value → World → Prop) : Prop :=
  Rets Tryz.prog (95 : Nat) { toList := [Value.int IntKind.i64 a, Value.int IntKind.i64 b] } w
  fun (v1 : Value) (w1 : World) =>
  ∃ (n1 : Int),
  ∃ (b1 : Bool),
  v1 = Value.tuple { toList := [Value.int IntKind.i64 n1, Value.bool b1] } ∧
  ((!b1) = true → K (Value.tuple { toList := [Value.int IntKind.i64 (0 : Int), Value.bool false] }) w1) ∧
  ((!b1) = false →
  Rets Tryz.prog (119 : Nat) { toList := [Value.int IntKind.i64 n1, Value.int IntKind.i64 c] } w1
  fun (v2 : Value) (w2 : World) =>
  ∃ (n2 : Int),
  ∃ (b2 : Bool),
  v2 = Value.tuple { toList := [Value.int IntKind.i64 n2, Value.bool b2] } ∧
  K (Value.tuple { toList := [Value.int IntKind.i64 n2, Value.bool b2] }) w2)
theorem cost_Move_eq (a b c : Int) (w : World) (K : Value → World → Prop) : fw Tryz.prog Tryz.f96 (annL []) (ordL []) [.int .i64 a, .int .i64 b, .int .i64 c] w K = cost_Move_m a b c w K := by kernel_rfl
theorem cost_Move_go (a b c : Int) {w : World} {K : Value → World → Prop} (h : cost_Move_m a b c w K) : Rets Tryz.prog 96 #[.int .i64 a, .int .i64 b, .int .i64 c] w K :=
  calls_of_fw plain mixed Tryz.func96 (by kernel_rfl) (by rw [cost_Move_eq]; exact h)
def cortadoref02_Right_m (n : Int) (w : World) (K : Value → World → Prop) : Prop :=
  (decide (n ≥ (0 : Int)) = true → K (Value.bool (decide (n ≤ (4611686018427387904 : Int)))) w) ∧
  (decide (n ≥ (0 : Int)) = false → K (Value.bool false) w)
theorem cortadoref02_Right_eq (n : Int) (w : World) (K : Value → World → Prop) : fw Tryz.prog Tryz.f52 (annL []) (ordL []) [.int .i64 n] w K = cortadoref02_Right_m n w K := by kernel_rfl
theorem cortadoref02_Right_go (n : Int) {w : World} {K : Value → World → Prop} (h : cortadoref02_Right_m n w K) : Rets Tryz.prog 52 #[.int .i64 n] w K :=
  calls_of_fw plain mixed Tryz.func52 (by kernel_rfl) (by rw [cortadoref02_Right_eq]; exact h)
def cortadoref02_Cut_m (n : Int) (w : World) (K : Value → World → Prop) : Prop :=
  (decide (n < (0 : Int)) = true → K (Value.int IntKind.i64 (0 : Int)) w) ∧
  (decide (n < (0 : Int)) = false →
  Rets Tryz.prog (52 : Nat) { toList := [Value.int IntKind.i64 n] } w fun (v1 : Value) (w1 : World) =>
  ∃ (b1 : Bool),
  v1 = Value.bool b1 ∧
  ((!b1) = true → K (Value.int IntKind.i64 (4611686018427387904 : Int)) w1) ∧
  ((!b1) = false → K (Value.int IntKind.i64 n) w1))
theorem cortadoref02_Cut_eq (n : Int) (w : World) (K : Value → World → Prop) : fw Tryz.prog Tryz.f24 (annL []) (ordL []) [.int .i64 n] w K = cortadoref02_Cut_m n w K := by kernel_rfl
theorem cortadoref02_Cut_go (n : Int) {w : World} {K : Value → World → Prop} (h : cortadoref02_Cut_m n w K) : Rets Tryz.prog 24 #[.int .i64 n] w K :=
  calls_of_fw plain mixed Tryz.func24 (by kernel_rfl) (by rw [cortadoref02_Cut_eq]; exact h)
def ledger_none_m  (w : World) (K : Value → World → Prop) : Prop :=
  Rets Tryz.prog (74 : Nat) { toList := [Value.func (Fn.func (75 : Nat)) { toList := [] } { toList := [] }] } w
  fun (v1 : Value) (w1 : World) => ∃ (q1 : Option Addr), v1 = Value.pointer q1 ∧ K (Value.pointer q1) w1
theorem ledger_none_eq  (w : World) (K : Value → World → Prop) : fw Tryz.prog Tryz.f48 (annL []) (ordL []) [] w K = ledger_none_m  w K := by kernel_rfl
theorem ledger_none_go  {w : World} {K : Value → World → Prop} (h : ledger_none_m  w K) : Rets Tryz.prog 48 #[] w K :=
  calls_of_fw plain mixed Tryz.func48 (by kernel_rfl) (by rw [ledger_none_eq]; exact h)
def ledger_New_m (n : Int) (w : World) (K : Value → World → Prop) : Prop :=
  Rets Tryz.prog (48 : Nat) { toList := [] } w fun (v1 : Value) (w1 : World) =>
  ∃ (q1 : Option Addr),
  v1 = Value.pointer q1 ∧
  Rets Tryz.prog (49 : Nat) { toList := [Value.int IntKind.i64 n] } w1 fun (v2 : Value) (w2 : World) =>
  ∃ (n1 : Int),
  v2 = Value.int IntKind.i64 n1 ∧
  NewR (97 : Nat) [Value.pointer q1, Value.int IntKind.i64 (0 : Int), Value.int IntKind.i64 n1] w2
  fun (a1 : Addr) (w3 : World) => K (Value.pointer (some a1)) w3
theorem ledger_New_eq (n : Int) (w : World) (K : Value → World → Prop) : fw Tryz.prog Tryz.f22 (annL []) (ordL []) [.int .i64 n] w K = ledger_New_m n w K := by kernel_rfl
theorem ledger_New_go (n : Int) {w : World} {K : Value → World → Prop} (h : ledger_New_m n w K) : Rets Tryz.prog 22 #[.int .i64 n] w K :=
  calls_of_fw plain mixed Tryz.func22 (by kernel_rfl) (by rw [ledger_New_eq]; exact h)
def ledger_Ledger_spend_m (g : Nat) (a b : Int) (w : World) (K : Value → World → Prop) : Prop :=
  ∃ (n1 : Int),
  cellAt w (Addr.add { block := g, off := (0 : Nat) } (1 : Nat)) (Value.int IntKind.i64 n1) ∧
  Rets Tryz.prog (96 : Nat) { toList := [Value.int IntKind.i64 n1, Value.int IntKind.i64 a, Value.int IntKind.i64 b] } w
  fun (v1 : Value) (w1 : World) =>
  ∃ (n2 : Int),
  ∃ (b1 : Bool),
  v1 = Value.tuple { toList := [Value.int IntKind.i64 n2, Value.bool b1] } ∧
  ((!b1) = false →
  ∃ (n3 : Int),
  cellAt w1 (Addr.add { block := g, off := (0 : Nat) } (2 : Nat)) (Value.int IntKind.i64 n3) ∧
  (decide (n2 > n3) = true → K (Value.bool false) w1) ∧
  (decide (n2 > n3) = false →
  StoreR (Addr.add { block := g, off := (0 : Nat) } (1 : Nat)) [Value.int IntKind.i64 n2] w1 fun (w2 : World) =>
  K (Value.bool true) w2)) ∧
  ((!b1) = true → K (Value.bool false) w1)
theorem ledger_Ledger_spend_eq (g : Nat) (a b : Int) (w : World) (K : Value → World → Prop) : fw Tryz.prog Tryz.f69 (annL []) (ordL []) [.pointer (some ⟨g, 0, none⟩), .int .i64 a, .int .i64 b] w K = ledger_Ledger_spend_m g a b w K := by kernel_rfl
theorem ledger_Ledger_spend_go (g : Nat) (a b : Int) {w : World} {K : Value → World → Prop} (h : ledger_Ledger_spend_m g a b w K) : Rets Tryz.prog 69 #[.pointer (some ⟨g, 0, none⟩), .int .i64 a, .int .i64 b] w K :=
  calls_of_fw plain mixed Tryz.func69 (by kernel_rfl) (by rw [ledger_Ledger_spend_eq]; exact h)
def ledger_Ledger_Cost_m (g : Nat) (k : Int) (w : World) (K : Value → World → Prop) : Prop :=
  (false = true → K (Value.tuple { toList := [Value.int IntKind.i64 (0 : Int), Value.bool false] }) w) ∧
  (false = false →
  ∃ (q1 : Option Addr),
  cellAt w (Addr.add { block := g, off := (0 : Nat) } (0 : Nat)) (Value.pointer q1) ∧
  Rets Tryz.prog (42 : Nat) { toList := [Value.pointer q1, Value.int IntKind.u64 k] } w fun (v1 : Value) (w1 : World) =>
  ∃ (n1 : Int),
  ∃ (b1 : Bool),
  v1 = Value.tuple { toList := [Value.int IntKind.i64 n1, Value.bool b1] } ∧
  K (Value.tuple { toList := [Value.int IntKind.i64 n1, Value.bool b1] }) w1)
theorem ledger_Ledger_Cost_eq (g : Nat) (k : Int) (w : World) (K : Value → World → Prop) : fw Tryz.prog Tryz.f18 (annL []) (ordL []) [.pointer (some ⟨g, 0, none⟩), .int .u64 k] w K = ledger_Ledger_Cost_m g k w K := by kernel_rfl
theorem ledger_Ledger_Cost_go (g : Nat) (k : Int) {w : World} {K : Value → World → Prop} (h : ledger_Ledger_Cost_m g k w K) : Rets Tryz.prog 18 #[.pointer (some ⟨g, 0, none⟩), .int .u64 k] w K :=
  calls_of_fw plain mixed Tryz.func18 (by kernel_rfl) (by rw [ledger_Ledger_Cost_eq]; exact h)
def ledger_Ledger_Add_m (g : Nat) (k n : Int) (w : World) (K : Value → World → Prop) : Prop :=
  (false = true → K (Value.bool false) w) ∧
  (false = false →
  Rets Tryz.prog (18 : Nat) { toList := [Value.pointer (some { block := g, off := (0 : Nat) }), Value.int IntKind.u64 k] }
  w fun (v1 : Value) (w1 : World) =>
  ∃ (n1 : Int),
  ∃ (b1 : Bool),
  v1 = Value.tuple { toList := [Value.int IntKind.i64 n1, Value.bool b1] } ∧
  (b1 = false →
  Rets Tryz.prog (69 : Nat)
  {
  toList :=
  [Value.pointer (some { block := g, off := (0 : Nat) }), Value.int IntKind.i64 (0 : Int), Value.int IntKind.i64 n] }
  w1 fun (v2 : Value) (w2 : World) =>
  ∃ (b2 : Bool),
  v2 = Value.bool b2 ∧
  ((!b2) = true → K (Value.bool false) w2) ∧
  ((!b2) = false →
  ∃ (q1 : Option Addr),
  cellAt w2 (Addr.add { block := g, off := (0 : Nat) } (0 : Nat)) (Value.pointer q1) ∧
  Rets Tryz.prog (70 : Nat) { toList := [Value.pointer q1, Value.int IntKind.u64 k, Value.int IntKind.i64 n] } w2
  fun (v3 : Value) (w3 : World) =>
  ∃ (q2 : Option Addr),
  v3 = Value.pointer q2 ∧
  StoreR (Addr.add { block := g, off := (0 : Nat) } (0 : Nat)) [Value.pointer q2] w3 fun (w4 : World) =>
  K (Value.bool true) w4)) ∧
  (b1 = true → K (Value.bool false) w1))
theorem ledger_Ledger_Add_eq (g : Nat) (k n : Int) (w : World) (K : Value → World → Prop) : fw Tryz.prog Tryz.f45 (annL []) (ordL []) [.pointer (some ⟨g, 0, none⟩), .int .u64 k, .int .i64 n] w K = ledger_Ledger_Add_m g k n w K := by kernel_rfl
theorem ledger_Ledger_Add_go (g : Nat) (k n : Int) {w : World} {K : Value → World → Prop} (h : ledger_Ledger_Add_m g k n w K) : Rets Tryz.prog 45 #[.pointer (some ⟨g, 0, none⟩), .int .u64 k, .int .i64 n] w K :=
  calls_of_fw plain mixed Tryz.func45 (by kernel_rfl) (by rw [ledger_Ledger_Add_eq]; exact h)
def ledger_Ledger_Drop_m (g : Nat) (k : Int) (w : World) (K : Value → World → Prop) : Prop :=
  Rets Tryz.prog (18 : Nat) { toList := [Value.pointer (some { block := g, off := (0 : Nat) }), Value.int IntKind.u64 k] }
  w fun (v1 : Value) (w1 : World) =>
  ∃ (n1 : Int),
  ∃ (b1 : Bool),
  v1 = Value.tuple { toList := [Value.int IntKind.i64 n1, Value.bool b1] } ∧
  ((!b1) = true → K (Value.tuple { toList := [Value.int IntKind.i64 (0 : Int), Value.bool false] }) w1) ∧
  ((!b1) = false →
  Rets Tryz.prog (69 : Nat)
  {
  toList :=
  [Value.pointer (some { block := g, off := (0 : Nat) }), Value.int IntKind.i64 n1, Value.int IntKind.i64 (0 : Int)] }
  w1 fun (v2 : Value) (w2 : World) =>
  ∃ (b2 : Bool),
  v2 = Value.bool b2 ∧
  ∃ (q1 : Option Addr),
  cellAt w2 (Addr.add { block := g, off := (0 : Nat) } (0 : Nat)) (Value.pointer q1) ∧
  Rets Tryz.prog (77 : Nat) { toList := [Value.pointer q1, Value.int IntKind.u64 k] } w2 fun (v3 : Value) (w3 : World) =>
  ∃ (q2 : Option Addr),
  v3 = Value.pointer q2 ∧
  StoreR (Addr.add { block := g, off := (0 : Nat) } (0 : Nat)) [Value.pointer q2] w3 fun (w4 : World) =>
  K (Value.tuple { toList := [Value.int IntKind.i64 n1, Value.bool true] }) w4)
theorem ledger_Ledger_Drop_eq (g : Nat) (k : Int) (w : World) (K : Value → World → Prop) : fw Tryz.prog Tryz.f53 (annL []) (ordL []) [.pointer (some ⟨g, 0, none⟩), .int .u64 k] w K = ledger_Ledger_Drop_m g k w K := by kernel_rfl
theorem ledger_Ledger_Drop_go (g : Nat) (k : Int) {w : World} {K : Value → World → Prop} (h : ledger_Ledger_Drop_m g k w K) : Rets Tryz.prog 53 #[.pointer (some ⟨g, 0, none⟩), .int .u64 k] w K :=
  calls_of_fw plain mixed Tryz.func53 (by kernel_rfl) (by rw [ledger_Ledger_Drop_eq]; exact h)
def ledger_Ledger_Used_m (g : Nat) (w : World) (K : Value → World → Prop) : Prop :=
  (false = true → K (Value.int IntKind.i64 (0 : Int)) w) ∧
  (false = false →
  ∃ (n1 : Int),
  cellAt w (Addr.add { block := g, off := (0 : Nat) } (1 : Nat)) (Value.int IntKind.i64 n1) ∧
  K (Value.int IntKind.i64 n1) w)
theorem ledger_Ledger_Used_eq (g : Nat) (w : World) (K : Value → World → Prop) : fw Tryz.prog Tryz.f14 (annL []) (ordL []) [.pointer (some ⟨g, 0, none⟩)] w K = ledger_Ledger_Used_m g w K := by kernel_rfl
theorem ledger_Ledger_Used_go (g : Nat) {w : World} {K : Value → World → Prop} (h : ledger_Ledger_Used_m g w K) : Rets Tryz.prog 14 #[.pointer (some ⟨g, 0, none⟩)] w K :=
  calls_of_fw plain mixed Tryz.func14 (by kernel_rfl) (by rw [ledger_Ledger_Used_eq]; exact h)
def ledger_Ledger_Most_m (g : Nat) (w : World) (K : Value → World → Prop) : Prop :=
  (false = true → K (Value.int IntKind.i64 (0 : Int)) w) ∧
  (false = false →
  ∃ (n1 : Int),
  cellAt w (Addr.add { block := g, off := (0 : Nat) } (2 : Nat)) (Value.int IntKind.i64 n1) ∧
  K (Value.int IntKind.i64 n1) w)
theorem ledger_Ledger_Most_eq (g : Nat) (w : World) (K : Value → World → Prop) : fw Tryz.prog Tryz.f16 (annL []) (ordL []) [.pointer (some ⟨g, 0, none⟩)] w K = ledger_Ledger_Most_m g w K := by kernel_rfl
theorem ledger_Ledger_Most_go (g : Nat) {w : World} {K : Value → World → Prop} (h : ledger_Ledger_Most_m g w K) : Rets Tryz.prog 16 #[.pointer (some ⟨g, 0, none⟩)] w K :=
  calls_of_fw plain mixed Tryz.func16 (by kernel_rfl) (by rw [ledger_Ledger_Most_eq]; exact h)
def ledger_Ledger_Room_m (g : Nat) (w : World) (K : Value → World → Prop) : Prop :=
  Rets Tryz.prog (16 : Nat) { toList := [Value.pointer (some { block := g, off := (0 : Nat) })] } w
  fun (v1 : Value) (w1 : World) =>
  ∃ (n1 : Int),
  v1 = Value.int IntKind.i64 n1 ∧
  Rets Tryz.prog (14 : Nat) { toList := [Value.pointer (some { block := g, off := (0 : Nat) })] } w1
  fun (v2 : Value) (w2 : World) =>
  ∃ (n2 : Int),
  v2 = Value.int IntKind.i64 n2 ∧
  Rets Tryz.prog (95 : Nat) { toList := [Value.int IntKind.i64 n1, Value.int IntKind.i64 n2] } w2
  fun (v3 : Value) (w3 : World) =>
  ∃ (n3 : Int),
  ∃ (b1 : Bool),
  v3 = Value.tuple { toList := [Value.int IntKind.i64 n3, Value.bool b1] } ∧ K (Value.int IntKind.i64 n3) w3
theorem ledger_Ledger_Room_eq (g : Nat) (w : World) (K : Value → World → Prop) : fw Tryz.prog Tryz.f68 (annL []) (ordL []) [.pointer (some ⟨g, 0, none⟩)] w K = ledger_Ledger_Room_m g w K := by kernel_rfl
theorem ledger_Ledger_Room_go (g : Nat) {w : World} {K : Value → World → Prop} (h : ledger_Ledger_Room_m g w K) : Rets Tryz.prog 68 #[.pointer (some ⟨g, 0, none⟩)] w K :=
  calls_of_fw plain mixed Tryz.func68 (by kernel_rfl) (by rw [ledger_Ledger_Room_eq]; exact h)
def ledger_Ledger_Limit_m (g : Nat) (n : Int) (w : World) (K : Value → World → Prop) : Prop :=
  (false = false →
  Rets Tryz.prog (43 : Nat) { toList := [Value.int IntKind.i64 n] } w fun (v1 : Value) (w1 : World) =>
  ∃ (b1 : Bool),
  v1 = Value.bool b1 ∧
  ((!b1) = false →
  ∃ (n1 : Int),
  cellAt w1 (Addr.add { block := g, off := (0 : Nat) } (1 : Nat)) (Value.int IntKind.i64 n1) ∧
  (decide (n < n1) = true → K (Value.bool false) w1) ∧
  (decide (n < n1) = false →
  StoreR (Addr.add { block := g, off := (0 : Nat) } (2 : Nat)) [Value.int IntKind.i64 n] w1 fun (w2 : World) =>
  K (Value.bool true) w2)) ∧
  ((!b1) = true → K (Value.bool false) w1)) ∧
  (false = true → K (Value.bool false) w)
theorem ledger_Ledger_Limit_eq (g : Nat) (n : Int) (w : World) (K : Value → World → Prop) : fw Tryz.prog Tryz.f59 (annL []) (ordL []) [.pointer (some ⟨g, 0, none⟩), .int .i64 n] w K = ledger_Ledger_Limit_m g n w K := by kernel_rfl
theorem ledger_Ledger_Limit_go (g : Nat) (n : Int) {w : World} {K : Value → World → Prop} (h : ledger_Ledger_Limit_m g n w K) : Rets Tryz.prog 59 #[.pointer (some ⟨g, 0, none⟩), .int .i64 n] w K :=
  calls_of_fw plain mixed Tryz.func59 (by kernel_rfl) (by rw [ledger_Ledger_Limit_eq]; exact h)
def ledger_Ledger_Len_m (g : Nat) (w : World) (K : Value → World → Prop) : Prop :=
  (false = true → K (Value.int IntKind.i64 (0 : Int)) w) ∧
  (false = false →
  ∃ (q1 : Option Addr),
  cellAt w (Addr.add { block := g, off := (0 : Nat) } (0 : Nat)) (Value.pointer q1) ∧
  Rets Tryz.prog (41 : Nat) { toList := [Value.pointer q1] } w fun (v1 : Value) (w1 : World) =>
  ∃ (n1 : Int), v1 = Value.int IntKind.i64 n1 ∧ K (Value.int IntKind.i64 n1) w1)
theorem ledger_Ledger_Len_eq (g : Nat) (w : World) (K : Value → World → Prop) : fw Tryz.prog Tryz.f17 (annL []) (ordL []) [.pointer (some ⟨g, 0, none⟩)] w K = ledger_Ledger_Len_m g w K := by kernel_rfl
theorem ledger_Ledger_Len_go (g : Nat) {w : World} {K : Value → World → Prop} (h : ledger_Ledger_Len_m g w K) : Rets Tryz.prog 17 #[.pointer (some ⟨g, 0, none⟩)] w K :=
  calls_of_fw plain mixed Tryz.func17 (by kernel_rfl) (by rw [ledger_Ledger_Len_eq]; exact h)
def ledger_Ledger_At_m (g : Nat) (i : Int) (w : World) (K : Value → World → Prop) : Prop :=
  (false = true → K (Value.tuple { toList := [Value.int IntKind.u64 (0 : Int), Value.bool false] }) w) ∧
  (false = false →
  ∃ (q1 : Option Addr),
  cellAt w (Addr.add { block := g, off := (0 : Nat) } (0 : Nat)) (Value.pointer q1) ∧
  Rets Tryz.prog (139 : Nat) { toList := [Value.pointer q1, Value.int IntKind.i64 i] } w fun (v1 : Value) (w1 : World) =>
  ∃ (n1 : Int),
  ∃ (n2 : Int),
  ∃ (b1 : Bool),
  v1 = Value.tuple { toList := [Value.int IntKind.u64 n1, Value.int IntKind.i64 n2, Value.bool b1] } ∧
  K (Value.tuple { toList := [Value.int IntKind.u64 n1, Value.bool b1] }) w1)
theorem ledger_Ledger_At_eq (g : Nat) (i : Int) (w : World) (K : Value → World → Prop) : fw Tryz.prog Tryz.f129 (annL []) (ordL []) [.pointer (some ⟨g, 0, none⟩), .int .i64 i] w K = ledger_Ledger_At_m g i w K := by kernel_rfl
theorem ledger_Ledger_At_go (g : Nat) (i : Int) {w : World} {K : Value → World → Prop} (h : ledger_Ledger_At_m g i w K) : Rets Tryz.prog 129 #[.pointer (some ⟨g, 0, none⟩), .int .i64 i] w K :=
  calls_of_fw plain mixed Tryz.func129 (by kernel_rfl) (by rw [ledger_Ledger_At_eq]; exact h)
def ledger_Ledger_Clear_m (g : Nat) (w : World) (K : Value → World → Prop) : Prop :=
  (true = true →
  Rets Tryz.prog (48 : Nat) { toList := [] } w fun (v1 : Value) (w1 : World) =>
  ∃ (q1 : Option Addr),
  v1 = Value.pointer q1 ∧
  StoreR (Addr.add { block := g, off := (0 : Nat) } (0 : Nat)) [Value.pointer q1] w1 fun (w2 : World) =>
  StoreR (Addr.add { block := g, off := (0 : Nat) } (1 : Nat)) [Value.int IntKind.i64 (0 : Int)] w2 fun (w3 : World) =>
  K (Value.tuple { toList := [] }) w3) ∧
  (true = false → K (Value.tuple { toList := [] }) w)
theorem ledger_Ledger_Clear_eq (g : Nat) (w : World) (K : Value → World → Prop) : fw Tryz.prog Tryz.f60 (annL []) (ordL []) [.pointer (some ⟨g, 0, none⟩)] w K = ledger_Ledger_Clear_m g w K := by kernel_rfl
theorem ledger_Ledger_Clear_go (g : Nat) {w : World} {K : Value → World → Prop} (h : ledger_Ledger_Clear_m g w K) : Rets Tryz.prog 60 #[.pointer (some ⟨g, 0, none⟩)] w K :=
  calls_of_fw plain mixed Tryz.func60 (by kernel_rfl) (by rw [ledger_Ledger_Clear_eq]; exact h)
end Go.Proofs.YtggflkjdgcdcmaaGreatDoor.Eng
