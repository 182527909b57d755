/- What the code of these functions asks for: printed by a program of this session's (gens.py) out of the seat's own functions; the kernel checks each row. -/
import Derived.Test.YtajckpjlliiekaaDoorEngH
import Derived.Test.YtajckpjlliiekaaDoorProg
import Derived.Test.YtajckpjlliiekaaDoorBase
namespace Go.Proofs.YtajckpjlliiekaaDoor.Eng
open Go Go.Proofs
set_option linter.unusedVariables false
set_option maxRecDepth 1000000
def policy_Policy_Update_m (g : Nat) (k n : Int) (d : Option Addr) (w : World) (K : Value → World → Prop) : Prop :=
  ∃ (h1 : List Value → World → Prop),
  ((false = false →
  Rets Tryd.prog (50 : Nat) { toList := [Value.int IntKind.i64 n] } w fun (v1 : Value) (w1 : World) =>
  ∃ (b1 : Bool), v1 = Value.bool b1 ∧ h1 [Value.bool !b1] w1) ∧
  (false = true → h1 [Value.bool true] w)) ∧
  ∀ (w2 : World) (v2 v3 v4 v5 v6 v7 : Value) (b2 : Bool),
  h1 [Value.bool b2] w2 →
  (b2 = true → K (Value.tuple { toList := [Value.slice none (0 : Nat) (0 : Nat), Value.bool false] }) w2) ∧
  (b2 = false →
  ∃ (q1 : Option Addr),
  cellAt w2 (Addr.add { block := g, off := (0 : Nat) } (1 : Nat)) (Value.pointer q1) ∧
  Rets Tryd.prog (55 : Nat) { toList := [Value.pointer q1, Value.int IntKind.u64 k] } w2 fun (v8 : Value) (w3 : World) =>
  ∃ (n1 : Int),
  ∃ (b3 : Bool),
  v8 = Value.tuple { toList := [Value.int IntKind.i64 n1, Value.bool b3] } ∧
  ((!b3) = true → K (Value.tuple { toList := [Value.slice none (0 : Nat) (0 : Nat), Value.bool false] }) w3) ∧
  ((!b3) = false →
  ∃ (q2 : Option Addr),
  cellAt w3 (Addr.add { block := g, off := (0 : Nat) } (1 : Nat)) (Value.pointer q2) ∧
  Rets Tryd.prog (30 : Nat) { toList := [Value.pointer q2] } w3 fun (v9 : Value) (w4 : World) =>
  ∃ (n2 : Int),
  v9 = Value.int IntKind.i64 n2 ∧
  (decide (n > n2) = true →
  NewR (73 : Nat) [Value.int IntKind.u64 k, Value.int IntKind.i64 n1] w4 fun (a1 : Addr) (w5 : World) =>
  K (Value.tuple { toList := [Value.slice (some a1) (1 : Nat) (1 : Nat), Value.bool false] }) w5) ∧
  (decide (n > n2) = false →
  NewR (99 : Nat)
  [Value.pointer (some { block := g, off := (0 : Nat) }), Value.pointer d, Value.slice none (0 : Nat) (0 : Nat),
  Value.slice none (0 : Nat) (0 : Nat)]
  w4 fun (a2 : Addr) (w6 : World) =>
  Rets Tryd.prog (51 : Nat)
  { toList := [Value.pointer (some a2), Value.int IntKind.i64 n, Value.int IntKind.i64 (1024 : Int)] } w6
  fun (v10 : Value) (w7 : World) =>
  ∃ (b4 : Bool),
  v10 = Value.bool b4 ∧
  Drw w7 fun (w8 : World) =>
  ∃ (h2 : World → Prop),
  h2 w8 ∧
  ∃ (q3 : Option Addr),
  ∃ (k1 : Nat),
  ∃ (k2 : Nat),
  (∀ (w9 : World), h2 w9 → World.cell? w9 (Addr.add a2 (3 : Nat)) = some (Value.slice q3 k1 k2)) ∧
  ∃ (q4 : Option Addr),
  (∀ (w10 : World),
  h2 w10 → World.cell? w10 (Addr.add { block := g, off := (0 : Nat) } (1 : Nat)) = some (Value.pointer q4)) ∧
  Rets Tryd.prog (41 : Nat) { toList := [Value.pointer q4, Value.int IntKind.u64 k, Value.int IntKind.i64 n] } w8
  fun (v11 : Value) (w11 : World) =>
  ∃ (b5 : Bool), v11 = Value.bool b5 ∧ h2 w11 ∧ K (Value.tuple { toList := [Value.slice q3 k1 k2, Value.bool b5] }) w11)))
theorem policy_Policy_Update_eq (g : Nat) (k n : Int) (d : Option Addr) (w : World) (K : Value → World → Prop) : fw Tryd.prog Tryd.f31 (annL []) (ordL [(2000001, [(13, 0), (14, 0), (15, 0), (16, 0), (17, 0), (18, 0), (19, 5)]), (10, [(0, 0), (1, 0), (2, 0), (4, 0), (5, 0), (6, 0), (8, 0), (9, 0), (3, 1), (7, 1), (10, 2), (11, 0), (12, 0)])]) [.pointer (some ⟨g, 0, none⟩), .int .u64 k, .int .i64 n, .pointer d] w K = policy_Policy_Update_m g k n d w K := by kernel_rfl
theorem policy_Policy_Update_go (g : Nat) (k n : Int) (d : Option Addr) {w : World} {K : Value → World → Prop} (h : policy_Policy_Update_m g k n d w K) : Rets Tryd.prog 31 #[.pointer (some ⟨g, 0, none⟩), .int .u64 k, .int .i64 n, .pointer d] w K :=
  calls_of_fw plain mixed Tryd.func31 (by kernel_rfl) (by rw [policy_Policy_Update_eq]; exact h)
def policy_Policy_Limit_m (g : Nat) (n : Int) (d : Option Addr) (w : World) (K : Value → World → Prop) : Prop :=
  ∃ (h1 : List Value → World → Prop),
  ((false = false →
  Rets Tryd.prog (50 : Nat) { toList := [Value.int IntKind.i64 n] } w fun (v1 : Value) (w1 : World) =>
  ∃ (b1 : Bool), v1 = Value.bool b1 ∧ h1 [Value.bool !b1] w1) ∧
  (false = true → h1 [Value.bool true] w)) ∧
  ∀ (w2 : World) (v2 v3 v4 v5 v6 v7 : Value) (b2 : Bool),
  h1 [Value.bool b2] w2 →
  (b2 = true → K (Value.tuple { toList := [Value.slice none (0 : Nat) (0 : Nat), Value.bool false] }) w2) ∧
  (b2 = false →
  NewR (99 : Nat)
  [Value.pointer (some { block := g, off := (0 : Nat) }), Value.pointer d, Value.slice none (0 : Nat) (0 : Nat),
  Value.slice none (0 : Nat) (0 : Nat)]
  w2 fun (a1 : Addr) (w3 : World) =>
  ∃ (h2 : Nat → List Value → World → Prop),
  (∃ (k1 : Nat), h2 k1 [] w3) ∧
  ∀ (k2 : Nat) (w4 : World) (v8 v9 v10 v11 v12 v13 v14 v15 v16 v17 v18 : Value),
  h2 k2 [] w4 →
  ∃ (h3 : List Value → World → Prop),
  (∃ (q1 : Option Addr),
  cellAt w4 (Addr.add { block := g, off := (0 : Nat) } (1 : Nat)) (Value.pointer q1) ∧
  Rets Tryd.prog (35 : Nat) { toList := [Value.pointer q1] } w4 fun (v19 : Value) (w5 : World) =>
  ∃ (n1 : Int),
  v19 = Value.int IntKind.i64 n1 ∧
  (decide (n1 > n) = true →
  Rets Tryd.prog (56 : Nat) { toList := [Value.pointer (some a1), Value.int IntKind.i64 (1024 : Int)] } w5
  fun (v20 : Value) (w6 : World) => ∃ (b3 : Bool), v20 = Value.bool b3 ∧ h3 [Value.bool b3] w6) ∧
  (decide (n1 > n) = false → h3 [Value.bool false] w5)) ∧
  ∀ (w7 : World) (v21 v22 v23 v24 v25 v26 v27 v28 v29 v30 : Value) (b4 : Bool),
  h3 [Value.bool b4] w7 →
  (b4 = true → ∃ (k3 : Nat), k3 < k2 ∧ h2 k3 [] w7) ∧
  (b4 = false →
  Drw w7 fun (w8 : World) =>
  ∃ (h4 : World → Prop),
  h4 w8 ∧
  ∃ (q2 : Option Addr),
  ∃ (k4 : Nat),
  ∃ (k5 : Nat),
  (∀ (w9 : World), h4 w9 → World.cell? w9 (Addr.add a1 (3 : Nat)) = some (Value.slice q2 k4 k5)) ∧
  ∃ (q3 : Option Addr),
  (∀ (w10 : World),
  h4 w10 → World.cell? w10 (Addr.add { block := g, off := (0 : Nat) } (1 : Nat)) = some (Value.pointer q3)) ∧
  Rets Tryd.prog (57 : Nat) { toList := [Value.pointer q3, Value.int IntKind.i64 n] } w8
  fun (v31 : Value) (w11 : World) =>
  ∃ (b5 : Bool), v31 = Value.bool b5 ∧ h4 w11 ∧ K (Value.tuple { toList := [Value.slice q2 k4 k5, Value.bool b5] }) w11))
theorem policy_Policy_Limit_eq (g : Nat) (n : Int) (d : Option Addr) (w : World) (K : Value → World → Prop) : fw Tryd.prog Tryd.f32 (annL [(2, [(20, none), (21, none), (22, none), (23, none), (24, none), (25, none), (26, none), (27, none), (28, none), (29, none), (30, none)])]) (ordL [(2000001, [(9, 0), (10, 0), (11, 0), (12, 0), (13, 0), (14, 0), (15, 5)]), (2000004, [(20, 0), (21, 0), (22, 0), (23, 0), (24, 0), (25, 0), (26, 0), (27, 0), (28, 0), (29, 0), (30, 5)]), (5, [(0, 0), (1, 0), (2, 0), (4, 0), (5, 0), (6, 0), (8, 0), (3, 1), (7, 1), (9, 2), (10, 0), (11, 0)])]) [.pointer (some ⟨g, 0, none⟩), .int .i64 n, .pointer d] w K = policy_Policy_Limit_m g n d w K := by kernel_rfl
theorem policy_Policy_Limit_go (g : Nat) (n : Int) (d : Option Addr) {w : World} {K : Value → World → Prop} (h : policy_Policy_Limit_m g n d w K) : Rets Tryd.prog 32 #[.pointer (some ⟨g, 0, none⟩), .int .i64 n, .pointer d] w K :=
  calls_of_fw plain mixed Tryd.func32 (by kernel_rfl) (by rw [policy_Policy_Limit_eq]; exact h)
def policy_nil_Push_m (q : Option Addr) (l c : Nat) (w : World) (K : Value → World → Prop) : Prop :=
  Rets Tryd.prog (39 : Nat) { toList := [Value.pointer none] } w fun (v1 : Value) (w1 : World) =>
  ∃ (q1 : Option Addr),
  v1 = Value.pointer q1 ∧
  Rets Tryd.prog (52 : Nat) { toList := [Value.pointer q1, Value.slice q l c] } w1 fun (v2 : Value) (w2 : World) =>
  v2 = Value.tuple { toList := [] } ∧ K (Value.tuple { toList := [] }) w2
theorem policy_nil_Push_eq (q : Option Addr) (l c : Nat) (w : World) (K : Value → World → Prop) : fw Tryd.prog Tryd.f25 (annL []) (ordL []) [.pointer none, .slice q l c] w K = policy_nil_Push_m q l c w K := by kernel_rfl
theorem policy_nil_Push_go (q : Option Addr) (l c : Nat) {w : World} {K : Value → World → Prop} (h : policy_nil_Push_m q l c w K) : Rets Tryd.prog 25 #[.pointer none, .slice q l c] w K :=
  calls_of_fw plain mixed Tryd.func25 (by kernel_rfl) (by rw [policy_nil_Push_eq]; exact h)
def policy_nil_Clear_m  (w : World) (K : Value → World → Prop) : Prop :=
  Rets Tryd.prog (26 : Nat) { toList := [Value.pointer none] } w fun (v1 : Value) (w1 : World) =>
  ∃ (q1 : Option Addr),
  v1 = Value.pointer q1 ∧
  Rets Tryd.prog (58 : Nat) { toList := [Value.pointer q1] } w1 fun (v2 : Value) (w2 : World) =>
  v2 = Value.tuple { toList := [] } ∧
  Rets Tryd.prog (39 : Nat) { toList := [Value.pointer none] } w2 fun (v3 : Value) (w3 : World) =>
  ∃ (q2 : Option Addr),
  v3 = Value.pointer q2 ∧
  Rets Tryd.prog (59 : Nat) { toList := [Value.pointer q2] } w3 fun (v4 : Value) (w4 : World) =>
  v4 = Value.tuple { toList := [] } ∧ K (Value.tuple { toList := [] }) w4
theorem policy_nil_Clear_eq  (w : World) (K : Value → World → Prop) : fw Tryd.prog Tryd.f37 (annL []) (ordL []) [.pointer none] w K = policy_nil_Clear_m  w K := by kernel_rfl
theorem policy_nil_Clear_go  {w : World} {K : Value → World → Prop} (h : policy_nil_Clear_m  w K) : Rets Tryd.prog 37 #[.pointer none] w K :=
  calls_of_fw plain mixed Tryd.func37 (by kernel_rfl) (by rw [policy_nil_Clear_eq]; exact h)
def policy_nil_Add_m (k n : Int) (d : Option Addr) (w : World) (K : Value → World → Prop) : Prop :=
  ∃ (h1 : List Value → World → Prop),
  ((true = false →
  Rets Tryd.prog (50 : Nat) { toList := [Value.int IntKind.i64 n] } w fun (v1 : Value) (w1 : World) =>
  ∃ (b1 : Bool), v1 = Value.bool b1 ∧ ((!b1) = false → False) ∧ ((!b1) = true → h1 [Value.bool true] w1)) ∧
  (true = true → h1 [Value.bool true] w)) ∧
  ∀ (w2 : World) (v2 v3 v4 v5 v6 v7 v8 v9 v10 v11 v12 v13 v14 v15 v16 : Value) (b2 : Bool),
  h1 [Value.bool b2] w2 →
  (b2 = true → K (Value.tuple { toList := [Value.slice none (0 : Nat) (0 : Nat), Value.bool false] }) w2) ∧
  (b2 = false → False)
theorem policy_nil_Add_eq (k n : Int) (d : Option Addr) (w : World) (K : Value → World → Prop) : fw Tryd.prog Tryd.f24 (annL []) (ordL [(2000001, [(13, 0), (14, 0), (15, 0), (16, 0), (17, 0), (18, 0), (19, 0), (20, 0), (21, 0), (22, 0), (23, 0), (24, 0), (25, 0), (26, 0), (27, 0), (28, 5)]), (9, [(0, 0), (1, 0), (2, 0), (4, 0), (5, 0), (6, 0), (8, 0), (9, 0), (3, 1), (7, 1), (10, 2), (11, 0), (12, 0)])]) [.pointer none, .int .u64 k, .int .i64 n, .pointer d] w K = policy_nil_Add_m k n d w K := by kernel_rfl
theorem policy_nil_Add_go (k n : Int) (d : Option Addr) {w : World} {K : Value → World → Prop} (h : policy_nil_Add_m k n d w K) : Rets Tryd.prog 24 #[.pointer none, .int .u64 k, .int .i64 n, .pointer d] w K :=
  calls_of_fw plain mixed Tryd.func24 (by kernel_rfl) (by rw [policy_nil_Add_eq]; exact h)
def policy_nil_Update_m (k n : Int) (d : Option Addr) (w : World) (K : Value → World → Prop) : Prop :=
  ∃ (h1 : List Value → World → Prop),
  ((true = false →
  Rets Tryd.prog (50 : Nat) { toList := [Value.int IntKind.i64 n] } w fun (v1 : Value) (w1 : World) =>
  ∃ (b1 : Bool), v1 = Value.bool b1 ∧ h1 [Value.bool !b1] w1) ∧
  (true = true → h1 [Value.bool true] w)) ∧
  ∀ (w2 : World) (v2 v3 v4 v5 v6 v7 : Value) (b2 : Bool),
  h1 [Value.bool b2] w2 →
  (b2 = true → K (Value.tuple { toList := [Value.slice none (0 : Nat) (0 : Nat), Value.bool false] }) w2) ∧
  (b2 = false → False)
theorem policy_nil_Update_eq (k n : Int) (d : Option Addr) (w : World) (K : Value → World → Prop) : fw Tryd.prog Tryd.f31 (annL []) (ordL [(2000001, [(13, 0), (14, 0), (15, 0), (16, 0), (17, 0), (18, 0), (19, 5)]), (10, [(0, 0), (1, 0), (2, 0), (4, 0), (5, 0), (6, 0), (8, 0), (9, 0), (3, 1), (7, 1), (10, 2), (11, 0), (12, 0)])]) [.pointer none, .int .u64 k, .int .i64 n, .pointer d] w K = policy_nil_Update_m k n d w K := by kernel_rfl
theorem policy_nil_Update_go (k n : Int) (d : Option Addr) {w : World} {K : Value → World → Prop} (h : policy_nil_Update_m k n d w K) : Rets Tryd.prog 31 #[.pointer none, .int .u64 k, .int .i64 n, .pointer d] w K :=
  calls_of_fw plain mixed Tryd.func31 (by kernel_rfl) (by rw [policy_nil_Update_eq]; exact h)
def policy_nil_Limit_m (n : Int) (d : Option Addr) (w : World) (K : Value → World → Prop) : Prop :=
  ∃ (h1 : List Value → World → Prop),
  ((true = false →
  Rets Tryd.prog (50 : Nat) { toList := [Value.int IntKind.i64 n] } w fun (v1 : Value) (w1 : World) =>
  ∃ (b1 : Bool), v1 = Value.bool b1 ∧ h1 [Value.bool !b1] w1) ∧
  (true = true → h1 [Value.bool true] w)) ∧
  ∀ (w2 : World) (v2 v3 v4 v5 v6 v7 : Value) (b2 : Bool),
  h1 [Value.bool b2] w2 →
  (b2 = true → K (Value.tuple { toList := [Value.slice none (0 : Nat) (0 : Nat), Value.bool false] }) w2) ∧
  (b2 = false →
  NewR (99 : Nat)
  [Value.pointer none, Value.pointer d, Value.slice none (0 : Nat) (0 : Nat), Value.slice none (0 : Nat) (0 : Nat)] w2
  fun (a1 : Addr) (w3 : World) =>
  ∃ (h2 : Nat → List Value → World → Prop),
  (∃ (k1 : Nat), h2 k1 [] w3) ∧
  ∀ (k2 : Nat) (w4 : World) (v8 v9 v10 v11 v12 v13 v14 v15 v16 v17 v18 : Value), h2 k2 [] w4 → False)
theorem policy_nil_Limit_eq (n : Int) (d : Option Addr) (w : World) (K : Value → World → Prop) : fw Tryd.prog Tryd.f32 (annL [(2, [(20, none), (21, none), (22, none), (23, none), (24, none), (25, none), (26, none), (27, none), (28, none), (29, none), (30, none)])]) (ordL [(2000001, [(9, 0), (10, 0), (11, 0), (12, 0), (13, 0), (14, 0), (15, 5)]), (5, [(0, 0), (1, 0), (2, 0), (4, 0), (5, 0), (6, 0), (8, 0), (3, 1), (7, 1), (9, 2), (10, 0), (11, 0)])]) [.pointer none, .int .i64 n, .pointer d] w K = policy_nil_Limit_m n d w K := by kernel_rfl
theorem policy_nil_Limit_go (n : Int) (d : Option Addr) {w : World} {K : Value → World → Prop} (h : policy_nil_Limit_m n d w K) : Rets Tryd.prog 32 #[.pointer none, .int .i64 n, .pointer d] w K :=
  calls_of_fw plain mixed Tryd.func32 (by kernel_rfl) (by rw [policy_nil_Limit_eq]; exact h)
def policy_nil_Del_m (k : Int) (w : World) (K : Value → World → Prop) : Prop :=
  Rets Tryd.prog (26 : Nat) { toList := [Value.pointer none] } w fun (v1 : Value) (w1 : World) =>
  ∃ (q1 : Option Addr),
  v1 = Value.pointer q1 ∧
  Rets Tryd.prog (55 : Nat) { toList := [Value.pointer q1, Value.int IntKind.u64 k] } w1 fun (v2 : Value) (w2 : World) =>
  ∃ (n1 : Int),
  ∃ (b1 : Bool),
  v2 = Value.tuple { toList := [Value.int IntKind.i64 n1, Value.bool b1] } ∧
  K (Value.tuple { toList := [Value.int IntKind.i64 n1, Value.bool b1] }) w2
theorem policy_nil_Del_eq (k : Int) (w : World) (K : Value → World → Prop) : fw Tryd.prog Tryd.f38 (annL []) (ordL []) [.pointer none, .int .u64 k] w K = policy_nil_Del_m k w K := by kernel_rfl
theorem policy_nil_Del_go (k : Int) {w : World} {K : Value → World → Prop} (h : policy_nil_Del_m k w K) : Rets Tryd.prog 38 #[.pointer none, .int .u64 k] w K :=
  calls_of_fw plain mixed Tryd.func38 (by kernel_rfl) (by rw [policy_nil_Del_eq]; exact h)
def policy_nil_Estimate_m (x : Int) (w : World) (K : Value → World → Prop) : Prop :=
  Rets Tryd.prog (39 : Nat) { toList := [Value.pointer none] } w fun (v1 : Value) (w1 : World) =>
  ∃ (q1 : Option Addr),
  v1 = Value.pointer q1 ∧
  Rets Tryd.prog (53 : Nat) { toList := [Value.pointer q1, Value.int IntKind.u64 x] } w1 fun (v2 : Value) (w2 : World) =>
  ∃ (n1 : Int), v2 = Value.int IntKind.i64 n1 ∧ K (Value.int IntKind.i64 n1) w2
theorem policy_nil_Estimate_eq (x : Int) (w : World) (K : Value → World → Prop) : fw Tryd.prog Tryd.f27 (annL []) (ordL []) [.pointer none, .int .u64 x] w K = policy_nil_Estimate_m x w K := by kernel_rfl
theorem policy_nil_Estimate_go (x : Int) {w : World} {K : Value → World → Prop} (h : policy_nil_Estimate_m x w K) : Rets Tryd.prog 27 #[.pointer none, .int .u64 x] w K :=
  calls_of_fw plain mixed Tryd.func27 (by kernel_rfl) (by rw [policy_nil_Estimate_eq]; exact h)
def policy_nil_Ledger_m  (w : World) (K : Value → World → Prop) : Prop :=
  (true = true → K (Value.pointer none) w) ∧ (true = false → False)
theorem policy_nil_Ledger_eq  (w : World) (K : Value → World → Prop) : fw Tryd.prog Tryd.f26 (annL []) (ordL []) [.pointer none] w K = policy_nil_Ledger_m  w K := by kernel_rfl
theorem policy_nil_Ledger_go  {w : World} {K : Value → World → Prop} (h : policy_nil_Ledger_m  w K) : Rets Tryd.prog 26 #[.pointer none] w K :=
  calls_of_fw plain mixed Tryd.func26 (by kernel_rfl) (by rw [policy_nil_Ledger_eq]; exact h)
def policy_nil_Tiny_m  (w : World) (K : Value → World → Prop) : Prop :=
  (true = true → K (Value.pointer none) w) ∧ (true = false → False)
theorem policy_nil_Tiny_eq  (w : World) (K : Value → World → Prop) : fw Tryd.prog Tryd.f39 (annL []) (ordL []) [.pointer none] w K = policy_nil_Tiny_m  w K := by kernel_rfl
theorem policy_nil_Tiny_go  {w : World} {K : Value → World → Prop} (h : policy_nil_Tiny_m  w K) : Rets Tryd.prog 39 #[.pointer none] w K :=
  calls_of_fw plain mixed Tryd.func39 (by kernel_rfl) (by rw [policy_nil_Tiny_eq]; exact h)
def cortadolaw26_few_m (q : Option Addr) (l c : Nat) (w : World) (K : Value → World → Prop) : Prop :=
  K (Value.bool (decide ((↑l : Int) ≤ (30 : Int)))) w
theorem cortadolaw26_few_eq (q : Option Addr) (l c : Nat) (w : World) (K : Value → World → Prop) : fw Tryd.prog Tryd.f29 (annL []) (ordL []) [.slice q l c] w K = cortadolaw26_few_m q l c w K := by kernel_rfl
theorem cortadolaw26_few_go (q : Option Addr) (l c : Nat) {w : World} {K : Value → World → Prop} (h : cortadolaw26_few_m q l c w K) : Rets Tryd.prog 29 #[.slice q l c] w K :=
  calls_of_fw plain mixed Tryd.func29 (by kernel_rfl) (by rw [cortadolaw26_few_eq]; exact h)
end Go.Proofs.YtajckpjlliiekaaDoor.Eng
