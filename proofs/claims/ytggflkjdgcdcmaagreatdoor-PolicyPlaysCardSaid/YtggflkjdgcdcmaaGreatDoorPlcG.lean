/- What the code of these functions asks for: printed by a program of this session's (gens.py) out of the seat's own functions; the kernel checks each row. -/
import Derived.Test.YtggflkjdgcdcmaaGreatDoorEngH
import Derived.Test.YtggflkjdgcdcmaaGreatDoorProg
import Derived.Test.YtggflkjdgcdcmaaGreatDoorBase
namespace Go.Proofs.YtggflkjdgcdcmaaGreatDoor.Eng
open Go Go.Proofs
set_option linter.unusedVariables false
set_option maxRecDepth 1000000
def least_est_m (q : Option Addr) (l c : Nat) (t : Nat) (w : World) (K : Value → World → Prop) : Prop :=
  (false = false →
  (((↑l : Int) == (0 : Int)) = true →
  K (Value.tuple { toList := [Value.int IntKind.i64 (0 : Int), Value.int IntKind.i64 (0 : Int), Value.bool false] }) w) ∧
  (((↑l : Int) == (0 : Int)) = false →
  (0 : Int) ≤ (0 : Int) ∧
  (0 : Int) < (↑l : Int) ∧
  someR q fun (a1 : Addr) =>
  ∃ (n1 : Int),
  cellAt w (Addr.add a1 (0 : Nat)) (Value.int IntKind.u64 n1) ∧
  Rets Tryz.prog (38 : Nat)
  { toList := [Value.pointer (some { block := t, off := (0 : Nat) }), Value.int IntKind.u64 n1] } w
  fun (v1 : Value) (w1 : World) =>
  ∃ (n2 : Int),
  v1 = Value.int IntKind.i64 n2 ∧
  ∃ (h1 : Nat → List Value → World → Prop),
  (∃ (k1 : Nat), h1 k1 [Value.int IntKind.i64 (0 : Int), Value.int IntKind.i64 n2, Value.int IntKind.i64 (0 : Int)] w1) ∧
  ∀ (k2 : Nat) (w2 : World) (n3 n4 : Int) (v2 v3 v4 : Value) (n5 : Int)
  (v5 v6 v7 v8 v9 v10 v11 v12 v13 v14 v15 v16 v17 : Value),
  h1 k2 [Value.int IntKind.i64 n3, Value.int IntKind.i64 n4, Value.int IntKind.i64 n5] w2 →
  (decide (n5 < (↑l : Int)) = true →
  (0 : Int) ≤ n5 ∧
  n5 < (↑l : Int) ∧
  someR q fun (a2 : Addr) =>
  ∃ (n6 : Int),
  cellAt w2 (Addr.add a2 (Int.toNat n5 * (1 : Nat))) (Value.int IntKind.u64 n6) ∧
  Rets Tryz.prog (38 : Nat)
  { toList := [Value.pointer (some { block := t, off := (0 : Nat) }), Value.int IntKind.u64 n6] } w2
  fun (v18 : Value) (w3 : World) =>
  ∃ (n7 : Int),
  v18 = Value.int IntKind.i64 n7 ∧
  ∃ (h2 : List Value → World → Prop),
  ((decide (n7 < n4) = true → h2 [Value.int IntKind.i64 n5, Value.int IntKind.i64 n7] w3) ∧
  (decide (n7 < n4) = false → h2 [Value.int IntKind.i64 n3, Value.int IntKind.i64 n4] w3)) ∧
  ∀ (w4 : World) (n8 n9 : Int) (v19 v20 : Value),
  h2 [Value.int IntKind.i64 n8, Value.int IntKind.i64 n9] w4 →
  ∃ (k3 : Nat),
  k3 < k2 ∧
  h1 k3
  [Value.int IntKind.i64 n8, Value.int IntKind.i64 n9, Value.int IntKind.i64 (IntKind.wrap IntKind.i64 (n5 + (1 : Int)))]
  w4) ∧
  (decide (n5 < (↑l : Int)) = false →
  K (Value.tuple { toList := [Value.int IntKind.i64 n3, Value.int IntKind.i64 n4, Value.bool true] }) w2))) ∧
  (false = true →
  K (Value.tuple { toList := [Value.int IntKind.i64 (0 : Int), Value.int IntKind.i64 (0 : Int), Value.bool false] }) w)
theorem least_est_eq (q : Option Addr) (l c : Nat) (t : Nat) (w : World) (K : Value → World → Prop) : fw Tryz.prog Tryz.f85 (annL [(2, [(4, some 3), (5, some 3), (7, none), (8, none), (9, none), (24, some 3), (25, none), (26, none), (27, none), (28, none), (29, none), (30, none), (31, none), (32, none), (33, none), (34, none), (35, none), (36, none), (37, none)]), (5, [(4, some 3), (5, some 3), (35, none), (36, none)])]) (ordL []) [.slice q l c, .func (.func 38) #[.pointer (some ⟨t, 0, none⟩)] #[]] w K = least_est_m q l c t w K := by kernel_rfl
theorem least_est_go (q : Option Addr) (l c : Nat) (t : Nat) {w : World} {K : Value → World → Prop} (h : least_est_m q l c t w K) : Rets Tryz.prog 85 #[.slice q l c, .func (.func 38) #[.pointer (some ⟨t, 0, none⟩)] #[]] w K :=
  calls_of_fw plain mixed Tryz.func85 (by kernel_rfl) (by rw [least_est_eq]; exact h)
def policy_room_more_m (g : Nat) (n : Int) (w : World) (K : Value → World → Prop) : Prop :=
  Drw w fun (w1 : World) =>
  ∃ (q1 : Option Addr),
  cellAt w1 (Addr.add { block := g, off := (0 : Nat) } (0 : Nat)) (Value.pointer q1) ∧
  someR q1 fun (a1 : Addr) =>
  ∃ (q2 : Option Addr),
  cellAt w1 (Addr.add a1 (1 : Nat)) (Value.pointer q2) ∧
  ∃ (q3 : Option Addr),
  ∃ (k1 : Nat),
  ∃ (k2 : Nat),
  cellAt w1 (Addr.add { block := g, off := (0 : Nat) } (2 : Nat)) (Value.slice q3 k1 k2) ∧
  ∃ (q4 : Option Addr),
  cellAt w1 (Addr.add { block := g, off := (0 : Nat) } (1 : Nat)) (Value.pointer q4) ∧
  Rets Tryz.prog (84 : Nat) { toList := [Value.pointer q2, Value.slice q3 k1 k2, Value.pointer q4] } w1
  fun (v1 : Value) (w2 : World) =>
  ∃ (q5 : Option Addr),
  ∃ (k3 : Nat),
  ∃ (k4 : Nat),
  v1 = Value.slice q5 k3 k4 ∧
  StoreR (Addr.add { block := g, off := (0 : Nat) } (2 : Nat)) [Value.slice q5 k3 k4] w2 fun (w3 : World) =>
  Drw w3 fun (w4 : World) =>
  ∃ (q6 : Option Addr),
  ∃ (k5 : Nat),
  ∃ (k6 : Nat),
  cellAt w4 (Addr.add { block := g, off := (0 : Nat) } (2 : Nat)) (Value.slice q6 k5 k6) ∧
  ∃ (q7 : Option Addr),
  cellAt w4 (Addr.add { block := g, off := (0 : Nat) } (0 : Nat)) (Value.pointer q7) ∧
  someR q7 fun (a2 : Addr) =>
  ∃ (q8 : Option Addr),
  cellAt w4 (Addr.add a2 (0 : Nat)) (Value.pointer q8) ∧
  Rets Tryz.prog (85 : Nat)
  { toList := [Value.slice q6 k5 k6, Value.func (Fn.func (38 : Nat)) { toList := [Value.pointer q8] } { toList := [] }] }
  w4 fun (v2 : Value) (w5 : World) =>
  ∃ (n1 : Int),
  ∃ (n2 : Int),
  ∃ (b1 : Bool),
  v2 = Value.tuple { toList := [Value.int IntKind.i64 n1, Value.int IntKind.i64 n2, Value.bool b1] } ∧
  ∃ (h1 : List Value → World → Prop),
  (((!b1) = false → h1 [Value.bool (decide (n2 > n))] w5) ∧ ((!b1) = true → h1 [Value.bool true] w5)) ∧
  ∀ (w6 : World) (v3 v4 v5 v6 v7 v8 : Value) (b2 : Bool),
  h1 [Value.bool b2] w6 →
  (b2 = true → K (Value.bool false) w6) ∧
  (b2 = false →
  ∃ (q9 : Option Addr),
  ∃ (k7 : Nat),
  ∃ (k8 : Nat),
  cellAt w6 (Addr.add { block := g, off := (0 : Nat) } (2 : Nat)) (Value.slice q9 k7 k8) ∧
  (0 : Int) ≤ n1 ∧
  n1 < (↑k7 : Int) ∧
  someR q9 fun (a3 : Addr) =>
  ∃ (n3 : Int),
  cellAt w6 (Addr.add a3 (Int.toNat n1 * (1 : Nat))) (Value.int IntKind.u64 n3) ∧
  ∃ (q10 : Option Addr),
  cellAt w6 (Addr.add { block := g, off := (0 : Nat) } (0 : Nat)) (Value.pointer q10) ∧
  someR q10 fun (a4 : Addr) =>
  ∃ (q11 : Option Addr),
  cellAt w6 (Addr.add a4 (1 : Nat)) (Value.pointer q11) ∧
  Rets Tryz.prog (53 : Nat) { toList := [Value.pointer q11, Value.int IntKind.u64 n3] } w6
  fun (v9 : Value) (w7 : World) =>
  ∃ (n4 : Int),
  ∃ (b3 : Bool),
  v9 = Value.tuple { toList := [Value.int IntKind.i64 n4, Value.bool b3] } ∧
  ∃ (q12 : Option Addr),
  ∃ (k9 : Nat),
  ∃ (k10 : Nat),
  cellAt w7 (Addr.add { block := g, off := (0 : Nat) } (2 : Nat)) (Value.slice q12 k9 k10) ∧
  Rets Tryz.prog (86 : Nat) { toList := [Value.slice q12 k9 k10, Value.int IntKind.i64 n1] } w7
  fun (v10 : Value) (w8 : World) =>
  ∃ (q13 : Option Addr),
  ∃ (k11 : Nat),
  ∃ (k12 : Nat),
  v10 = Value.slice q13 k11 k12 ∧
  StoreR (Addr.add { block := g, off := (0 : Nat) } (2 : Nat)) [Value.slice q13 k11 k12] w8 fun (w9 : World) =>
  ∃ (q14 : Option Addr),
  ∃ (k13 : Nat),
  ∃ (k14 : Nat),
  cellAt w9 (Addr.add { block := g, off := (0 : Nat) } (3 : Nat)) (Value.slice q14 k13 k14) ∧
  NewR (72 : Nat) [Value.int IntKind.u64 n3, Value.int IntKind.i64 n4] w9 fun (a5 : Addr) (w10 : World) =>
  RunR Tryz.prog
  (builtinV Builtin.append { toList := [(68 : Nat), (68 : Nat)] } (nat_lit 68)
  { toList := [Value.slice q14 k13 k14, Value.slice (some a5) (1 : Nat) (1 : Nat)] })
  w10 fun (v11 : Value) (w11 : World) =>
  ∃ (q15 : Option Addr),
  ∃ (k15 : Nat),
  ∃ (k16 : Nat),
  v11 = Value.slice q15 k15 k16 ∧
  StoreR (Addr.add { block := g, off := (0 : Nat) } (3 : Nat)) [Value.slice q15 k15 k16] w11 fun (w12 : World) =>
  K (Value.bool true) w12)
theorem policy_room_more_eq (g : Nat) (n : Int) (w : World) (K : Value → World → Prop) : fw Tryz.prog Tryz.f58 (annL []) (ordL [(1, [(0, 0), (1, 0), (2, 0), (3, 0), (8, 0), (9, 0), (10, 0), (12, 0), (13, 0), (14, 0), (4, 1), (5, 0), (6, 0), (7, 1), (11, 1), (15, 1), (16, 3), (17, 0), (18, 0), (19, 3)]), (2, [(0, 0), (1, 0), (2, 0), (4, 0), (5, 0), (6, 0), (3, 1), (7, 1), (8, 0), (9, 0), (10, 1), (11, 0), (12, 3), (13, 0), (14, 0), (15, 0), (16, 0), (17, 0), (18, 0), (19, 0)]), (2000003, [(47, 0), (48, 0), (49, 0), (50, 0), (51, 0), (52, 0), (53, 5)])]) [.pointer (some ⟨g, 0, none⟩), .int .i64 n] w K = policy_room_more_m g n w K := by kernel_rfl
theorem policy_room_more_go (g : Nat) (n : Int) {w : World} {K : Value → World → Prop} (h : policy_room_more_m g n w K) : Rets Tryz.prog 58 #[.pointer (some ⟨g, 0, none⟩), .int .i64 n] w K :=
  calls_of_fw plain mixed Tryz.func58 (by kernel_rfl) (by rw [policy_room_more_eq]; exact h)
def policy_room_made_m (g : Nat) (n m : Int) (w : World) (K : Value → World → Prop) : Prop :=
  ∃ (h1 : Nat → List Value → World → Prop),
  (∃ (k1 : Nat), h1 k1 [] w) ∧
  ∀ (k2 : Nat) (w1 : World) (v1 v2 v3 v4 v5 v6 v7 v8 v9 v10 v11 v12 v13 v14 v15 : Value),
  h1 k2 [] w1 →
  ∃ (q1 : Option Addr),
  cellAt w1 (Addr.add { block := g, off := (0 : Nat) } (0 : Nat)) (Value.pointer q1) ∧
  someR q1 fun (a1 : Addr) =>
  ∃ (q2 : Option Addr),
  cellAt w1 (Addr.add a1 (1 : Nat)) (Value.pointer q2) ∧
  Rets Tryz.prog (68 : Nat) { toList := [Value.pointer q2] } w1 fun (v16 : Value) (w2 : World) =>
  ∃ (n1 : Int),
  v16 = Value.int IntKind.i64 n1 ∧
  (decide (n1 < n) = true →
  Rets Tryz.prog (58 : Nat) { toList := [Value.pointer (some { block := g, off := (0 : Nat) }), Value.int IntKind.i64 m] }
  w2 fun (v17 : Value) (w3 : World) =>
  ∃ (b1 : Bool),
  v17 = Value.bool b1 ∧
  ((!b1) = true → K (Value.bool false) w3) ∧ ((!b1) = false → ∃ (k3 : Nat), k3 < k2 ∧ h1 k3 [] w3)) ∧
  (decide (n1 < n) = false → K (Value.bool true) w2)
theorem policy_room_made_eq (g : Nat) (n m : Int) (w : World) (K : Value → World → Prop) : fw Tryz.prog Tryz.f44 (annL [(1, [(6, none), (7, none), (8, none), (9, none), (10, none), (11, none), (12, none), (13, none), (14, none), (15, none), (16, none), (17, none), (18, none), (19, none), (20, none)])]) (ordL []) [.pointer (some ⟨g, 0, none⟩), .int .i64 n, .int .i64 m] w K = policy_room_made_m g n m w K := by kernel_rfl
theorem policy_room_made_go (g : Nat) (n m : Int) {w : World} {K : Value → World → Prop} (h : policy_room_made_m g n m w K) : Rets Tryz.prog 44 #[.pointer (some ⟨g, 0, none⟩), .int .i64 n, .int .i64 m] w K :=
  calls_of_fw plain mixed Tryz.func44 (by kernel_rfl) (by rw [policy_room_made_eq]; exact h)
def policy_New_m (a b s : Int) (w : World) (K : Value → World → Prop) : Prop :=
  Rets Tryz.prog (21 : Nat) { toList := [Value.int IntKind.i64 b, Value.int IntKind.u64 s] } w
  fun (v1 : Value) (w1 : World) =>
  ∃ (q1 : Option Addr),
  v1 = Value.pointer q1 ∧
  Rets Tryz.prog (22 : Nat) { toList := [Value.int IntKind.i64 a] } w1 fun (v2 : Value) (w2 : World) =>
  ∃ (q2 : Option Addr),
  v2 = Value.pointer q2 ∧
  NewR (76 : Nat) [Value.pointer q1, Value.pointer q2] w2 fun (a1 : Addr) (w3 : World) => K (Value.pointer (some a1)) w3
theorem policy_New_eq (a b s : Int) (w : World) (K : Value → World → Prop) : fw Tryz.prog Tryz.f6 (annL []) (ordL []) [.int .i64 a, .int .i64 b, .int .u64 s] w K = policy_New_m a b s w K := by kernel_rfl
theorem policy_New_go (a b s : Int) {w : World} {K : Value → World → Prop} (h : policy_New_m a b s w K) : Rets Tryz.prog 6 #[.int .i64 a, .int .i64 b, .int .u64 s] w K :=
  calls_of_fw plain mixed Tryz.func6 (by kernel_rfl) (by rw [policy_New_eq]; exact h)
def policy_Policy_Ledger_m (g : Nat) (w : World) (K : Value → World → Prop) : Prop :=
  (false = true → K (Value.pointer none) w) ∧
  (false = false →
  ∃ (q1 : Option Addr),
  cellAt w (Addr.add { block := g, off := (0 : Nat) } (1 : Nat)) (Value.pointer q1) ∧ K (Value.pointer q1) w)
theorem policy_Policy_Ledger_eq (g : Nat) (w : World) (K : Value → World → Prop) : fw Tryz.prog Tryz.f10 (annL []) (ordL []) [.pointer (some ⟨g, 0, none⟩)] w K = policy_Policy_Ledger_m g w K := by kernel_rfl
theorem policy_Policy_Ledger_go (g : Nat) {w : World} {K : Value → World → Prop} (h : policy_Policy_Ledger_m g w K) : Rets Tryz.prog 10 #[.pointer (some ⟨g, 0, none⟩)] w K :=
  calls_of_fw plain mixed Tryz.func10 (by kernel_rfl) (by rw [policy_Policy_Ledger_eq]; exact h)
def policy_Policy_Tiny_m (g : Nat) (w : World) (K : Value → World → Prop) : Prop :=
  (false = true → K (Value.pointer none) w) ∧
  (false = false →
  ∃ (q1 : Option Addr),
  cellAt w (Addr.add { block := g, off := (0 : Nat) } (0 : Nat)) (Value.pointer q1) ∧ K (Value.pointer q1) w)
theorem policy_Policy_Tiny_eq (g : Nat) (w : World) (K : Value → World → Prop) : fw Tryz.prog Tryz.f19 (annL []) (ordL []) [.pointer (some ⟨g, 0, none⟩)] w K = policy_Policy_Tiny_m g w K := by kernel_rfl
theorem policy_Policy_Tiny_go (g : Nat) {w : World} {K : Value → World → Prop} (h : policy_Policy_Tiny_m g w K) : Rets Tryz.prog 19 #[.pointer (some ⟨g, 0, none⟩)] w K :=
  calls_of_fw plain mixed Tryz.func19 (by kernel_rfl) (by rw [policy_Policy_Tiny_eq]; exact h)
def policy_Policy_Estimate_m (g : Nat) (x : Int) (w : World) (K : Value → World → Prop) : Prop :=
  Rets Tryz.prog (19 : Nat) { toList := [Value.pointer (some { block := g, off := (0 : Nat) })] } w
  fun (v1 : Value) (w1 : World) =>
  ∃ (q1 : Option Addr),
  v1 = Value.pointer q1 ∧
  Rets Tryz.prog (38 : Nat) { toList := [Value.pointer q1, Value.int IntKind.u64 x] } w1 fun (v2 : Value) (w2 : World) =>
  ∃ (n1 : Int), v2 = Value.int IntKind.i64 n1 ∧ K (Value.int IntKind.i64 n1) w2
theorem policy_Policy_Estimate_eq (g : Nat) (x : Int) (w : World) (K : Value → World → Prop) : fw Tryz.prog Tryz.f12 (annL []) (ordL []) [.pointer (some ⟨g, 0, none⟩), .int .u64 x] w K = policy_Policy_Estimate_m g x w K := by kernel_rfl
theorem policy_Policy_Estimate_go (g : Nat) (x : Int) {w : World} {K : Value → World → Prop} (h : policy_Policy_Estimate_m g x w K) : Rets Tryz.prog 12 #[.pointer (some ⟨g, 0, none⟩), .int .u64 x] w K :=
  calls_of_fw plain mixed Tryz.func12 (by kernel_rfl) (by rw [policy_Policy_Estimate_eq]; exact h)
def policy_Policy_Push_m (g : Nat) (q : Option Addr) (l c : Nat) (w : World) (K : Value → World → Prop) : Prop :=
  Rets Tryz.prog (19 : Nat) { toList := [Value.pointer (some { block := g, off := (0 : Nat) })] } w
  fun (v1 : Value) (w1 : World) =>
  ∃ (q1 : Option Addr),
  v1 = Value.pointer q1 ∧
  Rets Tryz.prog (56 : Nat) { toList := [Value.pointer q1, Value.slice q l c] } w1 fun (v2 : Value) (w2 : World) =>
  v2 = Value.tuple { toList := [] } ∧ K (Value.tuple { toList := [] }) w2
theorem policy_Policy_Push_eq (g : Nat) (q : Option Addr) (l c : Nat) (w : World) (K : Value → World → Prop) : fw Tryz.prog Tryz.f30 (annL []) (ordL []) [.pointer (some ⟨g, 0, none⟩), .slice q l c] w K = policy_Policy_Push_m g q l c w K := by kernel_rfl
theorem policy_Policy_Push_go (g : Nat) (q : Option Addr) (l c : Nat) {w : World} {K : Value → World → Prop} (h : policy_Policy_Push_m g q l c w K) : Rets Tryz.prog 30 #[.pointer (some ⟨g, 0, none⟩), .slice q l c] w K :=
  calls_of_fw plain mixed Tryz.func30 (by kernel_rfl) (by rw [policy_Policy_Push_eq]; exact h)
def policy_Policy_Add_m (g : Nat) (k n : Int) (d : Option Addr) (w : World) (K : Value → World → Prop) : Prop :=
  ∃ (h1 : List Value → World → Prop),
  ((false = false →
  Rets Tryz.prog (43 : Nat) { toList := [Value.int IntKind.i64 n] } w fun (v1 : Value) (w1 : World) =>
  ∃ (b1 : Bool),
  v1 = Value.bool b1 ∧
  ((!b1) = false →
  ∃ (q1 : Option Addr),
  cellAt w1 (Addr.add { block := g, off := (0 : Nat) } (1 : Nat)) (Value.pointer q1) ∧
  Rets Tryz.prog (16 : Nat) { toList := [Value.pointer q1] } w1 fun (v2 : Value) (w2 : World) =>
  ∃ (n1 : Int), v2 = Value.int IntKind.i64 n1 ∧ h1 [Value.bool (decide (n > n1))] w2) ∧
  ((!b1) = true → h1 [Value.bool true] w1)) ∧
  (false = true → h1 [Value.bool true] w)) ∧
  ∀ (w3 : World) (v3 v4 v5 v6 v7 v8 v9 v10 v11 v12 v13 v14 v15 v16 v17 : Value) (b2 : Bool),
  h1 [Value.bool b2] w3 →
  (b2 = true → K (Value.tuple { toList := [Value.slice none (0 : Nat) (0 : Nat), Value.bool false] }) w3) ∧
  (b2 = false →
  ∃ (q2 : Option Addr),
  cellAt w3 (Addr.add { block := g, off := (0 : Nat) } (1 : Nat)) (Value.pointer q2) ∧
  Rets Tryz.prog (18 : Nat) { toList := [Value.pointer q2, Value.int IntKind.u64 k] } w3 fun (v18 : Value) (w4 : World) =>
  ∃ (n2 : Int),
  ∃ (b3 : Bool),
  v18 = Value.tuple { toList := [Value.int IntKind.i64 n2, Value.bool b3] } ∧
  (b3 = true → K (Value.tuple { toList := [Value.slice none (0 : Nat) (0 : Nat), Value.bool false] }) w4) ∧
  (b3 = false →
  NewR (101 : Nat)
  [Value.pointer (some { block := g, off := (0 : Nat) }), Value.pointer d, Value.slice none (0 : Nat) (0 : Nat),
  Value.slice none (0 : Nat) (0 : Nat)]
  w4 fun (a1 : Addr) (w5 : World) =>
  Rets Tryz.prog (12 : Nat) { toList := [Value.pointer (some { block := g, off := (0 : Nat) }), Value.int IntKind.u64 k] }
  w5 fun (v19 : Value) (w6 : World) =>
  ∃ (n3 : Int),
  v19 = Value.int IntKind.i64 n3 ∧
  Rets Tryz.prog (44 : Nat) { toList := [Value.pointer (some a1), Value.int IntKind.i64 n, Value.int IntKind.i64 n3] } w6
  fun (v20 : Value) (w7 : World) =>
  ∃ (b4 : Bool),
  v20 = Value.bool b4 ∧
  ((!b4) = true →
  ∃ (q3 : Option Addr),
  ∃ (k1 : Nat),
  ∃ (k2 : Nat),
  cellAt w7 (Addr.add a1 (3 : Nat)) (Value.slice q3 k1 k2) ∧
  K (Value.tuple { toList := [Value.slice q3 k1 k2, Value.bool false] }) w7) ∧
  ((!b4) = false →
  Drw w7 fun (w8 : World) =>
  ∃ (h2 : World → Prop),
  h2 w8 ∧
  ∃ (q4 : Option Addr),
  ∃ (k3 : Nat),
  ∃ (k4 : Nat),
  (∀ (w9 : World), h2 w9 → World.cell? w9 (Addr.add a1 (3 : Nat)) = some (Value.slice q4 k3 k4)) ∧
  ∃ (q5 : Option Addr),
  (∀ (w10 : World),
  h2 w10 → World.cell? w10 (Addr.add { block := g, off := (0 : Nat) } (1 : Nat)) = some (Value.pointer q5)) ∧
  Rets Tryz.prog (45 : Nat) { toList := [Value.pointer q5, Value.int IntKind.u64 k, Value.int IntKind.i64 n] } w8
  fun (v21 : Value) (w11 : World) =>
  ∃ (b5 : Bool), v21 = Value.bool b5 ∧ h2 w11 ∧ K (Value.tuple { toList := [Value.slice q4 k3 k4, Value.bool b5] }) w11)))
theorem policy_Policy_Add_eq (g : Nat) (k n : Int) (d : Option Addr) (w : World) (K : Value → World → Prop) : fw Tryz.prog Tryz.f20 (annL []) (ordL [(2000001, [(13, 0), (14, 0), (15, 0), (16, 0), (17, 0), (18, 0), (19, 0), (20, 0), (21, 0), (22, 0), (23, 0), (24, 0), (25, 0), (26, 0), (27, 0), (28, 5)]), (9, [(0, 0), (1, 0), (2, 0), (4, 0), (5, 0), (6, 0), (8, 0), (9, 0), (3, 1), (7, 1), (10, 2), (11, 0), (12, 0)])]) [.pointer (some ⟨g, 0, none⟩), .int .u64 k, .int .i64 n, .pointer d] w K = policy_Policy_Add_m g k n d w K := by kernel_rfl
theorem policy_Policy_Add_go (g : Nat) (k n : Int) (d : Option Addr) {w : World} {K : Value → World → Prop} (h : policy_Policy_Add_m g k n d w K) : Rets Tryz.prog 20 #[.pointer (some ⟨g, 0, none⟩), .int .u64 k, .int .i64 n, .pointer d] w K :=
  calls_of_fw plain mixed Tryz.func20 (by kernel_rfl) (by rw [policy_Policy_Add_eq]; exact h)
def cortadolaw26_awake_m  (w : World) (K : Value → World → Prop) : Prop :=
  Rets Tryz.prog (6 : Nat)
  { toList := [Value.int IntKind.i64 (10 : Int), Value.int IntKind.i64 (8 : Int), Value.int IntKind.u64 (0 : Int)] } w
  fun (v1 : Value) (w1 : World) =>
  ∃ (q1 : Option Addr),
  v1 = Value.pointer q1 ∧
  Rets Tryz.prog (20 : Nat)
  { toList := [Value.pointer q1, Value.int IntKind.u64 (1 : Int), Value.int IntKind.i64 (6 : Int), Value.pointer none] }
  w1 fun (v2 : Value) (w2 : World) =>
  ∃ (q2 : Option Addr),
  ∃ (k1 : Nat),
  ∃ (k2 : Nat),
  ∃ (b1 : Bool),
  v2 = Value.tuple { toList := [Value.slice q2 k1 k2, Value.bool b1] } ∧
  Rets Tryz.prog (8 : Nat) { toList := [Value.slice none (0 : Nat) (0 : Nat), Value.int IntKind.u64 (0 : Int)] } w2
  fun (v3 : Value) (w3 : World) =>
  ∃ (q3 : Option Addr),
  v3 = Value.pointer q3 ∧
  Rets Tryz.prog (20 : Nat)
  { toList := [Value.pointer q1, Value.int IntKind.u64 (2 : Int), Value.int IntKind.i64 (5 : Int), Value.pointer q3] } w3
  fun (v4 : Value) (w4 : World) =>
  ∃ (q4 : Option Addr),
  ∃ (k3 : Nat),
  ∃ (k4 : Nat),
  ∃ (b2 : Bool),
  v4 = Value.tuple { toList := [Value.slice q4 k3 k4, Value.bool b2] } ∧
  (b1 = true →
  (b2 = true →
  (((↑k3 : Int) == (1 : Int)) = true →
  (0 : Int) ≤ (0 : Int) ∧
  (0 : Int) < (↑k3 : Int) ∧
  someR q4 fun (a1 : Addr) =>
  ∃ (n1 : Int),
  ∃ (n2 : Int),
  (cellAt w4 (Addr.add (Addr.add a1 (0 : Nat)) (0 : Nat)) (Value.int IntKind.u64 n1) ∧
  cellAt w4 (Addr.add (Addr.add a1 (0 : Nat)) (1 : Nat)) (Value.int IntKind.i64 n2)) ∧
  K (Value.bool (n1 == (1 : Int) && n2 == (6 : Int))) w4) ∧
  (((↑k3 : Int) == (1 : Int)) = false → K (Value.bool false) w4)) ∧
  (b2 = false → K (Value.bool false) w4)) ∧
  (b1 = false → K (Value.bool false) w4)
theorem cortadolaw26_awake_eq  (w : World) (K : Value → World → Prop) : fw Tryz.prog Tryz.f5 (annL []) (ordL []) [] w K = cortadolaw26_awake_m  w K := by kernel_rfl
theorem cortadolaw26_awake_go  {w : World} {K : Value → World → Prop} (h : cortadolaw26_awake_m  w K) : Rets Tryz.prog 5 #[] w K :=
  calls_of_fw plain mixed Tryz.func5 (by kernel_rfl) (by rw [cortadolaw26_awake_eq]; exact h)
end Go.Proofs.YtggflkjdgcdcmaaGreatDoor.Eng
