/- What the code of these functions asks for: printed by a program of this session's (gens.py) out of the seat's own functions; the kernel checks each row. -/
import Derived.Test.YtggflkjdgcdcmaaGreatDoorEngH
import Derived.Test.YtggflkjdgcdcmaaGreatDoorProg
import Derived.Test.YtggflkjdgcdcmaaGreatDoorBase
namespace Go.Proofs.YtggflkjdgcdcmaaGreatDoor.Eng
open Go Go.Proofs
set_option linter.unusedVariables false
set_option maxRecDepth 1000000
def policy_Policy_Update_m (g : Nat) (k n : Int) (d : Option Addr) (w : World) (K : Value → World → Prop) : Prop :=
  ∃ (h1 : List Value → World → Prop),
  ((false = false →
  Rets Tryz.prog (43 : Nat) { toList := [Value.int IntKind.i64 n] } w fun (v1 : Value) (w1 : World) =>
  ∃ (b1 : Bool), v1 = Value.bool b1 ∧ h1 [Value.bool !b1] w1) ∧
  (false = true → h1 [Value.bool true] w)) ∧
  ∀ (w2 : World) (v2 v3 v4 v5 v6 v7 : Value) (b2 : Bool),
  h1 [Value.bool b2] w2 →
  (b2 = true → K (Value.tuple { toList := [Value.slice none (0 : Nat) (0 : Nat), Value.bool false] }) w2) ∧
  (b2 = false →
  ∃ (q1 : Option Addr),
  cellAt w2 (Addr.add { block := g, off := (0 : Nat) } (1 : Nat)) (Value.pointer q1) ∧
  Rets Tryz.prog (53 : Nat) { toList := [Value.pointer q1, Value.int IntKind.u64 k] } w2 fun (v8 : Value) (w3 : World) =>
  ∃ (n1 : Int),
  ∃ (b3 : Bool),
  v8 = Value.tuple { toList := [Value.int IntKind.i64 n1, Value.bool b3] } ∧
  ((!b3) = true → K (Value.tuple { toList := [Value.slice none (0 : Nat) (0 : Nat), Value.bool false] }) w3) ∧
  ((!b3) = false →
  ∃ (q2 : Option Addr),
  cellAt w3 (Addr.add { block := g, off := (0 : Nat) } (1 : Nat)) (Value.pointer q2) ∧
  Rets Tryz.prog (16 : Nat) { toList := [Value.pointer q2] } w3 fun (v9 : Value) (w4 : World) =>
  ∃ (n2 : Int),
  v9 = Value.int IntKind.i64 n2 ∧
  (decide (n > n2) = true →
  NewR (72 : Nat) [Value.int IntKind.u64 k, Value.int IntKind.i64 n1] w4 fun (a1 : Addr) (w5 : World) =>
  K (Value.tuple { toList := [Value.slice (some a1) (1 : Nat) (1 : Nat), Value.bool false] }) w5) ∧
  (decide (n > n2) = false →
  NewR (101 : Nat)
  [Value.pointer (some { block := g, off := (0 : Nat) }), Value.pointer d, Value.slice none (0 : Nat) (0 : Nat),
  Value.slice none (0 : Nat) (0 : Nat)]
  w4 fun (a2 : Addr) (w6 : World) =>
  Rets Tryz.prog (44 : Nat)
  { toList := [Value.pointer (some a2), Value.int IntKind.i64 n, Value.int IntKind.i64 (1024 : Int)] } w6
  fun (v10 : Value) (w7 : World) =>
  ∃ (b4 : Bool),
  v10 = Value.bool b4 ∧
  Drw w7 fun (w8 : World) =>
  ∃ (h2 : World → Prop),
  h2 w8 ∧
  ∃ (q3 : Option Addr),
  ∃ (k1 : Nat),
  ∃ (k2 : Nat),
  (∀ (w9 : World), h2 w9 → World.cell? w9 (Addr.add a2 (3 : Nat)) = some (Value.slice q3 k1 k2)) ∧
  ∃ (q4 : Option Addr),
  (∀ (w10 : World),
  h2 w10 → World.cell? w10 (Addr.add { block := g, off := (0 : Nat) } (1 : Nat)) = some (Value.pointer q4)) ∧
  Rets Tryz.prog (45 : Nat) { toList := [Value.pointer q4, Value.int IntKind.u64 k, Value.int IntKind.i64 n] } w8
  fun (v11 : Value) (w11 : World) =>
  ∃ (b5 : Bool), v11 = Value.bool b5 ∧ h2 w11 ∧ K (Value.tuple { toList := [Value.slice q3 k1 k2, Value.bool b5] }) w11)))
theorem policy_Policy_Update_eq (g : Nat) (k n : Int) (d : Option Addr) (w : World) (K : Value → World → Prop) : fw Tryz.prog Tryz.f25 (annL []) (ordL [(2000001, [(13, 0), (14, 0), (15, 0), (16, 0), (17, 0), (18, 0), (19, 5)]), (10, [(0, 0), (1, 0), (2, 0), (4, 0), (5, 0), (6, 0), (8, 0), (9, 0), (3, 1), (7, 1), (10, 2), (11, 0), (12, 0)])]) [.pointer (some ⟨g, 0, none⟩), .int .u64 k, .int .i64 n, .pointer d] w K = policy_Policy_Update_m g k n d w K := by kernel_rfl
theorem policy_Policy_Update_go (g : Nat) (k n : Int) (d : Option Addr) {w : World} {K : Value → World → Prop} (h : policy_Policy_Update_m g k n d w K) : Rets Tryz.prog 25 #[.pointer (some ⟨g, 0, none⟩), .int .u64 k, .int .i64 n, .pointer d] w K :=
  calls_of_fw plain mixed Tryz.func25 (by kernel_rfl) (by rw [policy_Policy_Update_eq]; exact h)
def policy_Policy_Limit_m (g : Nat) (n : Int) (d : Option Addr) (w : World) (K : Value → World → Prop) : Prop :=
  ∃ (h1 : List Value → World → Prop),
  ((false = false →
  Rets Tryz.prog (43 : Nat) { toList := [Value.int IntKind.i64 n] } w fun (v1 : Value) (w1 : World) =>
  ∃ (b1 : Bool), v1 = Value.bool b1 ∧ h1 [Value.bool !b1] w1) ∧
  (false = true → h1 [Value.bool true] w)) ∧
  ∀ (w2 : World) (v2 v3 v4 v5 v6 v7 : Value) (b2 : Bool),
  h1 [Value.bool b2] w2 →
  (b2 = true → K (Value.tuple { toList := [Value.slice none (0 : Nat) (0 : Nat), Value.bool false] }) w2) ∧
  (b2 = false →
  NewR (101 : Nat)
  [Value.pointer (some { block := g, off := (0 : Nat) }), Value.pointer d, Value.slice none (0 : Nat) (0 : Nat),
  Value.slice none (0 : Nat) (0 : Nat)]
  w2 fun (a1 : Addr) (w3 : World) =>
  ∃ (h2 : Nat → List Value → World → Prop),
  (∃ (k1 : Nat), h2 k1 [] w3) ∧
  ∀ (k2 : Nat) (w4 : World) (v8 v9 v10 v11 v12 v13 v14 v15 v16 v17 v18 : Value),
  h2 k2 [] w4 →
  ∃ (h3 : List Value → World → Prop),
  (∃ (q1 : Option Addr),
  cellAt w4 (Addr.add { block := g, off := (0 : Nat) } (1 : Nat)) (Value.pointer q1) ∧
  Rets Tryz.prog (14 : Nat) { toList := [Value.pointer q1] } w4 fun (v19 : Value) (w5 : World) =>
  ∃ (n1 : Int),
  v19 = Value.int IntKind.i64 n1 ∧
  (decide (n1 > n) = true →
  Rets Tryz.prog (58 : Nat) { toList := [Value.pointer (some a1), Value.int IntKind.i64 (1024 : Int)] } w5
  fun (v20 : Value) (w6 : World) => ∃ (b3 : Bool), v20 = Value.bool b3 ∧ h3 [Value.bool b3] w6) ∧
  (decide (n1 > n) = false → h3 [Value.bool false] w5)) ∧
  ∀ (w7 : World) (v21 v22 v23 v24 v25 v26 v27 v28 v29 v30 : Value) (b4 : Bool),
  h3 [Value.bool b4] w7 →
  (b4 = true → ∃ (k3 : Nat), k3 < k2 ∧ h2 k3 [] w7) ∧
  (b4 = false →
  Drw w7 fun (w8 : World) =>
  ∃ (h4 : World → Prop),
  h4 w8 ∧
  ∃ (q2 : Option Addr),
  ∃ (k4 : Nat),
  ∃ (k5 : Nat),
  (∀ (w9 : World), h4 w9 → World.cell? w9 (Addr.add a1 (3 : Nat)) = some (Value.slice q2 k4 k5)) ∧
  ∃ (q3 : Option Addr),
  (∀ (w10 : World),
  h4 w10 → World.cell? w10 (Addr.add { block := g, off := (0 : Nat) } (1 : Nat)) = some (Value.pointer q3)) ∧
  Rets Tryz.prog (59 : Nat) { toList := [Value.pointer q3, Value.int IntKind.i64 n] } w8
  fun (v31 : Value) (w11 : World) =>
  ∃ (b5 : Bool), v31 = Value.bool b5 ∧ h4 w11 ∧ K (Value.tuple { toList := [Value.slice q2 k4 k5, Value.bool b5] }) w11))
theorem policy_Policy_Limit_eq (g : Nat) (n : Int) (d : Option Addr) (w : World) (K : Value → World → Prop) : fw Tryz.prog Tryz.f32 (annL [(2, [(20, none), (21, none), (22, none), (23, none), (24, none), (25, none), (26, none), (27, none), (28, none), (29, none), (30, none)])]) (ordL [(2000001, [(9, 0), (10, 0), (11, 0), (12, 0), (13, 0), (14, 0), (15, 5)]), (2000004, [(20, 0), (21, 0), (22, 0), (23, 0), (24, 0), (25, 0), (26, 0), (27, 0), (28, 0), (29, 0), (30, 5)]), (5, [(0, 0), (1, 0), (2, 0), (4, 0), (5, 0), (6, 0), (8, 0), (3, 1), (7, 1), (9, 2), (10, 0), (11, 0)])]) [.pointer (some ⟨g, 0, none⟩), .int .i64 n, .pointer d] w K = policy_Policy_Limit_m g n d w K := by kernel_rfl
theorem policy_Policy_Limit_go (g : Nat) (n : Int) (d : Option Addr) {w : World} {K : Value → World → Prop} (h : policy_Policy_Limit_m g n d w K) : Rets Tryz.prog 32 #[.pointer (some ⟨g, 0, none⟩), .int .i64 n, .pointer d] w K :=
  calls_of_fw plain mixed Tryz.func32 (by kernel_rfl) (by rw [policy_Policy_Limit_eq]; exact h)
def cortadolaw26_few_m (q : Option Addr) (l c : Nat) (w : World) (K : Value → World → Prop) : Prop :=
  K (Value.bool (decide ((↑l : Int) ≤ (30 : Int)))) w
theorem cortadolaw26_few_eq (q : Option Addr) (l c : Nat) (w : World) (K : Value → World → Prop) : fw Tryz.prog Tryz.f4 (annL []) (ordL []) [.slice q l c] w K = cortadolaw26_few_m q l c w K := by kernel_rfl
theorem cortadolaw26_few_go (q : Option Addr) (l c : Nat) {w : World} {K : Value → World → Prop} (h : cortadolaw26_few_m q l c w K) : Rets Tryz.prog 4 #[.slice q l c] w K :=
  calls_of_fw plain mixed Tryz.func4 (by kernel_rfl) (by rw [cortadolaw26_few_eq]; exact h)
end Go.Proofs.YtggflkjdgcdcmaaGreatDoor.Eng
