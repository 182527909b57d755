/- What the code of these functions asks for: printed by a program of this session's (gens.py) out of the seat's own functions; the kernel checks each row. -/
import Derived.Test.YtianklbklggboaaEngH
import Derived.Test.YtianklbklggboaaProg
import Derived.Test.YtianklbklggboaaBase
namespace Go.Proofs.Ytianklbklggboaa.Eng
open Go Go.Proofs
set_option linter.unusedVariables false
set_option maxRecDepth 1000000
def cost_Cut_m (n : Int) (w : World) (K : Value → World → Prop) : Prop :=
  K (Value.int IntKind.i64 (maxI (0 : Int) (minI n (4611686018427387904 : Int)))) w
theorem cost_Cut_eq (n : Int) (w : World) (K : Value → World → Prop) : fw Try.prog Try.f22 (annL []) (ordL []) [.int .i64 n] w K = cost_Cut_m n w K := by kernel_rfl
theorem cost_Cut_go (n : Int) {w : World} {K : Value → World → Prop} (h : cost_Cut_m n w K) : Rets Try.prog 22 #[.int .i64 n] w K :=
  calls_of_fw plain mixed Try.func22 (by kernel_rfl) (by rw [cost_Cut_eq]; exact h)
def cost_Right_m (n : Int) (w : World) (K : Value → World → Prop) : Prop :=
  (decide (n ≥ (0 : Int)) = true → K (Value.bool (decide (n ≤ (4611686018427387904 : Int)))) w) ∧
  (decide (n ≥ (0 : Int)) = false → K (Value.bool false) w)
theorem cost_Right_eq (n : Int) (w : World) (K : Value → World → Prop) : fw Try.prog Try.f25 (annL []) (ordL []) [.int .i64 n] w K = cost_Right_m n w K := by kernel_rfl
theorem cost_Right_go (n : Int) {w : World} {K : Value → World → Prop} (h : cost_Right_m n w K) : Rets Try.prog 25 #[.int .i64 n] w K :=
  calls_of_fw plain mixed Try.func25 (by kernel_rfl) (by rw [cost_Right_eq]; exact h)
def lru_New_int_int_m (most : Int) (w : World) (K : Value → World → Prop) : Prop :=
  NewMapR w fun (k1 : Nat) (w1 : World) =>
  NewR (57 : Nat)
  [Value.int IntKind.i64 (0 : Int), Value.int IntKind.i64 (0 : Int), Value.int IntKind.i64 (0 : Int), Value.pointer none,
  Value.pointer none]
  w1 fun (a1 : Addr) (w2 : World) =>
  Rets Try.prog (22 : Nat) { toList := [Value.int IntKind.i64 most] } w2 fun (v1 : Value) (w3 : World) =>
  ∃ (n1 : Int),
  v1 = Value.int IntKind.i64 n1 ∧
  NewR (59 : Nat)
  [Value.map (some k1), Value.pointer (some a1), Value.int IntKind.i64 (0 : Int), Value.int IntKind.i64 n1] w3
  fun (a2 : Addr) (w4 : World) =>
  Drw w4 fun (w5 : World) =>
  ∃ (q1 : Option Addr),
  cellAt w5 (Addr.add a2 (1 : Nat)) (Value.pointer q1) ∧
  ∃ (q2 : Option Addr),
  cellAt w5 (Addr.add a2 (1 : Nat)) (Value.pointer q2) ∧
  ∃ (q3 : Option Addr),
  cellAt w5 (Addr.add a2 (1 : Nat)) (Value.pointer q3) ∧
  ∃ (q4 : Option Addr),
  cellAt w5 (Addr.add a2 (1 : Nat)) (Value.pointer q4) ∧
  someR q1 fun (a3 : Addr) =>
  StoreR (Addr.add a3 (3 : Nat)) [Value.pointer q3] w5 fun (w6 : World) =>
  someR q2 fun (a4 : Addr) =>
  StoreR (Addr.add a4 (4 : Nat)) [Value.pointer q4] w6 fun (w7 : World) => K (Value.pointer (some a2)) w7
theorem lru_New_int_int_eq (most : Int) (w : World) (K : Value → World → Prop) : fw Try.prog Try.f6 (annL []) (ordL [(2, [(0, 0), (1, 0), (2, 0), (4, 0), (5, 0), (6, 0), (8, 0), (9, 0), (10, 0), (12, 0), (13, 0), (14, 0), (3, 1), (7, 1), (11, 1), (15, 1), (16, 0), (17, 0), (18, 3), (19, 0), (20, 0), (21, 3)])]) [.int .i64 most] w K = lru_New_int_int_m most w K := by kernel_rfl
theorem lru_New_int_int_go (most : Int) {w : World} {K : Value → World → Prop} (h : lru_New_int_int_m most w K) : Rets Try.prog 6 #[.int .i64 most] w K :=
  calls_of_fw plain mixed Try.func6 (by kernel_rfl) (by rw [lru_New_int_int_eq]; exact h)
def lru_Cache_int_int_out_m (g p : Nat) (w : World) (K : Value → World → Prop) : Prop :=
  Drw w fun (w1 : World) =>
  ∃ (q1 : Option Addr),
  cellAt w1 (Addr.add { block := p, off := (0 : Nat) } (3 : Nat)) (Value.pointer q1) ∧
  ∃ (q2 : Option Addr),
  cellAt w1 (Addr.add { block := p, off := (0 : Nat) } (4 : Nat)) (Value.pointer q2) ∧
  ∃ (q3 : Option Addr),
  cellAt w1 (Addr.add { block := p, off := (0 : Nat) } (4 : Nat)) (Value.pointer q3) ∧
  ∃ (q4 : Option Addr),
  cellAt w1 (Addr.add { block := p, off := (0 : Nat) } (3 : Nat)) (Value.pointer q4) ∧
  someR q1 fun (a1 : Addr) =>
  StoreR (Addr.add a1 (4 : Nat)) [Value.pointer q3] w1 fun (w2 : World) =>
  someR q2 fun (a2 : Addr) =>
  StoreR (Addr.add a2 (3 : Nat)) [Value.pointer q4] w2 fun (w3 : World) => K (Value.tuple { toList := [] }) w3
theorem lru_Cache_int_int_out_eq (g p : Nat) (w : World) (K : Value → World → Prop) : fw Try.prog Try.f23 (annL []) (ordL [(0, [(0, 0), (1, 0), (2, 0), (4, 0), (5, 0), (6, 0), (8, 0), (9, 0), (10, 0), (12, 0), (13, 0), (14, 0), (3, 1), (7, 1), (11, 1), (15, 1), (16, 0), (17, 0), (18, 3), (19, 0), (20, 0), (21, 3)])]) [.pointer (some ⟨g, 0, none⟩), .pointer (some ⟨p, 0, none⟩)] w K = lru_Cache_int_int_out_m g p w K := by kernel_rfl
theorem lru_Cache_int_int_out_go (g p : Nat) {w : World} {K : Value → World → Prop} (h : lru_Cache_int_int_out_m g p w K) : Rets Try.prog 23 #[.pointer (some ⟨g, 0, none⟩), .pointer (some ⟨p, 0, none⟩)] w K :=
  calls_of_fw plain mixed Try.func23 (by kernel_rfl) (by rw [lru_Cache_int_int_out_eq]; exact h)
def lru_Cache_int_int_first_m (g p : Nat) (w : World) (K : Value → World → Prop) : Prop :=
  Drw w fun (w1 : World) =>
  ∃ (q1 : Option Addr),
  cellAt w1 (Addr.add { block := g, off := (0 : Nat) } (1 : Nat)) (Value.pointer q1) ∧
  ∃ (q2 : Option Addr),
  cellAt w1 (Addr.add { block := g, off := (0 : Nat) } (1 : Nat)) (Value.pointer q2) ∧
  someR q2 fun (a1 : Addr) =>
  ∃ (q3 : Option Addr),
  cellAt w1 (Addr.add a1 (4 : Nat)) (Value.pointer q3) ∧
  StoreR (Addr.add { block := p, off := (0 : Nat) } (3 : Nat)) [Value.pointer q1] w1 fun (w2 : World) =>
  StoreR (Addr.add { block := p, off := (0 : Nat) } (4 : Nat)) [Value.pointer q3] w2 fun (w3 : World) =>
  ∃ (q4 : Option Addr),
  cellAt w3 (Addr.add { block := g, off := (0 : Nat) } (1 : Nat)) (Value.pointer q4) ∧
  someR q4 fun (a2 : Addr) =>
  ∃ (q5 : Option Addr),
  cellAt w3 (Addr.add a2 (4 : Nat)) (Value.pointer q5) ∧
  someR q5 fun (a3 : Addr) =>
  StoreR (Addr.add a3 (3 : Nat)) [Value.pointer (some { block := p, off := (0 : Nat) })] w3 fun (w4 : World) =>
  ∃ (q6 : Option Addr),
  cellAt w4 (Addr.add { block := g, off := (0 : Nat) } (1 : Nat)) (Value.pointer q6) ∧
  someR q6 fun (a4 : Addr) =>
  StoreR (Addr.add a4 (4 : Nat)) [Value.pointer (some { block := p, off := (0 : Nat) })] w4 fun (w5 : World) =>
  K (Value.tuple { toList := [] }) w5
theorem lru_Cache_int_int_first_eq (g p : Nat) (w : World) (K : Value → World → Prop) : fw Try.prog Try.f24 (annL []) (ordL [(0, [(0, 0), (1, 0), (2, 0), (3, 0), (4, 0), (6, 0), (7, 0), (8, 0), (5, 1), (9, 1), (10, 0), (11, 0), (12, 1), (13, 0), (14, 0), (15, 3), (16, 0), (17, 0), (18, 3)])]) [.pointer (some ⟨g, 0, none⟩), .pointer (some ⟨p, 0, none⟩)] w K = lru_Cache_int_int_first_m g p w K := by kernel_rfl
theorem lru_Cache_int_int_first_go (g p : Nat) {w : World} {K : Value → World → Prop} (h : lru_Cache_int_int_first_m g p w K) : Rets Try.prog 24 #[.pointer (some ⟨g, 0, none⟩), .pointer (some ⟨p, 0, none⟩)] w K :=
  calls_of_fw plain mixed Try.func24 (by kernel_rfl) (by rw [lru_Cache_int_int_first_eq]; exact h)
def lru_Cache_int_int_Peek_m (g : Nat) (k : Int) (w : World) (K : Value → World → Prop) : Prop :=
  (false = true → K (Value.tuple { toList := [Value.int IntKind.i64 (0 : Int), Value.bool false] }) w) ∧
  (false = false →
  ∃ (q1 : Option Nat),
  cellAt w (Addr.add { block := g, off := (0 : Nat) } (0 : Nat)) (Value.map q1) ∧
  RunR Try.prog (Instr.lookup (54 : Nat) (Value.map q1) (Value.int IntKind.i64 k) true) w fun (v1 : Value) (w1 : World) =>
  ∃ (q2 : Option Addr),
  ∃ (b1 : Bool),
  v1 = Value.tuple { toList := [Value.pointer q2, Value.bool b1] } ∧
  ((!b1) = true → K (Value.tuple { toList := [Value.int IntKind.i64 (0 : Int), Value.bool false] }) w1) ∧
  ((!b1) = false →
  someR q2 fun (a1 : Addr) =>
  ∃ (n1 : Int),
  cellAt w1 (Addr.add a1 (1 : Nat)) (Value.int IntKind.i64 n1) ∧
  K (Value.tuple { toList := [Value.int IntKind.i64 n1, Value.bool true] }) w1))
theorem lru_Cache_int_int_Peek_eq (g : Nat) (k : Int) (w : World) (K : Value → World → Prop) : fw Try.prog Try.f9 (annL []) (ordL []) [.pointer (some ⟨g, 0, none⟩), .int .i64 k] w K = lru_Cache_int_int_Peek_m g k w K := by kernel_rfl
theorem lru_Cache_int_int_Peek_go (g : Nat) (k : Int) {w : World} {K : Value → World → Prop} (h : lru_Cache_int_int_Peek_m g k w K) : Rets Try.prog 9 #[.pointer (some ⟨g, 0, none⟩), .int .i64 k] w K :=
  calls_of_fw plain mixed Try.func9 (by kernel_rfl) (by rw [lru_Cache_int_int_Peek_eq]; exact h)
def lru_Cache_int_int_Get_m (g : Nat) (k : Int) (w : World) (K : Value → World → Prop) : Prop :=
  Rets Try.prog (9 : Nat) { toList := [Value.pointer (some { block := g, off := (0 : Nat) }), Value.int IntKind.i64 k] } w
  fun (v1 : Value) (w1 : World) =>
  ∃ (n1 : Int),
  ∃ (b1 : Bool),
  v1 = Value.tuple { toList := [Value.int IntKind.i64 n1, Value.bool b1] } ∧
  (b1 = true →
  ∃ (q1 : Option Nat),
  cellAt w1 (Addr.add { block := g, off := (0 : Nat) } (0 : Nat)) (Value.map q1) ∧
  RunR Try.prog (Instr.lookup (54 : Nat) (Value.map q1) (Value.int IntKind.i64 k) false) w1
  fun (v2 : Value) (w2 : World) =>
  ∃ (q2 : Option Addr),
  v2 = Value.pointer q2 ∧
  Rets Try.prog (23 : Nat) { toList := [Value.pointer (some { block := g, off := (0 : Nat) }), Value.pointer q2] } w2
  fun (v3 : Value) (w3 : World) =>
  v3 = Value.tuple { toList := [] } ∧
  Rets Try.prog (24 : Nat) { toList := [Value.pointer (some { block := g, off := (0 : Nat) }), Value.pointer q2] } w3
  fun (v4 : Value) (w4 : World) =>
  v4 = Value.tuple { toList := [] } ∧ K (Value.tuple { toList := [Value.int IntKind.i64 n1, Value.bool b1] }) w4) ∧
  (b1 = false → K (Value.tuple { toList := [Value.int IntKind.i64 n1, Value.bool b1] }) w1)
theorem lru_Cache_int_int_Get_eq (g : Nat) (k : Int) (w : World) (K : Value → World → Prop) : fw Try.prog Try.f7 (annL []) (ordL []) [.pointer (some ⟨g, 0, none⟩), .int .i64 k] w K = lru_Cache_int_int_Get_m g k w K := by kernel_rfl
theorem lru_Cache_int_int_Get_go (g : Nat) (k : Int) {w : World} {K : Value → World → Prop} (h : lru_Cache_int_int_Get_m g k w K) : Rets Try.prog 7 #[.pointer (some ⟨g, 0, none⟩), .int .i64 k] w K :=
  calls_of_fw plain mixed Try.func7 (by kernel_rfl) (by rw [lru_Cache_int_int_Get_eq]; exact h)
def lru_Cache_int_int_Drop_m (g : Nat) (k : Int) (w : World) (K : Value → World → Prop) : Prop :=
  Rets Try.prog (9 : Nat) { toList := [Value.pointer (some { block := g, off := (0 : Nat) }), Value.int IntKind.i64 k] } w
  fun (v1 : Value) (w1 : World) =>
  ∃ (n1 : Int),
  ∃ (b1 : Bool),
  v1 = Value.tuple { toList := [Value.int IntKind.i64 n1, Value.bool b1] } ∧
  ((!b1) = true → K (Value.bool false) w1) ∧
  ((!b1) = false →
  ∃ (q1 : Option Nat),
  cellAt w1 (Addr.add { block := g, off := (0 : Nat) } (0 : Nat)) (Value.map q1) ∧
  RunR Try.prog (Instr.lookup (54 : Nat) (Value.map q1) (Value.int IntKind.i64 k) false) w1
  fun (v2 : Value) (w2 : World) =>
  ∃ (q2 : Option Addr),
  v2 = Value.pointer q2 ∧
  Rets Try.prog (23 : Nat) { toList := [Value.pointer (some { block := g, off := (0 : Nat) }), Value.pointer q2] } w2
  fun (v3 : Value) (w3 : World) =>
  v3 = Value.tuple { toList := [] } ∧
  Drw w3 fun (w4 : World) =>
  someR q2 fun (a1 : Addr) =>
  ∃ (n2 : Int),
  cellAt w4 (Addr.add { block := g, off := (0 : Nat) } (2 : Nat)) (Value.int IntKind.i64 n2) ∧
  ∃ (n3 : Int),
  cellAt w4 (Addr.add a1 (2 : Nat)) (Value.int IntKind.i64 n3) ∧
  StoreR (Addr.add { block := g, off := (0 : Nat) } (2 : Nat))
  [Value.int IntKind.i64 (IntKind.wrap IntKind.i64 (n2 - n3))] w4 fun (w5 : World) =>
  ∃ (q3 : Option Nat),
  cellAt w5 (Addr.add { block := g, off := (0 : Nat) } (0 : Nat)) (Value.map q3) ∧
  RunR Try.prog
  (builtinV Builtin.delete { toList := [(54 : Nat), (3 : Nat)] } (nat_lit 0)
  { toList := [Value.map q3, Value.int IntKind.i64 k] })
  w5 fun (v4 : Value) (w6 : World) => v4 = Value.tuple { toList := [] } ∧ K (Value.bool true) w6)
theorem lru_Cache_int_int_Drop_eq (g : Nat) (k : Int) (w : World) (K : Value → World → Prop) : fw Try.prog Try.f17 (annL []) (ordL [(6, [(0, 0), (1, 0), (2, 0), (4, 0), (5, 0), (6, 0), (3, 1), (7, 1), (8, 0), (9, 0), (10, 0), (11, 3)])]) [.pointer (some ⟨g, 0, none⟩), .int .i64 k] w K = lru_Cache_int_int_Drop_m g k w K := by kernel_rfl
theorem lru_Cache_int_int_Drop_go (g : Nat) (k : Int) {w : World} {K : Value → World → Prop} (h : lru_Cache_int_int_Drop_m g k w K) : Rets Try.prog 17 #[.pointer (some ⟨g, 0, none⟩), .int .i64 k] w K :=
  calls_of_fw plain mixed Try.func17 (by kernel_rfl) (by rw [lru_Cache_int_int_Drop_eq]; exact h)
def lru_Cache_int_int_Put_m (g : Nat) (k : Int) (v n : Int) (w : World) (K : Value → World → Prop) : Prop :=
  (false = false →
  Rets Try.prog (25 : Nat) { toList := [Value.int IntKind.i64 n] } w fun (v1 : Value) (w1 : World) =>
  ∃ (b1 : Bool),
  v1 = Value.bool b1 ∧
  ((!b1) = false →
  ∃ (n1 : Int),
  cellAt w1 (Addr.add { block := g, off := (0 : Nat) } (3 : Nat)) (Value.int IntKind.i64 n1) ∧
  (decide (n > n1) = true → K (Value.tuple { toList := [Value.slice none (0 : Nat) (0 : Nat), Value.bool false] }) w1) ∧
  (decide (n > n1) = false →
  Rets Try.prog (17 : Nat) { toList := [Value.pointer (some { block := g, off := (0 : Nat) }), Value.int IntKind.i64 k] }
  w1 fun (v2 : Value) (w2 : World) =>
  ∃ (b2 : Bool),
  v2 = Value.bool b2 ∧
  ∃ (h1 : Nat → List Value → World → Prop),
  (∃ (k1 : Nat), h1 k1 [Value.slice none (0 : Nat) (0 : Nat)] w2) ∧
  ∀ (k2 : Nat) (w3 : World) (q1 : Option Addr) (k3 k4 : Nat)
  (v3 v4 v5 v6 v7 v8 v9 v10 v11 v12 v13 v14 v15 v16 v17 v18 v19 v20 v21 v22 v23 v24 v25 v26 v27 v28 v29 v30 v31 v32 v33
  v34 : Value),
  h1 k2 [Value.slice q1 k3 k4] w3 →
  Drw w3 fun (w4 : World) =>
  ∃ (n2 : Int),
  cellAt w4 (Addr.add { block := g, off := (0 : Nat) } (2 : Nat)) (Value.int IntKind.i64 n2) ∧
  ∃ (n3 : Int),
  cellAt w4 (Addr.add { block := g, off := (0 : Nat) } (3 : Nat)) (Value.int IntKind.i64 n3) ∧
  (decide (n2 > IntKind.wrap IntKind.i64 (n3 - n)) = true →
  ∃ (q2 : Option Addr),
  cellAt w4 (Addr.add { block := g, off := (0 : Nat) } (1 : Nat)) (Value.pointer q2) ∧
  someR q2 fun (a1 : Addr) =>
  ∃ (q3 : Option Addr),
  cellAt w4 (Addr.add a1 (3 : Nat)) (Value.pointer q3) ∧
  someR q3 fun (a2 : Addr) =>
  ∃ (n4 : Int),
  cellAt w4 (Addr.add a2 (0 : Nat)) (Value.int IntKind.i64 n4) ∧
  NewR (3 : Nat) [Value.int IntKind.i64 n4] w4 fun (a3 : Addr) (w5 : World) =>
  RunR Try.prog
  (builtinV Builtin.append { toList := [(22 : Nat), (22 : Nat)] } (nat_lit 22)
  { toList := [Value.slice q1 k3 k4, Value.slice (some a3) (1 : Nat) (1 : Nat)] })
  w5 fun (v35 : Value) (w6 : World) =>
  ∃ (q4 : Option Addr),
  ∃ (k5 : Nat),
  ∃ (k6 : Nat),
  v35 = Value.slice q4 k5 k6 ∧
  someR q3 fun (a4 : Addr) =>
  ∃ (n5 : Int),
  cellAt w6 (Addr.add a4 (0 : Nat)) (Value.int IntKind.i64 n5) ∧
  Rets Try.prog (17 : Nat) { toList := [Value.pointer (some { block := g, off := (0 : Nat) }), Value.int IntKind.i64 n5] }
  w6 fun (v36 : Value) (w7 : World) =>
  ∃ (b3 : Bool), v36 = Value.bool b3 ∧ ∃ (k7 : Nat), k7 < k2 ∧ h1 k7 [Value.slice q4 k5 k6] w7) ∧
  (decide (n2 > IntKind.wrap IntKind.i64 (n3 - n)) = false →
  NewR (57 : Nat)
  [Value.int IntKind.i64 k, Value.int IntKind.i64 v, Value.int IntKind.i64 n, Value.pointer none, Value.pointer none] w4
  fun (a5 : Addr) (w8 : World) =>
  ∃ (q5 : Option Nat),
  cellAt w8 (Addr.add { block := g, off := (0 : Nat) } (0 : Nat)) (Value.map q5) ∧
  RunU Try.prog (Instr.mapUpdate (54 : Nat) (Value.map q5) (Value.int IntKind.i64 k) (Value.pointer (some a5))) w8
  fun (w9 : World) =>
  Rets Try.prog (24 : Nat) { toList := [Value.pointer (some { block := g, off := (0 : Nat) }), Value.pointer (some a5)] }
  w9 fun (v37 : Value) (w10 : World) =>
  v37 = Value.tuple { toList := [] } ∧
  ∃ (n6 : Int),
  cellAt w10 (Addr.add { block := g, off := (0 : Nat) } (2 : Nat)) (Value.int IntKind.i64 n6) ∧
  StoreR (Addr.add { block := g, off := (0 : Nat) } (2 : Nat)) [Value.int IntKind.i64 (IntKind.wrap IntKind.i64 (n6 + n))]
  w10 fun (w11 : World) => K (Value.tuple { toList := [Value.slice q1 k3 k4, Value.bool true] }) w11))) ∧
  ((!b1) = true → K (Value.tuple { toList := [Value.slice none (0 : Nat) (0 : Nat), Value.bool false] }) w1)) ∧
  (false = true → K (Value.tuple { toList := [Value.slice none (0 : Nat) (0 : Nat), Value.bool false] }) w)
theorem lru_Cache_int_int_Put_eq (g : Nat) (k : Int) (v n : Int) (w : World) (K : Value → World → Prop) : fw Try.prog Try.f8 (annL [(2, [(8, some 22), (10, none), (30, none), (31, none), (32, none), (33, none), (34, none), (35, none), (36, none), (37, none), (38, none), (39, none), (40, none), (41, none), (42, none), (43, none), (44, none), (45, none), (46, none), (47, none), (48, none), (49, none), (50, none), (51, none), (52, none), (53, none), (54, none), (55, none), (56, none), (57, none), (58, none), (59, none), (60, none)])]) (ordL [(4, [(0, 0), (1, 0), (2, 0), (4, 0), (5, 0), (6, 0), (8, 0), (3, 1), (7, 1), (9, 0), (10, 0)])]) [.pointer (some ⟨g, 0, none⟩), .int .i64 k, .int .i64 v, .int .i64 n] w K = lru_Cache_int_int_Put_m g k v n w K := by kernel_rfl
theorem lru_Cache_int_int_Put_go (g : Nat) (k : Int) (v n : Int) {w : World} {K : Value → World → Prop} (h : lru_Cache_int_int_Put_m g k v n w K) : Rets Try.prog 8 #[.pointer (some ⟨g, 0, none⟩), .int .i64 k, .int .i64 v, .int .i64 n] w K :=
  calls_of_fw plain mixed Try.func8 (by kernel_rfl) (by rw [lru_Cache_int_int_Put_eq]; exact h)
def lru_Cache_int_int_Used_m (g : Nat) (w : World) (K : Value → World → Prop) : Prop :=
  (false = true → K (Value.int IntKind.i64 (0 : Int)) w) ∧
  (false = false →
  ∃ (n1 : Int),
  cellAt w (Addr.add { block := g, off := (0 : Nat) } (2 : Nat)) (Value.int IntKind.i64 n1) ∧
  K (Value.int IntKind.i64 n1) w)
theorem lru_Cache_int_int_Used_eq (g : Nat) (w : World) (K : Value → World → Prop) : fw Try.prog Try.f10 (annL []) (ordL []) [.pointer (some ⟨g, 0, none⟩)] w K = lru_Cache_int_int_Used_m g w K := by kernel_rfl
theorem lru_Cache_int_int_Used_go (g : Nat) {w : World} {K : Value → World → Prop} (h : lru_Cache_int_int_Used_m g w K) : Rets Try.prog 10 #[.pointer (some ⟨g, 0, none⟩)] w K :=
  calls_of_fw plain mixed Try.func10 (by kernel_rfl) (by rw [lru_Cache_int_int_Used_eq]; exact h)
def lru_Cache_int_int_Len_m (g : Nat) (w : World) (K : Value → World → Prop) : Prop :=
  (false = true → K (Value.int IntKind.i64 (0 : Int)) w) ∧
  (false = false →
  ∃ (q1 : Option Nat),
  cellAt w (Addr.add { block := g, off := (0 : Nat) } (0 : Nat)) (Value.map q1) ∧
  RunR Try.prog (builtinV Builtin.len { toList := [(54 : Nat)] } (nat_lit 3) { toList := [Value.map q1] }) w
  fun (v1 : Value) (w1 : World) => ∃ (n1 : Int), v1 = Value.int IntKind.i64 n1 ∧ K (Value.int IntKind.i64 n1) w1)
theorem lru_Cache_int_int_Len_eq (g : Nat) (w : World) (K : Value → World → Prop) : fw Try.prog Try.f13 (annL []) (ordL []) [.pointer (some ⟨g, 0, none⟩)] w K = lru_Cache_int_int_Len_m g w K := by kernel_rfl
theorem lru_Cache_int_int_Len_go (g : Nat) {w : World} {K : Value → World → Prop} (h : lru_Cache_int_int_Len_m g w K) : Rets Try.prog 13 #[.pointer (some ⟨g, 0, none⟩)] w K :=
  calls_of_fw plain mixed Try.func13 (by kernel_rfl) (by rw [lru_Cache_int_int_Len_eq]; exact h)
def lru_Cache_int_int_Most_m (g : Nat) (w : World) (K : Value → World → Prop) : Prop :=
  (false = true → K (Value.int IntKind.i64 (0 : Int)) w) ∧
  (false = false →
  ∃ (n1 : Int),
  cellAt w (Addr.add { block := g, off := (0 : Nat) } (3 : Nat)) (Value.int IntKind.i64 n1) ∧
  K (Value.int IntKind.i64 n1) w)
theorem lru_Cache_int_int_Most_eq (g : Nat) (w : World) (K : Value → World → Prop) : fw Try.prog Try.f15 (annL []) (ordL []) [.pointer (some ⟨g, 0, none⟩)] w K = lru_Cache_int_int_Most_m g w K := by kernel_rfl
theorem lru_Cache_int_int_Most_go (g : Nat) {w : World} {K : Value → World → Prop} (h : lru_Cache_int_int_Most_m g w K) : Rets Try.prog 15 #[.pointer (some ⟨g, 0, none⟩)] w K :=
  calls_of_fw plain mixed Try.func15 (by kernel_rfl) (by rw [lru_Cache_int_int_Most_eq]; exact h)
def lru_New_string_int_m (most : Int) (w : World) (K : Value → World → Prop) : Prop :=
  NewMapR w fun (k1 : Nat) (w1 : World) =>
  NewR (72 : Nat)
  [Value.string { data := #[] }, Value.int IntKind.i64 (0 : Int), Value.int IntKind.i64 (0 : Int), Value.pointer none,
  Value.pointer none]
  w1 fun (a1 : Addr) (w2 : World) =>
  Rets Try.prog (22 : Nat) { toList := [Value.int IntKind.i64 most] } w2 fun (v1 : Value) (w3 : World) =>
  ∃ (n1 : Int),
  v1 = Value.int IntKind.i64 n1 ∧
  NewR (74 : Nat)
  [Value.map (some k1), Value.pointer (some a1), Value.int IntKind.i64 (0 : Int), Value.int IntKind.i64 n1] w3
  fun (a2 : Addr) (w4 : World) =>
  Drw w4 fun (w5 : World) =>
  ∃ (q1 : Option Addr),
  cellAt w5 (Addr.add a2 (1 : Nat)) (Value.pointer q1) ∧
  ∃ (q2 : Option Addr),
  cellAt w5 (Addr.add a2 (1 : Nat)) (Value.pointer q2) ∧
  ∃ (q3 : Option Addr),
  cellAt w5 (Addr.add a2 (1 : Nat)) (Value.pointer q3) ∧
  ∃ (q4 : Option Addr),
  cellAt w5 (Addr.add a2 (1 : Nat)) (Value.pointer q4) ∧
  someR q1 fun (a3 : Addr) =>
  StoreR (Addr.add a3 (3 : Nat)) [Value.pointer q3] w5 fun (w6 : World) =>
  someR q2 fun (a4 : Addr) =>
  StoreR (Addr.add a4 (4 : Nat)) [Value.pointer q4] w6 fun (w7 : World) => K (Value.pointer (some a2)) w7
theorem lru_New_string_int_eq (most : Int) (w : World) (K : Value → World → Prop) : fw Try.prog Try.f18 (annL []) (ordL [(2, [(0, 0), (1, 0), (2, 0), (4, 0), (5, 0), (6, 0), (8, 0), (9, 0), (10, 0), (12, 0), (13, 0), (14, 0), (3, 1), (7, 1), (11, 1), (15, 1), (16, 0), (17, 0), (18, 3), (19, 0), (20, 0), (21, 3)])]) [.int .i64 most] w K = lru_New_string_int_m most w K := by kernel_rfl
theorem lru_New_string_int_go (most : Int) {w : World} {K : Value → World → Prop} (h : lru_New_string_int_m most w K) : Rets Try.prog 18 #[.int .i64 most] w K :=
  calls_of_fw plain mixed Try.func18 (by kernel_rfl) (by rw [lru_New_string_int_eq]; exact h)
def lru_Cache_string_int_out_m (g p : Nat) (w : World) (K : Value → World → Prop) : Prop :=
  Drw w fun (w1 : World) =>
  ∃ (q1 : Option Addr),
  cellAt w1 (Addr.add { block := p, off := (0 : Nat) } (3 : Nat)) (Value.pointer q1) ∧
  ∃ (q2 : Option Addr),
  cellAt w1 (Addr.add { block := p, off := (0 : Nat) } (4 : Nat)) (Value.pointer q2) ∧
  ∃ (q3 : Option Addr),
  cellAt w1 (Addr.add { block := p, off := (0 : Nat) } (4 : Nat)) (Value.pointer q3) ∧
  ∃ (q4 : Option Addr),
  cellAt w1 (Addr.add { block := p, off := (0 : Nat) } (3 : Nat)) (Value.pointer q4) ∧
  someR q1 fun (a1 : Addr) =>
  StoreR (Addr.add a1 (4 : Nat)) [Value.pointer q3] w1 fun (w2 : World) =>
  someR q2 fun (a2 : Addr) =>
  StoreR (Addr.add a2 (3 : Nat)) [Value.pointer q4] w2 fun (w3 : World) => K (Value.tuple { toList := [] }) w3
theorem lru_Cache_string_int_out_eq (g p : Nat) (w : World) (K : Value → World → Prop) : fw Try.prog Try.f36 (annL []) (ordL [(0, [(0, 0), (1, 0), (2, 0), (4, 0), (5, 0), (6, 0), (8, 0), (9, 0), (10, 0), (12, 0), (13, 0), (14, 0), (3, 1), (7, 1), (11, 1), (15, 1), (16, 0), (17, 0), (18, 3), (19, 0), (20, 0), (21, 3)])]) [.pointer (some ⟨g, 0, none⟩), .pointer (some ⟨p, 0, none⟩)] w K = lru_Cache_string_int_out_m g p w K := by kernel_rfl
theorem lru_Cache_string_int_out_go (g p : Nat) {w : World} {K : Value → World → Prop} (h : lru_Cache_string_int_out_m g p w K) : Rets Try.prog 36 #[.pointer (some ⟨g, 0, none⟩), .pointer (some ⟨p, 0, none⟩)] w K :=
  calls_of_fw plain mixed Try.func36 (by kernel_rfl) (by rw [lru_Cache_string_int_out_eq]; exact h)
def lru_Cache_string_int_first_m (g p : Nat) (w : World) (K : Value → World → Prop) : Prop :=
  Drw w fun (w1 : World) =>
  ∃ (q1 : Option Addr),
  cellAt w1 (Addr.add { block := g, off := (0 : Nat) } (1 : Nat)) (Value.pointer q1) ∧
  ∃ (q2 : Option Addr),
  cellAt w1 (Addr.add { block := g, off := (0 : Nat) } (1 : Nat)) (Value.pointer q2) ∧
  someR q2 fun (a1 : Addr) =>
  ∃ (q3 : Option Addr),
  cellAt w1 (Addr.add a1 (4 : Nat)) (Value.pointer q3) ∧
  StoreR (Addr.add { block := p, off := (0 : Nat) } (3 : Nat)) [Value.pointer q1] w1 fun (w2 : World) =>
  StoreR (Addr.add { block := p, off := (0 : Nat) } (4 : Nat)) [Value.pointer q3] w2 fun (w3 : World) =>
  ∃ (q4 : Option Addr),
  cellAt w3 (Addr.add { block := g, off := (0 : Nat) } (1 : Nat)) (Value.pointer q4) ∧
  someR q4 fun (a2 : Addr) =>
  ∃ (q5 : Option Addr),
  cellAt w3 (Addr.add a2 (4 : Nat)) (Value.pointer q5) ∧
  someR q5 fun (a3 : Addr) =>
  StoreR (Addr.add a3 (3 : Nat)) [Value.pointer (some { block := p, off := (0 : Nat) })] w3 fun (w4 : World) =>
  ∃ (q6 : Option Addr),
  cellAt w4 (Addr.add { block := g, off := (0 : Nat) } (1 : Nat)) (Value.pointer q6) ∧
  someR q6 fun (a4 : Addr) =>
  StoreR (Addr.add a4 (4 : Nat)) [Value.pointer (some { block := p, off := (0 : Nat) })] w4 fun (w5 : World) =>
  K (Value.tuple { toList := [] }) w5
theorem lru_Cache_string_int_first_eq (g p : Nat) (w : World) (K : Value → World → Prop) : fw Try.prog Try.f34 (annL []) (ordL [(0, [(0, 0), (1, 0), (2, 0), (3, 0), (4, 0), (6, 0), (7, 0), (8, 0), (5, 1), (9, 1), (10, 0), (11, 0), (12, 1), (13, 0), (14, 0), (15, 3), (16, 0), (17, 0), (18, 3)])]) [.pointer (some ⟨g, 0, none⟩), .pointer (some ⟨p, 0, none⟩)] w K = lru_Cache_string_int_first_m g p w K := by kernel_rfl
theorem lru_Cache_string_int_first_go (g p : Nat) {w : World} {K : Value → World → Prop} (h : lru_Cache_string_int_first_m g p w K) : Rets Try.prog 34 #[.pointer (some ⟨g, 0, none⟩), .pointer (some ⟨p, 0, none⟩)] w K :=
  calls_of_fw plain mixed Try.func34 (by kernel_rfl) (by rw [lru_Cache_string_int_first_eq]; exact h)
def lru_Cache_string_int_Peek_m (g : Nat) (k : ByteArray) (w : World) (K : Value → World → Prop) : Prop :=
  (false = true → K (Value.tuple { toList := [Value.int IntKind.i64 (0 : Int), Value.bool false] }) w) ∧
  (false = false →
  ∃ (q1 : Option Nat),
  cellAt w (Addr.add { block := g, off := (0 : Nat) } (0 : Nat)) (Value.map q1) ∧
  RunR Try.prog (Instr.lookup (69 : Nat) (Value.map q1) (Value.string k) true) w fun (v1 : Value) (w1 : World) =>
  ∃ (q2 : Option Addr),
  ∃ (b1 : Bool),
  v1 = Value.tuple { toList := [Value.pointer q2, Value.bool b1] } ∧
  ((!b1) = true → K (Value.tuple { toList := [Value.int IntKind.i64 (0 : Int), Value.bool false] }) w1) ∧
  ((!b1) = false →
  someR q2 fun (a1 : Addr) =>
  ∃ (n1 : Int),
  cellAt w1 (Addr.add a1 (1 : Nat)) (Value.int IntKind.i64 n1) ∧
  K (Value.tuple { toList := [Value.int IntKind.i64 n1, Value.bool true] }) w1))
theorem lru_Cache_string_int_Peek_eq (g : Nat) (k : ByteArray) (w : World) (K : Value → World → Prop) : fw Try.prog Try.f35 (annL []) (ordL []) [.pointer (some ⟨g, 0, none⟩), .string k] w K = lru_Cache_string_int_Peek_m g k w K := by kernel_rfl
theorem lru_Cache_string_int_Peek_go (g : Nat) (k : ByteArray) {w : World} {K : Value → World → Prop} (h : lru_Cache_string_int_Peek_m g k w K) : Rets Try.prog 35 #[.pointer (some ⟨g, 0, none⟩), .string k] w K :=
  calls_of_fw plain mixed Try.func35 (by kernel_rfl) (by rw [lru_Cache_string_int_Peek_eq]; exact h)
def lru_Cache_string_int_Get_m (g : Nat) (k : ByteArray) (w : World) (K : Value → World → Prop) : Prop :=
  Rets Try.prog (35 : Nat) { toList := [Value.pointer (some { block := g, off := (0 : Nat) }), Value.string k] } w
  fun (v1 : Value) (w1 : World) =>
  ∃ (n1 : Int),
  ∃ (b1 : Bool),
  v1 = Value.tuple { toList := [Value.int IntKind.i64 n1, Value.bool b1] } ∧
  (b1 = true →
  ∃ (q1 : Option Nat),
  cellAt w1 (Addr.add { block := g, off := (0 : Nat) } (0 : Nat)) (Value.map q1) ∧
  RunR Try.prog (Instr.lookup (69 : Nat) (Value.map q1) (Value.string k) false) w1 fun (v2 : Value) (w2 : World) =>
  ∃ (q2 : Option Addr),
  v2 = Value.pointer q2 ∧
  Rets Try.prog (36 : Nat) { toList := [Value.pointer (some { block := g, off := (0 : Nat) }), Value.pointer q2] } w2
  fun (v3 : Value) (w3 : World) =>
  v3 = Value.tuple { toList := [] } ∧
  Rets Try.prog (34 : Nat) { toList := [Value.pointer (some { block := g, off := (0 : Nat) }), Value.pointer q2] } w3
  fun (v4 : Value) (w4 : World) =>
  v4 = Value.tuple { toList := [] } ∧ K (Value.tuple { toList := [Value.int IntKind.i64 n1, Value.bool b1] }) w4) ∧
  (b1 = false → K (Value.tuple { toList := [Value.int IntKind.i64 n1, Value.bool b1] }) w1)
theorem lru_Cache_string_int_Get_eq (g : Nat) (k : ByteArray) (w : World) (K : Value → World → Prop) : fw Try.prog Try.f20 (annL []) (ordL []) [.pointer (some ⟨g, 0, none⟩), .string k] w K = lru_Cache_string_int_Get_m g k w K := by kernel_rfl
theorem lru_Cache_string_int_Get_go (g : Nat) (k : ByteArray) {w : World} {K : Value → World → Prop} (h : lru_Cache_string_int_Get_m g k w K) : Rets Try.prog 20 #[.pointer (some ⟨g, 0, none⟩), .string k] w K :=
  calls_of_fw plain mixed Try.func20 (by kernel_rfl) (by rw [lru_Cache_string_int_Get_eq]; exact h)
def lru_Cache_string_int_Drop_m (g : Nat) (k : ByteArray) (w : World) (K : Value → World → Prop) : Prop :=
  Rets Try.prog (35 : Nat) { toList := [Value.pointer (some { block := g, off := (0 : Nat) }), Value.string k] } w
  fun (v1 : Value) (w1 : World) =>
  ∃ (n1 : Int),
  ∃ (b1 : Bool),
  v1 = Value.tuple { toList := [Value.int IntKind.i64 n1, Value.bool b1] } ∧
  ((!b1) = true → K (Value.bool false) w1) ∧
  ((!b1) = false →
  ∃ (q1 : Option Nat),
  cellAt w1 (Addr.add { block := g, off := (0 : Nat) } (0 : Nat)) (Value.map q1) ∧
  RunR Try.prog (Instr.lookup (69 : Nat) (Value.map q1) (Value.string k) false) w1 fun (v2 : Value) (w2 : World) =>
  ∃ (q2 : Option Addr),
  v2 = Value.pointer q2 ∧
  Rets Try.prog (36 : Nat) { toList := [Value.pointer (some { block := g, off := (0 : Nat) }), Value.pointer q2] } w2
  fun (v3 : Value) (w3 : World) =>
  v3 = Value.tuple { toList := [] } ∧
  Drw w3 fun (w4 : World) =>
  someR q2 fun (a1 : Addr) =>
  ∃ (n2 : Int),
  cellAt w4 (Addr.add { block := g, off := (0 : Nat) } (2 : Nat)) (Value.int IntKind.i64 n2) ∧
  ∃ (n3 : Int),
  cellAt w4 (Addr.add a1 (2 : Nat)) (Value.int IntKind.i64 n3) ∧
  StoreR (Addr.add { block := g, off := (0 : Nat) } (2 : Nat))
  [Value.int IntKind.i64 (IntKind.wrap IntKind.i64 (n2 - n3))] w4 fun (w5 : World) =>
  ∃ (q3 : Option Nat),
  cellAt w5 (Addr.add { block := g, off := (0 : Nat) } (0 : Nat)) (Value.map q3) ∧
  RunR Try.prog
  (builtinV Builtin.delete { toList := [(69 : Nat), (9 : Nat)] } (nat_lit 0) { toList := [Value.map q3, Value.string k] })
  w5 fun (v4 : Value) (w6 : World) => v4 = Value.tuple { toList := [] } ∧ K (Value.bool true) w6)
theorem lru_Cache_string_int_Drop_eq (g : Nat) (k : ByteArray) (w : World) (K : Value → World → Prop) : fw Try.prog Try.f33 (annL []) (ordL [(6, [(0, 0), (1, 0), (2, 0), (4, 0), (5, 0), (6, 0), (3, 1), (7, 1), (8, 0), (9, 0), (10, 0), (11, 3)])]) [.pointer (some ⟨g, 0, none⟩), .string k] w K = lru_Cache_string_int_Drop_m g k w K := by kernel_rfl
theorem lru_Cache_string_int_Drop_go (g : Nat) (k : ByteArray) {w : World} {K : Value → World → Prop} (h : lru_Cache_string_int_Drop_m g k w K) : Rets Try.prog 33 #[.pointer (some ⟨g, 0, none⟩), .string k] w K :=
  calls_of_fw plain mixed Try.func33 (by kernel_rfl) (by rw [lru_Cache_string_int_Drop_eq]; exact h)
def lru_Cache_string_int_Put_m (g : Nat) (k : ByteArray) (v n : Int) (w : World) (K : Value → World → Prop) : Prop :=
  (false = false →
  Rets Try.prog (25 : Nat) { toList := [Value.int IntKind.i64 n] } w fun (v1 : Value) (w1 : World) =>
  ∃ (b1 : Bool),
  v1 = Value.bool b1 ∧
  ((!b1) = false →
  ∃ (n1 : Int),
  cellAt w1 (Addr.add { block := g, off := (0 : Nat) } (3 : Nat)) (Value.int IntKind.i64 n1) ∧
  (decide (n > n1) = true → K (Value.tuple { toList := [Value.slice none (0 : Nat) (0 : Nat), Value.bool false] }) w1) ∧
  (decide (n > n1) = false →
  Rets Try.prog (33 : Nat) { toList := [Value.pointer (some { block := g, off := (0 : Nat) }), Value.string k] } w1
  fun (v2 : Value) (w2 : World) =>
  ∃ (b2 : Bool),
  v2 = Value.bool b2 ∧
  ∃ (h1 : Nat → List Value → World → Prop),
  (∃ (k1 : Nat), h1 k1 [Value.slice none (0 : Nat) (0 : Nat)] w2) ∧
  ∀ (k2 : Nat) (w3 : World) (q1 : Option Addr) (k3 k4 : Nat)
  (v3 v4 v5 v6 v7 v8 v9 v10 v11 v12 v13 v14 v15 v16 v17 v18 v19 v20 v21 v22 v23 v24 v25 v26 v27 v28 v29 v30 v31 v32 v33
  v34 : Value),
  h1 k2 [Value.slice q1 k3 k4] w3 →
  Drw w3 fun (w4 : World) =>
  ∃ (n2 : Int),
  cellAt w4 (Addr.add { block := g, off := (0 : Nat) } (2 : Nat)) (Value.int IntKind.i64 n2) ∧
  ∃ (n3 : Int),
  cellAt w4 (Addr.add { block := g, off := (0 : Nat) } (3 : Nat)) (Value.int IntKind.i64 n3) ∧
  (decide (n2 > IntKind.wrap IntKind.i64 (n3 - n)) = true →
  ∃ (q2 : Option Addr),
  cellAt w4 (Addr.add { block := g, off := (0 : Nat) } (1 : Nat)) (Value.pointer q2) ∧
  someR q2 fun (a1 : Addr) =>
  ∃ (q3 : Option Addr),
  cellAt w4 (Addr.add a1 (3 : Nat)) (Value.pointer q3) ∧
  someR q3 fun (a2 : Addr) =>
  ∃ (s1 : ByteArray),
  cellAt w4 (Addr.add a2 (0 : Nat)) (Value.string s1) ∧
  NewR (9 : Nat) [Value.string s1] w4 fun (a3 : Addr) (w5 : World) =>
  RunR Try.prog
  (builtinV Builtin.append { toList := [(50 : Nat), (50 : Nat)] } (nat_lit 50)
  { toList := [Value.slice q1 k3 k4, Value.slice (some a3) (1 : Nat) (1 : Nat)] })
  w5 fun (v35 : Value) (w6 : World) =>
  ∃ (q4 : Option Addr),
  ∃ (k5 : Nat),
  ∃ (k6 : Nat),
  v35 = Value.slice q4 k5 k6 ∧
  someR q3 fun (a4 : Addr) =>
  ∃ (s2 : ByteArray),
  cellAt w6 (Addr.add a4 (0 : Nat)) (Value.string s2) ∧
  Rets Try.prog (33 : Nat) { toList := [Value.pointer (some { block := g, off := (0 : Nat) }), Value.string s2] } w6
  fun (v36 : Value) (w7 : World) =>
  ∃ (b3 : Bool), v36 = Value.bool b3 ∧ ∃ (k7 : Nat), k7 < k2 ∧ h1 k7 [Value.slice q4 k5 k6] w7) ∧
  (decide (n2 > IntKind.wrap IntKind.i64 (n3 - n)) = false →
  NewR (72 : Nat)
  [Value.string k, Value.int IntKind.i64 v, Value.int IntKind.i64 n, Value.pointer none, Value.pointer none] w4
  fun (a5 : Addr) (w8 : World) =>
  ∃ (q5 : Option Nat),
  cellAt w8 (Addr.add { block := g, off := (0 : Nat) } (0 : Nat)) (Value.map q5) ∧
  RunU Try.prog (Instr.mapUpdate (69 : Nat) (Value.map q5) (Value.string k) (Value.pointer (some a5))) w8
  fun (w9 : World) =>
  Rets Try.prog (34 : Nat) { toList := [Value.pointer (some { block := g, off := (0 : Nat) }), Value.pointer (some a5)] }
  w9 fun (v37 : Value) (w10 : World) =>
  v37 = Value.tuple { toList := [] } ∧
  ∃ (n4 : Int),
  cellAt w10 (Addr.add { block := g, off := (0 : Nat) } (2 : Nat)) (Value.int IntKind.i64 n4) ∧
  StoreR (Addr.add { block := g, off := (0 : Nat) } (2 : Nat)) [Value.int IntKind.i64 (IntKind.wrap IntKind.i64 (n4 + n))]
  w10 fun (w11 : World) => K (Value.tuple { toList := [Value.slice q1 k3 k4, Value.bool true] }) w11))) ∧
  ((!b1) = true → K (Value.tuple { toList := [Value.slice none (0 : Nat) (0 : Nat), Value.bool false] }) w1)) ∧
  (false = true → K (Value.tuple { toList := [Value.slice none (0 : Nat) (0 : Nat), Value.bool false] }) w)
theorem lru_Cache_string_int_Put_eq (g : Nat) (k : ByteArray) (v n : Int) (w : World) (K : Value → World → Prop) : fw Try.prog Try.f19 (annL [(2, [(8, some 50), (10, none), (30, none), (31, none), (32, none), (33, none), (34, none), (35, none), (36, none), (37, none), (38, none), (39, none), (40, none), (41, none), (42, none), (43, none), (44, none), (45, none), (46, none), (47, none), (48, none), (49, none), (50, none), (51, none), (52, none), (53, none), (54, none), (55, none), (56, none), (57, none), (58, none), (59, none), (60, none)])]) (ordL [(4, [(0, 0), (1, 0), (2, 0), (4, 0), (5, 0), (6, 0), (8, 0), (3, 1), (7, 1), (9, 0), (10, 0)])]) [.pointer (some ⟨g, 0, none⟩), .string k, .int .i64 v, .int .i64 n] w K = lru_Cache_string_int_Put_m g k v n w K := by kernel_rfl
theorem lru_Cache_string_int_Put_go (g : Nat) (k : ByteArray) (v n : Int) {w : World} {K : Value → World → Prop} (h : lru_Cache_string_int_Put_m g k v n w K) : Rets Try.prog 19 #[.pointer (some ⟨g, 0, none⟩), .string k, .int .i64 v, .int .i64 n] w K :=
  calls_of_fw plain mixed Try.func19 (by kernel_rfl) (by rw [lru_Cache_string_int_Put_eq]; exact h)
def lru_Cache_string_int_Used_m (g : Nat) (w : World) (K : Value → World → Prop) : Prop :=
  (false = true → K (Value.int IntKind.i64 (0 : Int)) w) ∧
  (false = false →
  ∃ (n1 : Int),
  cellAt w (Addr.add { block := g, off := (0 : Nat) } (2 : Nat)) (Value.int IntKind.i64 n1) ∧
  K (Value.int IntKind.i64 n1) w)
theorem lru_Cache_string_int_Used_eq (g : Nat) (w : World) (K : Value → World → Prop) : fw Try.prog Try.f21 (annL []) (ordL []) [.pointer (some ⟨g, 0, none⟩)] w K = lru_Cache_string_int_Used_m g w K := by kernel_rfl
theorem lru_Cache_string_int_Used_go (g : Nat) {w : World} {K : Value → World → Prop} (h : lru_Cache_string_int_Used_m g w K) : Rets Try.prog 21 #[.pointer (some ⟨g, 0, none⟩)] w K :=
  calls_of_fw plain mixed Try.func21 (by kernel_rfl) (by rw [lru_Cache_string_int_Used_eq]; exact h)
end Go.Proofs.Ytianklbklggboaa.Eng
