/- What the code of these functions asks for: printed by a program of this session's (gens.py) out of the seat's own functions; the kernel checks each row. -/
import Derived.Test.YtipcbhaeoeghnaaEngH
import Derived.Test.YtipcbhaeoeghnaaProg
import Derived.Test.YtipcbhaeoeghnaaBase
namespace Go.Proofs.Ytipcbhaeoeghnaa.Eng
open Go Go.Proofs
set_option linter.unusedVariables false
set_option maxRecDepth 1000000
def rank_Tree_int_int_All_m (q : Option Addr) (w : World) (K : Value → World → Prop) : Prop :=
  NewR (59 : Nat) [Value.pointer q] w fun (a1 : Addr) (w1 : World) =>
  K (Value.func (Fn.func (87 : Nat)) { toList := [] } { toList := [Value.pointer (some a1)] }) w1
theorem rank_Tree_int_int_All_eq (q : Option Addr) (w : World) (K : Value → World → Prop) : fw Try.prog Try.f37 (annL []) (ordL []) [.pointer q] w K = rank_Tree_int_int_All_m q w K := by kernel_rfl
theorem rank_Tree_int_int_All_go (q : Option Addr) {w : World} {K : Value → World → Prop} (h : rank_Tree_int_int_All_m q w K) : Rets Try.prog 37 #[.pointer q] w K :=
  calls_of_fw plain mixed Try.func37 (by kernel_rfl) (by rw [rank_Tree_int_int_All_eq]; exact h)
def rank_Tree_int_int_From_m (q : Option Addr) (k : Int) (w : World) (K : Value → World → Prop) : Prop :=
  NewR (59 : Nat) [Value.pointer q] w fun (a1 : Addr) (w1 : World) =>
  NewR (3 : Nat) [Value.int IntKind.i64 k] w1 fun (a2 : Addr) (w2 : World) =>
  K (Value.func (Fn.func (90 : Nat)) { toList := [] } { toList := [Value.pointer (some a1), Value.pointer (some a2)] }) w2
theorem rank_Tree_int_int_From_eq (q : Option Addr) (k : Int) (w : World) (K : Value → World → Prop) : fw Try.prog Try.f38 (annL []) (ordL []) [.pointer q, .int .i64 k] w K = rank_Tree_int_int_From_m q k w K := by kernel_rfl
theorem rank_Tree_int_int_From_go (q : Option Addr) (k : Int) {w : World} {K : Value → World → Prop} (h : rank_Tree_int_int_From_m q k w K) : Rets Try.prog 38 #[.pointer q, .int .i64 k] w K :=
  calls_of_fw plain mixed Try.func38 (by kernel_rfl) (by rw [rank_Tree_int_int_From_eq]; exact h)
def rank_Tree_int_int_All_1_m (l b : Nat) (w : World) (K : Value → World → Prop) : Prop :=
  ∃ (q1 : Option Addr),
  cellAt w { block := b, off := (0 : Nat) } (Value.pointer q1) ∧
  ((!Option.isNone q1) = true →
  ∃ (q2 : Option Addr),
  cellAt w { block := b, off := (0 : Nat) } (Value.pointer q2) ∧
  someR q2 fun (a1 : Addr) =>
  ∃ (q3 : Option Addr),
  cellAt w (Addr.add a1 (1 : Nat)) (Value.pointer q3) ∧
  Rets Try.prog (88 : Nat)
  {
  toList :=
  [Value.pointer q3, Value.func (Fn.func (89 : Nat)) { toList := [] } { toList := [] },
  Value.func (Fn.yield l) { toList := [] } { toList := [] }] }
  w fun (v1 : Value) (w1 : World) => ∃ (b1 : Bool), v1 = Value.bool b1 ∧ K (Value.tuple { toList := [] }) w1) ∧
  ((!Option.isNone q1) = false → K (Value.tuple { toList := [] }) w)
theorem rank_Tree_int_int_All_1_eq (l b : Nat) (w : World) (K : Value → World → Prop) : fw Try.prog Try.f87 (annL []) (ordL []) [.func (.yield l) #[] #[], .pointer (some ⟨b, 0, none⟩)] w K = rank_Tree_int_int_All_1_m l b w K := by kernel_rfl
theorem rank_Tree_int_int_All_1_go (l b : Nat) {w : World} {K : Value → World → Prop} (h : rank_Tree_int_int_All_1_m l b w K) : Rets Try.prog 87 #[.func (.yield l) #[] #[], .pointer (some ⟨b, 0, none⟩)] w K :=
  calls_of_fw plain mixed Try.func87 (by kernel_rfl) (by rw [rank_Tree_int_int_All_1_eq]; exact h)
def rank_Tree_int_int_From_1_m (l a b : Nat) (w : World) (K : Value → World → Prop) : Prop :=
  ∃ (q1 : Option Addr),
  cellAt w { block := a, off := (0 : Nat) } (Value.pointer q1) ∧
  ((!Option.isNone q1) = true →
  ∃ (q2 : Option Addr),
  cellAt w { block := a, off := (0 : Nat) } (Value.pointer q2) ∧
  someR q2 fun (a1 : Addr) =>
  ∃ (q3 : Option Addr),
  cellAt w (Addr.add a1 (1 : Nat)) (Value.pointer q3) ∧
  Rets Try.prog (88 : Nat)
  {
  toList :=
  [Value.pointer q3,
  Value.func (Fn.func (91 : Nat)) { toList := [] }
  {
  toList :=
  [Value.pointer (some { block := a, off := (0 : Nat) }), Value.pointer (some { block := b, off := (0 : Nat) })] },
  Value.func (Fn.yield l) { toList := [] } { toList := [] }] }
  w fun (v1 : Value) (w1 : World) => ∃ (b1 : Bool), v1 = Value.bool b1 ∧ K (Value.tuple { toList := [] }) w1) ∧
  ((!Option.isNone q1) = false → K (Value.tuple { toList := [] }) w)
theorem rank_Tree_int_int_From_1_eq (l a b : Nat) (w : World) (K : Value → World → Prop) : fw Try.prog Try.f90 (annL []) (ordL []) [.func (.yield l) #[] #[], .pointer (some ⟨a, 0, none⟩), .pointer (some ⟨b, 0, none⟩)] w K = rank_Tree_int_int_From_1_m l a b w K := by kernel_rfl
theorem rank_Tree_int_int_From_1_go (l a b : Nat) {w : World} {K : Value → World → Prop} (h : rank_Tree_int_int_From_1_m l a b w K) : Rets Try.prog 90 #[.func (.yield l) #[] #[], .pointer (some ⟨a, 0, none⟩), .pointer (some ⟨b, 0, none⟩)] w K :=
  calls_of_fw plain mixed Try.func90 (by kernel_rfl) (by rw [rank_Tree_int_int_From_1_eq]; exact h)
def rank_Tree_int_int_All_1_1_m (x : Int) (w : World) (K : Value → World → Prop) : Prop :=
  K (Value.bool true) w
theorem rank_Tree_int_int_All_1_1_eq (x : Int) (w : World) (K : Value → World → Prop) : fw Try.prog Try.f89 (annL []) (ordL []) [.int .i64 x] w K = rank_Tree_int_int_All_1_1_m x w K := by kernel_rfl
theorem rank_Tree_int_int_All_1_1_go (x : Int) {w : World} {K : Value → World → Prop} (h : rank_Tree_int_int_All_1_1_m x w K) : Rets Try.prog 89 #[.int .i64 x] w K :=
  calls_of_fw plain mixed Try.func89 (by kernel_rfl) (by rw [rank_Tree_int_int_All_1_1_eq]; exact h)
def rank_Tree_int_int_From_1_1_m (x : Int) (a b : Nat) (w : World) (K : Value → World → Prop) : Prop :=
  Drw w fun (w1 : World) =>
  ∃ (q1 : Option Addr),
  cellAt w1 { block := a, off := (0 : Nat) } (Value.pointer q1) ∧
  someR q1 fun (a1 : Addr) =>
  ∃ (k1 : Nat),
  ∃ (a2 : Array Value),
  ∃ (c1 : Array Value),
  cellAt w1 (Addr.add a1 (0 : Nat)) (Value.func (Fn.func k1) a2 c1) ∧
  ∃ (n1 : Int),
  cellAt w1 { block := b, off := (0 : Nat) } (Value.int IntKind.i64 n1) ∧
  callG Try.prog k1 (Array.toList a2) [Value.int IntKind.i64 x, Value.int IntKind.i64 n1] (Array.toList c1) w1
  fun (v1 : Value) (w2 : World) =>
  ∃ (n2 : Int), v1 = Value.int IntKind.i64 n2 ∧ K (Value.bool (decide (n2 ≥ (0 : Int)))) w2
theorem rank_Tree_int_int_From_1_1_eq (x : Int) (a b : Nat) (w : World) (K : Value → World → Prop) : fw Try.prog Try.f91 (annL []) (ordL [(1, [(4, 0), (0, 1), (1, 0), (2, 0), (3, 1), (5, 1), (6, 3), (7, 0), (8, 0)])]) [.int .i64 x, .pointer (some ⟨a, 0, none⟩), .pointer (some ⟨b, 0, none⟩)] w K = rank_Tree_int_int_From_1_1_m x a b w K := by kernel_rfl
theorem rank_Tree_int_int_From_1_1_go (x : Int) (a b : Nat) {w : World} {K : Value → World → Prop} (h : rank_Tree_int_int_From_1_1_m x a b w K) : Rets Try.prog 91 #[.int .i64 x, .pointer (some ⟨a, 0, none⟩), .pointer (some ⟨b, 0, none⟩)] w K :=
  calls_of_fw plain mixed Try.func91 (by kernel_rfl) (by rw [rank_Tree_int_int_From_1_1_eq]; exact h)
def walk_all_m (p : Option Addr) (l : Nat) (w : World) (K : Value → World → Prop) : Prop :=
  (Option.isNone p = true → K (Value.bool true) w) ∧
  (Option.isNone p = false →
  someR p fun (a1 : Addr) =>
  ∃ (n1 : Int),
  cellAt w (Addr.add a1 (0 : Nat)) (Value.int IntKind.i64 n1) ∧
  Rets Try.prog (89 : Nat) { toList := [Value.int IntKind.i64 n1] } w fun (v1 : Value) (w1 : World) =>
  ∃ (b1 : Bool),
  v1 = Value.bool b1 ∧
  ((!b1) = true →
  someR p fun (a2 : Addr) =>
  ∃ (q1 : Option Addr),
  cellAt w1 (Addr.add a2 (3 : Nat)) (Value.pointer q1) ∧
  Rets Try.prog (88 : Nat)
  {
  toList :=
  [Value.pointer q1, Value.func (Fn.func (89 : Nat)) { toList := [] } { toList := [] },
  Value.func (Fn.yield l) { toList := [] } { toList := [] }] }
  w1 fun (v2 : Value) (w2 : World) => ∃ (b2 : Bool), v2 = Value.bool b2 ∧ K (Value.bool b2) w2) ∧
  ((!b1) = false →
  Drw w1 fun (w3 : World) =>
  ∃ (h1 : World → Prop),
  h1 w3 ∧
  someR p fun (a3 : Addr) =>
  ∃ (q2 : Option Addr),
  (∀ (w4 : World), h1 w4 → World.cell? w4 (Addr.add a3 (2 : Nat)) = some (Value.pointer q2)) ∧
  Rets Try.prog (88 : Nat)
  {
  toList :=
  [Value.pointer q2, Value.func (Fn.func (89 : Nat)) { toList := [] } { toList := [] },
  Value.func (Fn.yield l) { toList := [] } { toList := [] }] }
  w3 fun (v3 : Value) (w5 : World) =>
  ∃ (b3 : Bool),
  v3 = Value.bool b3 ∧
  h1 w5 ∧
  (b3 = true →
  someR p fun (a4 : Addr) =>
  someR p fun (a5 : Addr) =>
  ∃ (n2 : Int),
  (∀ (w6 : World), h1 w6 → World.cell? w6 (Addr.add a4 (0 : Nat)) = some (Value.int IntKind.i64 n2)) ∧
  ∃ (n3 : Int),
  (∀ (w7 : World), h1 w7 → World.cell? w7 (Addr.add a5 (1 : Nat)) = some (Value.int IntKind.i64 n3)) ∧
  RoundR Try.prog l { toList := [Value.int IntKind.i64 n2, Value.int IntKind.i64 n3] } w5 fun (v4 : Value) (w8 : World) =>
  ∃ (b4 : Bool),
  v4 = Value.bool b4 ∧
  h1 w8 ∧
  (b4 = true →
  someR p fun (a6 : Addr) =>
  ∃ (q3 : Option Addr),
  (∀ (w9 : World), h1 w9 → World.cell? w9 (Addr.add a6 (3 : Nat)) = some (Value.pointer q3)) ∧
  Rets Try.prog (88 : Nat)
  {
  toList :=
  [Value.pointer q3, Value.func (Fn.func (89 : Nat)) { toList := [] } { toList := [] },
  Value.func (Fn.yield l) { toList := [] } { toList := [] }] }
  w8 fun (v5 : Value) (w10 : World) => ∃ (b5 : Bool), v5 = Value.bool b5 ∧ K (Value.bool b5) w10) ∧
  (b4 = false → K (Value.bool false) w8)) ∧
  (b3 = false → K (Value.bool false) w5)))
theorem walk_all_eq (p : Option Addr) (l : Nat) (w : World) (K : Value → World → Prop) : fw Try.prog Try.f88 (annL []) (ordL [(5, [(0, 0), (1, 0), (2, 0), (4, 0), (5, 0), (3, 1), (6, 2), (7, 0), (8, 0), (9, 0), (10, 0), (11, 0), (13, 0), (14, 0), (15, 0), (12, 1), (16, 1), (17, 2), (18, 0), (19, 0), (20, 0), (21, 0), (22, 0), (24, 0), (25, 0), (23, 1), (26, 3), (27, 0), (28, 0)])]) [.pointer p, .func (.func 89) #[] #[], .func (.yield l) #[] #[]] w K = walk_all_m p l w K := by kernel_rfl
theorem walk_all_go (p : Option Addr) (l : Nat) {w : World} {K : Value → World → Prop} (h : walk_all_m p l w K) : Rets Try.prog 88 #[.pointer p, .func (.func 89) #[] #[], .func (.yield l) #[] #[]] w K :=
  calls_of_fw plain mixed Try.func88 (by kernel_rfl) (by rw [walk_all_eq]; exact h)
def walk_from_m (p : Option Addr) (l a b : Nat) (w : World) (K : Value → World → Prop) : Prop :=
  (Option.isNone p = true → K (Value.bool true) w) ∧
  (Option.isNone p = false →
  someR p fun (a1 : Addr) =>
  ∃ (n1 : Int),
  cellAt w (Addr.add a1 (0 : Nat)) (Value.int IntKind.i64 n1) ∧
  Rets Try.prog (91 : Nat)
  {
  toList :=
  [Value.int IntKind.i64 n1, Value.pointer (some { block := a, off := (0 : Nat) }),
  Value.pointer (some { block := b, off := (0 : Nat) })] }
  w fun (v1 : Value) (w1 : World) =>
  ∃ (b1 : Bool),
  v1 = Value.bool b1 ∧
  ((!b1) = true →
  someR p fun (a2 : Addr) =>
  ∃ (q1 : Option Addr),
  cellAt w1 (Addr.add a2 (3 : Nat)) (Value.pointer q1) ∧
  Rets Try.prog (88 : Nat)
  {
  toList :=
  [Value.pointer q1,
  Value.func (Fn.func (91 : Nat)) { toList := [] }
  {
  toList :=
  [Value.pointer (some { block := a, off := (0 : Nat) }), Value.pointer (some { block := b, off := (0 : Nat) })] },
  Value.func (Fn.yield l) { toList := [] } { toList := [] }] }
  w1 fun (v2 : Value) (w2 : World) => ∃ (b2 : Bool), v2 = Value.bool b2 ∧ K (Value.bool b2) w2) ∧
  ((!b1) = false →
  Drw w1 fun (w3 : World) =>
  ∃ (h1 : World → Prop),
  h1 w3 ∧
  someR p fun (a3 : Addr) =>
  ∃ (q2 : Option Addr),
  (∀ (w4 : World), h1 w4 → World.cell? w4 (Addr.add a3 (2 : Nat)) = some (Value.pointer q2)) ∧
  Rets Try.prog (88 : Nat)
  {
  toList :=
  [Value.pointer q2,
  Value.func (Fn.func (91 : Nat)) { toList := [] }
  {
  toList :=
  [Value.pointer (some { block := a, off := (0 : Nat) }), Value.pointer (some { block := b, off := (0 : Nat) })] },
  Value.func (Fn.yield l) { toList := [] } { toList := [] }] }
  w3 fun (v3 : Value) (w5 : World) =>
  ∃ (b3 : Bool),
  v3 = Value.bool b3 ∧
  h1 w5 ∧
  (b3 = true →
  someR p fun (a4 : Addr) =>
  someR p fun (a5 : Addr) =>
  ∃ (n2 : Int),
  (∀ (w6 : World), h1 w6 → World.cell? w6 (Addr.add a4 (0 : Nat)) = some (Value.int IntKind.i64 n2)) ∧
  ∃ (n3 : Int),
  (∀ (w7 : World), h1 w7 → World.cell? w7 (Addr.add a5 (1 : Nat)) = some (Value.int IntKind.i64 n3)) ∧
  RoundR Try.prog l { toList := [Value.int IntKind.i64 n2, Value.int IntKind.i64 n3] } w5 fun (v4 : Value) (w8 : World) =>
  ∃ (b4 : Bool),
  v4 = Value.bool b4 ∧
  h1 w8 ∧
  (b4 = true →
  someR p fun (a6 : Addr) =>
  ∃ (q3 : Option Addr),
  (∀ (w9 : World), h1 w9 → World.cell? w9 (Addr.add a6 (3 : Nat)) = some (Value.pointer q3)) ∧
  Rets Try.prog (88 : Nat)
  {
  toList :=
  [Value.pointer q3,
  Value.func (Fn.func (91 : Nat)) { toList := [] }
  {
  toList :=
  [Value.pointer (some { block := a, off := (0 : Nat) }), Value.pointer (some { block := b, off := (0 : Nat) })] },
  Value.func (Fn.yield l) { toList := [] } { toList := [] }] }
  w8 fun (v5 : Value) (w10 : World) => ∃ (b5 : Bool), v5 = Value.bool b5 ∧ K (Value.bool b5) w10) ∧
  (b4 = false → K (Value.bool false) w8)) ∧
  (b3 = false → K (Value.bool false) w5)))
theorem walk_from_eq (p : Option Addr) (l a b : Nat) (w : World) (K : Value → World → Prop) : fw Try.prog Try.f88 (annL []) (ordL [(5, [(0, 0), (1, 0), (2, 0), (4, 0), (5, 0), (3, 1), (6, 2), (7, 0), (8, 0), (9, 0), (10, 0), (11, 0), (13, 0), (14, 0), (15, 0), (12, 1), (16, 1), (17, 2), (18, 0), (19, 0), (20, 0), (21, 0), (22, 0), (24, 0), (25, 0), (23, 1), (26, 3), (27, 0), (28, 0)])]) [.pointer p, .func (.func 91) #[] #[.pointer (some ⟨a, 0, none⟩), .pointer (some ⟨b, 0, none⟩)], .func (.yield l) #[] #[]] w K = walk_from_m p l a b w K := by kernel_rfl
theorem walk_from_go (p : Option Addr) (l a b : Nat) {w : World} {K : Value → World → Prop} (h : walk_from_m p l a b w K) : Rets Try.prog 88 #[.pointer p, .func (.func 91) #[] #[.pointer (some ⟨a, 0, none⟩), .pointer (some ⟨b, 0, none⟩)], .func (.yield l) #[] #[]] w K :=
  calls_of_fw plain mixed Try.func88 (by kernel_rfl) (by rw [walk_from_eq]; exact h)
def told_all_m (b : Nat) (most : Int) (w : World) (K : Value → World → Prop) : Prop :=
  NewR (3 : Nat) [Value.int IntKind.i64 most] w fun (a1 : Addr) (w1 : World) =>
  NewR (58 : Nat) [Value.slice none (0 : Nat) (0 : Nat)] w1 fun (a2 : Addr) (w2 : World) =>
  (false = true → K (Value.slice none (0 : Nat) (0 : Nat)) w2) ∧
  (false = false →
  ∃ (v1 : Value),
  Value.func (Fn.func (87 : Nat)) { toList := [] } { toList := [Value.pointer (some { block := b, off := (0 : Nat) })] } =
  Value.func (Fn.func (87 : Nat)) { toList := [] } { toList := [v1] } ∧
  LoopR w2 fun (k1 k2 : Nat) (L1 : Loop) (w3 : World) =>
  (∀ (n1 n2 : Int) (w4 : World) (h1 : Value → World → Prop),
  RecR k2 L1 w4 →
  (BegR k2 L1 w4 fun (w5 : World) =>
  ∃ (q1 : Option Addr),
  ∃ (k3 : Nat),
  ∃ (k4 : Nat),
  cellAt w5 a2 (Value.slice q1 k3 k4) ∧
  ∃ (n3 : Int),
  cellAt w5 a1 (Value.int IntKind.i64 n3) ∧
  (decide ((↑k3 : Int) ≥ n3) = true →
  FinR k2 L1 (some (Code.exit (0 : Nat))) w5 fun (w6 : World) => h1 (Value.bool false) w6) ∧
  (decide ((↑k3 : Int) ≥ n3) = false →
  ∃ (q2 : Option Addr),
  ∃ (k5 : Nat),
  ∃ (k6 : Nat),
  cellAt w5 a2 (Value.slice q2 k5 k6) ∧
  NewR (64 : Nat) [Value.int IntKind.i64 n1, Value.int IntKind.i64 n2] w5 fun (a3 : Addr) (w7 : World) =>
  RunR Try.prog
  (builtinV Builtin.append { toList := [(58 : Nat), (58 : Nat)] } (nat_lit 58)
  { toList := [Value.slice q2 k5 k6, Value.slice (some a3) (1 : Nat) (1 : Nat)] })
  w7 fun (v2 : Value) (w8 : World) =>
  ∃ (q3 : Option Addr),
  ∃ (k7 : Nat),
  ∃ (k8 : Nat),
  v2 = Value.slice q3 k7 k8 ∧
  StoreR a2 [Value.slice q3 k7 k8] w8 fun (w9 : World) =>
  FinR k2 L1 none w9 fun (w10 : World) => h1 (Value.bool true) w10)) →
  RoundR Try.prog k2 { toList := [Value.int IntKind.i64 n1, Value.int IntKind.i64 n2] } w4 h1) →
  Rets Try.prog (87 : Nat) { toList := [Value.func (Fn.yield k2) { toList := [] } { toList := [] }, v1] } w3
  fun (v3 : Value) (w11 : World) =>
  (EndR k2 L1 none w11 fun (w12 : World) =>
  ∃ (q4 : Option Addr),
  ∃ (k9 : Nat),
  ∃ (k10 : Nat),
  cellAt w12 a2 (Value.slice q4 k9 k10) ∧ MarkR k1 w12 fun (w13 : World) => K (Value.slice q4 k9 k10) w13) ∨
  EndR k2 L1 (some (Code.exit (0 : Nat))) w11 fun (w14 : World) =>
  ∃ (q5 : Option Addr),
  ∃ (k11 : Nat),
  ∃ (k12 : Nat),
  cellAt w14 a2 (Value.slice q5 k11 k12) ∧ MarkR k1 w14 fun (w15 : World) => K (Value.slice q5 k11 k12) w15)
theorem told_all_eq (b : Nat) (most : Int) (w : World) (K : Value → World → Prop) : fw Try.prog Try.f36 (annL [(2, [(11, some 3), (12, some 3)])]) (ordL [(1000002, [(87, 1)])]) [.func (.func 87) #[] #[.pointer (some ⟨b, 0, none⟩)], .int .i64 most] w K = told_all_m b most w K := by kernel_rfl
theorem told_all_go (b : Nat) (most : Int) {w : World} {K : Value → World → Prop} (h : told_all_m b most w K) : Rets Try.prog 36 #[.func (.func 87) #[] #[.pointer (some ⟨b, 0, none⟩)], .int .i64 most] w K :=
  calls_of_fw plain mixed Try.func36 (by kernel_rfl) (by rw [told_all_eq]; exact h)
def told_from_m (a b : Nat) (most : Int) (w : World) (K : Value → World → Prop) : Prop :=
  NewR (3 : Nat) [Value.int IntKind.i64 most] w fun (a1 : Addr) (w1 : World) =>
  NewR (58 : Nat) [Value.slice none (0 : Nat) (0 : Nat)] w1 fun (a2 : Addr) (w2 : World) =>
  (false = true → K (Value.slice none (0 : Nat) (0 : Nat)) w2) ∧
  (false = false →
  ∃ (v1 : Value),
  ∃ (v2 : Value),
  Value.func (Fn.func (90 : Nat)) { toList := [] }
  {
  toList :=
  [Value.pointer (some { block := a, off := (0 : Nat) }), Value.pointer (some { block := b, off := (0 : Nat) })] } =
  Value.func (Fn.func (90 : Nat)) { toList := [] } { toList := [v1, v2] } ∧
  LoopR w2 fun (k1 k2 : Nat) (L1 : Loop) (w3 : World) =>
  (∀ (n1 n2 : Int) (w4 : World) (h1 : Value → World → Prop),
  RecR k2 L1 w4 →
  (BegR k2 L1 w4 fun (w5 : World) =>
  ∃ (q1 : Option Addr),
  ∃ (k3 : Nat),
  ∃ (k4 : Nat),
  cellAt w5 a2 (Value.slice q1 k3 k4) ∧
  ∃ (n3 : Int),
  cellAt w5 a1 (Value.int IntKind.i64 n3) ∧
  (decide ((↑k3 : Int) ≥ n3) = true →
  FinR k2 L1 (some (Code.exit (0 : Nat))) w5 fun (w6 : World) => h1 (Value.bool false) w6) ∧
  (decide ((↑k3 : Int) ≥ n3) = false →
  ∃ (q2 : Option Addr),
  ∃ (k5 : Nat),
  ∃ (k6 : Nat),
  cellAt w5 a2 (Value.slice q2 k5 k6) ∧
  NewR (64 : Nat) [Value.int IntKind.i64 n1, Value.int IntKind.i64 n2] w5 fun (a3 : Addr) (w7 : World) =>
  RunR Try.prog
  (builtinV Builtin.append { toList := [(58 : Nat), (58 : Nat)] } (nat_lit 58)
  { toList := [Value.slice q2 k5 k6, Value.slice (some a3) (1 : Nat) (1 : Nat)] })
  w7 fun (v3 : Value) (w8 : World) =>
  ∃ (q3 : Option Addr),
  ∃ (k7 : Nat),
  ∃ (k8 : Nat),
  v3 = Value.slice q3 k7 k8 ∧
  StoreR a2 [Value.slice q3 k7 k8] w8 fun (w9 : World) =>
  FinR k2 L1 none w9 fun (w10 : World) => h1 (Value.bool true) w10)) →
  RoundR Try.prog k2 { toList := [Value.int IntKind.i64 n1, Value.int IntKind.i64 n2] } w4 h1) →
  Rets Try.prog (90 : Nat) { toList := [Value.func (Fn.yield k2) { toList := [] } { toList := [] }, v1, v2] } w3
  fun (v4 : Value) (w11 : World) =>
  (EndR k2 L1 none w11 fun (w12 : World) =>
  ∃ (q4 : Option Addr),
  ∃ (k9 : Nat),
  ∃ (k10 : Nat),
  cellAt w12 a2 (Value.slice q4 k9 k10) ∧ MarkR k1 w12 fun (w13 : World) => K (Value.slice q4 k9 k10) w13) ∨
  EndR k2 L1 (some (Code.exit (0 : Nat))) w11 fun (w14 : World) =>
  ∃ (q5 : Option Addr),
  ∃ (k11 : Nat),
  ∃ (k12 : Nat),
  cellAt w14 a2 (Value.slice q5 k11 k12) ∧ MarkR k1 w14 fun (w15 : World) => K (Value.slice q5 k11 k12) w15)
theorem told_from_eq (a b : Nat) (most : Int) (w : World) (K : Value → World → Prop) : fw Try.prog Try.f36 (annL [(2, [(11, some 3), (12, some 3)])]) (ordL [(1000002, [(90, 2)])]) [.func (.func 90) #[] #[.pointer (some ⟨a, 0, none⟩), .pointer (some ⟨b, 0, none⟩)], .int .i64 most] w K = told_from_m a b most w K := by kernel_rfl
theorem told_from_go (a b : Nat) (most : Int) {w : World} {K : Value → World → Prop} (h : told_from_m a b most w K) : Rets Try.prog 36 #[.func (.func 90) #[] #[.pointer (some ⟨a, 0, none⟩), .pointer (some ⟨b, 0, none⟩)], .int .i64 most] w K :=
  calls_of_fw plain mixed Try.func36 (by kernel_rfl) (by rw [told_from_eq]; exact h)
def cortadoref08_Same_m (q : Option Addr) (l c : Nat) (q2 : Option Addr) (l2 c2 : Nat) (w : World) (K : Value → World → Prop) : Prop :=
  (((↑l : Int) != (↑l2 : Int)) = true → K (Value.bool false) w) ∧
  (((↑l : Int) != (↑l2 : Int)) = false →
  ∃ (h1 : Nat → List Value → World → Prop),
  (∃ (k1 : Nat), h1 k1 [Value.int IntKind.i64 (0 : Int)] w) ∧
  ∀ (k2 : Nat) (w1 : World) (v1 : Value) (n1 : Int) (v2 v3 v4 v5 v6 v7 v8 v9 v10 v11 v12 v13 v14 v15 v16 : Value),
  h1 k2 [Value.int IntKind.i64 n1] w1 →
  (decide (n1 < (↑l : Int)) = true →
  Drw w1 fun (w2 : World) =>
  (0 : Int) ≤ n1 ∧
  n1 < (↑l : Int) ∧
  someR q fun (a1 : Addr) =>
  (0 : Int) ≤ n1 ∧
  n1 < (↑l2 : Int) ∧
  someR q2 fun (a2 : Addr) =>
  ∃ (n2 : Int),
  ∃ (n3 : Int),
  (cellAt w2 (Addr.add (Addr.add a1 (Int.toNat n1 * (2 : Nat))) (0 : Nat)) (Value.int IntKind.i64 n2) ∧
  cellAt w2 (Addr.add (Addr.add a1 (Int.toNat n1 * (2 : Nat))) (1 : Nat)) (Value.int IntKind.i64 n3)) ∧
  ∃ (n4 : Int),
  ∃ (n5 : Int),
  (cellAt w2 (Addr.add (Addr.add a2 (Int.toNat n1 * (2 : Nat))) (0 : Nat)) (Value.int IntKind.i64 n4) ∧
  cellAt w2 (Addr.add (Addr.add a2 (Int.toNat n1 * (2 : Nat))) (1 : Nat)) (Value.int IntKind.i64 n5)) ∧
  ((!(n2 == n4 && n3 == n5)) = true → K (Value.bool false) w2) ∧
  ((!(n2 == n4 && n3 == n5)) = false →
  ∃ (k3 : Nat), k3 < k2 ∧ h1 k3 [Value.int IntKind.i64 (IntKind.wrap IntKind.i64 (n1 + (1 : Int)))] w2)) ∧
  (decide (n1 < (↑l : Int)) = false → K (Value.bool true) w1))
theorem cortadoref08_Same_eq (q : Option Addr) (l c : Nat) (q2 : Option Addr) (l2 c2 : Nat) (w : World) (K : Value → World → Prop) : fw Try.prog Try.f35 (annL [(2, [(4, none), (5, some 3), (11, none), (12, none), (13, none), (14, none), (15, none), (16, none), (17, none), (18, none), (19, none), (20, none), (21, none), (22, none), (23, none), (24, none), (25, none)])]) (ordL [(6, [(0, 0), (1, 0), (2, 0), (4, 0), (5, 0), (6, 0), (3, 1), (7, 1), (8, 0)])]) [.slice q l c, .slice q2 l2 c2] w K = cortadoref08_Same_m q l c q2 l2 c2 w K := by kernel_rfl
theorem cortadoref08_Same_go (q : Option Addr) (l c : Nat) (q2 : Option Addr) (l2 c2 : Nat) {w : World} {K : Value → World → Prop} (h : cortadoref08_Same_m q l c q2 l2 c2 w K) : Rets Try.prog 35 #[.slice q l c, .slice q2 l2 c2] w K :=
  calls_of_fw plain mixed Try.func35 (by kernel_rfl) (by rw [cortadoref08_Same_eq]; exact h)
end Go.Proofs.Ytipcbhaeoeghnaa.Eng
