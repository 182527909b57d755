/- What the code of these functions asks for: printed by a program of this session's (gens.py) out of the seat's own functions; the kernel checks each row. -/
import Derived.Test.YtggflkjdgcdcmaaGreatDoorEngH
import Derived.Test.YtggflkjdgcdcmaaGreatDoorProg
import Derived.Test.YtggflkjdgcdcmaaGreatDoorBase
namespace Go.Proofs.YtggflkjdgcdcmaaGreatDoor.Eng
open Go Go.Proofs
set_option linter.unusedVariables false
set_option maxRecDepth 1000000
def cmp_isNaN_uint64_m (x : Int) (w : World) (K : Value → World → Prop) : Prop :=
  K (Value.bool (x != x)) w
theorem cmp_isNaN_uint64_eq (x : Int) (w : World) (K : Value → World → Prop) : fw Tryz.prog Tryz.f100 (annL []) (ordL []) [.int .u64 x] w K = cmp_isNaN_uint64_m x w K := by kernel_rfl
theorem cmp_isNaN_uint64_go (x : Int) {w : World} {K : Value → World → Prop} (h : cmp_isNaN_uint64_m x w K) : Rets Tryz.prog 100 #[.int .u64 x] w K :=
  calls_of_fw plain mixed Tryz.func100 (by kernel_rfl) (by rw [cmp_isNaN_uint64_eq]; exact h)
def cmp_Compare_uint64_m (x y : Int) (w : World) (K : Value → World → Prop) : Prop :=
  Rets Tryz.prog (100 : Nat) { toList := [Value.int IntKind.u64 x] } w fun (v1 : Value) (w1 : World) =>
  ∃ (b1 : Bool),
  v1 = Value.bool b1 ∧
  Rets Tryz.prog (100 : Nat) { toList := [Value.int IntKind.u64 y] } w1 fun (v2 : Value) (w2 : World) =>
  ∃ (b2 : Bool),
  v2 = Value.bool b2 ∧
  ∃ (h1 : List Value → World → Prop),
  ((b1 = true →
  (b2 = true → K (Value.int IntKind.i64 (0 : Int)) w2) ∧ (b2 = false → K (Value.int IntKind.i64 (-1 : Int)) w2)) ∧
  (b1 = false → h1 [] w2)) ∧
  ∀ (w3 : World) (v3 v4 : Value),
  h1 [] w3 →
  (b2 = true → K (Value.int IntKind.i64 (1 : Int)) w3) ∧
  (b2 = false →
  (decide (x < y) = true → K (Value.int IntKind.i64 (-1 : Int)) w3) ∧
  (decide (x < y) = false →
  (decide (x > y) = true → K (Value.int IntKind.i64 (1 : Int)) w3) ∧
  (decide (x > y) = false → K (Value.int IntKind.i64 (0 : Int)) w3)))
theorem cmp_Compare_uint64_eq (x y : Int) (w : World) (K : Value → World → Prop) : fw Tryz.prog Tryz.f75 (annL [(0, [(4, none), (12, none)])]) (ordL []) [.int .u64 x, .int .u64 y] w K = cmp_Compare_uint64_m x y w K := by kernel_rfl
theorem cmp_Compare_uint64_go (x y : Int) {w : World} {K : Value → World → Prop} (h : cmp_Compare_uint64_m x y w K) : Rets Tryz.prog 75 #[.int .u64 x, .int .u64 y] w K :=
  calls_of_fw plain mixed Tryz.func75 (by kernel_rfl) (by rw [cmp_Compare_uint64_eq]; exact h)
def rank_New_int_int_m (f : Nat) (w : World) (K : Value → World → Prop) : Prop :=
  (false = true → K (Value.pointer none) w) ∧
  (false = false →
  NewR (127 : Nat) [Value.func (Fn.func f) { toList := [] } { toList := [] }, Value.pointer none] w
  fun (a1 : Addr) (w1 : World) => K (Value.pointer (some a1)) w1)
theorem rank_New_int_int_eq (f : Nat) (w : World) (K : Value → World → Prop) : fw Tryz.prog Tryz.f74 (annL []) (ordL []) [.func (.func f) #[] #[]] w K = rank_New_int_int_m f w K := by kernel_rfl
theorem rank_New_int_int_go (f : Nat) {w : World} {K : Value → World → Prop} (h : rank_New_int_int_m f w K) : Rets Tryz.prog 74 #[.func (.func f) #[] #[]] w K :=
  calls_of_fw plain mixed Tryz.func74 (by kernel_rfl) (by rw [rank_New_int_int_eq]; exact h)
def rank_nil_size_m  (w : World) (K : Value → World → Prop) : Prop :=
  (true = true → K (Value.int IntKind.i64 (0 : Int)) w) ∧ (true = false → False)
theorem rank_nil_size_eq  (w : World) (K : Value → World → Prop) : fw Tryz.prog Tryz.f66 (annL []) (ordL []) [.pointer none] w K = rank_nil_size_m  w K := by kernel_rfl
theorem rank_nil_size_go  {w : World} {K : Value → World → Prop} (h : rank_nil_size_m  w K) : Rets Tryz.prog 66 #[.pointer none] w K :=
  calls_of_fw plain mixed Tryz.func66 (by kernel_rfl) (by rw [rank_nil_size_eq]; exact h)
def rank_size_int_int_m (g : Nat) (w : World) (K : Value → World → Prop) : Prop :=
  (false = true → K (Value.int IntKind.i64 (0 : Int)) w) ∧
  (false = false →
  ∃ (n1 : Int),
  cellAt w (Addr.add { block := g, off := (0 : Nat) } (4 : Nat)) (Value.int IntKind.i64 n1) ∧
  K (Value.int IntKind.i64 n1) w)
theorem rank_size_int_int_eq (g : Nat) (w : World) (K : Value → World → Prop) : fw Tryz.prog Tryz.f66 (annL []) (ordL []) [.pointer (some ⟨g, 0, none⟩)] w K = rank_size_int_int_m g w K := by kernel_rfl
theorem rank_size_int_int_go (g : Nat) {w : World} {K : Value → World → Prop} (h : rank_size_int_int_m g w K) : Rets Tryz.prog 66 #[.pointer (some ⟨g, 0, none⟩)] w K :=
  calls_of_fw plain mixed Tryz.func66 (by kernel_rfl) (by rw [rank_size_int_int_eq]; exact h)
def rank_nil_deep_m  (w : World) (K : Value → World → Prop) : Prop :=
  (true = true → K (Value.int IntKind.i64 (0 : Int)) w) ∧ (true = false → False)
theorem rank_nil_deep_eq  (w : World) (K : Value → World → Prop) : fw Tryz.prog Tryz.f133 (annL []) (ordL []) [.pointer none] w K = rank_nil_deep_m  w K := by kernel_rfl
theorem rank_nil_deep_go  {w : World} {K : Value → World → Prop} (h : rank_nil_deep_m  w K) : Rets Tryz.prog 133 #[.pointer none] w K :=
  calls_of_fw plain mixed Tryz.func133 (by kernel_rfl) (by rw [rank_nil_deep_eq]; exact h)
def rank_deep_int_int_m (g : Nat) (w : World) (K : Value → World → Prop) : Prop :=
  (false = true → K (Value.int IntKind.i64 (0 : Int)) w) ∧
  (false = false →
  ∃ (n1 : Int),
  cellAt w (Addr.add { block := g, off := (0 : Nat) } (5 : Nat)) (Value.int IntKind.i64 n1) ∧
  K (Value.int IntKind.i64 n1) w)
theorem rank_deep_int_int_eq (g : Nat) (w : World) (K : Value → World → Prop) : fw Tryz.prog Tryz.f133 (annL []) (ordL []) [.pointer (some ⟨g, 0, none⟩)] w K = rank_deep_int_int_m g w K := by kernel_rfl
theorem rank_deep_int_int_go (g : Nat) {w : World} {K : Value → World → Prop} (h : rank_deep_int_int_m g w K) : Rets Tryz.prog 133 #[.pointer (some ⟨g, 0, none⟩)] w K :=
  calls_of_fw plain mixed Tryz.func133 (by kernel_rfl) (by rw [rank_deep_int_int_eq]; exact h)
def rank_made_int_int_m (k v : Int) (p q : Option Addr) (w : World) (K : Value → World → Prop) : Prop :=
  Rets Tryz.prog (66 : Nat) { toList := [Value.pointer p] } w fun (v1 : Value) (w1 : World) =>
  ∃ (n1 : Int),
  v1 = Value.int IntKind.i64 n1 ∧
  Rets Tryz.prog (66 : Nat) { toList := [Value.pointer q] } w1 fun (v2 : Value) (w2 : World) =>
  ∃ (n2 : Int),
  v2 = Value.int IntKind.i64 n2 ∧
  Rets Tryz.prog (133 : Nat) { toList := [Value.pointer p] } w2 fun (v3 : Value) (w3 : World) =>
  ∃ (n3 : Int),
  v3 = Value.int IntKind.i64 n3 ∧
  Rets Tryz.prog (133 : Nat) { toList := [Value.pointer q] } w3 fun (v4 : Value) (w4 : World) =>
  ∃ (n4 : Int),
  v4 = Value.int IntKind.i64 n4 ∧
  NewR (131 : Nat)
  [Value.int IntKind.u64 k, Value.int IntKind.i64 v, Value.pointer p, Value.pointer q,
  Value.int IntKind.i64 (IntKind.wrap IntKind.i64 (IntKind.wrap IntKind.i64 (n1 + n2) + (1 : Int))),
  Value.int IntKind.i64 (IntKind.wrap IntKind.i64 (maxI n3 n4 + (1 : Int)))]
  w4 fun (a1 : Addr) (w5 : World) => K (Value.pointer (some a1)) w5
theorem rank_made_int_int_eq (k v : Int) (p q : Option Addr) (w : World) (K : Value → World → Prop) : fw Tryz.prog Tryz.f120 (annL []) (ordL []) [.int .u64 k, .int .i64 v, .pointer p, .pointer q] w K = rank_made_int_int_m k v p q w K := by kernel_rfl
theorem rank_made_int_int_go (k v : Int) (p q : Option Addr) {w : World} {K : Value → World → Prop} (h : rank_made_int_int_m k v p q w K) : Rets Tryz.prog 120 #[.int .u64 k, .int .i64 v, .pointer p, .pointer q] w K :=
  calls_of_fw plain mixed Tryz.func120 (by kernel_rfl) (by rw [rank_made_int_int_eq]; exact h)
def rank_leftUp_int_int_m (k v : Int) (g : Nat) (q : Option Addr) (w : World) (K : Value → World → Prop) : Prop :=
  ∃ (q1 : Option Addr),
  cellAt w (Addr.add { block := g, off := (0 : Nat) } (3 : Nat)) (Value.pointer q1) ∧
  ∃ (q2 : Option Addr),
  cellAt w (Addr.add { block := g, off := (0 : Nat) } (2 : Nat)) (Value.pointer q2) ∧
  Rets Tryz.prog (133 : Nat) { toList := [Value.pointer q2] } w fun (v1 : Value) (w1 : World) =>
  ∃ (n1 : Int),
  v1 = Value.int IntKind.i64 n1 ∧
  Rets Tryz.prog (133 : Nat) { toList := [Value.pointer q1] } w1 fun (v2 : Value) (w2 : World) =>
  ∃ (n2 : Int),
  v2 = Value.int IntKind.i64 n2 ∧
  (decide (n1 < n2) = true →
  Drw w2 fun (w3 : World) =>
  ∃ (h1 : World → Prop),
  h1 w3 ∧
  someR q1 fun (a1 : Addr) =>
  someR q1 fun (a2 : Addr) =>
  someR q1 fun (a3 : Addr) =>
  someR q1 fun (a4 : Addr) =>
  ∃ (n3 : Int),
  (∀ (w4 : World), h1 w4 → World.cell? w4 (Addr.add a1 (0 : Nat)) = some (Value.int IntKind.u64 n3)) ∧
  ∃ (n4 : Int),
  (∀ (w5 : World), h1 w5 → World.cell? w5 (Addr.add a2 (1 : Nat)) = some (Value.int IntKind.i64 n4)) ∧
  ∃ (n5 : Int),
  (∀ (w6 : World),
  h1 w6 → World.cell? w6 (Addr.add { block := g, off := (0 : Nat) } (0 : Nat)) = some (Value.int IntKind.u64 n5)) ∧
  ∃ (n6 : Int),
  (∀ (w7 : World),
  h1 w7 → World.cell? w7 (Addr.add { block := g, off := (0 : Nat) } (1 : Nat)) = some (Value.int IntKind.i64 n6)) ∧
  ∃ (q3 : Option Addr),
  (∀ (w8 : World),
  h1 w8 → World.cell? w8 (Addr.add { block := g, off := (0 : Nat) } (2 : Nat)) = some (Value.pointer q3)) ∧
  ∃ (q4 : Option Addr),
  (∀ (w9 : World), h1 w9 → World.cell? w9 (Addr.add a3 (2 : Nat)) = some (Value.pointer q4)) ∧
  ∃ (q5 : Option Addr),
  (∀ (w10 : World), h1 w10 → World.cell? w10 (Addr.add a4 (3 : Nat)) = some (Value.pointer q5)) ∧
  Rets Tryz.prog (120 : Nat)
  { toList := [Value.int IntKind.u64 n5, Value.int IntKind.i64 n6, Value.pointer q3, Value.pointer q4] } w3
  fun (v3 : Value) (w11 : World) =>
  ∃ (q6 : Option Addr),
  v3 = Value.pointer q6 ∧
  h1 w11 ∧
  Rets Tryz.prog (120 : Nat)
  { toList := [Value.int IntKind.u64 k, Value.int IntKind.i64 v, Value.pointer q5, Value.pointer q] } w11
  fun (v4 : Value) (w12 : World) =>
  ∃ (q7 : Option Addr),
  v4 = Value.pointer q7 ∧
  h1 w12 ∧
  Rets Tryz.prog (120 : Nat)
  { toList := [Value.int IntKind.u64 n3, Value.int IntKind.i64 n4, Value.pointer q6, Value.pointer q7] } w12
  fun (v5 : Value) (w13 : World) => ∃ (q8 : Option Addr), v5 = Value.pointer q8 ∧ K (Value.pointer q8) w13) ∧
  (decide (n1 < n2) = false →
  Drw w2 fun (w14 : World) =>
  ∃ (h2 : World → Prop),
  h2 w14 ∧
  ∃ (n7 : Int),
  (∀ (w15 : World),
  h2 w15 → World.cell? w15 (Addr.add { block := g, off := (0 : Nat) } (0 : Nat)) = some (Value.int IntKind.u64 n7)) ∧
  ∃ (n8 : Int),
  (∀ (w16 : World),
  h2 w16 → World.cell? w16 (Addr.add { block := g, off := (0 : Nat) } (1 : Nat)) = some (Value.int IntKind.i64 n8)) ∧
  ∃ (q9 : Option Addr),
  (∀ (w17 : World),
  h2 w17 → World.cell? w17 (Addr.add { block := g, off := (0 : Nat) } (2 : Nat)) = some (Value.pointer q9)) ∧
  ∃ (q10 : Option Addr),
  (∀ (w18 : World),
  h2 w18 → World.cell? w18 (Addr.add { block := g, off := (0 : Nat) } (3 : Nat)) = some (Value.pointer q10)) ∧
  Rets Tryz.prog (120 : Nat)
  { toList := [Value.int IntKind.u64 k, Value.int IntKind.i64 v, Value.pointer q10, Value.pointer q] } w14
  fun (v6 : Value) (w19 : World) =>
  ∃ (q11 : Option Addr),
  v6 = Value.pointer q11 ∧
  h2 w19 ∧
  Rets Tryz.prog (120 : Nat)
  { toList := [Value.int IntKind.u64 n7, Value.int IntKind.i64 n8, Value.pointer q9, Value.pointer q11] } w19
  fun (v7 : Value) (w20 : World) => ∃ (q12 : Option Addr), v7 = Value.pointer q12 ∧ K (Value.pointer q12) w20)
theorem rank_leftUp_int_int_eq (k v : Int) (g : Nat) (q : Option Addr) (w : World) (K : Value → World → Prop) : fw Tryz.prog Tryz.f134 (annL []) (ordL [(3, [(0, 0), (1, 0), (2, 0), (4, 0), (5, 0), (6, 0), (8, 0), (9, 0), (10, 0), (12, 0), (13, 0), (14, 0), (16, 0), (17, 0), (18, 0), (20, 0), (21, 0), (22, 0), (25, 0), (26, 0), (27, 0), (28, 0), (29, 0), (31, 0), (3, 1), (7, 1), (11, 1), (15, 1), (19, 1), (23, 1), (30, 1), (24, 2), (32, 2), (33, 3), (34, 0)]), (4, [(0, 0), (1, 0), (2, 0), (4, 0), (5, 0), (6, 0), (8, 0), (9, 0), (10, 0), (12, 0), (13, 0), (14, 0), (15, 0), (16, 0), (18, 0), (3, 1), (7, 1), (11, 1), (17, 1), (19, 2), (20, 3), (21, 0)])]) [.int .u64 k, .int .i64 v, .pointer (some ⟨g, 0, none⟩), .pointer q] w K = rank_leftUp_int_int_m k v g q w K := by kernel_rfl
theorem rank_leftUp_int_int_go (k v : Int) (g : Nat) (q : Option Addr) {w : World} {K : Value → World → Prop} (h : rank_leftUp_int_int_m k v g q w K) : Rets Tryz.prog 134 #[.int .u64 k, .int .i64 v, .pointer (some ⟨g, 0, none⟩), .pointer q] w K :=
  calls_of_fw plain mixed Tryz.func134 (by kernel_rfl) (by rw [rank_leftUp_int_int_eq]; exact h)
def rank_rightUp_int_int_m (k v : Int) (p : Option Addr) (g : Nat) (w : World) (K : Value → World → Prop) : Prop :=
  ∃ (q1 : Option Addr),
  cellAt w (Addr.add { block := g, off := (0 : Nat) } (2 : Nat)) (Value.pointer q1) ∧
  ∃ (q2 : Option Addr),
  cellAt w (Addr.add { block := g, off := (0 : Nat) } (3 : Nat)) (Value.pointer q2) ∧
  Rets Tryz.prog (133 : Nat) { toList := [Value.pointer q2] } w fun (v1 : Value) (w1 : World) =>
  ∃ (n1 : Int),
  v1 = Value.int IntKind.i64 n1 ∧
  Rets Tryz.prog (133 : Nat) { toList := [Value.pointer q1] } w1 fun (v2 : Value) (w2 : World) =>
  ∃ (n2 : Int),
  v2 = Value.int IntKind.i64 n2 ∧
  (decide (n1 < n2) = true →
  Drw w2 fun (w3 : World) =>
  ∃ (h1 : World → Prop),
  h1 w3 ∧
  someR q1 fun (a1 : Addr) =>
  someR q1 fun (a2 : Addr) =>
  someR q1 fun (a3 : Addr) =>
  someR q1 fun (a4 : Addr) =>
  ∃ (n3 : Int),
  (∀ (w4 : World), h1 w4 → World.cell? w4 (Addr.add a1 (0 : Nat)) = some (Value.int IntKind.u64 n3)) ∧
  ∃ (n4 : Int),
  (∀ (w5 : World), h1 w5 → World.cell? w5 (Addr.add a2 (1 : Nat)) = some (Value.int IntKind.i64 n4)) ∧
  ∃ (q3 : Option Addr),
  (∀ (w6 : World), h1 w6 → World.cell? w6 (Addr.add a3 (2 : Nat)) = some (Value.pointer q3)) ∧
  ∃ (n5 : Int),
  (∀ (w7 : World),
  h1 w7 → World.cell? w7 (Addr.add { block := g, off := (0 : Nat) } (0 : Nat)) = some (Value.int IntKind.u64 n5)) ∧
  ∃ (n6 : Int),
  (∀ (w8 : World),
  h1 w8 → World.cell? w8 (Addr.add { block := g, off := (0 : Nat) } (1 : Nat)) = some (Value.int IntKind.i64 n6)) ∧
  ∃ (q4 : Option Addr),
  (∀ (w9 : World), h1 w9 → World.cell? w9 (Addr.add a4 (3 : Nat)) = some (Value.pointer q4)) ∧
  ∃ (q5 : Option Addr),
  (∀ (w10 : World),
  h1 w10 → World.cell? w10 (Addr.add { block := g, off := (0 : Nat) } (3 : Nat)) = some (Value.pointer q5)) ∧
  Rets Tryz.prog (120 : Nat)
  { toList := [Value.int IntKind.u64 k, Value.int IntKind.i64 v, Value.pointer p, Value.pointer q3] } w3
  fun (v3 : Value) (w11 : World) =>
  ∃ (q6 : Option Addr),
  v3 = Value.pointer q6 ∧
  h1 w11 ∧
  Rets Tryz.prog (120 : Nat)
  { toList := [Value.int IntKind.u64 n5, Value.int IntKind.i64 n6, Value.pointer q4, Value.pointer q5] } w11
  fun (v4 : Value) (w12 : World) =>
  ∃ (q7 : Option Addr),
  v4 = Value.pointer q7 ∧
  h1 w12 ∧
  Rets Tryz.prog (120 : Nat)
  { toList := [Value.int IntKind.u64 n3, Value.int IntKind.i64 n4, Value.pointer q6, Value.pointer q7] } w12
  fun (v5 : Value) (w13 : World) => ∃ (q8 : Option Addr), v5 = Value.pointer q8 ∧ K (Value.pointer q8) w13) ∧
  (decide (n1 < n2) = false →
  Drw w2 fun (w14 : World) =>
  ∃ (h2 : World → Prop),
  h2 w14 ∧
  ∃ (n7 : Int),
  (∀ (w15 : World),
  h2 w15 → World.cell? w15 (Addr.add { block := g, off := (0 : Nat) } (0 : Nat)) = some (Value.int IntKind.u64 n7)) ∧
  ∃ (n8 : Int),
  (∀ (w16 : World),
  h2 w16 → World.cell? w16 (Addr.add { block := g, off := (0 : Nat) } (1 : Nat)) = some (Value.int IntKind.i64 n8)) ∧
  ∃ (q9 : Option Addr),
  (∀ (w17 : World),
  h2 w17 → World.cell? w17 (Addr.add { block := g, off := (0 : Nat) } (2 : Nat)) = some (Value.pointer q9)) ∧
  ∃ (q10 : Option Addr),
  (∀ (w18 : World),
  h2 w18 → World.cell? w18 (Addr.add { block := g, off := (0 : Nat) } (3 : Nat)) = some (Value.pointer q10)) ∧
  Rets Tryz.prog (120 : Nat)
  { toList := [Value.int IntKind.u64 k, Value.int IntKind.i64 v, Value.pointer p, Value.pointer q9] } w14
  fun (v6 : Value) (w19 : World) =>
  ∃ (q11 : Option Addr),
  v6 = Value.pointer q11 ∧
  h2 w19 ∧
  Rets Tryz.prog (120 : Nat)
  { toList := [Value.int IntKind.u64 n7, Value.int IntKind.i64 n8, Value.pointer q11, Value.pointer q10] } w19
  fun (v7 : Value) (w20 : World) => ∃ (q12 : Option Addr), v7 = Value.pointer q12 ∧ K (Value.pointer q12) w20)
theorem rank_rightUp_int_int_eq (k v : Int) (p : Option Addr) (g : Nat) (w : World) (K : Value → World → Prop) : fw Tryz.prog Tryz.f135 (annL []) (ordL [(3, [(0, 0), (1, 0), (2, 0), (4, 0), (5, 0), (6, 0), (8, 0), (9, 0), (10, 0), (11, 0), (12, 0), (13, 0), (16, 0), (17, 0), (18, 0), (20, 0), (21, 0), (22, 0), (24, 0), (25, 0), (26, 0), (28, 0), (29, 0), (30, 0), (3, 1), (7, 1), (14, 1), (19, 1), (23, 1), (27, 1), (31, 1), (15, 2), (32, 2), (33, 3), (34, 0)]), (4, [(0, 0), (1, 0), (2, 0), (4, 0), (5, 0), (6, 0), (8, 0), (9, 0), (10, 0), (11, 0), (12, 0), (13, 0), (16, 0), (17, 0), (18, 0), (3, 1), (7, 1), (14, 1), (19, 1), (15, 2), (20, 3), (21, 0)])]) [.int .u64 k, .int .i64 v, .pointer p, .pointer (some ⟨g, 0, none⟩)] w K = rank_rightUp_int_int_m k v p g w K := by kernel_rfl
theorem rank_rightUp_int_int_go (k v : Int) (p : Option Addr) (g : Nat) {w : World} {K : Value → World → Prop} (h : rank_rightUp_int_int_m k v p g w K) : Rets Tryz.prog 135 #[.int .u64 k, .int .i64 v, .pointer p, .pointer (some ⟨g, 0, none⟩)] w K :=
  calls_of_fw plain mixed Tryz.func135 (by kernel_rfl) (by rw [rank_rightUp_int_int_eq]; exact h)
def rank_joined_int_int_m (k v : Int) (p q : Option Addr) (w : World) (K : Value → World → Prop) : Prop :=
  Rets Tryz.prog (133 : Nat) { toList := [Value.pointer p] } w fun (v1 : Value) (w1 : World) =>
  ∃ (n1 : Int),
  v1 = Value.int IntKind.i64 n1 ∧
  Rets Tryz.prog (133 : Nat) { toList := [Value.pointer q] } w1 fun (v2 : Value) (w2 : World) =>
  ∃ (n2 : Int),
  v2 = Value.int IntKind.i64 n2 ∧
  (decide (IntKind.wrap IntKind.i64 (n1 - n2) > (1 : Int)) = true →
  Rets Tryz.prog (134 : Nat)
  { toList := [Value.int IntKind.u64 k, Value.int IntKind.i64 v, Value.pointer p, Value.pointer q] } w2
  fun (v3 : Value) (w3 : World) => ∃ (q1 : Option Addr), v3 = Value.pointer q1 ∧ K (Value.pointer q1) w3) ∧
  (decide (IntKind.wrap IntKind.i64 (n1 - n2) > (1 : Int)) = false →
  (decide (IntKind.wrap IntKind.i64 (n1 - n2) < (-1 : Int)) = true →
  Rets Tryz.prog (135 : Nat)
  { toList := [Value.int IntKind.u64 k, Value.int IntKind.i64 v, Value.pointer p, Value.pointer q] } w2
  fun (v4 : Value) (w4 : World) => ∃ (q2 : Option Addr), v4 = Value.pointer q2 ∧ K (Value.pointer q2) w4) ∧
  (decide (IntKind.wrap IntKind.i64 (n1 - n2) < (-1 : Int)) = false →
  Rets Tryz.prog (120 : Nat)
  { toList := [Value.int IntKind.u64 k, Value.int IntKind.i64 v, Value.pointer p, Value.pointer q] } w2
  fun (v5 : Value) (w5 : World) => ∃ (q3 : Option Addr), v5 = Value.pointer q3 ∧ K (Value.pointer q3) w5))
theorem rank_joined_int_int_eq (k v : Int) (p q : Option Addr) (w : World) (K : Value → World → Prop) : fw Tryz.prog Tryz.f121 (annL []) (ordL []) [.int .u64 k, .int .i64 v, .pointer p, .pointer q] w K = rank_joined_int_int_m k v p q w K := by kernel_rfl
theorem rank_joined_int_int_go (k v : Int) (p q : Option Addr) {w : World} {K : Value → World → Prop} (h : rank_joined_int_int_m k v p q w K) : Rets Tryz.prog 121 #[.int .u64 k, .int .i64 v, .pointer p, .pointer q] w K :=
  calls_of_fw plain mixed Tryz.func121 (by kernel_rfl) (by rw [rank_joined_int_int_eq]; exact h)
def rank_first_int_int_m (g : Nat) (w : World) (K : Value → World → Prop) : Prop :=
  ∃ (q1 : Option Addr),
  cellAt w (Addr.add { block := g, off := (0 : Nat) } (2 : Nat)) (Value.pointer q1) ∧
  (Option.isNone q1 = true →
  ∃ (q2 : Option Addr),
  cellAt w (Addr.add { block := g, off := (0 : Nat) } (3 : Nat)) (Value.pointer q2) ∧
  K (Value.tuple { toList := [Value.pointer q2, Value.pointer (some { block := g, off := (0 : Nat) })] }) w) ∧
  (Option.isNone q1 = false →
  ∃ (q3 : Option Addr),
  cellAt w (Addr.add { block := g, off := (0 : Nat) } (2 : Nat)) (Value.pointer q3) ∧
  Rets Tryz.prog (136 : Nat) { toList := [Value.pointer q3] } w fun (v1 : Value) (w1 : World) =>
  ∃ (q4 : Option Addr),
  ∃ (q5 : Option Addr),
  v1 = Value.tuple { toList := [Value.pointer q4, Value.pointer q5] } ∧
  Drw w1 fun (w2 : World) =>
  ∃ (n1 : Int),
  cellAt w2 (Addr.add { block := g, off := (0 : Nat) } (0 : Nat)) (Value.int IntKind.u64 n1) ∧
  ∃ (n2 : Int),
  cellAt w2 (Addr.add { block := g, off := (0 : Nat) } (1 : Nat)) (Value.int IntKind.i64 n2) ∧
  ∃ (q6 : Option Addr),
  cellAt w2 (Addr.add { block := g, off := (0 : Nat) } (3 : Nat)) (Value.pointer q6) ∧
  Rets Tryz.prog (121 : Nat)
  { toList := [Value.int IntKind.u64 n1, Value.int IntKind.i64 n2, Value.pointer q4, Value.pointer q6] } w2
  fun (v2 : Value) (w3 : World) =>
  ∃ (q7 : Option Addr), v2 = Value.pointer q7 ∧ K (Value.tuple { toList := [Value.pointer q7, Value.pointer q5] }) w3)
theorem rank_first_int_int_eq (g : Nat) (w : World) (K : Value → World → Prop) : fw Tryz.prog Tryz.f136 (annL []) (ordL [(4, [(0, 0), (1, 0), (2, 0), (4, 0), (5, 0), (6, 0), (8, 0), (9, 0), (10, 0), (11, 0), (14, 0), (3, 1), (7, 1), (12, 1), (13, 3), (15, 0), (16, 0)])]) [.pointer (some ⟨g, 0, none⟩)] w K = rank_first_int_int_m g w K := by kernel_rfl
theorem rank_first_int_int_go (g : Nat) {w : World} {K : Value → World → Prop} (h : rank_first_int_int_m g w K) : Rets Tryz.prog 136 #[.pointer (some ⟨g, 0, none⟩)] w K :=
  calls_of_fw plain mixed Tryz.func136 (by kernel_rfl) (by rw [rank_first_int_int_eq]; exact h)
def rank_both_int_int_m (p q : Option Addr) (w : World) (K : Value → World → Prop) : Prop :=
  (Option.isNone p = true → K (Value.pointer q) w) ∧
  (Option.isNone p = false →
  (Option.isNone q = true → K (Value.pointer p) w) ∧
  (Option.isNone q = false →
  Rets Tryz.prog (136 : Nat) { toList := [Value.pointer q] } w fun (v1 : Value) (w1 : World) =>
  ∃ (q1 : Option Addr),
  ∃ (q2 : Option Addr),
  v1 = Value.tuple { toList := [Value.pointer q1, Value.pointer q2] } ∧
  Drw w1 fun (w2 : World) =>
  someR q2 fun (a1 : Addr) =>
  someR q2 fun (a2 : Addr) =>
  ∃ (n1 : Int),
  cellAt w2 (Addr.add a1 (0 : Nat)) (Value.int IntKind.u64 n1) ∧
  ∃ (n2 : Int),
  cellAt w2 (Addr.add a2 (1 : Nat)) (Value.int IntKind.i64 n2) ∧
  Rets Tryz.prog (121 : Nat)
  { toList := [Value.int IntKind.u64 n1, Value.int IntKind.i64 n2, Value.pointer p, Value.pointer q1] } w2
  fun (v2 : Value) (w3 : World) => ∃ (q3 : Option Addr), v2 = Value.pointer q3 ∧ K (Value.pointer q3) w3))
theorem rank_both_int_int_eq (p q : Option Addr) (w : World) (K : Value → World → Prop) : fw Tryz.prog Tryz.f123 (annL []) (ordL [(6, [(0, 0), (1, 0), (2, 0), (4, 0), (5, 0), (6, 0), (8, 0), (9, 0), (3, 1), (7, 1), (10, 3), (11, 0)])]) [.pointer p, .pointer q] w K = rank_both_int_int_m p q w K := by kernel_rfl
theorem rank_both_int_int_go (p q : Option Addr) {w : World} {K : Value → World → Prop} (h : rank_both_int_int_m p q w K) : Rets Tryz.prog 123 #[.pointer p, .pointer q] w K :=
  calls_of_fw plain mixed Tryz.func123 (by kernel_rfl) (by rw [rank_both_int_int_eq]; exact h)
def rank_Tree_int_int_put_m (g : Nat) (p : Option Addr) (k v : Int) (w : World) (K : Value → World → Prop) : Prop :=
  (Option.isNone p = true →
  Rets Tryz.prog (120 : Nat)
  { toList := [Value.int IntKind.u64 k, Value.int IntKind.i64 v, Value.pointer none, Value.pointer none] } w
  fun (v1 : Value) (w1 : World) => ∃ (q1 : Option Addr), v1 = Value.pointer q1 ∧ K (Value.pointer q1) w1) ∧
  (Option.isNone p = false →
  Drw w fun (w2 : World) =>
  someR p fun (a1 : Addr) =>
  ∃ (k1 : Nat),
  ∃ (a2 : Array Value),
  ∃ (c1 : Array Value),
  cellAt w2 (Addr.add { block := g, off := (0 : Nat) } (0 : Nat)) (Value.func (Fn.func k1) a2 c1) ∧
  ∃ (n1 : Int),
  cellAt w2 (Addr.add a1 (0 : Nat)) (Value.int IntKind.u64 n1) ∧
  callG Tryz.prog k1 (Array.toList a2) [Value.int IntKind.u64 k, Value.int IntKind.u64 n1] (Array.toList c1) w2
  fun (v2 : Value) (w3 : World) =>
  ∃ (n2 : Int),
  v2 = Value.int IntKind.i64 n2 ∧
  (decide (n2 < (0 : Int)) = true →
  Drw w3 fun (w4 : World) =>
  ∃ (h1 : World → Prop),
  h1 w4 ∧
  someR p fun (a3 : Addr) =>
  someR p fun (a4 : Addr) =>
  someR p fun (a5 : Addr) =>
  someR p fun (a6 : Addr) =>
  ∃ (n3 : Int),
  (∀ (w5 : World), h1 w5 → World.cell? w5 (Addr.add a3 (0 : Nat)) = some (Value.int IntKind.u64 n3)) ∧
  ∃ (n4 : Int),
  (∀ (w6 : World), h1 w6 → World.cell? w6 (Addr.add a4 (1 : Nat)) = some (Value.int IntKind.i64 n4)) ∧
  ∃ (q2 : Option Addr),
  (∀ (w7 : World), h1 w7 → World.cell? w7 (Addr.add a5 (2 : Nat)) = some (Value.pointer q2)) ∧
  ∃ (q3 : Option Addr),
  (∀ (w8 : World), h1 w8 → World.cell? w8 (Addr.add a6 (3 : Nat)) = some (Value.pointer q3)) ∧
  Rets Tryz.prog (97 : Nat)
  {
  toList :=
  [Value.pointer (some { block := g, off := (0 : Nat) }), Value.pointer q2, Value.int IntKind.u64 k,
  Value.int IntKind.i64 v] }
  w4 fun (v3 : Value) (w9 : World) =>
  ∃ (q4 : Option Addr),
  v3 = Value.pointer q4 ∧
  h1 w9 ∧
  Rets Tryz.prog (121 : Nat)
  { toList := [Value.int IntKind.u64 n3, Value.int IntKind.i64 n4, Value.pointer q4, Value.pointer q3] } w9
  fun (v4 : Value) (w10 : World) => ∃ (q5 : Option Addr), v4 = Value.pointer q5 ∧ K (Value.pointer q5) w10) ∧
  (decide (n2 < (0 : Int)) = false →
  (decide (n2 > (0 : Int)) = true →
  Drw w3 fun (w11 : World) =>
  ∃ (h2 : World → Prop),
  h2 w11 ∧
  someR p fun (a7 : Addr) =>
  someR p fun (a8 : Addr) =>
  someR p fun (a9 : Addr) =>
  someR p fun (a10 : Addr) =>
  ∃ (n5 : Int),
  (∀ (w12 : World), h2 w12 → World.cell? w12 (Addr.add a7 (0 : Nat)) = some (Value.int IntKind.u64 n5)) ∧
  ∃ (n6 : Int),
  (∀ (w13 : World), h2 w13 → World.cell? w13 (Addr.add a8 (1 : Nat)) = some (Value.int IntKind.i64 n6)) ∧
  ∃ (q6 : Option Addr),
  (∀ (w14 : World), h2 w14 → World.cell? w14 (Addr.add a9 (2 : Nat)) = some (Value.pointer q6)) ∧
  ∃ (q7 : Option Addr),
  (∀ (w15 : World), h2 w15 → World.cell? w15 (Addr.add a10 (3 : Nat)) = some (Value.pointer q7)) ∧
  Rets Tryz.prog (97 : Nat)
  {
  toList :=
  [Value.pointer (some { block := g, off := (0 : Nat) }), Value.pointer q7, Value.int IntKind.u64 k,
  Value.int IntKind.i64 v] }
  w11 fun (v5 : Value) (w16 : World) =>
  ∃ (q8 : Option Addr),
  v5 = Value.pointer q8 ∧
  h2 w16 ∧
  Rets Tryz.prog (121 : Nat)
  { toList := [Value.int IntKind.u64 n5, Value.int IntKind.i64 n6, Value.pointer q6, Value.pointer q8] } w16
  fun (v6 : Value) (w17 : World) => ∃ (q9 : Option Addr), v6 = Value.pointer q9 ∧ K (Value.pointer q9) w17) ∧
  (decide (n2 > (0 : Int)) = false →
  Drw w3 fun (w18 : World) =>
  someR p fun (a11 : Addr) =>
  someR p fun (a12 : Addr) =>
  ∃ (q10 : Option Addr),
  cellAt w18 (Addr.add a11 (2 : Nat)) (Value.pointer q10) ∧
  ∃ (q11 : Option Addr),
  cellAt w18 (Addr.add a12 (3 : Nat)) (Value.pointer q11) ∧
  Rets Tryz.prog (120 : Nat)
  { toList := [Value.int IntKind.u64 k, Value.int IntKind.i64 v, Value.pointer q10, Value.pointer q11] } w18
  fun (v7 : Value) (w19 : World) => ∃ (q12 : Option Addr), v7 = Value.pointer q12 ∧ K (Value.pointer q12) w19)))
theorem rank_Tree_int_int_put_eq (g : Nat) (p : Option Addr) (k v : Int) (w : World) (K : Value → World → Prop) : fw Tryz.prog Tryz.f97 (annL []) (ordL [(3, [(0, 0), (1, 0), (2, 0), (4, 0), (5, 0), (6, 0), (7, 0), (3, 1), (8, 1), (9, 3), (10, 0)]), (5, [(0, 0), (1, 0), (2, 0), (4, 0), (5, 0), (6, 0), (8, 0), (9, 0), (10, 0), (11, 0), (13, 0), (14, 0), (16, 0), (17, 0), (18, 0), (3, 1), (7, 1), (12, 1), (19, 1), (15, 2), (20, 3), (21, 0)]), (7, [(0, 0), (1, 0), (2, 0), (4, 0), (5, 0), (6, 0), (8, 0), (9, 0), (10, 0), (12, 0), (13, 0), (14, 0), (15, 0), (17, 0), (18, 0), (3, 1), (7, 1), (11, 1), (16, 1), (19, 2), (20, 3), (21, 0)]), (8, [(0, 0), (1, 0), (2, 0), (3, 0), (4, 0), (6, 0), (7, 0), (8, 0), (5, 1), (9, 1), (10, 3), (11, 0)])]) [.pointer (some ⟨g, 0, none⟩), .pointer p, .int .u64 k, .int .i64 v] w K = rank_Tree_int_int_put_m g p k v w K := by kernel_rfl
theorem rank_Tree_int_int_put_go (g : Nat) (p : Option Addr) (k v : Int) {w : World} {K : Value → World → Prop} (h : rank_Tree_int_int_put_m g p k v w K) : Rets Tryz.prog 97 #[.pointer (some ⟨g, 0, none⟩), .pointer p, .int .u64 k, .int .i64 v] w K :=
  calls_of_fw plain mixed Tryz.func97 (by kernel_rfl) (by rw [rank_Tree_int_int_put_eq]; exact h)
def rank_Tree_int_int_drop_m (g : Nat) (p : Option Addr) (k : Int) (w : World) (K : Value → World → Prop) : Prop :=
  (Option.isNone p = true → K (Value.pointer none) w) ∧
  (Option.isNone p = false →
  Drw w fun (w1 : World) =>
  someR p fun (a1 : Addr) =>
  ∃ (k1 : Nat),
  ∃ (a2 : Array Value),
  ∃ (c1 : Array Value),
  cellAt w1 (Addr.add { block := g, off := (0 : Nat) } (0 : Nat)) (Value.func (Fn.func k1) a2 c1) ∧
  ∃ (n1 : Int),
  cellAt w1 (Addr.add a1 (0 : Nat)) (Value.int IntKind.u64 n1) ∧
  callG Tryz.prog k1 (Array.toList a2) [Value.int IntKind.u64 k, Value.int IntKind.u64 n1] (Array.toList c1) w1
  fun (v1 : Value) (w2 : World) =>
  ∃ (n2 : Int),
  v1 = Value.int IntKind.i64 n2 ∧
  (decide (n2 < (0 : Int)) = true →
  Drw w2 fun (w3 : World) =>
  ∃ (h1 : World → Prop),
  h1 w3 ∧
  someR p fun (a3 : Addr) =>
  someR p fun (a4 : Addr) =>
  someR p fun (a5 : Addr) =>
  someR p fun (a6 : Addr) =>
  ∃ (n3 : Int),
  (∀ (w4 : World), h1 w4 → World.cell? w4 (Addr.add a3 (0 : Nat)) = some (Value.int IntKind.u64 n3)) ∧
  ∃ (n4 : Int),
  (∀ (w5 : World), h1 w5 → World.cell? w5 (Addr.add a4 (1 : Nat)) = some (Value.int IntKind.i64 n4)) ∧
  ∃ (q1 : Option Addr),
  (∀ (w6 : World), h1 w6 → World.cell? w6 (Addr.add a5 (2 : Nat)) = some (Value.pointer q1)) ∧
  ∃ (q2 : Option Addr),
  (∀ (w7 : World), h1 w7 → World.cell? w7 (Addr.add a6 (3 : Nat)) = some (Value.pointer q2)) ∧
  Rets Tryz.prog (101 : Nat)
  { toList := [Value.pointer (some { block := g, off := (0 : Nat) }), Value.pointer q1, Value.int IntKind.u64 k] } w3
  fun (v2 : Value) (w8 : World) =>
  ∃ (q3 : Option Addr),
  v2 = Value.pointer q3 ∧
  h1 w8 ∧
  Rets Tryz.prog (121 : Nat)
  { toList := [Value.int IntKind.u64 n3, Value.int IntKind.i64 n4, Value.pointer q3, Value.pointer q2] } w8
  fun (v3 : Value) (w9 : World) => ∃ (q4 : Option Addr), v3 = Value.pointer q4 ∧ K (Value.pointer q4) w9) ∧
  (decide (n2 < (0 : Int)) = false →
  (decide (n2 > (0 : Int)) = true →
  Drw w2 fun (w10 : World) =>
  ∃ (h2 : World → Prop),
  h2 w10 ∧
  someR p fun (a7 : Addr) =>
  someR p fun (a8 : Addr) =>
  someR p fun (a9 : Addr) =>
  someR p fun (a10 : Addr) =>
  ∃ (n5 : Int),
  (∀ (w11 : World), h2 w11 → World.cell? w11 (Addr.add a7 (0 : Nat)) = some (Value.int IntKind.u64 n5)) ∧
  ∃ (n6 : Int),
  (∀ (w12 : World), h2 w12 → World.cell? w12 (Addr.add a8 (1 : Nat)) = some (Value.int IntKind.i64 n6)) ∧
  ∃ (q5 : Option Addr),
  (∀ (w13 : World), h2 w13 → World.cell? w13 (Addr.add a9 (2 : Nat)) = some (Value.pointer q5)) ∧
  ∃ (q6 : Option Addr),
  (∀ (w14 : World), h2 w14 → World.cell? w14 (Addr.add a10 (3 : Nat)) = some (Value.pointer q6)) ∧
  Rets Tryz.prog (101 : Nat)
  { toList := [Value.pointer (some { block := g, off := (0 : Nat) }), Value.pointer q6, Value.int IntKind.u64 k] } w10
  fun (v4 : Value) (w15 : World) =>
  ∃ (q7 : Option Addr),
  v4 = Value.pointer q7 ∧
  h2 w15 ∧
  Rets Tryz.prog (121 : Nat)
  { toList := [Value.int IntKind.u64 n5, Value.int IntKind.i64 n6, Value.pointer q5, Value.pointer q7] } w15
  fun (v5 : Value) (w16 : World) => ∃ (q8 : Option Addr), v5 = Value.pointer q8 ∧ K (Value.pointer q8) w16) ∧
  (decide (n2 > (0 : Int)) = false →
  Drw w2 fun (w17 : World) =>
  someR p fun (a11 : Addr) =>
  someR p fun (a12 : Addr) =>
  ∃ (q9 : Option Addr),
  cellAt w17 (Addr.add a11 (2 : Nat)) (Value.pointer q9) ∧
  ∃ (q10 : Option Addr),
  cellAt w17 (Addr.add a12 (3 : Nat)) (Value.pointer q10) ∧
  Rets Tryz.prog (123 : Nat) { toList := [Value.pointer q9, Value.pointer q10] } w17 fun (v6 : Value) (w18 : World) =>
  ∃ (q11 : Option Addr), v6 = Value.pointer q11 ∧ K (Value.pointer q11) w18)))
theorem rank_Tree_int_int_drop_eq (g : Nat) (p : Option Addr) (k : Int) (w : World) (K : Value → World → Prop) : fw Tryz.prog Tryz.f101 (annL []) (ordL [(3, [(0, 0), (1, 0), (2, 0), (4, 0), (5, 0), (6, 0), (7, 0), (3, 1), (8, 1), (9, 3), (10, 0)]), (5, [(0, 0), (1, 0), (2, 0), (4, 0), (5, 0), (6, 0), (8, 0), (9, 0), (10, 0), (11, 0), (13, 0), (15, 0), (16, 0), (17, 0), (3, 1), (7, 1), (12, 1), (18, 1), (14, 2), (19, 3), (20, 0)]), (7, [(0, 0), (1, 0), (2, 0), (4, 0), (5, 0), (6, 0), (8, 0), (9, 0), (10, 0), (12, 0), (13, 0), (14, 0), (15, 0), (17, 0), (3, 1), (7, 1), (11, 1), (16, 1), (18, 2), (19, 3), (20, 0)]), (8, [(0, 0), (1, 0), (2, 0), (4, 0), (5, 0), (6, 0), (3, 1), (7, 1), (8, 3), (9, 0)])]) [.pointer (some ⟨g, 0, none⟩), .pointer p, .int .u64 k] w K = rank_Tree_int_int_drop_m g p k w K := by kernel_rfl
theorem rank_Tree_int_int_drop_go (g : Nat) (p : Option Addr) (k : Int) {w : World} {K : Value → World → Prop} (h : rank_Tree_int_int_drop_m g p k w K) : Rets Tryz.prog 101 #[.pointer (some ⟨g, 0, none⟩), .pointer p, .int .u64 k] w K :=
  calls_of_fw plain mixed Tryz.func101 (by kernel_rfl) (by rw [rank_Tree_int_int_drop_eq]; exact h)
def rank_Tree_int_int_Put_m (g : Nat) (k v : Int) (w : World) (K : Value → World → Prop) : Prop :=
  (false = true → K (Value.pointer none) w) ∧
  (false = false →
  Drw w fun (w1 : World) =>
  ∃ (h1 : World → Prop),
  h1 w1 ∧
  ∃ (k1 : Nat),
  ∃ (a1 : Array Value),
  ∃ (c1 : Array Value),
  (∀ (w2 : World),
  h1 w2 → World.cell? w2 (Addr.add { block := g, off := (0 : Nat) } (0 : Nat)) = some (Value.func (Fn.func k1) a1 c1)) ∧
  ∃ (q1 : Option Addr),
  (∀ (w3 : World),
  h1 w3 → World.cell? w3 (Addr.add { block := g, off := (0 : Nat) } (1 : Nat)) = some (Value.pointer q1)) ∧
  Rets Tryz.prog (97 : Nat)
  {
  toList :=
  [Value.pointer (some { block := g, off := (0 : Nat) }), Value.pointer q1, Value.int IntKind.u64 k,
  Value.int IntKind.i64 v] }
  w1 fun (v1 : Value) (w4 : World) =>
  ∃ (q2 : Option Addr),
  v1 = Value.pointer q2 ∧
  h1 w4 ∧
  NewR (127 : Nat) [Value.func (Fn.func k1) a1 c1, Value.pointer q2] w4 fun (a2 : Addr) (w5 : World) =>
  K (Value.pointer (some a2)) w5)
theorem rank_Tree_int_int_Put_eq (g : Nat) (k v : Int) (w : World) (K : Value → World → Prop) : fw Tryz.prog Tryz.f70 (annL []) (ordL [(3, [(0, 0), (1, 0), (2, 0), (4, 0), (5, 0), (6, 0), (7, 0), (9, 0), (10, 0), (3, 1), (8, 1), (11, 2), (12, 0), (13, 3), (14, 0)])]) [.pointer (some ⟨g, 0, none⟩), .int .u64 k, .int .i64 v] w K = rank_Tree_int_int_Put_m g k v w K := by kernel_rfl
theorem rank_Tree_int_int_Put_go (g : Nat) (k v : Int) {w : World} {K : Value → World → Prop} (h : rank_Tree_int_int_Put_m g k v w K) : Rets Tryz.prog 70 #[.pointer (some ⟨g, 0, none⟩), .int .u64 k, .int .i64 v] w K :=
  calls_of_fw plain mixed Tryz.func70 (by kernel_rfl) (by rw [rank_Tree_int_int_Put_eq]; exact h)
def rank_Tree_int_int_Drop_m (g : Nat) (k : Int) (w : World) (K : Value → World → Prop) : Prop :=
  (false = true → K (Value.pointer none) w) ∧
  (false = false →
  Drw w fun (w1 : World) =>
  ∃ (h1 : World → Prop),
  h1 w1 ∧
  ∃ (k1 : Nat),
  ∃ (a1 : Array Value),
  ∃ (c1 : Array Value),
  (∀ (w2 : World),
  h1 w2 → World.cell? w2 (Addr.add { block := g, off := (0 : Nat) } (0 : Nat)) = some (Value.func (Fn.func k1) a1 c1)) ∧
  ∃ (q1 : Option Addr),
  (∀ (w3 : World),
  h1 w3 → World.cell? w3 (Addr.add { block := g, off := (0 : Nat) } (1 : Nat)) = some (Value.pointer q1)) ∧
  Rets Tryz.prog (101 : Nat)
  { toList := [Value.pointer (some { block := g, off := (0 : Nat) }), Value.pointer q1, Value.int IntKind.u64 k] } w1
  fun (v1 : Value) (w4 : World) =>
  ∃ (q2 : Option Addr),
  v1 = Value.pointer q2 ∧
  h1 w4 ∧
  NewR (127 : Nat) [Value.func (Fn.func k1) a1 c1, Value.pointer q2] w4 fun (a2 : Addr) (w5 : World) =>
  K (Value.pointer (some a2)) w5)
theorem rank_Tree_int_int_Drop_eq (g : Nat) (k : Int) (w : World) (K : Value → World → Prop) : fw Tryz.prog Tryz.f77 (annL []) (ordL [(3, [(0, 0), (1, 0), (2, 0), (4, 0), (5, 0), (6, 0), (7, 0), (9, 0), (3, 1), (8, 1), (10, 2), (11, 0), (12, 3), (13, 0)])]) [.pointer (some ⟨g, 0, none⟩), .int .u64 k] w K = rank_Tree_int_int_Drop_m g k w K := by kernel_rfl
theorem rank_Tree_int_int_Drop_go (g : Nat) (k : Int) {w : World} {K : Value → World → Prop} (h : rank_Tree_int_int_Drop_m g k w K) : Rets Tryz.prog 77 #[.pointer (some ⟨g, 0, none⟩), .int .u64 k] w K :=
  calls_of_fw plain mixed Tryz.func77 (by kernel_rfl) (by rw [rank_Tree_int_int_Drop_eq]; exact h)
def rank_Tree_int_int_find_m (g : Nat) (k : Int) (w : World) (K : Value → World → Prop) : Prop :=
  (false = true → K (Value.tuple { toList := [Value.pointer none, Value.int IntKind.i64 (0 : Int)] }) w) ∧
  (false = false →
  ∃ (q1 : Option Addr),
  cellAt w (Addr.add { block := g, off := (0 : Nat) } (1 : Nat)) (Value.pointer q1) ∧
  ∃ (h1 : Nat → List Value → World → Prop),
  (∃ (k1 : Nat), h1 k1 [Value.int IntKind.i64 (0 : Int), Value.pointer q1] w) ∧
  ∀ (k2 : Nat) (w1 : World) (v1 v2 : Value) (n1 : Int) (q2 : Option Addr)
  (v3 v4 v5 v6 v7 v8 v9 v10 v11 v12 v13 v14 v15 v16 v17 v18 v19 v20 v21 v22 v23 v24 v25 v26 v27 v28 v29 v30 v31 v32 v33
  v34 v35 v36 v37 v38 v39 v40 v41 v42 v43 : Value),
  h1 k2 [Value.int IntKind.i64 n1, Value.pointer q2] w1 →
  ((!Option.isNone q2) = true →
  Drw w1 fun (w2 : World) =>
  someR q2 fun (a1 : Addr) =>
  ∃ (k3 : Nat),
  ∃ (a2 : Array Value),
  ∃ (c1 : Array Value),
  cellAt w2 (Addr.add { block := g, off := (0 : Nat) } (0 : Nat)) (Value.func (Fn.func k3) a2 c1) ∧
  ∃ (n2 : Int),
  cellAt w2 (Addr.add a1 (0 : Nat)) (Value.int IntKind.u64 n2) ∧
  callG Tryz.prog k3 (Array.toList a2) [Value.int IntKind.u64 k, Value.int IntKind.u64 n2] (Array.toList c1) w2
  fun (v44 : Value) (w3 : World) =>
  ∃ (n3 : Int),
  v44 = Value.int IntKind.i64 n3 ∧
  ((n3 == (0 : Int)) = true →
  someR q2 fun (a3 : Addr) =>
  ∃ (q3 : Option Addr),
  cellAt w3 (Addr.add a3 (2 : Nat)) (Value.pointer q3) ∧
  Rets Tryz.prog (66 : Nat) { toList := [Value.pointer q3] } w3 fun (v45 : Value) (w4 : World) =>
  ∃ (n4 : Int),
  v45 = Value.int IntKind.i64 n4 ∧
  K (Value.tuple { toList := [Value.pointer q2, Value.int IntKind.i64 (IntKind.wrap IntKind.i64 (n1 + n4))] }) w4) ∧
  ((n3 == (0 : Int)) = false →
  (decide (n3 < (0 : Int)) = true →
  someR q2 fun (a4 : Addr) =>
  ∃ (q4 : Option Addr),
  cellAt w3 (Addr.add a4 (2 : Nat)) (Value.pointer q4) ∧
  ∃ (k4 : Nat), k4 < k2 ∧ h1 k4 [Value.int IntKind.i64 n1, Value.pointer q4] w3) ∧
  (decide (n3 < (0 : Int)) = false →
  Drw w3 fun (w5 : World) =>
  ∃ (h2 : World → Prop),
  h2 w5 ∧
  someR q2 fun (a5 : Addr) =>
  someR q2 fun (a6 : Addr) =>
  ∃ (q5 : Option Addr),
  (∀ (w6 : World), h2 w6 → World.cell? w6 (Addr.add a5 (2 : Nat)) = some (Value.pointer q5)) ∧
  ∃ (q6 : Option Addr),
  (∀ (w7 : World), h2 w7 → World.cell? w7 (Addr.add a6 (3 : Nat)) = some (Value.pointer q6)) ∧
  Rets Tryz.prog (66 : Nat) { toList := [Value.pointer q5] } w5 fun (v46 : Value) (w8 : World) =>
  ∃ (n5 : Int),
  v46 = Value.int IntKind.i64 n5 ∧
  h2 w8 ∧
  ∃ (k5 : Nat),
  k5 < k2 ∧
  h1 k5
  [Value.int IntKind.i64 (IntKind.wrap IntKind.i64 (IntKind.wrap IntKind.i64 (n1 + n5) + (1 : Int))), Value.pointer q6]
  w8))) ∧
  ((!Option.isNone q2) = false → K (Value.tuple { toList := [Value.pointer none, Value.int IntKind.i64 n1] }) w1))
theorem rank_Tree_int_int_find_eq (g : Nat) (k : Int) (w : World) (K : Value → World → Prop) : fw Tryz.prog Tryz.f67 (annL [(2, [(4, none), (5, none), (6, some 3), (7, some 125), (8, none), (16, none), (17, none), (18, none), (19, none), (20, none), (21, none), (22, none), (23, none), (24, none), (25, none), (26, none), (27, none), (28, none), (29, none), (30, none), (31, none), (32, none), (33, none), (34, none), (35, none), (36, none), (37, none), (38, none), (39, none), (40, none), (41, none), (42, none), (43, none), (44, none), (45, none), (46, none), (47, none), (48, none), (49, none), (50, none), (51, none), (52, none), (53, none), (54, none), (55, none)])]) (ordL [(6, [(0, 0), (1, 0), (2, 0), (4, 0), (5, 0), (6, 0), (7, 0), (3, 1), (8, 1), (9, 3), (10, 0)]), (11, [(0, 0), (1, 0), (2, 0), (3, 0), (8, 0), (9, 0), (10, 0), (4, 1), (11, 1), (5, 2), (6, 0), (7, 0), (12, 0), (13, 0)])]) [.pointer (some ⟨g, 0, none⟩), .int .u64 k] w K = rank_Tree_int_int_find_m g k w K := by kernel_rfl
theorem rank_Tree_int_int_find_go (g : Nat) (k : Int) {w : World} {K : Value → World → Prop} (h : rank_Tree_int_int_find_m g k w K) : Rets Tryz.prog 67 #[.pointer (some ⟨g, 0, none⟩), .int .u64 k] w K :=
  calls_of_fw plain mixed Tryz.func67 (by kernel_rfl) (by rw [rank_Tree_int_int_find_eq]; exact h)
def rank_Tree_int_int_Get_m (p : Option Addr) (k : Int) (w : World) (K : Value → World → Prop) : Prop :=
  Rets Tryz.prog (67 : Nat) { toList := [Value.pointer p, Value.int IntKind.u64 k] } w fun (v1 : Value) (w1 : World) =>
  ∃ (q1 : Option Addr),
  ∃ (n1 : Int),
  v1 = Value.tuple { toList := [Value.pointer q1, Value.int IntKind.i64 n1] } ∧
  (Option.isNone q1 = true → K (Value.tuple { toList := [Value.int IntKind.i64 (0 : Int), Value.bool false] }) w1) ∧
  (Option.isNone q1 = false →
  someR q1 fun (a1 : Addr) =>
  ∃ (n2 : Int),
  cellAt w1 (Addr.add a1 (1 : Nat)) (Value.int IntKind.i64 n2) ∧
  K (Value.tuple { toList := [Value.int IntKind.i64 n2, Value.bool true] }) w1)
theorem rank_Tree_int_int_Get_eq (p : Option Addr) (k : Int) (w : World) (K : Value → World → Prop) : fw Tryz.prog Tryz.f42 (annL []) (ordL []) [.pointer p, .int .u64 k] w K = rank_Tree_int_int_Get_m p k w K := by kernel_rfl
theorem rank_Tree_int_int_Get_go (p : Option Addr) (k : Int) {w : World} {K : Value → World → Prop} (h : rank_Tree_int_int_Get_m p k w K) : Rets Tryz.prog 42 #[.pointer p, .int .u64 k] w K :=
  calls_of_fw plain mixed Tryz.func42 (by kernel_rfl) (by rw [rank_Tree_int_int_Get_eq]; exact h)
def rank_Tree_int_int_At_m (g : Nat) (i : Int) (w : World) (K : Value → World → Prop) : Prop :=
  (false = false →
  (decide (i < (0 : Int)) = true →
  K (Value.tuple { toList := [Value.int IntKind.u64 (0 : Int), Value.int IntKind.i64 (0 : Int), Value.bool false] }) w) ∧
  (decide (i < (0 : Int)) = false →
  ∃ (q1 : Option Addr),
  cellAt w (Addr.add { block := g, off := (0 : Nat) } (1 : Nat)) (Value.pointer q1) ∧
  ∃ (h1 : Nat → List Value → World → Prop),
  (∃ (k1 : Nat),
  h1 k1 [Value.int IntKind.i64 i, Value.int IntKind.u64 (0 : Int), Value.int IntKind.i64 (0 : Int), Value.pointer q1] w) ∧
  ∀ (k2 : Nat) (w1 : World) (n1 n2 n3 : Int) (v1 : Value) (q2 : Option Addr)
  (v2 v3 v4 v5 v6 v7 v8 v9 v10 v11 v12 v13 v14 v15 v16 v17 v18 v19 v20 v21 v22 v23 v24 v25 v26 v27 v28 v29 v30 v31 v32 v33
  v34 v35 v36 v37 : Value),
  h1 k2 [Value.int IntKind.i64 n1, Value.int IntKind.u64 n2, Value.int IntKind.i64 n3, Value.pointer q2] w1 →
  ((!Option.isNone q2) = true →
  someR q2 fun (a1 : Addr) =>
  ∃ (q3 : Option Addr),
  cellAt w1 (Addr.add a1 (2 : Nat)) (Value.pointer q3) ∧
  Rets Tryz.prog (66 : Nat) { toList := [Value.pointer q3] } w1 fun (v38 : Value) (w2 : World) =>
  ∃ (n4 : Int),
  v38 = Value.int IntKind.i64 n4 ∧
  (decide (n1 < n4) = true →
  someR q2 fun (a2 : Addr) =>
  ∃ (q4 : Option Addr),
  cellAt w2 (Addr.add a2 (2 : Nat)) (Value.pointer q4) ∧
  ∃ (k3 : Nat),
  k3 < k2 ∧ h1 k3 [Value.int IntKind.i64 n1, Value.int IntKind.u64 n2, Value.int IntKind.i64 n3, Value.pointer q4] w2) ∧
  (decide (n1 < n4) = false →
  (decide (n1 > n4) = true →
  Drw w2 fun (w3 : World) =>
  someR q2 fun (a3 : Addr) =>
  ∃ (q5 : Option Addr),
  cellAt w3 (Addr.add a3 (3 : Nat)) (Value.pointer q5) ∧
  ∃ (k4 : Nat),
  k4 < k2 ∧
  h1 k4
  [Value.int IntKind.i64 (IntKind.wrap IntKind.i64 (IntKind.wrap IntKind.i64 (n1 - n4) - (1 : Int))),
  Value.int IntKind.u64 n2, Value.int IntKind.i64 n3, Value.pointer q5]
  w3) ∧
  (decide (n1 > n4) = false →
  Drw w2 fun (w4 : World) =>
  someR q2 fun (a4 : Addr) =>
  someR q2 fun (a5 : Addr) =>
  ∃ (n5 : Int),
  cellAt w4 (Addr.add a4 (0 : Nat)) (Value.int IntKind.u64 n5) ∧
  ∃ (n6 : Int),
  cellAt w4 (Addr.add a5 (1 : Nat)) (Value.int IntKind.i64 n6) ∧
  K (Value.tuple { toList := [Value.int IntKind.u64 n5, Value.int IntKind.i64 n6, Value.bool true] }) w4))) ∧
  ((!Option.isNone q2) = false →
  K (Value.tuple { toList := [Value.int IntKind.u64 n2, Value.int IntKind.i64 n3, Value.bool false] }) w1))) ∧
  (false = true →
  K (Value.tuple { toList := [Value.int IntKind.u64 (0 : Int), Value.int IntKind.i64 (0 : Int), Value.bool false] }) w)
theorem rank_Tree_int_int_At_eq (g : Nat) (i : Int) (w : World) (K : Value → World → Prop) : fw Tryz.prog Tryz.f139 (annL [(2, [(1, some 3), (4, some 30), (5, some 3), (6, none), (7, some 125), (8, none), (21, none), (22, none), (23, none), (24, none), (25, none), (26, none), (27, none), (28, none), (29, none), (30, none), (31, none), (32, none), (33, none), (34, none), (35, none), (36, none), (37, none), (38, none), (39, none), (40, none), (41, none), (42, none), (43, none), (44, none), (45, none), (46, none), (47, none), (48, none), (49, none), (50, none), (51, none), (52, none), (53, none), (54, none), (55, none)])]) (ordL [(10, [(0, 0), (1, 0), (2, 0), (3, 0), (4, 0), (5, 0), (6, 0), (8, 0), (7, 1), (9, 0)]), (6, [(0, 0), (1, 0), (2, 0), (4, 0), (5, 0), (6, 0), (3, 1), (8, 0), (7, 1), (9, 0), (10, 0)])]) [.pointer (some ⟨g, 0, none⟩), .int .i64 i] w K = rank_Tree_int_int_At_m g i w K := by kernel_rfl
theorem rank_Tree_int_int_At_go (g : Nat) (i : Int) {w : World} {K : Value → World → Prop} (h : rank_Tree_int_int_At_m g i w K) : Rets Tryz.prog 139 #[.pointer (some ⟨g, 0, none⟩), .int .i64 i] w K :=
  calls_of_fw plain mixed Tryz.func139 (by kernel_rfl) (by rw [rank_Tree_int_int_At_eq]; exact h)
def rank_Tree_int_int_Len_m (g : Nat) (w : World) (K : Value → World → Prop) : Prop :=
  (false = true → K (Value.int IntKind.i64 (0 : Int)) w) ∧
  (false = false →
  ∃ (q1 : Option Addr),
  cellAt w (Addr.add { block := g, off := (0 : Nat) } (1 : Nat)) (Value.pointer q1) ∧
  Rets Tryz.prog (66 : Nat) { toList := [Value.pointer q1] } w fun (v1 : Value) (w1 : World) =>
  ∃ (n1 : Int), v1 = Value.int IntKind.i64 n1 ∧ K (Value.int IntKind.i64 n1) w1)
theorem rank_Tree_int_int_Len_eq (g : Nat) (w : World) (K : Value → World → Prop) : fw Tryz.prog Tryz.f41 (annL []) (ordL []) [.pointer (some ⟨g, 0, none⟩)] w K = rank_Tree_int_int_Len_m g w K := by kernel_rfl
theorem rank_Tree_int_int_Len_go (g : Nat) {w : World} {K : Value → World → Prop} (h : rank_Tree_int_int_Len_m g w K) : Rets Tryz.prog 41 #[.pointer (some ⟨g, 0, none⟩)] w K :=
  calls_of_fw plain mixed Tryz.func41 (by kernel_rfl) (by rw [rank_Tree_int_int_Len_eq]; exact h)
end Go.Proofs.YtggflkjdgcdcmaaGreatDoor.Eng
