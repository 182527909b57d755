/- What the code of these functions asks for: printed by a program of this session's (gens.py) out of the seat's own functions; the kernel checks each row. -/
import Derived.Test.YtkcaeknkfgpnhaaEngH
import Derived.Test.YtkcaeknkfgpnhaaProg
import Derived.Test.YtkcaeknkfgpnhaaBase
namespace Go.Proofs.Ytkcaeknkfgpnhaa.Eng
open Go Go.Proofs
set_option linter.unusedVariables false
set_option maxRecDepth 1000000
def word_Log_m (x : Int) (w : World) (K : Value → World → Prop) : Prop :=
  ∃ (h1 : Nat → List Value → World → Prop),
  (∃ (k1 : Nat), h1 k1 [Value.int IntKind.u64 x, Value.int IntKind.i64 (-1 : Int)] w) ∧
  ∀ (k2 : Nat) (w1 : World) (n1 n2 : Int) (v1 v2 v3 v4 v5 v6 : Value),
  h1 k2 [Value.int IntKind.u64 n1, Value.int IntKind.i64 n2] w1 →
  ((n1 != (0 : Int)) = true →
  (0 : Int) ≤ (1 : Int) ∧
  ∃ (k3 : Nat),
  k3 < k2 ∧
  h1 k3
  [Value.int IntKind.u64 (shrI IntKind.u64 n1 (1 : Int)),
  Value.int IntKind.i64 (IntKind.wrap IntKind.i64 (n2 + (1 : Int)))]
  w1) ∧
  ((n1 != (0 : Int)) = false → K (Value.int IntKind.i64 n2) w1)
theorem word_Log_eq (x : Int) (w : World) (K : Value → World → Prop) : fw Try.prog Try.f30 (annL [(1, [(0, some 53), (3, some 3), (4, none), (5, none), (6, none), (7, none), (8, none), (9, none)])]) (ordL []) [.int .u64 x] w K = word_Log_m x w K := by kernel_rfl
theorem word_Log_go (x : Int) {w : World} {K : Value → World → Prop} (h : word_Log_m x w K) : Rets Try.prog 30 #[.int .u64 x] w K :=
  calls_of_fw plain mixed Try.func30 (by kernel_rfl) (by rw [word_Log_eq]; exact h)
def cortadolaw08_order_m (x y : Int) (w : World) (K : Value → World → Prop) : Prop :=
  (decide (x < y) = true → K (Value.int IntKind.i64 (-1 : Int)) w) ∧
  (decide (x < y) = false →
  (decide (x > y) = true → K (Value.int IntKind.i64 (1 : Int)) w) ∧
  (decide (x > y) = false → K (Value.int IntKind.i64 (0 : Int)) w))
theorem cortadolaw08_order_eq (x y : Int) (w : World) (K : Value → World → Prop) : fw Try.prog Try.f19 (annL []) (ordL []) [.int .i64 x, .int .i64 y] w K = cortadolaw08_order_m x y w K := by kernel_rfl
theorem cortadolaw08_order_go (x y : Int) {w : World} {K : Value → World → Prop} (h : cortadolaw08_order_m x y w K) : Rets Try.prog 19 #[.int .i64 x, .int .i64 y] w K :=
  calls_of_fw plain mixed Try.func19 (by kernel_rfl) (by rw [cortadolaw08_order_eq]; exact h)
def rank_New_int_int_m (f : Nat) (w : World) (K : Value → World → Prop) : Prop :=
  (false = true → K (Value.pointer none) w) ∧
  (false = false →
  NewR (107 : Nat) [Value.func (Fn.func f) { toList := [] } { toList := [] }, Value.pointer none] w
  fun (a1 : Addr) (w1 : World) => K (Value.pointer (some a1)) w1)
theorem rank_New_int_int_eq (f : Nat) (w : World) (K : Value → World → Prop) : fw Try.prog Try.f18 (annL []) (ordL []) [.func (.func f) #[] #[]] w K = rank_New_int_int_m f w K := by kernel_rfl
theorem rank_New_int_int_go (f : Nat) {w : World} {K : Value → World → Prop} (h : rank_New_int_int_m f w K) : Rets Try.prog 18 #[.func (.func f) #[] #[]] w K :=
  calls_of_fw plain mixed Try.func18 (by kernel_rfl) (by rw [rank_New_int_int_eq]; exact h)
def rank_nil_New_m  (w : World) (K : Value → World → Prop) : Prop :=
  (true = true → K (Value.pointer none) w) ∧
  (true = false →
  NewR (107 : Nat) [Value.nilFunc, Value.pointer none] w fun (a1 : Addr) (w1 : World) => K (Value.pointer (some a1)) w1)
theorem rank_nil_New_eq  (w : World) (K : Value → World → Prop) : fw Try.prog Try.f18 (annL []) (ordL []) [.nilFunc] w K = rank_nil_New_m  w K := by kernel_rfl
theorem rank_nil_New_go  {w : World} {K : Value → World → Prop} (h : rank_nil_New_m  w K) : Rets Try.prog 18 #[.nilFunc] w K :=
  calls_of_fw plain mixed Try.func18 (by kernel_rfl) (by rw [rank_nil_New_eq]; exact h)
def rank_nil_size_m  (w : World) (K : Value → World → Prop) : Prop :=
  (true = true → K (Value.int IntKind.i64 (0 : Int)) w) ∧ (true = false → False)
theorem rank_nil_size_eq  (w : World) (K : Value → World → Prop) : fw Try.prog Try.f108 (annL []) (ordL []) [.pointer none] w K = rank_nil_size_m  w K := by kernel_rfl
theorem rank_nil_size_go  {w : World} {K : Value → World → Prop} (h : rank_nil_size_m  w K) : Rets Try.prog 108 #[.pointer none] w K :=
  calls_of_fw plain mixed Try.func108 (by kernel_rfl) (by rw [rank_nil_size_eq]; exact h)
def rank_size_int_int_m (g : Nat) (w : World) (K : Value → World → Prop) : Prop :=
  (false = true → K (Value.int IntKind.i64 (0 : Int)) w) ∧
  (false = false →
  ∃ (n1 : Int),
  cellAt w (Addr.add { block := g, off := (0 : Nat) } (4 : Nat)) (Value.int IntKind.i64 n1) ∧
  K (Value.int IntKind.i64 n1) w)
theorem rank_size_int_int_eq (g : Nat) (w : World) (K : Value → World → Prop) : fw Try.prog Try.f108 (annL []) (ordL []) [.pointer (some ⟨g, 0, none⟩)] w K = rank_size_int_int_m g w K := by kernel_rfl
theorem rank_size_int_int_go (g : Nat) {w : World} {K : Value → World → Prop} (h : rank_size_int_int_m g w K) : Rets Try.prog 108 #[.pointer (some ⟨g, 0, none⟩)] w K :=
  calls_of_fw plain mixed Try.func108 (by kernel_rfl) (by rw [rank_size_int_int_eq]; exact h)
def rank_nil_deep_m  (w : World) (K : Value → World → Prop) : Prop :=
  (true = true → K (Value.int IntKind.i64 (0 : Int)) w) ∧ (true = false → False)
theorem rank_nil_deep_eq  (w : World) (K : Value → World → Prop) : fw Try.prog Try.f90 (annL []) (ordL []) [.pointer none] w K = rank_nil_deep_m  w K := by kernel_rfl
theorem rank_nil_deep_go  {w : World} {K : Value → World → Prop} (h : rank_nil_deep_m  w K) : Rets Try.prog 90 #[.pointer none] w K :=
  calls_of_fw plain mixed Try.func90 (by kernel_rfl) (by rw [rank_nil_deep_eq]; exact h)
def rank_deep_int_int_m (g : Nat) (w : World) (K : Value → World → Prop) : Prop :=
  (false = true → K (Value.int IntKind.i64 (0 : Int)) w) ∧
  (false = false →
  ∃ (n1 : Int),
  cellAt w (Addr.add { block := g, off := (0 : Nat) } (5 : Nat)) (Value.int IntKind.i64 n1) ∧
  K (Value.int IntKind.i64 n1) w)
theorem rank_deep_int_int_eq (g : Nat) (w : World) (K : Value → World → Prop) : fw Try.prog Try.f90 (annL []) (ordL []) [.pointer (some ⟨g, 0, none⟩)] w K = rank_deep_int_int_m g w K := by kernel_rfl
theorem rank_deep_int_int_go (g : Nat) {w : World} {K : Value → World → Prop} (h : rank_deep_int_int_m g w K) : Rets Try.prog 90 #[.pointer (some ⟨g, 0, none⟩)] w K :=
  calls_of_fw plain mixed Try.func90 (by kernel_rfl) (by rw [rank_deep_int_int_eq]; exact h)
def rank_made_int_int_m (k v : Int) (p q : Option Addr) (w : World) (K : Value → World → Prop) : Prop :=
  Rets Try.prog (108 : Nat) { toList := [Value.pointer p] } w fun (v1 : Value) (w1 : World) =>
  ∃ (n1 : Int),
  v1 = Value.int IntKind.i64 n1 ∧
  Rets Try.prog (108 : Nat) { toList := [Value.pointer q] } w1 fun (v2 : Value) (w2 : World) =>
  ∃ (n2 : Int),
  v2 = Value.int IntKind.i64 n2 ∧
  Rets Try.prog (90 : Nat) { toList := [Value.pointer p] } w2 fun (v3 : Value) (w3 : World) =>
  ∃ (n3 : Int),
  v3 = Value.int IntKind.i64 n3 ∧
  Rets Try.prog (90 : Nat) { toList := [Value.pointer q] } w3 fun (v4 : Value) (w4 : World) =>
  ∃ (n4 : Int),
  v4 = Value.int IntKind.i64 n4 ∧
  NewR (115 : Nat)
  [Value.int IntKind.i64 k, Value.int IntKind.i64 v, Value.pointer p, Value.pointer q,
  Value.int IntKind.i64 (IntKind.wrap IntKind.i64 (IntKind.wrap IntKind.i64 (n1 + n2) + (1 : Int))),
  Value.int IntKind.i64 (IntKind.wrap IntKind.i64 (maxI n3 n4 + (1 : Int)))]
  w4 fun (a1 : Addr) (w5 : World) => K (Value.pointer (some a1)) w5
theorem rank_made_int_int_eq (k v : Int) (p q : Option Addr) (w : World) (K : Value → World → Prop) : fw Try.prog Try.f139 (annL []) (ordL []) [.int .i64 k, .int .i64 v, .pointer p, .pointer q] w K = rank_made_int_int_m k v p q w K := by kernel_rfl
theorem rank_made_int_int_go (k v : Int) (p q : Option Addr) {w : World} {K : Value → World → Prop} (h : rank_made_int_int_m k v p q w K) : Rets Try.prog 139 #[.int .i64 k, .int .i64 v, .pointer p, .pointer q] w K :=
  calls_of_fw plain mixed Try.func139 (by kernel_rfl) (by rw [rank_made_int_int_eq]; exact h)
def rank_leftUp_int_int_m (k v : Int) (g : Nat) (q : Option Addr) (w : World) (K : Value → World → Prop) : Prop :=
  ∃ (q1 : Option Addr),
  cellAt w (Addr.add { block := g, off := (0 : Nat) } (3 : Nat)) (Value.pointer q1) ∧
  ∃ (q2 : Option Addr),
  cellAt w (Addr.add { block := g, off := (0 : Nat) } (2 : Nat)) (Value.pointer q2) ∧
  Rets Try.prog (90 : Nat) { toList := [Value.pointer q2] } w fun (v1 : Value) (w1 : World) =>
  ∃ (n1 : Int),
  v1 = Value.int IntKind.i64 n1 ∧
  Rets Try.prog (90 : Nat) { toList := [Value.pointer q1] } w1 fun (v2 : Value) (w2 : World) =>
  ∃ (n2 : Int),
  v2 = Value.int IntKind.i64 n2 ∧
  (decide (n1 < n2) = true →
  Drw w2 fun (w3 : World) =>
  ∃ (h1 : World → Prop),
  h1 w3 ∧
  someR q1 fun (a1 : Addr) =>
  someR q1 fun (a2 : Addr) =>
  someR q1 fun (a3 : Addr) =>
  someR q1 fun (a4 : Addr) =>
  ∃ (n3 : Int),
  (∀ (w4 : World), h1 w4 → World.cell? w4 (Addr.add a1 (0 : Nat)) = some (Value.int IntKind.i64 n3)) ∧
  ∃ (n4 : Int),
  (∀ (w5 : World), h1 w5 → World.cell? w5 (Addr.add a2 (1 : Nat)) = some (Value.int IntKind.i64 n4)) ∧
  ∃ (n5 : Int),
  (∀ (w6 : World),
  h1 w6 → World.cell? w6 (Addr.add { block := g, off := (0 : Nat) } (0 : Nat)) = some (Value.int IntKind.i64 n5)) ∧
  ∃ (n6 : Int),
  (∀ (w7 : World),
  h1 w7 → World.cell? w7 (Addr.add { block := g, off := (0 : Nat) } (1 : Nat)) = some (Value.int IntKind.i64 n6)) ∧
  ∃ (q3 : Option Addr),
  (∀ (w8 : World),
  h1 w8 → World.cell? w8 (Addr.add { block := g, off := (0 : Nat) } (2 : Nat)) = some (Value.pointer q3)) ∧
  ∃ (q4 : Option Addr),
  (∀ (w9 : World), h1 w9 → World.cell? w9 (Addr.add a3 (2 : Nat)) = some (Value.pointer q4)) ∧
  ∃ (q5 : Option Addr),
  (∀ (w10 : World), h1 w10 → World.cell? w10 (Addr.add a4 (3 : Nat)) = some (Value.pointer q5)) ∧
  Rets Try.prog (139 : Nat)
  { toList := [Value.int IntKind.i64 n5, Value.int IntKind.i64 n6, Value.pointer q3, Value.pointer q4] } w3
  fun (v3 : Value) (w11 : World) =>
  ∃ (q6 : Option Addr),
  v3 = Value.pointer q6 ∧
  h1 w11 ∧
  Rets Try.prog (139 : Nat)
  { toList := [Value.int IntKind.i64 k, Value.int IntKind.i64 v, Value.pointer q5, Value.pointer q] } w11
  fun (v4 : Value) (w12 : World) =>
  ∃ (q7 : Option Addr),
  v4 = Value.pointer q7 ∧
  h1 w12 ∧
  Rets Try.prog (139 : Nat)
  { toList := [Value.int IntKind.i64 n3, Value.int IntKind.i64 n4, Value.pointer q6, Value.pointer q7] } w12
  fun (v5 : Value) (w13 : World) => ∃ (q8 : Option Addr), v5 = Value.pointer q8 ∧ K (Value.pointer q8) w13) ∧
  (decide (n1 < n2) = false →
  Drw w2 fun (w14 : World) =>
  ∃ (h2 : World → Prop),
  h2 w14 ∧
  ∃ (n7 : Int),
  (∀ (w15 : World),
  h2 w15 → World.cell? w15 (Addr.add { block := g, off := (0 : Nat) } (0 : Nat)) = some (Value.int IntKind.i64 n7)) ∧
  ∃ (n8 : Int),
  (∀ (w16 : World),
  h2 w16 → World.cell? w16 (Addr.add { block := g, off := (0 : Nat) } (1 : Nat)) = some (Value.int IntKind.i64 n8)) ∧
  ∃ (q9 : Option Addr),
  (∀ (w17 : World),
  h2 w17 → World.cell? w17 (Addr.add { block := g, off := (0 : Nat) } (2 : Nat)) = some (Value.pointer q9)) ∧
  ∃ (q10 : Option Addr),
  (∀ (w18 : World),
  h2 w18 → World.cell? w18 (Addr.add { block := g, off := (0 : Nat) } (3 : Nat)) = some (Value.pointer q10)) ∧
  Rets Try.prog (139 : Nat)
  { toList := [Value.int IntKind.i64 k, Value.int IntKind.i64 v, Value.pointer q10, Value.pointer q] } w14
  fun (v6 : Value) (w19 : World) =>
  ∃ (q11 : Option Addr),
  v6 = Value.pointer q11 ∧
  h2 w19 ∧
  Rets Try.prog (139 : Nat)
  { toList := [Value.int IntKind.i64 n7, Value.int IntKind.i64 n8, Value.pointer q9, Value.pointer q11] } w19
  fun (v7 : Value) (w20 : World) => ∃ (q12 : Option Addr), v7 = Value.pointer q12 ∧ K (Value.pointer q12) w20)
theorem rank_leftUp_int_int_eq (k v : Int) (g : Nat) (q : Option Addr) (w : World) (K : Value → World → Prop) : fw Try.prog Try.f160 (annL []) (ordL [(3, [(0, 0), (1, 0), (2, 0), (4, 0), (5, 0), (6, 0), (8, 0), (9, 0), (10, 0), (12, 0), (13, 0), (14, 0), (16, 0), (17, 0), (18, 0), (20, 0), (21, 0), (22, 0), (25, 0), (26, 0), (27, 0), (28, 0), (29, 0), (31, 0), (3, 1), (7, 1), (11, 1), (15, 1), (19, 1), (23, 1), (30, 1), (24, 2), (32, 2), (33, 3), (34, 0)]), (4, [(0, 0), (1, 0), (2, 0), (4, 0), (5, 0), (6, 0), (8, 0), (9, 0), (10, 0), (12, 0), (13, 0), (14, 0), (15, 0), (16, 0), (18, 0), (3, 1), (7, 1), (11, 1), (17, 1), (19, 2), (20, 3), (21, 0)])]) [.int .i64 k, .int .i64 v, .pointer (some ⟨g, 0, none⟩), .pointer q] w K = rank_leftUp_int_int_m k v g q w K := by kernel_rfl
theorem rank_leftUp_int_int_go (k v : Int) (g : Nat) (q : Option Addr) {w : World} {K : Value → World → Prop} (h : rank_leftUp_int_int_m k v g q w K) : Rets Try.prog 160 #[.int .i64 k, .int .i64 v, .pointer (some ⟨g, 0, none⟩), .pointer q] w K :=
  calls_of_fw plain mixed Try.func160 (by kernel_rfl) (by rw [rank_leftUp_int_int_eq]; exact h)
def rank_rightUp_int_int_m (k v : Int) (p : Option Addr) (g : Nat) (w : World) (K : Value → World → Prop) : Prop :=
  ∃ (q1 : Option Addr),
  cellAt w (Addr.add { block := g, off := (0 : Nat) } (2 : Nat)) (Value.pointer q1) ∧
  ∃ (q2 : Option Addr),
  cellAt w (Addr.add { block := g, off := (0 : Nat) } (3 : Nat)) (Value.pointer q2) ∧
  Rets Try.prog (90 : Nat) { toList := [Value.pointer q2] } w fun (v1 : Value) (w1 : World) =>
  ∃ (n1 : Int),
  v1 = Value.int IntKind.i64 n1 ∧
  Rets Try.prog (90 : Nat) { toList := [Value.pointer q1] } w1 fun (v2 : Value) (w2 : World) =>
  ∃ (n2 : Int),
  v2 = Value.int IntKind.i64 n2 ∧
  (decide (n1 < n2) = true →
  Drw w2 fun (w3 : World) =>
  ∃ (h1 : World → Prop),
  h1 w3 ∧
  someR q1 fun (a1 : Addr) =>
  someR q1 fun (a2 : Addr) =>
  someR q1 fun (a3 : Addr) =>
  someR q1 fun (a4 : Addr) =>
  ∃ (n3 : Int),
  (∀ (w4 : World), h1 w4 → World.cell? w4 (Addr.add a1 (0 : Nat)) = some (Value.int IntKind.i64 n3)) ∧
  ∃ (n4 : Int),
  (∀ (w5 : World), h1 w5 → World.cell? w5 (Addr.add a2 (1 : Nat)) = some (Value.int IntKind.i64 n4)) ∧
  ∃ (q3 : Option Addr),
  (∀ (w6 : World), h1 w6 → World.cell? w6 (Addr.add a3 (2 : Nat)) = some (Value.pointer q3)) ∧
  ∃ (n5 : Int),
  (∀ (w7 : World),
  h1 w7 → World.cell? w7 (Addr.add { block := g, off := (0 : Nat) } (0 : Nat)) = some (Value.int IntKind.i64 n5)) ∧
  ∃ (n6 : Int),
  (∀ (w8 : World),
  h1 w8 → World.cell? w8 (Addr.add { block := g, off := (0 : Nat) } (1 : Nat)) = some (Value.int IntKind.i64 n6)) ∧
  ∃ (q4 : Option Addr),
  (∀ (w9 : World), h1 w9 → World.cell? w9 (Addr.add a4 (3 : Nat)) = some (Value.pointer q4)) ∧
  ∃ (q5 : Option Addr),
  (∀ (w10 : World),
  h1 w10 → World.cell? w10 (Addr.add { block := g, off := (0 : Nat) } (3 : Nat)) = some (Value.pointer q5)) ∧
  Rets Try.prog (139 : Nat)
  { toList := [Value.int IntKind.i64 k, Value.int IntKind.i64 v, Value.pointer p, Value.pointer q3] } w3
  fun (v3 : Value) (w11 : World) =>
  ∃ (q6 : Option Addr),
  v3 = Value.pointer q6 ∧
  h1 w11 ∧
  Rets Try.prog (139 : Nat)
  { toList := [Value.int IntKind.i64 n5, Value.int IntKind.i64 n6, Value.pointer q4, Value.pointer q5] } w11
  fun (v4 : Value) (w12 : World) =>
  ∃ (q7 : Option Addr),
  v4 = Value.pointer q7 ∧
  h1 w12 ∧
  Rets Try.prog (139 : Nat)
  { toList := [Value.int IntKind.i64 n3, Value.int IntKind.i64 n4, Value.pointer q6, Value.pointer q7] } w12
  fun (v5 : Value) (w13 : World) => ∃ (q8 : Option Addr), v5 = Value.pointer q8 ∧ K (Value.pointer q8) w13) ∧
  (decide (n1 < n2) = false →
  Drw w2 fun (w14 : World) =>
  ∃ (h2 : World → Prop),
  h2 w14 ∧
  ∃ (n7 : Int),
  (∀ (w15 : World),
  h2 w15 → World.cell? w15 (Addr.add { block := g, off := (0 : Nat) } (0 : Nat)) = some (Value.int IntKind.i64 n7)) ∧
  ∃ (n8 : Int),
  (∀ (w16 : World),
  h2 w16 → World.cell? w16 (Addr.add { block := g, off := (0 : Nat) } (1 : Nat)) = some (Value.int IntKind.i64 n8)) ∧
  ∃ (q9 : Option Addr),
  (∀ (w17 : World),
  h2 w17 → World.cell? w17 (Addr.add { block := g, off := (0 : Nat) } (2 : Nat)) = some (Value.pointer q9)) ∧
  ∃ (q10 : Option Addr),
  (∀ (w18 : World),
  h2 w18 → World.cell? w18 (Addr.add { block := g, off := (0 : Nat) } (3 : Nat)) = some (Value.pointer q10)) ∧
  Rets Try.prog (139 : Nat)
  { toList := [Value.int IntKind.i64 k, Value.int IntKind.i64 v, Value.pointer p, Value.pointer q9] } w14
  fun (v6 : Value) (w19 : World) =>
  ∃ (q11 : Option Addr),
  v6 = Value.pointer q11 ∧
  h2 w19 ∧
  Rets Try.prog (139 : Nat)
  { toList := [Value.int IntKind.i64 n7, Value.int IntKind.i64 n8, Value.pointer q11, Value.pointer q10] } w19
  fun (v7 : Value) (w20 : World) => ∃ (q12 : Option Addr), v7 = Value.pointer q12 ∧ K (Value.pointer q12) w20)
theorem rank_rightUp_int_int_eq (k v : Int) (p : Option Addr) (g : Nat) (w : World) (K : Value → World → Prop) : fw Try.prog Try.f161 (annL []) (ordL [(3, [(0, 0), (1, 0), (2, 0), (4, 0), (5, 0), (6, 0), (8, 0), (9, 0), (10, 0), (11, 0), (12, 0), (13, 0), (16, 0), (17, 0), (18, 0), (20, 0), (21, 0), (22, 0), (24, 0), (25, 0), (26, 0), (28, 0), (29, 0), (30, 0), (3, 1), (7, 1), (14, 1), (19, 1), (23, 1), (27, 1), (31, 1), (15, 2), (32, 2), (33, 3), (34, 0)]), (4, [(0, 0), (1, 0), (2, 0), (4, 0), (5, 0), (6, 0), (8, 0), (9, 0), (10, 0), (11, 0), (12, 0), (13, 0), (16, 0), (17, 0), (18, 0), (3, 1), (7, 1), (14, 1), (19, 1), (15, 2), (20, 3), (21, 0)])]) [.int .i64 k, .int .i64 v, .pointer p, .pointer (some ⟨g, 0, none⟩)] w K = rank_rightUp_int_int_m k v p g w K := by kernel_rfl
theorem rank_rightUp_int_int_go (k v : Int) (p : Option Addr) (g : Nat) {w : World} {K : Value → World → Prop} (h : rank_rightUp_int_int_m k v p g w K) : Rets Try.prog 161 #[.int .i64 k, .int .i64 v, .pointer p, .pointer (some ⟨g, 0, none⟩)] w K :=
  calls_of_fw plain mixed Try.func161 (by kernel_rfl) (by rw [rank_rightUp_int_int_eq]; exact h)
def rank_joined_int_int_m (k v : Int) (p q : Option Addr) (w : World) (K : Value → World → Prop) : Prop :=
  Rets Try.prog (90 : Nat) { toList := [Value.pointer p] } w fun (v1 : Value) (w1 : World) =>
  ∃ (n1 : Int),
  v1 = Value.int IntKind.i64 n1 ∧
  Rets Try.prog (90 : Nat) { toList := [Value.pointer q] } w1 fun (v2 : Value) (w2 : World) =>
  ∃ (n2 : Int),
  v2 = Value.int IntKind.i64 n2 ∧
  (decide (IntKind.wrap IntKind.i64 (n1 - n2) > (1 : Int)) = true →
  Rets Try.prog (160 : Nat)
  { toList := [Value.int IntKind.i64 k, Value.int IntKind.i64 v, Value.pointer p, Value.pointer q] } w2
  fun (v3 : Value) (w3 : World) => ∃ (q1 : Option Addr), v3 = Value.pointer q1 ∧ K (Value.pointer q1) w3) ∧
  (decide (IntKind.wrap IntKind.i64 (n1 - n2) > (1 : Int)) = false →
  (decide (IntKind.wrap IntKind.i64 (n1 - n2) < (-1 : Int)) = true →
  Rets Try.prog (161 : Nat)
  { toList := [Value.int IntKind.i64 k, Value.int IntKind.i64 v, Value.pointer p, Value.pointer q] } w2
  fun (v4 : Value) (w4 : World) => ∃ (q2 : Option Addr), v4 = Value.pointer q2 ∧ K (Value.pointer q2) w4) ∧
  (decide (IntKind.wrap IntKind.i64 (n1 - n2) < (-1 : Int)) = false →
  Rets Try.prog (139 : Nat)
  { toList := [Value.int IntKind.i64 k, Value.int IntKind.i64 v, Value.pointer p, Value.pointer q] } w2
  fun (v5 : Value) (w5 : World) => ∃ (q3 : Option Addr), v5 = Value.pointer q3 ∧ K (Value.pointer q3) w5))
theorem rank_joined_int_int_eq (k v : Int) (p q : Option Addr) (w : World) (K : Value → World → Prop) : fw Try.prog Try.f140 (annL []) (ordL []) [.int .i64 k, .int .i64 v, .pointer p, .pointer q] w K = rank_joined_int_int_m k v p q w K := by kernel_rfl
theorem rank_joined_int_int_go (k v : Int) (p q : Option Addr) {w : World} {K : Value → World → Prop} (h : rank_joined_int_int_m k v p q w K) : Rets Try.prog 140 #[.int .i64 k, .int .i64 v, .pointer p, .pointer q] w K :=
  calls_of_fw plain mixed Try.func140 (by kernel_rfl) (by rw [rank_joined_int_int_eq]; exact h)
def rank_first_int_int_m (g : Nat) (w : World) (K : Value → World → Prop) : Prop :=
  ∃ (q1 : Option Addr),
  cellAt w (Addr.add { block := g, off := (0 : Nat) } (2 : Nat)) (Value.pointer q1) ∧
  (Option.isNone q1 = true →
  ∃ (q2 : Option Addr),
  cellAt w (Addr.add { block := g, off := (0 : Nat) } (3 : Nat)) (Value.pointer q2) ∧
  K (Value.tuple { toList := [Value.pointer q2, Value.pointer (some { block := g, off := (0 : Nat) })] }) w) ∧
  (Option.isNone q1 = false →
  ∃ (q3 : Option Addr),
  cellAt w (Addr.add { block := g, off := (0 : Nat) } (2 : Nat)) (Value.pointer q3) ∧
  Rets Try.prog (162 : Nat) { toList := [Value.pointer q3] } w fun (v1 : Value) (w1 : World) =>
  ∃ (q4 : Option Addr),
  ∃ (q5 : Option Addr),
  v1 = Value.tuple { toList := [Value.pointer q4, Value.pointer q5] } ∧
  Drw w1 fun (w2 : World) =>
  ∃ (n1 : Int),
  cellAt w2 (Addr.add { block := g, off := (0 : Nat) } (0 : Nat)) (Value.int IntKind.i64 n1) ∧
  ∃ (n2 : Int),
  cellAt w2 (Addr.add { block := g, off := (0 : Nat) } (1 : Nat)) (Value.int IntKind.i64 n2) ∧
  ∃ (q6 : Option Addr),
  cellAt w2 (Addr.add { block := g, off := (0 : Nat) } (3 : Nat)) (Value.pointer q6) ∧
  Rets Try.prog (140 : Nat)
  { toList := [Value.int IntKind.i64 n1, Value.int IntKind.i64 n2, Value.pointer q4, Value.pointer q6] } w2
  fun (v2 : Value) (w3 : World) =>
  ∃ (q7 : Option Addr), v2 = Value.pointer q7 ∧ K (Value.tuple { toList := [Value.pointer q7, Value.pointer q5] }) w3)
theorem rank_first_int_int_eq (g : Nat) (w : World) (K : Value → World → Prop) : fw Try.prog Try.f162 (annL []) (ordL [(4, [(0, 0), (1, 0), (2, 0), (4, 0), (5, 0), (6, 0), (8, 0), (9, 0), (10, 0), (11, 0), (14, 0), (3, 1), (7, 1), (12, 1), (13, 3), (15, 0), (16, 0)])]) [.pointer (some ⟨g, 0, none⟩)] w K = rank_first_int_int_m g w K := by kernel_rfl
theorem rank_first_int_int_go (g : Nat) {w : World} {K : Value → World → Prop} (h : rank_first_int_int_m g w K) : Rets Try.prog 162 #[.pointer (some ⟨g, 0, none⟩)] w K :=
  calls_of_fw plain mixed Try.func162 (by kernel_rfl) (by rw [rank_first_int_int_eq]; exact h)
def rank_both_int_int_m (p q : Option Addr) (w : World) (K : Value → World → Prop) : Prop :=
  (Option.isNone p = true → K (Value.pointer q) w) ∧
  (Option.isNone p = false →
  (Option.isNone q = true → K (Value.pointer p) w) ∧
  (Option.isNone q = false →
  Rets Try.prog (162 : Nat) { toList := [Value.pointer q] } w fun (v1 : Value) (w1 : World) =>
  ∃ (q1 : Option Addr),
  ∃ (q2 : Option Addr),
  v1 = Value.tuple { toList := [Value.pointer q1, Value.pointer q2] } ∧
  Drw w1 fun (w2 : World) =>
  someR q2 fun (a1 : Addr) =>
  someR q2 fun (a2 : Addr) =>
  ∃ (n1 : Int),
  cellAt w2 (Addr.add a1 (0 : Nat)) (Value.int IntKind.i64 n1) ∧
  ∃ (n2 : Int),
  cellAt w2 (Addr.add a2 (1 : Nat)) (Value.int IntKind.i64 n2) ∧
  Rets Try.prog (140 : Nat)
  { toList := [Value.int IntKind.i64 n1, Value.int IntKind.i64 n2, Value.pointer p, Value.pointer q1] } w2
  fun (v2 : Value) (w3 : World) => ∃ (q3 : Option Addr), v2 = Value.pointer q3 ∧ K (Value.pointer q3) w3))
theorem rank_both_int_int_eq (p q : Option Addr) (w : World) (K : Value → World → Prop) : fw Try.prog Try.f141 (annL []) (ordL [(6, [(0, 0), (1, 0), (2, 0), (4, 0), (5, 0), (6, 0), (8, 0), (9, 0), (3, 1), (7, 1), (10, 3), (11, 0)])]) [.pointer p, .pointer q] w K = rank_both_int_int_m p q w K := by kernel_rfl
theorem rank_both_int_int_go (p q : Option Addr) {w : World} {K : Value → World → Prop} (h : rank_both_int_int_m p q w K) : Rets Try.prog 141 #[.pointer p, .pointer q] w K :=
  calls_of_fw plain mixed Try.func141 (by kernel_rfl) (by rw [rank_both_int_int_eq]; exact h)
def rank_Tree_int_int_put_m (g : Nat) (p : Option Addr) (k v : Int) (w : World) (K : Value → World → Prop) : Prop :=
  (Option.isNone p = true →
  Rets Try.prog (139 : Nat)
  { toList := [Value.int IntKind.i64 k, Value.int IntKind.i64 v, Value.pointer none, Value.pointer none] } w
  fun (v1 : Value) (w1 : World) => ∃ (q1 : Option Addr), v1 = Value.pointer q1 ∧ K (Value.pointer q1) w1) ∧
  (Option.isNone p = false →
  Drw w fun (w2 : World) =>
  someR p fun (a1 : Addr) =>
  ∃ (k1 : Nat),
  ∃ (a2 : Array Value),
  ∃ (c1 : Array Value),
  cellAt w2 (Addr.add { block := g, off := (0 : Nat) } (0 : Nat)) (Value.func (Fn.func k1) a2 c1) ∧
  ∃ (n1 : Int),
  cellAt w2 (Addr.add a1 (0 : Nat)) (Value.int IntKind.i64 n1) ∧
  callG Try.prog k1 (Array.toList a2) [Value.int IntKind.i64 k, Value.int IntKind.i64 n1] (Array.toList c1) w2
  fun (v2 : Value) (w3 : World) =>
  ∃ (n2 : Int),
  v2 = Value.int IntKind.i64 n2 ∧
  (decide (n2 < (0 : Int)) = true →
  Drw w3 fun (w4 : World) =>
  ∃ (h1 : World → Prop),
  h1 w4 ∧
  someR p fun (a3 : Addr) =>
  someR p fun (a4 : Addr) =>
  someR p fun (a5 : Addr) =>
  someR p fun (a6 : Addr) =>
  ∃ (n3 : Int),
  (∀ (w5 : World), h1 w5 → World.cell? w5 (Addr.add a3 (0 : Nat)) = some (Value.int IntKind.i64 n3)) ∧
  ∃ (n4 : Int),
  (∀ (w6 : World), h1 w6 → World.cell? w6 (Addr.add a4 (1 : Nat)) = some (Value.int IntKind.i64 n4)) ∧
  ∃ (q2 : Option Addr),
  (∀ (w7 : World), h1 w7 → World.cell? w7 (Addr.add a5 (2 : Nat)) = some (Value.pointer q2)) ∧
  ∃ (q3 : Option Addr),
  (∀ (w8 : World), h1 w8 → World.cell? w8 (Addr.add a6 (3 : Nat)) = some (Value.pointer q3)) ∧
  Rets Try.prog (87 : Nat)
  {
  toList :=
  [Value.pointer (some { block := g, off := (0 : Nat) }), Value.pointer q2, Value.int IntKind.i64 k,
  Value.int IntKind.i64 v] }
  w4 fun (v3 : Value) (w9 : World) =>
  ∃ (q4 : Option Addr),
  v3 = Value.pointer q4 ∧
  h1 w9 ∧
  Rets Try.prog (140 : Nat)
  { toList := [Value.int IntKind.i64 n3, Value.int IntKind.i64 n4, Value.pointer q4, Value.pointer q3] } w9
  fun (v4 : Value) (w10 : World) => ∃ (q5 : Option Addr), v4 = Value.pointer q5 ∧ K (Value.pointer q5) w10) ∧
  (decide (n2 < (0 : Int)) = false →
  (decide (n2 > (0 : Int)) = true →
  Drw w3 fun (w11 : World) =>
  ∃ (h2 : World → Prop),
  h2 w11 ∧
  someR p fun (a7 : Addr) =>
  someR p fun (a8 : Addr) =>
  someR p fun (a9 : Addr) =>
  someR p fun (a10 : Addr) =>
  ∃ (n5 : Int),
  (∀ (w12 : World), h2 w12 → World.cell? w12 (Addr.add a7 (0 : Nat)) = some (Value.int IntKind.i64 n5)) ∧
  ∃ (n6 : Int),
  (∀ (w13 : World), h2 w13 → World.cell? w13 (Addr.add a8 (1 : Nat)) = some (Value.int IntKind.i64 n6)) ∧
  ∃ (q6 : Option Addr),
  (∀ (w14 : World), h2 w14 → World.cell? w14 (Addr.add a9 (2 : Nat)) = some (Value.pointer q6)) ∧
  ∃ (q7 : Option Addr),
  (∀ (w15 : World), h2 w15 → World.cell? w15 (Addr.add a10 (3 : Nat)) = some (Value.pointer q7)) ∧
  Rets Try.prog (87 : Nat)
  {
  toList :=
  [Value.pointer (some { block := g, off := (0 : Nat) }), Value.pointer q7, Value.int IntKind.i64 k,
  Value.int IntKind.i64 v] }
  w11 fun (v5 : Value) (w16 : World) =>
  ∃ (q8 : Option Addr),
  v5 = Value.pointer q8 ∧
  h2 w16 ∧
  Rets Try.prog (140 : Nat)
  { toList := [Value.int IntKind.i64 n5, Value.int IntKind.i64 n6, Value.pointer q6, Value.pointer q8] } w16
  fun (v6 : Value) (w17 : World) => ∃ (q9 : Option Addr), v6 = Value.pointer q9 ∧ K (Value.pointer q9) w17) ∧
  (decide (n2 > (0 : Int)) = false →
  Drw w3 fun (w18 : World) =>
  someR p fun (a11 : Addr) =>
  someR p fun (a12 : Addr) =>
  ∃ (q10 : Option Addr),
  cellAt w18 (Addr.add a11 (2 : Nat)) (Value.pointer q10) ∧
  ∃ (q11 : Option Addr),
  cellAt w18 (Addr.add a12 (3 : Nat)) (Value.pointer q11) ∧
  Rets Try.prog (139 : Nat)
  { toList := [Value.int IntKind.i64 k, Value.int IntKind.i64 v, Value.pointer q10, Value.pointer q11] } w18
  fun (v7 : Value) (w19 : World) => ∃ (q12 : Option Addr), v7 = Value.pointer q12 ∧ K (Value.pointer q12) w19)))
theorem rank_Tree_int_int_put_eq (g : Nat) (p : Option Addr) (k v : Int) (w : World) (K : Value → World → Prop) : fw Try.prog Try.f87 (annL []) (ordL [(3, [(0, 0), (1, 0), (2, 0), (4, 0), (5, 0), (6, 0), (7, 0), (3, 1), (8, 1), (9, 3), (10, 0)]), (5, [(0, 0), (1, 0), (2, 0), (4, 0), (5, 0), (6, 0), (8, 0), (9, 0), (10, 0), (11, 0), (13, 0), (14, 0), (16, 0), (17, 0), (18, 0), (3, 1), (7, 1), (12, 1), (19, 1), (15, 2), (20, 3), (21, 0)]), (7, [(0, 0), (1, 0), (2, 0), (4, 0), (5, 0), (6, 0), (8, 0), (9, 0), (10, 0), (12, 0), (13, 0), (14, 0), (15, 0), (17, 0), (18, 0), (3, 1), (7, 1), (11, 1), (16, 1), (19, 2), (20, 3), (21, 0)]), (8, [(0, 0), (1, 0), (2, 0), (3, 0), (4, 0), (6, 0), (7, 0), (8, 0), (5, 1), (9, 1), (10, 3), (11, 0)])]) [.pointer (some ⟨g, 0, none⟩), .pointer p, .int .i64 k, .int .i64 v] w K = rank_Tree_int_int_put_m g p k v w K := by kernel_rfl
theorem rank_Tree_int_int_put_go (g : Nat) (p : Option Addr) (k v : Int) {w : World} {K : Value → World → Prop} (h : rank_Tree_int_int_put_m g p k v w K) : Rets Try.prog 87 #[.pointer (some ⟨g, 0, none⟩), .pointer p, .int .i64 k, .int .i64 v] w K :=
  calls_of_fw plain mixed Try.func87 (by kernel_rfl) (by rw [rank_Tree_int_int_put_eq]; exact h)
def rank_Tree_int_int_drop_m (g : Nat) (p : Option Addr) (k : Int) (w : World) (K : Value → World → Prop) : Prop :=
  (Option.isNone p = true → K (Value.pointer none) w) ∧
  (Option.isNone p = false →
  Drw w fun (w1 : World) =>
  someR p fun (a1 : Addr) =>
  ∃ (k1 : Nat),
  ∃ (a2 : Array Value),
  ∃ (c1 : Array Value),
  cellAt w1 (Addr.add { block := g, off := (0 : Nat) } (0 : Nat)) (Value.func (Fn.func k1) a2 c1) ∧
  ∃ (n1 : Int),
  cellAt w1 (Addr.add a1 (0 : Nat)) (Value.int IntKind.i64 n1) ∧
  callG Try.prog k1 (Array.toList a2) [Value.int IntKind.i64 k, Value.int IntKind.i64 n1] (Array.toList c1) w1
  fun (v1 : Value) (w2 : World) =>
  ∃ (n2 : Int),
  v1 = Value.int IntKind.i64 n2 ∧
  (decide (n2 < (0 : Int)) = true →
  Drw w2 fun (w3 : World) =>
  ∃ (h1 : World → Prop),
  h1 w3 ∧
  someR p fun (a3 : Addr) =>
  someR p fun (a4 : Addr) =>
  someR p fun (a5 : Addr) =>
  someR p fun (a6 : Addr) =>
  ∃ (n3 : Int),
  (∀ (w4 : World), h1 w4 → World.cell? w4 (Addr.add a3 (0 : Nat)) = some (Value.int IntKind.i64 n3)) ∧
  ∃ (n4 : Int),
  (∀ (w5 : World), h1 w5 → World.cell? w5 (Addr.add a4 (1 : Nat)) = some (Value.int IntKind.i64 n4)) ∧
  ∃ (q1 : Option Addr),
  (∀ (w6 : World), h1 w6 → World.cell? w6 (Addr.add a5 (2 : Nat)) = some (Value.pointer q1)) ∧
  ∃ (q2 : Option Addr),
  (∀ (w7 : World), h1 w7 → World.cell? w7 (Addr.add a6 (3 : Nat)) = some (Value.pointer q2)) ∧
  Rets Try.prog (88 : Nat)
  { toList := [Value.pointer (some { block := g, off := (0 : Nat) }), Value.pointer q1, Value.int IntKind.i64 k] } w3
  fun (v2 : Value) (w8 : World) =>
  ∃ (q3 : Option Addr),
  v2 = Value.pointer q3 ∧
  h1 w8 ∧
  Rets Try.prog (140 : Nat)
  { toList := [Value.int IntKind.i64 n3, Value.int IntKind.i64 n4, Value.pointer q3, Value.pointer q2] } w8
  fun (v3 : Value) (w9 : World) => ∃ (q4 : Option Addr), v3 = Value.pointer q4 ∧ K (Value.pointer q4) w9) ∧
  (decide (n2 < (0 : Int)) = false →
  (decide (n2 > (0 : Int)) = true →
  Drw w2 fun (w10 : World) =>
  ∃ (h2 : World → Prop),
  h2 w10 ∧
  someR p fun (a7 : Addr) =>
  someR p fun (a8 : Addr) =>
  someR p fun (a9 : Addr) =>
  someR p fun (a10 : Addr) =>
  ∃ (n5 : Int),
  (∀ (w11 : World), h2 w11 → World.cell? w11 (Addr.add a7 (0 : Nat)) = some (Value.int IntKind.i64 n5)) ∧
  ∃ (n6 : Int),
  (∀ (w12 : World), h2 w12 → World.cell? w12 (Addr.add a8 (1 : Nat)) = some (Value.int IntKind.i64 n6)) ∧
  ∃ (q5 : Option Addr),
  (∀ (w13 : World), h2 w13 → World.cell? w13 (Addr.add a9 (2 : Nat)) = some (Value.pointer q5)) ∧
  ∃ (q6 : Option Addr),
  (∀ (w14 : World), h2 w14 → World.cell? w14 (Addr.add a10 (3 : Nat)) = some (Value.pointer q6)) ∧
  Rets Try.prog (88 : Nat)
  { toList := [Value.pointer (some { block := g, off := (0 : Nat) }), Value.pointer q6, Value.int IntKind.i64 k] } w10
  fun (v4 : Value) (w15 : World) =>
  ∃ (q7 : Option Addr),
  v4 = Value.pointer q7 ∧
  h2 w15 ∧
  Rets Try.prog (140 : Nat)
  { toList := [Value.int IntKind.i64 n5, Value.int IntKind.i64 n6, Value.pointer q5, Value.pointer q7] } w15
  fun (v5 : Value) (w16 : World) => ∃ (q8 : Option Addr), v5 = Value.pointer q8 ∧ K (Value.pointer q8) w16) ∧
  (decide (n2 > (0 : Int)) = false →
  Drw w2 fun (w17 : World) =>
  someR p fun (a11 : Addr) =>
  someR p fun (a12 : Addr) =>
  ∃ (q9 : Option Addr),
  cellAt w17 (Addr.add a11 (2 : Nat)) (Value.pointer q9) ∧
  ∃ (q10 : Option Addr),
  cellAt w17 (Addr.add a12 (3 : Nat)) (Value.pointer q10) ∧
  Rets Try.prog (141 : Nat) { toList := [Value.pointer q9, Value.pointer q10] } w17 fun (v6 : Value) (w18 : World) =>
  ∃ (q11 : Option Addr), v6 = Value.pointer q11 ∧ K (Value.pointer q11) w18)))
theorem rank_Tree_int_int_drop_eq (g : Nat) (p : Option Addr) (k : Int) (w : World) (K : Value → World → Prop) : fw Try.prog Try.f88 (annL []) (ordL [(3, [(0, 0), (1, 0), (2, 0), (4, 0), (5, 0), (6, 0), (7, 0), (3, 1), (8, 1), (9, 3), (10, 0)]), (5, [(0, 0), (1, 0), (2, 0), (4, 0), (5, 0), (6, 0), (8, 0), (9, 0), (10, 0), (11, 0), (13, 0), (15, 0), (16, 0), (17, 0), (3, 1), (7, 1), (12, 1), (18, 1), (14, 2), (19, 3), (20, 0)]), (7, [(0, 0), (1, 0), (2, 0), (4, 0), (5, 0), (6, 0), (8, 0), (9, 0), (10, 0), (12, 0), (13, 0), (14, 0), (15, 0), (17, 0), (3, 1), (7, 1), (11, 1), (16, 1), (18, 2), (19, 3), (20, 0)]), (8, [(0, 0), (1, 0), (2, 0), (4, 0), (5, 0), (6, 0), (3, 1), (7, 1), (8, 3), (9, 0)])]) [.pointer (some ⟨g, 0, none⟩), .pointer p, .int .i64 k] w K = rank_Tree_int_int_drop_m g p k w K := by kernel_rfl
theorem rank_Tree_int_int_drop_go (g : Nat) (p : Option Addr) (k : Int) {w : World} {K : Value → World → Prop} (h : rank_Tree_int_int_drop_m g p k w K) : Rets Try.prog 88 #[.pointer (some ⟨g, 0, none⟩), .pointer p, .int .i64 k] w K :=
  calls_of_fw plain mixed Try.func88 (by kernel_rfl) (by rw [rank_Tree_int_int_drop_eq]; exact h)
def rank_Tree_int_int_Put_m (g : Nat) (k v : Int) (w : World) (K : Value → World → Prop) : Prop :=
  (false = true → K (Value.pointer none) w) ∧
  (false = false →
  Drw w fun (w1 : World) =>
  ∃ (h1 : World → Prop),
  h1 w1 ∧
  ∃ (k1 : Nat),
  ∃ (a1 : Array Value),
  ∃ (c1 : Array Value),
  (∀ (w2 : World),
  h1 w2 → World.cell? w2 (Addr.add { block := g, off := (0 : Nat) } (0 : Nat)) = some (Value.func (Fn.func k1) a1 c1)) ∧
  ∃ (q1 : Option Addr),
  (∀ (w3 : World),
  h1 w3 → World.cell? w3 (Addr.add { block := g, off := (0 : Nat) } (1 : Nat)) = some (Value.pointer q1)) ∧
  Rets Try.prog (87 : Nat)
  {
  toList :=
  [Value.pointer (some { block := g, off := (0 : Nat) }), Value.pointer q1, Value.int IntKind.i64 k,
  Value.int IntKind.i64 v] }
  w1 fun (v1 : Value) (w4 : World) =>
  ∃ (q2 : Option Addr),
  v1 = Value.pointer q2 ∧
  h1 w4 ∧
  NewR (107 : Nat) [Value.func (Fn.func k1) a1 c1, Value.pointer q2] w4 fun (a2 : Addr) (w5 : World) =>
  K (Value.pointer (some a2)) w5)
theorem rank_Tree_int_int_Put_eq (g : Nat) (k v : Int) (w : World) (K : Value → World → Prop) : fw Try.prog Try.f20 (annL []) (ordL [(3, [(0, 0), (1, 0), (2, 0), (4, 0), (5, 0), (6, 0), (7, 0), (9, 0), (10, 0), (3, 1), (8, 1), (11, 2), (12, 0), (13, 3), (14, 0)])]) [.pointer (some ⟨g, 0, none⟩), .int .i64 k, .int .i64 v] w K = rank_Tree_int_int_Put_m g k v w K := by kernel_rfl
theorem rank_Tree_int_int_Put_go (g : Nat) (k v : Int) {w : World} {K : Value → World → Prop} (h : rank_Tree_int_int_Put_m g k v w K) : Rets Try.prog 20 #[.pointer (some ⟨g, 0, none⟩), .int .i64 k, .int .i64 v] w K :=
  calls_of_fw plain mixed Try.func20 (by kernel_rfl) (by rw [rank_Tree_int_int_Put_eq]; exact h)
def rank_nil_Put_m (k v : Int) (w : World) (K : Value → World → Prop) : Prop :=
  (true = true → K (Value.pointer none) w) ∧
  (true = false → Drw w fun (w1 : World) => ∃ (h1 : World → Prop), h1 w1 ∧ False)
theorem rank_nil_Put_eq (k v : Int) (w : World) (K : Value → World → Prop) : fw Try.prog Try.f20 (annL []) (ordL [(3, [(0, 0), (1, 0), (2, 0), (4, 0), (5, 0), (6, 0), (7, 0), (9, 0), (10, 0), (3, 1), (8, 1), (11, 2), (12, 0), (13, 3), (14, 0)])]) [.pointer none, .int .i64 k, .int .i64 v] w K = rank_nil_Put_m k v w K := by kernel_rfl
theorem rank_nil_Put_go (k v : Int) {w : World} {K : Value → World → Prop} (h : rank_nil_Put_m k v w K) : Rets Try.prog 20 #[.pointer none, .int .i64 k, .int .i64 v] w K :=
  calls_of_fw plain mixed Try.func20 (by kernel_rfl) (by rw [rank_nil_Put_eq]; exact h)
def rank_Tree_int_int_Drop_m (g : Nat) (k : Int) (w : World) (K : Value → World → Prop) : Prop :=
  (false = true → K (Value.pointer none) w) ∧
  (false = false →
  Drw w fun (w1 : World) =>
  ∃ (h1 : World → Prop),
  h1 w1 ∧
  ∃ (k1 : Nat),
  ∃ (a1 : Array Value),
  ∃ (c1 : Array Value),
  (∀ (w2 : World),
  h1 w2 → World.cell? w2 (Addr.add { block := g, off := (0 : Nat) } (0 : Nat)) = some (Value.func (Fn.func k1) a1 c1)) ∧
  ∃ (q1 : Option Addr),
  (∀ (w3 : World),
  h1 w3 → World.cell? w3 (Addr.add { block := g, off := (0 : Nat) } (1 : Nat)) = some (Value.pointer q1)) ∧
  Rets Try.prog (88 : Nat)
  { toList := [Value.pointer (some { block := g, off := (0 : Nat) }), Value.pointer q1, Value.int IntKind.i64 k] } w1
  fun (v1 : Value) (w4 : World) =>
  ∃ (q2 : Option Addr),
  v1 = Value.pointer q2 ∧
  h1 w4 ∧
  NewR (107 : Nat) [Value.func (Fn.func k1) a1 c1, Value.pointer q2] w4 fun (a2 : Addr) (w5 : World) =>
  K (Value.pointer (some a2)) w5)
theorem rank_Tree_int_int_Drop_eq (g : Nat) (k : Int) (w : World) (K : Value → World → Prop) : fw Try.prog Try.f22 (annL []) (ordL [(3, [(0, 0), (1, 0), (2, 0), (4, 0), (5, 0), (6, 0), (7, 0), (9, 0), (3, 1), (8, 1), (10, 2), (11, 0), (12, 3), (13, 0)])]) [.pointer (some ⟨g, 0, none⟩), .int .i64 k] w K = rank_Tree_int_int_Drop_m g k w K := by kernel_rfl
theorem rank_Tree_int_int_Drop_go (g : Nat) (k : Int) {w : World} {K : Value → World → Prop} (h : rank_Tree_int_int_Drop_m g k w K) : Rets Try.prog 22 #[.pointer (some ⟨g, 0, none⟩), .int .i64 k] w K :=
  calls_of_fw plain mixed Try.func22 (by kernel_rfl) (by rw [rank_Tree_int_int_Drop_eq]; exact h)
def rank_nil_Drop_m (k : Int) (w : World) (K : Value → World → Prop) : Prop :=
  (true = true → K (Value.pointer none) w) ∧
  (true = false → Drw w fun (w1 : World) => ∃ (h1 : World → Prop), h1 w1 ∧ False)
theorem rank_nil_Drop_eq (k : Int) (w : World) (K : Value → World → Prop) : fw Try.prog Try.f22 (annL []) (ordL [(3, [(0, 0), (1, 0), (2, 0), (4, 0), (5, 0), (6, 0), (7, 0), (9, 0), (3, 1), (8, 1), (10, 2), (11, 0), (12, 3), (13, 0)])]) [.pointer none, .int .i64 k] w K = rank_nil_Drop_m k w K := by kernel_rfl
theorem rank_nil_Drop_go (k : Int) {w : World} {K : Value → World → Prop} (h : rank_nil_Drop_m k w K) : Rets Try.prog 22 #[.pointer none, .int .i64 k] w K :=
  calls_of_fw plain mixed Try.func22 (by kernel_rfl) (by rw [rank_nil_Drop_eq]; exact h)
def rank_Tree_int_int_find_m (g : Nat) (k : Int) (w : World) (K : Value → World → Prop) : Prop :=
  (false = true → K (Value.tuple { toList := [Value.pointer none, Value.int IntKind.i64 (0 : Int)] }) w) ∧
  (false = false →
  ∃ (q1 : Option Addr),
  cellAt w (Addr.add { block := g, off := (0 : Nat) } (1 : Nat)) (Value.pointer q1) ∧
  ∃ (h1 : Nat → List Value → World → Prop),
  (∃ (k1 : Nat), h1 k1 [Value.int IntKind.i64 (0 : Int), Value.pointer q1] w) ∧
  ∀ (k2 : Nat) (w1 : World) (v1 v2 : Value) (n1 : Int) (q2 : Option Addr)
  (v3 v4 v5 v6 v7 v8 v9 v10 v11 v12 v13 v14 v15 v16 v17 v18 v19 v20 v21 v22 v23 v24 v25 v26 v27 v28 v29 v30 v31 v32 v33
  v34 v35 v36 v37 v38 v39 v40 v41 v42 v43 : Value),
  h1 k2 [Value.int IntKind.i64 n1, Value.pointer q2] w1 →
  ((!Option.isNone q2) = true →
  Drw w1 fun (w2 : World) =>
  someR q2 fun (a1 : Addr) =>
  ∃ (k3 : Nat),
  ∃ (a2 : Array Value),
  ∃ (c1 : Array Value),
  cellAt w2 (Addr.add { block := g, off := (0 : Nat) } (0 : Nat)) (Value.func (Fn.func k3) a2 c1) ∧
  ∃ (n2 : Int),
  cellAt w2 (Addr.add a1 (0 : Nat)) (Value.int IntKind.i64 n2) ∧
  callG Try.prog k3 (Array.toList a2) [Value.int IntKind.i64 k, Value.int IntKind.i64 n2] (Array.toList c1) w2
  fun (v44 : Value) (w3 : World) =>
  ∃ (n3 : Int),
  v44 = Value.int IntKind.i64 n3 ∧
  ((n3 == (0 : Int)) = true →
  someR q2 fun (a3 : Addr) =>
  ∃ (q3 : Option Addr),
  cellAt w3 (Addr.add a3 (2 : Nat)) (Value.pointer q3) ∧
  Rets Try.prog (108 : Nat) { toList := [Value.pointer q3] } w3 fun (v45 : Value) (w4 : World) =>
  ∃ (n4 : Int),
  v45 = Value.int IntKind.i64 n4 ∧
  K (Value.tuple { toList := [Value.pointer q2, Value.int IntKind.i64 (IntKind.wrap IntKind.i64 (n1 + n4))] }) w4) ∧
  ((n3 == (0 : Int)) = false →
  (decide (n3 < (0 : Int)) = true →
  someR q2 fun (a4 : Addr) =>
  ∃ (q4 : Option Addr),
  cellAt w3 (Addr.add a4 (2 : Nat)) (Value.pointer q4) ∧
  ∃ (k4 : Nat), k4 < k2 ∧ h1 k4 [Value.int IntKind.i64 n1, Value.pointer q4] w3) ∧
  (decide (n3 < (0 : Int)) = false →
  Drw w3 fun (w5 : World) =>
  ∃ (h2 : World → Prop),
  h2 w5 ∧
  someR q2 fun (a5 : Addr) =>
  someR q2 fun (a6 : Addr) =>
  ∃ (q5 : Option Addr),
  (∀ (w6 : World), h2 w6 → World.cell? w6 (Addr.add a5 (2 : Nat)) = some (Value.pointer q5)) ∧
  ∃ (q6 : Option Addr),
  (∀ (w7 : World), h2 w7 → World.cell? w7 (Addr.add a6 (3 : Nat)) = some (Value.pointer q6)) ∧
  Rets Try.prog (108 : Nat) { toList := [Value.pointer q5] } w5 fun (v46 : Value) (w8 : World) =>
  ∃ (n5 : Int),
  v46 = Value.int IntKind.i64 n5 ∧
  h2 w8 ∧
  ∃ (k5 : Nat),
  k5 < k2 ∧
  h1 k5
  [Value.int IntKind.i64 (IntKind.wrap IntKind.i64 (IntKind.wrap IntKind.i64 (n1 + n5) + (1 : Int))), Value.pointer q6]
  w8))) ∧
  ((!Option.isNone q2) = false → K (Value.tuple { toList := [Value.pointer none, Value.int IntKind.i64 n1] }) w1))
theorem rank_Tree_int_int_find_eq (g : Nat) (k : Int) (w : World) (K : Value → World → Prop) : fw Try.prog Try.f89 (annL [(2, [(4, none), (5, none), (6, some 3), (7, some 105), (8, none), (16, none), (17, none), (18, none), (19, none), (20, none), (21, none), (22, none), (23, none), (24, none), (25, none), (26, none), (27, none), (28, none), (29, none), (30, none), (31, none), (32, none), (33, none), (34, none), (35, none), (36, none), (37, none), (38, none), (39, none), (40, none), (41, none), (42, none), (43, none), (44, none), (45, none), (46, none), (47, none), (48, none), (49, none), (50, none), (51, none), (52, none), (53, none), (54, none), (55, none)])]) (ordL [(6, [(0, 0), (1, 0), (2, 0), (4, 0), (5, 0), (6, 0), (7, 0), (3, 1), (8, 1), (9, 3), (10, 0)]), (11, [(0, 0), (1, 0), (2, 0), (3, 0), (8, 0), (9, 0), (10, 0), (4, 1), (11, 1), (5, 2), (6, 0), (7, 0), (12, 0), (13, 0)])]) [.pointer (some ⟨g, 0, none⟩), .int .i64 k] w K = rank_Tree_int_int_find_m g k w K := by kernel_rfl
theorem rank_Tree_int_int_find_go (g : Nat) (k : Int) {w : World} {K : Value → World → Prop} (h : rank_Tree_int_int_find_m g k w K) : Rets Try.prog 89 #[.pointer (some ⟨g, 0, none⟩), .int .i64 k] w K :=
  calls_of_fw plain mixed Try.func89 (by kernel_rfl) (by rw [rank_Tree_int_int_find_eq]; exact h)
def rank_nil_find_m (k : Int) (w : World) (K : Value → World → Prop) : Prop :=
  (true = true → K (Value.tuple { toList := [Value.pointer none, Value.int IntKind.i64 (0 : Int)] }) w) ∧
  (true = false → False)
theorem rank_nil_find_eq (k : Int) (w : World) (K : Value → World → Prop) : fw Try.prog Try.f89 (annL [(2, [(4, none), (5, none), (6, some 3), (7, some 105), (8, none), (16, none), (17, none), (18, none), (19, none), (20, none), (21, none), (22, none), (23, none), (24, none), (25, none), (26, none), (27, none), (28, none), (29, none), (30, none), (31, none), (32, none), (33, none), (34, none), (35, none), (36, none), (37, none), (38, none), (39, none), (40, none), (41, none), (42, none), (43, none), (44, none), (45, none), (46, none), (47, none), (48, none), (49, none), (50, none), (51, none), (52, none), (53, none), (54, none), (55, none)])]) (ordL [(6, [(0, 0), (1, 0), (2, 0), (4, 0), (5, 0), (6, 0), (7, 0), (3, 1), (8, 1), (9, 3), (10, 0)]), (11, [(0, 0), (1, 0), (2, 0), (3, 0), (8, 0), (9, 0), (10, 0), (4, 1), (11, 1), (5, 2), (6, 0), (7, 0), (12, 0), (13, 0)])]) [.pointer none, .int .i64 k] w K = rank_nil_find_m k w K := by kernel_rfl
theorem rank_nil_find_go (k : Int) {w : World} {K : Value → World → Prop} (h : rank_nil_find_m k w K) : Rets Try.prog 89 #[.pointer none, .int .i64 k] w K :=
  calls_of_fw plain mixed Try.func89 (by kernel_rfl) (by rw [rank_nil_find_eq]; exact h)
def rank_Tree_int_int_Get_m (p : Option Addr) (k : Int) (w : World) (K : Value → World → Prop) : Prop :=
  Rets Try.prog (89 : Nat) { toList := [Value.pointer p, Value.int IntKind.i64 k] } w fun (v1 : Value) (w1 : World) =>
  ∃ (q1 : Option Addr),
  ∃ (n1 : Int),
  v1 = Value.tuple { toList := [Value.pointer q1, Value.int IntKind.i64 n1] } ∧
  (Option.isNone q1 = true → K (Value.tuple { toList := [Value.int IntKind.i64 (0 : Int), Value.bool false] }) w1) ∧
  (Option.isNone q1 = false →
  someR q1 fun (a1 : Addr) =>
  ∃ (n2 : Int),
  cellAt w1 (Addr.add a1 (1 : Nat)) (Value.int IntKind.i64 n2) ∧
  K (Value.tuple { toList := [Value.int IntKind.i64 n2, Value.bool true] }) w1)
theorem rank_Tree_int_int_Get_eq (p : Option Addr) (k : Int) (w : World) (K : Value → World → Prop) : fw Try.prog Try.f24 (annL []) (ordL []) [.pointer p, .int .i64 k] w K = rank_Tree_int_int_Get_m p k w K := by kernel_rfl
theorem rank_Tree_int_int_Get_go (p : Option Addr) (k : Int) {w : World} {K : Value → World → Prop} (h : rank_Tree_int_int_Get_m p k w K) : Rets Try.prog 24 #[.pointer p, .int .i64 k] w K :=
  calls_of_fw plain mixed Try.func24 (by kernel_rfl) (by rw [rank_Tree_int_int_Get_eq]; exact h)
def rank_Tree_int_int_Rank_m (p : Option Addr) (k : Int) (w : World) (K : Value → World → Prop) : Prop :=
  Rets Try.prog (89 : Nat) { toList := [Value.pointer p, Value.int IntKind.i64 k] } w fun (v1 : Value) (w1 : World) =>
  ∃ (q1 : Option Addr),
  ∃ (n1 : Int),
  v1 = Value.tuple { toList := [Value.pointer q1, Value.int IntKind.i64 n1] } ∧
  K (Value.tuple { toList := [Value.int IntKind.i64 n1, Value.bool !Option.isNone q1] }) w1
theorem rank_Tree_int_int_Rank_eq (p : Option Addr) (k : Int) (w : World) (K : Value → World → Prop) : fw Try.prog Try.f26 (annL []) (ordL []) [.pointer p, .int .i64 k] w K = rank_Tree_int_int_Rank_m p k w K := by kernel_rfl
theorem rank_Tree_int_int_Rank_go (p : Option Addr) (k : Int) {w : World} {K : Value → World → Prop} (h : rank_Tree_int_int_Rank_m p k w K) : Rets Try.prog 26 #[.pointer p, .int .i64 k] w K :=
  calls_of_fw plain mixed Try.func26 (by kernel_rfl) (by rw [rank_Tree_int_int_Rank_eq]; exact h)
def rank_Tree_int_int_At_m (g : Nat) (i : Int) (w : World) (K : Value → World → Prop) : Prop :=
  (false = false →
  (decide (i < (0 : Int)) = true →
  K (Value.tuple { toList := [Value.int IntKind.i64 (0 : Int), Value.int IntKind.i64 (0 : Int), Value.bool false] }) w) ∧
  (decide (i < (0 : Int)) = false →
  ∃ (q1 : Option Addr),
  cellAt w (Addr.add { block := g, off := (0 : Nat) } (1 : Nat)) (Value.pointer q1) ∧
  ∃ (h1 : Nat → List Value → World → Prop),
  (∃ (k1 : Nat),
  h1 k1 [Value.int IntKind.i64 i, Value.int IntKind.i64 (0 : Int), Value.int IntKind.i64 (0 : Int), Value.pointer q1] w) ∧
  ∀ (k2 : Nat) (w1 : World) (n1 n2 n3 : Int) (v1 : Value) (q2 : Option Addr)
  (v2 v3 v4 v5 v6 v7 v8 v9 v10 v11 v12 v13 v14 v15 v16 v17 v18 v19 v20 v21 v22 v23 v24 v25 v26 v27 v28 v29 v30 v31 v32 v33
  v34 v35 v36 v37 : Value),
  h1 k2 [Value.int IntKind.i64 n1, Value.int IntKind.i64 n2, Value.int IntKind.i64 n3, Value.pointer q2] w1 →
  ((!Option.isNone q2) = true →
  someR q2 fun (a1 : Addr) =>
  ∃ (q3 : Option Addr),
  cellAt w1 (Addr.add a1 (2 : Nat)) (Value.pointer q3) ∧
  Rets Try.prog (108 : Nat) { toList := [Value.pointer q3] } w1 fun (v38 : Value) (w2 : World) =>
  ∃ (n4 : Int),
  v38 = Value.int IntKind.i64 n4 ∧
  (decide (n1 < n4) = true →
  someR q2 fun (a2 : Addr) =>
  ∃ (q4 : Option Addr),
  cellAt w2 (Addr.add a2 (2 : Nat)) (Value.pointer q4) ∧
  ∃ (k3 : Nat),
  k3 < k2 ∧ h1 k3 [Value.int IntKind.i64 n1, Value.int IntKind.i64 n2, Value.int IntKind.i64 n3, Value.pointer q4] w2) ∧
  (decide (n1 < n4) = false →
  (decide (n1 > n4) = true →
  Drw w2 fun (w3 : World) =>
  someR q2 fun (a3 : Addr) =>
  ∃ (q5 : Option Addr),
  cellAt w3 (Addr.add a3 (3 : Nat)) (Value.pointer q5) ∧
  ∃ (k4 : Nat),
  k4 < k2 ∧
  h1 k4
  [Value.int IntKind.i64 (IntKind.wrap IntKind.i64 (IntKind.wrap IntKind.i64 (n1 - n4) - (1 : Int))),
  Value.int IntKind.i64 n2, Value.int IntKind.i64 n3, Value.pointer q5]
  w3) ∧
  (decide (n1 > n4) = false →
  Drw w2 fun (w4 : World) =>
  someR q2 fun (a4 : Addr) =>
  someR q2 fun (a5 : Addr) =>
  ∃ (n5 : Int),
  cellAt w4 (Addr.add a4 (0 : Nat)) (Value.int IntKind.i64 n5) ∧
  ∃ (n6 : Int),
  cellAt w4 (Addr.add a5 (1 : Nat)) (Value.int IntKind.i64 n6) ∧
  K (Value.tuple { toList := [Value.int IntKind.i64 n5, Value.int IntKind.i64 n6, Value.bool true] }) w4))) ∧
  ((!Option.isNone q2) = false →
  K (Value.tuple { toList := [Value.int IntKind.i64 n2, Value.int IntKind.i64 n3, Value.bool false] }) w1))) ∧
  (false = true →
  K (Value.tuple { toList := [Value.int IntKind.i64 (0 : Int), Value.int IntKind.i64 (0 : Int), Value.bool false] }) w)
theorem rank_Tree_int_int_At_eq (g : Nat) (i : Int) (w : World) (K : Value → World → Prop) : fw Try.prog Try.f46 (annL [(2, [(1, some 3), (4, some 3), (5, some 3), (6, none), (7, some 105), (8, none), (21, none), (22, none), (23, none), (24, none), (25, none), (26, none), (27, none), (28, none), (29, none), (30, none), (31, none), (32, none), (33, none), (34, none), (35, none), (36, none), (37, none), (38, none), (39, none), (40, none), (41, none), (42, none), (43, none), (44, none), (45, none), (46, none), (47, none), (48, none), (49, none), (50, none), (51, none), (52, none), (53, none), (54, none), (55, none)])]) (ordL [(10, [(0, 0), (1, 0), (2, 0), (3, 0), (4, 0), (5, 0), (6, 0), (8, 0), (7, 1), (9, 0)]), (6, [(0, 0), (1, 0), (2, 0), (4, 0), (5, 0), (6, 0), (3, 1), (8, 0), (7, 1), (9, 0), (10, 0)])]) [.pointer (some ⟨g, 0, none⟩), .int .i64 i] w K = rank_Tree_int_int_At_m g i w K := by kernel_rfl
theorem rank_Tree_int_int_At_go (g : Nat) (i : Int) {w : World} {K : Value → World → Prop} (h : rank_Tree_int_int_At_m g i w K) : Rets Try.prog 46 #[.pointer (some ⟨g, 0, none⟩), .int .i64 i] w K :=
  calls_of_fw plain mixed Try.func46 (by kernel_rfl) (by rw [rank_Tree_int_int_At_eq]; exact h)
def rank_nil_At_m (i : Int) (w : World) (K : Value → World → Prop) : Prop :=
  (true = false →
  (decide (i < (0 : Int)) = true →
  K (Value.tuple { toList := [Value.int IntKind.i64 (0 : Int), Value.int IntKind.i64 (0 : Int), Value.bool false] }) w) ∧
  (decide (i < (0 : Int)) = false → False)) ∧
  (true = true →
  K (Value.tuple { toList := [Value.int IntKind.i64 (0 : Int), Value.int IntKind.i64 (0 : Int), Value.bool false] }) w)
theorem rank_nil_At_eq (i : Int) (w : World) (K : Value → World → Prop) : fw Try.prog Try.f46 (annL [(2, [(1, some 3), (4, some 3), (5, some 3), (6, none), (7, some 105), (8, none), (21, none), (22, none), (23, none), (24, none), (25, none), (26, none), (27, none), (28, none), (29, none), (30, none), (31, none), (32, none), (33, none), (34, none), (35, none), (36, none), (37, none), (38, none), (39, none), (40, none), (41, none), (42, none), (43, none), (44, none), (45, none), (46, none), (47, none), (48, none), (49, none), (50, none), (51, none), (52, none), (53, none), (54, none), (55, none)])]) (ordL [(10, [(0, 0), (1, 0), (2, 0), (3, 0), (4, 0), (5, 0), (6, 0), (8, 0), (7, 1), (9, 0)]), (6, [(0, 0), (1, 0), (2, 0), (4, 0), (5, 0), (6, 0), (3, 1), (8, 0), (7, 1), (9, 0), (10, 0)])]) [.pointer none, .int .i64 i] w K = rank_nil_At_m i w K := by kernel_rfl
theorem rank_nil_At_go (i : Int) {w : World} {K : Value → World → Prop} (h : rank_nil_At_m i w K) : Rets Try.prog 46 #[.pointer none, .int .i64 i] w K :=
  calls_of_fw plain mixed Try.func46 (by kernel_rfl) (by rw [rank_nil_At_eq]; exact h)
def rank_Tree_int_int_Len_m (g : Nat) (w : World) (K : Value → World → Prop) : Prop :=
  (false = true → K (Value.int IntKind.i64 (0 : Int)) w) ∧
  (false = false →
  ∃ (q1 : Option Addr),
  cellAt w (Addr.add { block := g, off := (0 : Nat) } (1 : Nat)) (Value.pointer q1) ∧
  Rets Try.prog (108 : Nat) { toList := [Value.pointer q1] } w fun (v1 : Value) (w1 : World) =>
  ∃ (n1 : Int), v1 = Value.int IntKind.i64 n1 ∧ K (Value.int IntKind.i64 n1) w1)
theorem rank_Tree_int_int_Len_eq (g : Nat) (w : World) (K : Value → World → Prop) : fw Try.prog Try.f47 (annL []) (ordL []) [.pointer (some ⟨g, 0, none⟩)] w K = rank_Tree_int_int_Len_m g w K := by kernel_rfl
theorem rank_Tree_int_int_Len_go (g : Nat) {w : World} {K : Value → World → Prop} (h : rank_Tree_int_int_Len_m g w K) : Rets Try.prog 47 #[.pointer (some ⟨g, 0, none⟩)] w K :=
  calls_of_fw plain mixed Try.func47 (by kernel_rfl) (by rw [rank_Tree_int_int_Len_eq]; exact h)
def rank_nil_Len_m  (w : World) (K : Value → World → Prop) : Prop :=
  (true = true → K (Value.int IntKind.i64 (0 : Int)) w) ∧ (true = false → False)
theorem rank_nil_Len_eq  (w : World) (K : Value → World → Prop) : fw Try.prog Try.f47 (annL []) (ordL []) [.pointer none] w K = rank_nil_Len_m  w K := by kernel_rfl
theorem rank_nil_Len_go  {w : World} {K : Value → World → Prop} (h : rank_nil_Len_m  w K) : Rets Try.prog 47 #[.pointer none] w K :=
  calls_of_fw plain mixed Try.func47 (by kernel_rfl) (by rw [rank_nil_Len_eq]; exact h)
def rank_Tree_int_int_Deep_m (g : Nat) (w : World) (K : Value → World → Prop) : Prop :=
  (false = true → K (Value.int IntKind.i64 (0 : Int)) w) ∧
  (false = false →
  ∃ (q1 : Option Addr),
  cellAt w (Addr.add { block := g, off := (0 : Nat) } (1 : Nat)) (Value.pointer q1) ∧
  Rets Try.prog (90 : Nat) { toList := [Value.pointer q1] } w fun (v1 : Value) (w1 : World) =>
  ∃ (n1 : Int), v1 = Value.int IntKind.i64 n1 ∧ K (Value.int IntKind.i64 n1) w1)
theorem rank_Tree_int_int_Deep_eq (g : Nat) (w : World) (K : Value → World → Prop) : fw Try.prog Try.f29 (annL []) (ordL []) [.pointer (some ⟨g, 0, none⟩)] w K = rank_Tree_int_int_Deep_m g w K := by kernel_rfl
theorem rank_Tree_int_int_Deep_go (g : Nat) {w : World} {K : Value → World → Prop} (h : rank_Tree_int_int_Deep_m g w K) : Rets Try.prog 29 #[.pointer (some ⟨g, 0, none⟩)] w K :=
  calls_of_fw plain mixed Try.func29 (by kernel_rfl) (by rw [rank_Tree_int_int_Deep_eq]; exact h)
def rank_nil_Deep_m  (w : World) (K : Value → World → Prop) : Prop :=
  (true = true → K (Value.int IntKind.i64 (0 : Int)) w) ∧ (true = false → False)
theorem rank_nil_Deep_eq  (w : World) (K : Value → World → Prop) : fw Try.prog Try.f29 (annL []) (ordL []) [.pointer none] w K = rank_nil_Deep_m  w K := by kernel_rfl
theorem rank_nil_Deep_go  {w : World} {K : Value → World → Prop} (h : rank_nil_Deep_m  w K) : Rets Try.prog 29 #[.pointer none] w K :=
  calls_of_fw plain mixed Try.func29 (by kernel_rfl) (by rw [rank_nil_Deep_eq]; exact h)
def cortadoref08_Put_m (q : Option Addr) (l c : Nat) (k v : Int) (w : World) (K : Value → World → Prop) : Prop :=
  ∃ (h1 : Nat → List Value → World → Prop),
  (∃ (k1 : Nat), h1 k1 [Value.slice none (0 : Nat) (0 : Nat), Value.bool false, Value.int IntKind.i64 (0 : Int)] w) ∧
  ∀ (k2 : Nat) (w1 : World) (q1 : Option Addr) (k3 k4 : Nat) (b1 : Bool) (n1 : Int)
  (v1 v2 v3 v4 v5 v6 v7 v8 v9 v10 v11 v12 v13 v14 v15 v16 v17 v18 v19 v20 v21 v22 v23 v24 v25 v26 v27 v28 v29 v30 v31 v32
  v33 v34 v35 v36 v37 : Value),
  h1 k2 [Value.slice q1 k3 k4, Value.bool b1, Value.int IntKind.i64 n1] w1 →
  (decide (n1 < (↑l : Int)) = true →
  ((!b1) = true →
  (0 : Int) ≤ n1 ∧
  n1 < (↑l : Int) ∧
  someR q fun (a1 : Addr) =>
  ∃ (n2 : Int),
  cellAt w1 (Addr.add (Addr.add a1 (Int.toNat n1 * (2 : Nat))) (0 : Nat)) (Value.int IntKind.i64 n2) ∧
  (decide (n2 ≥ k) = true →
  NewR (110 : Nat) [Value.int IntKind.i64 k, Value.int IntKind.i64 v] w1 fun (a2 : Addr) (w2 : World) =>
  RunR Try.prog
  (builtinV Builtin.append { toList := [(40 : Nat), (40 : Nat)] } (nat_lit 40)
  { toList := [Value.slice q1 k3 k4, Value.slice (some a2) (1 : Nat) (1 : Nat)] })
  w2 fun (v38 : Value) (w3 : World) =>
  ∃ (q2 : Option Addr),
  ∃ (k5 : Nat),
  ∃ (k6 : Nat),
  v38 = Value.slice q2 k5 k6 ∧
  (0 : Int) ≤ n1 ∧
  n1 < (↑l : Int) ∧
  someR q fun (a3 : Addr) =>
  ∃ (n3 : Int),
  cellAt w3 (Addr.add (Addr.add a3 (Int.toNat n1 * (2 : Nat))) (0 : Nat)) (Value.int IntKind.i64 n3) ∧
  ((n3 != k) = true →
  (0 : Int) ≤ n1 ∧
  n1 < (↑l : Int) ∧
  someR q fun (a4 : Addr) =>
  ∃ (n4 : Int),
  ∃ (n5 : Int),
  (cellAt w3 (Addr.add (Addr.add a4 (Int.toNat n1 * (2 : Nat))) (0 : Nat)) (Value.int IntKind.i64 n4) ∧
  cellAt w3 (Addr.add (Addr.add a4 (Int.toNat n1 * (2 : Nat))) (1 : Nat)) (Value.int IntKind.i64 n5)) ∧
  NewR (110 : Nat) [Value.int IntKind.i64 n4, Value.int IntKind.i64 n5] w3 fun (a5 : Addr) (w4 : World) =>
  RunR Try.prog
  (builtinV Builtin.append { toList := [(40 : Nat), (40 : Nat)] } (nat_lit 40)
  { toList := [Value.slice q2 k5 k6, Value.slice (some a5) (1 : Nat) (1 : Nat)] })
  w4 fun (v39 : Value) (w5 : World) =>
  ∃ (q3 : Option Addr),
  ∃ (k7 : Nat),
  ∃ (k8 : Nat),
  v39 = Value.slice q3 k7 k8 ∧
  ∃ (k9 : Nat),
  k9 < k2 ∧
  h1 k9 [Value.slice q3 k7 k8, Value.bool true, Value.int IntKind.i64 (IntKind.wrap IntKind.i64 (n1 + (1 : Int)))] w5) ∧
  ((n3 != k) = false →
  ∃ (k10 : Nat),
  k10 < k2 ∧
  h1 k10 [Value.slice q2 k5 k6, Value.bool true, Value.int IntKind.i64 (IntKind.wrap IntKind.i64 (n1 + (1 : Int)))] w3)) ∧
  (decide (n2 ≥ k) = false →
  (0 : Int) ≤ n1 ∧
  n1 < (↑l : Int) ∧
  someR q fun (a6 : Addr) =>
  ∃ (n6 : Int),
  cellAt w1 (Addr.add (Addr.add a6 (Int.toNat n1 * (2 : Nat))) (0 : Nat)) (Value.int IntKind.i64 n6) ∧
  ((n6 != k) = true →
  (0 : Int) ≤ n1 ∧
  n1 < (↑l : Int) ∧
  someR q fun (a7 : Addr) =>
  ∃ (n7 : Int),
  ∃ (n8 : Int),
  (cellAt w1 (Addr.add (Addr.add a7 (Int.toNat n1 * (2 : Nat))) (0 : Nat)) (Value.int IntKind.i64 n7) ∧
  cellAt w1 (Addr.add (Addr.add a7 (Int.toNat n1 * (2 : Nat))) (1 : Nat)) (Value.int IntKind.i64 n8)) ∧
  NewR (110 : Nat) [Value.int IntKind.i64 n7, Value.int IntKind.i64 n8] w1 fun (a8 : Addr) (w6 : World) =>
  RunR Try.prog
  (builtinV Builtin.append { toList := [(40 : Nat), (40 : Nat)] } (nat_lit 40)
  { toList := [Value.slice q1 k3 k4, Value.slice (some a8) (1 : Nat) (1 : Nat)] })
  w6 fun (v40 : Value) (w7 : World) =>
  ∃ (q4 : Option Addr),
  ∃ (k11 : Nat),
  ∃ (k12 : Nat),
  v40 = Value.slice q4 k11 k12 ∧
  ∃ (k13 : Nat),
  k13 < k2 ∧
  h1 k13 [Value.slice q4 k11 k12, Value.bool b1, Value.int IntKind.i64 (IntKind.wrap IntKind.i64 (n1 + (1 : Int)))] w7) ∧
  ((n6 != k) = false →
  ∃ (k14 : Nat),
  k14 < k2 ∧
  h1 k14 [Value.slice q1 k3 k4, Value.bool b1, Value.int IntKind.i64 (IntKind.wrap IntKind.i64 (n1 + (1 : Int)))] w1))) ∧
  ((!b1) = false →
  (0 : Int) ≤ n1 ∧
  n1 < (↑l : Int) ∧
  someR q fun (a9 : Addr) =>
  ∃ (n9 : Int),
  cellAt w1 (Addr.add (Addr.add a9 (Int.toNat n1 * (2 : Nat))) (0 : Nat)) (Value.int IntKind.i64 n9) ∧
  ((n9 != k) = true →
  (0 : Int) ≤ n1 ∧
  n1 < (↑l : Int) ∧
  someR q fun (a10 : Addr) =>
  ∃ (n10 : Int),
  ∃ (n11 : Int),
  (cellAt w1 (Addr.add (Addr.add a10 (Int.toNat n1 * (2 : Nat))) (0 : Nat)) (Value.int IntKind.i64 n10) ∧
  cellAt w1 (Addr.add (Addr.add a10 (Int.toNat n1 * (2 : Nat))) (1 : Nat)) (Value.int IntKind.i64 n11)) ∧
  NewR (110 : Nat) [Value.int IntKind.i64 n10, Value.int IntKind.i64 n11] w1 fun (a11 : Addr) (w8 : World) =>
  RunR Try.prog
  (builtinV Builtin.append { toList := [(40 : Nat), (40 : Nat)] } (nat_lit 40)
  { toList := [Value.slice q1 k3 k4, Value.slice (some a11) (1 : Nat) (1 : Nat)] })
  w8 fun (v41 : Value) (w9 : World) =>
  ∃ (q5 : Option Addr),
  ∃ (k15 : Nat),
  ∃ (k16 : Nat),
  v41 = Value.slice q5 k15 k16 ∧
  ∃ (k17 : Nat),
  k17 < k2 ∧
  h1 k17 [Value.slice q5 k15 k16, Value.bool b1, Value.int IntKind.i64 (IntKind.wrap IntKind.i64 (n1 + (1 : Int)))] w9) ∧
  ((n9 != k) = false →
  ∃ (k18 : Nat),
  k18 < k2 ∧
  h1 k18 [Value.slice q1 k3 k4, Value.bool b1, Value.int IntKind.i64 (IntKind.wrap IntKind.i64 (n1 + (1 : Int)))] w1))) ∧
  (decide (n1 < (↑l : Int)) = false →
  ((!b1) = true →
  NewR (110 : Nat) [Value.int IntKind.i64 k, Value.int IntKind.i64 v] w1 fun (a12 : Addr) (w10 : World) =>
  RunR Try.prog
  (builtinV Builtin.append { toList := [(40 : Nat), (40 : Nat)] } (nat_lit 40)
  { toList := [Value.slice q1 k3 k4, Value.slice (some a12) (1 : Nat) (1 : Nat)] })
  w10 fun (v42 : Value) (w11 : World) =>
  ∃ (q6 : Option Addr), ∃ (k19 : Nat), ∃ (k20 : Nat), v42 = Value.slice q6 k19 k20 ∧ K (Value.slice q6 k19 k20) w11) ∧
  ((!b1) = false → K (Value.slice q1 k3 k4) w1))
theorem cortadoref08_Put_eq (q : Option Addr) (l c : Nat) (k v : Int) (w : World) (K : Value → World → Prop) : fw Try.prog Try.f21 (annL [(1, [(7, some 40), (8, some 4), (9, some 3), (10, none), (11, none), (12, none), (13, none), (14, none), (15, none), (16, none), (17, none), (18, none), (19, none), (20, none), (21, none), (22, none), (23, none), (24, none), (25, none), (26, none), (27, none), (28, none), (29, none), (30, none), (31, none), (32, none), (33, none), (34, none), (35, none), (36, none), (37, none), (38, none), (39, none), (40, none), (41, none), (42, none), (43, none), (44, none), (45, none), (46, none)])]) (ordL []) [.slice q l c, .int .i64 k, .int .i64 v] w K = cortadoref08_Put_m q l c k v w K := by kernel_rfl
theorem cortadoref08_Put_go (q : Option Addr) (l c : Nat) (k v : Int) {w : World} {K : Value → World → Prop} (h : cortadoref08_Put_m q l c k v w K) : Rets Try.prog 21 #[.slice q l c, .int .i64 k, .int .i64 v] w K :=
  calls_of_fw plain mixed Try.func21 (by kernel_rfl) (by rw [cortadoref08_Put_eq]; exact h)
def cortadoref08_Drop_m (q : Option Addr) (l c : Nat) (k : Int) (w : World) (K : Value → World → Prop) : Prop :=
  ∃ (h1 : Nat → List Value → World → Prop),
  (∃ (k1 : Nat), h1 k1 [Value.slice none (0 : Nat) (0 : Nat), Value.int IntKind.i64 (0 : Int)] w) ∧
  ∀ (k2 : Nat) (w1 : World) (q1 : Option Addr) (k3 k4 : Nat) (n1 : Int)
  (v1 v2 v3 v4 v5 v6 v7 v8 v9 v10 v11 v12 v13 v14 v15 v16 v17 v18 v19 v20 : Value),
  h1 k2 [Value.slice q1 k3 k4, Value.int IntKind.i64 n1] w1 →
  (decide (n1 < (↑l : Int)) = true →
  (0 : Int) ≤ n1 ∧
  n1 < (↑l : Int) ∧
  someR q fun (a1 : Addr) =>
  ∃ (n2 : Int),
  cellAt w1 (Addr.add (Addr.add a1 (Int.toNat n1 * (2 : Nat))) (0 : Nat)) (Value.int IntKind.i64 n2) ∧
  ((n2 != k) = true →
  (0 : Int) ≤ n1 ∧
  n1 < (↑l : Int) ∧
  someR q fun (a2 : Addr) =>
  ∃ (n3 : Int),
  ∃ (n4 : Int),
  (cellAt w1 (Addr.add (Addr.add a2 (Int.toNat n1 * (2 : Nat))) (0 : Nat)) (Value.int IntKind.i64 n3) ∧
  cellAt w1 (Addr.add (Addr.add a2 (Int.toNat n1 * (2 : Nat))) (1 : Nat)) (Value.int IntKind.i64 n4)) ∧
  NewR (110 : Nat) [Value.int IntKind.i64 n3, Value.int IntKind.i64 n4] w1 fun (a3 : Addr) (w2 : World) =>
  RunR Try.prog
  (builtinV Builtin.append { toList := [(40 : Nat), (40 : Nat)] } (nat_lit 40)
  { toList := [Value.slice q1 k3 k4, Value.slice (some a3) (1 : Nat) (1 : Nat)] })
  w2 fun (v21 : Value) (w3 : World) =>
  ∃ (q2 : Option Addr),
  ∃ (k5 : Nat),
  ∃ (k6 : Nat),
  v21 = Value.slice q2 k5 k6 ∧
  ∃ (k7 : Nat),
  k7 < k2 ∧ h1 k7 [Value.slice q2 k5 k6, Value.int IntKind.i64 (IntKind.wrap IntKind.i64 (n1 + (1 : Int)))] w3) ∧
  ((n2 != k) = false →
  ∃ (k8 : Nat),
  k8 < k2 ∧ h1 k8 [Value.slice q1 k3 k4, Value.int IntKind.i64 (IntKind.wrap IntKind.i64 (n1 + (1 : Int)))] w1)) ∧
  (decide (n1 < (↑l : Int)) = false → K (Value.slice q1 k3 k4) w1)
theorem cortadoref08_Drop_eq (q : Option Addr) (l c : Nat) (k : Int) (w : World) (K : Value → World → Prop) : fw Try.prog Try.f23 (annL [(1, [(5, some 40), (6, some 3), (7, none), (8, none), (9, none), (10, none), (11, none), (12, none), (13, none), (14, none), (15, none), (16, none), (17, none), (18, none), (19, none), (20, none), (21, none), (22, none), (23, none), (24, none), (25, none), (26, none)])]) (ordL []) [.slice q l c, .int .i64 k] w K = cortadoref08_Drop_m q l c k w K := by kernel_rfl
theorem cortadoref08_Drop_go (q : Option Addr) (l c : Nat) (k : Int) {w : World} {K : Value → World → Prop} (h : cortadoref08_Drop_m q l c k w K) : Rets Try.prog 23 #[.slice q l c, .int .i64 k] w K :=
  calls_of_fw plain mixed Try.func23 (by kernel_rfl) (by rw [cortadoref08_Drop_eq]; exact h)
def cortadoref08_Get_m (q : Option Addr) (l c : Nat) (k : Int) (w : World) (K : Value → World → Prop) : Prop :=
  ∃ (h1 : Nat → List Value → World → Prop),
  (∃ (k1 : Nat), h1 k1 [Value.int IntKind.i64 (0 : Int)] w) ∧
  ∀ (k2 : Nat) (w1 : World) (v1 v2 : Value) (n1 : Int)
  (v3 v4 v5 v6 v7 v8 v9 v10 v11 v12 v13 v14 v15 v16 v17 v18 v19 v20 : Value),
  h1 k2 [Value.int IntKind.i64 n1] w1 →
  (decide (n1 < (↑l : Int)) = true →
  (0 : Int) ≤ n1 ∧
  n1 < (↑l : Int) ∧
  someR q fun (a1 : Addr) =>
  ∃ (n2 : Int),
  cellAt w1 (Addr.add (Addr.add a1 (Int.toNat n1 * (2 : Nat))) (0 : Nat)) (Value.int IntKind.i64 n2) ∧
  ((n2 == k) = true →
  (0 : Int) ≤ n1 ∧
  n1 < (↑l : Int) ∧
  someR q fun (a2 : Addr) =>
  ∃ (n3 : Int),
  cellAt w1 (Addr.add (Addr.add a2 (Int.toNat n1 * (2 : Nat))) (1 : Nat)) (Value.int IntKind.i64 n3) ∧
  K (Value.tuple { toList := [Value.int IntKind.i64 n3, Value.bool true] }) w1) ∧
  ((n2 == k) = false →
  ∃ (k3 : Nat), k3 < k2 ∧ h1 k3 [Value.int IntKind.i64 (IntKind.wrap IntKind.i64 (n1 + (1 : Int)))] w1)) ∧
  (decide (n1 < (↑l : Int)) = false →
  K (Value.tuple { toList := [Value.int IntKind.i64 (0 : Int), Value.bool false] }) w1)
theorem cortadoref08_Get_eq (q : Option Addr) (l c : Nat) (k : Int) (w : World) (K : Value → World → Prop) : fw Try.prog Try.f25 (annL [(1, [(4, none), (5, none), (6, some 3), (7, none), (8, none), (9, none), (10, none), (11, none), (12, none), (13, none), (14, none), (15, none), (16, none), (17, none), (18, none), (19, none), (20, none), (21, none), (22, none), (23, none), (24, none)])]) (ordL []) [.slice q l c, .int .i64 k] w K = cortadoref08_Get_m q l c k w K := by kernel_rfl
theorem cortadoref08_Get_go (q : Option Addr) (l c : Nat) (k : Int) {w : World} {K : Value → World → Prop} (h : cortadoref08_Get_m q l c k w K) : Rets Try.prog 25 #[.slice q l c, .int .i64 k] w K :=
  calls_of_fw plain mixed Try.func25 (by kernel_rfl) (by rw [cortadoref08_Get_eq]; exact h)
def cortadoref08_Rank_m (q : Option Addr) (l c : Nat) (k : Int) (w : World) (K : Value → World → Prop) : Prop :=
  ∃ (h1 : Nat → List Value → World → Prop),
  (∃ (k1 : Nat), h1 k1 [Value.int IntKind.i64 (0 : Int)] w) ∧
  ∀ (k2 : Nat) (w1 : World) (n1 : Int) (v1 v2 v3 v4 v5 v6 v7 v8 v9 v10 v11 v12 v13 v14 v15 : Value),
  h1 k2 [Value.int IntKind.i64 n1] w1 →
  (decide (n1 < (↑l : Int)) = true →
  (0 : Int) ≤ n1 ∧
  n1 < (↑l : Int) ∧
  someR q fun (a1 : Addr) =>
  ∃ (n2 : Int),
  cellAt w1 (Addr.add (Addr.add a1 (Int.toNat n1 * (2 : Nat))) (0 : Nat)) (Value.int IntKind.i64 n2) ∧
  (decide (n2 < k) = true →
  ∃ (k3 : Nat), k3 < k2 ∧ h1 k3 [Value.int IntKind.i64 (IntKind.wrap IntKind.i64 (n1 + (1 : Int)))] w1) ∧
  (decide (n2 < k) = false →
  Rets Try.prog (25 : Nat) { toList := [Value.slice q l c, Value.int IntKind.i64 k] } w1 fun (v16 : Value) (w2 : World) =>
  ∃ (n3 : Int),
  ∃ (b1 : Bool),
  v16 = Value.tuple { toList := [Value.int IntKind.i64 n3, Value.bool b1] } ∧
  K (Value.tuple { toList := [Value.int IntKind.i64 n1, Value.bool b1] }) w2)) ∧
  (decide (n1 < (↑l : Int)) = false →
  Rets Try.prog (25 : Nat) { toList := [Value.slice q l c, Value.int IntKind.i64 k] } w1 fun (v17 : Value) (w3 : World) =>
  ∃ (n4 : Int),
  ∃ (b2 : Bool),
  v17 = Value.tuple { toList := [Value.int IntKind.i64 n4, Value.bool b2] } ∧
  K (Value.tuple { toList := [Value.int IntKind.i64 n1, Value.bool b2] }) w3)
theorem cortadoref08_Rank_eq (q : Option Addr) (l c : Nat) (k : Int) (w : World) (K : Value → World → Prop) : fw Try.prog Try.f27 (annL [(1, [(6, some 3), (9, none), (10, none), (11, none), (12, none), (13, none), (14, none), (15, none), (16, none), (17, none), (18, none), (19, none), (20, none), (21, none), (22, none), (23, none)])]) (ordL []) [.slice q l c, .int .i64 k] w K = cortadoref08_Rank_m q l c k w K := by kernel_rfl
theorem cortadoref08_Rank_go (q : Option Addr) (l c : Nat) (k : Int) {w : World} {K : Value → World → Prop} (h : cortadoref08_Rank_m q l c k w K) : Rets Try.prog 27 #[.slice q l c, .int .i64 k] w K :=
  calls_of_fw plain mixed Try.func27 (by kernel_rfl) (by rw [cortadoref08_Rank_eq]; exact h)
def cortadolaw08_stands_m (g : Nat) (q : Option Addr) (l c : Nat) (w : World) (K : Value → World → Prop) : Prop :=
  ∃ (h1 : Nat → List Value → World → Prop),
  (∃ (k1 : Nat), h1 k1 [Value.int IntKind.i64 (0 : Int)] w) ∧
  ∀ (k2 : Nat) (w1 : World) (v1 : Value) (n1 : Int)
  (v2 v3 v4 v5 v6 v7 v8 v9 v10 v11 v12 v13 v14 v15 v16 v17 v18 v19 v20 v21 v22 v23 v24 v25 v26 v27 v28 v29 v30 v31 v32 v33
  v34 v35 v36 v37 v38 v39 v40 v41 v42 v43 v44 v45 v46 v47 v48 v49 v50 v51 v52 v53 v54 v55 v56 v57 v58 : Value),
  h1 k2 [Value.int IntKind.i64 n1] w1 →
  (decide (n1 < (↑l : Int)) = true →
  Rets Try.prog (46 : Nat) { toList := [Value.pointer (some { block := g, off := (0 : Nat) }), Value.int IntKind.i64 n1] }
  w1 fun (v59 : Value) (w2 : World) =>
  ∃ (n2 : Int),
  ∃ (n3 : Int),
  ∃ (b1 : Bool),
  v59 = Value.tuple { toList := [Value.int IntKind.i64 n2, Value.int IntKind.i64 n3, Value.bool b1] } ∧
  (0 : Int) ≤ n1 ∧
  n1 < (↑l : Int) ∧
  someR q fun (a1 : Addr) =>
  ∃ (n4 : Int),
  cellAt w2 (Addr.add (Addr.add a1 (Int.toNat n1 * (2 : Nat))) (0 : Nat)) (Value.int IntKind.i64 n4) ∧
  Rets Try.prog (26 : Nat) { toList := [Value.pointer (some { block := g, off := (0 : Nat) }), Value.int IntKind.i64 n4] }
  w2 fun (v60 : Value) (w3 : World) =>
  ∃ (n5 : Int),
  ∃ (b2 : Bool),
  v60 = Value.tuple { toList := [Value.int IntKind.i64 n5, Value.bool b2] } ∧
  ((!b1) = false →
  ((!b2) = false →
  (0 : Int) ≤ n1 ∧
  n1 < (↑l : Int) ∧
  someR q fun (a2 : Addr) =>
  ∃ (n6 : Int),
  cellAt w3 (Addr.add (Addr.add a2 (Int.toNat n1 * (2 : Nat))) (0 : Nat)) (Value.int IntKind.i64 n6) ∧
  ((n2 != n6) = false →
  (0 : Int) ≤ n1 ∧
  n1 < (↑l : Int) ∧
  someR q fun (a3 : Addr) =>
  ∃ (n7 : Int),
  cellAt w3 (Addr.add (Addr.add a3 (Int.toNat n1 * (2 : Nat))) (1 : Nat)) (Value.int IntKind.i64 n7) ∧
  ((n3 != n7) = false →
  ((n5 != n1) = true → K (Value.bool false) w3) ∧
  ((n5 != n1) = false →
  ∃ (k3 : Nat), k3 < k2 ∧ h1 k3 [Value.int IntKind.i64 (IntKind.wrap IntKind.i64 (n1 + (1 : Int)))] w3)) ∧
  ((n3 != n7) = true → K (Value.bool false) w3)) ∧
  ((n2 != n6) = true → K (Value.bool false) w3)) ∧
  ((!b2) = true → K (Value.bool false) w3)) ∧
  ((!b1) = true → K (Value.bool false) w3)) ∧
  (decide (n1 < (↑l : Int)) = false →
  Rets Try.prog (46 : Nat)
  { toList := [Value.pointer (some { block := g, off := (0 : Nat) }), Value.int IntKind.i64 (↑l : Int)] } w1
  fun (v61 : Value) (w4 : World) =>
  ∃ (n8 : Int),
  ∃ (n9 : Int),
  ∃ (b3 : Bool),
  v61 = Value.tuple { toList := [Value.int IntKind.i64 n8, Value.int IntKind.i64 n9, Value.bool b3] } ∧
  Rets Try.prog (46 : Nat)
  { toList := [Value.pointer (some { block := g, off := (0 : Nat) }), Value.int IntKind.i64 (-1 : Int)] } w4
  fun (v62 : Value) (w5 : World) =>
  ∃ (n10 : Int),
  ∃ (n11 : Int),
  ∃ (b4 : Bool),
  v62 = Value.tuple { toList := [Value.int IntKind.i64 n10, Value.int IntKind.i64 n11, Value.bool b4] } ∧
  Rets Try.prog (47 : Nat) { toList := [Value.pointer (some { block := g, off := (0 : Nat) })] } w5
  fun (v63 : Value) (w6 : World) =>
  ∃ (n12 : Int),
  v63 = Value.int IntKind.i64 n12 ∧
  ((n12 == (↑l : Int)) = true → ((!b3) = true → K (Value.bool !b4) w6) ∧ ((!b3) = false → K (Value.bool false) w6)) ∧
  ((n12 == (↑l : Int)) = false → K (Value.bool false) w6))
theorem cortadolaw08_stands_eq (g : Nat) (q : Option Addr) (l c : Nat) (w : World) (K : Value → World → Prop) : fw Try.prog Try.f28 (annL [(1, [(4, none), (5, some 3), (6, none), (7, none), (8, none), (9, none), (10, none), (17, none), (18, none), (19, none), (20, none), (21, none), (22, none), (23, none), (24, none), (25, none), (26, none), (27, none), (28, none), (29, none), (30, none), (31, none), (32, none), (33, none), (34, none), (35, none), (36, none), (37, none), (38, none), (39, none), (40, none), (41, none), (42, none), (43, none), (44, none), (45, none), (46, none), (47, none), (48, none), (49, none), (50, none), (51, none), (52, none), (53, none), (54, none), (55, none), (56, none), (57, none), (58, none), (59, none), (60, none), (61, none), (62, none), (63, none), (64, none), (65, none), (66, none), (67, none), (68, none)])]) (ordL []) [.pointer (some ⟨g, 0, none⟩), .slice q l c] w K = cortadolaw08_stands_m g q l c w K := by kernel_rfl
theorem cortadolaw08_stands_go (g : Nat) (q : Option Addr) (l c : Nat) {w : World} {K : Value → World → Prop} (h : cortadolaw08_stands_m g q l c w K) : Rets Try.prog 28 #[.pointer (some ⟨g, 0, none⟩), .slice q l c] w K :=
  calls_of_fw plain mixed Try.func28 (by kernel_rfl) (by rw [cortadolaw08_stands_eq]; exact h)
def cortadolaw08_awake_m  (w : World) (K : Value → World → Prop) : Prop :=
  Rets Try.prog (18 : Nat) { toList := [Value.func (Fn.func (19 : Nat)) { toList := [] } { toList := [] }] } w
  fun (v1 : Value) (w1 : World) =>
  ∃ (q1 : Option Addr),
  v1 = Value.pointer q1 ∧
  Rets Try.prog (20 : Nat)
  { toList := [Value.pointer q1, Value.int IntKind.i64 (30 : Int), Value.int IntKind.i64 (1 : Int)] } w1
  fun (v2 : Value) (w2 : World) =>
  ∃ (q2 : Option Addr),
  v2 = Value.pointer q2 ∧
  Rets Try.prog (20 : Nat)
  { toList := [Value.pointer q2, Value.int IntKind.i64 (10 : Int), Value.int IntKind.i64 (2 : Int)] } w2
  fun (v3 : Value) (w3 : World) =>
  ∃ (q3 : Option Addr),
  v3 = Value.pointer q3 ∧
  Rets Try.prog (20 : Nat)
  { toList := [Value.pointer q3, Value.int IntKind.i64 (20 : Int), Value.int IntKind.i64 (3 : Int)] } w3
  fun (v4 : Value) (w4 : World) =>
  ∃ (q4 : Option Addr),
  v4 = Value.pointer q4 ∧
  Rets Try.prog (46 : Nat) { toList := [Value.pointer q4, Value.int IntKind.i64 (1 : Int)] } w4
  fun (v5 : Value) (w5 : World) =>
  ∃ (n1 : Int),
  ∃ (n2 : Int),
  ∃ (b1 : Bool),
  v5 = Value.tuple { toList := [Value.int IntKind.i64 n1, Value.int IntKind.i64 n2, Value.bool b1] } ∧
  Rets Try.prog (26 : Nat) { toList := [Value.pointer q4, Value.int IntKind.i64 (15 : Int)] } w5
  fun (v6 : Value) (w6 : World) =>
  ∃ (n3 : Int),
  ∃ (b2 : Bool),
  v6 = Value.tuple { toList := [Value.int IntKind.i64 n3, Value.bool b2] } ∧
  ((n1 == (20 : Int)) = true →
  ((n2 == (3 : Int)) = true →
  (b1 = true →
  ((n3 == (1 : Int)) = true → K (Value.bool !b2) w6) ∧ ((n3 == (1 : Int)) = false → K (Value.bool false) w6)) ∧
  (b1 = false → K (Value.bool false) w6)) ∧
  ((n2 == (3 : Int)) = false → K (Value.bool false) w6)) ∧
  ((n1 == (20 : Int)) = false → K (Value.bool false) w6)
theorem cortadolaw08_awake_eq  (w : World) (K : Value → World → Prop) : fw Try.prog Try.f17 (annL []) (ordL []) [] w K = cortadolaw08_awake_m  w K := by kernel_rfl
theorem cortadolaw08_awake_go  {w : World} {K : Value → World → Prop} (h : cortadolaw08_awake_m  w K) : Rets Try.prog 17 #[] w K :=
  calls_of_fw plain mixed Try.func17 (by kernel_rfl) (by rw [cortadolaw08_awake_eq]; exact h)
end Go.Proofs.Ytkcaeknkfgpnhaa.Eng
