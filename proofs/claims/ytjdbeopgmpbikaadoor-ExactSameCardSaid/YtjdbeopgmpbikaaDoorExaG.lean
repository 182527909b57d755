/- What the code of these functions asks for: printed by a program of this session's (gens.py) out of the seat's own functions; the kernel checks each row. -/
import Derived.Test.YtjdbeopgmpbikaaDoorEngH
import Derived.Test.YtjdbeopgmpbikaaDoorProg
import Derived.Test.YtjdbeopgmpbikaaDoorBase
namespace Go.Proofs.YtjdbeopgmpbikaaDoor.Eng
open Go Go.Proofs
set_option linter.unusedVariables false
set_option maxRecDepth 1000000
def cmp_isNaN_uint64_m (x : Int) (w : World) (K : Value → World → Prop) : Prop :=
  K (Value.bool (x != x)) w
theorem cmp_isNaN_uint64_eq (x : Int) (w : World) (K : Value → World → Prop) : fw Tryd.prog Tryd.f61 (annL []) (ordL []) [.int .u64 x] w K = cmp_isNaN_uint64_m x w K := by kernel_rfl
theorem cmp_isNaN_uint64_go (x : Int) {w : World} {K : Value → World → Prop} (h : cmp_isNaN_uint64_m x w K) : Rets Tryd.prog 61 #[.int .u64 x] w K :=
  calls_of_fw plain mixed Tryd.func61 (by kernel_rfl) (by rw [cmp_isNaN_uint64_eq]; exact h)
def cmp_Compare_uint64_m (x y : Int) (w : World) (K : Value → World → Prop) : Prop :=
  Rets Tryd.prog (61 : Nat) { toList := [Value.int IntKind.u64 x] } w fun (v1 : Value) (w1 : World) =>
  ∃ (b1 : Bool),
  v1 = Value.bool b1 ∧
  Rets Tryd.prog (61 : Nat) { toList := [Value.int IntKind.u64 y] } w1 fun (v2 : Value) (w2 : World) =>
  ∃ (b2 : Bool),
  v2 = Value.bool b2 ∧
  ∃ (h1 : List Value → World → Prop),
  ((b1 = true →
  (b2 = true → K (Value.int IntKind.i64 (0 : Int)) w2) ∧ (b2 = false → K (Value.int IntKind.i64 (-1 : Int)) w2)) ∧
  (b1 = false → h1 [] w2)) ∧
  ∀ (w3 : World) (v3 v4 : Value),
  h1 [] w3 →
  (b2 = true → K (Value.int IntKind.i64 (1 : Int)) w3) ∧
  (b2 = false →
  (decide (x < y) = true → K (Value.int IntKind.i64 (-1 : Int)) w3) ∧
  (decide (x < y) = false →
  (decide (x > y) = true → K (Value.int IntKind.i64 (1 : Int)) w3) ∧
  (decide (x > y) = false → K (Value.int IntKind.i64 (0 : Int)) w3)))
theorem cmp_Compare_uint64_eq (x y : Int) (w : World) (K : Value → World → Prop) : fw Tryd.prog Tryd.f42 (annL [(0, [(4, none), (12, none)])]) (ordL []) [.int .u64 x, .int .u64 y] w K = cmp_Compare_uint64_m x y w K := by kernel_rfl
theorem cmp_Compare_uint64_go (x y : Int) {w : World} {K : Value → World → Prop} (h : cmp_Compare_uint64_m x y w K) : Rets Tryd.prog 42 #[.int .u64 x, .int .u64 y] w K :=
  calls_of_fw plain mixed Tryd.func42 (by kernel_rfl) (by rw [cmp_Compare_uint64_eq]; exact h)
def rank_New_int_int_m (f : Nat) (w : World) (K : Value → World → Prop) : Prop :=
  (false = true → K (Value.pointer none) w) ∧
  (false = false →
  NewR (92 : Nat) [Value.func (Fn.func f) { toList := [] } { toList := [] }, Value.pointer none] w
  fun (a1 : Addr) (w1 : World) => K (Value.pointer (some a1)) w1)
theorem rank_New_int_int_eq (f : Nat) (w : World) (K : Value → World → Prop) : fw Tryd.prog Tryd.f41 (annL []) (ordL []) [.func (.func f) #[] #[]] w K = rank_New_int_int_m f w K := by kernel_rfl
theorem rank_New_int_int_go (f : Nat) {w : World} {K : Value → World → Prop} (h : rank_New_int_int_m f w K) : Rets Tryd.prog 41 #[.func (.func f) #[] #[]] w K :=
  calls_of_fw plain mixed Tryd.func41 (by kernel_rfl) (by rw [rank_New_int_int_eq]; exact h)
def exact_none_m  (w : World) (K : Value → World → Prop) : Prop :=
  Rets Tryd.prog (41 : Nat) { toList := [Value.func (Fn.func (42 : Nat)) { toList := [] } { toList := [] }] } w
  fun (v1 : Value) (w1 : World) => ∃ (q1 : Option Addr), v1 = Value.pointer q1 ∧ K (Value.pointer q1) w1
theorem exact_none_eq  (w : World) (K : Value → World → Prop) : fw Tryd.prog Tryd.f21 (annL []) (ordL []) [] w K = exact_none_m  w K := by kernel_rfl
theorem exact_none_go  {w : World} {K : Value → World → Prop} (h : exact_none_m  w K) : Rets Tryd.prog 21 #[] w K :=
  calls_of_fw plain mixed Tryd.func21 (by kernel_rfl) (by rw [exact_none_eq]; exact h)
def rank_nil_size_m  (w : World) (K : Value → World → Prop) : Prop :=
  (true = true → K (Value.int IntKind.i64 (0 : Int)) w) ∧ (true = false → False)
theorem rank_nil_size_eq  (w : World) (K : Value → World → Prop) : fw Tryd.prog Tryd.f58 (annL []) (ordL []) [.pointer none] w K = rank_nil_size_m  w K := by kernel_rfl
theorem rank_nil_size_go  {w : World} {K : Value → World → Prop} (h : rank_nil_size_m  w K) : Rets Tryd.prog 58 #[.pointer none] w K :=
  calls_of_fw plain mixed Tryd.func58 (by kernel_rfl) (by rw [rank_nil_size_eq]; exact h)
def rank_size_int_int_m (g : Nat) (w : World) (K : Value → World → Prop) : Prop :=
  (false = true → K (Value.int IntKind.i64 (0 : Int)) w) ∧
  (false = false →
  ∃ (n1 : Int),
  cellAt w (Addr.add { block := g, off := (0 : Nat) } (5 : Nat)) (Value.int IntKind.i64 n1) ∧
  K (Value.int IntKind.i64 n1) w)
theorem rank_size_int_int_eq (g : Nat) (w : World) (K : Value → World → Prop) : fw Tryd.prog Tryd.f58 (annL []) (ordL []) [.pointer (some ⟨g, 0, none⟩)] w K = rank_size_int_int_m g w K := by kernel_rfl
theorem rank_size_int_int_go (g : Nat) {w : World} {K : Value → World → Prop} (h : rank_size_int_int_m g w K) : Rets Tryd.prog 58 #[.pointer (some ⟨g, 0, none⟩)] w K :=
  calls_of_fw plain mixed Tryd.func58 (by kernel_rfl) (by rw [rank_size_int_int_eq]; exact h)
def rank_nil_deep_m  (w : World) (K : Value → World → Prop) : Prop :=
  (true = true → K (Value.int IntKind.i64 (0 : Int)) w) ∧ (true = false → False)
theorem rank_nil_deep_eq  (w : World) (K : Value → World → Prop) : fw Tryd.prog Tryd.f75 (annL []) (ordL []) [.pointer none] w K = rank_nil_deep_m  w K := by kernel_rfl
theorem rank_nil_deep_go  {w : World} {K : Value → World → Prop} (h : rank_nil_deep_m  w K) : Rets Tryd.prog 75 #[.pointer none] w K :=
  calls_of_fw plain mixed Tryd.func75 (by kernel_rfl) (by rw [rank_nil_deep_eq]; exact h)
def rank_deep_int_int_m (g : Nat) (w : World) (K : Value → World → Prop) : Prop :=
  (false = true → K (Value.int IntKind.i64 (0 : Int)) w) ∧
  (false = false →
  ∃ (n1 : Int),
  cellAt w (Addr.add { block := g, off := (0 : Nat) } (6 : Nat)) (Value.int IntKind.i64 n1) ∧
  K (Value.int IntKind.i64 n1) w)
theorem rank_deep_int_int_eq (g : Nat) (w : World) (K : Value → World → Prop) : fw Tryd.prog Tryd.f75 (annL []) (ordL []) [.pointer (some ⟨g, 0, none⟩)] w K = rank_deep_int_int_m g w K := by kernel_rfl
theorem rank_deep_int_int_go (g : Nat) {w : World} {K : Value → World → Prop} (h : rank_deep_int_int_m g w K) : Rets Tryd.prog 75 #[.pointer (some ⟨g, 0, none⟩)] w K :=
  calls_of_fw plain mixed Tryd.func75 (by kernel_rfl) (by rw [rank_deep_int_int_eq]; exact h)
def rank_made_int_int_m (k : Int) (cb : Bool) (cn : Int) (p q : Option Addr) (w : World) (K : Value → World → Prop) : Prop :=
  NewR (60 : Nat) [Value.bool cb, Value.int IntKind.i64 cn] w fun (a1 : Addr) (w1 : World) =>
  Drw w1 fun (w2 : World) =>
  ∃ (h1 : World → Prop),
  h1 w2 ∧
  ∃ (b1 : Bool),
  ∃ (n1 : Int),
  ((∀ (w3 : World), h1 w3 → World.cell? w3 (Addr.add a1 (0 : Nat)) = some (Value.bool b1)) ∧
  ∀ (w4 : World), h1 w4 → World.cell? w4 (Addr.add a1 ((0 : Nat) + (1 : Nat))) = some (Value.int IntKind.i64 n1)) ∧
  Rets Tryd.prog (58 : Nat) { toList := [Value.pointer p] } w2 fun (v1 : Value) (w5 : World) =>
  ∃ (n2 : Int),
  v1 = Value.int IntKind.i64 n2 ∧
  h1 w5 ∧
  Rets Tryd.prog (58 : Nat) { toList := [Value.pointer q] } w5 fun (v2 : Value) (w6 : World) =>
  ∃ (n3 : Int),
  v2 = Value.int IntKind.i64 n3 ∧
  h1 w6 ∧
  Rets Tryd.prog (75 : Nat) { toList := [Value.pointer p] } w6 fun (v3 : Value) (w7 : World) =>
  ∃ (n4 : Int),
  v3 = Value.int IntKind.i64 n4 ∧
  h1 w7 ∧
  Rets Tryd.prog (75 : Nat) { toList := [Value.pointer q] } w7 fun (v4 : Value) (w8 : World) =>
  ∃ (n5 : Int),
  v4 = Value.int IntKind.i64 n5 ∧
  h1 w8 ∧
  NewR (90 : Nat)
  [Value.int IntKind.u64 k, Value.bool b1, Value.int IntKind.i64 n1, Value.pointer p, Value.pointer q,
  Value.int IntKind.i64 (IntKind.wrap IntKind.i64 (IntKind.wrap IntKind.i64 (n2 + n3) + (1 : Int))),
  Value.int IntKind.i64 (IntKind.wrap IntKind.i64 (maxI n4 n5 + (1 : Int)))]
  w8 fun (a2 : Addr) (w9 : World) => K (Value.pointer (some a2)) w9
theorem rank_made_int_int_eq (k : Int) (cb : Bool) (cn : Int) (p q : Option Addr) (w : World) (K : Value → World → Prop) : fw Tryd.prog Tryd.f66 (annL []) (ordL [(1, [(0, 0), (2, 0), (3, 0), (4, 0), (6, 0), (10, 0), (12, 0), (1, 1), (5, 2), (7, 2), (8, 0), (9, 0), (11, 2), (13, 2), (14, 0), (15, 0), (16, 0), (17, 3), (18, 0)])]) [.int .u64 k, .agg #[.bool cb, .int .i64 cn], .pointer p, .pointer q] w K = rank_made_int_int_m k cb cn p q w K := by kernel_rfl
theorem rank_made_int_int_go (k : Int) (cb : Bool) (cn : Int) (p q : Option Addr) {w : World} {K : Value → World → Prop} (h : rank_made_int_int_m k cb cn p q w K) : Rets Tryd.prog 66 #[.int .u64 k, .agg #[.bool cb, .int .i64 cn], .pointer p, .pointer q] w K :=
  calls_of_fw plain mixed Tryd.func66 (by kernel_rfl) (by rw [rank_made_int_int_eq]; exact h)
def rank_leftUp_int_int_m (k : Int) (cb : Bool) (cn : Int) (g : Nat) (q : Option Addr) (w : World) (K : Value → World → Prop) : Prop :=
  NewR (60 : Nat) [Value.bool cb, Value.int IntKind.i64 cn] w fun (a1 : Addr) (w1 : World) =>
  ∃ (q1 : Option Addr),
  cellAt w1 (Addr.add { block := g, off := (0 : Nat) } (4 : Nat)) (Value.pointer q1) ∧
  ∃ (q2 : Option Addr),
  cellAt w1 (Addr.add { block := g, off := (0 : Nat) } (3 : Nat)) (Value.pointer q2) ∧
  Rets Tryd.prog (75 : Nat) { toList := [Value.pointer q2] } w1 fun (v1 : Value) (w2 : World) =>
  ∃ (n1 : Int),
  v1 = Value.int IntKind.i64 n1 ∧
  Rets Tryd.prog (75 : Nat) { toList := [Value.pointer q1] } w2 fun (v2 : Value) (w3 : World) =>
  ∃ (n2 : Int),
  v2 = Value.int IntKind.i64 n2 ∧
  (decide (n1 < n2) = true →
  Drw w3 fun (w4 : World) =>
  ∃ (h1 : World → Prop),
  h1 w4 ∧
  someR q1 fun (a2 : Addr) =>
  someR q1 fun (a3 : Addr) =>
  someR q1 fun (a4 : Addr) =>
  someR q1 fun (a5 : Addr) =>
  ∃ (n3 : Int),
  (∀ (w5 : World), h1 w5 → World.cell? w5 (Addr.add a2 (0 : Nat)) = some (Value.int IntKind.u64 n3)) ∧
  ∃ (b1 : Bool),
  ∃ (n4 : Int),
  ((∀ (w6 : World), h1 w6 → World.cell? w6 (Addr.add (Addr.add a3 (1 : Nat)) (0 : Nat)) = some (Value.bool b1)) ∧
  ∀ (w7 : World),
  h1 w7 → World.cell? w7 (Addr.add (Addr.add a3 (1 : Nat)) ((0 : Nat) + (1 : Nat))) = some (Value.int IntKind.i64 n4)) ∧
  ∃ (n5 : Int),
  (∀ (w8 : World),
  h1 w8 → World.cell? w8 (Addr.add { block := g, off := (0 : Nat) } (0 : Nat)) = some (Value.int IntKind.u64 n5)) ∧
  ∃ (b2 : Bool),
  ∃ (n6 : Int),
  ((∀ (w9 : World),
  h1 w9 →
  World.cell? w9 (Addr.add (Addr.add { block := g, off := (0 : Nat) } (1 : Nat)) (0 : Nat)) = some (Value.bool b2)) ∧
  ∀ (w10 : World),
  h1 w10 →
  World.cell? w10 (Addr.add (Addr.add { block := g, off := (0 : Nat) } (1 : Nat)) ((0 : Nat) + (1 : Nat))) =
  some (Value.int IntKind.i64 n6)) ∧
  ∃ (q3 : Option Addr),
  (∀ (w11 : World),
  h1 w11 → World.cell? w11 (Addr.add { block := g, off := (0 : Nat) } (3 : Nat)) = some (Value.pointer q3)) ∧
  ∃ (q4 : Option Addr),
  (∀ (w12 : World), h1 w12 → World.cell? w12 (Addr.add a4 (3 : Nat)) = some (Value.pointer q4)) ∧
  ∃ (b3 : Bool),
  ∃ (n7 : Int),
  ((∀ (w13 : World), h1 w13 → World.cell? w13 (Addr.add a1 (0 : Nat)) = some (Value.bool b3)) ∧
  ∀ (w14 : World), h1 w14 → World.cell? w14 (Addr.add a1 ((0 : Nat) + (1 : Nat))) = some (Value.int IntKind.i64 n7)) ∧
  ∃ (q5 : Option Addr),
  (∀ (w15 : World), h1 w15 → World.cell? w15 (Addr.add a5 (4 : Nat)) = some (Value.pointer q5)) ∧
  Rets Tryd.prog (66 : Nat)
  {
  toList :=
  [Value.int IntKind.u64 n5, Value.agg { toList := [Value.bool b2, Value.int IntKind.i64 n6] }, Value.pointer q3,
  Value.pointer q4] }
  w4 fun (v3 : Value) (w16 : World) =>
  ∃ (q6 : Option Addr),
  v3 = Value.pointer q6 ∧
  h1 w16 ∧
  Rets Tryd.prog (66 : Nat)
  {
  toList :=
  [Value.int IntKind.u64 k, Value.agg { toList := [Value.bool b3, Value.int IntKind.i64 n7] }, Value.pointer q5,
  Value.pointer q] }
  w16 fun (v4 : Value) (w17 : World) =>
  ∃ (q7 : Option Addr),
  v4 = Value.pointer q7 ∧
  h1 w17 ∧
  Rets Tryd.prog (66 : Nat)
  {
  toList :=
  [Value.int IntKind.u64 n3, Value.agg { toList := [Value.bool b1, Value.int IntKind.i64 n4] }, Value.pointer q6,
  Value.pointer q7] }
  w17 fun (v5 : Value) (w18 : World) => ∃ (q8 : Option Addr), v5 = Value.pointer q8 ∧ K (Value.pointer q8) w18) ∧
  (decide (n1 < n2) = false →
  Drw w3 fun (w19 : World) =>
  ∃ (h2 : World → Prop),
  h2 w19 ∧
  ∃ (n8 : Int),
  (∀ (w20 : World),
  h2 w20 → World.cell? w20 (Addr.add { block := g, off := (0 : Nat) } (0 : Nat)) = some (Value.int IntKind.u64 n8)) ∧
  ∃ (b4 : Bool),
  ∃ (n9 : Int),
  ((∀ (w21 : World),
  h2 w21 →
  World.cell? w21 (Addr.add (Addr.add { block := g, off := (0 : Nat) } (1 : Nat)) (0 : Nat)) = some (Value.bool b4)) ∧
  ∀ (w22 : World),
  h2 w22 →
  World.cell? w22 (Addr.add (Addr.add { block := g, off := (0 : Nat) } (1 : Nat)) ((0 : Nat) + (1 : Nat))) =
  some (Value.int IntKind.i64 n9)) ∧
  ∃ (q9 : Option Addr),
  (∀ (w23 : World),
  h2 w23 → World.cell? w23 (Addr.add { block := g, off := (0 : Nat) } (3 : Nat)) = some (Value.pointer q9)) ∧
  ∃ (b5 : Bool),
  ∃ (n10 : Int),
  ((∀ (w24 : World), h2 w24 → World.cell? w24 (Addr.add a1 (0 : Nat)) = some (Value.bool b5)) ∧
  ∀ (w25 : World), h2 w25 → World.cell? w25 (Addr.add a1 ((0 : Nat) + (1 : Nat))) = some (Value.int IntKind.i64 n10)) ∧
  ∃ (q10 : Option Addr),
  (∀ (w26 : World),
  h2 w26 → World.cell? w26 (Addr.add { block := g, off := (0 : Nat) } (4 : Nat)) = some (Value.pointer q10)) ∧
  Rets Tryd.prog (66 : Nat)
  {
  toList :=
  [Value.int IntKind.u64 k, Value.agg { toList := [Value.bool b5, Value.int IntKind.i64 n10] }, Value.pointer q10,
  Value.pointer q] }
  w19 fun (v6 : Value) (w27 : World) =>
  ∃ (q11 : Option Addr),
  v6 = Value.pointer q11 ∧
  h2 w27 ∧
  Rets Tryd.prog (66 : Nat)
  {
  toList :=
  [Value.int IntKind.u64 n8, Value.agg { toList := [Value.bool b4, Value.int IntKind.i64 n9] }, Value.pointer q9,
  Value.pointer q11] }
  w27 fun (v7 : Value) (w28 : World) => ∃ (q12 : Option Addr), v7 = Value.pointer q12 ∧ K (Value.pointer q12) w28)
theorem rank_leftUp_int_int_eq (k : Int) (cb : Bool) (cn : Int) (g : Nat) (q : Option Addr) (w : World) (K : Value → World → Prop) : fw Tryd.prog Tryd.f76 (annL []) (ordL [(3, [(0, 0), (1, 0), (2, 0), (4, 0), (5, 0), (6, 0), (8, 0), (9, 0), (10, 0), (12, 0), (13, 0), (14, 0), (16, 0), (17, 0), (18, 0), (20, 0), (21, 0), (22, 0), (25, 0), (27, 0), (28, 0), (29, 0), (31, 0), (3, 1), (7, 1), (11, 1), (15, 1), (19, 1), (23, 1), (26, 1), (30, 1), (24, 2), (32, 2), (33, 3), (34, 0)]), (4, [(0, 0), (1, 0), (2, 0), (4, 0), (5, 0), (6, 0), (8, 0), (9, 0), (10, 0), (12, 0), (14, 0), (15, 0), (16, 0), (18, 0), (3, 1), (7, 1), (11, 1), (13, 1), (17, 1), (19, 2), (20, 3), (21, 0)])]) [.int .u64 k, .agg #[.bool cb, .int .i64 cn], .pointer (some ⟨g, 0, none⟩), .pointer q] w K = rank_leftUp_int_int_m k cb cn g q w K := by kernel_rfl
theorem rank_leftUp_int_int_go (k : Int) (cb : Bool) (cn : Int) (g : Nat) (q : Option Addr) {w : World} {K : Value → World → Prop} (h : rank_leftUp_int_int_m k cb cn g q w K) : Rets Tryd.prog 76 #[.int .u64 k, .agg #[.bool cb, .int .i64 cn], .pointer (some ⟨g, 0, none⟩), .pointer q] w K :=
  calls_of_fw plain mixed Tryd.func76 (by kernel_rfl) (by rw [rank_leftUp_int_int_eq]; exact h)
def rank_rightUp_int_int_m (k : Int) (cb : Bool) (cn : Int) (p : Option Addr) (g : Nat) (w : World) (K : Value → World → Prop) : Prop :=
  NewR (60 : Nat) [Value.bool cb, Value.int IntKind.i64 cn] w fun (a1 : Addr) (w1 : World) =>
  ∃ (q1 : Option Addr),
  cellAt w1 (Addr.add { block := g, off := (0 : Nat) } (3 : Nat)) (Value.pointer q1) ∧
  ∃ (q2 : Option Addr),
  cellAt w1 (Addr.add { block := g, off := (0 : Nat) } (4 : Nat)) (Value.pointer q2) ∧
  Rets Tryd.prog (75 : Nat) { toList := [Value.pointer q2] } w1 fun (v1 : Value) (w2 : World) =>
  ∃ (n1 : Int),
  v1 = Value.int IntKind.i64 n1 ∧
  Rets Tryd.prog (75 : Nat) { toList := [Value.pointer q1] } w2 fun (v2 : Value) (w3 : World) =>
  ∃ (n2 : Int),
  v2 = Value.int IntKind.i64 n2 ∧
  (decide (n1 < n2) = true →
  Drw w3 fun (w4 : World) =>
  ∃ (h1 : World → Prop),
  h1 w4 ∧
  someR q1 fun (a2 : Addr) =>
  someR q1 fun (a3 : Addr) =>
  someR q1 fun (a4 : Addr) =>
  someR q1 fun (a5 : Addr) =>
  ∃ (n3 : Int),
  (∀ (w5 : World), h1 w5 → World.cell? w5 (Addr.add a2 (0 : Nat)) = some (Value.int IntKind.u64 n3)) ∧
  ∃ (b1 : Bool),
  ∃ (n4 : Int),
  ((∀ (w6 : World), h1 w6 → World.cell? w6 (Addr.add (Addr.add a3 (1 : Nat)) (0 : Nat)) = some (Value.bool b1)) ∧
  ∀ (w7 : World),
  h1 w7 → World.cell? w7 (Addr.add (Addr.add a3 (1 : Nat)) ((0 : Nat) + (1 : Nat))) = some (Value.int IntKind.i64 n4)) ∧
  ∃ (b2 : Bool),
  ∃ (n5 : Int),
  ((∀ (w8 : World), h1 w8 → World.cell? w8 (Addr.add a1 (0 : Nat)) = some (Value.bool b2)) ∧
  ∀ (w9 : World), h1 w9 → World.cell? w9 (Addr.add a1 ((0 : Nat) + (1 : Nat))) = some (Value.int IntKind.i64 n5)) ∧
  ∃ (q3 : Option Addr),
  (∀ (w10 : World), h1 w10 → World.cell? w10 (Addr.add a4 (3 : Nat)) = some (Value.pointer q3)) ∧
  ∃ (n6 : Int),
  (∀ (w11 : World),
  h1 w11 → World.cell? w11 (Addr.add { block := g, off := (0 : Nat) } (0 : Nat)) = some (Value.int IntKind.u64 n6)) ∧
  ∃ (b3 : Bool),
  ∃ (n7 : Int),
  ((∀ (w12 : World),
  h1 w12 →
  World.cell? w12 (Addr.add (Addr.add { block := g, off := (0 : Nat) } (1 : Nat)) (0 : Nat)) = some (Value.bool b3)) ∧
  ∀ (w13 : World),
  h1 w13 →
  World.cell? w13 (Addr.add (Addr.add { block := g, off := (0 : Nat) } (1 : Nat)) ((0 : Nat) + (1 : Nat))) =
  some (Value.int IntKind.i64 n7)) ∧
  ∃ (q4 : Option Addr),
  (∀ (w14 : World), h1 w14 → World.cell? w14 (Addr.add a5 (4 : Nat)) = some (Value.pointer q4)) ∧
  ∃ (q5 : Option Addr),
  (∀ (w15 : World),
  h1 w15 → World.cell? w15 (Addr.add { block := g, off := (0 : Nat) } (4 : Nat)) = some (Value.pointer q5)) ∧
  Rets Tryd.prog (66 : Nat)
  {
  toList :=
  [Value.int IntKind.u64 k, Value.agg { toList := [Value.bool b2, Value.int IntKind.i64 n5] }, Value.pointer p,
  Value.pointer q3] }
  w4 fun (v3 : Value) (w16 : World) =>
  ∃ (q6 : Option Addr),
  v3 = Value.pointer q6 ∧
  h1 w16 ∧
  Rets Tryd.prog (66 : Nat)
  {
  toList :=
  [Value.int IntKind.u64 n6, Value.agg { toList := [Value.bool b3, Value.int IntKind.i64 n7] }, Value.pointer q4,
  Value.pointer q5] }
  w16 fun (v4 : Value) (w17 : World) =>
  ∃ (q7 : Option Addr),
  v4 = Value.pointer q7 ∧
  h1 w17 ∧
  Rets Tryd.prog (66 : Nat)
  {
  toList :=
  [Value.int IntKind.u64 n3, Value.agg { toList := [Value.bool b1, Value.int IntKind.i64 n4] }, Value.pointer q6,
  Value.pointer q7] }
  w17 fun (v5 : Value) (w18 : World) => ∃ (q8 : Option Addr), v5 = Value.pointer q8 ∧ K (Value.pointer q8) w18) ∧
  (decide (n1 < n2) = false →
  Drw w3 fun (w19 : World) =>
  ∃ (h2 : World → Prop),
  h2 w19 ∧
  ∃ (n8 : Int),
  (∀ (w20 : World),
  h2 w20 → World.cell? w20 (Addr.add { block := g, off := (0 : Nat) } (0 : Nat)) = some (Value.int IntKind.u64 n8)) ∧
  ∃ (b4 : Bool),
  ∃ (n9 : Int),
  ((∀ (w21 : World),
  h2 w21 →
  World.cell? w21 (Addr.add (Addr.add { block := g, off := (0 : Nat) } (1 : Nat)) (0 : Nat)) = some (Value.bool b4)) ∧
  ∀ (w22 : World),
  h2 w22 →
  World.cell? w22 (Addr.add (Addr.add { block := g, off := (0 : Nat) } (1 : Nat)) ((0 : Nat) + (1 : Nat))) =
  some (Value.int IntKind.i64 n9)) ∧
  ∃ (b5 : Bool),
  ∃ (n10 : Int),
  ((∀ (w23 : World), h2 w23 → World.cell? w23 (Addr.add a1 (0 : Nat)) = some (Value.bool b5)) ∧
  ∀ (w24 : World), h2 w24 → World.cell? w24 (Addr.add a1 ((0 : Nat) + (1 : Nat))) = some (Value.int IntKind.i64 n10)) ∧
  ∃ (q9 : Option Addr),
  (∀ (w25 : World),
  h2 w25 → World.cell? w25 (Addr.add { block := g, off := (0 : Nat) } (3 : Nat)) = some (Value.pointer q9)) ∧
  ∃ (q10 : Option Addr),
  (∀ (w26 : World),
  h2 w26 → World.cell? w26 (Addr.add { block := g, off := (0 : Nat) } (4 : Nat)) = some (Value.pointer q10)) ∧
  Rets Tryd.prog (66 : Nat)
  {
  toList :=
  [Value.int IntKind.u64 k, Value.agg { toList := [Value.bool b5, Value.int IntKind.i64 n10] }, Value.pointer p,
  Value.pointer q9] }
  w19 fun (v6 : Value) (w27 : World) =>
  ∃ (q11 : Option Addr),
  v6 = Value.pointer q11 ∧
  h2 w27 ∧
  Rets Tryd.prog (66 : Nat)
  {
  toList :=
  [Value.int IntKind.u64 n8, Value.agg { toList := [Value.bool b4, Value.int IntKind.i64 n9] }, Value.pointer q11,
  Value.pointer q10] }
  w27 fun (v7 : Value) (w28 : World) => ∃ (q12 : Option Addr), v7 = Value.pointer q12 ∧ K (Value.pointer q12) w28)
theorem rank_rightUp_int_int_eq (k : Int) (cb : Bool) (cn : Int) (p : Option Addr) (g : Nat) (w : World) (K : Value → World → Prop) : fw Tryd.prog Tryd.f77 (annL []) (ordL [(3, [(0, 0), (1, 0), (2, 0), (4, 0), (5, 0), (6, 0), (8, 0), (10, 0), (11, 0), (12, 0), (13, 0), (16, 0), (17, 0), (18, 0), (20, 0), (21, 0), (22, 0), (24, 0), (25, 0), (26, 0), (28, 0), (29, 0), (30, 0), (3, 1), (7, 1), (9, 1), (14, 1), (19, 1), (23, 1), (27, 1), (31, 1), (15, 2), (32, 2), (33, 3), (34, 0)]), (4, [(0, 0), (1, 0), (2, 0), (4, 0), (5, 0), (6, 0), (8, 0), (10, 0), (11, 0), (12, 0), (13, 0), (16, 0), (17, 0), (18, 0), (3, 1), (7, 1), (9, 1), (14, 1), (19, 1), (15, 2), (20, 3), (21, 0)])]) [.int .u64 k, .agg #[.bool cb, .int .i64 cn], .pointer p, .pointer (some ⟨g, 0, none⟩)] w K = rank_rightUp_int_int_m k cb cn p g w K := by kernel_rfl
theorem rank_rightUp_int_int_go (k : Int) (cb : Bool) (cn : Int) (p : Option Addr) (g : Nat) {w : World} {K : Value → World → Prop} (h : rank_rightUp_int_int_m k cb cn p g w K) : Rets Tryd.prog 77 #[.int .u64 k, .agg #[.bool cb, .int .i64 cn], .pointer p, .pointer (some ⟨g, 0, none⟩)] w K :=
  calls_of_fw plain mixed Tryd.func77 (by kernel_rfl) (by rw [rank_rightUp_int_int_eq]; exact h)
def rank_joined_int_int_m (k : Int) (cb : Bool) (cn : Int) (p q : Option Addr) (w : World) (K : Value → World → Prop) : Prop :=
  NewR (60 : Nat) [Value.bool cb, Value.int IntKind.i64 cn] w fun (a1 : Addr) (w1 : World) =>
  Rets Tryd.prog (75 : Nat) { toList := [Value.pointer p] } w1 fun (v1 : Value) (w2 : World) =>
  ∃ (n1 : Int),
  v1 = Value.int IntKind.i64 n1 ∧
  Rets Tryd.prog (75 : Nat) { toList := [Value.pointer q] } w2 fun (v2 : Value) (w3 : World) =>
  ∃ (n2 : Int),
  v2 = Value.int IntKind.i64 n2 ∧
  (decide (IntKind.wrap IntKind.i64 (n1 - n2) > (1 : Int)) = true →
  ∃ (b1 : Bool),
  ∃ (n3 : Int),
  (cellAt w3 (Addr.add a1 (0 : Nat)) (Value.bool b1) ∧ cellAt w3 (Addr.add a1 (1 : Nat)) (Value.int IntKind.i64 n3)) ∧
  Rets Tryd.prog (76 : Nat)
  {
  toList :=
  [Value.int IntKind.u64 k, Value.agg { toList := [Value.bool b1, Value.int IntKind.i64 n3] }, Value.pointer p,
  Value.pointer q] }
  w3 fun (v3 : Value) (w4 : World) => ∃ (q1 : Option Addr), v3 = Value.pointer q1 ∧ K (Value.pointer q1) w4) ∧
  (decide (IntKind.wrap IntKind.i64 (n1 - n2) > (1 : Int)) = false →
  (decide (IntKind.wrap IntKind.i64 (n1 - n2) < (-1 : Int)) = true →
  ∃ (b2 : Bool),
  ∃ (n4 : Int),
  (cellAt w3 (Addr.add a1 (0 : Nat)) (Value.bool b2) ∧ cellAt w3 (Addr.add a1 (1 : Nat)) (Value.int IntKind.i64 n4)) ∧
  Rets Tryd.prog (77 : Nat)
  {
  toList :=
  [Value.int IntKind.u64 k, Value.agg { toList := [Value.bool b2, Value.int IntKind.i64 n4] }, Value.pointer p,
  Value.pointer q] }
  w3 fun (v4 : Value) (w5 : World) => ∃ (q2 : Option Addr), v4 = Value.pointer q2 ∧ K (Value.pointer q2) w5) ∧
  (decide (IntKind.wrap IntKind.i64 (n1 - n2) < (-1 : Int)) = false →
  ∃ (b3 : Bool),
  ∃ (n5 : Int),
  (cellAt w3 (Addr.add a1 (0 : Nat)) (Value.bool b3) ∧ cellAt w3 (Addr.add a1 (1 : Nat)) (Value.int IntKind.i64 n5)) ∧
  Rets Tryd.prog (66 : Nat)
  {
  toList :=
  [Value.int IntKind.u64 k, Value.agg { toList := [Value.bool b3, Value.int IntKind.i64 n5] }, Value.pointer p,
  Value.pointer q] }
  w3 fun (v5 : Value) (w6 : World) => ∃ (q3 : Option Addr), v5 = Value.pointer q3 ∧ K (Value.pointer q3) w6))
theorem rank_joined_int_int_eq (k : Int) (cb : Bool) (cn : Int) (p q : Option Addr) (w : World) (K : Value → World → Prop) : fw Tryd.prog Tryd.f67 (annL []) (ordL []) [.int .u64 k, .agg #[.bool cb, .int .i64 cn], .pointer p, .pointer q] w K = rank_joined_int_int_m k cb cn p q w K := by kernel_rfl
theorem rank_joined_int_int_go (k : Int) (cb : Bool) (cn : Int) (p q : Option Addr) {w : World} {K : Value → World → Prop} (h : rank_joined_int_int_m k cb cn p q w K) : Rets Tryd.prog 67 #[.int .u64 k, .agg #[.bool cb, .int .i64 cn], .pointer p, .pointer q] w K :=
  calls_of_fw plain mixed Tryd.func67 (by kernel_rfl) (by rw [rank_joined_int_int_eq]; exact h)
def rank_Tree_int_int_put_m (g : Nat) (p : Option Addr) (k : Int) (cb : Bool) (cn : Int) (w : World) (K : Value → World → Prop) : Prop :=
  NewR (60 : Nat) [Value.bool cb, Value.int IntKind.i64 cn] w fun (a1 : Addr) (w1 : World) =>
  (Option.isNone p = true →
  ∃ (b1 : Bool),
  ∃ (n1 : Int),
  (cellAt w1 (Addr.add a1 (0 : Nat)) (Value.bool b1) ∧ cellAt w1 (Addr.add a1 (1 : Nat)) (Value.int IntKind.i64 n1)) ∧
  Rets Tryd.prog (66 : Nat)
  {
  toList :=
  [Value.int IntKind.u64 k, Value.agg { toList := [Value.bool b1, Value.int IntKind.i64 n1] }, Value.pointer none,
  Value.pointer none] }
  w1 fun (v1 : Value) (w2 : World) => ∃ (q1 : Option Addr), v1 = Value.pointer q1 ∧ K (Value.pointer q1) w2) ∧
  (Option.isNone p = false →
  Drw w1 fun (w3 : World) =>
  someR p fun (a2 : Addr) =>
  ∃ (k1 : Nat),
  ∃ (a3 : Array Value),
  ∃ (c1 : Array Value),
  cellAt w3 (Addr.add { block := g, off := (0 : Nat) } (0 : Nat)) (Value.func (Fn.func k1) a3 c1) ∧
  ∃ (n2 : Int),
  cellAt w3 (Addr.add a2 (0 : Nat)) (Value.int IntKind.u64 n2) ∧
  callG Tryd.prog k1 (Array.toList a3) [Value.int IntKind.u64 k, Value.int IntKind.u64 n2] (Array.toList c1) w3
  fun (v2 : Value) (w4 : World) =>
  ∃ (n3 : Int),
  v2 = Value.int IntKind.i64 n3 ∧
  (decide (n3 < (0 : Int)) = true →
  Drw w4 fun (w5 : World) =>
  ∃ (h1 : World → Prop),
  h1 w5 ∧
  someR p fun (a4 : Addr) =>
  someR p fun (a5 : Addr) =>
  someR p fun (a6 : Addr) =>
  someR p fun (a7 : Addr) =>
  ∃ (n4 : Int),
  (∀ (w6 : World), h1 w6 → World.cell? w6 (Addr.add a4 (0 : Nat)) = some (Value.int IntKind.u64 n4)) ∧
  ∃ (b2 : Bool),
  ∃ (n5 : Int),
  ((∀ (w7 : World), h1 w7 → World.cell? w7 (Addr.add (Addr.add a5 (1 : Nat)) (0 : Nat)) = some (Value.bool b2)) ∧
  ∀ (w8 : World),
  h1 w8 → World.cell? w8 (Addr.add (Addr.add a5 (1 : Nat)) ((0 : Nat) + (1 : Nat))) = some (Value.int IntKind.i64 n5)) ∧
  ∃ (q2 : Option Addr),
  (∀ (w9 : World), h1 w9 → World.cell? w9 (Addr.add a6 (3 : Nat)) = some (Value.pointer q2)) ∧
  ∃ (b3 : Bool),
  ∃ (n6 : Int),
  ((∀ (w10 : World), h1 w10 → World.cell? w10 (Addr.add a1 (0 : Nat)) = some (Value.bool b3)) ∧
  ∀ (w11 : World), h1 w11 → World.cell? w11 (Addr.add a1 ((0 : Nat) + (1 : Nat))) = some (Value.int IntKind.i64 n6)) ∧
  ∃ (q3 : Option Addr),
  (∀ (w12 : World), h1 w12 → World.cell? w12 (Addr.add a7 (4 : Nat)) = some (Value.pointer q3)) ∧
  Rets Tryd.prog (49 : Nat)
  {
  toList :=
  [Value.pointer (some { block := g, off := (0 : Nat) }), Value.pointer q2, Value.int IntKind.u64 k,
  Value.agg { toList := [Value.bool b3, Value.int IntKind.i64 n6] }] }
  w5 fun (v3 : Value) (w13 : World) =>
  ∃ (q4 : Option Addr),
  v3 = Value.pointer q4 ∧
  h1 w13 ∧
  Rets Tryd.prog (67 : Nat)
  {
  toList :=
  [Value.int IntKind.u64 n4, Value.agg { toList := [Value.bool b2, Value.int IntKind.i64 n5] }, Value.pointer q4,
  Value.pointer q3] }
  w13 fun (v4 : Value) (w14 : World) => ∃ (q5 : Option Addr), v4 = Value.pointer q5 ∧ K (Value.pointer q5) w14) ∧
  (decide (n3 < (0 : Int)) = false →
  (decide (n3 > (0 : Int)) = true →
  Drw w4 fun (w15 : World) =>
  ∃ (h2 : World → Prop),
  h2 w15 ∧
  someR p fun (a8 : Addr) =>
  someR p fun (a9 : Addr) =>
  someR p fun (a10 : Addr) =>
  someR p fun (a11 : Addr) =>
  ∃ (n7 : Int),
  (∀ (w16 : World), h2 w16 → World.cell? w16 (Addr.add a8 (0 : Nat)) = some (Value.int IntKind.u64 n7)) ∧
  ∃ (b4 : Bool),
  ∃ (n8 : Int),
  ((∀ (w17 : World), h2 w17 → World.cell? w17 (Addr.add (Addr.add a9 (1 : Nat)) (0 : Nat)) = some (Value.bool b4)) ∧
  ∀ (w18 : World),
  h2 w18 → World.cell? w18 (Addr.add (Addr.add a9 (1 : Nat)) ((0 : Nat) + (1 : Nat))) = some (Value.int IntKind.i64 n8)) ∧
  ∃ (q6 : Option Addr),
  (∀ (w19 : World), h2 w19 → World.cell? w19 (Addr.add a10 (3 : Nat)) = some (Value.pointer q6)) ∧
  ∃ (q7 : Option Addr),
  (∀ (w20 : World), h2 w20 → World.cell? w20 (Addr.add a11 (4 : Nat)) = some (Value.pointer q7)) ∧
  ∃ (b5 : Bool),
  ∃ (n9 : Int),
  ((∀ (w21 : World), h2 w21 → World.cell? w21 (Addr.add a1 (0 : Nat)) = some (Value.bool b5)) ∧
  ∀ (w22 : World), h2 w22 → World.cell? w22 (Addr.add a1 ((0 : Nat) + (1 : Nat))) = some (Value.int IntKind.i64 n9)) ∧
  Rets Tryd.prog (49 : Nat)
  {
  toList :=
  [Value.pointer (some { block := g, off := (0 : Nat) }), Value.pointer q7, Value.int IntKind.u64 k,
  Value.agg { toList := [Value.bool b5, Value.int IntKind.i64 n9] }] }
  w15 fun (v5 : Value) (w23 : World) =>
  ∃ (q8 : Option Addr),
  v5 = Value.pointer q8 ∧
  h2 w23 ∧
  Rets Tryd.prog (67 : Nat)
  {
  toList :=
  [Value.int IntKind.u64 n7, Value.agg { toList := [Value.bool b4, Value.int IntKind.i64 n8] }, Value.pointer q6,
  Value.pointer q8] }
  w23 fun (v6 : Value) (w24 : World) => ∃ (q9 : Option Addr), v6 = Value.pointer q9 ∧ K (Value.pointer q9) w24) ∧
  (decide (n3 > (0 : Int)) = false →
  Drw w4 fun (w25 : World) =>
  someR p fun (a12 : Addr) =>
  someR p fun (a13 : Addr) =>
  ∃ (b6 : Bool),
  ∃ (n10 : Int),
  (cellAt w25 (Addr.add a1 (0 : Nat)) (Value.bool b6) ∧ cellAt w25 (Addr.add a1 (1 : Nat)) (Value.int IntKind.i64 n10)) ∧
  ∃ (q10 : Option Addr),
  cellAt w25 (Addr.add a12 (3 : Nat)) (Value.pointer q10) ∧
  ∃ (q11 : Option Addr),
  cellAt w25 (Addr.add a13 (4 : Nat)) (Value.pointer q11) ∧
  Rets Tryd.prog (66 : Nat)
  {
  toList :=
  [Value.int IntKind.u64 k, Value.agg { toList := [Value.bool b6, Value.int IntKind.i64 n10] }, Value.pointer q10,
  Value.pointer q11] }
  w25 fun (v7 : Value) (w26 : World) => ∃ (q12 : Option Addr), v7 = Value.pointer q12 ∧ K (Value.pointer q12) w26)))
theorem rank_Tree_int_int_put_eq (g : Nat) (p : Option Addr) (k : Int) (cb : Bool) (cn : Int) (w : World) (K : Value → World → Prop) : fw Tryd.prog Tryd.f49 (annL []) (ordL [(3, [(0, 0), (1, 0), (2, 0), (4, 0), (5, 0), (6, 0), (7, 0), (3, 1), (8, 1), (9, 3), (10, 0)]), (5, [(0, 0), (1, 0), (2, 0), (4, 0), (5, 0), (6, 0), (8, 0), (9, 0), (10, 0), (11, 0), (13, 0), (16, 0), (17, 0), (18, 0), (3, 1), (7, 1), (12, 1), (14, 1), (19, 1), (15, 2), (20, 3), (21, 0)]), (7, [(0, 0), (1, 0), (2, 0), (4, 0), (5, 0), (6, 0), (8, 0), (9, 0), (10, 0), (12, 0), (13, 0), (14, 0), (15, 0), (17, 0), (3, 1), (7, 1), (11, 1), (16, 1), (18, 1), (19, 2), (20, 3), (21, 0)]), (8, [(0, 0), (2, 0), (3, 0), (4, 0), (6, 0), (7, 0), (8, 0), (1, 1), (5, 1), (9, 1), (10, 3), (11, 0)])]) [.pointer (some ⟨g, 0, none⟩), .pointer p, .int .u64 k, .agg #[.bool cb, .int .i64 cn]] w K = rank_Tree_int_int_put_m g p k cb cn w K := by kernel_rfl
theorem rank_Tree_int_int_put_go (g : Nat) (p : Option Addr) (k : Int) (cb : Bool) (cn : Int) {w : World} {K : Value → World → Prop} (h : rank_Tree_int_int_put_m g p k cb cn w K) : Rets Tryd.prog 49 #[.pointer (some ⟨g, 0, none⟩), .pointer p, .int .u64 k, .agg #[.bool cb, .int .i64 cn]] w K :=
  calls_of_fw plain mixed Tryd.func49 (by kernel_rfl) (by rw [rank_Tree_int_int_put_eq]; exact h)
def rank_Tree_int_int_Put_m (g : Nat) (k : Int) (cb : Bool) (cn : Int) (w : World) (K : Value → World → Prop) : Prop :=
  NewR (60 : Nat) [Value.bool cb, Value.int IntKind.i64 cn] w fun (a1 : Addr) (w1 : World) =>
  (false = true → K (Value.pointer none) w1) ∧
  (false = false →
  Drw w1 fun (w2 : World) =>
  ∃ (h1 : World → Prop),
  h1 w2 ∧
  ∃ (k1 : Nat),
  ∃ (a2 : Array Value),
  ∃ (c1 : Array Value),
  (∀ (w3 : World),
  h1 w3 → World.cell? w3 (Addr.add { block := g, off := (0 : Nat) } (0 : Nat)) = some (Value.func (Fn.func k1) a2 c1)) ∧
  ∃ (q1 : Option Addr),
  (∀ (w4 : World),
  h1 w4 → World.cell? w4 (Addr.add { block := g, off := (0 : Nat) } (1 : Nat)) = some (Value.pointer q1)) ∧
  ∃ (b1 : Bool),
  ∃ (n1 : Int),
  ((∀ (w5 : World), h1 w5 → World.cell? w5 (Addr.add a1 (0 : Nat)) = some (Value.bool b1)) ∧
  ∀ (w6 : World), h1 w6 → World.cell? w6 (Addr.add a1 ((0 : Nat) + (1 : Nat))) = some (Value.int IntKind.i64 n1)) ∧
  Rets Tryd.prog (49 : Nat)
  {
  toList :=
  [Value.pointer (some { block := g, off := (0 : Nat) }), Value.pointer q1, Value.int IntKind.u64 k,
  Value.agg { toList := [Value.bool b1, Value.int IntKind.i64 n1] }] }
  w2 fun (v1 : Value) (w7 : World) =>
  ∃ (q2 : Option Addr),
  v1 = Value.pointer q2 ∧
  h1 w7 ∧
  NewR (92 : Nat) [Value.func (Fn.func k1) a2 c1, Value.pointer q2] w7 fun (a3 : Addr) (w8 : World) =>
  K (Value.pointer (some a3)) w8)
theorem rank_Tree_int_int_Put_eq (g : Nat) (k : Int) (cb : Bool) (cn : Int) (w : World) (K : Value → World → Prop) : fw Tryd.prog Tryd.f27 (annL []) (ordL [(3, [(0, 0), (1, 0), (2, 0), (4, 0), (5, 0), (6, 0), (7, 0), (9, 0), (3, 1), (8, 1), (10, 1), (11, 2), (12, 0), (13, 3), (14, 0)])]) [.pointer (some ⟨g, 0, none⟩), .int .u64 k, .agg #[.bool cb, .int .i64 cn]] w K = rank_Tree_int_int_Put_m g k cb cn w K := by kernel_rfl
theorem rank_Tree_int_int_Put_go (g : Nat) (k : Int) (cb : Bool) (cn : Int) {w : World} {K : Value → World → Prop} (h : rank_Tree_int_int_Put_m g k cb cn w K) : Rets Tryd.prog 27 #[.pointer (some ⟨g, 0, none⟩), .int .u64 k, .agg #[.bool cb, .int .i64 cn]] w K :=
  calls_of_fw plain mixed Tryd.func27 (by kernel_rfl) (by rw [rank_Tree_int_int_Put_eq]; exact h)
def rank_Tree_int_int_find_m (g : Nat) (k : Int) (w : World) (K : Value → World → Prop) : Prop :=
  (false = true → K (Value.tuple { toList := [Value.pointer none, Value.int IntKind.i64 (0 : Int)] }) w) ∧
  (false = false →
  ∃ (q1 : Option Addr),
  cellAt w (Addr.add { block := g, off := (0 : Nat) } (1 : Nat)) (Value.pointer q1) ∧
  ∃ (h1 : Nat → List Value → World → Prop),
  (∃ (k1 : Nat), h1 k1 [Value.int IntKind.i64 (0 : Int), Value.pointer q1] w) ∧
  ∀ (k2 : Nat) (w1 : World) (v1 v2 : Value) (n1 : Int) (q2 : Option Addr)
  (v3 v4 v5 v6 v7 v8 v9 v10 v11 v12 v13 v14 v15 v16 v17 v18 v19 v20 v21 v22 v23 v24 v25 v26 v27 v28 v29 v30 v31 v32 v33
  v34 v35 v36 v37 v38 v39 v40 v41 v42 v43 : Value),
  h1 k2 [Value.int IntKind.i64 n1, Value.pointer q2] w1 →
  ((!Option.isNone q2) = true →
  Drw w1 fun (w2 : World) =>
  someR q2 fun (a1 : Addr) =>
  ∃ (k3 : Nat),
  ∃ (a2 : Array Value),
  ∃ (c1 : Array Value),
  cellAt w2 (Addr.add { block := g, off := (0 : Nat) } (0 : Nat)) (Value.func (Fn.func k3) a2 c1) ∧
  ∃ (n2 : Int),
  cellAt w2 (Addr.add a1 (0 : Nat)) (Value.int IntKind.u64 n2) ∧
  callG Tryd.prog k3 (Array.toList a2) [Value.int IntKind.u64 k, Value.int IntKind.u64 n2] (Array.toList c1) w2
  fun (v44 : Value) (w3 : World) =>
  ∃ (n3 : Int),
  v44 = Value.int IntKind.i64 n3 ∧
  ((n3 == (0 : Int)) = true →
  someR q2 fun (a3 : Addr) =>
  ∃ (q3 : Option Addr),
  cellAt w3 (Addr.add a3 (3 : Nat)) (Value.pointer q3) ∧
  Rets Tryd.prog (58 : Nat) { toList := [Value.pointer q3] } w3 fun (v45 : Value) (w4 : World) =>
  ∃ (n4 : Int),
  v45 = Value.int IntKind.i64 n4 ∧
  K (Value.tuple { toList := [Value.pointer q2, Value.int IntKind.i64 (IntKind.wrap IntKind.i64 (n1 + n4))] }) w4) ∧
  ((n3 == (0 : Int)) = false →
  (decide (n3 < (0 : Int)) = true →
  someR q2 fun (a4 : Addr) =>
  ∃ (q4 : Option Addr),
  cellAt w3 (Addr.add a4 (3 : Nat)) (Value.pointer q4) ∧
  ∃ (k4 : Nat), k4 < k2 ∧ h1 k4 [Value.int IntKind.i64 n1, Value.pointer q4] w3) ∧
  (decide (n3 < (0 : Int)) = false →
  Drw w3 fun (w5 : World) =>
  ∃ (h2 : World → Prop),
  h2 w5 ∧
  someR q2 fun (a5 : Addr) =>
  someR q2 fun (a6 : Addr) =>
  ∃ (q5 : Option Addr),
  (∀ (w6 : World), h2 w6 → World.cell? w6 (Addr.add a5 (3 : Nat)) = some (Value.pointer q5)) ∧
  ∃ (q6 : Option Addr),
  (∀ (w7 : World), h2 w7 → World.cell? w7 (Addr.add a6 (4 : Nat)) = some (Value.pointer q6)) ∧
  Rets Tryd.prog (58 : Nat) { toList := [Value.pointer q5] } w5 fun (v46 : Value) (w8 : World) =>
  ∃ (n5 : Int),
  v46 = Value.int IntKind.i64 n5 ∧
  h2 w8 ∧
  ∃ (k5 : Nat),
  k5 < k2 ∧
  h1 k5
  [Value.int IntKind.i64 (IntKind.wrap IntKind.i64 (IntKind.wrap IntKind.i64 (n1 + n5) + (1 : Int))), Value.pointer q6]
  w8))) ∧
  ((!Option.isNone q2) = false → K (Value.tuple { toList := [Value.pointer none, Value.int IntKind.i64 n1] }) w1))
theorem rank_Tree_int_int_find_eq (g : Nat) (k : Int) (w : World) (K : Value → World → Prop) : fw Tryd.prog Tryd.f48 (annL [(2, [(4, none), (5, none), (6, some 3), (7, some 86), (8, none), (16, none), (17, none), (18, none), (19, none), (20, none), (21, none), (22, none), (23, none), (24, none), (25, none), (26, none), (27, none), (28, none), (29, none), (30, none), (31, none), (32, none), (33, none), (34, none), (35, none), (36, none), (37, none), (38, none), (39, none), (40, none), (41, none), (42, none), (43, none), (44, none), (45, none), (46, none), (47, none), (48, none), (49, none), (50, none), (51, none), (52, none), (53, none), (54, none), (55, none)])]) (ordL [(6, [(0, 0), (1, 0), (2, 0), (4, 0), (5, 0), (6, 0), (7, 0), (3, 1), (8, 1), (9, 3), (10, 0)]), (11, [(0, 0), (1, 0), (2, 0), (3, 0), (8, 0), (9, 0), (10, 0), (4, 1), (11, 1), (5, 2), (6, 0), (7, 0), (12, 0), (13, 0)])]) [.pointer (some ⟨g, 0, none⟩), .int .u64 k] w K = rank_Tree_int_int_find_m g k w K := by kernel_rfl
theorem rank_Tree_int_int_find_go (g : Nat) (k : Int) {w : World} {K : Value → World → Prop} (h : rank_Tree_int_int_find_m g k w K) : Rets Tryd.prog 48 #[.pointer (some ⟨g, 0, none⟩), .int .u64 k] w K :=
  calls_of_fw plain mixed Tryd.func48 (by kernel_rfl) (by rw [rank_Tree_int_int_find_eq]; exact h)
def rank_Tree_int_int_Get_m (p : Option Addr) (k : Int) (w : World) (K : Value → World → Prop) : Prop :=
  NewR (60 : Nat) [Value.bool false, Value.int IntKind.i64 (0 : Int)] w fun (a1 : Addr) (w1 : World) =>
  Rets Tryd.prog (48 : Nat) { toList := [Value.pointer p, Value.int IntKind.u64 k] } w1 fun (v1 : Value) (w2 : World) =>
  ∃ (q1 : Option Addr),
  ∃ (n1 : Int),
  v1 = Value.tuple { toList := [Value.pointer q1, Value.int IntKind.i64 n1] } ∧
  (Option.isNone q1 = true →
  ∃ (b1 : Bool),
  ∃ (n2 : Int),
  (cellAt w2 (Addr.add a1 (0 : Nat)) (Value.bool b1) ∧ cellAt w2 (Addr.add a1 (1 : Nat)) (Value.int IntKind.i64 n2)) ∧
  StoreR a1 [Value.bool b1, Value.int IntKind.i64 n2] w2 fun (w3 : World) =>
  ∃ (b2 : Bool),
  ∃ (n3 : Int),
  (cellAt w3 (Addr.add a1 (0 : Nat)) (Value.bool b2) ∧ cellAt w3 (Addr.add a1 (1 : Nat)) (Value.int IntKind.i64 n3)) ∧
  K (Value.tuple { toList := [Value.agg { toList := [Value.bool b2, Value.int IntKind.i64 n3] }, Value.bool false] })
  w3) ∧
  (Option.isNone q1 = false →
  someR q1 fun (a2 : Addr) =>
  ∃ (b3 : Bool),
  ∃ (n4 : Int),
  (cellAt w2 (Addr.add (Addr.add a2 (1 : Nat)) (0 : Nat)) (Value.bool b3) ∧
  cellAt w2 (Addr.add (Addr.add a2 (1 : Nat)) (1 : Nat)) (Value.int IntKind.i64 n4)) ∧
  StoreR a1 [Value.bool b3, Value.int IntKind.i64 n4] w2 fun (w4 : World) =>
  ∃ (b4 : Bool),
  ∃ (n5 : Int),
  (cellAt w4 (Addr.add a1 (0 : Nat)) (Value.bool b4) ∧ cellAt w4 (Addr.add a1 (1 : Nat)) (Value.int IntKind.i64 n5)) ∧
  K (Value.tuple { toList := [Value.agg { toList := [Value.bool b4, Value.int IntKind.i64 n5] }, Value.bool true] }) w4)
theorem rank_Tree_int_int_Get_eq (p : Option Addr) (k : Int) (w : World) (K : Value → World → Prop) : fw Tryd.prog Tryd.f26 (annL []) (ordL []) [.pointer p, .int .u64 k] w K = rank_Tree_int_int_Get_m p k w K := by kernel_rfl
theorem rank_Tree_int_int_Get_go (p : Option Addr) (k : Int) {w : World} {K : Value → World → Prop} (h : rank_Tree_int_int_Get_m p k w K) : Rets Tryd.prog 26 #[.pointer p, .int .u64 k] w K :=
  calls_of_fw plain mixed Tryd.func26 (by kernel_rfl) (by rw [rank_Tree_int_int_Get_eq]; exact h)
def rank_Tree_int_int_Len_m (g : Nat) (w : World) (K : Value → World → Prop) : Prop :=
  (false = true → K (Value.int IntKind.i64 (0 : Int)) w) ∧
  (false = false →
  ∃ (q1 : Option Addr),
  cellAt w (Addr.add { block := g, off := (0 : Nat) } (1 : Nat)) (Value.pointer q1) ∧
  Rets Tryd.prog (58 : Nat) { toList := [Value.pointer q1] } w fun (v1 : Value) (w1 : World) =>
  ∃ (n1 : Int), v1 = Value.int IntKind.i64 n1 ∧ K (Value.int IntKind.i64 n1) w1)
theorem rank_Tree_int_int_Len_eq (g : Nat) (w : World) (K : Value → World → Prop) : fw Tryd.prog Tryd.f37 (annL []) (ordL []) [.pointer (some ⟨g, 0, none⟩)] w K = rank_Tree_int_int_Len_m g w K := by kernel_rfl
theorem rank_Tree_int_int_Len_go (g : Nat) {w : World} {K : Value → World → Prop} (h : rank_Tree_int_int_Len_m g w K) : Rets Tryd.prog 37 #[.pointer (some ⟨g, 0, none⟩)] w K :=
  calls_of_fw plain mixed Tryd.func37 (by kernel_rfl) (by rw [rank_Tree_int_int_Len_eq]; exact h)
end Go.Proofs.YtjdbeopgmpbikaaDoor.Eng
