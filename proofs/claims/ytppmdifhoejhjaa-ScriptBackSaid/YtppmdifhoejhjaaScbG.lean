/- What the code of these functions asks for: printed by a program of this session's (gens.py) out of the seat's own functions; the kernel checks each row. -/
import Derived.Test.YtppmdifhoejhjaaEngH
import Derived.Test.YtppmdifhoejhjaaProg
import Derived.Test.YtppmdifhoejhjaaBase
namespace Go.Proofs.Ytppmdifhoejhjaa.Eng
open Go Go.Proofs
set_option linter.unusedVariables false
set_option maxRecDepth 1000000
def ops_Equal_m (q : Option Addr) (l c : Nat) (q2 : Option Addr) (l2 c2 : Nat) (w : World) (K : Value → World → Prop) : Prop :=
  (((↑l : Int) != (↑l2 : Int)) = true → K (Value.bool false) w) ∧
  (((↑l : Int) != (↑l2 : Int)) = false →
  ∃ (h1 : Nat → List Value → World → Prop),
  (∃ (k1 : Nat), h1 k1 [Value.int IntKind.i64 (0 : Int)] w) ∧
  ∀ (k2 : Nat) (w1 : World) (v1 v2 : Value) (n1 : Int) (v3 v4 v5 v6 v7 v8 v9 v10 v11 v12 v13 v14 : Value),
  h1 k2 [Value.int IntKind.i64 n1] w1 →
  (decide (n1 < (↑l : Int)) = true →
  Drw w1 fun (w2 : World) =>
  (0 : Int) ≤ n1 ∧
  n1 < (↑l : Int) ∧
  someR q fun (a1 : Addr) =>
  (0 : Int) ≤ n1 ∧
  n1 < (↑l2 : Int) ∧
  someR q2 fun (a2 : Addr) =>
  ∃ (n2 : Int),
  ∃ (n3 : Int),
  ∃ (n4 : Int),
  ∃ (n5 : Int),
  ∃ (n6 : Int),
  (cellAt w2 (Addr.add (Addr.add a1 (Int.toNat n1 * (5 : Nat))) (0 : Nat)) (Value.int IntKind.i64 n2) ∧
  cellAt w2 (Addr.add (Addr.add a1 (Int.toNat n1 * (5 : Nat))) (1 : Nat)) (Value.int IntKind.i64 n3) ∧
  cellAt w2 (Addr.add (Addr.add a1 (Int.toNat n1 * (5 : Nat))) (2 : Nat)) (Value.int IntKind.i64 n4) ∧
  cellAt w2 (Addr.add (Addr.add a1 (Int.toNat n1 * (5 : Nat))) (3 : Nat)) (Value.int IntKind.i64 n5) ∧
  cellAt w2 (Addr.add (Addr.add a1 (Int.toNat n1 * (5 : Nat))) (4 : Nat)) (Value.int IntKind.i64 n6)) ∧
  ∃ (n7 : Int),
  ∃ (n8 : Int),
  ∃ (n9 : Int),
  ∃ (n10 : Int),
  ∃ (n11 : Int),
  (cellAt w2 (Addr.add (Addr.add a2 (Int.toNat n1 * (5 : Nat))) (0 : Nat)) (Value.int IntKind.i64 n7) ∧
  cellAt w2 (Addr.add (Addr.add a2 (Int.toNat n1 * (5 : Nat))) (1 : Nat)) (Value.int IntKind.i64 n8) ∧
  cellAt w2 (Addr.add (Addr.add a2 (Int.toNat n1 * (5 : Nat))) (2 : Nat)) (Value.int IntKind.i64 n9) ∧
  cellAt w2 (Addr.add (Addr.add a2 (Int.toNat n1 * (5 : Nat))) (3 : Nat)) (Value.int IntKind.i64 n10) ∧
  cellAt w2 (Addr.add (Addr.add a2 (Int.toNat n1 * (5 : Nat))) (4 : Nat)) (Value.int IntKind.i64 n11)) ∧
  ((!(n2 == n7 && (n3 == n8 && (n4 == n9 && (n5 == n10 && n6 == n11))))) = true → K (Value.bool false) w2) ∧
  ((!(n2 == n7 && (n3 == n8 && (n4 == n9 && (n5 == n10 && n6 == n11))))) = false →
  ∃ (k3 : Nat), k3 < k2 ∧ h1 k3 [Value.int IntKind.i64 (IntKind.wrap IntKind.i64 (n1 + (1 : Int)))] w2)) ∧
  (decide (n1 < (↑l : Int)) = false → K (Value.bool true) w1))
theorem ops_Equal_eq (q : Option Addr) (l c : Nat) (q2 : Option Addr) (l2 c2 : Nat) (w : World) (K : Value → World → Prop) : fw Try.prog Try.f28 (annL [(2, [(4, none), (5, none), (13, some 3), (14, none), (15, none), (16, none), (17, none), (18, none), (19, none), (20, none), (21, none), (22, none), (23, none), (24, none), (25, none)])]) (ordL [(6, [(0, 0), (1, 0), (2, 0), (4, 0), (5, 0), (6, 0), (3, 1), (7, 1), (8, 0)])]) [.slice q l c, .slice q2 l2 c2] w K = ops_Equal_m q l c q2 l2 c2 w K := by kernel_rfl
theorem ops_Equal_go (q : Option Addr) (l c : Nat) (q2 : Option Addr) (l2 c2 : Nat) {w : World} {K : Value → World → Prop} (h : ops_Equal_m q l c q2 l2 c2 w K) : Rets Try.prog 28 #[.slice q l c, .slice q2 l2 c2] w K :=
  calls_of_fw plain mixed Try.func28 (by kernel_rfl) (by rw [ops_Equal_eq]; exact h)
def ints_Equal_m (q : Option Addr) (l c : Nat) (q2 : Option Addr) (l2 c2 : Nat) (w : World) (K : Value → World → Prop) : Prop :=
  (((↑l : Int) != (↑l2 : Int)) = true → K (Value.bool false) w) ∧
  (((↑l : Int) != (↑l2 : Int)) = false →
  ∃ (h1 : Nat → List Value → World → Prop),
  (∃ (k1 : Nat), h1 k1 [Value.int IntKind.i64 (0 : Int)] w) ∧
  ∀ (k2 : Nat) (w1 : World) (v1 v2 : Value) (n1 : Int) (v3 v4 v5 v6 v7 v8 v9 v10 v11 v12 v13 v14 : Value),
  h1 k2 [Value.int IntKind.i64 n1] w1 →
  (decide (n1 < (↑l : Int)) = true →
  Drw w1 fun (w2 : World) =>
  (0 : Int) ≤ n1 ∧
  n1 < (↑l : Int) ∧
  someR q fun (a1 : Addr) =>
  (0 : Int) ≤ n1 ∧
  n1 < (↑l2 : Int) ∧
  someR q2 fun (a2 : Addr) =>
  ∃ (n2 : Int),
  cellAt w2 (Addr.add a1 (Int.toNat n1 * (1 : Nat))) (Value.int IntKind.i64 n2) ∧
  ∃ (n3 : Int),
  cellAt w2 (Addr.add a2 (Int.toNat n1 * (1 : Nat))) (Value.int IntKind.i64 n3) ∧
  ((n2 != n3) = true → K (Value.bool false) w2) ∧
  ((n2 != n3) = false →
  ∃ (k3 : Nat), k3 < k2 ∧ h1 k3 [Value.int IntKind.i64 (IntKind.wrap IntKind.i64 (n1 + (1 : Int)))] w2)) ∧
  (decide (n1 < (↑l : Int)) = false → K (Value.bool true) w1))
theorem ints_Equal_eq (q : Option Addr) (l c : Nat) (q2 : Option Addr) (l2 c2 : Nat) (w : World) (K : Value → World → Prop) : fw Try.prog Try.f29 (annL [(2, [(4, none), (5, none), (13, some 3), (14, none), (15, none), (16, none), (17, none), (18, none), (19, none), (20, none), (21, none), (22, none), (23, none), (24, none), (25, none)])]) (ordL [(6, [(0, 0), (1, 0), (2, 0), (4, 0), (5, 0), (6, 0), (3, 1), (7, 1), (8, 0)])]) [.slice q l c, .slice q2 l2 c2] w K = ints_Equal_m q l c q2 l2 c2 w K := by kernel_rfl
theorem ints_Equal_go (q : Option Addr) (l c : Nat) (q2 : Option Addr) (l2 c2 : Nat) {w : World} {K : Value → World → Prop} (h : ints_Equal_m q l c q2 l2 c2 w K) : Rets Try.prog 29 #[.slice q l c, .slice q2 l2 c2] w K :=
  calls_of_fw plain mixed Try.func29 (by kernel_rfl) (by rw [ints_Equal_eq]; exact h)
def prs_Equal_m (q : Option Addr) (l c : Nat) (q2 : Option Addr) (l2 c2 : Nat) (w : World) (K : Value → World → Prop) : Prop :=
  (((↑l : Int) != (↑l2 : Int)) = true → K (Value.bool false) w) ∧
  (((↑l : Int) != (↑l2 : Int)) = false →
  ∃ (h1 : Nat → List Value → World → Prop),
  (∃ (k1 : Nat), h1 k1 [Value.int IntKind.i64 (0 : Int)] w) ∧
  ∀ (k2 : Nat) (w1 : World) (v1 v2 v3 v4 : Value) (n1 : Int) (v5 v6 v7 v8 v9 v10 v11 v12 v13 v14 v15 v16 v17 v18 : Value),
  h1 k2 [Value.int IntKind.i64 n1] w1 →
  (decide (n1 < (↑l : Int)) = true →
  (0 : Int) ≤ n1 ∧
  n1 < (↑l : Int) ∧
  someR q fun (a1 : Addr) =>
  ∃ (q1 : Option Addr),
  ∃ (k3 : Nat),
  ∃ (k4 : Nat),
  cellAt w1 (Addr.add a1 (Int.toNat n1 * (1 : Nat))) (Value.slice q1 k3 k4) ∧
  (0 : Int) ≤ n1 ∧
  n1 < (↑l2 : Int) ∧
  someR q2 fun (a2 : Addr) =>
  ∃ (q2 : Option Addr),
  ∃ (k5 : Nat),
  ∃ (k6 : Nat),
  cellAt w1 (Addr.add a2 (Int.toNat n1 * (1 : Nat))) (Value.slice q2 k5 k6) ∧
  Rets Try.prog (28 : Nat) { toList := [Value.slice q1 k3 k4, Value.slice q2 k5 k6] } w1 fun (v19 : Value) (w2 : World) =>
  ∃ (b1 : Bool),
  v19 = Value.bool b1 ∧
  ((!b1) = true → K (Value.bool false) w2) ∧
  ((!b1) = false →
  ∃ (k7 : Nat), k7 < k2 ∧ h1 k7 [Value.int IntKind.i64 (IntKind.wrap IntKind.i64 (n1 + (1 : Int)))] w2)) ∧
  (decide (n1 < (↑l : Int)) = false → K (Value.bool true) w1))
theorem prs_Equal_eq (q : Option Addr) (l c : Nat) (q2 : Option Addr) (l2 c2 : Nat) (w : World) (K : Value → World → Prop) : fw Try.prog Try.f27 (annL [(2, [(6, none), (7, none), (8, none), (9, none), (17, some 3), (18, none), (19, none), (20, none), (21, none), (22, none), (23, none), (24, none), (25, none), (26, none), (27, none), (28, none), (29, none), (30, none), (31, none)])]) (ordL []) [.slice q l c, .slice q2 l2 c2, .func (.func 28) #[] #[]] w K = prs_Equal_m q l c q2 l2 c2 w K := by kernel_rfl
theorem prs_Equal_go (q : Option Addr) (l c : Nat) (q2 : Option Addr) (l2 c2 : Nat) {w : World} {K : Value → World → Prop} (h : prs_Equal_m q l c q2 l2 c2 w K) : Rets Try.prog 27 #[.slice q l c, .slice q2 l2 c2, .func (.func 28) #[] #[]] w K :=
  calls_of_fw plain mixed Try.func27 (by kernel_rfl) (by rw [prs_Equal_eq]; exact h)
def script_Same_m (x0 x1 x2 x3 x4 : Int) (xq : Option Addr) (xl xc : Nat) (xr : Option Addr) (xm xd : Nat) (xt : Option Addr) (xn xe : Nat) (y0 y1 y2 y3 y4 : Int) (yq : Option Addr) (yl yc : Nat) (yr : Option Addr) (ym yd : Nat) (yt : Option Addr) (yn ye : Nat) (w : World) (K : Value → World → Prop) : Prop :=
  NewR (27 : Nat)
  [Value.int IntKind.i64 x0, Value.int IntKind.i64 x1, Value.int IntKind.i64 x2, Value.int IntKind.i64 x3,
  Value.int IntKind.i64 x4, Value.slice xq xl xc, Value.slice xr xm xd, Value.slice xt xn xe]
  w fun (a1 : Addr) (w1 : World) =>
  NewR (27 : Nat)
  [Value.int IntKind.i64 y0, Value.int IntKind.i64 y1, Value.int IntKind.i64 y2, Value.int IntKind.i64 y3,
  Value.int IntKind.i64 y4, Value.slice yq yl yc, Value.slice yr ym yd, Value.slice yt yn ye]
  w1 fun (a2 : Addr) (w2 : World) =>
  ∃ (n1 : Int),
  ∃ (n2 : Int),
  ∃ (n3 : Int),
  ∃ (n4 : Int),
  ∃ (n5 : Int),
  (cellAt w2 (Addr.add (Addr.add a1 (0 : Nat)) (0 : Nat)) (Value.int IntKind.i64 n1) ∧
  cellAt w2 (Addr.add (Addr.add a1 (0 : Nat)) (1 : Nat)) (Value.int IntKind.i64 n2) ∧
  cellAt w2 (Addr.add (Addr.add a1 (0 : Nat)) (2 : Nat)) (Value.int IntKind.i64 n3) ∧
  cellAt w2 (Addr.add (Addr.add a1 (0 : Nat)) (3 : Nat)) (Value.int IntKind.i64 n4) ∧
  cellAt w2 (Addr.add (Addr.add a1 (0 : Nat)) (4 : Nat)) (Value.int IntKind.i64 n5)) ∧
  ∃ (n6 : Int),
  ∃ (n7 : Int),
  ∃ (n8 : Int),
  ∃ (n9 : Int),
  ∃ (n10 : Int),
  (cellAt w2 (Addr.add (Addr.add a2 (0 : Nat)) (0 : Nat)) (Value.int IntKind.i64 n6) ∧
  cellAt w2 (Addr.add (Addr.add a2 (0 : Nat)) (1 : Nat)) (Value.int IntKind.i64 n7) ∧
  cellAt w2 (Addr.add (Addr.add a2 (0 : Nat)) (2 : Nat)) (Value.int IntKind.i64 n8) ∧
  cellAt w2 (Addr.add (Addr.add a2 (0 : Nat)) (3 : Nat)) (Value.int IntKind.i64 n9) ∧
  cellAt w2 (Addr.add (Addr.add a2 (0 : Nat)) (4 : Nat)) (Value.int IntKind.i64 n10)) ∧
  ((n1 == n6 && (n2 == n7 && (n3 == n8 && (n4 == n9 && n5 == n10)))) = true →
  ∃ (q1 : Option Addr),
  ∃ (k1 : Nat),
  ∃ (k2 : Nat),
  cellAt w2 (Addr.add a1 (5 : Nat)) (Value.slice q1 k1 k2) ∧
  ∃ (q2 : Option Addr),
  ∃ (k3 : Nat),
  ∃ (k4 : Nat),
  cellAt w2 (Addr.add a2 (5 : Nat)) (Value.slice q2 k3 k4) ∧
  Rets Try.prog (27 : Nat)
  {
  toList :=
  [Value.slice q1 k1 k2, Value.slice q2 k3 k4, Value.func (Fn.func (28 : Nat)) { toList := [] } { toList := [] }] }
  w2 fun (v1 : Value) (w3 : World) =>
  ∃ (b1 : Bool),
  v1 = Value.bool b1 ∧
  (b1 = true →
  ∃ (q3 : Option Addr),
  ∃ (k5 : Nat),
  ∃ (k6 : Nat),
  cellAt w3 (Addr.add a1 (6 : Nat)) (Value.slice q3 k5 k6) ∧
  ∃ (q4 : Option Addr),
  ∃ (k7 : Nat),
  ∃ (k8 : Nat),
  cellAt w3 (Addr.add a2 (6 : Nat)) (Value.slice q4 k7 k8) ∧
  Rets Try.prog (29 : Nat) { toList := [Value.slice q3 k5 k6, Value.slice q4 k7 k8] } w3 fun (v2 : Value) (w4 : World) =>
  ∃ (b2 : Bool),
  v2 = Value.bool b2 ∧
  (b2 = true →
  ∃ (q5 : Option Addr),
  ∃ (k9 : Nat),
  ∃ (k10 : Nat),
  cellAt w4 (Addr.add a1 (7 : Nat)) (Value.slice q5 k9 k10) ∧
  ∃ (q6 : Option Addr),
  ∃ (k11 : Nat),
  ∃ (k12 : Nat),
  cellAt w4 (Addr.add a2 (7 : Nat)) (Value.slice q6 k11 k12) ∧
  Rets Try.prog (29 : Nat) { toList := [Value.slice q5 k9 k10, Value.slice q6 k11 k12] } w4
  fun (v3 : Value) (w5 : World) => ∃ (b3 : Bool), v3 = Value.bool b3 ∧ K (Value.bool b3) w5) ∧
  (b2 = false → K (Value.bool false) w4)) ∧
  (b1 = false → K (Value.bool false) w3)) ∧
  ((n1 == n6 && (n2 == n7 && (n3 == n8 && (n4 == n9 && n5 == n10)))) = false → K (Value.bool false) w2)
theorem script_Same_eq (x0 x1 x2 x3 x4 : Int) (xq : Option Addr) (xl xc : Nat) (xr : Option Addr) (xm xd : Nat) (xt : Option Addr) (xn xe : Nat) (y0 y1 y2 y3 y4 : Int) (yq : Option Addr) (yl yc : Nat) (yr : Option Addr) (ym yd : Nat) (yt : Option Addr) (yn ye : Nat) (w : World) (K : Value → World → Prop) : fw Try.prog Try.f12 (annL []) (ordL []) [.agg #[.int .i64 x0, .int .i64 x1, .int .i64 x2, .int .i64 x3, .int .i64 x4, .slice xq xl xc, .slice xr xm xd, .slice xt xn xe], .agg #[.int .i64 y0, .int .i64 y1, .int .i64 y2, .int .i64 y3, .int .i64 y4, .slice yq yl yc, .slice yr ym yd, .slice yt yn ye]] w K = script_Same_m x0 x1 x2 x3 x4 xq xl xc xr xm xd xt xn xe y0 y1 y2 y3 y4 yq yl yc yr ym yd yt yn ye w K := by kernel_rfl
theorem script_Same_go (x0 x1 x2 x3 x4 : Int) (xq : Option Addr) (xl xc : Nat) (xr : Option Addr) (xm xd : Nat) (xt : Option Addr) (xn xe : Nat) (y0 y1 y2 y3 y4 : Int) (yq : Option Addr) (yl yc : Nat) (yr : Option Addr) (ym yd : Nat) (yt : Option Addr) (yn ye : Nat) {w : World} {K : Value → World → Prop} (h : script_Same_m x0 x1 x2 x3 x4 xq xl xc xr xm xd xt xn xe y0 y1 y2 y3 y4 yq yl yc yr ym yd yt yn ye w K) : Rets Try.prog 12 #[.agg #[.int .i64 x0, .int .i64 x1, .int .i64 x2, .int .i64 x3, .int .i64 x4, .slice xq xl xc, .slice xr xm xd, .slice xt xn xe], .agg #[.int .i64 y0, .int .i64 y1, .int .i64 y2, .int .i64 y3, .int .i64 y4, .slice yq yl yc, .slice yr ym yd, .slice yt yn ye]] w K :=
  calls_of_fw plain mixed Try.func12 (by kernel_rfl) (by rw [script_Same_eq]; exact h)
def script_Calls_m (x0 x1 x2 x3 x4 : Int) (xq : Option Addr) (xl xc : Nat) (xr : Option Addr) (xm xd : Nat) (xt : Option Addr) (xn xe : Nat) (w : World) (K : Value → World → Prop) : Prop :=
  NewR (27 : Nat)
  [Value.int IntKind.i64 x0, Value.int IntKind.i64 x1, Value.int IntKind.i64 x2, Value.int IntKind.i64 x3,
  Value.int IntKind.i64 x4, Value.slice xq xl xc, Value.slice xr xm xd, Value.slice xt xn xe]
  w fun (a1 : Addr) (w1 : World) =>
  ∃ (q1 : Option Addr),
  ∃ (k1 : Nat),
  ∃ (k2 : Nat),
  cellAt w1 (Addr.add a1 (5 : Nat)) (Value.slice q1 k1 k2) ∧
  ∃ (h1 : Nat → List Value → World → Prop),
  (∃ (k3 : Nat), h1 k3 [Value.int IntKind.i64 (0 : Int), Value.int IntKind.i64 (0 : Int)] w1) ∧
  ∀ (k4 : Nat) (w2 : World) (n1 : Int) (v1 : Value) (n2 : Int) (v2 v3 v4 v5 v6 v7 v8 v9 : Value),
  h1 k4 [Value.int IntKind.i64 n1, Value.int IntKind.i64 n2] w2 →
  (decide (n2 < (↑k1 : Int)) = true →
  (0 : Int) ≤ n2 ∧
  n2 < (↑k1 : Int) ∧
  someR q1 fun (a2 : Addr) =>
  ∃ (q2 : Option Addr),
  ∃ (k5 : Nat),
  ∃ (k6 : Nat),
  cellAt w2 (Addr.add a2 (Int.toNat n2 * (1 : Nat))) (Value.slice q2 k5 k6) ∧
  ∃ (k7 : Nat),
  k7 < k4 ∧
  h1 k7
  [Value.int IntKind.i64 (IntKind.wrap IntKind.i64 (n1 + (↑k5 : Int))),
  Value.int IntKind.i64 (IntKind.wrap IntKind.i64 (n2 + (1 : Int)))]
  w2) ∧
  (decide (n2 < (↑k1 : Int)) = false → K (Value.int IntKind.i64 n1) w2)
theorem script_Calls_eq (x0 x1 x2 x3 x4 : Int) (xq : Option Addr) (xl xc : Nat) (xr : Option Addr) (xm xd : Nat) (xt : Option Addr) (xn xe : Nat) (w : World) (K : Value → World → Prop) : fw Try.prog Try.f14 (annL [(1, [(2, some 3), (4, none), (8, some 3), (9, none), (10, none), (11, none), (12, none), (13, none), (14, none), (15, none), (16, none)])]) (ordL []) [.agg #[.int .i64 x0, .int .i64 x1, .int .i64 x2, .int .i64 x3, .int .i64 x4, .slice xq xl xc, .slice xr xm xd, .slice xt xn xe]] w K = script_Calls_m x0 x1 x2 x3 x4 xq xl xc xr xm xd xt xn xe w K := by kernel_rfl
theorem script_Calls_go (x0 x1 x2 x3 x4 : Int) (xq : Option Addr) (xl xc : Nat) (xr : Option Addr) (xm xd : Nat) (xt : Option Addr) (xn xe : Nat) {w : World} {K : Value → World → Prop} (h : script_Calls_m x0 x1 x2 x3 x4 xq xl xc xr xm xd xt xn xe w K) : Rets Try.prog 14 #[.agg #[.int .i64 x0, .int .i64 x1, .int .i64 x2, .int .i64 x3, .int .i64 x4, .slice xq xl xc, .slice xr xm xd, .slice xt xn xe]] w K :=
  calls_of_fw plain mixed Try.func14 (by kernel_rfl) (by rw [script_Calls_eq]; exact h)
def script_Bytes_m (x0 x1 x2 x3 x4 : Int) (xq : Option Addr) (xl xc : Nat) (xr : Option Addr) (xm xd : Nat) (xt : Option Addr) (xn xe : Nat) (w : World) (K : Value → World → Prop) : Prop :=
  NewR (27 : Nat)
  [Value.int IntKind.i64 x0, Value.int IntKind.i64 x1, Value.int IntKind.i64 x2, Value.int IntKind.i64 x3,
  Value.int IntKind.i64 x4, Value.slice xq xl xc, Value.slice xr xm xd, Value.slice xt xn xe]
  w fun (a1 : Addr) (w1 : World) =>
  ∃ (n1 : Int),
  ∃ (n2 : Int),
  ∃ (n3 : Int),
  ∃ (n4 : Int),
  ∃ (n5 : Int),
  ∃ (q1 : Option Addr),
  ∃ (k1 : Nat),
  ∃ (k2 : Nat),
  ∃ (q2 : Option Addr),
  ∃ (k3 : Nat),
  ∃ (k4 : Nat),
  ∃ (q3 : Option Addr),
  ∃ (k5 : Nat),
  ∃ (k6 : Nat),
  (cellAt w1 (Addr.add a1 (0 : Nat)) (Value.int IntKind.i64 n1) ∧
  cellAt w1 (Addr.add a1 (1 : Nat)) (Value.int IntKind.i64 n2) ∧
  cellAt w1 (Addr.add a1 (2 : Nat)) (Value.int IntKind.i64 n3) ∧
  cellAt w1 (Addr.add a1 (3 : Nat)) (Value.int IntKind.i64 n4) ∧
  cellAt w1 (Addr.add a1 (4 : Nat)) (Value.int IntKind.i64 n5) ∧
  cellAt w1 (Addr.add a1 (5 : Nat)) (Value.slice q1 k1 k2) ∧
  cellAt w1 (Addr.add a1 (6 : Nat)) (Value.slice q2 k3 k4) ∧ cellAt w1 (Addr.add a1 (7 : Nat)) (Value.slice q3 k5 k6)) ∧
  Rets Try.prog (8 : Nat)
  {
  toList :=
  [Value.agg
  {
  toList :=
  [Value.int IntKind.i64 n1, Value.int IntKind.i64 n2, Value.int IntKind.i64 n3, Value.int IntKind.i64 n4,
  Value.int IntKind.i64 n5, Value.slice q1 k1 k2, Value.slice q2 k3 k4, Value.slice q3 k5 k6] }] }
  w1 fun (v1 : Value) (w2 : World) =>
  ∃ (b1 : Bool),
  v1 = Value.bool b1 ∧
  ((!b1) = true →
  K (Value.tuple { toList := [Value.slice none (0 : Nat) (0 : Nat), Value.int IntKind.i64 (1 : Int)] }) w2) ∧
  ((!b1) = false →
  ∃ (n6 : Int),
  ∃ (n7 : Int),
  ∃ (n8 : Int),
  ∃ (n9 : Int),
  ∃ (n10 : Int),
  (cellAt w2 (Addr.add (Addr.add a1 (0 : Nat)) (0 : Nat)) (Value.int IntKind.i64 n6) ∧
  cellAt w2 (Addr.add (Addr.add a1 (0 : Nat)) (1 : Nat)) (Value.int IntKind.i64 n7) ∧
  cellAt w2 (Addr.add (Addr.add a1 (0 : Nat)) (2 : Nat)) (Value.int IntKind.i64 n8) ∧
  cellAt w2 (Addr.add (Addr.add a1 (0 : Nat)) (3 : Nat)) (Value.int IntKind.i64 n9) ∧
  cellAt w2 (Addr.add (Addr.add a1 (0 : Nat)) (4 : Nat)) (Value.int IntKind.i64 n10)) ∧
  NewR (23 : Nat)
  [Value.int IntKind.i64 (0 : Int), Value.int IntKind.i64 (0 : Int), Value.int IntKind.i64 (0 : Int),
  Value.int IntKind.i64 (0 : Int), Value.int IntKind.i64 (0 : Int)]
  w2 fun (a2 : Addr) (w3 : World) =>
  StoreR a2
  [Value.int IntKind.i64 n6, Value.int IntKind.i64 n7, Value.int IntKind.i64 n8, Value.int IntKind.i64 n9,
  Value.int IntKind.i64 n10]
  w3 fun (w4 : World) =>
  ∃ (n11 : Int),
  cellAt w4 (Addr.add a2 (0 : Nat)) (Value.int IntKind.i64 n11) ∧
  NewR (3 : Nat) [Value.int IntKind.i64 n11] w4 fun (a3 : Addr) (w5 : World) =>
  Rets Try.prog (32 : Nat) { toList := [Value.slice none (0 : Nat) (0 : Nat), Value.slice (some a3) (1 : Nat) (1 : Nat)] }
  w5 fun (v2 : Value) (w6 : World) =>
  ∃ (q4 : Option Addr),
  ∃ (k7 : Nat),
  ∃ (k8 : Nat),
  v2 = Value.slice q4 k7 k8 ∧
  ∃ (n12 : Int),
  cellAt w6 (Addr.add a2 (1 : Nat)) (Value.int IntKind.i64 n12) ∧
  ∃ (n13 : Int),
  cellAt w6 (Addr.add a2 (3 : Nat)) (Value.int IntKind.i64 n13) ∧
  ∃ (n14 : Int),
  cellAt w6 (Addr.add a2 (4 : Nat)) (Value.int IntKind.i64 n14) ∧
  NewR (5 : Nat)
  [Value.int IntKind.u8 (IntKind.wrap IntKind.u8 (IntKind.wrap IntKind.i64 (n12 - (1 : Int)))),
  Value.int IntKind.u8 (IntKind.wrap IntKind.u8 (IntKind.wrap IntKind.i64 (n13 - (1 : Int)))),
  Value.int IntKind.u8 (IntKind.wrap IntKind.u8 n14)]
  w6 fun (a4 : Addr) (w7 : World) =>
  RunR Try.prog
  (builtinV Builtin.append { toList := [(35 : Nat), (35 : Nat)] } (nat_lit 35)
  { toList := [Value.slice q4 k7 k8, Value.slice (some a4) (3 : Nat) (3 : Nat)] })
  w7 fun (v3 : Value) (w8 : World) =>
  ∃ (q5 : Option Addr),
  ∃ (k9 : Nat),
  ∃ (k10 : Nat),
  v3 = Value.slice q5 k9 k10 ∧
  ∃ (h1 : List Value → World → Prop),
  (Drw w8 fun (w9 : World) =>
  ∃ (h2 : World → Prop),
  h2 w9 ∧
  ∃ (n15 : Int),
  (∀ (w10 : World), h2 w10 → World.cell? w10 (Addr.add a2 (2 : Nat)) = some (Value.int IntKind.i64 n15)) ∧
  ∃ (q6 : Option Addr),
  ∃ (k11 : Nat),
  ∃ (k12 : Nat),
  (∀ (w11 : World), h2 w11 → World.cell? w11 (Addr.add a1 (5 : Nat)) = some (Value.slice q6 k11 k12)) ∧
  (NewR (3 : Nat) [Value.int IntKind.i64 n15] w9 fun (a5 : Addr) (w12 : World) =>
  h2 w12 ∧
  (Rets Try.prog (32 : Nat) { toList := [Value.slice q5 k9 k10, Value.slice (some a5) (1 : Nat) (1 : Nat)] } w12
  fun (v4 : Value) (w13 : World) =>
  ∃ (q7 : Option Addr),
  ∃ (k13 : Nat),
  ∃ (k14 : Nat),
  v4 = Value.slice q7 k13 k14 ∧
  h2 w13 ∧
  NewR (5 : Nat) [Value.int IntKind.u8 (IntKind.wrap IntKind.u8 (↑k11 : Int))] w13 fun (a6 : Addr) (w14 : World) =>
  h2 w14 ∧
  RunR Try.prog
  (builtinV Builtin.append { toList := [(35 : Nat), (35 : Nat)] } (nat_lit 35)
  { toList := [Value.slice q7 k13 k14, Value.slice (some a6) (1 : Nat) (1 : Nat)] })
  w14 fun (v5 : Value) (w15 : World) =>
  ∃ (q8 : Option Addr), ∃ (k15 : Nat), ∃ (k16 : Nat), v5 = Value.slice q8 k15 k16 ∧ h1 [Value.slice q8 k15 k16] w15) ∧
  NewR (5 : Nat) [Value.int IntKind.u8 (IntKind.wrap IntKind.u8 (↑k11 : Int))] w12 fun (a7 : Addr) (w16 : World) =>
  h2 w16 ∧
  Rets Try.prog (32 : Nat) { toList := [Value.slice q5 k9 k10, Value.slice (some a5) (1 : Nat) (1 : Nat)] } w16
  fun (v6 : Value) (w17 : World) =>
  ∃ (q9 : Option Addr),
  ∃ (k17 : Nat),
  ∃ (k18 : Nat),
  v6 = Value.slice q9 k17 k18 ∧
  h2 w17 ∧
  RunR Try.prog
  (builtinV Builtin.append { toList := [(35 : Nat), (35 : Nat)] } (nat_lit 35)
  { toList := [Value.slice q9 k17 k18, Value.slice (some a7) (1 : Nat) (1 : Nat)] })
  w17 fun (v7 : Value) (w18 : World) =>
  ∃ (q10 : Option Addr), ∃ (k19 : Nat), ∃ (k20 : Nat), v7 = Value.slice q10 k19 k20 ∧ h1 [Value.slice q10 k19 k20] w18) ∧
  NewR (5 : Nat) [Value.int IntKind.u8 (IntKind.wrap IntKind.u8 (↑k11 : Int))] w9 fun (a8 : Addr) (w19 : World) =>
  h2 w19 ∧
  NewR (3 : Nat) [Value.int IntKind.i64 n15] w19 fun (a9 : Addr) (w20 : World) =>
  h2 w20 ∧
  Rets Try.prog (32 : Nat) { toList := [Value.slice q5 k9 k10, Value.slice (some a9) (1 : Nat) (1 : Nat)] } w20
  fun (v8 : Value) (w21 : World) =>
  ∃ (q11 : Option Addr),
  ∃ (k21 : Nat),
  ∃ (k22 : Nat),
  v8 = Value.slice q11 k21 k22 ∧
  h2 w21 ∧
  RunR Try.prog
  (builtinV Builtin.append { toList := [(35 : Nat), (35 : Nat)] } (nat_lit 35)
  { toList := [Value.slice q11 k21 k22, Value.slice (some a8) (1 : Nat) (1 : Nat)] })
  w21 fun (v9 : Value) (w22 : World) =>
  ∃ (q12 : Option Addr), ∃ (k23 : Nat), ∃ (k24 : Nat), v9 = Value.slice q12 k23 k24 ∧ h1 [Value.slice q12 k23 k24] w22) ∧
  ∀ (w23 : World) (q13 : Option Addr) (k25 k26 : Nat) (v10 v11 v12 v13 v14 v15 v16 v17 v18 v19 v20 : Value),
  h1 [Value.slice q13 k25 k26] w23 →
  ∃ (q14 : Option Addr),
  ∃ (k27 : Nat),
  ∃ (k28 : Nat),
  cellAt w23 (Addr.add a1 (5 : Nat)) (Value.slice q14 k27 k28) ∧
  ∃ (h3 : Nat → List Value → World → Prop),
  (∃ (k29 : Nat), h3 k29 [Value.slice q13 k25 k26, Value.int IntKind.i64 (0 : Int)] w23) ∧
  ∀ (k30 : Nat) (w24 : World) (q15 : Option Addr) (k31 k32 : Nat) (v21 : Value) (n16 : Int)
  (v22 v23 v24 v25 v26 v27 v28 v29 v30 v31 : Value),
  h3 k30 [Value.slice q15 k31 k32, Value.int IntKind.i64 n16] w24 →
  (decide (n16 < (↑k27 : Int)) = true →
  (0 : Int) ≤ n16 ∧
  n16 < (↑k27 : Int) ∧
  someR q14 fun (a10 : Addr) =>
  ∃ (q16 : Option Addr),
  ∃ (k33 : Nat),
  ∃ (k34 : Nat),
  cellAt w24 (Addr.add a10 (Int.toNat n16 * (1 : Nat))) (Value.slice q16 k33 k34) ∧
  Rets Try.prog (33 : Nat) { toList := [Value.slice q15 k31 k32, Value.slice q16 k33 k34] } w24
  fun (v32 : Value) (w25 : World) =>
  ∃ (q17 : Option Addr),
  ∃ (k35 : Nat),
  ∃ (k36 : Nat),
  ∃ (b2 : Bool),
  v32 = Value.tuple { toList := [Value.slice q17 k35 k36, Value.bool b2] } ∧
  ∃ (k37 : Nat),
  k37 < k30 ∧ h3 k37 [Value.slice q17 k35 k36, Value.int IntKind.i64 (IntKind.wrap IntKind.i64 (n16 + (1 : Int)))] w25) ∧
  (decide (n16 < (↑k27 : Int)) = false →
  Drw w24 fun (w26 : World) =>
  ∃ (h4 : World → Prop),
  h4 w26 ∧
  ∃ (q18 : Option Addr),
  ∃ (k38 : Nat),
  ∃ (k39 : Nat),
  (∀ (w27 : World), h4 w27 → World.cell? w27 (Addr.add a1 (7 : Nat)) = some (Value.slice q18 k38 k39)) ∧
  ∃ (q19 : Option Addr),
  ∃ (k40 : Nat),
  ∃ (k41 : Nat),
  (∀ (w28 : World), h4 w28 → World.cell? w28 (Addr.add a1 (7 : Nat)) = some (Value.slice q19 k40 k41)) ∧
  NewR (5 : Nat) [Value.int IntKind.u8 (IntKind.wrap IntKind.u8 (↑k38 : Int))] w26 fun (a11 : Addr) (w29 : World) =>
  h4 w29 ∧
  RunR Try.prog
  (builtinV Builtin.append { toList := [(35 : Nat), (35 : Nat)] } (nat_lit 35)
  { toList := [Value.slice q15 k31 k32, Value.slice (some a11) (1 : Nat) (1 : Nat)] })
  w29 fun (v33 : Value) (w30 : World) =>
  ∃ (q20 : Option Addr),
  ∃ (k42 : Nat),
  ∃ (k43 : Nat),
  v33 = Value.slice q20 k42 k43 ∧
  h4 w30 ∧
  Rets Try.prog (32 : Nat) { toList := [Value.slice q20 k42 k43, Value.slice q19 k40 k41] } w30
  fun (v34 : Value) (w31 : World) =>
  ∃ (q21 : Option Addr),
  ∃ (k44 : Nat),
  ∃ (k45 : Nat),
  v34 = Value.slice q21 k44 k45 ∧
  ∃ (q22 : Option Addr),
  ∃ (k46 : Nat),
  ∃ (k47 : Nat),
  cellAt w31 (Addr.add a1 (6 : Nat)) (Value.slice q22 k46 k47) ∧
  ∃ (h5 : Nat → List Value → World → Prop),
  (∃ (k48 : Nat), h5 k48 [Value.slice q21 k44 k45, Value.int IntKind.i64 (0 : Int)] w31) ∧
  ∀ (k49 : Nat) (w32 : World) (q23 : Option Addr) (k50 k51 : Nat) (v35 : Value) (n17 : Int)
  (v36 v37 v38 v39 v40 v41 v42 v43 v44 : Value),
  h5 k49 [Value.slice q23 k50 k51, Value.int IntKind.i64 n17] w32 →
  (decide (n17 < (↑k46 : Int)) = true →
  (0 : Int) ≤ n17 ∧
  n17 < (↑k46 : Int) ∧
  someR q22 fun (a12 : Addr) =>
  ∃ (n18 : Int),
  cellAt w32 (Addr.add a12 (Int.toNat n17 * (1 : Nat))) (Value.int IntKind.i64 n18) ∧
  NewR (5 : Nat) [Value.int IntKind.u8 (IntKind.wrap IntKind.u8 n18)] w32 fun (a13 : Addr) (w33 : World) =>
  RunR Try.prog
  (builtinV Builtin.append { toList := [(35 : Nat), (35 : Nat)] } (nat_lit 35)
  { toList := [Value.slice q23 k50 k51, Value.slice (some a13) (1 : Nat) (1 : Nat)] })
  w33 fun (v45 : Value) (w34 : World) =>
  ∃ (q24 : Option Addr),
  ∃ (k52 : Nat),
  ∃ (k53 : Nat),
  v45 = Value.slice q24 k52 k53 ∧
  ∃ (k54 : Nat),
  k54 < k49 ∧ h5 k54 [Value.slice q24 k52 k53, Value.int IntKind.i64 (IntKind.wrap IntKind.i64 (n17 + (1 : Int)))] w34) ∧
  (decide (n17 < (↑k46 : Int)) = false →
  (decide ((↑k50 : Int) > (16384 : Int)) = true →
  K (Value.tuple { toList := [Value.slice none (0 : Nat) (0 : Nat), Value.int IntKind.i64 (4 : Int)] }) w32) ∧
  (decide ((↑k50 : Int) > (16384 : Int)) = false →
  K (Value.tuple { toList := [Value.slice q23 k50 k51, Value.int IntKind.i64 (0 : Int)] }) w32))))
theorem script_Bytes_eq (x0 x1 x2 x3 x4 : Int) (xq : Option Addr) (xl xc : Nat) (xr : Option Addr) (xm xd : Nat) (xt : Option Addr) (xn xe : Nat) (w : World) (K : Value → World → Prop) : fw Try.prog Try.f15 (annL [(2, [(5, some 35), (7, none), (47, some 3), (48, none), (49, none), (50, none), (51, none), (52, none), (53, none), (54, none), (55, none), (56, none), (57, none)]), (6, [(5, some 35), (9, none), (71, some 3), (72, none), (73, none), (74, none), (75, none), (76, none), (77, none), (78, none), (79, none), (80, none)])]) (ordL [(2000006, [(5, 36), (33, 0), (34, 0), (35, 0), (36, 0), (37, 0), (38, 0), (39, 0), (40, 0), (41, 0), (42, 0), (43, 0)]), (6, [(0, 0), (1, 0), (5, 0), (2, 1), (6, 1), (7, 0), (8, 0), (0, 6), (3, 2), (0, 6), (4, 2), (9, 2), (10, 3), (11, 0), (0, 7), (9, 2), (4, 2), (10, 3), (11, 0), (0, 7), (9, 2), (3, 2), (4, 2), (10, 3), (11, 0), (0, 7)]), (12, [(0, 0), (1, 0), (7, 0), (2, 1), (3, 0), (4, 0), (8, 1), (5, 2), (6, 2), (9, 3), (10, 0)])]) [.agg #[.int .i64 x0, .int .i64 x1, .int .i64 x2, .int .i64 x3, .int .i64 x4, .slice xq xl xc, .slice xr xm xd, .slice xt xn xe]] w K = script_Bytes_m x0 x1 x2 x3 x4 xq xl xc xr xm xd xt xn xe w K := by kernel_rfl
theorem script_Bytes_go (x0 x1 x2 x3 x4 : Int) (xq : Option Addr) (xl xc : Nat) (xr : Option Addr) (xm xd : Nat) (xt : Option Addr) (xn xe : Nat) {w : World} {K : Value → World → Prop} (h : script_Bytes_m x0 x1 x2 x3 x4 xq xl xc xr xm xd xt xn xe w K) : Rets Try.prog 15 #[.agg #[.int .i64 x0, .int .i64 x1, .int .i64 x2, .int .i64 x3, .int .i64 x4, .slice xq xl xc, .slice xr xm xd, .slice xt xn xe]] w K :=
  calls_of_fw plain mixed Try.func15 (by kernel_rfl) (by rw [script_Bytes_eq]; exact h)
def cortadoref18_Bytes_m (x0 x1 x2 x3 x4 : Int) (xq : Option Addr) (xl xc : Nat) (xr : Option Addr) (xm xd : Nat) (xt : Option Addr) (xn xe : Nat) (w : World) (K : Value → World → Prop) : Prop :=
  NewR (27 : Nat)
  [Value.int IntKind.i64 x0, Value.int IntKind.i64 x1, Value.int IntKind.i64 x2, Value.int IntKind.i64 x3,
  Value.int IntKind.i64 x4, Value.slice xq xl xc, Value.slice xr xm xd, Value.slice xt xn xe]
  w fun (a1 : Addr) (w1 : World) =>
  ∃ (n1 : Int),
  ∃ (n2 : Int),
  ∃ (n3 : Int),
  ∃ (n4 : Int),
  ∃ (n5 : Int),
  (cellAt w1 (Addr.add (Addr.add a1 (0 : Nat)) (0 : Nat)) (Value.int IntKind.i64 n1) ∧
  cellAt w1 (Addr.add (Addr.add a1 (0 : Nat)) (1 : Nat)) (Value.int IntKind.i64 n2) ∧
  cellAt w1 (Addr.add (Addr.add a1 (0 : Nat)) (2 : Nat)) (Value.int IntKind.i64 n3) ∧
  cellAt w1 (Addr.add (Addr.add a1 (0 : Nat)) (3 : Nat)) (Value.int IntKind.i64 n4) ∧
  cellAt w1 (Addr.add (Addr.add a1 (0 : Nat)) (4 : Nat)) (Value.int IntKind.i64 n5)) ∧
  NewR (23 : Nat)
  [Value.int IntKind.i64 (0 : Int), Value.int IntKind.i64 (0 : Int), Value.int IntKind.i64 (0 : Int),
  Value.int IntKind.i64 (0 : Int), Value.int IntKind.i64 (0 : Int)]
  w1 fun (a2 : Addr) (w2 : World) =>
  StoreR a2
  [Value.int IntKind.i64 n1, Value.int IntKind.i64 n2, Value.int IntKind.i64 n3, Value.int IntKind.i64 n4,
  Value.int IntKind.i64 n5]
  w2 fun (w3 : World) =>
  ∃ (n6 : Int),
  cellAt w3 (Addr.add a2 (0 : Nat)) (Value.int IntKind.i64 n6) ∧
  NewR (3 : Nat) [Value.int IntKind.i64 n6] w3 fun (a3 : Addr) (w4 : World) =>
  Rets Try.prog (34 : Nat) { toList := [Value.slice (some a3) (1 : Nat) (1 : Nat)] } w4 fun (v1 : Value) (w5 : World) =>
  ∃ (q1 : Option Addr),
  ∃ (k1 : Nat),
  ∃ (k2 : Nat),
  v1 = Value.slice q1 k1 k2 ∧
  ∃ (n7 : Int),
  cellAt w5 (Addr.add a2 (1 : Nat)) (Value.int IntKind.i64 n7) ∧
  ∃ (n8 : Int),
  cellAt w5 (Addr.add a2 (3 : Nat)) (Value.int IntKind.i64 n8) ∧
  ∃ (n9 : Int),
  cellAt w5 (Addr.add a2 (4 : Nat)) (Value.int IntKind.i64 n9) ∧
  NewR (5 : Nat)
  [Value.int IntKind.u8 (IntKind.wrap IntKind.u8 (IntKind.wrap IntKind.i64 (n7 - (1 : Int)))),
  Value.int IntKind.u8 (IntKind.wrap IntKind.u8 (IntKind.wrap IntKind.i64 (n8 - (1 : Int)))),
  Value.int IntKind.u8 (IntKind.wrap IntKind.u8 n9)]
  w5 fun (a4 : Addr) (w6 : World) =>
  RunR Try.prog
  (builtinV Builtin.append { toList := [(35 : Nat), (35 : Nat)] } (nat_lit 35)
  { toList := [Value.slice q1 k1 k2, Value.slice (some a4) (3 : Nat) (3 : Nat)] })
  w6 fun (v2 : Value) (w7 : World) =>
  ∃ (q2 : Option Addr),
  ∃ (k3 : Nat),
  ∃ (k4 : Nat),
  v2 = Value.slice q2 k3 k4 ∧
  ∃ (n10 : Int),
  cellAt w7 (Addr.add a2 (2 : Nat)) (Value.int IntKind.i64 n10) ∧
  NewR (3 : Nat) [Value.int IntKind.i64 n10] w7 fun (a5 : Addr) (w8 : World) =>
  Rets Try.prog (34 : Nat) { toList := [Value.slice (some a5) (1 : Nat) (1 : Nat)] } w8 fun (v3 : Value) (w9 : World) =>
  ∃ (q3 : Option Addr),
  ∃ (k5 : Nat),
  ∃ (k6 : Nat),
  v3 = Value.slice q3 k5 k6 ∧
  RunR Try.prog
  (builtinV Builtin.append { toList := [(35 : Nat), (35 : Nat)] } (nat_lit 35)
  { toList := [Value.slice q2 k3 k4, Value.slice q3 k5 k6] })
  w9 fun (v4 : Value) (w10 : World) =>
  ∃ (q4 : Option Addr),
  ∃ (k7 : Nat),
  ∃ (k8 : Nat),
  v4 = Value.slice q4 k7 k8 ∧
  ∃ (q5 : Option Addr),
  ∃ (k9 : Nat),
  ∃ (k10 : Nat),
  cellAt w10 (Addr.add a1 (5 : Nat)) (Value.slice q5 k9 k10) ∧
  NewR (5 : Nat) [Value.int IntKind.u8 (IntKind.wrap IntKind.u8 (↑k9 : Int))] w10 fun (a6 : Addr) (w11 : World) =>
  RunR Try.prog
  (builtinV Builtin.append { toList := [(35 : Nat), (35 : Nat)] } (nat_lit 35)
  { toList := [Value.slice q4 k7 k8, Value.slice (some a6) (1 : Nat) (1 : Nat)] })
  w11 fun (v5 : Value) (w12 : World) =>
  ∃ (q6 : Option Addr),
  ∃ (k11 : Nat),
  ∃ (k12 : Nat),
  v5 = Value.slice q6 k11 k12 ∧
  ∃ (h1 : Nat → List Value → World → Prop),
  (∃ (k13 : Nat), h1 k13 [Value.slice q6 k11 k12, Value.int IntKind.i64 (0 : Int)] w12) ∧
  ∀ (k14 : Nat) (w13 : World) (q7 : Option Addr) (k15 k16 : Nat) (n11 : Int)
  (v6 v7 v8 v9 v10 v11 v12 v13 v14 v15 v16 v17 v18 v19 v20 : Value),
  h1 k14 [Value.slice q7 k15 k16, Value.int IntKind.i64 n11] w13 →
  ∃ (q8 : Option Addr),
  ∃ (k17 : Nat),
  ∃ (k18 : Nat),
  cellAt w13 (Addr.add a1 (5 : Nat)) (Value.slice q8 k17 k18) ∧
  (decide (n11 < (↑k17 : Int)) = true →
  ∃ (q9 : Option Addr),
  ∃ (k19 : Nat),
  ∃ (k20 : Nat),
  cellAt w13 (Addr.add a1 (5 : Nat)) (Value.slice q9 k19 k20) ∧
  (0 : Int) ≤ n11 ∧
  n11 < (↑k19 : Int) ∧
  someR q9 fun (a7 : Addr) =>
  ∃ (q10 : Option Addr),
  ∃ (k21 : Nat),
  ∃ (k22 : Nat),
  cellAt w13 (Addr.add a7 (Int.toNat n11 * (1 : Nat))) (Value.slice q10 k21 k22) ∧
  Rets Try.prog (35 : Nat) { toList := [Value.slice q10 k21 k22] } w13 fun (v21 : Value) (w14 : World) =>
  ∃ (q11 : Option Addr),
  ∃ (k23 : Nat),
  ∃ (k24 : Nat),
  v21 = Value.slice q11 k23 k24 ∧
  RunR Try.prog
  (builtinV Builtin.append { toList := [(35 : Nat), (35 : Nat)] } (nat_lit 35)
  { toList := [Value.slice q7 k15 k16, Value.slice q11 k23 k24] })
  w14 fun (v22 : Value) (w15 : World) =>
  ∃ (q12 : Option Addr),
  ∃ (k25 : Nat),
  ∃ (k26 : Nat),
  v22 = Value.slice q12 k25 k26 ∧
  ∃ (k27 : Nat),
  k27 < k14 ∧ h1 k27 [Value.slice q12 k25 k26, Value.int IntKind.i64 (IntKind.wrap IntKind.i64 (n11 + (1 : Int)))] w15) ∧
  (decide (n11 < (↑k17 : Int)) = false →
  ∃ (q13 : Option Addr),
  ∃ (k28 : Nat),
  ∃ (k29 : Nat),
  cellAt w13 (Addr.add a1 (7 : Nat)) (Value.slice q13 k28 k29) ∧
  NewR (5 : Nat) [Value.int IntKind.u8 (IntKind.wrap IntKind.u8 (↑k28 : Int))] w13 fun (a8 : Addr) (w16 : World) =>
  RunR Try.prog
  (builtinV Builtin.append { toList := [(35 : Nat), (35 : Nat)] } (nat_lit 35)
  { toList := [Value.slice q7 k15 k16, Value.slice (some a8) (1 : Nat) (1 : Nat)] })
  w16 fun (v23 : Value) (w17 : World) =>
  ∃ (q14 : Option Addr),
  ∃ (k30 : Nat),
  ∃ (k31 : Nat),
  v23 = Value.slice q14 k30 k31 ∧
  ∃ (q15 : Option Addr),
  ∃ (k32 : Nat),
  ∃ (k33 : Nat),
  cellAt w17 (Addr.add a1 (7 : Nat)) (Value.slice q15 k32 k33) ∧
  Rets Try.prog (34 : Nat) { toList := [Value.slice q15 k32 k33] } w17 fun (v24 : Value) (w18 : World) =>
  ∃ (q16 : Option Addr),
  ∃ (k34 : Nat),
  ∃ (k35 : Nat),
  v24 = Value.slice q16 k34 k35 ∧
  RunR Try.prog
  (builtinV Builtin.append { toList := [(35 : Nat), (35 : Nat)] } (nat_lit 35)
  { toList := [Value.slice q14 k30 k31, Value.slice q16 k34 k35] })
  w18 fun (v25 : Value) (w19 : World) =>
  ∃ (q17 : Option Addr),
  ∃ (k36 : Nat),
  ∃ (k37 : Nat),
  v25 = Value.slice q17 k36 k37 ∧
  ∃ (h2 : Nat → List Value → World → Prop),
  (∃ (k38 : Nat), h2 k38 [Value.slice q17 k36 k37, Value.int IntKind.i64 (0 : Int)] w19) ∧
  ∀ (k39 : Nat) (w20 : World) (q18 : Option Addr) (k40 k41 : Nat) (n12 : Int)
  (v26 v27 v28 v29 v30 v31 v32 v33 v34 v35 v36 v37 v38 v39 v40 v41 : Value),
  h2 k39 [Value.slice q18 k40 k41, Value.int IntKind.i64 n12] w20 →
  ∃ (q19 : Option Addr),
  ∃ (k42 : Nat),
  ∃ (k43 : Nat),
  cellAt w20 (Addr.add a1 (6 : Nat)) (Value.slice q19 k42 k43) ∧
  (decide (n12 < (↑k42 : Int)) = true →
  ∃ (q20 : Option Addr),
  ∃ (k44 : Nat),
  ∃ (k45 : Nat),
  cellAt w20 (Addr.add a1 (6 : Nat)) (Value.slice q20 k44 k45) ∧
  (0 : Int) ≤ n12 ∧
  n12 < (↑k44 : Int) ∧
  someR q20 fun (a9 : Addr) =>
  ∃ (n13 : Int),
  cellAt w20 (Addr.add a9 (Int.toNat n12 * (1 : Nat))) (Value.int IntKind.i64 n13) ∧
  NewR (5 : Nat) [Value.int IntKind.u8 (IntKind.wrap IntKind.u8 n13)] w20 fun (a10 : Addr) (w21 : World) =>
  RunR Try.prog
  (builtinV Builtin.append { toList := [(35 : Nat), (35 : Nat)] } (nat_lit 35)
  { toList := [Value.slice q18 k40 k41, Value.slice (some a10) (1 : Nat) (1 : Nat)] })
  w21 fun (v42 : Value) (w22 : World) =>
  ∃ (q21 : Option Addr),
  ∃ (k46 : Nat),
  ∃ (k47 : Nat),
  v42 = Value.slice q21 k46 k47 ∧
  ∃ (k48 : Nat),
  k48 < k39 ∧ h2 k48 [Value.slice q21 k46 k47, Value.int IntKind.i64 (IntKind.wrap IntKind.i64 (n12 + (1 : Int)))] w22) ∧
  (decide (n12 < (↑k42 : Int)) = false → K (Value.slice q18 k40 k41) w20))
theorem cortadoref18_Bytes_eq (x0 x1 x2 x3 x4 : Int) (xq : Option Addr) (xl xc : Nat) (xr : Option Addr) (xm xd : Nat) (xt : Option Addr) (xn xe : Nat) (w : World) (K : Value → World → Prop) : fw Try.prog Try.f16 (annL [(1, [(4, some 35), (5, some 3), (40, none), (41, none), (42, none), (43, none), (44, none), (45, none), (46, none), (47, none), (48, none), (49, none), (50, none), (51, none), (52, none), (53, none), (54, none)]), (5, [(4, some 35), (6, some 3), (67, none), (68, none), (69, none), (70, none), (71, none), (72, none), (73, none), (74, none), (75, none), (76, none), (77, none), (78, none), (79, none), (80, none), (81, none), (82, none)])]) (ordL []) [.agg #[.int .i64 x0, .int .i64 x1, .int .i64 x2, .int .i64 x3, .int .i64 x4, .slice xq xl xc, .slice xr xm xd, .slice xt xn xe]] w K = cortadoref18_Bytes_m x0 x1 x2 x3 x4 xq xl xc xr xm xd xt xn xe w K := by kernel_rfl
theorem cortadoref18_Bytes_go (x0 x1 x2 x3 x4 : Int) (xq : Option Addr) (xl xc : Nat) (xr : Option Addr) (xm xd : Nat) (xt : Option Addr) (xn xe : Nat) {w : World} {K : Value → World → Prop} (h : cortadoref18_Bytes_m x0 x1 x2 x3 x4 xq xl xc xr xm xd xt xn xe w K) : Rets Try.prog 16 #[.agg #[.int .i64 x0, .int .i64 x1, .int .i64 x2, .int .i64 x3, .int .i64 x4, .slice xq xl xc, .slice xr xm xd, .slice xt xn xe]] w K :=
  calls_of_fw plain mixed Try.func16 (by kernel_rfl) (by rw [cortadoref18_Bytes_eq]; exact h)
def cortadolaw18_few_m (x0 x1 x2 x3 x4 : Int) (xq : Option Addr) (xl xc : Nat) (xr : Option Addr) (xm xd : Nat) (xt : Option Addr) (xn xe : Nat) (w : World) (K : Value → World → Prop) : Prop :=
  NewR (27 : Nat)
  [Value.int IntKind.i64 x0, Value.int IntKind.i64 x1, Value.int IntKind.i64 x2, Value.int IntKind.i64 x3,
  Value.int IntKind.i64 x4, Value.slice xq xl xc, Value.slice xr xm xd, Value.slice xt xn xe]
  w fun (a1 : Addr) (w1 : World) =>
  ∃ (h1 : Nat → List Value → World → Prop),
  (∃ (k1 : Nat), h1 k1 [Value.int IntKind.i64 (0 : Int)] w1) ∧
  ∀ (k2 : Nat) (w2 : World) (v1 : Value) (n1 : Int)
  (v2 v3 v4 v5 v6 v7 v8 v9 v10 v11 v12 v13 v14 v15 v16 v17 v18 v19 : Value),
  h1 k2 [Value.int IntKind.i64 n1] w2 →
  ∃ (q1 : Option Addr),
  ∃ (k3 : Nat),
  ∃ (k4 : Nat),
  cellAt w2 (Addr.add a1 (5 : Nat)) (Value.slice q1 k3 k4) ∧
  (decide (n1 < (↑k3 : Int)) = true →
  (decide (n1 < (10 : Int)) = true →
  ∃ (q2 : Option Addr),
  ∃ (k5 : Nat),
  ∃ (k6 : Nat),
  cellAt w2 (Addr.add a1 (5 : Nat)) (Value.slice q2 k5 k6) ∧
  (0 : Int) ≤ n1 ∧
  n1 < (↑k5 : Int) ∧
  someR q2 fun (a2 : Addr) =>
  ∃ (q3 : Option Addr),
  ∃ (k7 : Nat),
  ∃ (k8 : Nat),
  cellAt w2 (Addr.add a2 (Int.toNat n1 * (1 : Nat))) (Value.slice q3 k7 k8) ∧
  (decide ((↑k7 : Int) > (30 : Int)) = true → K (Value.bool false) w2) ∧
  (decide ((↑k7 : Int) > (30 : Int)) = false →
  ∃ (k9 : Nat), k9 < k2 ∧ h1 k9 [Value.int IntKind.i64 (IntKind.wrap IntKind.i64 (n1 + (1 : Int)))] w2)) ∧
  (decide (n1 < (10 : Int)) = false →
  ∃ (q4 : Option Addr),
  ∃ (k10 : Nat),
  ∃ (k11 : Nat),
  cellAt w2 (Addr.add a1 (5 : Nat)) (Value.slice q4 k10 k11) ∧
  (decide ((↑k10 : Int) ≤ (9 : Int)) = true →
  ∃ (q5 : Option Addr),
  ∃ (k12 : Nat),
  ∃ (k13 : Nat),
  cellAt w2 (Addr.add a1 (6 : Nat)) (Value.slice q5 k12 k13) ∧
  (decide ((↑k12 : Int) ≤ (5000 : Int)) = true →
  ∃ (q6 : Option Addr),
  ∃ (k14 : Nat),
  ∃ (k15 : Nat),
  cellAt w2 (Addr.add a1 (7 : Nat)) (Value.slice q6 k14 k15) ∧ K (Value.bool (decide ((↑k14 : Int) ≤ (300 : Int)))) w2) ∧
  (decide ((↑k12 : Int) ≤ (5000 : Int)) = false → K (Value.bool false) w2)) ∧
  (decide ((↑k10 : Int) ≤ (9 : Int)) = false → K (Value.bool false) w2))) ∧
  (decide (n1 < (↑k3 : Int)) = false →
  ∃ (q7 : Option Addr),
  ∃ (k16 : Nat),
  ∃ (k17 : Nat),
  cellAt w2 (Addr.add a1 (5 : Nat)) (Value.slice q7 k16 k17) ∧
  (decide ((↑k16 : Int) ≤ (9 : Int)) = true →
  ∃ (q8 : Option Addr),
  ∃ (k18 : Nat),
  ∃ (k19 : Nat),
  cellAt w2 (Addr.add a1 (6 : Nat)) (Value.slice q8 k18 k19) ∧
  (decide ((↑k18 : Int) ≤ (5000 : Int)) = true →
  ∃ (q9 : Option Addr),
  ∃ (k20 : Nat),
  ∃ (k21 : Nat),
  cellAt w2 (Addr.add a1 (7 : Nat)) (Value.slice q9 k20 k21) ∧ K (Value.bool (decide ((↑k20 : Int) ≤ (300 : Int)))) w2) ∧
  (decide ((↑k18 : Int) ≤ (5000 : Int)) = false → K (Value.bool false) w2)) ∧
  (decide ((↑k16 : Int) ≤ (9 : Int)) = false → K (Value.bool false) w2))
theorem cortadolaw18_few_eq (x0 x1 x2 x3 x4 : Int) (xq : Option Addr) (xl xc : Nat) (xr : Option Addr) (xm xd : Nat) (xt : Option Addr) (xn xe : Nat) (w : World) (K : Value → World → Prop) : fw Try.prog Try.f5 (annL [(1, [(2, none), (3, some 3), (4, none), (5, none), (6, none), (7, none), (8, none), (9, none), (10, none), (11, none), (12, none), (13, none), (14, none), (15, none), (16, none), (17, none), (18, none), (19, none), (20, none), (21, none)])]) (ordL []) [.agg #[.int .i64 x0, .int .i64 x1, .int .i64 x2, .int .i64 x3, .int .i64 x4, .slice xq xl xc, .slice xr xm xd, .slice xt xn xe]] w K = cortadolaw18_few_m x0 x1 x2 x3 x4 xq xl xc xr xm xd xt xn xe w K := by kernel_rfl
theorem cortadolaw18_few_go (x0 x1 x2 x3 x4 : Int) (xq : Option Addr) (xl xc : Nat) (xr : Option Addr) (xm xd : Nat) (xt : Option Addr) (xn xe : Nat) {w : World} {K : Value → World → Prop} (h : cortadolaw18_few_m x0 x1 x2 x3 x4 xq xl xc xr xm xd xt xn xe w K) : Rets Try.prog 5 #[.agg #[.int .i64 x0, .int .i64 x1, .int .i64 x2, .int .i64 x3, .int .i64 x4, .slice xq xl xc, .slice xr xm xd, .slice xt xn xe]] w K :=
  calls_of_fw plain mixed Try.func5 (by kernel_rfl) (by rw [cortadolaw18_few_eq]; exact h)
end Go.Proofs.Ytppmdifhoejhjaa.Eng
