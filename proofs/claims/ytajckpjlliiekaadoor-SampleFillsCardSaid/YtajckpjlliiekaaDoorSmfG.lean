/- What the code of these functions asks for: printed by a program of this session's (gens.py) out of the seat's own functions; the kernel checks each row. -/
import Derived.Test.YtajckpjlliiekaaDoorEngH
import Derived.Test.YtajckpjlliiekaaDoorProg
import Derived.Test.YtajckpjlliiekaaDoorBase
namespace Go.Proofs.YtajckpjlliiekaaDoor.Eng
open Go Go.Proofs
set_option linter.unusedVariables false
set_option maxRecDepth 1000000
def cortadolaw25_SampleFills_m (q : Option Addr) (l c : Nat) (q2 : Option Addr) (l2 c2 : Nat) (q3 : Option Addr) (l3 c3 : Nat) (w : World) (K : Value → World → Prop) : Prop :=
  (decide ((↑l : Int) > (30 : Int)) = false →
  (decide ((↑l2 : Int) > (10 : Int)) = true →
  Rets Tryd.prog (8 : Nat) { toList := [] } w fun (v1 : Value) (w1 : World) =>
  ∃ (b1 : Bool), v1 = Value.bool b1 ∧ K (Value.bool b1) w1) ∧
  (decide ((↑l2 : Int) > (10 : Int)) = false →
  Rets Tryd.prog (9 : Nat) { toList := [Value.slice q l c] } w fun (v2 : Value) (w2 : World) =>
  ∃ (q1 : Option Addr),
  ∃ (q2_1 : Option Addr),
  ∃ (k1 : Nat),
  ∃ (k2 : Nat),
  ∃ (n1 : Int),
  v2 =
  Value.tuple
  { toList := [Value.pointer q1, Value.agg { toList := [Value.slice q2_1 k1 k2, Value.int IntKind.i64 n1] }] } ∧
  NewR (29 : Nat) [Value.slice none (0 : Nat) (0 : Nat), Value.int IntKind.i64 (0 : Int)] w2
  fun (a1 : Addr) (w3 : World) =>
  StoreR a1 [Value.slice q2_1 k1 k2, Value.int IntKind.i64 n1] w3 fun (w4 : World) =>
  Rets Tryd.prog (11 : Nat) { toList := [Value.slice q3 l3 c3, Value.int IntKind.u64 (7 : Int)] } w4
  fun (v3 : Value) (w5 : World) =>
  ∃ (q3_1 : Option Addr),
  v3 = Value.pointer q3_1 ∧
  NewR (44 : Nat) [Value.slice q3 l3 c3, Value.int IntKind.u64 (7 : Int), Value.int IntKind.i64 (0 : Int)] w5
  fun (a2 : Addr) (w6 : World) =>
  Drw w6 fun (w7 : World) =>
  ∃ (h1 : World → Prop),
  h1 w7 ∧
  ∃ (q4 : Option Addr),
  ∃ (k3 : Nat),
  ∃ (k4 : Nat),
  ∃ (n2 : Int),
  ((∀ (w8 : World), h1 w8 → World.cell? w8 (Addr.add a1 (0 : Nat)) = some (Value.slice q4 k3 k4)) ∧
  ∀ (w9 : World), h1 w9 → World.cell? w9 (Addr.add a1 ((0 : Nat) + (1 : Nat))) = some (Value.int IntKind.i64 n2)) ∧
  Rets Tryd.prog (10 : Nat) { toList := [Value.pointer q1, Value.slice q2 l2 c2, Value.pointer q3_1] } w7
  fun (v4 : Value) (w10 : World) =>
  ∃ (q5 : Option Addr),
  ∃ (k5 : Nat),
  ∃ (k6 : Nat),
  v4 = Value.slice q5 k5 k6 ∧
  ∃ (h2 : World → Prop),
  (∀ (w11 : World), h2 w11 → h1 w11) ∧
  h2 w10 ∧
  Rets Tryd.prog (15 : Nat)
  {
  toList :=
  [Value.agg { toList := [Value.slice q4 k3 k4, Value.int IntKind.i64 n2] }, Value.slice q2 l2 c2,
  Value.pointer (some a2)] }
  w10 fun (v5 : Value) (w12 : World) =>
  ∃ (q6 : Option Addr),
  ∃ (k7 : Nat),
  ∃ (k8 : Nat),
  v5 = Value.slice q6 k7 k8 ∧
  ∃ (h3 : World → Prop),
  (∀ (w13 : World), h3 w13 → h2 w13) ∧
  h3 w12 ∧
  Rets Tryd.prog (14 : Nat) { toList := [Value.slice q5 k5 k6, Value.slice q6 k7 k8] } w12
  fun (v6 : Value) (w14 : World) =>
  ∃ (b2 : Bool),
  v6 = Value.bool b2 ∧
  ∃ (h4 : World → Prop),
  (∀ (w15 : World), h4 w15 → h3 w15) ∧
  h4 w14 ∧
  (b2 = true →
  ∃ (n3 : Int),
  (∀ (w16 : World), h4 w16 → World.cell? w16 (Addr.add a2 (2 : Nat)) = some (Value.int IntKind.i64 n3)) ∧
  Rets Tryd.prog (16 : Nat) { toList := [Value.pointer q3_1] } w14 fun (v7 : Value) (w17 : World) =>
  ∃ (n4 : Int),
  v7 = Value.int IntKind.i64 n4 ∧
  h4 w17 ∧
  ((n4 == n3) = true →
  Rets Tryd.prog (8 : Nat) { toList := [] } w17 fun (v8 : Value) (w18 : World) =>
  ∃ (b3 : Bool), v8 = Value.bool b3 ∧ K (Value.bool b3) w18) ∧
  ((n4 == n3) = false → K (Value.bool false) w17)) ∧
  (b2 = false → K (Value.bool false) w14))) ∧
  (decide ((↑l : Int) > (30 : Int)) = true →
  Rets Tryd.prog (8 : Nat) { toList := [] } w fun (v9 : Value) (w19 : World) =>
  ∃ (b4 : Bool), v9 = Value.bool b4 ∧ K (Value.bool b4) w19)
theorem cortadolaw25_SampleFills_eq (q : Option Addr) (l c : Nat) (q2 : Option Addr) (l2 c2 : Nat) (q3 : Option Addr) (l3 c3 : Nat) (w : World) (K : Value → World → Prop) : fw Tryd.prog Tryd.f4 (annL []) (ordL [(5, [(0, 0), (1, 0), (2, 0), (5, 0), (6, 0), (4, 1), (3, 4), (7, 4), (8, 4), (9, 0), (10, 0), (12, 0), (13, 0), (14, 0), (15, 1), (11, 2), (16, 0), (17, 0), (18, 0), (19, 3), (20, 0), (21, 0)])]) [.slice q l c, .slice q2 l2 c2, .slice q3 l3 c3] w K = cortadolaw25_SampleFills_m q l c q2 l2 c2 q3 l3 c3 w K := by kernel_rfl
theorem cortadolaw25_SampleFills_go (q : Option Addr) (l c : Nat) (q2 : Option Addr) (l2 c2 : Nat) (q3 : Option Addr) (l3 c3 : Nat) {w : World} {K : Value → World → Prop} (h : cortadolaw25_SampleFills_m q l c q2 l2 c2 q3 l3 c3 w K) : Rets Tryd.prog 4 #[.slice q l c, .slice q2 l2 c2, .slice q3 l3 c3] w K :=
  calls_of_fw plain mixed Tryd.func4 (by kernel_rfl) (by rw [cortadolaw25_SampleFills_eq]; exact h)
end Go.Proofs.YtajckpjlliiekaaDoor.Eng
