/- What the code of these functions asks for: printed by a program of this session's (gens.py) out of the seat's own functions; the kernel checks each row. -/
import Derived.Test.YtipcbhaeoeghnaaDoorEngH
import Derived.Test.YtipcbhaeoeghnaaDoorProg
import Derived.Test.YtipcbhaeoeghnaaDoorBase
namespace Go.Proofs.YtipcbhaeoeghnaaDoor.Eng
open Go Go.Proofs
set_option linter.unusedVariables false
set_option maxRecDepth 1000000
def cortadolaw06_KeyPairs_m (n : Int) (q : Option Addr) (l c : Nat) (k : Int) (w : World) (K : Value → World → Prop) : Prop :=
  (decide ((↑l : Int) > (200 : Int)) = true →
  Rets Tryd.prog (16 : Nat) { toList := [] } w fun (v1 : Value) (w1 : World) =>
  ∃ (b1 : Bool), v1 = Value.bool b1 ∧ K (Value.bool b1) w1) ∧
  (decide ((↑l : Int) > (200 : Int)) = false →
  Rets Tryd.prog (17 : Nat) { toList := [Value.int IntKind.i64 n] } w fun (v2 : Value) (w2 : World) =>
  ∃ (n1 : Int),
  ∃ (n2 : Int),
  v2 = Value.agg { toList := [Value.int IntKind.u64 n1, Value.int IntKind.u64 n2] } ∧
  Rets Tryd.prog (18 : Nat) { toList := [Value.slice q l c] } w2 fun (v3 : Value) (w3 : World) =>
  ∃ (n3 : Int),
  ∃ (n4 : Int),
  v3 = Value.agg { toList := [Value.int IntKind.u64 n3, Value.int IntKind.u64 n4] } ∧
  NewR (35 : Nat) [Value.int IntKind.u64 (0 : Int), Value.int IntKind.u64 (0 : Int)] w3 fun (a1 : Addr) (w4 : World) =>
  NewR (35 : Nat) [Value.int IntKind.u64 (0 : Int), Value.int IntKind.u64 (0 : Int)] w4 fun (a2 : Addr) (w5 : World) =>
  StoreR a1 [Value.int IntKind.u64 n1, Value.int IntKind.u64 n2] w5 fun (w6 : World) =>
  StoreR a2 [Value.int IntKind.u64 n3, Value.int IntKind.u64 n4] w6 fun (w7 : World) =>
  Drw w7 fun (w8 : World) =>
  ∃ (h1 : World → Prop),
  h1 w8 ∧
  ∃ (n5 : Int),
  ∃ (n6 : Int),
  ((∀ (w9 : World), h1 w9 → World.cell? w9 (Addr.add a1 (0 : Nat)) = some (Value.int IntKind.u64 n5)) ∧
  ∀ (w10 : World), h1 w10 → World.cell? w10 (Addr.add a1 ((0 : Nat) + (1 : Nat))) = some (Value.int IntKind.u64 n6)) ∧
  Rets Tryd.prog (19 : Nat) { toList := [Value.int IntKind.i64 n] } w8 fun (v4 : Value) (w11 : World) =>
  ∃ (n7 : Int),
  ∃ (n8 : Int),
  v4 = Value.agg { toList := [Value.int IntKind.u64 n7, Value.int IntKind.u64 n8] } ∧
  h1 w11 ∧
  ((n5 == n7 && n6 == n8) = true →
  ∃ (n9 : Int),
  ∃ (n10 : Int),
  ((∀ (w12 : World), h1 w12 → World.cell? w12 (Addr.add a1 (0 : Nat)) = some (Value.int IntKind.u64 n9)) ∧
  ∀ (w13 : World), h1 w13 → World.cell? w13 (Addr.add a1 ((0 : Nat) + (1 : Nat))) = some (Value.int IntKind.u64 n10)) ∧
  Rets Tryd.prog (20 : Nat) { toList := [Value.int IntKind.u64 (IntKind.wrap IntKind.u64 n)] } w11
  fun (v5 : Value) (w14 : World) =>
  ∃ (n11 : Int),
  ∃ (n12 : Int),
  v5 = Value.agg { toList := [Value.int IntKind.u64 n11, Value.int IntKind.u64 n12] } ∧
  h1 w14 ∧
  ((n9 == n11 && n10 == n12) = true →
  ∃ (n13 : Int),
  ∃ (n14 : Int),
  ((∀ (w15 : World), h1 w15 → World.cell? w15 (Addr.add a2 (0 : Nat)) = some (Value.int IntKind.u64 n13)) ∧
  ∀ (w16 : World), h1 w16 → World.cell? w16 (Addr.add a2 ((0 : Nat) + (1 : Nat))) = some (Value.int IntKind.u64 n14)) ∧
  Rets Tryd.prog (21 : Nat) { toList := [Value.slice q l c] } w14 fun (v6 : Value) (w17 : World) =>
  ∃ (n15 : Int),
  ∃ (n16 : Int),
  v6 = Value.agg { toList := [Value.int IntKind.u64 n15, Value.int IntKind.u64 n16] } ∧
  h1 w17 ∧
  ((n13 == n15 && n14 == n16) = true →
  ∃ (v7 : Value),
  SameRun Tryd.prog h1 (convert (32 : Nat) (9 : Nat) (Value.slice q l c)) v7 ∧
  ∃ (s1 : ByteArray),
  v7 = Value.string s1 ∧
  ∃ (n17 : Int),
  ∃ (n18 : Int),
  ((∀ (w18 : World), h1 w18 → World.cell? w18 (Addr.add a2 (0 : Nat)) = some (Value.int IntKind.u64 n17)) ∧
  ∀ (w19 : World), h1 w19 → World.cell? w19 (Addr.add a2 ((0 : Nat) + (1 : Nat))) = some (Value.int IntKind.u64 n18)) ∧
  Rets Tryd.prog (22 : Nat) { toList := [Value.string s1] } w17 fun (v8 : Value) (w20 : World) =>
  ∃ (n19 : Int),
  ∃ (n20 : Int),
  v8 = Value.agg { toList := [Value.int IntKind.u64 n19, Value.int IntKind.u64 n20] } ∧
  h1 w20 ∧
  ((n19 == n17 && n20 == n18) = true →
  ∃ (n21 : Int),
  ∃ (n22 : Int),
  ((∀ (w21 : World), h1 w21 → World.cell? w21 (Addr.add a1 (0 : Nat)) = some (Value.int IntKind.u64 n21)) ∧
  ∀ (w22 : World), h1 w22 → World.cell? w22 (Addr.add a1 ((0 : Nat) + (1 : Nat))) = some (Value.int IntKind.u64 n22)) ∧
  ∃ (n23 : Int),
  ∃ (n24 : Int),
  ((∀ (w23 : World), h1 w23 → World.cell? w23 (Addr.add a1 (0 : Nat)) = some (Value.int IntKind.u64 n23)) ∧
  ∀ (w24 : World), h1 w24 → World.cell? w24 (Addr.add a1 ((0 : Nat) + (1 : Nat))) = some (Value.int IntKind.u64 n24)) ∧
  Rets Tryd.prog (23 : Nat)
  { toList := [Value.agg { toList := [Value.int IntKind.u64 n21, Value.int IntKind.u64 n22] }, Value.int IntKind.i64 k] }
  w20 fun (v9 : Value) (w25 : World) =>
  ∃ (n25 : Int),
  ∃ (n26 : Int),
  v9 = Value.agg { toList := [Value.int IntKind.u64 n25, Value.int IntKind.u64 n26] } ∧
  h1 w25 ∧
  Rets Tryd.prog (24 : Nat)
  { toList := [Value.agg { toList := [Value.int IntKind.u64 n23, Value.int IntKind.u64 n24] }, Value.int IntKind.i64 k] }
  w25 fun (v10 : Value) (w26 : World) =>
  ∃ (n27 : Int),
  ∃ (n28 : Int),
  v10 = Value.agg { toList := [Value.int IntKind.u64 n27, Value.int IntKind.u64 n28] } ∧
  h1 w26 ∧
  ((n25 == n27 && n26 == n28) = true →
  ∃ (n29 : Int),
  (∀ (w27 : World), h1 w27 → World.cell? w27 (Addr.add a2 (0 : Nat)) = some (Value.int IntKind.u64 n29)) ∧
  ∃ (n30 : Int),
  (∀ (w28 : World), h1 w28 → World.cell? w28 (Addr.add a2 (0 : Nat)) = some (Value.int IntKind.u64 n30)) ∧
  (256 : Int) ≠ (0 : Int) ∧
  Rets Tryd.prog (25 : Nat) { toList := [Value.int IntKind.u64 n29] } w26 fun (v11 : Value) (w29 : World) =>
  ∃ (n31 : Int),
  v11 = Value.int IntKind.i64 n31 ∧
  h1 w29 ∧
  ((n31 == IntKind.wrap IntKind.i64 (Int.tmod n30 (256 : Int))) = true →
  Rets Tryd.prog (16 : Nat) { toList := [] } w29 fun (v12 : Value) (w30 : World) =>
  ∃ (b2 : Bool), v12 = Value.bool b2 ∧ K (Value.bool b2) w30) ∧
  ((n31 == IntKind.wrap IntKind.i64 (Int.tmod n30 (256 : Int))) = false → K (Value.bool false) w29)) ∧
  ((n25 == n27 && n26 == n28) = false → K (Value.bool false) w26)) ∧
  ((n19 == n17 && n20 == n18) = false → K (Value.bool false) w20)) ∧
  ((n13 == n15 && n14 == n16) = false → K (Value.bool false) w17)) ∧
  ((n9 == n11 && n10 == n12) = false → K (Value.bool false) w14)) ∧
  ((n5 == n7 && n6 == n8) = false → K (Value.bool false) w11))
theorem cortadolaw06_KeyPairs_eq (n : Int) (q : Option Addr) (l c : Nat) (k : Int) (w : World) (K : Value → World → Prop) : fw Tryd.prog Tryd.f4 (annL []) (ordL [(4, [(1, 0), (0, 1), (2, 2), (3, 0), (4, 0), (6, 0), (7, 0), (5, 1), (8, 2), (9, 0), (10, 0), (11, 0), (13, 0), (12, 1), (14, 2), (15, 0), (16, 0), (17, 0), (18, 0), (19, 1), (21, 1), (20, 2), (22, 0), (23, 0), (24, 0), (26, 0), (29, 0), (25, 1), (28, 1), (27, 2), (30, 2), (31, 0), (32, 0), (33, 0), (34, 0), (37, 0), (35, 1), (38, 1), (39, 0), (40, 0), (36, 2), (41, 0), (42, 0), (43, 0), (44, 3), (45, 0), (46, 0)])]) [.int .i64 n, .slice q l c, .int .i64 k] w K = cortadolaw06_KeyPairs_m n q l c k w K := by kernel_rfl
theorem cortadolaw06_KeyPairs_go (n : Int) (q : Option Addr) (l c : Nat) (k : Int) {w : World} {K : Value → World → Prop} (h : cortadolaw06_KeyPairs_m n q l c k w K) : Rets Tryd.prog 4 #[.int .i64 n, .slice q l c, .int .i64 k] w K :=
  calls_of_fw plain mixed Tryd.func4 (by kernel_rfl) (by rw [cortadolaw06_KeyPairs_eq]; exact h)
end Go.Proofs.YtipcbhaeoeghnaaDoor.Eng
