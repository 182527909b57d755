/- What the code of these functions asks for: printed by a program of this session's (gens.py) out of the seat's own functions; the kernel checks each row. -/
import Derived.Test.YtkcaeknkfgpnhaaEngH
import Derived.Test.YtkcaeknkfgpnhaaProg
import Derived.Test.YtkcaeknkfgpnhaaBase
namespace Go.Proofs.Ytkcaeknkfgpnhaa.Eng
open Go Go.Proofs
set_option linter.unusedVariables false
set_option maxRecDepth 1000000
def cost_Cut_m (n : Int) (w : World) (K : Value → World → Prop) : Prop :=
  K (Value.int IntKind.i64 (maxI (0 : Int) (minI n (4611686018427387904 : Int)))) w
theorem cost_Cut_eq (n : Int) (w : World) (K : Value → World → Prop) : fw Try.prog Try.f114 (annL []) (ordL []) [.int .i64 n] w K = cost_Cut_m n w K := by kernel_rfl
theorem cost_Cut_go (n : Int) {w : World} {K : Value → World → Prop} (h : cost_Cut_m n w K) : Rets Try.prog 114 #[.int .i64 n] w K :=
  calls_of_fw plain mixed Try.func114 (by kernel_rfl) (by rw [cost_Cut_eq]; exact h)
def script_cut_m (n a b : Int) (w : World) (K : Value → World → Prop) : Prop :=
  K (Value.int IntKind.i64 (maxI a (minI n b))) w
theorem script_cut_eq (n a b : Int) (w : World) (K : Value → World → Prop) : fw Try.prog Try.f115 (annL []) (ordL []) [.int .i64 n, .int .i64 a, .int .i64 b] w K = script_cut_m n a b w K := by kernel_rfl
theorem script_cut_go (n a b : Int) {w : World} {K : Value → World → Prop} (h : script_cut_m n a b w K) : Rets Try.prog 115 #[.int .i64 n, .int .i64 a, .int .i64 b] w K :=
  calls_of_fw plain mixed Try.func115 (by kernel_rfl) (by rw [script_cut_eq]; exact h)
def cortadoref18_cut_m (n a b : Int) (w : World) (K : Value → World → Prop) : Prop :=
  K (Value.int IntKind.i64 (maxI a (minI n b))) w
theorem cortadoref18_cut_eq (n a b : Int) (w : World) (K : Value → World → Prop) : fw Try.prog Try.f116 (annL []) (ordL []) [.int .i64 n, .int .i64 a, .int .i64 b] w K = cortadoref18_cut_m n a b w K := by kernel_rfl
theorem cortadoref18_cut_go (n a b : Int) {w : World} {K : Value → World → Prop} (h : cortadoref18_cut_m n a b w K) : Rets Try.prog 116 #[.int .i64 n, .int .i64 a, .int .i64 b] w K :=
  calls_of_fw plain mixed Try.func116 (by kernel_rfl) (by rw [cortadoref18_cut_eq]; exact h)
def script_Nearest_m (c0 c1 c2 c3 c4 : Int) (w : World) (K : Value → World → Prop) : Prop :=
  NewR (25 : Nat)
  [Value.int IntKind.i64 c0, Value.int IntKind.i64 c1, Value.int IntKind.i64 c2, Value.int IntKind.i64 c3,
  Value.int IntKind.i64 c4]
  w fun (a1 : Addr) (w1 : World) =>
  NewR (25 : Nat)
  [Value.int IntKind.i64 (0 : Int), Value.int IntKind.i64 (0 : Int), Value.int IntKind.i64 (0 : Int),
  Value.int IntKind.i64 (0 : Int), Value.int IntKind.i64 (0 : Int)]
  w1 fun (a2 : Addr) (w2 : World) =>
  Drw w2 fun (w3 : World) =>
  ∃ (h1 : World → Prop),
  h1 w3 ∧
  ∃ (n1 : Int),
  (∀ (w4 : World), h1 w4 → World.cell? w4 (Addr.add a1 (0 : Nat)) = some (Value.int IntKind.i64 n1)) ∧
  ∃ (n2 : Int),
  (∀ (w5 : World), h1 w5 → World.cell? w5 (Addr.add a1 (1 : Nat)) = some (Value.int IntKind.i64 n2)) ∧
  ∃ (n3 : Int),
  (∀ (w6 : World), h1 w6 → World.cell? w6 (Addr.add a1 (2 : Nat)) = some (Value.int IntKind.i64 n3)) ∧
  ∃ (n4 : Int),
  (∀ (w7 : World), h1 w7 → World.cell? w7 (Addr.add a1 (3 : Nat)) = some (Value.int IntKind.i64 n4)) ∧
  ∃ (n5 : Int),
  (∀ (w8 : World), h1 w8 → World.cell? w8 (Addr.add a1 (4 : Nat)) = some (Value.int IntKind.i64 n5)) ∧
  Rets Try.prog (114 : Nat) { toList := [Value.int IntKind.i64 n1] } w3 fun (v1 : Value) (w9 : World) =>
  ∃ (n6 : Int),
  v1 = Value.int IntKind.i64 n6 ∧
  h1 w9 ∧
  Rets Try.prog (115 : Nat)
  { toList := [Value.int IntKind.i64 n2, Value.int IntKind.i64 (1 : Int), Value.int IntKind.i64 (64 : Int)] } w9
  fun (v2 : Value) (w10 : World) =>
  ∃ (n7 : Int),
  v2 = Value.int IntKind.i64 n7 ∧
  h1 w10 ∧
  Rets Try.prog (115 : Nat)
  { toList := [Value.int IntKind.i64 n3, Value.int IntKind.i64 (1 : Int), Value.int IntKind.i64 (4096 : Int)] } w10
  fun (v3 : Value) (w11 : World) =>
  ∃ (n8 : Int),
  v3 = Value.int IntKind.i64 n8 ∧
  h1 w11 ∧
  Rets Try.prog (115 : Nat)
  { toList := [Value.int IntKind.i64 n4, Value.int IntKind.i64 (1 : Int), Value.int IntKind.i64 (16 : Int)] } w11
  fun (v4 : Value) (w12 : World) =>
  ∃ (n9 : Int),
  v4 = Value.int IntKind.i64 n9 ∧
  h1 w12 ∧
  Rets Try.prog (115 : Nat)
  { toList := [Value.int IntKind.i64 n5, Value.int IntKind.i64 (0 : Int), Value.int IntKind.i64 (64 : Int)] } w12
  fun (v5 : Value) (w13 : World) =>
  ∃ (n10 : Int),
  v5 = Value.int IntKind.i64 n10 ∧
  StoreR a2
  [Value.int IntKind.i64 n6, Value.int IntKind.i64 n7, Value.int IntKind.i64 n8, Value.int IntKind.i64 n9,
  Value.int IntKind.i64 n10]
  w13 fun (w14 : World) =>
  ∃ (n11 : Int),
  ∃ (n12 : Int),
  ∃ (n13 : Int),
  ∃ (n14 : Int),
  ∃ (n15 : Int),
  (cellAt w14 (Addr.add a2 (0 : Nat)) (Value.int IntKind.i64 n11) ∧
  cellAt w14 (Addr.add a2 (1 : Nat)) (Value.int IntKind.i64 n12) ∧
  cellAt w14 (Addr.add a2 (2 : Nat)) (Value.int IntKind.i64 n13) ∧
  cellAt w14 (Addr.add a2 (3 : Nat)) (Value.int IntKind.i64 n14) ∧
  cellAt w14 (Addr.add a2 (4 : Nat)) (Value.int IntKind.i64 n15)) ∧
  K
  (Value.agg
  {
  toList :=
  [Value.int IntKind.i64 n11, Value.int IntKind.i64 n12, Value.int IntKind.i64 n13, Value.int IntKind.i64 n14,
  Value.int IntKind.i64 n15] })
  w14
theorem script_Nearest_eq (c0 c1 c2 c3 c4 : Int) (w : World) (K : Value → World → Prop) : fw Try.prog Try.f52 (annL []) (ordL [(1, [(0, 0), (3, 0), (6, 0), (9, 0), (12, 0), (1, 1), (4, 1), (7, 1), (10, 1), (13, 1), (2, 2), (5, 2), (8, 2), (11, 2), (14, 3), (15, 0), (16, 3)])]) [.agg #[.int .i64 c0, .int .i64 c1, .int .i64 c2, .int .i64 c3, .int .i64 c4]] w K = script_Nearest_m c0 c1 c2 c3 c4 w K := by kernel_rfl
theorem script_Nearest_go (c0 c1 c2 c3 c4 : Int) {w : World} {K : Value → World → Prop} (h : script_Nearest_m c0 c1 c2 c3 c4 w K) : Rets Try.prog 52 #[.agg #[.int .i64 c0, .int .i64 c1, .int .i64 c2, .int .i64 c3, .int .i64 c4]] w K :=
  calls_of_fw plain mixed Try.func52 (by kernel_rfl) (by rw [script_Nearest_eq]; exact h)
def cortadoref18_Nearest_m (c0 c1 c2 c3 c4 : Int) (w : World) (K : Value → World → Prop) : Prop :=
  NewR (25 : Nat)
  [Value.int IntKind.i64 c0, Value.int IntKind.i64 c1, Value.int IntKind.i64 c2, Value.int IntKind.i64 c3,
  Value.int IntKind.i64 c4]
  w fun (a1 : Addr) (w1 : World) =>
  NewR (25 : Nat)
  [Value.int IntKind.i64 (0 : Int), Value.int IntKind.i64 (0 : Int), Value.int IntKind.i64 (0 : Int),
  Value.int IntKind.i64 (0 : Int), Value.int IntKind.i64 (0 : Int)]
  w1 fun (a2 : Addr) (w2 : World) =>
  Drw w2 fun (w3 : World) =>
  ∃ (h1 : World → Prop),
  h1 w3 ∧
  ∃ (n1 : Int),
  (∀ (w4 : World), h1 w4 → World.cell? w4 (Addr.add a1 (0 : Nat)) = some (Value.int IntKind.i64 n1)) ∧
  ∃ (n2 : Int),
  (∀ (w5 : World), h1 w5 → World.cell? w5 (Addr.add a1 (1 : Nat)) = some (Value.int IntKind.i64 n2)) ∧
  ∃ (n3 : Int),
  (∀ (w6 : World), h1 w6 → World.cell? w6 (Addr.add a1 (2 : Nat)) = some (Value.int IntKind.i64 n3)) ∧
  ∃ (n4 : Int),
  (∀ (w7 : World), h1 w7 → World.cell? w7 (Addr.add a1 (3 : Nat)) = some (Value.int IntKind.i64 n4)) ∧
  ∃ (n5 : Int),
  (∀ (w8 : World), h1 w8 → World.cell? w8 (Addr.add a1 (4 : Nat)) = some (Value.int IntKind.i64 n5)) ∧
  Rets Try.prog (116 : Nat)
  {
  toList :=
  [Value.int IntKind.i64 n1, Value.int IntKind.i64 (0 : Int), Value.int IntKind.i64 (4611686018427387904 : Int)] }
  w3 fun (v1 : Value) (w9 : World) =>
  ∃ (n6 : Int),
  v1 = Value.int IntKind.i64 n6 ∧
  h1 w9 ∧
  Rets Try.prog (116 : Nat)
  { toList := [Value.int IntKind.i64 n2, Value.int IntKind.i64 (1 : Int), Value.int IntKind.i64 (64 : Int)] } w9
  fun (v2 : Value) (w10 : World) =>
  ∃ (n7 : Int),
  v2 = Value.int IntKind.i64 n7 ∧
  h1 w10 ∧
  Rets Try.prog (116 : Nat)
  { toList := [Value.int IntKind.i64 n3, Value.int IntKind.i64 (1 : Int), Value.int IntKind.i64 (4096 : Int)] } w10
  fun (v3 : Value) (w11 : World) =>
  ∃ (n8 : Int),
  v3 = Value.int IntKind.i64 n8 ∧
  h1 w11 ∧
  Rets Try.prog (116 : Nat)
  { toList := [Value.int IntKind.i64 n4, Value.int IntKind.i64 (1 : Int), Value.int IntKind.i64 (16 : Int)] } w11
  fun (v4 : Value) (w12 : World) =>
  ∃ (n9 : Int),
  v4 = Value.int IntKind.i64 n9 ∧
  h1 w12 ∧
  Rets Try.prog (116 : Nat)
  { toList := [Value.int IntKind.i64 n5, Value.int IntKind.i64 (0 : Int), Value.int IntKind.i64 (64 : Int)] } w12
  fun (v5 : Value) (w13 : World) =>
  ∃ (n10 : Int),
  v5 = Value.int IntKind.i64 n10 ∧
  StoreR a2
  [Value.int IntKind.i64 n6, Value.int IntKind.i64 n7, Value.int IntKind.i64 n8, Value.int IntKind.i64 n9,
  Value.int IntKind.i64 n10]
  w13 fun (w14 : World) =>
  ∃ (n11 : Int),
  ∃ (n12 : Int),
  ∃ (n13 : Int),
  ∃ (n14 : Int),
  ∃ (n15 : Int),
  (cellAt w14 (Addr.add a2 (0 : Nat)) (Value.int IntKind.i64 n11) ∧
  cellAt w14 (Addr.add a2 (1 : Nat)) (Value.int IntKind.i64 n12) ∧
  cellAt w14 (Addr.add a2 (2 : Nat)) (Value.int IntKind.i64 n13) ∧
  cellAt w14 (Addr.add a2 (3 : Nat)) (Value.int IntKind.i64 n14) ∧
  cellAt w14 (Addr.add a2 (4 : Nat)) (Value.int IntKind.i64 n15)) ∧
  K
  (Value.agg
  {
  toList :=
  [Value.int IntKind.i64 n11, Value.int IntKind.i64 n12, Value.int IntKind.i64 n13, Value.int IntKind.i64 n14,
  Value.int IntKind.i64 n15] })
  w14
theorem cortadoref18_Nearest_eq (c0 c1 c2 c3 c4 : Int) (w : World) (K : Value → World → Prop) : fw Try.prog Try.f53 (annL []) (ordL [(1, [(0, 0), (3, 0), (6, 0), (9, 0), (12, 0), (1, 1), (4, 1), (7, 1), (10, 1), (13, 1), (2, 2), (5, 2), (8, 2), (11, 2), (14, 3), (15, 0), (16, 3)])]) [.agg #[.int .i64 c0, .int .i64 c1, .int .i64 c2, .int .i64 c3, .int .i64 c4]] w K = cortadoref18_Nearest_m c0 c1 c2 c3 c4 w K := by kernel_rfl
theorem cortadoref18_Nearest_go (c0 c1 c2 c3 c4 : Int) {w : World} {K : Value → World → Prop} (h : cortadoref18_Nearest_m c0 c1 c2 c3 c4 w K) : Rets Try.prog 53 #[.agg #[.int .i64 c0, .int .i64 c1, .int .i64 c2, .int .i64 c3, .int .i64 c4]] w K :=
  calls_of_fw plain mixed Try.func53 (by kernel_rfl) (by rw [cortadoref18_Nearest_eq]; exact h)
def script_Config_m (c0 c1 c2 c3 c4 : Int) (w : World) (K : Value → World → Prop) : Prop :=
  NewR (25 : Nat)
  [Value.int IntKind.i64 c0, Value.int IntKind.i64 c1, Value.int IntKind.i64 c2, Value.int IntKind.i64 c3,
  Value.int IntKind.i64 c4]
  w fun (a1 : Addr) (w1 : World) =>
  Drw w1 fun (w2 : World) =>
  ∃ (h1 : World → Prop),
  h1 w2 ∧
  ∃ (n1 : Int),
  ∃ (n2 : Int),
  ∃ (n3 : Int),
  ∃ (n4 : Int),
  ∃ (n5 : Int),
  ((∀ (w3 : World), h1 w3 → World.cell? w3 (Addr.add a1 (0 : Nat)) = some (Value.int IntKind.i64 n1)) ∧
  (∀ (w4 : World), h1 w4 → World.cell? w4 (Addr.add a1 ((0 : Nat) + (1 : Nat))) = some (Value.int IntKind.i64 n2)) ∧
  (∀ (w5 : World),
  h1 w5 → World.cell? w5 (Addr.add a1 ((0 : Nat) + (1 : Nat) + (1 : Nat))) = some (Value.int IntKind.i64 n3)) ∧
  (∀ (w6 : World),
  h1 w6 →
  World.cell? w6 (Addr.add a1 ((0 : Nat) + (1 : Nat) + (1 : Nat) + (1 : Nat))) = some (Value.int IntKind.i64 n4)) ∧
  ∀ (w7 : World),
  h1 w7 →
  World.cell? w7 (Addr.add a1 ((0 : Nat) + (1 : Nat) + (1 : Nat) + (1 : Nat) + (1 : Nat))) =
  some (Value.int IntKind.i64 n5)) ∧
  ∃ (n6 : Int),
  ∃ (n7 : Int),
  ∃ (n8 : Int),
  ∃ (n9 : Int),
  ∃ (n10 : Int),
  ((∀ (w8 : World), h1 w8 → World.cell? w8 (Addr.add a1 (0 : Nat)) = some (Value.int IntKind.i64 n6)) ∧
  (∀ (w9 : World), h1 w9 → World.cell? w9 (Addr.add a1 ((0 : Nat) + (1 : Nat))) = some (Value.int IntKind.i64 n7)) ∧
  (∀ (w10 : World),
  h1 w10 → World.cell? w10 (Addr.add a1 ((0 : Nat) + (1 : Nat) + (1 : Nat))) = some (Value.int IntKind.i64 n8)) ∧
  (∀ (w11 : World),
  h1 w11 →
  World.cell? w11 (Addr.add a1 ((0 : Nat) + (1 : Nat) + (1 : Nat) + (1 : Nat))) = some (Value.int IntKind.i64 n9)) ∧
  ∀ (w12 : World),
  h1 w12 →
  World.cell? w12 (Addr.add a1 ((0 : Nat) + (1 : Nat) + (1 : Nat) + (1 : Nat) + (1 : Nat))) =
  some (Value.int IntKind.i64 n10)) ∧
  Rets Try.prog (52 : Nat)
  {
  toList :=
  [Value.agg
  {
  toList :=
  [Value.int IntKind.i64 n1, Value.int IntKind.i64 n2, Value.int IntKind.i64 n3, Value.int IntKind.i64 n4,
  Value.int IntKind.i64 n5] }] }
  w2 fun (v1 : Value) (w13 : World) =>
  ∃ (n11 : Int),
  ∃ (n12 : Int),
  ∃ (n13 : Int),
  ∃ (n14 : Int),
  ∃ (n15 : Int),
  v1 =
  Value.agg
  {
  toList :=
  [Value.int IntKind.i64 n11, Value.int IntKind.i64 n12, Value.int IntKind.i64 n13, Value.int IntKind.i64 n14,
  Value.int IntKind.i64 n15] } ∧
  h1 w13 ∧ K (Value.bool (n11 == n6 && (n12 == n7 && (n13 == n8 && (n14 == n9 && n15 == n10))))) w13
theorem script_Config_eq (c0 c1 c2 c3 c4 : Int) (w : World) (K : Value → World → Prop) : fw Try.prog Try.f54 (annL []) (ordL [(1, [(0, 1), (2, 1), (1, 2), (3, 0), (4, 0)])]) [.agg #[.int .i64 c0, .int .i64 c1, .int .i64 c2, .int .i64 c3, .int .i64 c4]] w K = script_Config_m c0 c1 c2 c3 c4 w K := by kernel_rfl
theorem script_Config_go (c0 c1 c2 c3 c4 : Int) {w : World} {K : Value → World → Prop} (h : script_Config_m c0 c1 c2 c3 c4 w K) : Rets Try.prog 54 #[.agg #[.int .i64 c0, .int .i64 c1, .int .i64 c2, .int .i64 c3, .int .i64 c4]] w K :=
  calls_of_fw plain mixed Try.func54 (by kernel_rfl) (by rw [script_Config_eq]; exact h)
def script_Parse_1_m (n : Int) (b : Nat) (w : World) (K : Value → World → Prop) : Prop :=
  ∃ (q1 : Option Addr),
  cellAt w { block := b, off := (0 : Nat) } (Value.pointer q1) ∧
  Rets Try.prog (70 : Nat) { toList := [Value.pointer q1, Value.int IntKind.i64 n] } w fun (v1 : Value) (w1 : World) =>
  ∃ (n1 : Int), v1 = Value.int IntKind.i64 n1 ∧ K (Value.int IntKind.i64 n1) w1
theorem script_Parse_1_eq (n : Int) (b : Nat) (w : World) (K : Value → World → Prop) : fw Try.prog Try.f69 (annL []) (ordL []) [.int .i64 n, .pointer (some ⟨b, 0, none⟩)] w K = script_Parse_1_m n b w K := by kernel_rfl
theorem script_Parse_1_go (n : Int) (b : Nat) {w : World} {K : Value → World → Prop} (h : script_Parse_1_m n b w K) : Rets Try.prog 69 #[.int .i64 n, .pointer (some ⟨b, 0, none⟩)] w K :=
  calls_of_fw plain mixed Try.func69 (by kernel_rfl) (by rw [script_Parse_1_eq]; exact h)
def script_Parse_m (q : Option Addr) (l c : Nat) (w : World) (K : Value → World → Prop) : Prop :=
  NewR (29 : Nat)
  [Value.int IntKind.i64 (0 : Int), Value.int IntKind.i64 (0 : Int), Value.int IntKind.i64 (0 : Int),
  Value.int IntKind.i64 (0 : Int), Value.int IntKind.i64 (0 : Int), Value.slice none (0 : Nat) (0 : Nat),
  Value.slice none (0 : Nat) (0 : Nat), Value.slice none (0 : Nat) (0 : Nat)]
  w fun (a1 : Addr) (w1 : World) =>
  (0 : Int) ≤ minI (↑l : Int) (16384 : Int) ∧
  minI (↑l : Int) (16384 : Int) ≤ (↑c : Int) ∧
  Rets Try.prog (68 : Nat)
  {
  toList :=
  [Value.slice (slcA q (0 : Nat) c (1 : Nat)) (Int.toNat (minI (↑l : Int) (16384 : Int)) - (0 : Nat)) (c - (0 : Nat))] }
  w1 fun (v1 : Value) (w2 : World) =>
  ∃ (q1 : Option Addr),
  v1 = Value.pointer q1 ∧
  NewR (91 : Nat) [Value.pointer none] w2 fun (a2 : Addr) (w3 : World) =>
  StoreR a2 [Value.pointer q1] w3 fun (w4 : World) =>
  ∃ (q2 : Option Addr),
  cellAt w4 a2 (Value.pointer q2) ∧
  Rets Try.prog (71 : Nat) { toList := [Value.pointer q2] } w4 fun (v2 : Value) (w5 : World) =>
  ∃ (n1 : Int),
  v2 = Value.int IntKind.i64 n1 ∧
  StoreR (Addr.add (Addr.add a1 (0 : Nat)) (0 : Nat)) [Value.int IntKind.i64 n1] w5 fun (w6 : World) =>
  Rets Try.prog (69 : Nat) { toList := [Value.int IntKind.i64 (64 : Int), Value.pointer (some a2)] } w6
  fun (v3 : Value) (w7 : World) =>
  ∃ (n2 : Int),
  v3 = Value.int IntKind.i64 n2 ∧
  StoreR (Addr.add (Addr.add a1 (0 : Nat)) (1 : Nat)) [Value.int IntKind.i64 (IntKind.wrap IntKind.i64 (n2 + (1 : Int)))]
  w7 fun (w8 : World) =>
  Rets Try.prog (69 : Nat) { toList := [Value.int IntKind.i64 (16 : Int), Value.pointer (some a2)] } w8
  fun (v4 : Value) (w9 : World) =>
  ∃ (n3 : Int),
  v4 = Value.int IntKind.i64 n3 ∧
  StoreR (Addr.add (Addr.add a1 (0 : Nat)) (3 : Nat)) [Value.int IntKind.i64 (IntKind.wrap IntKind.i64 (n3 + (1 : Int)))]
  w9 fun (w10 : World) =>
  Rets Try.prog (69 : Nat) { toList := [Value.int IntKind.i64 (65 : Int), Value.pointer (some a2)] } w10
  fun (v5 : Value) (w11 : World) =>
  ∃ (n4 : Int),
  v5 = Value.int IntKind.i64 n4 ∧
  StoreR (Addr.add (Addr.add a1 (0 : Nat)) (4 : Nat)) [Value.int IntKind.i64 n4] w11 fun (w12 : World) =>
  ∃ (q3 : Option Addr),
  cellAt w12 a2 (Value.pointer q3) ∧
  Rets Try.prog (71 : Nat) { toList := [Value.pointer q3] } w12 fun (v6 : Value) (w13 : World) =>
  ∃ (n5 : Int),
  v6 = Value.int IntKind.i64 n5 ∧
  StoreR (Addr.add (Addr.add a1 (0 : Nat)) (2 : Nat)) [Value.int IntKind.i64 n5] w13 fun (w14 : World) =>
  ∃ (n6 : Int),
  ∃ (n7 : Int),
  ∃ (n8 : Int),
  ∃ (n9 : Int),
  ∃ (n10 : Int),
  (cellAt w14 (Addr.add (Addr.add a1 (0 : Nat)) (0 : Nat)) (Value.int IntKind.i64 n6) ∧
  cellAt w14 (Addr.add (Addr.add a1 (0 : Nat)) (1 : Nat)) (Value.int IntKind.i64 n7) ∧
  cellAt w14 (Addr.add (Addr.add a1 (0 : Nat)) (2 : Nat)) (Value.int IntKind.i64 n8) ∧
  cellAt w14 (Addr.add (Addr.add a1 (0 : Nat)) (3 : Nat)) (Value.int IntKind.i64 n9) ∧
  cellAt w14 (Addr.add (Addr.add a1 (0 : Nat)) (4 : Nat)) (Value.int IntKind.i64 n10)) ∧
  Rets Try.prog (52 : Nat)
  {
  toList :=
  [Value.agg
  {
  toList :=
  [Value.int IntKind.i64 n6, Value.int IntKind.i64 n7, Value.int IntKind.i64 n8, Value.int IntKind.i64 n9,
  Value.int IntKind.i64 n10] }] }
  w14 fun (v7 : Value) (w15 : World) =>
  ∃ (n11 : Int),
  ∃ (n12 : Int),
  ∃ (n13 : Int),
  ∃ (n14 : Int),
  ∃ (n15 : Int),
  v7 =
  Value.agg
  {
  toList :=
  [Value.int IntKind.i64 n11, Value.int IntKind.i64 n12, Value.int IntKind.i64 n13, Value.int IntKind.i64 n14,
  Value.int IntKind.i64 n15] } ∧
  StoreR (Addr.add a1 (0 : Nat))
  [Value.int IntKind.i64 n11, Value.int IntKind.i64 n12, Value.int IntKind.i64 n13, Value.int IntKind.i64 n14,
  Value.int IntKind.i64 n15]
  w15 fun (w16 : World) =>
  Rets Try.prog (69 : Nat) { toList := [Value.int IntKind.i64 (7 : Int), Value.pointer (some a2)] } w16
  fun (v8 : Value) (w17 : World) =>
  ∃ (n16 : Int),
  v8 = Value.int IntKind.i64 n16 ∧
  ∃ (h1 : Nat → List Value → World → Prop),
  (∃ (k1 : Nat), h1 k1 [Value.int IntKind.i64 (0 : Int)] w17) ∧
  ∀ (k2 : Nat) (w18 : World) (n17 : Int) (v9 v10 v11 v12 v13 v14 v15 v16 v17 : Value),
  h1 k2 [Value.int IntKind.i64 n17] w18 →
  (decide (n17 < n16) = true →
  Drw w18 fun (w19 : World) =>
  ∃ (h2 : World → Prop),
  h2 w19 ∧
  ∃ (q4 : Option Addr),
  ∃ (k3 : Nat),
  ∃ (k4 : Nat),
  (∀ (w20 : World), h2 w20 → World.cell? w20 (Addr.add a1 (5 : Nat)) = some (Value.slice q4 k3 k4)) ∧
  ∃ (q5 : Option Addr),
  (∀ (w21 : World), h2 w21 → World.cell? w21 a2 = some (Value.pointer q5)) ∧
  Rets Try.prog (72 : Nat) { toList := [Value.pointer q5] } w19 fun (v18 : Value) (w22 : World) =>
  ∃ (q6 : Option Addr),
  ∃ (k5 : Nat),
  ∃ (k6 : Nat),
  v18 = Value.slice q6 k5 k6 ∧
  h2 w22 ∧
  NewR (76 : Nat) [Value.slice q6 k5 k6] w22 fun (a3 : Addr) (w23 : World) =>
  h2 w23 ∧
  RunR Try.prog
  (builtinV Builtin.append { toList := [(26 : Nat), (26 : Nat)] } (nat_lit 26)
  { toList := [Value.slice q4 k3 k4, Value.slice (some a3) (1 : Nat) (1 : Nat)] })
  w23 fun (v19 : Value) (w24 : World) =>
  ∃ (q7 : Option Addr),
  ∃ (k7 : Nat),
  ∃ (k8 : Nat),
  v19 = Value.slice q7 k7 k8 ∧
  StoreR (Addr.add a1 (5 : Nat)) [Value.slice q7 k7 k8] w24 fun (w25 : World) =>
  ∃ (k9 : Nat), k9 < k2 ∧ h1 k9 [Value.int IntKind.i64 (IntKind.wrap IntKind.i64 (n17 + (1 : Int)))] w25) ∧
  (decide (n17 < n16) = false →
  ∃ (q8 : Option Addr),
  cellAt w18 a2 (Value.pointer q8) ∧
  Rets Try.prog (73 : Nat) { toList := [Value.pointer q8] } w18 fun (v20 : Value) (w26 : World) =>
  ∃ (n18 : Int),
  v20 = Value.int IntKind.i64 n18 ∧
  ∃ (h3 : Nat → List Value → World → Prop),
  (∃ (k10 : Nat), h3 k10 [Value.int IntKind.i64 (0 : Int)] w26) ∧
  ∀ (k11 : Nat) (w27 : World) (n19 : Int) (v21 v22 v23 v24 v25 v26 v27 v28 v29 : Value),
  h3 k11 [Value.int IntKind.i64 n19] w27 →
  (decide (n19 < n18) = true →
  Drw w27 fun (w28 : World) =>
  ∃ (h4 : World → Prop),
  h4 w28 ∧
  ∃ (q9 : Option Addr),
  ∃ (k12 : Nat),
  ∃ (k13 : Nat),
  (∀ (w29 : World), h4 w29 → World.cell? w29 (Addr.add a1 (7 : Nat)) = some (Value.slice q9 k12 k13)) ∧
  ∃ (q10 : Option Addr),
  (∀ (w30 : World), h4 w30 → World.cell? w30 a2 = some (Value.pointer q10)) ∧
  Rets Try.prog (71 : Nat) { toList := [Value.pointer q10] } w28 fun (v30 : Value) (w31 : World) =>
  ∃ (n20 : Int),
  v30 = Value.int IntKind.i64 n20 ∧
  h4 w31 ∧
  NewR (3 : Nat) [Value.int IntKind.i64 n20] w31 fun (a4 : Addr) (w32 : World) =>
  h4 w32 ∧
  RunR Try.prog
  (builtinV Builtin.append { toList := [(27 : Nat), (27 : Nat)] } (nat_lit 27)
  { toList := [Value.slice q9 k12 k13, Value.slice (some a4) (1 : Nat) (1 : Nat)] })
  w32 fun (v31 : Value) (w33 : World) =>
  ∃ (q11 : Option Addr),
  ∃ (k14 : Nat),
  ∃ (k15 : Nat),
  v31 = Value.slice q11 k14 k15 ∧
  StoreR (Addr.add a1 (7 : Nat)) [Value.slice q11 k14 k15] w33 fun (w34 : World) =>
  ∃ (k16 : Nat), k16 < k11 ∧ h3 k16 [Value.int IntKind.i64 (IntKind.wrap IntKind.i64 (n19 + (1 : Int)))] w34) ∧
  (decide (n19 < n18) = false →
  ∃ (q12 : Option Addr),
  cellAt w27 a2 (Value.pointer q12) ∧
  Rets Try.prog (74 : Nat) { toList := [Value.pointer q12] } w27 fun (v32 : Value) (w35 : World) =>
  ∃ (q13 : Option Addr),
  ∃ (k17 : Nat),
  ∃ (k18 : Nat),
  v32 = Value.slice q13 k17 k18 ∧
  (0 : Int) ≤ minI (↑k17 : Int) (4096 : Int) ∧
  minI (↑k17 : Int) (4096 : Int) ≤ (↑k18 : Int) ∧
  ∃ (h5 : Nat → List Value → World → Prop),
  (∃ (k19 : Nat), h5 k19 [Value.int IntKind.i64 (0 : Int)] w35) ∧
  ∀ (k20 : Nat) (w36 : World) (v33 : Value) (n21 : Int) (v34 v35 v36 v37 v38 v39 v40 v41 v42 v43 v44 : Value),
  h5 k20 [Value.int IntKind.i64 n21] w36 →
  (decide (n21 < (↑(Int.toNat (minI (↑k17 : Int) (4096 : Int)) - (0 : Nat)) : Int)) = true →
  (0 : Int) ≤ n21 ∧
  n21 < (↑(Int.toNat (minI (↑k17 : Int) (4096 : Int)) - (0 : Nat)) : Int) ∧
  someR (slcA q13 (0 : Nat) k18 (1 : Nat)) fun (a5 : Addr) =>
  ∃ (n22 : Int),
  cellAt w36 (Addr.add a5 (Int.toNat n21 * (1 : Nat))) (Value.int IntKind.u8 n22) ∧
  ∃ (q14 : Option Addr),
  ∃ (k21 : Nat),
  ∃ (k22 : Nat),
  cellAt w36 (Addr.add a1 (6 : Nat)) (Value.slice q14 k21 k22) ∧
  NewR (3 : Nat) [Value.int IntKind.i64 (IntKind.wrap IntKind.i64 n22)] w36 fun (a6 : Addr) (w37 : World) =>
  RunR Try.prog
  (builtinV Builtin.append { toList := [(27 : Nat), (27 : Nat)] } (nat_lit 27)
  { toList := [Value.slice q14 k21 k22, Value.slice (some a6) (1 : Nat) (1 : Nat)] })
  w37 fun (v45 : Value) (w38 : World) =>
  ∃ (q15 : Option Addr),
  ∃ (k23 : Nat),
  ∃ (k24 : Nat),
  v45 = Value.slice q15 k23 k24 ∧
  StoreR (Addr.add a1 (6 : Nat)) [Value.slice q15 k23 k24] w38 fun (w39 : World) =>
  ∃ (k25 : Nat), k25 < k20 ∧ h5 k25 [Value.int IntKind.i64 (IntKind.wrap IntKind.i64 (n21 + (1 : Int)))] w39) ∧
  (decide (n21 < (↑(Int.toNat (minI (↑k17 : Int) (4096 : Int)) - (0 : Nat)) : Int)) = false →
  ∃ (n23 : Int),
  ∃ (n24 : Int),
  ∃ (n25 : Int),
  ∃ (n26 : Int),
  ∃ (n27 : Int),
  ∃ (q16 : Option Addr),
  ∃ (k26 : Nat),
  ∃ (k27 : Nat),
  ∃ (q17 : Option Addr),
  ∃ (k28 : Nat),
  ∃ (k29 : Nat),
  ∃ (q18 : Option Addr),
  ∃ (k30 : Nat),
  ∃ (k31 : Nat),
  (cellAt w36 (Addr.add a1 (0 : Nat)) (Value.int IntKind.i64 n23) ∧
  cellAt w36 (Addr.add a1 (1 : Nat)) (Value.int IntKind.i64 n24) ∧
  cellAt w36 (Addr.add a1 (2 : Nat)) (Value.int IntKind.i64 n25) ∧
  cellAt w36 (Addr.add a1 (3 : Nat)) (Value.int IntKind.i64 n26) ∧
  cellAt w36 (Addr.add a1 (4 : Nat)) (Value.int IntKind.i64 n27) ∧
  cellAt w36 (Addr.add a1 (5 : Nat)) (Value.slice q16 k26 k27) ∧
  cellAt w36 (Addr.add a1 (6 : Nat)) (Value.slice q17 k28 k29) ∧
  cellAt w36 (Addr.add a1 (7 : Nat)) (Value.slice q18 k30 k31)) ∧
  StoreR a1
  [Value.int IntKind.i64 n23, Value.int IntKind.i64 n24, Value.int IntKind.i64 n25, Value.int IntKind.i64 n26,
  Value.int IntKind.i64 n27, Value.slice q16 k26 k27, Value.slice q17 k28 k29, Value.slice q18 k30 k31]
  w36 fun (w40 : World) =>
  ∃ (n28 : Int),
  ∃ (n29 : Int),
  ∃ (n30 : Int),
  ∃ (n31 : Int),
  ∃ (n32 : Int),
  ∃ (q19 : Option Addr),
  ∃ (k32 : Nat),
  ∃ (k33 : Nat),
  ∃ (q20 : Option Addr),
  ∃ (k34 : Nat),
  ∃ (k35 : Nat),
  ∃ (q21 : Option Addr),
  ∃ (k36 : Nat),
  ∃ (k37 : Nat),
  (cellAt w40 (Addr.add a1 (0 : Nat)) (Value.int IntKind.i64 n28) ∧
  cellAt w40 (Addr.add a1 (1 : Nat)) (Value.int IntKind.i64 n29) ∧
  cellAt w40 (Addr.add a1 (2 : Nat)) (Value.int IntKind.i64 n30) ∧
  cellAt w40 (Addr.add a1 (3 : Nat)) (Value.int IntKind.i64 n31) ∧
  cellAt w40 (Addr.add a1 (4 : Nat)) (Value.int IntKind.i64 n32) ∧
  cellAt w40 (Addr.add a1 (5 : Nat)) (Value.slice q19 k32 k33) ∧
  cellAt w40 (Addr.add a1 (6 : Nat)) (Value.slice q20 k34 k35) ∧
  cellAt w40 (Addr.add a1 (7 : Nat)) (Value.slice q21 k36 k37)) ∧
  K
  (Value.agg
  {
  toList :=
  [Value.int IntKind.i64 n28, Value.int IntKind.i64 n29, Value.int IntKind.i64 n30, Value.int IntKind.i64 n31,
  Value.int IntKind.i64 n32, Value.slice q19 k32 k33, Value.slice q20 k34 k35, Value.slice q21 k36 k37] })
  w40)))
theorem script_Parse_eq (q : Option Addr) (l c : Nat) (w : World) (K : Value → World → Prop) : fw Try.prog Try.f12 (annL [(1, [(43, some 3), (44, none), (45, none), (46, none), (47, none), (48, none), (49, none), (50, none), (51, none), (52, none)]), (5, [(55, some 3), (56, none), (57, none), (58, none), (59, none), (60, none), (61, none), (62, none), (63, none), (64, none)]), (9, [(7, none), (73, some 3), (74, none), (75, none), (76, none), (77, none), (78, none), (79, none), (80, none), (81, none), (82, none), (83, none), (84, none)])]) (ordL [(11, [(0, 0), (1, 1), (2, 1), (3, 2), (4, 2), (5, 3), (6, 0), (7, 3)]), (15, [(0, 0), (1, 1), (2, 1), (3, 2), (4, 2), (5, 3), (6, 0), (7, 3)])]) [.slice q l c] w K = script_Parse_m q l c w K := by kernel_rfl
theorem script_Parse_go (q : Option Addr) (l c : Nat) {w : World} {K : Value → World → Prop} (h : script_Parse_m q l c w K) : Rets Try.prog 12 #[.slice q l c] w K :=
  calls_of_fw plain mixed Try.func12 (by kernel_rfl) (by rw [script_Parse_eq]; exact h)
def script_Right_1_m (q : Option Addr) (l c : Nat) (w : World) (K : Value → World → Prop) : Prop :=
  Rets Try.prog (83 : Nat) { toList := [Value.slice q l c] } w fun (v1 : Value) (w1 : World) =>
  ∃ (b1 : Bool), v1 = Value.bool b1 ∧ K (Value.bool !b1) w1
theorem script_Right_1_eq (q : Option Addr) (l c : Nat) (w : World) (K : Value → World → Prop) : fw Try.prog Try.f82 (annL []) (ordL []) [.slice q l c] w K = script_Right_1_m q l c w K := by kernel_rfl
theorem script_Right_1_go (q : Option Addr) (l c : Nat) {w : World} {K : Value → World → Prop} (h : script_Right_1_m q l c w K) : Rets Try.prog 82 #[.slice q l c] w K :=
  calls_of_fw plain mixed Try.func82 (by kernel_rfl) (by rw [script_Right_1_eq]; exact h)
def script_Right_2_m (n : Int) (w : World) (K : Value → World → Prop) : Prop :=
  (decide (n < (0 : Int)) = false → K (Value.bool (decide (n > (255 : Int)))) w) ∧
  (decide (n < (0 : Int)) = true → K (Value.bool true) w)
theorem script_Right_2_eq (n : Int) (w : World) (K : Value → World → Prop) : fw Try.prog Try.f84 (annL []) (ordL []) [.int .i64 n] w K = script_Right_2_m n w K := by kernel_rfl
theorem script_Right_2_go (n : Int) {w : World} {K : Value → World → Prop} (h : script_Right_2_m n w K) : Rets Try.prog 84 #[.int .i64 n] w K :=
  calls_of_fw plain mixed Try.func84 (by kernel_rfl) (by rw [script_Right_2_eq]; exact h)
def pro_Index_m (q : Option Addr) (l c : Nat) (w : World) (K : Value → World → Prop) : Prop :=
  ∃ (h1 : Nat → List Value → World → Prop),
  (∃ (k1 : Nat), h1 k1 [Value.int IntKind.i64 (0 : Int)] w) ∧
  ∀ (k2 : Nat) (w1 : World) (v1 v2 : Value) (n1 : Int) (v3 v4 v5 v6 v7 v8 v9 v10 v11 v12 : Value),
  h1 k2 [Value.int IntKind.i64 n1] w1 →
  (decide (n1 < (↑l : Int)) = true →
  (0 : Int) ≤ n1 ∧
  n1 < (↑l : Int) ∧
  someR q fun (a1 : Addr) =>
  ∃ (q1 : Option Addr),
  ∃ (k3 : Nat),
  ∃ (k4 : Nat),
  cellAt w1 (Addr.add a1 (Int.toNat n1 * (1 : Nat))) (Value.slice q1 k3 k4) ∧
  Rets Try.prog (82 : Nat) { toList := [Value.slice q1 k3 k4] } w1 fun (v13 : Value) (w2 : World) =>
  ∃ (b1 : Bool),
  v13 = Value.bool b1 ∧
  (b1 = true → K (Value.int IntKind.i64 n1) w2) ∧
  (b1 = false → ∃ (k5 : Nat), k5 < k2 ∧ h1 k5 [Value.int IntKind.i64 (IntKind.wrap IntKind.i64 (n1 + (1 : Int)))] w2)) ∧
  (decide (n1 < (↑l : Int)) = false → K (Value.int IntKind.i64 (-1 : Int)) w1)
theorem pro_Index_eq (q : Option Addr) (l c : Nat) (w : World) (K : Value → World → Prop) : fw Try.prog Try.f137 (annL [(1, [(4, none), (5, none), (8, some 3), (9, none), (10, none), (11, none), (12, none), (13, none), (14, none), (15, none), (16, none), (17, none), (18, none)])]) (ordL []) [.slice q l c, .func (.func 82) #[] #[]] w K = pro_Index_m q l c w K := by kernel_rfl
theorem pro_Index_go (q : Option Addr) (l c : Nat) {w : World} {K : Value → World → Prop} (h : pro_Index_m q l c w K) : Rets Try.prog 137 #[.slice q l c, .func (.func 82) #[] #[]] w K :=
  calls_of_fw plain mixed Try.func137 (by kernel_rfl) (by rw [pro_Index_eq]; exact h)
def pro_Contains_m (q : Option Addr) (l c : Nat) (w : World) (K : Value → World → Prop) : Prop :=
  Rets Try.prog (137 : Nat)
  { toList := [Value.slice q l c, Value.func (Fn.func (82 : Nat)) { toList := [] } { toList := [] }] } w
  fun (v1 : Value) (w1 : World) =>
  ∃ (n1 : Int), v1 = Value.int IntKind.i64 n1 ∧ K (Value.bool (decide (n1 ≥ (0 : Int)))) w1
theorem pro_Contains_eq (q : Option Addr) (l c : Nat) (w : World) (K : Value → World → Prop) : fw Try.prog Try.f85 (annL []) (ordL []) [.slice q l c, .func (.func 82) #[] #[]] w K = pro_Contains_m q l c w K := by kernel_rfl
theorem pro_Contains_go (q : Option Addr) (l c : Nat) {w : World} {K : Value → World → Prop} (h : pro_Contains_m q l c w K) : Rets Try.prog 85 #[.slice q l c, .func (.func 82) #[] #[]] w K :=
  calls_of_fw plain mixed Try.func85 (by kernel_rfl) (by rw [pro_Contains_eq]; exact h)
def pic_Index_m (q : Option Addr) (l c : Nat) (w : World) (K : Value → World → Prop) : Prop :=
  ∃ (h1 : Nat → List Value → World → Prop),
  (∃ (k1 : Nat), h1 k1 [Value.int IntKind.i64 (0 : Int)] w) ∧
  ∀ (k2 : Nat) (w1 : World) (v1 v2 : Value) (n1 : Int) (v3 v4 v5 v6 v7 v8 v9 v10 v11 v12 : Value),
  h1 k2 [Value.int IntKind.i64 n1] w1 →
  (decide (n1 < (↑l : Int)) = true →
  (0 : Int) ≤ n1 ∧
  n1 < (↑l : Int) ∧
  someR q fun (a1 : Addr) =>
  ∃ (n2 : Int),
  cellAt w1 (Addr.add a1 (Int.toNat n1 * (1 : Nat))) (Value.int IntKind.i64 n2) ∧
  Rets Try.prog (84 : Nat) { toList := [Value.int IntKind.i64 n2] } w1 fun (v13 : Value) (w2 : World) =>
  ∃ (b1 : Bool),
  v13 = Value.bool b1 ∧
  (b1 = true → K (Value.int IntKind.i64 n1) w2) ∧
  (b1 = false → ∃ (k3 : Nat), k3 < k2 ∧ h1 k3 [Value.int IntKind.i64 (IntKind.wrap IntKind.i64 (n1 + (1 : Int)))] w2)) ∧
  (decide (n1 < (↑l : Int)) = false → K (Value.int IntKind.i64 (-1 : Int)) w1)
theorem pic_Index_eq (q : Option Addr) (l c : Nat) (w : World) (K : Value → World → Prop) : fw Try.prog Try.f138 (annL [(1, [(4, none), (5, none), (8, some 3), (9, none), (10, none), (11, none), (12, none), (13, none), (14, none), (15, none), (16, none), (17, none), (18, none)])]) (ordL []) [.slice q l c, .func (.func 84) #[] #[]] w K = pic_Index_m q l c w K := by kernel_rfl
theorem pic_Index_go (q : Option Addr) (l c : Nat) {w : World} {K : Value → World → Prop} (h : pic_Index_m q l c w K) : Rets Try.prog 138 #[.slice q l c, .func (.func 84) #[] #[]] w K :=
  calls_of_fw plain mixed Try.func138 (by kernel_rfl) (by rw [pic_Index_eq]; exact h)
def pic_Contains_m (q : Option Addr) (l c : Nat) (w : World) (K : Value → World → Prop) : Prop :=
  Rets Try.prog (138 : Nat)
  { toList := [Value.slice q l c, Value.func (Fn.func (84 : Nat)) { toList := [] } { toList := [] }] } w
  fun (v1 : Value) (w1 : World) =>
  ∃ (n1 : Int), v1 = Value.int IntKind.i64 n1 ∧ K (Value.bool (decide (n1 ≥ (0 : Int)))) w1
theorem pic_Contains_eq (q : Option Addr) (l c : Nat) (w : World) (K : Value → World → Prop) : fw Try.prog Try.f86 (annL []) (ordL []) [.slice q l c, .func (.func 84) #[] #[]] w K = pic_Contains_m q l c w K := by kernel_rfl
theorem pic_Contains_go (q : Option Addr) (l c : Nat) {w : World} {K : Value → World → Prop} (h : pic_Contains_m q l c w K) : Rets Try.prog 86 #[.slice q l c, .func (.func 84) #[] #[]] w K :=
  calls_of_fw plain mixed Try.func86 (by kernel_rfl) (by rw [pic_Contains_eq]; exact h)
def script_Right_m (c0 c1 c2 c3 c4 : Int) (q : Option Addr) (l c : Nat) (q2 : Option Addr) (l2 d2 : Nat) (q3 : Option Addr) (l3 d3 : Nat) (w : World) (K : Value → World → Prop) : Prop :=
  NewR (29 : Nat)
  [Value.int IntKind.i64 c0, Value.int IntKind.i64 c1, Value.int IntKind.i64 c2, Value.int IntKind.i64 c3,
  Value.int IntKind.i64 c4, Value.slice q l c, Value.slice q2 l2 d2, Value.slice q3 l3 d3]
  w fun (a1 : Addr) (w1 : World) =>
  ∃ (n1 : Int),
  ∃ (n2 : Int),
  ∃ (n3 : Int),
  ∃ (n4 : Int),
  ∃ (n5 : Int),
  (cellAt w1 (Addr.add (Addr.add a1 (0 : Nat)) (0 : Nat)) (Value.int IntKind.i64 n1) ∧
  cellAt w1 (Addr.add (Addr.add a1 (0 : Nat)) (1 : Nat)) (Value.int IntKind.i64 n2) ∧
  cellAt w1 (Addr.add (Addr.add a1 (0 : Nat)) (2 : Nat)) (Value.int IntKind.i64 n3) ∧
  cellAt w1 (Addr.add (Addr.add a1 (0 : Nat)) (3 : Nat)) (Value.int IntKind.i64 n4) ∧
  cellAt w1 (Addr.add (Addr.add a1 (0 : Nat)) (4 : Nat)) (Value.int IntKind.i64 n5)) ∧
  Rets Try.prog (54 : Nat)
  {
  toList :=
  [Value.agg
  {
  toList :=
  [Value.int IntKind.i64 n1, Value.int IntKind.i64 n2, Value.int IntKind.i64 n3, Value.int IntKind.i64 n4,
  Value.int IntKind.i64 n5] }] }
  w1 fun (v1 : Value) (w2 : World) =>
  ∃ (b1 : Bool),
  v1 = Value.bool b1 ∧
  ((!b1) = false →
  ∃ (q1 : Option Addr),
  ∃ (k1 : Nat),
  ∃ (k2 : Nat),
  cellAt w2 (Addr.add a1 (5 : Nat)) (Value.slice q1 k1 k2) ∧
  (decide ((↑k1 : Int) > (6 : Int)) = false →
  ∃ (q2 : Option Addr),
  ∃ (k3 : Nat),
  ∃ (k4 : Nat),
  cellAt w2 (Addr.add a1 (6 : Nat)) (Value.slice q2 k3 k4) ∧
  (decide ((↑k3 : Int) > (4096 : Int)) = false →
  ∃ (q3 : Option Addr),
  ∃ (k5 : Nat),
  ∃ (k6 : Nat),
  cellAt w2 (Addr.add a1 (7 : Nat)) (Value.slice q3 k5 k6) ∧
  (decide ((↑k5 : Int) ≥ (256 : Int)) = true → K (Value.bool false) w2) ∧
  (decide ((↑k5 : Int) ≥ (256 : Int)) = false →
  ∃ (q4 : Option Addr),
  ∃ (k7 : Nat),
  ∃ (k8 : Nat),
  cellAt w2 (Addr.add a1 (5 : Nat)) (Value.slice q4 k7 k8) ∧
  Rets Try.prog (85 : Nat)
  { toList := [Value.slice q4 k7 k8, Value.func (Fn.func (82 : Nat)) { toList := [] } { toList := [] }] } w2
  fun (v2 : Value) (w3 : World) =>
  ∃ (b2 : Bool),
  v2 = Value.bool b2 ∧
  ((!b2) = true →
  ∃ (q5 : Option Addr),
  ∃ (k9 : Nat),
  ∃ (k10 : Nat),
  cellAt w3 (Addr.add a1 (6 : Nat)) (Value.slice q5 k9 k10) ∧
  Rets Try.prog (86 : Nat)
  { toList := [Value.slice q5 k9 k10, Value.func (Fn.func (84 : Nat)) { toList := [] } { toList := [] }] } w3
  fun (v3 : Value) (w4 : World) => ∃ (b3 : Bool), v3 = Value.bool b3 ∧ K (Value.bool !b3) w4) ∧
  ((!b2) = false → K (Value.bool false) w3))) ∧
  (decide ((↑k3 : Int) > (4096 : Int)) = true → K (Value.bool false) w2)) ∧
  (decide ((↑k1 : Int) > (6 : Int)) = true → K (Value.bool false) w2)) ∧
  ((!b1) = true → K (Value.bool false) w2)
theorem script_Right_eq (c0 c1 c2 c3 c4 : Int) (q : Option Addr) (l c : Nat) (q2 : Option Addr) (l2 d2 : Nat) (q3 : Option Addr) (l3 d3 : Nat) (w : World) (K : Value → World → Prop) : fw Try.prog Try.f16 (annL []) (ordL []) [.agg #[.int .i64 c0, .int .i64 c1, .int .i64 c2, .int .i64 c3, .int .i64 c4, .slice q l c, .slice q2 l2 d2, .slice q3 l3 d3]] w K = script_Right_m c0 c1 c2 c3 c4 q l c q2 l2 d2 q3 l3 d3 w K := by kernel_rfl
theorem script_Right_go (c0 c1 c2 c3 c4 : Int) (q : Option Addr) (l c : Nat) (q2 : Option Addr) (l2 d2 : Nat) (q3 : Option Addr) (l3 d3 : Nat) {w : World} {K : Value → World → Prop} (h : script_Right_m c0 c1 c2 c3 c4 q l c q2 l2 d2 q3 l3 d3 w K) : Rets Try.prog 16 #[.agg #[.int .i64 c0, .int .i64 c1, .int .i64 c2, .int .i64 c3, .int .i64 c4, .slice q l c, .slice q2 l2 d2, .slice q3 l3 d3]] w K :=
  calls_of_fw plain mixed Try.func16 (by kernel_rfl) (by rw [script_Right_eq]; exact h)
def cortadoref18_Right_m (c0 c1 c2 c3 c4 : Int) (q : Option Addr) (l c : Nat) (q2 : Option Addr) (l2 d2 : Nat) (q3 : Option Addr) (l3 d3 : Nat) (w : World) (K : Value → World → Prop) : Prop :=
  NewR (29 : Nat)
  [Value.int IntKind.i64 c0, Value.int IntKind.i64 c1, Value.int IntKind.i64 c2, Value.int IntKind.i64 c3,
  Value.int IntKind.i64 c4, Value.slice q l c, Value.slice q2 l2 d2, Value.slice q3 l3 d3]
  w fun (a1 : Addr) (w1 : World) =>
  Drw w1 fun (w2 : World) =>
  ∃ (h1 : World → Prop),
  h1 w2 ∧
  ∃ (n1 : Int),
  ∃ (n2 : Int),
  ∃ (n3 : Int),
  ∃ (n4 : Int),
  ∃ (n5 : Int),
  ((∀ (w3 : World),
  h1 w3 → World.cell? w3 (Addr.add (Addr.add a1 (0 : Nat)) (0 : Nat)) = some (Value.int IntKind.i64 n1)) ∧
  (∀ (w4 : World),
  h1 w4 → World.cell? w4 (Addr.add (Addr.add a1 (0 : Nat)) ((0 : Nat) + (1 : Nat))) = some (Value.int IntKind.i64 n2)) ∧
  (∀ (w5 : World),
  h1 w5 →
  World.cell? w5 (Addr.add (Addr.add a1 (0 : Nat)) ((0 : Nat) + (1 : Nat) + (1 : Nat))) =
  some (Value.int IntKind.i64 n3)) ∧
  (∀ (w6 : World),
  h1 w6 →
  World.cell? w6 (Addr.add (Addr.add a1 (0 : Nat)) ((0 : Nat) + (1 : Nat) + (1 : Nat) + (1 : Nat))) =
  some (Value.int IntKind.i64 n4)) ∧
  ∀ (w7 : World),
  h1 w7 →
  World.cell? w7 (Addr.add (Addr.add a1 (0 : Nat)) ((0 : Nat) + (1 : Nat) + (1 : Nat) + (1 : Nat) + (1 : Nat))) =
  some (Value.int IntKind.i64 n5)) ∧
  ∃ (n6 : Int),
  ∃ (n7 : Int),
  ∃ (n8 : Int),
  ∃ (n9 : Int),
  ∃ (n10 : Int),
  ((∀ (w8 : World),
  h1 w8 → World.cell? w8 (Addr.add (Addr.add a1 (0 : Nat)) (0 : Nat)) = some (Value.int IntKind.i64 n6)) ∧
  (∀ (w9 : World),
  h1 w9 → World.cell? w9 (Addr.add (Addr.add a1 (0 : Nat)) ((0 : Nat) + (1 : Nat))) = some (Value.int IntKind.i64 n7)) ∧
  (∀ (w10 : World),
  h1 w10 →
  World.cell? w10 (Addr.add (Addr.add a1 (0 : Nat)) ((0 : Nat) + (1 : Nat) + (1 : Nat))) =
  some (Value.int IntKind.i64 n8)) ∧
  (∀ (w11 : World),
  h1 w11 →
  World.cell? w11 (Addr.add (Addr.add a1 (0 : Nat)) ((0 : Nat) + (1 : Nat) + (1 : Nat) + (1 : Nat))) =
  some (Value.int IntKind.i64 n9)) ∧
  ∀ (w12 : World),
  h1 w12 →
  World.cell? w12 (Addr.add (Addr.add a1 (0 : Nat)) ((0 : Nat) + (1 : Nat) + (1 : Nat) + (1 : Nat) + (1 : Nat))) =
  some (Value.int IntKind.i64 n10)) ∧
  Rets Try.prog (53 : Nat)
  {
  toList :=
  [Value.agg
  {
  toList :=
  [Value.int IntKind.i64 n1, Value.int IntKind.i64 n2, Value.int IntKind.i64 n3, Value.int IntKind.i64 n4,
  Value.int IntKind.i64 n5] }] }
  w2 fun (v1 : Value) (w13 : World) =>
  ∃ (n11 : Int),
  ∃ (n12 : Int),
  ∃ (n13 : Int),
  ∃ (n14 : Int),
  ∃ (n15 : Int),
  v1 =
  Value.agg
  {
  toList :=
  [Value.int IntKind.i64 n11, Value.int IntKind.i64 n12, Value.int IntKind.i64 n13, Value.int IntKind.i64 n14,
  Value.int IntKind.i64 n15] } ∧
  h1 w13 ∧
  ((!(n11 == n6 && (n12 == n7 && (n13 == n8 && (n14 == n9 && n15 == n10))))) = false →
  ∃ (q1 : Option Addr),
  ∃ (k1 : Nat),
  ∃ (k2 : Nat),
  (∀ (w14 : World), h1 w14 → World.cell? w14 (Addr.add a1 (5 : Nat)) = some (Value.slice q1 k1 k2)) ∧
  (decide ((↑k1 : Int) > (6 : Int)) = false →
  ∃ (q2 : Option Addr),
  ∃ (k3 : Nat),
  ∃ (k4 : Nat),
  (∀ (w15 : World), h1 w15 → World.cell? w15 (Addr.add a1 (6 : Nat)) = some (Value.slice q2 k3 k4)) ∧
  (decide ((↑k3 : Int) > (4096 : Int)) = false →
  ∃ (q3 : Option Addr),
  ∃ (k5 : Nat),
  ∃ (k6 : Nat),
  (∀ (w16 : World), h1 w16 → World.cell? w16 (Addr.add a1 (7 : Nat)) = some (Value.slice q3 k5 k6)) ∧
  (decide ((↑k5 : Int) > (255 : Int)) = true → K (Value.bool false) w13) ∧
  (decide ((↑k5 : Int) > (255 : Int)) = false →
  ∃ (h2 : Nat → List Value → World → Prop),
  (∃ (k7 : Nat), h2 k7 [Value.int IntKind.i64 (0 : Int)] w13) ∧
  ∀ (k8 : Nat) (w17 : World) (v2 : Value) (n16 : Int) (v3 v4 v5 v6 v7 v8 v9 v10 v11 v12 v13 v14 v15 v16 : Value),
  h2 k8 [Value.int IntKind.i64 n16] w17 →
  ∃ (q4 : Option Addr),
  ∃ (k9 : Nat),
  ∃ (k10 : Nat),
  cellAt w17 (Addr.add a1 (5 : Nat)) (Value.slice q4 k9 k10) ∧
  (decide (n16 < (↑k9 : Int)) = true →
  ∃ (q5 : Option Addr),
  ∃ (k11 : Nat),
  ∃ (k12 : Nat),
  cellAt w17 (Addr.add a1 (5 : Nat)) (Value.slice q5 k11 k12) ∧
  (0 : Int) ≤ n16 ∧
  n16 < (↑k11 : Int) ∧
  someR q5 fun (a2 : Addr) =>
  ∃ (q6 : Option Addr),
  ∃ (k13 : Nat),
  ∃ (k14 : Nat),
  cellAt w17 (Addr.add a2 (Int.toNat n16 * (1 : Nat))) (Value.slice q6 k13 k14) ∧
  Rets Try.prog (81 : Nat) { toList := [Value.slice q6 k13 k14] } w17 fun (v17 : Value) (w18 : World) =>
  ∃ (b1 : Bool),
  v17 = Value.bool b1 ∧
  ((!b1) = true → K (Value.bool false) w18) ∧
  ((!b1) = false →
  ∃ (k15 : Nat), k15 < k8 ∧ h2 k15 [Value.int IntKind.i64 (IntKind.wrap IntKind.i64 (n16 + (1 : Int)))] w18)) ∧
  (decide (n16 < (↑k9 : Int)) = false →
  ∃ (h3 : Nat → List Value → World → Prop),
  (∃ (k16 : Nat), h3 k16 [Value.int IntKind.i64 (0 : Int)] w17) ∧
  ∀ (k17 : Nat) (w19 : World) (v18 : Value) (n17 : Int)
  (v19 v20 v21 v22 v23 v24 v25 v26 v27 v28 v29 v30 v31 v32 v33 v34 v35 v36 v37 v38 v39 : Value),
  h3 k17 [Value.int IntKind.i64 n17] w19 →
  ∃ (q7 : Option Addr),
  ∃ (k18 : Nat),
  ∃ (k19 : Nat),
  cellAt w19 (Addr.add a1 (6 : Nat)) (Value.slice q7 k18 k19) ∧
  (decide (n17 < (↑k18 : Int)) = true →
  ∃ (q8 : Option Addr),
  ∃ (k20 : Nat),
  ∃ (k21 : Nat),
  cellAt w19 (Addr.add a1 (6 : Nat)) (Value.slice q8 k20 k21) ∧
  (0 : Int) ≤ n17 ∧
  n17 < (↑k20 : Int) ∧
  someR q8 fun (a3 : Addr) =>
  ∃ (n18 : Int),
  cellAt w19 (Addr.add a3 (Int.toNat n17 * (1 : Nat))) (Value.int IntKind.i64 n18) ∧
  (decide (n18 < (0 : Int)) = false →
  ∃ (q9 : Option Addr),
  ∃ (k22 : Nat),
  ∃ (k23 : Nat),
  cellAt w19 (Addr.add a1 (6 : Nat)) (Value.slice q9 k22 k23) ∧
  (0 : Int) ≤ n17 ∧
  n17 < (↑k22 : Int) ∧
  someR q9 fun (a4 : Addr) =>
  ∃ (n19 : Int),
  cellAt w19 (Addr.add a4 (Int.toNat n17 * (1 : Nat))) (Value.int IntKind.i64 n19) ∧
  (decide (n19 > (255 : Int)) = true → K (Value.bool false) w19) ∧
  (decide (n19 > (255 : Int)) = false →
  ∃ (k24 : Nat), k24 < k17 ∧ h3 k24 [Value.int IntKind.i64 (IntKind.wrap IntKind.i64 (n17 + (1 : Int)))] w19)) ∧
  (decide (n18 < (0 : Int)) = true → K (Value.bool false) w19)) ∧
  (decide (n17 < (↑k18 : Int)) = false → K (Value.bool true) w19)))) ∧
  (decide ((↑k3 : Int) > (4096 : Int)) = true → K (Value.bool false) w13)) ∧
  (decide ((↑k1 : Int) > (6 : Int)) = true → K (Value.bool false) w13)) ∧
  ((!(n11 == n6 && (n12 == n7 && (n13 == n8 && (n14 == n9 && n15 == n10))))) = true → K (Value.bool false) w13)
theorem cortadoref18_Right_eq (c0 c1 c2 c3 c4 : Int) (q : Option Addr) (l c : Nat) (q2 : Option Addr) (l2 d2 : Nat) (q3 : Option Addr) (l3 d3 : Nat) (w : World) (K : Value → World → Prop) : fw Try.prog Try.f15 (annL [(2, [(2, none), (3, some 3), (29, none), (30, none), (31, none), (32, none), (33, none), (34, none), (35, none), (36, none), (37, none), (38, none), (39, none), (40, none), (41, none), (42, none)]), (7, [(2, none), (4, some 3), (43, none), (44, none), (45, none), (46, none), (47, none), (48, none), (49, none), (50, none), (51, none), (52, none), (53, none), (54, none), (55, none), (56, none), (57, none), (58, none), (59, none), (60, none), (61, none), (62, none), (63, none)])]) (ordL [(1, [(0, 0), (3, 0), (1, 1), (4, 1), (2, 2), (5, 0), (6, 0), (7, 0), (8, 1), (9, 0), (10, 0), (11, 0), (12, 0), (13, 0), (14, 1), (15, 0), (16, 0), (17, 0), (18, 0), (19, 0), (20, 1), (21, 0), (22, 0), (23, 0)])]) [.agg #[.int .i64 c0, .int .i64 c1, .int .i64 c2, .int .i64 c3, .int .i64 c4, .slice q l c, .slice q2 l2 d2, .slice q3 l3 d3]] w K = cortadoref18_Right_m c0 c1 c2 c3 c4 q l c q2 l2 d2 q3 l3 d3 w K := by kernel_rfl
theorem cortadoref18_Right_go (c0 c1 c2 c3 c4 : Int) (q : Option Addr) (l c : Nat) (q2 : Option Addr) (l2 d2 : Nat) (q3 : Option Addr) (l3 d3 : Nat) {w : World} {K : Value → World → Prop} (h : cortadoref18_Right_m c0 c1 c2 c3 c4 q l c q2 l2 d2 q3 l3 d3 w K) : Rets Try.prog 15 #[.agg #[.int .i64 c0, .int .i64 c1, .int .i64 c2, .int .i64 c3, .int .i64 c4, .slice q l c, .slice q2 l2 d2, .slice q3 l3 d3]] w K :=
  calls_of_fw plain mixed Try.func15 (by kernel_rfl) (by rw [cortadoref18_Right_eq]; exact h)
def cortadoref18_numbers_m (q : Option Addr) (l c : Nat) (q2 : Option Addr) (l2 c2 : Nat) (w : World) (K : Value → World → Prop) : Prop :=
  (((↑l : Int) != (↑l2 : Int)) = true → K (Value.bool false) w) ∧
  (((↑l : Int) != (↑l2 : Int)) = false →
  ∃ (h1 : Nat → List Value → World → Prop),
  (∃ (k1 : Nat), h1 k1 [Value.int IntKind.i64 (0 : Int)] w) ∧
  ∀ (k2 : Nat) (w1 : World) (v1 : Value) (n1 : Int) (v2 v3 v4 v5 v6 v7 v8 v9 v10 v11 v12 v13 v14 v15 v16 : Value),
  h1 k2 [Value.int IntKind.i64 n1] w1 →
  (decide (n1 < (↑l : Int)) = true →
  Drw w1 fun (w2 : World) =>
  (0 : Int) ≤ n1 ∧
  n1 < (↑l : Int) ∧
  someR q fun (a1 : Addr) =>
  (0 : Int) ≤ n1 ∧
  n1 < (↑l2 : Int) ∧
  someR q2 fun (a2 : Addr) =>
  ∃ (n2 : Int),
  cellAt w2 (Addr.add a1 (Int.toNat n1 * (1 : Nat))) (Value.int IntKind.i64 n2) ∧
  ∃ (n3 : Int),
  cellAt w2 (Addr.add a2 (Int.toNat n1 * (1 : Nat))) (Value.int IntKind.i64 n3) ∧
  ((n2 != n3) = true → K (Value.bool false) w2) ∧
  ((n2 != n3) = false →
  ∃ (k3 : Nat), k3 < k2 ∧ h1 k3 [Value.int IntKind.i64 (IntKind.wrap IntKind.i64 (n1 + (1 : Int)))] w2)) ∧
  (decide (n1 < (↑l : Int)) = false → K (Value.bool true) w1))
theorem cortadoref18_numbers_eq (q : Option Addr) (l c : Nat) (q2 : Option Addr) (l2 c2 : Nat) (w : World) (K : Value → World → Prop) : fw Try.prog Try.f76 (annL [(2, [(4, none), (5, some 3), (11, none), (12, none), (13, none), (14, none), (15, none), (16, none), (17, none), (18, none), (19, none), (20, none), (21, none), (22, none), (23, none), (24, none), (25, none)])]) (ordL [(6, [(0, 0), (1, 0), (2, 0), (4, 0), (5, 0), (6, 0), (3, 1), (7, 1), (8, 0)])]) [.slice q l c, .slice q2 l2 c2] w K = cortadoref18_numbers_m q l c q2 l2 c2 w K := by kernel_rfl
theorem cortadoref18_numbers_go (q : Option Addr) (l c : Nat) (q2 : Option Addr) (l2 c2 : Nat) {w : World} {K : Value → World → Prop} (h : cortadoref18_numbers_m q l c q2 l2 c2 w K) : Rets Try.prog 76 #[.slice q l c, .slice q2 l2 c2] w K :=
  calls_of_fw plain mixed Try.func76 (by kernel_rfl) (by rw [cortadoref18_numbers_eq]; exact h)
def cortadoref18_Same_m (c0 c1 c2 c3 c4 : Int) (q : Option Addr) (l c : Nat) (q2 : Option Addr) (l2 d2 : Nat) (q3 : Option Addr) (l3 d3 : Nat) (e0 e1 e2 e3 e4 : Int) (r : Option Addr) (m n : Nat) (r2 : Option Addr) (m2 n2 : Nat) (r3 : Option Addr) (m3 n3 : Nat) (w : World) (K : Value → World → Prop) : Prop :=
  NewR (29 : Nat)
  [Value.int IntKind.i64 c0, Value.int IntKind.i64 c1, Value.int IntKind.i64 c2, Value.int IntKind.i64 c3,
  Value.int IntKind.i64 c4, Value.slice q l c, Value.slice q2 l2 d2, Value.slice q3 l3 d3]
  w fun (a1 : Addr) (w1 : World) =>
  NewR (29 : Nat)
  [Value.int IntKind.i64 e0, Value.int IntKind.i64 e1, Value.int IntKind.i64 e2, Value.int IntKind.i64 e3,
  Value.int IntKind.i64 e4, Value.slice r m n, Value.slice r2 m2 n2, Value.slice r3 m3 n3]
  w1 fun (a2 : Addr) (w2 : World) =>
  ∃ (n1 : Int),
  ∃ (n2 : Int),
  ∃ (n3 : Int),
  ∃ (n4 : Int),
  ∃ (n5 : Int),
  (cellAt w2 (Addr.add (Addr.add a1 (0 : Nat)) (0 : Nat)) (Value.int IntKind.i64 n1) ∧
  cellAt w2 (Addr.add (Addr.add a1 (0 : Nat)) (1 : Nat)) (Value.int IntKind.i64 n2) ∧
  cellAt w2 (Addr.add (Addr.add a1 (0 : Nat)) (2 : Nat)) (Value.int IntKind.i64 n3) ∧
  cellAt w2 (Addr.add (Addr.add a1 (0 : Nat)) (3 : Nat)) (Value.int IntKind.i64 n4) ∧
  cellAt w2 (Addr.add (Addr.add a1 (0 : Nat)) (4 : Nat)) (Value.int IntKind.i64 n5)) ∧
  ∃ (n6 : Int),
  ∃ (n7 : Int),
  ∃ (n8 : Int),
  ∃ (n9 : Int),
  ∃ (n10 : Int),
  (cellAt w2 (Addr.add (Addr.add a2 (0 : Nat)) (0 : Nat)) (Value.int IntKind.i64 n6) ∧
  cellAt w2 (Addr.add (Addr.add a2 (0 : Nat)) (1 : Nat)) (Value.int IntKind.i64 n7) ∧
  cellAt w2 (Addr.add (Addr.add a2 (0 : Nat)) (2 : Nat)) (Value.int IntKind.i64 n8) ∧
  cellAt w2 (Addr.add (Addr.add a2 (0 : Nat)) (3 : Nat)) (Value.int IntKind.i64 n9) ∧
  cellAt w2 (Addr.add (Addr.add a2 (0 : Nat)) (4 : Nat)) (Value.int IntKind.i64 n10)) ∧
  ((!(n1 == n6 && (n2 == n7 && (n3 == n8 && (n4 == n9 && n5 == n10))))) = false →
  ∃ (q1 : Option Addr),
  ∃ (k1 : Nat),
  ∃ (k2 : Nat),
  cellAt w2 (Addr.add a1 (5 : Nat)) (Value.slice q1 k1 k2) ∧
  ∃ (q2 : Option Addr),
  ∃ (k3 : Nat),
  ∃ (k4 : Nat),
  cellAt w2 (Addr.add a2 (5 : Nat)) (Value.slice q2 k3 k4) ∧
  (((↑k1 : Int) != (↑k3 : Int)) = true → K (Value.bool false) w2) ∧
  (((↑k1 : Int) != (↑k3 : Int)) = false →
  ∃ (h1 : Nat → List Value → World → Prop),
  (∃ (k5 : Nat), h1 k5 [Value.int IntKind.i64 (0 : Int)] w2) ∧
  ∀ (k6 : Nat) (w3 : World) (v1 : Value) (n11 : Int)
  (v2 v3 v4 v5 v6 v7 v8 v9 v10 v11 v12 v13 v14 v15 v16 v17 v18 v19 v20 : Value),
  h1 k6 [Value.int IntKind.i64 n11] w3 →
  ∃ (q3 : Option Addr),
  ∃ (k7 : Nat),
  ∃ (k8 : Nat),
  cellAt w3 (Addr.add a1 (5 : Nat)) (Value.slice q3 k7 k8) ∧
  (decide (n11 < (↑k7 : Int)) = true →
  Drw w3 fun (w4 : World) =>
  ∃ (q4 : Option Addr),
  ∃ (k9 : Nat),
  ∃ (k10 : Nat),
  cellAt w4 (Addr.add a1 (5 : Nat)) (Value.slice q4 k9 k10) ∧
  (0 : Int) ≤ n11 ∧
  n11 < (↑k9 : Int) ∧
  someR q4 fun (a3 : Addr) =>
  ∃ (q5 : Option Addr),
  ∃ (k11 : Nat),
  ∃ (k12 : Nat),
  cellAt w4 (Addr.add a3 (Int.toNat n11 * (1 : Nat))) (Value.slice q5 k11 k12) ∧
  ∃ (q6 : Option Addr),
  ∃ (k13 : Nat),
  ∃ (k14 : Nat),
  cellAt w4 (Addr.add a2 (5 : Nat)) (Value.slice q6 k13 k14) ∧
  (0 : Int) ≤ n11 ∧
  n11 < (↑k13 : Int) ∧
  someR q6 fun (a4 : Addr) =>
  ∃ (q7 : Option Addr),
  ∃ (k15 : Nat),
  ∃ (k16 : Nat),
  cellAt w4 (Addr.add a4 (Int.toNat n11 * (1 : Nat))) (Value.slice q7 k15 k16) ∧
  Rets Try.prog (75 : Nat) { toList := [Value.slice q5 k11 k12, Value.slice q7 k15 k16] } w4
  fun (v21 : Value) (w5 : World) =>
  ∃ (b1 : Bool),
  v21 = Value.bool b1 ∧
  ((!b1) = true → K (Value.bool false) w5) ∧
  ((!b1) = false →
  ∃ (k17 : Nat), k17 < k6 ∧ h1 k17 [Value.int IntKind.i64 (IntKind.wrap IntKind.i64 (n11 + (1 : Int)))] w5)) ∧
  (decide (n11 < (↑k7 : Int)) = false →
  ∃ (q8 : Option Addr),
  ∃ (k18 : Nat),
  ∃ (k19 : Nat),
  cellAt w3 (Addr.add a1 (6 : Nat)) (Value.slice q8 k18 k19) ∧
  ∃ (q9 : Option Addr),
  ∃ (k20 : Nat),
  ∃ (k21 : Nat),
  cellAt w3 (Addr.add a2 (6 : Nat)) (Value.slice q9 k20 k21) ∧
  Rets Try.prog (76 : Nat) { toList := [Value.slice q8 k18 k19, Value.slice q9 k20 k21] } w3
  fun (v22 : Value) (w6 : World) =>
  ∃ (b2 : Bool),
  v22 = Value.bool b2 ∧
  (b2 = true →
  ∃ (q10 : Option Addr),
  ∃ (k22 : Nat),
  ∃ (k23 : Nat),
  cellAt w6 (Addr.add a1 (7 : Nat)) (Value.slice q10 k22 k23) ∧
  ∃ (q11 : Option Addr),
  ∃ (k24 : Nat),
  ∃ (k25 : Nat),
  cellAt w6 (Addr.add a2 (7 : Nat)) (Value.slice q11 k24 k25) ∧
  Rets Try.prog (76 : Nat) { toList := [Value.slice q10 k22 k23, Value.slice q11 k24 k25] } w6
  fun (v23 : Value) (w7 : World) => ∃ (b3 : Bool), v23 = Value.bool b3 ∧ K (Value.bool b3) w7) ∧
  (b2 = false → K (Value.bool false) w6)))) ∧
  ((!(n1 == n6 && (n2 == n7 && (n3 == n8 && (n4 == n9 && n5 == n10))))) = true → K (Value.bool false) w2)
theorem cortadoref18_Same_eq (c0 c1 c2 c3 c4 : Int) (q : Option Addr) (l c : Nat) (q2 : Option Addr) (l2 d2 : Nat) (q3 : Option Addr) (l3 d3 : Nat) (e0 e1 e2 e3 e4 : Int) (r : Option Addr) (m n : Nat) (r2 : Option Addr) (m2 n2 : Nat) (r3 : Option Addr) (m3 n3 : Nat) (w : World) (K : Value → World → Prop) : fw Try.prog Try.f13 (annL [(2, [(4, none), (5, some 3), (20, none), (21, none), (22, none), (23, none), (24, none), (25, none), (26, none), (27, none), (28, none), (29, none), (30, none), (31, none), (32, none), (33, none), (34, none), (35, none), (36, none), (37, none), (38, none)])]) (ordL [(6, [(0, 0), (2, 0), (5, 0), (7, 0), (1, 1), (3, 0), (4, 1), (6, 1), (8, 0), (9, 1), (10, 3), (11, 0)])]) [.agg #[.int .i64 c0, .int .i64 c1, .int .i64 c2, .int .i64 c3, .int .i64 c4, .slice q l c, .slice q2 l2 d2, .slice q3 l3 d3], .agg #[.int .i64 e0, .int .i64 e1, .int .i64 e2, .int .i64 e3, .int .i64 e4, .slice r m n, .slice r2 m2 n2, .slice r3 m3 n3]] w K = cortadoref18_Same_m c0 c1 c2 c3 c4 q l c q2 l2 d2 q3 l3 d3 e0 e1 e2 e3 e4 r m n r2 m2 n2 r3 m3 n3 w K := by kernel_rfl
theorem cortadoref18_Same_go (c0 c1 c2 c3 c4 : Int) (q : Option Addr) (l c : Nat) (q2 : Option Addr) (l2 d2 : Nat) (q3 : Option Addr) (l3 d3 : Nat) (e0 e1 e2 e3 e4 : Int) (r : Option Addr) (m n : Nat) (r2 : Option Addr) (m2 n2 : Nat) (r3 : Option Addr) (m3 n3 : Nat) {w : World} {K : Value → World → Prop} (h : cortadoref18_Same_m c0 c1 c2 c3 c4 q l c q2 l2 d2 q3 l3 d3 e0 e1 e2 e3 e4 r m n r2 m2 n2 r3 m3 n3 w K) : Rets Try.prog 13 #[.agg #[.int .i64 c0, .int .i64 c1, .int .i64 c2, .int .i64 c3, .int .i64 c4, .slice q l c, .slice q2 l2 d2, .slice q3 l3 d3], .agg #[.int .i64 e0, .int .i64 e1, .int .i64 e2, .int .i64 e3, .int .i64 e4, .slice r m n, .slice r2 m2 n2, .slice r3 m3 n3]] w K :=
  calls_of_fw plain mixed Try.func13 (by kernel_rfl) (by rw [cortadoref18_Same_eq]; exact h)
def cortadoref18_Parse_m (q : Option Addr) (l c : Nat) (w : World) (K : Value → World → Prop) : Prop :=
  NewR (29 : Nat)
  [Value.int IntKind.i64 (0 : Int), Value.int IntKind.i64 (0 : Int), Value.int IntKind.i64 (0 : Int),
  Value.int IntKind.i64 (0 : Int), Value.int IntKind.i64 (0 : Int), Value.slice none (0 : Nat) (0 : Nat),
  Value.slice none (0 : Nat) (0 : Nat), Value.slice none (0 : Nat) (0 : Nat)]
  w fun (a1 : Addr) (w1 : World) =>
  (decide ((↑l : Int) > (16384 : Int)) = true →
  (0 : Int) ≤ (16384 : Int) ∧
  (16384 : Int) ≤ (↑c : Int) ∧
  NewR (99 : Nat)
  [Value.slice (slcA q (0 : Nat) c (1 : Nat)) (16384 : Nat) (c - (0 : Nat)), Value.int IntKind.i64 (0 : Int)] w1
  fun (a2 : Addr) (w2 : World) =>
  NewR (29 : Nat)
  [Value.int IntKind.i64 (0 : Int), Value.int IntKind.i64 (0 : Int), Value.int IntKind.i64 (0 : Int),
  Value.int IntKind.i64 (0 : Int), Value.int IntKind.i64 (0 : Int), Value.slice none (0 : Nat) (0 : Nat),
  Value.slice none (0 : Nat) (0 : Nat), Value.slice none (0 : Nat) (0 : Nat)]
  w2 fun (a3 : Addr) (w3 : World) =>
  Rets Try.prog (77 : Nat) { toList := [Value.pointer (some a2)] } w3 fun (v1 : Value) (w4 : World) =>
  ∃ (n1 : Int),
  v1 = Value.int IntKind.i64 n1 ∧
  Rets Try.prog (78 : Nat) { toList := [Value.pointer (some a2), Value.int IntKind.i64 (64 : Int)] } w4
  fun (v2 : Value) (w5 : World) =>
  ∃ (n2 : Int),
  v2 = Value.int IntKind.i64 n2 ∧
  Rets Try.prog (78 : Nat) { toList := [Value.pointer (some a2), Value.int IntKind.i64 (16 : Int)] } w5
  fun (v3 : Value) (w6 : World) =>
  ∃ (n3 : Int),
  v3 = Value.int IntKind.i64 n3 ∧
  Rets Try.prog (78 : Nat) { toList := [Value.pointer (some a2), Value.int IntKind.i64 (65 : Int)] } w6
  fun (v4 : Value) (w7 : World) =>
  ∃ (n4 : Int),
  v4 = Value.int IntKind.i64 n4 ∧
  Rets Try.prog (77 : Nat) { toList := [Value.pointer (some a2)] } w7 fun (v5 : Value) (w8 : World) =>
  ∃ (n5 : Int),
  v5 = Value.int IntKind.i64 n5 ∧
  Rets Try.prog (53 : Nat)
  {
  toList :=
  [Value.agg
  {
  toList :=
  [Value.int IntKind.i64 n1, Value.int IntKind.i64 (IntKind.wrap IntKind.i64 (n2 + (1 : Int))), Value.int IntKind.i64 n5,
  Value.int IntKind.i64 (IntKind.wrap IntKind.i64 (n3 + (1 : Int))), Value.int IntKind.i64 n4] }] }
  w8 fun (v6 : Value) (w9 : World) =>
  ∃ (n6 : Int),
  ∃ (n7 : Int),
  ∃ (n8 : Int),
  ∃ (n9 : Int),
  ∃ (n10 : Int),
  v6 =
  Value.agg
  {
  toList :=
  [Value.int IntKind.i64 n6, Value.int IntKind.i64 n7, Value.int IntKind.i64 n8, Value.int IntKind.i64 n9,
  Value.int IntKind.i64 n10] } ∧
  StoreR (Addr.add a3 (0 : Nat))
  [Value.int IntKind.i64 n6, Value.int IntKind.i64 n7, Value.int IntKind.i64 n8, Value.int IntKind.i64 n9,
  Value.int IntKind.i64 n10]
  w9 fun (w10 : World) =>
  Rets Try.prog (78 : Nat) { toList := [Value.pointer (some a2), Value.int IntKind.i64 (7 : Int)] } w10
  fun (v7 : Value) (w11 : World) =>
  ∃ (n11 : Int),
  v7 = Value.int IntKind.i64 n11 ∧
  ∃ (h1 : Nat → List Value → World → Prop),
  (∃ (k1 : Nat), h1 k1 [Value.int IntKind.i64 (0 : Int)] w11) ∧
  ∀ (k2 : Nat) (w12 : World) (n12 : Int) (v8 v9 v10 v11 v12 v13 v14 v15 v16 v17 v18 v19 : Value),
  h1 k2 [Value.int IntKind.i64 n12] w12 →
  (decide (n12 < n11) = true →
  Drw w12 fun (w13 : World) =>
  ∃ (h2 : World → Prop),
  h2 w13 ∧
  ∃ (q1 : Option Addr),
  ∃ (k3 : Nat),
  ∃ (k4 : Nat),
  (∀ (w14 : World), h2 w14 → World.cell? w14 (Addr.add a3 (5 : Nat)) = some (Value.slice q1 k3 k4)) ∧
  Rets Try.prog (79 : Nat) { toList := [Value.pointer (some a2)] } w13 fun (v20 : Value) (w15 : World) =>
  ∃ (q2 : Option Addr),
  ∃ (k5 : Nat),
  ∃ (k6 : Nat),
  v20 = Value.slice q2 k5 k6 ∧
  h2 w15 ∧
  NewR (76 : Nat) [Value.slice q2 k5 k6] w15 fun (a4 : Addr) (w16 : World) =>
  h2 w16 ∧
  RunR Try.prog
  (builtinV Builtin.append { toList := [(26 : Nat), (26 : Nat)] } (nat_lit 26)
  { toList := [Value.slice q1 k3 k4, Value.slice (some a4) (1 : Nat) (1 : Nat)] })
  w16 fun (v21 : Value) (w17 : World) =>
  ∃ (q3 : Option Addr),
  ∃ (k7 : Nat),
  ∃ (k8 : Nat),
  v21 = Value.slice q3 k7 k8 ∧
  StoreR (Addr.add a3 (5 : Nat)) [Value.slice q3 k7 k8] w17 fun (w18 : World) =>
  ∃ (k9 : Nat), k9 < k2 ∧ h1 k9 [Value.int IntKind.i64 (IntKind.wrap IntKind.i64 (n12 + (1 : Int)))] w18) ∧
  (decide (n12 < n11) = false →
  Rets Try.prog (80 : Nat) { toList := [Value.pointer (some a2)] } w12 fun (v22 : Value) (w19 : World) =>
  ∃ (n13 : Int),
  v22 = Value.int IntKind.i64 n13 ∧
  ∃ (h3 : Nat → List Value → World → Prop),
  (∃ (k10 : Nat), h3 k10 [Value.int IntKind.i64 (0 : Int)] w19) ∧
  ∀ (k11 : Nat) (w20 : World) (n14 : Int) (v23 v24 v25 v26 v27 v28 v29 v30 v31 v32 v33 v34 : Value),
  h3 k11 [Value.int IntKind.i64 n14] w20 →
  (decide (n14 < n13) = true →
  Drw w20 fun (w21 : World) =>
  ∃ (h4 : World → Prop),
  h4 w21 ∧
  ∃ (q4 : Option Addr),
  ∃ (k12 : Nat),
  ∃ (k13 : Nat),
  (∀ (w22 : World), h4 w22 → World.cell? w22 (Addr.add a3 (7 : Nat)) = some (Value.slice q4 k12 k13)) ∧
  Rets Try.prog (77 : Nat) { toList := [Value.pointer (some a2)] } w21 fun (v35 : Value) (w23 : World) =>
  ∃ (n15 : Int),
  v35 = Value.int IntKind.i64 n15 ∧
  h4 w23 ∧
  NewR (3 : Nat) [Value.int IntKind.i64 n15] w23 fun (a5 : Addr) (w24 : World) =>
  h4 w24 ∧
  RunR Try.prog
  (builtinV Builtin.append { toList := [(27 : Nat), (27 : Nat)] } (nat_lit 27)
  { toList := [Value.slice q4 k12 k13, Value.slice (some a5) (1 : Nat) (1 : Nat)] })
  w24 fun (v36 : Value) (w25 : World) =>
  ∃ (q5 : Option Addr),
  ∃ (k14 : Nat),
  ∃ (k15 : Nat),
  v36 = Value.slice q5 k14 k15 ∧
  StoreR (Addr.add a3 (7 : Nat)) [Value.slice q5 k14 k15] w25 fun (w26 : World) =>
  ∃ (k16 : Nat), k16 < k11 ∧ h3 k16 [Value.int IntKind.i64 (IntKind.wrap IntKind.i64 (n14 + (1 : Int)))] w26) ∧
  (decide (n14 < n13) = false →
  ∃ (h5 : Nat → List Value → World → Prop),
  (∃ (k17 : Nat), h5 k17 [] w20) ∧
  ∀ (k18 : Nat) (w27 : World)
  (v37 v38 v39 v40 v41 v42 v43 v44 v45 v46 v47 v48 v49 v50 v51 v52 v53 v54 v55 v56 v57 v58 v59 : Value),
  h5 k18 [] w27 →
  Drw w27 fun (w28 : World) =>
  ∃ (n16 : Int),
  cellAt w28 (Addr.add a2 (1 : Nat)) (Value.int IntKind.i64 n16) ∧
  ∃ (q6 : Option Addr),
  ∃ (k19 : Nat),
  ∃ (k20 : Nat),
  cellAt w28 (Addr.add a2 (0 : Nat)) (Value.slice q6 k19 k20) ∧
  (decide (n16 < (↑k19 : Int)) = true →
  ∃ (q7 : Option Addr),
  ∃ (k21 : Nat),
  ∃ (k22 : Nat),
  cellAt w28 (Addr.add a3 (6 : Nat)) (Value.slice q7 k21 k22) ∧
  (decide ((↑k21 : Int) < (4096 : Int)) = true →
  Drw w28 fun (w29 : World) =>
  ∃ (h6 : World → Prop),
  h6 w29 ∧
  ∃ (q8 : Option Addr),
  ∃ (k23 : Nat),
  ∃ (k24 : Nat),
  (∀ (w30 : World), h6 w30 → World.cell? w30 (Addr.add a3 (6 : Nat)) = some (Value.slice q8 k23 k24)) ∧
  Rets Try.prog (80 : Nat) { toList := [Value.pointer (some a2)] } w29 fun (v60 : Value) (w31 : World) =>
  ∃ (n17 : Int),
  v60 = Value.int IntKind.i64 n17 ∧
  h6 w31 ∧
  NewR (3 : Nat) [Value.int IntKind.i64 n17] w31 fun (a6 : Addr) (w32 : World) =>
  h6 w32 ∧
  RunR Try.prog
  (builtinV Builtin.append { toList := [(27 : Nat), (27 : Nat)] } (nat_lit 27)
  { toList := [Value.slice q8 k23 k24, Value.slice (some a6) (1 : Nat) (1 : Nat)] })
  w32 fun (v61 : Value) (w33 : World) =>
  ∃ (q9 : Option Addr),
  ∃ (k25 : Nat),
  ∃ (k26 : Nat),
  v61 = Value.slice q9 k25 k26 ∧
  StoreR (Addr.add a3 (6 : Nat)) [Value.slice q9 k25 k26] w33 fun (w34 : World) =>
  ∃ (k27 : Nat), k27 < k18 ∧ h5 k27 [] w34) ∧
  (decide ((↑k21 : Int) < (4096 : Int)) = false →
  ∃ (n18 : Int),
  ∃ (n19 : Int),
  ∃ (n20 : Int),
  ∃ (n21 : Int),
  ∃ (n22 : Int),
  ∃ (q10 : Option Addr),
  ∃ (k28 : Nat),
  ∃ (k29 : Nat),
  ∃ (q11 : Option Addr),
  ∃ (k30 : Nat),
  ∃ (k31 : Nat),
  ∃ (q12 : Option Addr),
  ∃ (k32 : Nat),
  ∃ (k33 : Nat),
  (cellAt w28 (Addr.add a3 (0 : Nat)) (Value.int IntKind.i64 n18) ∧
  cellAt w28 (Addr.add a3 (1 : Nat)) (Value.int IntKind.i64 n19) ∧
  cellAt w28 (Addr.add a3 (2 : Nat)) (Value.int IntKind.i64 n20) ∧
  cellAt w28 (Addr.add a3 (3 : Nat)) (Value.int IntKind.i64 n21) ∧
  cellAt w28 (Addr.add a3 (4 : Nat)) (Value.int IntKind.i64 n22) ∧
  cellAt w28 (Addr.add a3 (5 : Nat)) (Value.slice q10 k28 k29) ∧
  cellAt w28 (Addr.add a3 (6 : Nat)) (Value.slice q11 k30 k31) ∧
  cellAt w28 (Addr.add a3 (7 : Nat)) (Value.slice q12 k32 k33)) ∧
  StoreR a1
  [Value.int IntKind.i64 n18, Value.int IntKind.i64 n19, Value.int IntKind.i64 n20, Value.int IntKind.i64 n21,
  Value.int IntKind.i64 n22, Value.slice q10 k28 k29, Value.slice q11 k30 k31, Value.slice q12 k32 k33]
  w28 fun (w35 : World) =>
  ∃ (n23 : Int),
  ∃ (n24 : Int),
  ∃ (n25 : Int),
  ∃ (n26 : Int),
  ∃ (n27 : Int),
  ∃ (q13 : Option Addr),
  ∃ (k34 : Nat),
  ∃ (k35 : Nat),
  ∃ (q14 : Option Addr),
  ∃ (k36 : Nat),
  ∃ (k37 : Nat),
  ∃ (q15 : Option Addr),
  ∃ (k38 : Nat),
  ∃ (k39 : Nat),
  (cellAt w35 (Addr.add a1 (0 : Nat)) (Value.int IntKind.i64 n23) ∧
  cellAt w35 (Addr.add a1 (1 : Nat)) (Value.int IntKind.i64 n24) ∧
  cellAt w35 (Addr.add a1 (2 : Nat)) (Value.int IntKind.i64 n25) ∧
  cellAt w35 (Addr.add a1 (3 : Nat)) (Value.int IntKind.i64 n26) ∧
  cellAt w35 (Addr.add a1 (4 : Nat)) (Value.int IntKind.i64 n27) ∧
  cellAt w35 (Addr.add a1 (5 : Nat)) (Value.slice q13 k34 k35) ∧
  cellAt w35 (Addr.add a1 (6 : Nat)) (Value.slice q14 k36 k37) ∧
  cellAt w35 (Addr.add a1 (7 : Nat)) (Value.slice q15 k38 k39)) ∧
  K
  (Value.agg
  {
  toList :=
  [Value.int IntKind.i64 n23, Value.int IntKind.i64 n24, Value.int IntKind.i64 n25, Value.int IntKind.i64 n26,
  Value.int IntKind.i64 n27, Value.slice q13 k34 k35, Value.slice q14 k36 k37, Value.slice q15 k38 k39] })
  w35)) ∧
  (decide (n16 < (↑k19 : Int)) = false →
  ∃ (n28 : Int),
  ∃ (n29 : Int),
  ∃ (n30 : Int),
  ∃ (n31 : Int),
  ∃ (n32 : Int),
  ∃ (q16 : Option Addr),
  ∃ (k40 : Nat),
  ∃ (k41 : Nat),
  ∃ (q17 : Option Addr),
  ∃ (k42 : Nat),
  ∃ (k43 : Nat),
  ∃ (q18 : Option Addr),
  ∃ (k44 : Nat),
  ∃ (k45 : Nat),
  (cellAt w28 (Addr.add a3 (0 : Nat)) (Value.int IntKind.i64 n28) ∧
  cellAt w28 (Addr.add a3 (1 : Nat)) (Value.int IntKind.i64 n29) ∧
  cellAt w28 (Addr.add a3 (2 : Nat)) (Value.int IntKind.i64 n30) ∧
  cellAt w28 (Addr.add a3 (3 : Nat)) (Value.int IntKind.i64 n31) ∧
  cellAt w28 (Addr.add a3 (4 : Nat)) (Value.int IntKind.i64 n32) ∧
  cellAt w28 (Addr.add a3 (5 : Nat)) (Value.slice q16 k40 k41) ∧
  cellAt w28 (Addr.add a3 (6 : Nat)) (Value.slice q17 k42 k43) ∧
  cellAt w28 (Addr.add a3 (7 : Nat)) (Value.slice q18 k44 k45)) ∧
  StoreR a1
  [Value.int IntKind.i64 n28, Value.int IntKind.i64 n29, Value.int IntKind.i64 n30, Value.int IntKind.i64 n31,
  Value.int IntKind.i64 n32, Value.slice q16 k40 k41, Value.slice q17 k42 k43, Value.slice q18 k44 k45]
  w28 fun (w36 : World) =>
  ∃ (n33 : Int),
  ∃ (n34 : Int),
  ∃ (n35 : Int),
  ∃ (n36 : Int),
  ∃ (n37 : Int),
  ∃ (q19 : Option Addr),
  ∃ (k46 : Nat),
  ∃ (k47 : Nat),
  ∃ (q20 : Option Addr),
  ∃ (k48 : Nat),
  ∃ (k49 : Nat),
  ∃ (q21 : Option Addr),
  ∃ (k50 : Nat),
  ∃ (k51 : Nat),
  (cellAt w36 (Addr.add a1 (0 : Nat)) (Value.int IntKind.i64 n33) ∧
  cellAt w36 (Addr.add a1 (1 : Nat)) (Value.int IntKind.i64 n34) ∧
  cellAt w36 (Addr.add a1 (2 : Nat)) (Value.int IntKind.i64 n35) ∧
  cellAt w36 (Addr.add a1 (3 : Nat)) (Value.int IntKind.i64 n36) ∧
  cellAt w36 (Addr.add a1 (4 : Nat)) (Value.int IntKind.i64 n37) ∧
  cellAt w36 (Addr.add a1 (5 : Nat)) (Value.slice q19 k46 k47) ∧
  cellAt w36 (Addr.add a1 (6 : Nat)) (Value.slice q20 k48 k49) ∧
  cellAt w36 (Addr.add a1 (7 : Nat)) (Value.slice q21 k50 k51)) ∧
  K
  (Value.agg
  {
  toList :=
  [Value.int IntKind.i64 n33, Value.int IntKind.i64 n34, Value.int IntKind.i64 n35, Value.int IntKind.i64 n36,
  Value.int IntKind.i64 n37, Value.slice q19 k46 k47, Value.slice q20 k48 k49, Value.slice q21 k50 k51] })
  w36)))) ∧
  (decide ((↑l : Int) > (16384 : Int)) = false →
  NewR (99 : Nat) [Value.slice q l c, Value.int IntKind.i64 (0 : Int)] w1 fun (a7 : Addr) (w37 : World) =>
  NewR (29 : Nat)
  [Value.int IntKind.i64 (0 : Int), Value.int IntKind.i64 (0 : Int), Value.int IntKind.i64 (0 : Int),
  Value.int IntKind.i64 (0 : Int), Value.int IntKind.i64 (0 : Int), Value.slice none (0 : Nat) (0 : Nat),
  Value.slice none (0 : Nat) (0 : Nat), Value.slice none (0 : Nat) (0 : Nat)]
  w37 fun (a8 : Addr) (w38 : World) =>
  Rets Try.prog (77 : Nat) { toList := [Value.pointer (some a7)] } w38 fun (v62 : Value) (w39 : World) =>
  ∃ (n38 : Int),
  v62 = Value.int IntKind.i64 n38 ∧
  Rets Try.prog (78 : Nat) { toList := [Value.pointer (some a7), Value.int IntKind.i64 (64 : Int)] } w39
  fun (v63 : Value) (w40 : World) =>
  ∃ (n39 : Int),
  v63 = Value.int IntKind.i64 n39 ∧
  Rets Try.prog (78 : Nat) { toList := [Value.pointer (some a7), Value.int IntKind.i64 (16 : Int)] } w40
  fun (v64 : Value) (w41 : World) =>
  ∃ (n40 : Int),
  v64 = Value.int IntKind.i64 n40 ∧
  Rets Try.prog (78 : Nat) { toList := [Value.pointer (some a7), Value.int IntKind.i64 (65 : Int)] } w41
  fun (v65 : Value) (w42 : World) =>
  ∃ (n41 : Int),
  v65 = Value.int IntKind.i64 n41 ∧
  Rets Try.prog (77 : Nat) { toList := [Value.pointer (some a7)] } w42 fun (v66 : Value) (w43 : World) =>
  ∃ (n42 : Int),
  v66 = Value.int IntKind.i64 n42 ∧
  Rets Try.prog (53 : Nat)
  {
  toList :=
  [Value.agg
  {
  toList :=
  [Value.int IntKind.i64 n38, Value.int IntKind.i64 (IntKind.wrap IntKind.i64 (n39 + (1 : Int))),
  Value.int IntKind.i64 n42, Value.int IntKind.i64 (IntKind.wrap IntKind.i64 (n40 + (1 : Int))),
  Value.int IntKind.i64 n41] }] }
  w43 fun (v67 : Value) (w44 : World) =>
  ∃ (n43 : Int),
  ∃ (n44 : Int),
  ∃ (n45 : Int),
  ∃ (n46 : Int),
  ∃ (n47 : Int),
  v67 =
  Value.agg
  {
  toList :=
  [Value.int IntKind.i64 n43, Value.int IntKind.i64 n44, Value.int IntKind.i64 n45, Value.int IntKind.i64 n46,
  Value.int IntKind.i64 n47] } ∧
  StoreR (Addr.add a8 (0 : Nat))
  [Value.int IntKind.i64 n43, Value.int IntKind.i64 n44, Value.int IntKind.i64 n45, Value.int IntKind.i64 n46,
  Value.int IntKind.i64 n47]
  w44 fun (w45 : World) =>
  Rets Try.prog (78 : Nat) { toList := [Value.pointer (some a7), Value.int IntKind.i64 (7 : Int)] } w45
  fun (v68 : Value) (w46 : World) =>
  ∃ (n48 : Int),
  v68 = Value.int IntKind.i64 n48 ∧
  ∃ (h7 : Nat → List Value → World → Prop),
  (∃ (k52 : Nat), h7 k52 [Value.int IntKind.i64 (0 : Int)] w46) ∧
  ∀ (k53 : Nat) (w47 : World) (n49 : Int) (v69 v70 v71 v72 v73 v74 v75 v76 v77 v78 v79 v80 : Value),
  h7 k53 [Value.int IntKind.i64 n49] w47 →
  (decide (n49 < n48) = true →
  Drw w47 fun (w48 : World) =>
  ∃ (h8 : World → Prop),
  h8 w48 ∧
  ∃ (q22 : Option Addr),
  ∃ (k54 : Nat),
  ∃ (k55 : Nat),
  (∀ (w49 : World), h8 w49 → World.cell? w49 (Addr.add a8 (5 : Nat)) = some (Value.slice q22 k54 k55)) ∧
  Rets Try.prog (79 : Nat) { toList := [Value.pointer (some a7)] } w48 fun (v81 : Value) (w50 : World) =>
  ∃ (q23 : Option Addr),
  ∃ (k56 : Nat),
  ∃ (k57 : Nat),
  v81 = Value.slice q23 k56 k57 ∧
  h8 w50 ∧
  NewR (76 : Nat) [Value.slice q23 k56 k57] w50 fun (a9 : Addr) (w51 : World) =>
  h8 w51 ∧
  RunR Try.prog
  (builtinV Builtin.append { toList := [(26 : Nat), (26 : Nat)] } (nat_lit 26)
  { toList := [Value.slice q22 k54 k55, Value.slice (some a9) (1 : Nat) (1 : Nat)] })
  w51 fun (v82 : Value) (w52 : World) =>
  ∃ (q24 : Option Addr),
  ∃ (k58 : Nat),
  ∃ (k59 : Nat),
  v82 = Value.slice q24 k58 k59 ∧
  StoreR (Addr.add a8 (5 : Nat)) [Value.slice q24 k58 k59] w52 fun (w53 : World) =>
  ∃ (k60 : Nat), k60 < k53 ∧ h7 k60 [Value.int IntKind.i64 (IntKind.wrap IntKind.i64 (n49 + (1 : Int)))] w53) ∧
  (decide (n49 < n48) = false →
  Rets Try.prog (80 : Nat) { toList := [Value.pointer (some a7)] } w47 fun (v83 : Value) (w54 : World) =>
  ∃ (n50 : Int),
  v83 = Value.int IntKind.i64 n50 ∧
  ∃ (h9 : Nat → List Value → World → Prop),
  (∃ (k61 : Nat), h9 k61 [Value.int IntKind.i64 (0 : Int)] w54) ∧
  ∀ (k62 : Nat) (w55 : World) (n51 : Int) (v84 v85 v86 v87 v88 v89 v90 v91 v92 v93 v94 v95 : Value),
  h9 k62 [Value.int IntKind.i64 n51] w55 →
  (decide (n51 < n50) = true →
  Drw w55 fun (w56 : World) =>
  ∃ (h10 : World → Prop),
  h10 w56 ∧
  ∃ (q25 : Option Addr),
  ∃ (k63 : Nat),
  ∃ (k64 : Nat),
  (∀ (w57 : World), h10 w57 → World.cell? w57 (Addr.add a8 (7 : Nat)) = some (Value.slice q25 k63 k64)) ∧
  Rets Try.prog (77 : Nat) { toList := [Value.pointer (some a7)] } w56 fun (v96 : Value) (w58 : World) =>
  ∃ (n52 : Int),
  v96 = Value.int IntKind.i64 n52 ∧
  h10 w58 ∧
  NewR (3 : Nat) [Value.int IntKind.i64 n52] w58 fun (a10 : Addr) (w59 : World) =>
  h10 w59 ∧
  RunR Try.prog
  (builtinV Builtin.append { toList := [(27 : Nat), (27 : Nat)] } (nat_lit 27)
  { toList := [Value.slice q25 k63 k64, Value.slice (some a10) (1 : Nat) (1 : Nat)] })
  w59 fun (v97 : Value) (w60 : World) =>
  ∃ (q26 : Option Addr),
  ∃ (k65 : Nat),
  ∃ (k66 : Nat),
  v97 = Value.slice q26 k65 k66 ∧
  StoreR (Addr.add a8 (7 : Nat)) [Value.slice q26 k65 k66] w60 fun (w61 : World) =>
  ∃ (k67 : Nat), k67 < k62 ∧ h9 k67 [Value.int IntKind.i64 (IntKind.wrap IntKind.i64 (n51 + (1 : Int)))] w61) ∧
  (decide (n51 < n50) = false →
  ∃ (h11 : Nat → List Value → World → Prop),
  (∃ (k68 : Nat), h11 k68 [] w55) ∧
  ∀ (k69 : Nat) (w62 : World)
  (v98 v99 v100 v101 v102 v103 v104 v105 v106 v107 v108 v109 v110 v111 v112 v113 v114 v115 v116 v117 v118 v119 v120 :
  Value),
  h11 k69 [] w62 →
  Drw w62 fun (w63 : World) =>
  ∃ (n53 : Int),
  cellAt w63 (Addr.add a7 (1 : Nat)) (Value.int IntKind.i64 n53) ∧
  ∃ (q27 : Option Addr),
  ∃ (k70 : Nat),
  ∃ (k71 : Nat),
  cellAt w63 (Addr.add a7 (0 : Nat)) (Value.slice q27 k70 k71) ∧
  (decide (n53 < (↑k70 : Int)) = true →
  ∃ (q28 : Option Addr),
  ∃ (k72 : Nat),
  ∃ (k73 : Nat),
  cellAt w63 (Addr.add a8 (6 : Nat)) (Value.slice q28 k72 k73) ∧
  (decide ((↑k72 : Int) < (4096 : Int)) = true →
  Drw w63 fun (w64 : World) =>
  ∃ (h12 : World → Prop),
  h12 w64 ∧
  ∃ (q29 : Option Addr),
  ∃ (k74 : Nat),
  ∃ (k75 : Nat),
  (∀ (w65 : World), h12 w65 → World.cell? w65 (Addr.add a8 (6 : Nat)) = some (Value.slice q29 k74 k75)) ∧
  Rets Try.prog (80 : Nat) { toList := [Value.pointer (some a7)] } w64 fun (v121 : Value) (w66 : World) =>
  ∃ (n54 : Int),
  v121 = Value.int IntKind.i64 n54 ∧
  h12 w66 ∧
  NewR (3 : Nat) [Value.int IntKind.i64 n54] w66 fun (a11 : Addr) (w67 : World) =>
  h12 w67 ∧
  RunR Try.prog
  (builtinV Builtin.append { toList := [(27 : Nat), (27 : Nat)] } (nat_lit 27)
  { toList := [Value.slice q29 k74 k75, Value.slice (some a11) (1 : Nat) (1 : Nat)] })
  w67 fun (v122 : Value) (w68 : World) =>
  ∃ (q30 : Option Addr),
  ∃ (k76 : Nat),
  ∃ (k77 : Nat),
  v122 = Value.slice q30 k76 k77 ∧
  StoreR (Addr.add a8 (6 : Nat)) [Value.slice q30 k76 k77] w68 fun (w69 : World) =>
  ∃ (k78 : Nat), k78 < k69 ∧ h11 k78 [] w69) ∧
  (decide ((↑k72 : Int) < (4096 : Int)) = false →
  ∃ (n55 : Int),
  ∃ (n56 : Int),
  ∃ (n57 : Int),
  ∃ (n58 : Int),
  ∃ (n59 : Int),
  ∃ (q31 : Option Addr),
  ∃ (k79 : Nat),
  ∃ (k80 : Nat),
  ∃ (q32 : Option Addr),
  ∃ (k81 : Nat),
  ∃ (k82 : Nat),
  ∃ (q33 : Option Addr),
  ∃ (k83 : Nat),
  ∃ (k84 : Nat),
  (cellAt w63 (Addr.add a8 (0 : Nat)) (Value.int IntKind.i64 n55) ∧
  cellAt w63 (Addr.add a8 (1 : Nat)) (Value.int IntKind.i64 n56) ∧
  cellAt w63 (Addr.add a8 (2 : Nat)) (Value.int IntKind.i64 n57) ∧
  cellAt w63 (Addr.add a8 (3 : Nat)) (Value.int IntKind.i64 n58) ∧
  cellAt w63 (Addr.add a8 (4 : Nat)) (Value.int IntKind.i64 n59) ∧
  cellAt w63 (Addr.add a8 (5 : Nat)) (Value.slice q31 k79 k80) ∧
  cellAt w63 (Addr.add a8 (6 : Nat)) (Value.slice q32 k81 k82) ∧
  cellAt w63 (Addr.add a8 (7 : Nat)) (Value.slice q33 k83 k84)) ∧
  StoreR a1
  [Value.int IntKind.i64 n55, Value.int IntKind.i64 n56, Value.int IntKind.i64 n57, Value.int IntKind.i64 n58,
  Value.int IntKind.i64 n59, Value.slice q31 k79 k80, Value.slice q32 k81 k82, Value.slice q33 k83 k84]
  w63 fun (w70 : World) =>
  ∃ (n60 : Int),
  ∃ (n61 : Int),
  ∃ (n62 : Int),
  ∃ (n63 : Int),
  ∃ (n64 : Int),
  ∃ (q34 : Option Addr),
  ∃ (k85 : Nat),
  ∃ (k86 : Nat),
  ∃ (q35 : Option Addr),
  ∃ (k87 : Nat),
  ∃ (k88 : Nat),
  ∃ (q36 : Option Addr),
  ∃ (k89 : Nat),
  ∃ (k90 : Nat),
  (cellAt w70 (Addr.add a1 (0 : Nat)) (Value.int IntKind.i64 n60) ∧
  cellAt w70 (Addr.add a1 (1 : Nat)) (Value.int IntKind.i64 n61) ∧
  cellAt w70 (Addr.add a1 (2 : Nat)) (Value.int IntKind.i64 n62) ∧
  cellAt w70 (Addr.add a1 (3 : Nat)) (Value.int IntKind.i64 n63) ∧
  cellAt w70 (Addr.add a1 (4 : Nat)) (Value.int IntKind.i64 n64) ∧
  cellAt w70 (Addr.add a1 (5 : Nat)) (Value.slice q34 k85 k86) ∧
  cellAt w70 (Addr.add a1 (6 : Nat)) (Value.slice q35 k87 k88) ∧
  cellAt w70 (Addr.add a1 (7 : Nat)) (Value.slice q36 k89 k90)) ∧
  K
  (Value.agg
  {
  toList :=
  [Value.int IntKind.i64 n60, Value.int IntKind.i64 n61, Value.int IntKind.i64 n62, Value.int IntKind.i64 n63,
  Value.int IntKind.i64 n64, Value.slice q34 k85 k86, Value.slice q35 k87 k88, Value.slice q36 k89 k90] })
  w70)) ∧
  (decide (n53 < (↑k70 : Int)) = false →
  ∃ (n65 : Int),
  ∃ (n66 : Int),
  ∃ (n67 : Int),
  ∃ (n68 : Int),
  ∃ (n69 : Int),
  ∃ (q37 : Option Addr),
  ∃ (k91 : Nat),
  ∃ (k92 : Nat),
  ∃ (q38 : Option Addr),
  ∃ (k93 : Nat),
  ∃ (k94 : Nat),
  ∃ (q39 : Option Addr),
  ∃ (k95 : Nat),
  ∃ (k96 : Nat),
  (cellAt w63 (Addr.add a8 (0 : Nat)) (Value.int IntKind.i64 n65) ∧
  cellAt w63 (Addr.add a8 (1 : Nat)) (Value.int IntKind.i64 n66) ∧
  cellAt w63 (Addr.add a8 (2 : Nat)) (Value.int IntKind.i64 n67) ∧
  cellAt w63 (Addr.add a8 (3 : Nat)) (Value.int IntKind.i64 n68) ∧
  cellAt w63 (Addr.add a8 (4 : Nat)) (Value.int IntKind.i64 n69) ∧
  cellAt w63 (Addr.add a8 (5 : Nat)) (Value.slice q37 k91 k92) ∧
  cellAt w63 (Addr.add a8 (6 : Nat)) (Value.slice q38 k93 k94) ∧
  cellAt w63 (Addr.add a8 (7 : Nat)) (Value.slice q39 k95 k96)) ∧
  StoreR a1
  [Value.int IntKind.i64 n65, Value.int IntKind.i64 n66, Value.int IntKind.i64 n67, Value.int IntKind.i64 n68,
  Value.int IntKind.i64 n69, Value.slice q37 k91 k92, Value.slice q38 k93 k94, Value.slice q39 k95 k96]
  w63 fun (w71 : World) =>
  ∃ (n70 : Int),
  ∃ (n71 : Int),
  ∃ (n72 : Int),
  ∃ (n73 : Int),
  ∃ (n74 : Int),
  ∃ (q40 : Option Addr),
  ∃ (k97 : Nat),
  ∃ (k98 : Nat),
  ∃ (q41 : Option Addr),
  ∃ (k99 : Nat),
  ∃ (k100 : Nat),
  ∃ (q42 : Option Addr),
  ∃ (k101 : Nat),
  ∃ (k102 : Nat),
  (cellAt w71 (Addr.add a1 (0 : Nat)) (Value.int IntKind.i64 n70) ∧
  cellAt w71 (Addr.add a1 (1 : Nat)) (Value.int IntKind.i64 n71) ∧
  cellAt w71 (Addr.add a1 (2 : Nat)) (Value.int IntKind.i64 n72) ∧
  cellAt w71 (Addr.add a1 (3 : Nat)) (Value.int IntKind.i64 n73) ∧
  cellAt w71 (Addr.add a1 (4 : Nat)) (Value.int IntKind.i64 n74) ∧
  cellAt w71 (Addr.add a1 (5 : Nat)) (Value.slice q40 k97 k98) ∧
  cellAt w71 (Addr.add a1 (6 : Nat)) (Value.slice q41 k99 k100) ∧
  cellAt w71 (Addr.add a1 (7 : Nat)) (Value.slice q42 k101 k102)) ∧
  K
  (Value.agg
  {
  toList :=
  [Value.int IntKind.i64 n70, Value.int IntKind.i64 n71, Value.int IntKind.i64 n72, Value.int IntKind.i64 n73,
  Value.int IntKind.i64 n74, Value.slice q40 k97 k98, Value.slice q41 k99 k100, Value.slice q42 k101 k102] })
  w71))))
theorem cortadoref18_Parse_eq (q : Option Addr) (l c : Nat) (w : World) (K : Value → World → Prop) : fw Try.prog Try.f14 (annL [(2, [(10, some 3), (41, none), (42, none), (43, none), (44, none), (45, none), (46, none), (47, none), (48, none), (49, none), (50, none), (51, none), (52, none)]), (6, [(11, some 3), (55, none), (56, none), (57, none), (58, none), (59, none), (60, none), (61, none), (62, none), (63, none), (64, none), (65, none), (66, none)]), (10, [(67, none), (68, none), (69, none), (70, none), (71, none), (72, none), (73, none), (74, none), (75, none), (76, none), (77, none), (78, none), (79, none), (80, none), (81, none), (82, none), (83, none), (84, none), (85, none), (86, none), (87, none), (88, none), (89, none)])]) (ordL [(14, [(0, 0), (2, 0), (1, 1), (3, 2), (4, 2), (5, 3), (6, 0), (7, 3)]), (19, [(0, 0), (2, 0), (1, 1), (3, 2), (4, 2), (5, 3), (6, 0), (7, 3)]), (20, [(0, 0), (1, 0), (2, 0), (4, 0), (5, 0), (6, 0), (3, 1), (7, 1), (8, 0), (9, 0), (10, 0), (11, 0), (12, 1), (13, 0), (14, 0), (15, 0)]), (21, [(0, 0), (2, 0), (1, 1), (3, 2), (4, 2), (5, 3), (6, 0), (7, 3)])]) [.slice q l c] w K = cortadoref18_Parse_m q l c w K := by kernel_rfl
theorem cortadoref18_Parse_go (q : Option Addr) (l c : Nat) {w : World} {K : Value → World → Prop} (h : cortadoref18_Parse_m q l c w K) : Rets Try.prog 14 #[.slice q l c] w K :=
  calls_of_fw plain mixed Try.func14 (by kernel_rfl) (by rw [cortadoref18_Parse_eq]; exact h)
def cortadolaw18_awake_m  (w : World) (K : Value → World → Prop) : Prop :=
  Rets Try.prog (12 : Nat) { toList := [Value.slice none (0 : Nat) (0 : Nat)] } w fun (v1 : Value) (w1 : World) =>
  ∃ (n1 : Int),
  ∃ (n2 : Int),
  ∃ (n3 : Int),
  ∃ (n4 : Int),
  ∃ (n5 : Int),
  ∃ (q1 : Option Addr),
  ∃ (k1 : Nat),
  ∃ (k2 : Nat),
  ∃ (q2 : Option Addr),
  ∃ (k3 : Nat),
  ∃ (k4 : Nat),
  ∃ (q3 : Option Addr),
  ∃ (k5 : Nat),
  ∃ (k6 : Nat),
  v1 =
  Value.agg
  {
  toList :=
  [Value.int IntKind.i64 n1, Value.int IntKind.i64 n2, Value.int IntKind.i64 n3, Value.int IntKind.i64 n4,
  Value.int IntKind.i64 n5, Value.slice q1 k1 k2, Value.slice q2 k3 k4, Value.slice q3 k5 k6] } ∧
  K (Value.bool (n1 == (0 : Int) && (n2 == (1 : Int) && (n3 == (1 : Int) && (n4 == (1 : Int) && n5 == (0 : Int)))))) w1
theorem cortadolaw18_awake_eq  (w : World) (K : Value → World → Prop) : fw Try.prog Try.f11 (annL []) (ordL []) [] w K = cortadolaw18_awake_m  w K := by kernel_rfl
theorem cortadolaw18_awake_go  {w : World} {K : Value → World → Prop} (h : cortadolaw18_awake_m  w K) : Rets Try.prog 11 #[] w K :=
  calls_of_fw plain mixed Try.func11 (by kernel_rfl) (by rw [cortadolaw18_awake_eq]; exact h)
def cortadolaw18_ScriptParses_m (q : Option Addr) (l c : Nat) (w : World) (K : Value → World → Prop) : Prop :=
  (decide ((↑l : Int) > (3000 : Int)) = true →
  Rets Try.prog (11 : Nat) { toList := [] } w fun (v1 : Value) (w1 : World) =>
  ∃ (b1 : Bool), v1 = Value.bool b1 ∧ K (Value.bool b1) w1) ∧
  (decide ((↑l : Int) > (3000 : Int)) = false →
  Rets Try.prog (12 : Nat) { toList := [Value.slice q l c] } w fun (v2 : Value) (w2 : World) =>
  ∃ (n1 : Int),
  ∃ (n2 : Int),
  ∃ (n3 : Int),
  ∃ (n4 : Int),
  ∃ (n5 : Int),
  ∃ (q1 : Option Addr),
  ∃ (k1 : Nat),
  ∃ (k2 : Nat),
  ∃ (q2 : Option Addr),
  ∃ (k3 : Nat),
  ∃ (k4 : Nat),
  ∃ (q3 : Option Addr),
  ∃ (k5 : Nat),
  ∃ (k6 : Nat),
  v2 =
  Value.agg
  {
  toList :=
  [Value.int IntKind.i64 n1, Value.int IntKind.i64 n2, Value.int IntKind.i64 n3, Value.int IntKind.i64 n4,
  Value.int IntKind.i64 n5, Value.slice q1 k1 k2, Value.slice q2 k3 k4, Value.slice q3 k5 k6] } ∧
  NewR (29 : Nat)
  [Value.int IntKind.i64 (0 : Int), Value.int IntKind.i64 (0 : Int), Value.int IntKind.i64 (0 : Int),
  Value.int IntKind.i64 (0 : Int), Value.int IntKind.i64 (0 : Int), Value.slice none (0 : Nat) (0 : Nat),
  Value.slice none (0 : Nat) (0 : Nat), Value.slice none (0 : Nat) (0 : Nat)]
  w2 fun (a1 : Addr) (w3 : World) =>
  StoreR a1
  [Value.int IntKind.i64 n1, Value.int IntKind.i64 n2, Value.int IntKind.i64 n3, Value.int IntKind.i64 n4,
  Value.int IntKind.i64 n5, Value.slice q1 k1 k2, Value.slice q2 k3 k4, Value.slice q3 k5 k6]
  w3 fun (w4 : World) =>
  Drw w4 fun (w5 : World) =>
  ∃ (h1 : World → Prop),
  h1 w5 ∧
  ∃ (n6 : Int),
  ∃ (n7 : Int),
  ∃ (n8 : Int),
  ∃ (n9 : Int),
  ∃ (n10 : Int),
  ∃ (q4 : Option Addr),
  ∃ (k7 : Nat),
  ∃ (k8 : Nat),
  ∃ (q5 : Option Addr),
  ∃ (k9 : Nat),
  ∃ (k10 : Nat),
  ∃ (q6 : Option Addr),
  ∃ (k11 : Nat),
  ∃ (k12 : Nat),
  ((∀ (w6 : World), h1 w6 → World.cell? w6 (Addr.add a1 (0 : Nat)) = some (Value.int IntKind.i64 n6)) ∧
  (∀ (w7 : World), h1 w7 → World.cell? w7 (Addr.add a1 ((0 : Nat) + (1 : Nat))) = some (Value.int IntKind.i64 n7)) ∧
  (∀ (w8 : World),
  h1 w8 → World.cell? w8 (Addr.add a1 ((0 : Nat) + (1 : Nat) + (1 : Nat))) = some (Value.int IntKind.i64 n8)) ∧
  (∀ (w9 : World),
  h1 w9 →
  World.cell? w9 (Addr.add a1 ((0 : Nat) + (1 : Nat) + (1 : Nat) + (1 : Nat))) = some (Value.int IntKind.i64 n9)) ∧
  (∀ (w10 : World),
  h1 w10 →
  World.cell? w10 (Addr.add a1 ((0 : Nat) + (1 : Nat) + (1 : Nat) + (1 : Nat) + (1 : Nat))) =
  some (Value.int IntKind.i64 n10)) ∧
  (∀ (w11 : World),
  h1 w11 →
  World.cell? w11 (Addr.add a1 ((0 : Nat) + (1 : Nat) + (1 : Nat) + (1 : Nat) + (1 : Nat) + (1 : Nat))) =
  some (Value.slice q4 k7 k8)) ∧
  (∀ (w12 : World),
  h1 w12 →
  World.cell? w12 (Addr.add a1 ((0 : Nat) + (1 : Nat) + (1 : Nat) + (1 : Nat) + (1 : Nat) + (1 : Nat) + (1 : Nat))) =
  some (Value.slice q5 k9 k10)) ∧
  ∀ (w13 : World),
  h1 w13 →
  World.cell? w13
  (Addr.add a1 ((0 : Nat) + (1 : Nat) + (1 : Nat) + (1 : Nat) + (1 : Nat) + (1 : Nat) + (1 : Nat) + (1 : Nat))) =
  some (Value.slice q6 k11 k12)) ∧
  Rets Try.prog (14 : Nat) { toList := [Value.slice q l c] } w5 fun (v3 : Value) (w14 : World) =>
  ∃ (n11 : Int),
  ∃ (n12 : Int),
  ∃ (n13 : Int),
  ∃ (n14 : Int),
  ∃ (n15 : Int),
  ∃ (q7 : Option Addr),
  ∃ (k13 : Nat),
  ∃ (k14 : Nat),
  ∃ (q8 : Option Addr),
  ∃ (k15 : Nat),
  ∃ (k16 : Nat),
  ∃ (q9 : Option Addr),
  ∃ (k17 : Nat),
  ∃ (k18 : Nat),
  v3 =
  Value.agg
  {
  toList :=
  [Value.int IntKind.i64 n11, Value.int IntKind.i64 n12, Value.int IntKind.i64 n13, Value.int IntKind.i64 n14,
  Value.int IntKind.i64 n15, Value.slice q7 k13 k14, Value.slice q8 k15 k16, Value.slice q9 k17 k18] } ∧
  h1 w14 ∧
  Rets Try.prog (13 : Nat)
  {
  toList :=
  [Value.agg
  {
  toList :=
  [Value.int IntKind.i64 n6, Value.int IntKind.i64 n7, Value.int IntKind.i64 n8, Value.int IntKind.i64 n9,
  Value.int IntKind.i64 n10, Value.slice q4 k7 k8, Value.slice q5 k9 k10, Value.slice q6 k11 k12] },
  Value.agg
  {
  toList :=
  [Value.int IntKind.i64 n11, Value.int IntKind.i64 n12, Value.int IntKind.i64 n13, Value.int IntKind.i64 n14,
  Value.int IntKind.i64 n15, Value.slice q7 k13 k14, Value.slice q8 k15 k16, Value.slice q9 k17 k18] }] }
  w14 fun (v4 : Value) (w15 : World) =>
  ∃ (b2 : Bool),
  v4 = Value.bool b2 ∧
  h1 w15 ∧
  (b2 = true →
  ∃ (n16 : Int),
  ∃ (n17 : Int),
  ∃ (n18 : Int),
  ∃ (n19 : Int),
  ∃ (n20 : Int),
  ∃ (q10 : Option Addr),
  ∃ (k19 : Nat),
  ∃ (k20 : Nat),
  ∃ (q11 : Option Addr),
  ∃ (k21 : Nat),
  ∃ (k22 : Nat),
  ∃ (q12 : Option Addr),
  ∃ (k23 : Nat),
  ∃ (k24 : Nat),
  ((∀ (w16 : World), h1 w16 → World.cell? w16 (Addr.add a1 (0 : Nat)) = some (Value.int IntKind.i64 n16)) ∧
  (∀ (w17 : World), h1 w17 → World.cell? w17 (Addr.add a1 ((0 : Nat) + (1 : Nat))) = some (Value.int IntKind.i64 n17)) ∧
  (∀ (w18 : World),
  h1 w18 → World.cell? w18 (Addr.add a1 ((0 : Nat) + (1 : Nat) + (1 : Nat))) = some (Value.int IntKind.i64 n18)) ∧
  (∀ (w19 : World),
  h1 w19 →
  World.cell? w19 (Addr.add a1 ((0 : Nat) + (1 : Nat) + (1 : Nat) + (1 : Nat))) = some (Value.int IntKind.i64 n19)) ∧
  (∀ (w20 : World),
  h1 w20 →
  World.cell? w20 (Addr.add a1 ((0 : Nat) + (1 : Nat) + (1 : Nat) + (1 : Nat) + (1 : Nat))) =
  some (Value.int IntKind.i64 n20)) ∧
  (∀ (w21 : World),
  h1 w21 →
  World.cell? w21 (Addr.add a1 ((0 : Nat) + (1 : Nat) + (1 : Nat) + (1 : Nat) + (1 : Nat) + (1 : Nat))) =
  some (Value.slice q10 k19 k20)) ∧
  (∀ (w22 : World),
  h1 w22 →
  World.cell? w22 (Addr.add a1 ((0 : Nat) + (1 : Nat) + (1 : Nat) + (1 : Nat) + (1 : Nat) + (1 : Nat) + (1 : Nat))) =
  some (Value.slice q11 k21 k22)) ∧
  ∀ (w23 : World),
  h1 w23 →
  World.cell? w23
  (Addr.add a1 ((0 : Nat) + (1 : Nat) + (1 : Nat) + (1 : Nat) + (1 : Nat) + (1 : Nat) + (1 : Nat) + (1 : Nat))) =
  some (Value.slice q12 k23 k24)) ∧
  Rets Try.prog (15 : Nat)
  {
  toList :=
  [Value.agg
  {
  toList :=
  [Value.int IntKind.i64 n16, Value.int IntKind.i64 n17, Value.int IntKind.i64 n18, Value.int IntKind.i64 n19,
  Value.int IntKind.i64 n20, Value.slice q10 k19 k20, Value.slice q11 k21 k22, Value.slice q12 k23 k24] }] }
  w15 fun (v5 : Value) (w24 : World) =>
  ∃ (b3 : Bool),
  v5 = Value.bool b3 ∧
  h1 w24 ∧
  (b3 = true →
  ∃ (n21 : Int),
  ∃ (n22 : Int),
  ∃ (n23 : Int),
  ∃ (n24 : Int),
  ∃ (n25 : Int),
  ∃ (q13 : Option Addr),
  ∃ (k25 : Nat),
  ∃ (k26 : Nat),
  ∃ (q14 : Option Addr),
  ∃ (k27 : Nat),
  ∃ (k28 : Nat),
  ∃ (q15 : Option Addr),
  ∃ (k29 : Nat),
  ∃ (k30 : Nat),
  ((∀ (w25 : World), h1 w25 → World.cell? w25 (Addr.add a1 (0 : Nat)) = some (Value.int IntKind.i64 n21)) ∧
  (∀ (w26 : World), h1 w26 → World.cell? w26 (Addr.add a1 ((0 : Nat) + (1 : Nat))) = some (Value.int IntKind.i64 n22)) ∧
  (∀ (w27 : World),
  h1 w27 → World.cell? w27 (Addr.add a1 ((0 : Nat) + (1 : Nat) + (1 : Nat))) = some (Value.int IntKind.i64 n23)) ∧
  (∀ (w28 : World),
  h1 w28 →
  World.cell? w28 (Addr.add a1 ((0 : Nat) + (1 : Nat) + (1 : Nat) + (1 : Nat))) = some (Value.int IntKind.i64 n24)) ∧
  (∀ (w29 : World),
  h1 w29 →
  World.cell? w29 (Addr.add a1 ((0 : Nat) + (1 : Nat) + (1 : Nat) + (1 : Nat) + (1 : Nat))) =
  some (Value.int IntKind.i64 n25)) ∧
  (∀ (w30 : World),
  h1 w30 →
  World.cell? w30 (Addr.add a1 ((0 : Nat) + (1 : Nat) + (1 : Nat) + (1 : Nat) + (1 : Nat) + (1 : Nat))) =
  some (Value.slice q13 k25 k26)) ∧
  (∀ (w31 : World),
  h1 w31 →
  World.cell? w31 (Addr.add a1 ((0 : Nat) + (1 : Nat) + (1 : Nat) + (1 : Nat) + (1 : Nat) + (1 : Nat) + (1 : Nat))) =
  some (Value.slice q14 k27 k28)) ∧
  ∀ (w32 : World),
  h1 w32 →
  World.cell? w32
  (Addr.add a1 ((0 : Nat) + (1 : Nat) + (1 : Nat) + (1 : Nat) + (1 : Nat) + (1 : Nat) + (1 : Nat) + (1 : Nat))) =
  some (Value.slice q15 k29 k30)) ∧
  Rets Try.prog (16 : Nat)
  {
  toList :=
  [Value.agg
  {
  toList :=
  [Value.int IntKind.i64 n21, Value.int IntKind.i64 n22, Value.int IntKind.i64 n23, Value.int IntKind.i64 n24,
  Value.int IntKind.i64 n25, Value.slice q13 k25 k26, Value.slice q14 k27 k28, Value.slice q15 k29 k30] }] }
  w24 fun (v6 : Value) (w33 : World) =>
  ∃ (b4 : Bool),
  v6 = Value.bool b4 ∧
  (b4 = true →
  Rets Try.prog (11 : Nat) { toList := [] } w33 fun (v7 : Value) (w34 : World) =>
  ∃ (b5 : Bool), v7 = Value.bool b5 ∧ K (Value.bool b5) w34) ∧
  (b4 = false → K (Value.bool false) w33)) ∧
  (b3 = false → K (Value.bool false) w24)) ∧
  (b2 = false → K (Value.bool false) w15))
theorem cortadolaw18_ScriptParses_eq (q : Option Addr) (l c : Nat) (w : World) (K : Value → World → Prop) : fw Try.prog Try.f3 (annL []) (ordL [(4, [(1, 0), (0, 1), (2, 2), (3, 2), (4, 0), (5, 1), (6, 2), (7, 0), (8, 0), (9, 1), (10, 3), (11, 0), (12, 0), (13, 3), (14, 0), (15, 0)])]) [.slice q l c] w K = cortadolaw18_ScriptParses_m q l c w K := by kernel_rfl
theorem cortadolaw18_ScriptParses_go (q : Option Addr) (l c : Nat) {w : World} {K : Value → World → Prop} (h : cortadolaw18_ScriptParses_m q l c w K) : Rets Try.prog 3 #[.slice q l c] w K :=
  calls_of_fw plain mixed Try.func3 (by kernel_rfl) (by rw [cortadolaw18_ScriptParses_eq]; exact h)
def cortadolaw18_ScriptLong_m (q : Option Addr) (l c : Nat) (k : Int) (w : World) (K : Value → World → Prop) : Prop :=
  (decide ((↑l : Int) > (40 : Int)) = false →
  (((↑l : Int) == (0 : Int)) = true →
  Rets Try.prog (11 : Nat) { toList := [] } w fun (v1 : Value) (w1 : World) =>
  ∃ (b1 : Bool), v1 = Value.bool b1 ∧ K (Value.bool b1) w1) ∧
  (((↑l : Int) == (0 : Int)) = false →
  ∃ (h1 : Nat → List Value → World → Prop),
  (∃ (k1 : Nat), h1 k1 [Value.slice none (0 : Nat) (0 : Nat)] w) ∧
  ∀ (k2 : Nat) (w2 : World) (q1 : Option Addr) (k3 k4 : Nat) (v2 v3 v4 v5 v6 v7 v8 v9 v10 v11 : Value),
  h1 k2 [Value.slice q1 k3 k4] w2 →
  (40 : Int) ≠ (0 : Int) ∧
  (decide ((↑k3 : Int) < IntKind.wrap IntKind.i64 ((16364 : Int) + IntKind.wrap IntKind.i64 (Int.tmod k (40 : Int)))) =
  true →
  RunR Try.prog
  (builtinV Builtin.append { toList := [(22 : Nat), (22 : Nat)] } (nat_lit 22)
  { toList := [Value.slice q1 k3 k4, Value.slice q l c] })
  w2 fun (v12 : Value) (w3 : World) =>
  ∃ (q2 : Option Addr),
  ∃ (k5 : Nat), ∃ (k6 : Nat), v12 = Value.slice q2 k5 k6 ∧ ∃ (k7 : Nat), k7 < k2 ∧ h1 k7 [Value.slice q2 k5 k6] w3) ∧
  (decide ((↑k3 : Int) < IntKind.wrap IntKind.i64 ((16364 : Int) + IntKind.wrap IntKind.i64 (Int.tmod k (40 : Int)))) =
  false →
  Rets Try.prog (12 : Nat) { toList := [Value.slice q1 k3 k4] } w2 fun (v13 : Value) (w4 : World) =>
  ∃ (n1 : Int),
  ∃ (n2 : Int),
  ∃ (n3 : Int),
  ∃ (n4 : Int),
  ∃ (n5 : Int),
  ∃ (q3 : Option Addr),
  ∃ (k8 : Nat),
  ∃ (k9 : Nat),
  ∃ (q4 : Option Addr),
  ∃ (k10 : Nat),
  ∃ (k11 : Nat),
  ∃ (q5 : Option Addr),
  ∃ (k12 : Nat),
  ∃ (k13 : Nat),
  v13 =
  Value.agg
  {
  toList :=
  [Value.int IntKind.i64 n1, Value.int IntKind.i64 n2, Value.int IntKind.i64 n3, Value.int IntKind.i64 n4,
  Value.int IntKind.i64 n5, Value.slice q3 k8 k9, Value.slice q4 k10 k11, Value.slice q5 k12 k13] } ∧
  NewR (29 : Nat)
  [Value.int IntKind.i64 (0 : Int), Value.int IntKind.i64 (0 : Int), Value.int IntKind.i64 (0 : Int),
  Value.int IntKind.i64 (0 : Int), Value.int IntKind.i64 (0 : Int), Value.slice none (0 : Nat) (0 : Nat),
  Value.slice none (0 : Nat) (0 : Nat), Value.slice none (0 : Nat) (0 : Nat)]
  w4 fun (a1 : Addr) (w5 : World) =>
  StoreR a1
  [Value.int IntKind.i64 n1, Value.int IntKind.i64 n2, Value.int IntKind.i64 n3, Value.int IntKind.i64 n4,
  Value.int IntKind.i64 n5, Value.slice q3 k8 k9, Value.slice q4 k10 k11, Value.slice q5 k12 k13]
  w5 fun (w6 : World) =>
  Drw w6 fun (w7 : World) =>
  ∃ (h2 : World → Prop),
  h2 w7 ∧
  ∃ (n6 : Int),
  ∃ (n7 : Int),
  ∃ (n8 : Int),
  ∃ (n9 : Int),
  ∃ (n10 : Int),
  ∃ (q6 : Option Addr),
  ∃ (k14 : Nat),
  ∃ (k15 : Nat),
  ∃ (q7 : Option Addr),
  ∃ (k16 : Nat),
  ∃ (k17 : Nat),
  ∃ (q8 : Option Addr),
  ∃ (k18 : Nat),
  ∃ (k19 : Nat),
  ((∀ (w8 : World), h2 w8 → World.cell? w8 (Addr.add a1 (0 : Nat)) = some (Value.int IntKind.i64 n6)) ∧
  (∀ (w9 : World), h2 w9 → World.cell? w9 (Addr.add a1 ((0 : Nat) + (1 : Nat))) = some (Value.int IntKind.i64 n7)) ∧
  (∀ (w10 : World),
  h2 w10 → World.cell? w10 (Addr.add a1 ((0 : Nat) + (1 : Nat) + (1 : Nat))) = some (Value.int IntKind.i64 n8)) ∧
  (∀ (w11 : World),
  h2 w11 →
  World.cell? w11 (Addr.add a1 ((0 : Nat) + (1 : Nat) + (1 : Nat) + (1 : Nat))) = some (Value.int IntKind.i64 n9)) ∧
  (∀ (w12 : World),
  h2 w12 →
  World.cell? w12 (Addr.add a1 ((0 : Nat) + (1 : Nat) + (1 : Nat) + (1 : Nat) + (1 : Nat))) =
  some (Value.int IntKind.i64 n10)) ∧
  (∀ (w13 : World),
  h2 w13 →
  World.cell? w13 (Addr.add a1 ((0 : Nat) + (1 : Nat) + (1 : Nat) + (1 : Nat) + (1 : Nat) + (1 : Nat))) =
  some (Value.slice q6 k14 k15)) ∧
  (∀ (w14 : World),
  h2 w14 →
  World.cell? w14 (Addr.add a1 ((0 : Nat) + (1 : Nat) + (1 : Nat) + (1 : Nat) + (1 : Nat) + (1 : Nat) + (1 : Nat))) =
  some (Value.slice q7 k16 k17)) ∧
  ∀ (w15 : World),
  h2 w15 →
  World.cell? w15
  (Addr.add a1 ((0 : Nat) + (1 : Nat) + (1 : Nat) + (1 : Nat) + (1 : Nat) + (1 : Nat) + (1 : Nat) + (1 : Nat))) =
  some (Value.slice q8 k18 k19)) ∧
  Rets Try.prog (14 : Nat) { toList := [Value.slice q1 k3 k4] } w7 fun (v14 : Value) (w16 : World) =>
  ∃ (n11 : Int),
  ∃ (n12 : Int),
  ∃ (n13 : Int),
  ∃ (n14 : Int),
  ∃ (n15 : Int),
  ∃ (q9 : Option Addr),
  ∃ (k20 : Nat),
  ∃ (k21 : Nat),
  ∃ (q10 : Option Addr),
  ∃ (k22 : Nat),
  ∃ (k23 : Nat),
  ∃ (q11 : Option Addr),
  ∃ (k24 : Nat),
  ∃ (k25 : Nat),
  v14 =
  Value.agg
  {
  toList :=
  [Value.int IntKind.i64 n11, Value.int IntKind.i64 n12, Value.int IntKind.i64 n13, Value.int IntKind.i64 n14,
  Value.int IntKind.i64 n15, Value.slice q9 k20 k21, Value.slice q10 k22 k23, Value.slice q11 k24 k25] } ∧
  h2 w16 ∧
  Rets Try.prog (13 : Nat)
  {
  toList :=
  [Value.agg
  {
  toList :=
  [Value.int IntKind.i64 n6, Value.int IntKind.i64 n7, Value.int IntKind.i64 n8, Value.int IntKind.i64 n9,
  Value.int IntKind.i64 n10, Value.slice q6 k14 k15, Value.slice q7 k16 k17, Value.slice q8 k18 k19] },
  Value.agg
  {
  toList :=
  [Value.int IntKind.i64 n11, Value.int IntKind.i64 n12, Value.int IntKind.i64 n13, Value.int IntKind.i64 n14,
  Value.int IntKind.i64 n15, Value.slice q9 k20 k21, Value.slice q10 k22 k23, Value.slice q11 k24 k25] }] }
  w16 fun (v15 : Value) (w17 : World) =>
  ∃ (b2 : Bool),
  v15 = Value.bool b2 ∧
  h2 w17 ∧
  (b2 = true →
  ∃ (n16 : Int),
  ∃ (n17 : Int),
  ∃ (n18 : Int),
  ∃ (n19 : Int),
  ∃ (n20 : Int),
  ∃ (q12 : Option Addr),
  ∃ (k26 : Nat),
  ∃ (k27 : Nat),
  ∃ (q13 : Option Addr),
  ∃ (k28 : Nat),
  ∃ (k29 : Nat),
  ∃ (q14 : Option Addr),
  ∃ (k30 : Nat),
  ∃ (k31 : Nat),
  ((∀ (w18 : World), h2 w18 → World.cell? w18 (Addr.add a1 (0 : Nat)) = some (Value.int IntKind.i64 n16)) ∧
  (∀ (w19 : World), h2 w19 → World.cell? w19 (Addr.add a1 ((0 : Nat) + (1 : Nat))) = some (Value.int IntKind.i64 n17)) ∧
  (∀ (w20 : World),
  h2 w20 → World.cell? w20 (Addr.add a1 ((0 : Nat) + (1 : Nat) + (1 : Nat))) = some (Value.int IntKind.i64 n18)) ∧
  (∀ (w21 : World),
  h2 w21 →
  World.cell? w21 (Addr.add a1 ((0 : Nat) + (1 : Nat) + (1 : Nat) + (1 : Nat))) = some (Value.int IntKind.i64 n19)) ∧
  (∀ (w22 : World),
  h2 w22 →
  World.cell? w22 (Addr.add a1 ((0 : Nat) + (1 : Nat) + (1 : Nat) + (1 : Nat) + (1 : Nat))) =
  some (Value.int IntKind.i64 n20)) ∧
  (∀ (w23 : World),
  h2 w23 →
  World.cell? w23 (Addr.add a1 ((0 : Nat) + (1 : Nat) + (1 : Nat) + (1 : Nat) + (1 : Nat) + (1 : Nat))) =
  some (Value.slice q12 k26 k27)) ∧
  (∀ (w24 : World),
  h2 w24 →
  World.cell? w24 (Addr.add a1 ((0 : Nat) + (1 : Nat) + (1 : Nat) + (1 : Nat) + (1 : Nat) + (1 : Nat) + (1 : Nat))) =
  some (Value.slice q13 k28 k29)) ∧
  ∀ (w25 : World),
  h2 w25 →
  World.cell? w25
  (Addr.add a1 ((0 : Nat) + (1 : Nat) + (1 : Nat) + (1 : Nat) + (1 : Nat) + (1 : Nat) + (1 : Nat) + (1 : Nat))) =
  some (Value.slice q14 k30 k31)) ∧
  Rets Try.prog (16 : Nat)
  {
  toList :=
  [Value.agg
  {
  toList :=
  [Value.int IntKind.i64 n16, Value.int IntKind.i64 n17, Value.int IntKind.i64 n18, Value.int IntKind.i64 n19,
  Value.int IntKind.i64 n20, Value.slice q12 k26 k27, Value.slice q13 k28 k29, Value.slice q14 k30 k31] }] }
  w17 fun (v16 : Value) (w26 : World) =>
  ∃ (b3 : Bool),
  v16 = Value.bool b3 ∧
  h2 w26 ∧
  (b3 = true →
  ∃ (q15 : Option Addr),
  ∃ (k32 : Nat),
  ∃ (k33 : Nat),
  (∀ (w27 : World), h2 w27 → World.cell? w27 (Addr.add a1 (6 : Nat)) = some (Value.slice q15 k32 k33)) ∧
  (decide ((↑k32 : Int) ≤ (4096 : Int)) = true →
  Rets Try.prog (11 : Nat) { toList := [] } w26 fun (v17 : Value) (w28 : World) =>
  ∃ (b4 : Bool), v17 = Value.bool b4 ∧ K (Value.bool b4) w28) ∧
  (decide ((↑k32 : Int) ≤ (4096 : Int)) = false → K (Value.bool false) w26)) ∧
  (b3 = false → K (Value.bool false) w26)) ∧
  (b2 = false → K (Value.bool false) w17)))) ∧
  (decide ((↑l : Int) > (40 : Int)) = true →
  Rets Try.prog (11 : Nat) { toList := [] } w fun (v18 : Value) (w29 : World) =>
  ∃ (b5 : Bool), v18 = Value.bool b5 ∧ K (Value.bool b5) w29)
theorem cortadolaw18_ScriptLong_eq (q : Option Addr) (l c : Nat) (k : Int) (w : World) (K : Value → World → Prop) : fw Try.prog Try.f4 (annL [(2, [(5, some 22), (16, none), (17, none), (18, none), (19, none), (20, none), (21, none), (22, none), (23, none), (24, none), (25, none)])]) (ordL [(7, [(1, 0), (0, 1), (2, 2), (3, 2), (4, 0), (5, 1), (6, 2), (7, 0), (8, 0), (9, 0), (10, 1), (11, 0), (12, 0), (13, 0), (14, 0), (15, 3), (16, 0), (17, 0)])]) [.slice q l c, .int .u64 k] w K = cortadolaw18_ScriptLong_m q l c k w K := by kernel_rfl
theorem cortadolaw18_ScriptLong_go (q : Option Addr) (l c : Nat) (k : Int) {w : World} {K : Value → World → Prop} (h : cortadolaw18_ScriptLong_m q l c k w K) : Rets Try.prog 4 #[.slice q l c, .int .u64 k] w K :=
  calls_of_fw plain mixed Try.func4 (by kernel_rfl) (by rw [cortadolaw18_ScriptLong_eq]; exact h)
end Go.Proofs.Ytkcaeknkfgpnhaa.Eng
