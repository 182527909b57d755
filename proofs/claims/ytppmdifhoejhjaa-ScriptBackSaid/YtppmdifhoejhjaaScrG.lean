/- What the code of these functions asks for: printed by a program of this session's (gens.py) out of the seat's own functions; the kernel checks each row. -/
import Derived.Test.YtppmdifhoejhjaaEngH
import Derived.Test.YtppmdifhoejhjaaProg
import Derived.Test.YtppmdifhoejhjaaBase
namespace Go.Proofs.Ytppmdifhoejhjaa.Eng
open Go Go.Proofs
set_option linter.unusedVariables false
set_option maxRecDepth 1000000
def cost_Cut_m (n : Int) (w : World) (K : Value → World → Prop) : Prop :=
  K (Value.int IntKind.i64 (maxI (0 : Int) (minI n (4611686018427387904 : Int)))) w
theorem cost_Cut_eq (n : Int) (w : World) (K : Value → World → Prop) : fw Try.prog Try.f18 (annL []) (ordL []) [.int .i64 n] w K = cost_Cut_m n w K := by kernel_rfl
theorem cost_Cut_go (n : Int) {w : World} {K : Value → World → Prop} (h : cost_Cut_m n w K) : Rets Try.prog 18 #[.int .i64 n] w K :=
  calls_of_fw plain mixed Try.func18 (by kernel_rfl) (by rw [cost_Cut_eq]; exact h)
def script_cut_m (n a b : Int) (w : World) (K : Value → World → Prop) : Prop :=
  K (Value.int IntKind.i64 (maxI a (minI n b))) w
theorem script_cut_eq (n a b : Int) (w : World) (K : Value → World → Prop) : fw Try.prog Try.f19 (annL []) (ordL []) [.int .i64 n, .int .i64 a, .int .i64 b] w K = script_cut_m n a b w K := by kernel_rfl
theorem script_cut_go (n a b : Int) {w : World} {K : Value → World → Prop} (h : script_cut_m n a b w K) : Rets Try.prog 19 #[.int .i64 n, .int .i64 a, .int .i64 b] w K :=
  calls_of_fw plain mixed Try.func19 (by kernel_rfl) (by rw [script_cut_eq]; exact h)
def cortadoref18_cut_m (n a b : Int) (w : World) (K : Value → World → Prop) : Prop :=
  K (Value.int IntKind.i64 (maxI a (minI n b))) w
theorem cortadoref18_cut_eq (n a b : Int) (w : World) (K : Value → World → Prop) : fw Try.prog Try.f26 (annL []) (ordL []) [.int .i64 n, .int .i64 a, .int .i64 b] w K = cortadoref18_cut_m n a b w K := by kernel_rfl
theorem cortadoref18_cut_go (n a b : Int) {w : World} {K : Value → World → Prop} (h : cortadoref18_cut_m n a b w K) : Rets Try.prog 26 #[.int .i64 n, .int .i64 a, .int .i64 b] w K :=
  calls_of_fw plain mixed Try.func26 (by kernel_rfl) (by rw [cortadoref18_cut_eq]; exact h)
def script_Nearest_m (c0 c1 c2 c3 c4 : Int) (w : World) (K : Value → World → Prop) : Prop :=
  NewR (23 : Nat)
  [Value.int IntKind.i64 c0, Value.int IntKind.i64 c1, Value.int IntKind.i64 c2, Value.int IntKind.i64 c3,
  Value.int IntKind.i64 c4]
  w fun (a1 : Addr) (w1 : World) =>
  NewR (23 : Nat)
  [Value.int IntKind.i64 (0 : Int), Value.int IntKind.i64 (0 : Int), Value.int IntKind.i64 (0 : Int),
  Value.int IntKind.i64 (0 : Int), Value.int IntKind.i64 (0 : Int)]
  w1 fun (a2 : Addr) (w2 : World) =>
  Drw w2 fun (w3 : World) =>
  ∃ (h1 : World → Prop),
  h1 w3 ∧
  ∃ (n1 : Int),
  (∀ (w4 : World), h1 w4 → World.cell? w4 (Addr.add a1 (0 : Nat)) = some (Value.int IntKind.i64 n1)) ∧
  ∃ (n2 : Int),
  (∀ (w5 : World), h1 w5 → World.cell? w5 (Addr.add a1 (1 : Nat)) = some (Value.int IntKind.i64 n2)) ∧
  ∃ (n3 : Int),
  (∀ (w6 : World), h1 w6 → World.cell? w6 (Addr.add a1 (2 : Nat)) = some (Value.int IntKind.i64 n3)) ∧
  ∃ (n4 : Int),
  (∀ (w7 : World), h1 w7 → World.cell? w7 (Addr.add a1 (3 : Nat)) = some (Value.int IntKind.i64 n4)) ∧
  ∃ (n5 : Int),
  (∀ (w8 : World), h1 w8 → World.cell? w8 (Addr.add a1 (4 : Nat)) = some (Value.int IntKind.i64 n5)) ∧
  Rets Try.prog (18 : Nat) { toList := [Value.int IntKind.i64 n1] } w3 fun (v1 : Value) (w9 : World) =>
  ∃ (n6 : Int),
  v1 = Value.int IntKind.i64 n6 ∧
  h1 w9 ∧
  Rets Try.prog (19 : Nat)
  { toList := [Value.int IntKind.i64 n2, Value.int IntKind.i64 (1 : Int), Value.int IntKind.i64 (64 : Int)] } w9
  fun (v2 : Value) (w10 : World) =>
  ∃ (n7 : Int),
  v2 = Value.int IntKind.i64 n7 ∧
  h1 w10 ∧
  Rets Try.prog (19 : Nat)
  { toList := [Value.int IntKind.i64 n3, Value.int IntKind.i64 (1 : Int), Value.int IntKind.i64 (4096 : Int)] } w10
  fun (v3 : Value) (w11 : World) =>
  ∃ (n8 : Int),
  v3 = Value.int IntKind.i64 n8 ∧
  h1 w11 ∧
  Rets Try.prog (19 : Nat)
  { toList := [Value.int IntKind.i64 n4, Value.int IntKind.i64 (1 : Int), Value.int IntKind.i64 (16 : Int)] } w11
  fun (v4 : Value) (w12 : World) =>
  ∃ (n9 : Int),
  v4 = Value.int IntKind.i64 n9 ∧
  h1 w12 ∧
  Rets Try.prog (19 : Nat)
  { toList := [Value.int IntKind.i64 n5, Value.int IntKind.i64 (0 : Int), Value.int IntKind.i64 (64 : Int)] } w12
  fun (v5 : Value) (w13 : World) =>
  ∃ (n10 : Int),
  v5 = Value.int IntKind.i64 n10 ∧
  StoreR a2
  [Value.int IntKind.i64 n6, Value.int IntKind.i64 n7, Value.int IntKind.i64 n8, Value.int IntKind.i64 n9,
  Value.int IntKind.i64 n10]
  w13 fun (w14 : World) =>
  ∃ (n11 : Int),
  ∃ (n12 : Int),
  ∃ (n13 : Int),
  ∃ (n14 : Int),
  ∃ (n15 : Int),
  (cellAt w14 (Addr.add a2 (0 : Nat)) (Value.int IntKind.i64 n11) ∧
  cellAt w14 (Addr.add a2 (1 : Nat)) (Value.int IntKind.i64 n12) ∧
  cellAt w14 (Addr.add a2 (2 : Nat)) (Value.int IntKind.i64 n13) ∧
  cellAt w14 (Addr.add a2 (3 : Nat)) (Value.int IntKind.i64 n14) ∧
  cellAt w14 (Addr.add a2 (4 : Nat)) (Value.int IntKind.i64 n15)) ∧
  K
  (Value.agg
  {
  toList :=
  [Value.int IntKind.i64 n11, Value.int IntKind.i64 n12, Value.int IntKind.i64 n13, Value.int IntKind.i64 n14,
  Value.int IntKind.i64 n15] })
  w14
theorem script_Nearest_eq (c0 c1 c2 c3 c4 : Int) (w : World) (K : Value → World → Prop) : fw Try.prog Try.f7 (annL []) (ordL [(1, [(0, 0), (3, 0), (6, 0), (9, 0), (12, 0), (1, 1), (4, 1), (7, 1), (10, 1), (13, 1), (2, 2), (5, 2), (8, 2), (11, 2), (14, 3), (15, 0), (16, 3)])]) [.agg #[.int .i64 c0, .int .i64 c1, .int .i64 c2, .int .i64 c3, .int .i64 c4]] w K = script_Nearest_m c0 c1 c2 c3 c4 w K := by kernel_rfl
theorem script_Nearest_go (c0 c1 c2 c3 c4 : Int) {w : World} {K : Value → World → Prop} (h : script_Nearest_m c0 c1 c2 c3 c4 w K) : Rets Try.prog 7 #[.agg #[.int .i64 c0, .int .i64 c1, .int .i64 c2, .int .i64 c3, .int .i64 c4]] w K :=
  calls_of_fw plain mixed Try.func7 (by kernel_rfl) (by rw [script_Nearest_eq]; exact h)
def cortadoref18_Nearest_m (c0 c1 c2 c3 c4 : Int) (w : World) (K : Value → World → Prop) : Prop :=
  NewR (23 : Nat)
  [Value.int IntKind.i64 c0, Value.int IntKind.i64 c1, Value.int IntKind.i64 c2, Value.int IntKind.i64 c3,
  Value.int IntKind.i64 c4]
  w fun (a1 : Addr) (w1 : World) =>
  NewR (23 : Nat)
  [Value.int IntKind.i64 (0 : Int), Value.int IntKind.i64 (0 : Int), Value.int IntKind.i64 (0 : Int),
  Value.int IntKind.i64 (0 : Int), Value.int IntKind.i64 (0 : Int)]
  w1 fun (a2 : Addr) (w2 : World) =>
  Drw w2 fun (w3 : World) =>
  ∃ (h1 : World → Prop),
  h1 w3 ∧
  ∃ (n1 : Int),
  (∀ (w4 : World), h1 w4 → World.cell? w4 (Addr.add a1 (0 : Nat)) = some (Value.int IntKind.i64 n1)) ∧
  ∃ (n2 : Int),
  (∀ (w5 : World), h1 w5 → World.cell? w5 (Addr.add a1 (1 : Nat)) = some (Value.int IntKind.i64 n2)) ∧
  ∃ (n3 : Int),
  (∀ (w6 : World), h1 w6 → World.cell? w6 (Addr.add a1 (2 : Nat)) = some (Value.int IntKind.i64 n3)) ∧
  ∃ (n4 : Int),
  (∀ (w7 : World), h1 w7 → World.cell? w7 (Addr.add a1 (3 : Nat)) = some (Value.int IntKind.i64 n4)) ∧
  ∃ (n5 : Int),
  (∀ (w8 : World), h1 w8 → World.cell? w8 (Addr.add a1 (4 : Nat)) = some (Value.int IntKind.i64 n5)) ∧
  Rets Try.prog (26 : Nat)
  {
  toList :=
  [Value.int IntKind.i64 n1, Value.int IntKind.i64 (0 : Int), Value.int IntKind.i64 (4611686018427387904 : Int)] }
  w3 fun (v1 : Value) (w9 : World) =>
  ∃ (n6 : Int),
  v1 = Value.int IntKind.i64 n6 ∧
  h1 w9 ∧
  Rets Try.prog (26 : Nat)
  { toList := [Value.int IntKind.i64 n2, Value.int IntKind.i64 (1 : Int), Value.int IntKind.i64 (64 : Int)] } w9
  fun (v2 : Value) (w10 : World) =>
  ∃ (n7 : Int),
  v2 = Value.int IntKind.i64 n7 ∧
  h1 w10 ∧
  Rets Try.prog (26 : Nat)
  { toList := [Value.int IntKind.i64 n3, Value.int IntKind.i64 (1 : Int), Value.int IntKind.i64 (4096 : Int)] } w10
  fun (v3 : Value) (w11 : World) =>
  ∃ (n8 : Int),
  v3 = Value.int IntKind.i64 n8 ∧
  h1 w11 ∧
  Rets Try.prog (26 : Nat)
  { toList := [Value.int IntKind.i64 n4, Value.int IntKind.i64 (1 : Int), Value.int IntKind.i64 (16 : Int)] } w11
  fun (v4 : Value) (w12 : World) =>
  ∃ (n9 : Int),
  v4 = Value.int IntKind.i64 n9 ∧
  h1 w12 ∧
  Rets Try.prog (26 : Nat)
  { toList := [Value.int IntKind.i64 n5, Value.int IntKind.i64 (0 : Int), Value.int IntKind.i64 (64 : Int)] } w12
  fun (v5 : Value) (w13 : World) =>
  ∃ (n10 : Int),
  v5 = Value.int IntKind.i64 n10 ∧
  StoreR a2
  [Value.int IntKind.i64 n6, Value.int IntKind.i64 n7, Value.int IntKind.i64 n8, Value.int IntKind.i64 n9,
  Value.int IntKind.i64 n10]
  w13 fun (w14 : World) =>
  ∃ (n11 : Int),
  ∃ (n12 : Int),
  ∃ (n13 : Int),
  ∃ (n14 : Int),
  ∃ (n15 : Int),
  (cellAt w14 (Addr.add a2 (0 : Nat)) (Value.int IntKind.i64 n11) ∧
  cellAt w14 (Addr.add a2 (1 : Nat)) (Value.int IntKind.i64 n12) ∧
  cellAt w14 (Addr.add a2 (2 : Nat)) (Value.int IntKind.i64 n13) ∧
  cellAt w14 (Addr.add a2 (3 : Nat)) (Value.int IntKind.i64 n14) ∧
  cellAt w14 (Addr.add a2 (4 : Nat)) (Value.int IntKind.i64 n15)) ∧
  K
  (Value.agg
  {
  toList :=
  [Value.int IntKind.i64 n11, Value.int IntKind.i64 n12, Value.int IntKind.i64 n13, Value.int IntKind.i64 n14,
  Value.int IntKind.i64 n15] })
  w14
theorem cortadoref18_Nearest_eq (c0 c1 c2 c3 c4 : Int) (w : World) (K : Value → World → Prop) : fw Try.prog Try.f10 (annL []) (ordL [(1, [(0, 0), (3, 0), (6, 0), (9, 0), (12, 0), (1, 1), (4, 1), (7, 1), (10, 1), (13, 1), (2, 2), (5, 2), (8, 2), (11, 2), (14, 3), (15, 0), (16, 3)])]) [.agg #[.int .i64 c0, .int .i64 c1, .int .i64 c2, .int .i64 c3, .int .i64 c4]] w K = cortadoref18_Nearest_m c0 c1 c2 c3 c4 w K := by kernel_rfl
theorem cortadoref18_Nearest_go (c0 c1 c2 c3 c4 : Int) {w : World} {K : Value → World → Prop} (h : cortadoref18_Nearest_m c0 c1 c2 c3 c4 w K) : Rets Try.prog 10 #[.agg #[.int .i64 c0, .int .i64 c1, .int .i64 c2, .int .i64 c3, .int .i64 c4]] w K :=
  calls_of_fw plain mixed Try.func10 (by kernel_rfl) (by rw [cortadoref18_Nearest_eq]; exact h)
def script_Config_m (c0 c1 c2 c3 c4 : Int) (w : World) (K : Value → World → Prop) : Prop :=
  NewR (23 : Nat)
  [Value.int IntKind.i64 c0, Value.int IntKind.i64 c1, Value.int IntKind.i64 c2, Value.int IntKind.i64 c3,
  Value.int IntKind.i64 c4]
  w fun (a1 : Addr) (w1 : World) =>
  Drw w1 fun (w2 : World) =>
  ∃ (h1 : World → Prop),
  h1 w2 ∧
  ∃ (n1 : Int),
  ∃ (n2 : Int),
  ∃ (n3 : Int),
  ∃ (n4 : Int),
  ∃ (n5 : Int),
  ((∀ (w3 : World), h1 w3 → World.cell? w3 (Addr.add a1 (0 : Nat)) = some (Value.int IntKind.i64 n1)) ∧
  (∀ (w4 : World), h1 w4 → World.cell? w4 (Addr.add a1 ((0 : Nat) + (1 : Nat))) = some (Value.int IntKind.i64 n2)) ∧
  (∀ (w5 : World),
  h1 w5 → World.cell? w5 (Addr.add a1 ((0 : Nat) + (1 : Nat) + (1 : Nat))) = some (Value.int IntKind.i64 n3)) ∧
  (∀ (w6 : World),
  h1 w6 →
  World.cell? w6 (Addr.add a1 ((0 : Nat) + (1 : Nat) + (1 : Nat) + (1 : Nat))) = some (Value.int IntKind.i64 n4)) ∧
  ∀ (w7 : World),
  h1 w7 →
  World.cell? w7 (Addr.add a1 ((0 : Nat) + (1 : Nat) + (1 : Nat) + (1 : Nat) + (1 : Nat))) =
  some (Value.int IntKind.i64 n5)) ∧
  ∃ (n6 : Int),
  ∃ (n7 : Int),
  ∃ (n8 : Int),
  ∃ (n9 : Int),
  ∃ (n10 : Int),
  ((∀ (w8 : World), h1 w8 → World.cell? w8 (Addr.add a1 (0 : Nat)) = some (Value.int IntKind.i64 n6)) ∧
  (∀ (w9 : World), h1 w9 → World.cell? w9 (Addr.add a1 ((0 : Nat) + (1 : Nat))) = some (Value.int IntKind.i64 n7)) ∧
  (∀ (w10 : World),
  h1 w10 → World.cell? w10 (Addr.add a1 ((0 : Nat) + (1 : Nat) + (1 : Nat))) = some (Value.int IntKind.i64 n8)) ∧
  (∀ (w11 : World),
  h1 w11 →
  World.cell? w11 (Addr.add a1 ((0 : Nat) + (1 : Nat) + (1 : Nat) + (1 : Nat))) = some (Value.int IntKind.i64 n9)) ∧
  ∀ (w12 : World),
  h1 w12 →
  World.cell? w12 (Addr.add a1 ((0 : Nat) + (1 : Nat) + (1 : Nat) + (1 : Nat) + (1 : Nat))) =
  some (Value.int IntKind.i64 n10)) ∧
  Rets Try.prog (7 : Nat)
  {
  toList :=
  [Value.agg
  {
  toList :=
  [Value.int IntKind.i64 n1, Value.int IntKind.i64 n2, Value.int IntKind.i64 n3, Value.int IntKind.i64 n4,
  Value.int IntKind.i64 n5] }] }
  w2 fun (v1 : Value) (w13 : World) =>
  ∃ (n11 : Int),
  ∃ (n12 : Int),
  ∃ (n13 : Int),
  ∃ (n14 : Int),
  ∃ (n15 : Int),
  v1 =
  Value.agg
  {
  toList :=
  [Value.int IntKind.i64 n11, Value.int IntKind.i64 n12, Value.int IntKind.i64 n13, Value.int IntKind.i64 n14,
  Value.int IntKind.i64 n15] } ∧
  h1 w13 ∧ K (Value.bool (n11 == n6 && (n12 == n7 && (n13 == n8 && (n14 == n9 && n15 == n10))))) w13
theorem script_Config_eq (c0 c1 c2 c3 c4 : Int) (w : World) (K : Value → World → Prop) : fw Try.prog Try.f11 (annL []) (ordL [(1, [(0, 1), (2, 1), (1, 2), (3, 0), (4, 0)])]) [.agg #[.int .i64 c0, .int .i64 c1, .int .i64 c2, .int .i64 c3, .int .i64 c4]] w K = script_Config_m c0 c1 c2 c3 c4 w K := by kernel_rfl
theorem script_Config_go (c0 c1 c2 c3 c4 : Int) {w : World} {K : Value → World → Prop} (h : script_Config_m c0 c1 c2 c3 c4 w K) : Rets Try.prog 11 #[.agg #[.int .i64 c0, .int .i64 c1, .int .i64 c2, .int .i64 c3, .int .i64 c4]] w K :=
  calls_of_fw plain mixed Try.func11 (by kernel_rfl) (by rw [script_Config_eq]; exact h)
def script_Parse_1_m (n : Int) (b : Nat) (w : World) (K : Value → World → Prop) : Prop :=
  ∃ (q1 : Option Addr),
  cellAt w { block := b, off := (0 : Nat) } (Value.pointer q1) ∧
  Rets Try.prog (38 : Nat) { toList := [Value.pointer q1, Value.int IntKind.i64 n] } w fun (v1 : Value) (w1 : World) =>
  ∃ (n1 : Int), v1 = Value.int IntKind.i64 n1 ∧ K (Value.int IntKind.i64 n1) w1
theorem script_Parse_1_eq (n : Int) (b : Nat) (w : World) (K : Value → World → Prop) : fw Try.prog Try.f37 (annL []) (ordL []) [.int .i64 n, .pointer (some ⟨b, 0, none⟩)] w K = script_Parse_1_m n b w K := by kernel_rfl
theorem script_Parse_1_go (n : Int) (b : Nat) {w : World} {K : Value → World → Prop} (h : script_Parse_1_m n b w K) : Rets Try.prog 37 #[.int .i64 n, .pointer (some ⟨b, 0, none⟩)] w K :=
  calls_of_fw plain mixed Try.func37 (by kernel_rfl) (by rw [script_Parse_1_eq]; exact h)
def script_Parse_m (q : Option Addr) (l c : Nat) (w : World) (K : Value → World → Prop) : Prop :=
  NewR (27 : Nat)
  [Value.int IntKind.i64 (0 : Int), Value.int IntKind.i64 (0 : Int), Value.int IntKind.i64 (0 : Int),
  Value.int IntKind.i64 (0 : Int), Value.int IntKind.i64 (0 : Int), Value.slice none (0 : Nat) (0 : Nat),
  Value.slice none (0 : Nat) (0 : Nat), Value.slice none (0 : Nat) (0 : Nat)]
  w fun (a1 : Addr) (w1 : World) =>
  (0 : Int) ≤ minI (↑l : Int) (16384 : Int) ∧
  minI (↑l : Int) (16384 : Int) ≤ (↑c : Int) ∧
  Rets Try.prog (36 : Nat)
  {
  toList :=
  [Value.slice (slcA q (0 : Nat) c (1 : Nat)) (Int.toNat (minI (↑l : Int) (16384 : Int)) - (0 : Nat)) (c - (0 : Nat))] }
  w1 fun (v1 : Value) (w2 : World) =>
  ∃ (q1 : Option Addr),
  v1 = Value.pointer q1 ∧
  NewR (57 : Nat) [Value.pointer none] w2 fun (a2 : Addr) (w3 : World) =>
  StoreR a2 [Value.pointer q1] w3 fun (w4 : World) =>
  ∃ (q2 : Option Addr),
  cellAt w4 a2 (Value.pointer q2) ∧
  Rets Try.prog (39 : Nat) { toList := [Value.pointer q2] } w4 fun (v2 : Value) (w5 : World) =>
  ∃ (n1 : Int),
  v2 = Value.int IntKind.i64 n1 ∧
  StoreR (Addr.add (Addr.add a1 (0 : Nat)) (0 : Nat)) [Value.int IntKind.i64 n1] w5 fun (w6 : World) =>
  Rets Try.prog (37 : Nat) { toList := [Value.int IntKind.i64 (64 : Int), Value.pointer (some a2)] } w6
  fun (v3 : Value) (w7 : World) =>
  ∃ (n2 : Int),
  v3 = Value.int IntKind.i64 n2 ∧
  StoreR (Addr.add (Addr.add a1 (0 : Nat)) (1 : Nat)) [Value.int IntKind.i64 (IntKind.wrap IntKind.i64 (n2 + (1 : Int)))]
  w7 fun (w8 : World) =>
  Rets Try.prog (37 : Nat) { toList := [Value.int IntKind.i64 (16 : Int), Value.pointer (some a2)] } w8
  fun (v4 : Value) (w9 : World) =>
  ∃ (n3 : Int),
  v4 = Value.int IntKind.i64 n3 ∧
  StoreR (Addr.add (Addr.add a1 (0 : Nat)) (3 : Nat)) [Value.int IntKind.i64 (IntKind.wrap IntKind.i64 (n3 + (1 : Int)))]
  w9 fun (w10 : World) =>
  Rets Try.prog (37 : Nat) { toList := [Value.int IntKind.i64 (65 : Int), Value.pointer (some a2)] } w10
  fun (v5 : Value) (w11 : World) =>
  ∃ (n4 : Int),
  v5 = Value.int IntKind.i64 n4 ∧
  StoreR (Addr.add (Addr.add a1 (0 : Nat)) (4 : Nat)) [Value.int IntKind.i64 n4] w11 fun (w12 : World) =>
  ∃ (q3 : Option Addr),
  cellAt w12 a2 (Value.pointer q3) ∧
  Rets Try.prog (39 : Nat) { toList := [Value.pointer q3] } w12 fun (v6 : Value) (w13 : World) =>
  ∃ (n5 : Int),
  v6 = Value.int IntKind.i64 n5 ∧
  StoreR (Addr.add (Addr.add a1 (0 : Nat)) (2 : Nat)) [Value.int IntKind.i64 n5] w13 fun (w14 : World) =>
  ∃ (n6 : Int),
  ∃ (n7 : Int),
  ∃ (n8 : Int),
  ∃ (n9 : Int),
  ∃ (n10 : Int),
  (cellAt w14 (Addr.add (Addr.add a1 (0 : Nat)) (0 : Nat)) (Value.int IntKind.i64 n6) ∧
  cellAt w14 (Addr.add (Addr.add a1 (0 : Nat)) (1 : Nat)) (Value.int IntKind.i64 n7) ∧
  cellAt w14 (Addr.add (Addr.add a1 (0 : Nat)) (2 : Nat)) (Value.int IntKind.i64 n8) ∧
  cellAt w14 (Addr.add (Addr.add a1 (0 : Nat)) (3 : Nat)) (Value.int IntKind.i64 n9) ∧
  cellAt w14 (Addr.add (Addr.add a1 (0 : Nat)) (4 : Nat)) (Value.int IntKind.i64 n10)) ∧
  Rets Try.prog (7 : Nat)
  {
  toList :=
  [Value.agg
  {
  toList :=
  [Value.int IntKind.i64 n6, Value.int IntKind.i64 n7, Value.int IntKind.i64 n8, Value.int IntKind.i64 n9,
  Value.int IntKind.i64 n10] }] }
  w14 fun (v7 : Value) (w15 : World) =>
  ∃ (n11 : Int),
  ∃ (n12 : Int),
  ∃ (n13 : Int),
  ∃ (n14 : Int),
  ∃ (n15 : Int),
  v7 =
  Value.agg
  {
  toList :=
  [Value.int IntKind.i64 n11, Value.int IntKind.i64 n12, Value.int IntKind.i64 n13, Value.int IntKind.i64 n14,
  Value.int IntKind.i64 n15] } ∧
  StoreR (Addr.add a1 (0 : Nat))
  [Value.int IntKind.i64 n11, Value.int IntKind.i64 n12, Value.int IntKind.i64 n13, Value.int IntKind.i64 n14,
  Value.int IntKind.i64 n15]
  w15 fun (w16 : World) =>
  Rets Try.prog (37 : Nat) { toList := [Value.int IntKind.i64 (7 : Int), Value.pointer (some a2)] } w16
  fun (v8 : Value) (w17 : World) =>
  ∃ (n16 : Int),
  v8 = Value.int IntKind.i64 n16 ∧
  ∃ (h1 : Nat → List Value → World → Prop),
  (∃ (k1 : Nat), h1 k1 [Value.int IntKind.i64 (0 : Int)] w17) ∧
  ∀ (k2 : Nat) (w18 : World) (n17 : Int) (v9 v10 v11 v12 v13 v14 v15 v16 v17 : Value),
  h1 k2 [Value.int IntKind.i64 n17] w18 →
  (decide (n17 < n16) = true →
  Drw w18 fun (w19 : World) =>
  ∃ (h2 : World → Prop),
  h2 w19 ∧
  ∃ (q4 : Option Addr),
  ∃ (k3 : Nat),
  ∃ (k4 : Nat),
  (∀ (w20 : World), h2 w20 → World.cell? w20 (Addr.add a1 (5 : Nat)) = some (Value.slice q4 k3 k4)) ∧
  ∃ (q5 : Option Addr),
  (∀ (w21 : World), h2 w21 → World.cell? w21 a2 = some (Value.pointer q5)) ∧
  Rets Try.prog (40 : Nat) { toList := [Value.pointer q5] } w19 fun (v18 : Value) (w22 : World) =>
  ∃ (q6 : Option Addr),
  ∃ (k5 : Nat),
  ∃ (k6 : Nat),
  v18 = Value.slice q6 k5 k6 ∧
  h2 w22 ∧
  NewR (30 : Nat) [Value.slice q6 k5 k6] w22 fun (a3 : Addr) (w23 : World) =>
  h2 w23 ∧
  RunR Try.prog
  (builtinV Builtin.append { toList := [(24 : Nat), (24 : Nat)] } (nat_lit 24)
  { toList := [Value.slice q4 k3 k4, Value.slice (some a3) (1 : Nat) (1 : Nat)] })
  w23 fun (v19 : Value) (w24 : World) =>
  ∃ (q7 : Option Addr),
  ∃ (k7 : Nat),
  ∃ (k8 : Nat),
  v19 = Value.slice q7 k7 k8 ∧
  StoreR (Addr.add a1 (5 : Nat)) [Value.slice q7 k7 k8] w24 fun (w25 : World) =>
  ∃ (k9 : Nat), k9 < k2 ∧ h1 k9 [Value.int IntKind.i64 (IntKind.wrap IntKind.i64 (n17 + (1 : Int)))] w25) ∧
  (decide (n17 < n16) = false →
  ∃ (q8 : Option Addr),
  cellAt w18 a2 (Value.pointer q8) ∧
  Rets Try.prog (41 : Nat) { toList := [Value.pointer q8] } w18 fun (v20 : Value) (w26 : World) =>
  ∃ (n18 : Int),
  v20 = Value.int IntKind.i64 n18 ∧
  ∃ (h3 : Nat → List Value → World → Prop),
  (∃ (k10 : Nat), h3 k10 [Value.int IntKind.i64 (0 : Int)] w26) ∧
  ∀ (k11 : Nat) (w27 : World) (n19 : Int) (v21 v22 v23 v24 v25 v26 v27 v28 v29 : Value),
  h3 k11 [Value.int IntKind.i64 n19] w27 →
  (decide (n19 < n18) = true →
  Drw w27 fun (w28 : World) =>
  ∃ (h4 : World → Prop),
  h4 w28 ∧
  ∃ (q9 : Option Addr),
  ∃ (k12 : Nat),
  ∃ (k13 : Nat),
  (∀ (w29 : World), h4 w29 → World.cell? w29 (Addr.add a1 (7 : Nat)) = some (Value.slice q9 k12 k13)) ∧
  ∃ (q10 : Option Addr),
  (∀ (w30 : World), h4 w30 → World.cell? w30 a2 = some (Value.pointer q10)) ∧
  Rets Try.prog (39 : Nat) { toList := [Value.pointer q10] } w28 fun (v30 : Value) (w31 : World) =>
  ∃ (n20 : Int),
  v30 = Value.int IntKind.i64 n20 ∧
  h4 w31 ∧
  NewR (3 : Nat) [Value.int IntKind.i64 n20] w31 fun (a4 : Addr) (w32 : World) =>
  h4 w32 ∧
  RunR Try.prog
  (builtinV Builtin.append { toList := [(25 : Nat), (25 : Nat)] } (nat_lit 25)
  { toList := [Value.slice q9 k12 k13, Value.slice (some a4) (1 : Nat) (1 : Nat)] })
  w32 fun (v31 : Value) (w33 : World) =>
  ∃ (q11 : Option Addr),
  ∃ (k14 : Nat),
  ∃ (k15 : Nat),
  v31 = Value.slice q11 k14 k15 ∧
  StoreR (Addr.add a1 (7 : Nat)) [Value.slice q11 k14 k15] w33 fun (w34 : World) =>
  ∃ (k16 : Nat), k16 < k11 ∧ h3 k16 [Value.int IntKind.i64 (IntKind.wrap IntKind.i64 (n19 + (1 : Int)))] w34) ∧
  (decide (n19 < n18) = false →
  ∃ (q12 : Option Addr),
  cellAt w27 a2 (Value.pointer q12) ∧
  Rets Try.prog (42 : Nat) { toList := [Value.pointer q12] } w27 fun (v32 : Value) (w35 : World) =>
  ∃ (q13 : Option Addr),
  ∃ (k17 : Nat),
  ∃ (k18 : Nat),
  v32 = Value.slice q13 k17 k18 ∧
  (0 : Int) ≤ minI (↑k17 : Int) (4096 : Int) ∧
  minI (↑k17 : Int) (4096 : Int) ≤ (↑k18 : Int) ∧
  ∃ (h5 : Nat → List Value → World → Prop),
  (∃ (k19 : Nat), h5 k19 [Value.int IntKind.i64 (0 : Int)] w35) ∧
  ∀ (k20 : Nat) (w36 : World) (v33 : Value) (n21 : Int) (v34 v35 v36 v37 v38 v39 v40 v41 v42 v43 v44 : Value),
  h5 k20 [Value.int IntKind.i64 n21] w36 →
  (decide (n21 < (↑(Int.toNat (minI (↑k17 : Int) (4096 : Int)) - (0 : Nat)) : Int)) = true →
  (0 : Int) ≤ n21 ∧
  n21 < (↑(Int.toNat (minI (↑k17 : Int) (4096 : Int)) - (0 : Nat)) : Int) ∧
  someR (slcA q13 (0 : Nat) k18 (1 : Nat)) fun (a5 : Addr) =>
  ∃ (n22 : Int),
  cellAt w36 (Addr.add a5 (Int.toNat n21 * (1 : Nat))) (Value.int IntKind.u8 n22) ∧
  ∃ (q14 : Option Addr),
  ∃ (k21 : Nat),
  ∃ (k22 : Nat),
  cellAt w36 (Addr.add a1 (6 : Nat)) (Value.slice q14 k21 k22) ∧
  NewR (3 : Nat) [Value.int IntKind.i64 (IntKind.wrap IntKind.i64 n22)] w36 fun (a6 : Addr) (w37 : World) =>
  RunR Try.prog
  (builtinV Builtin.append { toList := [(25 : Nat), (25 : Nat)] } (nat_lit 25)
  { toList := [Value.slice q14 k21 k22, Value.slice (some a6) (1 : Nat) (1 : Nat)] })
  w37 fun (v45 : Value) (w38 : World) =>
  ∃ (q15 : Option Addr),
  ∃ (k23 : Nat),
  ∃ (k24 : Nat),
  v45 = Value.slice q15 k23 k24 ∧
  StoreR (Addr.add a1 (6 : Nat)) [Value.slice q15 k23 k24] w38 fun (w39 : World) =>
  ∃ (k25 : Nat), k25 < k20 ∧ h5 k25 [Value.int IntKind.i64 (IntKind.wrap IntKind.i64 (n21 + (1 : Int)))] w39) ∧
  (decide (n21 < (↑(Int.toNat (minI (↑k17 : Int) (4096 : Int)) - (0 : Nat)) : Int)) = false →
  ∃ (n23 : Int),
  ∃ (n24 : Int),
  ∃ (n25 : Int),
  ∃ (n26 : Int),
  ∃ (n27 : Int),
  ∃ (q16 : Option Addr),
  ∃ (k26 : Nat),
  ∃ (k27 : Nat),
  ∃ (q17 : Option Addr),
  ∃ (k28 : Nat),
  ∃ (k29 : Nat),
  ∃ (q18 : Option Addr),
  ∃ (k30 : Nat),
  ∃ (k31 : Nat),
  (cellAt w36 (Addr.add a1 (0 : Nat)) (Value.int IntKind.i64 n23) ∧
  cellAt w36 (Addr.add a1 (1 : Nat)) (Value.int IntKind.i64 n24) ∧
  cellAt w36 (Addr.add a1 (2 : Nat)) (Value.int IntKind.i64 n25) ∧
  cellAt w36 (Addr.add a1 (3 : Nat)) (Value.int IntKind.i64 n26) ∧
  cellAt w36 (Addr.add a1 (4 : Nat)) (Value.int IntKind.i64 n27) ∧
  cellAt w36 (Addr.add a1 (5 : Nat)) (Value.slice q16 k26 k27) ∧
  cellAt w36 (Addr.add a1 (6 : Nat)) (Value.slice q17 k28 k29) ∧
  cellAt w36 (Addr.add a1 (7 : Nat)) (Value.slice q18 k30 k31)) ∧
  StoreR a1
  [Value.int IntKind.i64 n23, Value.int IntKind.i64 n24, Value.int IntKind.i64 n25, Value.int IntKind.i64 n26,
  Value.int IntKind.i64 n27, Value.slice q16 k26 k27, Value.slice q17 k28 k29, Value.slice q18 k30 k31]
  w36 fun (w40 : World) =>
  ∃ (n28 : Int),
  ∃ (n29 : Int),
  ∃ (n30 : Int),
  ∃ (n31 : Int),
  ∃ (n32 : Int),
  ∃ (q19 : Option Addr),
  ∃ (k32 : Nat),
  ∃ (k33 : Nat),
  ∃ (q20 : Option Addr),
  ∃ (k34 : Nat),
  ∃ (k35 : Nat),
  ∃ (q21 : Option Addr),
  ∃ (k36 : Nat),
  ∃ (k37 : Nat),
  (cellAt w40 (Addr.add a1 (0 : Nat)) (Value.int IntKind.i64 n28) ∧
  cellAt w40 (Addr.add a1 (1 : Nat)) (Value.int IntKind.i64 n29) ∧
  cellAt w40 (Addr.add a1 (2 : Nat)) (Value.int IntKind.i64 n30) ∧
  cellAt w40 (Addr.add a1 (3 : Nat)) (Value.int IntKind.i64 n31) ∧
  cellAt w40 (Addr.add a1 (4 : Nat)) (Value.int IntKind.i64 n32) ∧
  cellAt w40 (Addr.add a1 (5 : Nat)) (Value.slice q19 k32 k33) ∧
  cellAt w40 (Addr.add a1 (6 : Nat)) (Value.slice q20 k34 k35) ∧
  cellAt w40 (Addr.add a1 (7 : Nat)) (Value.slice q21 k36 k37)) ∧
  K
  (Value.agg
  {
  toList :=
  [Value.int IntKind.i64 n28, Value.int IntKind.i64 n29, Value.int IntKind.i64 n30, Value.int IntKind.i64 n31,
  Value.int IntKind.i64 n32, Value.slice q19 k32 k33, Value.slice q20 k34 k35, Value.slice q21 k36 k37] })
  w40)))
theorem script_Parse_eq (q : Option Addr) (l c : Nat) (w : World) (K : Value → World → Prop) : fw Try.prog Try.f17 (annL [(1, [(43, some 3), (44, none), (45, none), (46, none), (47, none), (48, none), (49, none), (50, none), (51, none), (52, none)]), (5, [(55, some 3), (56, none), (57, none), (58, none), (59, none), (60, none), (61, none), (62, none), (63, none), (64, none)]), (9, [(7, none), (73, some 3), (74, none), (75, none), (76, none), (77, none), (78, none), (79, none), (80, none), (81, none), (82, none), (83, none), (84, none)])]) (ordL [(11, [(0, 0), (1, 1), (2, 1), (3, 2), (4, 2), (5, 3), (6, 0), (7, 3)]), (15, [(0, 0), (1, 1), (2, 1), (3, 2), (4, 2), (5, 3), (6, 0), (7, 3)])]) [.slice q l c] w K = script_Parse_m q l c w K := by kernel_rfl
theorem script_Parse_go (q : Option Addr) (l c : Nat) {w : World} {K : Value → World → Prop} (h : script_Parse_m q l c w K) : Rets Try.prog 17 #[.slice q l c] w K :=
  calls_of_fw plain mixed Try.func17 (by kernel_rfl) (by rw [script_Parse_eq]; exact h)
def script_Right_1_m (q : Option Addr) (l c : Nat) (w : World) (K : Value → World → Prop) : Prop :=
  Rets Try.prog (21 : Nat) { toList := [Value.slice q l c] } w fun (v1 : Value) (w1 : World) =>
  ∃ (b1 : Bool), v1 = Value.bool b1 ∧ K (Value.bool !b1) w1
theorem script_Right_1_eq (q : Option Addr) (l c : Nat) (w : World) (K : Value → World → Prop) : fw Try.prog Try.f20 (annL []) (ordL []) [.slice q l c] w K = script_Right_1_m q l c w K := by kernel_rfl
theorem script_Right_1_go (q : Option Addr) (l c : Nat) {w : World} {K : Value → World → Prop} (h : script_Right_1_m q l c w K) : Rets Try.prog 20 #[.slice q l c] w K :=
  calls_of_fw plain mixed Try.func20 (by kernel_rfl) (by rw [script_Right_1_eq]; exact h)
def script_Right_2_m (n : Int) (w : World) (K : Value → World → Prop) : Prop :=
  (decide (n < (0 : Int)) = false → K (Value.bool (decide (n > (255 : Int)))) w) ∧
  (decide (n < (0 : Int)) = true → K (Value.bool true) w)
theorem script_Right_2_eq (n : Int) (w : World) (K : Value → World → Prop) : fw Try.prog Try.f22 (annL []) (ordL []) [.int .i64 n] w K = script_Right_2_m n w K := by kernel_rfl
theorem script_Right_2_go (n : Int) {w : World} {K : Value → World → Prop} (h : script_Right_2_m n w K) : Rets Try.prog 22 #[.int .i64 n] w K :=
  calls_of_fw plain mixed Try.func22 (by kernel_rfl) (by rw [script_Right_2_eq]; exact h)
def pro_Index_m (q : Option Addr) (l c : Nat) (w : World) (K : Value → World → Prop) : Prop :=
  ∃ (h1 : Nat → List Value → World → Prop),
  (∃ (k1 : Nat), h1 k1 [Value.int IntKind.i64 (0 : Int)] w) ∧
  ∀ (k2 : Nat) (w1 : World) (v1 v2 : Value) (n1 : Int) (v3 v4 v5 v6 v7 v8 v9 v10 v11 v12 : Value),
  h1 k2 [Value.int IntKind.i64 n1] w1 →
  (decide (n1 < (↑l : Int)) = true →
  (0 : Int) ≤ n1 ∧
  n1 < (↑l : Int) ∧
  someR q fun (a1 : Addr) =>
  ∃ (q1 : Option Addr),
  ∃ (k3 : Nat),
  ∃ (k4 : Nat),
  cellAt w1 (Addr.add a1 (Int.toNat n1 * (1 : Nat))) (Value.slice q1 k3 k4) ∧
  Rets Try.prog (20 : Nat) { toList := [Value.slice q1 k3 k4] } w1 fun (v13 : Value) (w2 : World) =>
  ∃ (b1 : Bool),
  v13 = Value.bool b1 ∧
  (b1 = true → K (Value.int IntKind.i64 n1) w2) ∧
  (b1 = false → ∃ (k5 : Nat), k5 < k2 ∧ h1 k5 [Value.int IntKind.i64 (IntKind.wrap IntKind.i64 (n1 + (1 : Int)))] w2)) ∧
  (decide (n1 < (↑l : Int)) = false → K (Value.int IntKind.i64 (-1 : Int)) w1)
theorem pro_Index_eq (q : Option Addr) (l c : Nat) (w : World) (K : Value → World → Prop) : fw Try.prog Try.f46 (annL [(1, [(4, none), (5, none), (8, some 3), (9, none), (10, none), (11, none), (12, none), (13, none), (14, none), (15, none), (16, none), (17, none), (18, none)])]) (ordL []) [.slice q l c, .func (.func 20) #[] #[]] w K = pro_Index_m q l c w K := by kernel_rfl
theorem pro_Index_go (q : Option Addr) (l c : Nat) {w : World} {K : Value → World → Prop} (h : pro_Index_m q l c w K) : Rets Try.prog 46 #[.slice q l c, .func (.func 20) #[] #[]] w K :=
  calls_of_fw plain mixed Try.func46 (by kernel_rfl) (by rw [pro_Index_eq]; exact h)
def pro_Contains_m (q : Option Addr) (l c : Nat) (w : World) (K : Value → World → Prop) : Prop :=
  Rets Try.prog (46 : Nat)
  { toList := [Value.slice q l c, Value.func (Fn.func (20 : Nat)) { toList := [] } { toList := [] }] } w
  fun (v1 : Value) (w1 : World) =>
  ∃ (n1 : Int), v1 = Value.int IntKind.i64 n1 ∧ K (Value.bool (decide (n1 ≥ (0 : Int)))) w1
theorem pro_Contains_eq (q : Option Addr) (l c : Nat) (w : World) (K : Value → World → Prop) : fw Try.prog Try.f23 (annL []) (ordL []) [.slice q l c, .func (.func 20) #[] #[]] w K = pro_Contains_m q l c w K := by kernel_rfl
theorem pro_Contains_go (q : Option Addr) (l c : Nat) {w : World} {K : Value → World → Prop} (h : pro_Contains_m q l c w K) : Rets Try.prog 23 #[.slice q l c, .func (.func 20) #[] #[]] w K :=
  calls_of_fw plain mixed Try.func23 (by kernel_rfl) (by rw [pro_Contains_eq]; exact h)
def pic_Index_m (q : Option Addr) (l c : Nat) (w : World) (K : Value → World → Prop) : Prop :=
  ∃ (h1 : Nat → List Value → World → Prop),
  (∃ (k1 : Nat), h1 k1 [Value.int IntKind.i64 (0 : Int)] w) ∧
  ∀ (k2 : Nat) (w1 : World) (v1 v2 : Value) (n1 : Int) (v3 v4 v5 v6 v7 v8 v9 v10 v11 v12 : Value),
  h1 k2 [Value.int IntKind.i64 n1] w1 →
  (decide (n1 < (↑l : Int)) = true →
  (0 : Int) ≤ n1 ∧
  n1 < (↑l : Int) ∧
  someR q fun (a1 : Addr) =>
  ∃ (n2 : Int),
  cellAt w1 (Addr.add a1 (Int.toNat n1 * (1 : Nat))) (Value.int IntKind.i64 n2) ∧
  Rets Try.prog (22 : Nat) { toList := [Value.int IntKind.i64 n2] } w1 fun (v13 : Value) (w2 : World) =>
  ∃ (b1 : Bool),
  v13 = Value.bool b1 ∧
  (b1 = true → K (Value.int IntKind.i64 n1) w2) ∧
  (b1 = false → ∃ (k3 : Nat), k3 < k2 ∧ h1 k3 [Value.int IntKind.i64 (IntKind.wrap IntKind.i64 (n1 + (1 : Int)))] w2)) ∧
  (decide (n1 < (↑l : Int)) = false → K (Value.int IntKind.i64 (-1 : Int)) w1)
theorem pic_Index_eq (q : Option Addr) (l c : Nat) (w : World) (K : Value → World → Prop) : fw Try.prog Try.f47 (annL [(1, [(4, none), (5, none), (8, some 3), (9, none), (10, none), (11, none), (12, none), (13, none), (14, none), (15, none), (16, none), (17, none), (18, none)])]) (ordL []) [.slice q l c, .func (.func 22) #[] #[]] w K = pic_Index_m q l c w K := by kernel_rfl
theorem pic_Index_go (q : Option Addr) (l c : Nat) {w : World} {K : Value → World → Prop} (h : pic_Index_m q l c w K) : Rets Try.prog 47 #[.slice q l c, .func (.func 22) #[] #[]] w K :=
  calls_of_fw plain mixed Try.func47 (by kernel_rfl) (by rw [pic_Index_eq]; exact h)
def pic_Contains_m (q : Option Addr) (l c : Nat) (w : World) (K : Value → World → Prop) : Prop :=
  Rets Try.prog (47 : Nat)
  { toList := [Value.slice q l c, Value.func (Fn.func (22 : Nat)) { toList := [] } { toList := [] }] } w
  fun (v1 : Value) (w1 : World) =>
  ∃ (n1 : Int), v1 = Value.int IntKind.i64 n1 ∧ K (Value.bool (decide (n1 ≥ (0 : Int)))) w1
theorem pic_Contains_eq (q : Option Addr) (l c : Nat) (w : World) (K : Value → World → Prop) : fw Try.prog Try.f24 (annL []) (ordL []) [.slice q l c, .func (.func 22) #[] #[]] w K = pic_Contains_m q l c w K := by kernel_rfl
theorem pic_Contains_go (q : Option Addr) (l c : Nat) {w : World} {K : Value → World → Prop} (h : pic_Contains_m q l c w K) : Rets Try.prog 24 #[.slice q l c, .func (.func 22) #[] #[]] w K :=
  calls_of_fw plain mixed Try.func24 (by kernel_rfl) (by rw [pic_Contains_eq]; exact h)
def script_Right_m (c0 c1 c2 c3 c4 : Int) (q : Option Addr) (l c : Nat) (q2 : Option Addr) (l2 d2 : Nat) (q3 : Option Addr) (l3 d3 : Nat) (w : World) (K : Value → World → Prop) : Prop :=
  NewR (27 : Nat)
  [Value.int IntKind.i64 c0, Value.int IntKind.i64 c1, Value.int IntKind.i64 c2, Value.int IntKind.i64 c3,
  Value.int IntKind.i64 c4, Value.slice q l c, Value.slice q2 l2 d2, Value.slice q3 l3 d3]
  w fun (a1 : Addr) (w1 : World) =>
  ∃ (n1 : Int),
  ∃ (n2 : Int),
  ∃ (n3 : Int),
  ∃ (n4 : Int),
  ∃ (n5 : Int),
  (cellAt w1 (Addr.add (Addr.add a1 (0 : Nat)) (0 : Nat)) (Value.int IntKind.i64 n1) ∧
  cellAt w1 (Addr.add (Addr.add a1 (0 : Nat)) (1 : Nat)) (Value.int IntKind.i64 n2) ∧
  cellAt w1 (Addr.add (Addr.add a1 (0 : Nat)) (2 : Nat)) (Value.int IntKind.i64 n3) ∧
  cellAt w1 (Addr.add (Addr.add a1 (0 : Nat)) (3 : Nat)) (Value.int IntKind.i64 n4) ∧
  cellAt w1 (Addr.add (Addr.add a1 (0 : Nat)) (4 : Nat)) (Value.int IntKind.i64 n5)) ∧
  Rets Try.prog (11 : Nat)
  {
  toList :=
  [Value.agg
  {
  toList :=
  [Value.int IntKind.i64 n1, Value.int IntKind.i64 n2, Value.int IntKind.i64 n3, Value.int IntKind.i64 n4,
  Value.int IntKind.i64 n5] }] }
  w1 fun (v1 : Value) (w2 : World) =>
  ∃ (b1 : Bool),
  v1 = Value.bool b1 ∧
  ((!b1) = false →
  ∃ (q1 : Option Addr),
  ∃ (k1 : Nat),
  ∃ (k2 : Nat),
  cellAt w2 (Addr.add a1 (5 : Nat)) (Value.slice q1 k1 k2) ∧
  (decide ((↑k1 : Int) > (6 : Int)) = false →
  ∃ (q2 : Option Addr),
  ∃ (k3 : Nat),
  ∃ (k4 : Nat),
  cellAt w2 (Addr.add a1 (6 : Nat)) (Value.slice q2 k3 k4) ∧
  (decide ((↑k3 : Int) > (4096 : Int)) = false →
  ∃ (q3 : Option Addr),
  ∃ (k5 : Nat),
  ∃ (k6 : Nat),
  cellAt w2 (Addr.add a1 (7 : Nat)) (Value.slice q3 k5 k6) ∧
  (decide ((↑k5 : Int) ≥ (256 : Int)) = true → K (Value.bool false) w2) ∧
  (decide ((↑k5 : Int) ≥ (256 : Int)) = false →
  ∃ (q4 : Option Addr),
  ∃ (k7 : Nat),
  ∃ (k8 : Nat),
  cellAt w2 (Addr.add a1 (5 : Nat)) (Value.slice q4 k7 k8) ∧
  Rets Try.prog (23 : Nat)
  { toList := [Value.slice q4 k7 k8, Value.func (Fn.func (20 : Nat)) { toList := [] } { toList := [] }] } w2
  fun (v2 : Value) (w3 : World) =>
  ∃ (b2 : Bool),
  v2 = Value.bool b2 ∧
  ((!b2) = true →
  ∃ (q5 : Option Addr),
  ∃ (k9 : Nat),
  ∃ (k10 : Nat),
  cellAt w3 (Addr.add a1 (6 : Nat)) (Value.slice q5 k9 k10) ∧
  Rets Try.prog (24 : Nat)
  { toList := [Value.slice q5 k9 k10, Value.func (Fn.func (22 : Nat)) { toList := [] } { toList := [] }] } w3
  fun (v3 : Value) (w4 : World) => ∃ (b3 : Bool), v3 = Value.bool b3 ∧ K (Value.bool !b3) w4) ∧
  ((!b2) = false → K (Value.bool false) w3))) ∧
  (decide ((↑k3 : Int) > (4096 : Int)) = true → K (Value.bool false) w2)) ∧
  (decide ((↑k1 : Int) > (6 : Int)) = true → K (Value.bool false) w2)) ∧
  ((!b1) = true → K (Value.bool false) w2)
theorem script_Right_eq (c0 c1 c2 c3 c4 : Int) (q : Option Addr) (l c : Nat) (q2 : Option Addr) (l2 d2 : Nat) (q3 : Option Addr) (l3 d3 : Nat) (w : World) (K : Value → World → Prop) : fw Try.prog Try.f8 (annL []) (ordL []) [.agg #[.int .i64 c0, .int .i64 c1, .int .i64 c2, .int .i64 c3, .int .i64 c4, .slice q l c, .slice q2 l2 d2, .slice q3 l3 d3]] w K = script_Right_m c0 c1 c2 c3 c4 q l c q2 l2 d2 q3 l3 d3 w K := by kernel_rfl
theorem script_Right_go (c0 c1 c2 c3 c4 : Int) (q : Option Addr) (l c : Nat) (q2 : Option Addr) (l2 d2 : Nat) (q3 : Option Addr) (l3 d3 : Nat) {w : World} {K : Value → World → Prop} (h : script_Right_m c0 c1 c2 c3 c4 q l c q2 l2 d2 q3 l3 d3 w K) : Rets Try.prog 8 #[.agg #[.int .i64 c0, .int .i64 c1, .int .i64 c2, .int .i64 c3, .int .i64 c4, .slice q l c, .slice q2 l2 d2, .slice q3 l3 d3]] w K :=
  calls_of_fw plain mixed Try.func8 (by kernel_rfl) (by rw [script_Right_eq]; exact h)
def cortadoref18_Right_m (c0 c1 c2 c3 c4 : Int) (q : Option Addr) (l c : Nat) (q2 : Option Addr) (l2 d2 : Nat) (q3 : Option Addr) (l3 d3 : Nat) (w : World) (K : Value → World → Prop) : Prop :=
  NewR (27 : Nat)
  [Value.int IntKind.i64 c0, Value.int IntKind.i64 c1, Value.int IntKind.i64 c2, Value.int IntKind.i64 c3,
  Value.int IntKind.i64 c4, Value.slice q l c, Value.slice q2 l2 d2, Value.slice q3 l3 d3]
  w fun (a1 : Addr) (w1 : World) =>
  Drw w1 fun (w2 : World) =>
  ∃ (h1 : World → Prop),
  h1 w2 ∧
  ∃ (n1 : Int),
  ∃ (n2 : Int),
  ∃ (n3 : Int),
  ∃ (n4 : Int),
  ∃ (n5 : Int),
  ((∀ (w3 : World),
  h1 w3 → World.cell? w3 (Addr.add (Addr.add a1 (0 : Nat)) (0 : Nat)) = some (Value.int IntKind.i64 n1)) ∧
  (∀ (w4 : World),
  h1 w4 → World.cell? w4 (Addr.add (Addr.add a1 (0 : Nat)) ((0 : Nat) + (1 : Nat))) = some (Value.int IntKind.i64 n2)) ∧
  (∀ (w5 : World),
  h1 w5 →
  World.cell? w5 (Addr.add (Addr.add a1 (0 : Nat)) ((0 : Nat) + (1 : Nat) + (1 : Nat))) =
  some (Value.int IntKind.i64 n3)) ∧
  (∀ (w6 : World),
  h1 w6 →
  World.cell? w6 (Addr.add (Addr.add a1 (0 : Nat)) ((0 : Nat) + (1 : Nat) + (1 : Nat) + (1 : Nat))) =
  some (Value.int IntKind.i64 n4)) ∧
  ∀ (w7 : World),
  h1 w7 →
  World.cell? w7 (Addr.add (Addr.add a1 (0 : Nat)) ((0 : Nat) + (1 : Nat) + (1 : Nat) + (1 : Nat) + (1 : Nat))) =
  some (Value.int IntKind.i64 n5)) ∧
  ∃ (n6 : Int),
  ∃ (n7 : Int),
  ∃ (n8 : Int),
  ∃ (n9 : Int),
  ∃ (n10 : Int),
  ((∀ (w8 : World),
  h1 w8 → World.cell? w8 (Addr.add (Addr.add a1 (0 : Nat)) (0 : Nat)) = some (Value.int IntKind.i64 n6)) ∧
  (∀ (w9 : World),
  h1 w9 → World.cell? w9 (Addr.add (Addr.add a1 (0 : Nat)) ((0 : Nat) + (1 : Nat))) = some (Value.int IntKind.i64 n7)) ∧
  (∀ (w10 : World),
  h1 w10 →
  World.cell? w10 (Addr.add (Addr.add a1 (0 : Nat)) ((0 : Nat) + (1 : Nat) + (1 : Nat))) =
  some (Value.int IntKind.i64 n8)) ∧
  (∀ (w11 : World),
  h1 w11 →
  World.cell? w11 (Addr.add (Addr.add a1 (0 : Nat)) ((0 : Nat) + (1 : Nat) + (1 : Nat) + (1 : Nat))) =
  some (Value.int IntKind.i64 n9)) ∧
  ∀ (w12 : World),
  h1 w12 →
  World.cell? w12 (Addr.add (Addr.add a1 (0 : Nat)) ((0 : Nat) + (1 : Nat) + (1 : Nat) + (1 : Nat) + (1 : Nat))) =
  some (Value.int IntKind.i64 n10)) ∧
  Rets Try.prog (10 : Nat)
  {
  toList :=
  [Value.agg
  {
  toList :=
  [Value.int IntKind.i64 n1, Value.int IntKind.i64 n2, Value.int IntKind.i64 n3, Value.int IntKind.i64 n4,
  Value.int IntKind.i64 n5] }] }
  w2 fun (v1 : Value) (w13 : World) =>
  ∃ (n11 : Int),
  ∃ (n12 : Int),
  ∃ (n13 : Int),
  ∃ (n14 : Int),
  ∃ (n15 : Int),
  v1 =
  Value.agg
  {
  toList :=
  [Value.int IntKind.i64 n11, Value.int IntKind.i64 n12, Value.int IntKind.i64 n13, Value.int IntKind.i64 n14,
  Value.int IntKind.i64 n15] } ∧
  h1 w13 ∧
  ((!(n11 == n6 && (n12 == n7 && (n13 == n8 && (n14 == n9 && n15 == n10))))) = false →
  ∃ (q1 : Option Addr),
  ∃ (k1 : Nat),
  ∃ (k2 : Nat),
  (∀ (w14 : World), h1 w14 → World.cell? w14 (Addr.add a1 (5 : Nat)) = some (Value.slice q1 k1 k2)) ∧
  (decide ((↑k1 : Int) > (6 : Int)) = false →
  ∃ (q2 : Option Addr),
  ∃ (k3 : Nat),
  ∃ (k4 : Nat),
  (∀ (w15 : World), h1 w15 → World.cell? w15 (Addr.add a1 (6 : Nat)) = some (Value.slice q2 k3 k4)) ∧
  (decide ((↑k3 : Int) > (4096 : Int)) = false →
  ∃ (q3 : Option Addr),
  ∃ (k5 : Nat),
  ∃ (k6 : Nat),
  (∀ (w16 : World), h1 w16 → World.cell? w16 (Addr.add a1 (7 : Nat)) = some (Value.slice q3 k5 k6)) ∧
  (decide ((↑k5 : Int) > (255 : Int)) = true → K (Value.bool false) w13) ∧
  (decide ((↑k5 : Int) > (255 : Int)) = false →
  ∃ (h2 : Nat → List Value → World → Prop),
  (∃ (k7 : Nat), h2 k7 [Value.int IntKind.i64 (0 : Int)] w13) ∧
  ∀ (k8 : Nat) (w17 : World) (v2 : Value) (n16 : Int) (v3 v4 v5 v6 v7 v8 v9 v10 v11 v12 v13 v14 v15 v16 : Value),
  h2 k8 [Value.int IntKind.i64 n16] w17 →
  ∃ (q4 : Option Addr),
  ∃ (k9 : Nat),
  ∃ (k10 : Nat),
  cellAt w17 (Addr.add a1 (5 : Nat)) (Value.slice q4 k9 k10) ∧
  (decide (n16 < (↑k9 : Int)) = true →
  ∃ (q5 : Option Addr),
  ∃ (k11 : Nat),
  ∃ (k12 : Nat),
  cellAt w17 (Addr.add a1 (5 : Nat)) (Value.slice q5 k11 k12) ∧
  (0 : Int) ≤ n16 ∧
  n16 < (↑k11 : Int) ∧
  someR q5 fun (a2 : Addr) =>
  ∃ (q6 : Option Addr),
  ∃ (k13 : Nat),
  ∃ (k14 : Nat),
  cellAt w17 (Addr.add a2 (Int.toNat n16 * (1 : Nat))) (Value.slice q6 k13 k14) ∧
  Rets Try.prog (25 : Nat) { toList := [Value.slice q6 k13 k14] } w17 fun (v17 : Value) (w18 : World) =>
  ∃ (b1 : Bool),
  v17 = Value.bool b1 ∧
  ((!b1) = true → K (Value.bool false) w18) ∧
  ((!b1) = false →
  ∃ (k15 : Nat), k15 < k8 ∧ h2 k15 [Value.int IntKind.i64 (IntKind.wrap IntKind.i64 (n16 + (1 : Int)))] w18)) ∧
  (decide (n16 < (↑k9 : Int)) = false →
  ∃ (h3 : Nat → List Value → World → Prop),
  (∃ (k16 : Nat), h3 k16 [Value.int IntKind.i64 (0 : Int)] w17) ∧
  ∀ (k17 : Nat) (w19 : World) (v18 : Value) (n17 : Int)
  (v19 v20 v21 v22 v23 v24 v25 v26 v27 v28 v29 v30 v31 v32 v33 v34 v35 v36 v37 v38 v39 : Value),
  h3 k17 [Value.int IntKind.i64 n17] w19 →
  ∃ (q7 : Option Addr),
  ∃ (k18 : Nat),
  ∃ (k19 : Nat),
  cellAt w19 (Addr.add a1 (6 : Nat)) (Value.slice q7 k18 k19) ∧
  (decide (n17 < (↑k18 : Int)) = true →
  ∃ (q8 : Option Addr),
  ∃ (k20 : Nat),
  ∃ (k21 : Nat),
  cellAt w19 (Addr.add a1 (6 : Nat)) (Value.slice q8 k20 k21) ∧
  (0 : Int) ≤ n17 ∧
  n17 < (↑k20 : Int) ∧
  someR q8 fun (a3 : Addr) =>
  ∃ (n18 : Int),
  cellAt w19 (Addr.add a3 (Int.toNat n17 * (1 : Nat))) (Value.int IntKind.i64 n18) ∧
  (decide (n18 < (0 : Int)) = false →
  ∃ (q9 : Option Addr),
  ∃ (k22 : Nat),
  ∃ (k23 : Nat),
  cellAt w19 (Addr.add a1 (6 : Nat)) (Value.slice q9 k22 k23) ∧
  (0 : Int) ≤ n17 ∧
  n17 < (↑k22 : Int) ∧
  someR q9 fun (a4 : Addr) =>
  ∃ (n19 : Int),
  cellAt w19 (Addr.add a4 (Int.toNat n17 * (1 : Nat))) (Value.int IntKind.i64 n19) ∧
  (decide (n19 > (255 : Int)) = true → K (Value.bool false) w19) ∧
  (decide (n19 > (255 : Int)) = false →
  ∃ (k24 : Nat), k24 < k17 ∧ h3 k24 [Value.int IntKind.i64 (IntKind.wrap IntKind.i64 (n17 + (1 : Int)))] w19)) ∧
  (decide (n18 < (0 : Int)) = true → K (Value.bool false) w19)) ∧
  (decide (n17 < (↑k18 : Int)) = false → K (Value.bool true) w19)))) ∧
  (decide ((↑k3 : Int) > (4096 : Int)) = true → K (Value.bool false) w13)) ∧
  (decide ((↑k1 : Int) > (6 : Int)) = true → K (Value.bool false) w13)) ∧
  ((!(n11 == n6 && (n12 == n7 && (n13 == n8 && (n14 == n9 && n15 == n10))))) = true → K (Value.bool false) w13)
theorem cortadoref18_Right_eq (c0 c1 c2 c3 c4 : Int) (q : Option Addr) (l c : Nat) (q2 : Option Addr) (l2 d2 : Nat) (q3 : Option Addr) (l3 d3 : Nat) (w : World) (K : Value → World → Prop) : fw Try.prog Try.f9 (annL [(2, [(2, none), (3, some 3), (29, none), (30, none), (31, none), (32, none), (33, none), (34, none), (35, none), (36, none), (37, none), (38, none), (39, none), (40, none), (41, none), (42, none)]), (7, [(2, none), (4, some 3), (43, none), (44, none), (45, none), (46, none), (47, none), (48, none), (49, none), (50, none), (51, none), (52, none), (53, none), (54, none), (55, none), (56, none), (57, none), (58, none), (59, none), (60, none), (61, none), (62, none), (63, none)])]) (ordL [(1, [(0, 0), (3, 0), (1, 1), (4, 1), (2, 2), (5, 0), (6, 0), (7, 0), (8, 1), (9, 0), (10, 0), (11, 0), (12, 0), (13, 0), (14, 1), (15, 0), (16, 0), (17, 0), (18, 0), (19, 0), (20, 1), (21, 0), (22, 0), (23, 0)])]) [.agg #[.int .i64 c0, .int .i64 c1, .int .i64 c2, .int .i64 c3, .int .i64 c4, .slice q l c, .slice q2 l2 d2, .slice q3 l3 d3]] w K = cortadoref18_Right_m c0 c1 c2 c3 c4 q l c q2 l2 d2 q3 l3 d3 w K := by kernel_rfl
theorem cortadoref18_Right_go (c0 c1 c2 c3 c4 : Int) (q : Option Addr) (l c : Nat) (q2 : Option Addr) (l2 d2 : Nat) (q3 : Option Addr) (l3 d3 : Nat) {w : World} {K : Value → World → Prop} (h : cortadoref18_Right_m c0 c1 c2 c3 c4 q l c q2 l2 d2 q3 l3 d3 w K) : Rets Try.prog 9 #[.agg #[.int .i64 c0, .int .i64 c1, .int .i64 c2, .int .i64 c3, .int .i64 c4, .slice q l c, .slice q2 l2 d2, .slice q3 l3 d3]] w K :=
  calls_of_fw plain mixed Try.func9 (by kernel_rfl) (by rw [cortadoref18_Right_eq]; exact h)
def cortadoref18_numbers_m (q : Option Addr) (l c : Nat) (q2 : Option Addr) (l2 c2 : Nat) (w : World) (K : Value → World → Prop) : Prop :=
  (((↑l : Int) != (↑l2 : Int)) = true → K (Value.bool false) w) ∧
  (((↑l : Int) != (↑l2 : Int)) = false →
  ∃ (h1 : Nat → List Value → World → Prop),
  (∃ (k1 : Nat), h1 k1 [Value.int IntKind.i64 (0 : Int)] w) ∧
  ∀ (k2 : Nat) (w1 : World) (v1 : Value) (n1 : Int) (v2 v3 v4 v5 v6 v7 v8 v9 v10 v11 v12 v13 v14 v15 v16 : Value),
  h1 k2 [Value.int IntKind.i64 n1] w1 →
  (decide (n1 < (↑l : Int)) = true →
  Drw w1 fun (w2 : World) =>
  (0 : Int) ≤ n1 ∧
  n1 < (↑l : Int) ∧
  someR q fun (a1 : Addr) =>
  (0 : Int) ≤ n1 ∧
  n1 < (↑l2 : Int) ∧
  someR q2 fun (a2 : Addr) =>
  ∃ (n2 : Int),
  cellAt w2 (Addr.add a1 (Int.toNat n1 * (1 : Nat))) (Value.int IntKind.i64 n2) ∧
  ∃ (n3 : Int),
  cellAt w2 (Addr.add a2 (Int.toNat n1 * (1 : Nat))) (Value.int IntKind.i64 n3) ∧
  ((n2 != n3) = true → K (Value.bool false) w2) ∧
  ((n2 != n3) = false →
  ∃ (k3 : Nat), k3 < k2 ∧ h1 k3 [Value.int IntKind.i64 (IntKind.wrap IntKind.i64 (n1 + (1 : Int)))] w2)) ∧
  (decide (n1 < (↑l : Int)) = false → K (Value.bool true) w1))
theorem cortadoref18_numbers_eq (q : Option Addr) (l c : Nat) (q2 : Option Addr) (l2 c2 : Nat) (w : World) (K : Value → World → Prop) : fw Try.prog Try.f31 (annL [(2, [(4, none), (5, some 3), (11, none), (12, none), (13, none), (14, none), (15, none), (16, none), (17, none), (18, none), (19, none), (20, none), (21, none), (22, none), (23, none), (24, none), (25, none)])]) (ordL [(6, [(0, 0), (1, 0), (2, 0), (4, 0), (5, 0), (6, 0), (3, 1), (7, 1), (8, 0)])]) [.slice q l c, .slice q2 l2 c2] w K = cortadoref18_numbers_m q l c q2 l2 c2 w K := by kernel_rfl
theorem cortadoref18_numbers_go (q : Option Addr) (l c : Nat) (q2 : Option Addr) (l2 c2 : Nat) {w : World} {K : Value → World → Prop} (h : cortadoref18_numbers_m q l c q2 l2 c2 w K) : Rets Try.prog 31 #[.slice q l c, .slice q2 l2 c2] w K :=
  calls_of_fw plain mixed Try.func31 (by kernel_rfl) (by rw [cortadoref18_numbers_eq]; exact h)
def cortadoref18_Same_m (c0 c1 c2 c3 c4 : Int) (q : Option Addr) (l c : Nat) (q2 : Option Addr) (l2 d2 : Nat) (q3 : Option Addr) (l3 d3 : Nat) (e0 e1 e2 e3 e4 : Int) (r : Option Addr) (m n : Nat) (r2 : Option Addr) (m2 n2 : Nat) (r3 : Option Addr) (m3 n3 : Nat) (w : World) (K : Value → World → Prop) : Prop :=
  NewR (27 : Nat)
  [Value.int IntKind.i64 c0, Value.int IntKind.i64 c1, Value.int IntKind.i64 c2, Value.int IntKind.i64 c3,
  Value.int IntKind.i64 c4, Value.slice q l c, Value.slice q2 l2 d2, Value.slice q3 l3 d3]
  w fun (a1 : Addr) (w1 : World) =>
  NewR (27 : Nat)
  [Value.int IntKind.i64 e0, Value.int IntKind.i64 e1, Value.int IntKind.i64 e2, Value.int IntKind.i64 e3,
  Value.int IntKind.i64 e4, Value.slice r m n, Value.slice r2 m2 n2, Value.slice r3 m3 n3]
  w1 fun (a2 : Addr) (w2 : World) =>
  ∃ (n1 : Int),
  ∃ (n2 : Int),
  ∃ (n3 : Int),
  ∃ (n4 : Int),
  ∃ (n5 : Int),
  (cellAt w2 (Addr.add (Addr.add a1 (0 : Nat)) (0 : Nat)) (Value.int IntKind.i64 n1) ∧
  cellAt w2 (Addr.add (Addr.add a1 (0 : Nat)) (1 : Nat)) (Value.int IntKind.i64 n2) ∧
  cellAt w2 (Addr.add (Addr.add a1 (0 : Nat)) (2 : Nat)) (Value.int IntKind.i64 n3) ∧
  cellAt w2 (Addr.add (Addr.add a1 (0 : Nat)) (3 : Nat)) (Value.int IntKind.i64 n4) ∧
  cellAt w2 (Addr.add (Addr.add a1 (0 : Nat)) (4 : Nat)) (Value.int IntKind.i64 n5)) ∧
  ∃ (n6 : Int),
  ∃ (n7 : Int),
  ∃ (n8 : Int),
  ∃ (n9 : Int),
  ∃ (n10 : Int),
  (cellAt w2 (Addr.add (Addr.add a2 (0 : Nat)) (0 : Nat)) (Value.int IntKind.i64 n6) ∧
  cellAt w2 (Addr.add (Addr.add a2 (0 : Nat)) (1 : Nat)) (Value.int IntKind.i64 n7) ∧
  cellAt w2 (Addr.add (Addr.add a2 (0 : Nat)) (2 : Nat)) (Value.int IntKind.i64 n8) ∧
  cellAt w2 (Addr.add (Addr.add a2 (0 : Nat)) (3 : Nat)) (Value.int IntKind.i64 n9) ∧
  cellAt w2 (Addr.add (Addr.add a2 (0 : Nat)) (4 : Nat)) (Value.int IntKind.i64 n10)) ∧
  ((!(n1 == n6 && (n2 == n7 && (n3 == n8 && (n4 == n9 && n5 == n10))))) = false →
  ∃ (q1 : Option Addr),
  ∃ (k1 : Nat),
  ∃ (k2 : Nat),
  cellAt w2 (Addr.add a1 (5 : Nat)) (Value.slice q1 k1 k2) ∧
  ∃ (q2 : Option Addr),
  ∃ (k3 : Nat),
  ∃ (k4 : Nat),
  cellAt w2 (Addr.add a2 (5 : Nat)) (Value.slice q2 k3 k4) ∧
  (((↑k1 : Int) != (↑k3 : Int)) = true → K (Value.bool false) w2) ∧
  (((↑k1 : Int) != (↑k3 : Int)) = false →
  ∃ (h1 : Nat → List Value → World → Prop),
  (∃ (k5 : Nat), h1 k5 [Value.int IntKind.i64 (0 : Int)] w2) ∧
  ∀ (k6 : Nat) (w3 : World) (v1 : Value) (n11 : Int)
  (v2 v3 v4 v5 v6 v7 v8 v9 v10 v11 v12 v13 v14 v15 v16 v17 v18 v19 v20 : Value),
  h1 k6 [Value.int IntKind.i64 n11] w3 →
  ∃ (q3 : Option Addr),
  ∃ (k7 : Nat),
  ∃ (k8 : Nat),
  cellAt w3 (Addr.add a1 (5 : Nat)) (Value.slice q3 k7 k8) ∧
  (decide (n11 < (↑k7 : Int)) = true →
  Drw w3 fun (w4 : World) =>
  ∃ (q4 : Option Addr),
  ∃ (k9 : Nat),
  ∃ (k10 : Nat),
  cellAt w4 (Addr.add a1 (5 : Nat)) (Value.slice q4 k9 k10) ∧
  (0 : Int) ≤ n11 ∧
  n11 < (↑k9 : Int) ∧
  someR q4 fun (a3 : Addr) =>
  ∃ (q5 : Option Addr),
  ∃ (k11 : Nat),
  ∃ (k12 : Nat),
  cellAt w4 (Addr.add a3 (Int.toNat n11 * (1 : Nat))) (Value.slice q5 k11 k12) ∧
  ∃ (q6 : Option Addr),
  ∃ (k13 : Nat),
  ∃ (k14 : Nat),
  cellAt w4 (Addr.add a2 (5 : Nat)) (Value.slice q6 k13 k14) ∧
  (0 : Int) ≤ n11 ∧
  n11 < (↑k13 : Int) ∧
  someR q6 fun (a4 : Addr) =>
  ∃ (q7 : Option Addr),
  ∃ (k15 : Nat),
  ∃ (k16 : Nat),
  cellAt w4 (Addr.add a4 (Int.toNat n11 * (1 : Nat))) (Value.slice q7 k15 k16) ∧
  Rets Try.prog (30 : Nat) { toList := [Value.slice q5 k11 k12, Value.slice q7 k15 k16] } w4
  fun (v21 : Value) (w5 : World) =>
  ∃ (b1 : Bool),
  v21 = Value.bool b1 ∧
  ((!b1) = true → K (Value.bool false) w5) ∧
  ((!b1) = false →
  ∃ (k17 : Nat), k17 < k6 ∧ h1 k17 [Value.int IntKind.i64 (IntKind.wrap IntKind.i64 (n11 + (1 : Int)))] w5)) ∧
  (decide (n11 < (↑k7 : Int)) = false →
  ∃ (q8 : Option Addr),
  ∃ (k18 : Nat),
  ∃ (k19 : Nat),
  cellAt w3 (Addr.add a1 (6 : Nat)) (Value.slice q8 k18 k19) ∧
  ∃ (q9 : Option Addr),
  ∃ (k20 : Nat),
  ∃ (k21 : Nat),
  cellAt w3 (Addr.add a2 (6 : Nat)) (Value.slice q9 k20 k21) ∧
  Rets Try.prog (31 : Nat) { toList := [Value.slice q8 k18 k19, Value.slice q9 k20 k21] } w3
  fun (v22 : Value) (w6 : World) =>
  ∃ (b2 : Bool),
  v22 = Value.bool b2 ∧
  (b2 = true →
  ∃ (q10 : Option Addr),
  ∃ (k22 : Nat),
  ∃ (k23 : Nat),
  cellAt w6 (Addr.add a1 (7 : Nat)) (Value.slice q10 k22 k23) ∧
  ∃ (q11 : Option Addr),
  ∃ (k24 : Nat),
  ∃ (k25 : Nat),
  cellAt w6 (Addr.add a2 (7 : Nat)) (Value.slice q11 k24 k25) ∧
  Rets Try.prog (31 : Nat) { toList := [Value.slice q10 k22 k23, Value.slice q11 k24 k25] } w6
  fun (v23 : Value) (w7 : World) => ∃ (b3 : Bool), v23 = Value.bool b3 ∧ K (Value.bool b3) w7) ∧
  (b2 = false → K (Value.bool false) w6)))) ∧
  ((!(n1 == n6 && (n2 == n7 && (n3 == n8 && (n4 == n9 && n5 == n10))))) = true → K (Value.bool false) w2)
theorem cortadoref18_Same_eq (c0 c1 c2 c3 c4 : Int) (q : Option Addr) (l c : Nat) (q2 : Option Addr) (l2 d2 : Nat) (q3 : Option Addr) (l3 d3 : Nat) (e0 e1 e2 e3 e4 : Int) (r : Option Addr) (m n : Nat) (r2 : Option Addr) (m2 n2 : Nat) (r3 : Option Addr) (m3 n3 : Nat) (w : World) (K : Value → World → Prop) : fw Try.prog Try.f13 (annL [(2, [(4, none), (5, some 3), (20, none), (21, none), (22, none), (23, none), (24, none), (25, none), (26, none), (27, none), (28, none), (29, none), (30, none), (31, none), (32, none), (33, none), (34, none), (35, none), (36, none), (37, none), (38, none)])]) (ordL [(6, [(0, 0), (2, 0), (5, 0), (7, 0), (1, 1), (3, 0), (4, 1), (6, 1), (8, 0), (9, 1), (10, 3), (11, 0)])]) [.agg #[.int .i64 c0, .int .i64 c1, .int .i64 c2, .int .i64 c3, .int .i64 c4, .slice q l c, .slice q2 l2 d2, .slice q3 l3 d3], .agg #[.int .i64 e0, .int .i64 e1, .int .i64 e2, .int .i64 e3, .int .i64 e4, .slice r m n, .slice r2 m2 n2, .slice r3 m3 n3]] w K = cortadoref18_Same_m c0 c1 c2 c3 c4 q l c q2 l2 d2 q3 l3 d3 e0 e1 e2 e3 e4 r m n r2 m2 n2 r3 m3 n3 w K := by kernel_rfl
theorem cortadoref18_Same_go (c0 c1 c2 c3 c4 : Int) (q : Option Addr) (l c : Nat) (q2 : Option Addr) (l2 d2 : Nat) (q3 : Option Addr) (l3 d3 : Nat) (e0 e1 e2 e3 e4 : Int) (r : Option Addr) (m n : Nat) (r2 : Option Addr) (m2 n2 : Nat) (r3 : Option Addr) (m3 n3 : Nat) {w : World} {K : Value → World → Prop} (h : cortadoref18_Same_m c0 c1 c2 c3 c4 q l c q2 l2 d2 q3 l3 d3 e0 e1 e2 e3 e4 r m n r2 m2 n2 r3 m3 n3 w K) : Rets Try.prog 13 #[.agg #[.int .i64 c0, .int .i64 c1, .int .i64 c2, .int .i64 c3, .int .i64 c4, .slice q l c, .slice q2 l2 d2, .slice q3 l3 d3], .agg #[.int .i64 e0, .int .i64 e1, .int .i64 e2, .int .i64 e3, .int .i64 e4, .slice r m n, .slice r2 m2 n2, .slice r3 m3 n3]] w K :=
  calls_of_fw plain mixed Try.func13 (by kernel_rfl) (by rw [cortadoref18_Same_eq]; exact h)
def cortadolaw18_awake_m  (w : World) (K : Value → World → Prop) : Prop :=
  Rets Try.prog (17 : Nat) { toList := [Value.slice none (0 : Nat) (0 : Nat)] } w fun (v1 : Value) (w1 : World) =>
  ∃ (n1 : Int),
  ∃ (n2 : Int),
  ∃ (n3 : Int),
  ∃ (n4 : Int),
  ∃ (n5 : Int),
  ∃ (q1 : Option Addr),
  ∃ (k1 : Nat),
  ∃ (k2 : Nat),
  ∃ (q2 : Option Addr),
  ∃ (k3 : Nat),
  ∃ (k4 : Nat),
  ∃ (q3 : Option Addr),
  ∃ (k5 : Nat),
  ∃ (k6 : Nat),
  v1 =
  Value.agg
  {
  toList :=
  [Value.int IntKind.i64 n1, Value.int IntKind.i64 n2, Value.int IntKind.i64 n3, Value.int IntKind.i64 n4,
  Value.int IntKind.i64 n5, Value.slice q1 k1 k2, Value.slice q2 k3 k4, Value.slice q3 k5 k6] } ∧
  K (Value.bool (n1 == (0 : Int) && (n2 == (1 : Int) && (n3 == (1 : Int) && (n4 == (1 : Int) && n5 == (0 : Int)))))) w1
theorem cortadolaw18_awake_eq  (w : World) (K : Value → World → Prop) : fw Try.prog Try.f6 (annL []) (ordL []) [] w K = cortadolaw18_awake_m  w K := by kernel_rfl
theorem cortadolaw18_awake_go  {w : World} {K : Value → World → Prop} (h : cortadolaw18_awake_m  w K) : Rets Try.prog 6 #[] w K :=
  calls_of_fw plain mixed Try.func6 (by kernel_rfl) (by rw [cortadolaw18_awake_eq]; exact h)
end Go.Proofs.Ytppmdifhoejhjaa.Eng
