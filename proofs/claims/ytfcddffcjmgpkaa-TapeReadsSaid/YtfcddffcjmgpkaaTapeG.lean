/- What the code of these functions asks for: printed by a program of this session's (gens.py) out of the seat's own functions; the kernel checks each row. -/
import Derived.Test.YtfcddffcjmgpkaaEngH
import Derived.Test.YtfcddffcjmgpkaaProg
import Derived.Test.YtfcddffcjmgpkaaBase
namespace Go.Proofs.Ytfcddffcjmgpkaa.Eng
open Go Go.Proofs
set_option linter.unusedVariables false
set_option maxRecDepth 1000000
def slices_Clone_byte_byte_m (q : Option Addr) (l c : Nat) (w : World) (K : Value → World → Prop) : Prop :=
  (Option.isNone q = true → K (Value.slice none (0 : Nat) (0 : Nat)) w) ∧
  (Option.isNone q = false →
  NewR (5 : Nat) [] w fun (a1 : Addr) (w1 : World) =>
  RunR Try.prog
  (builtinV Builtin.append { toList := [(45 : Nat), (45 : Nat)] } (nat_lit 45)
  { toList := [Value.slice (some a1) (0 : Nat) (0 : Nat), Value.slice q l c] })
  w1 fun (v1 : Value) (w2 : World) =>
  ∃ (q1 : Option Addr), ∃ (k1 : Nat), ∃ (k2 : Nat), v1 = Value.slice q1 k1 k2 ∧ K (Value.slice q1 k1 k2) w2)
theorem slices_Clone_byte_byte_eq (q : Option Addr) (l c : Nat) (w : World) (K : Value → World → Prop) : fw Try.prog Try.f100 (annL []) (ordL []) [.slice q l c] w K = slices_Clone_byte_byte_m q l c w K := by kernel_rfl
theorem slices_Clone_byte_byte_go (q : Option Addr) (l c : Nat) {w : World} {K : Value → World → Prop} (h : slices_Clone_byte_byte_m q l c w K) : Rets Try.prog 100 #[.slice q l c] w K :=
  calls_of_fw plain mixed Try.func100 (by kernel_rfl) (by rw [slices_Clone_byte_byte_eq]; exact h)
def tape_New_m (q : Option Addr) (l c : Nat) (w : World) (K : Value → World → Prop) : Prop :=
  Rets Try.prog (100 : Nat) { toList := [Value.slice q l c] } w fun (v1 : Value) (w1 : World) =>
  ∃ (q1 : Option Addr),
  ∃ (k1 : Nat),
  ∃ (k2 : Nat),
  v1 = Value.slice q1 k1 k2 ∧
  NewR (134 : Nat) [Value.slice q1 k1 k2, Value.int IntKind.i64 (0 : Int)] w1 fun (a1 : Addr) (w2 : World) =>
  K (Value.pointer (some a1)) w2
theorem tape_New_eq (q : Option Addr) (l c : Nat) (w : World) (K : Value → World → Prop) : fw Try.prog Try.f44 (annL []) (ordL []) [.slice q l c] w K = tape_New_m q l c w K := by kernel_rfl
theorem tape_New_go (q : Option Addr) (l c : Nat) {w : World} {K : Value → World → Prop} (h : tape_New_m q l c w K) : Rets Try.prog 44 #[.slice q l c] w K :=
  calls_of_fw plain mixed Try.func44 (by kernel_rfl) (by rw [tape_New_eq]; exact h)
def tape_Tape_Left_m (g : Nat) (w : World) (K : Value → World → Prop) : Prop :=
  (false = true → K (Value.int IntKind.i64 (0 : Int)) w) ∧
  (false = false →
  Drw w fun (w1 : World) =>
  ∃ (q1 : Option Addr),
  ∃ (k1 : Nat),
  ∃ (k2 : Nat),
  cellAt w1 (Addr.add { block := g, off := (0 : Nat) } (0 : Nat)) (Value.slice q1 k1 k2) ∧
  ∃ (n1 : Int),
  cellAt w1 (Addr.add { block := g, off := (0 : Nat) } (1 : Nat)) (Value.int IntKind.i64 n1) ∧
  K (Value.int IntKind.i64 (IntKind.wrap IntKind.i64 ((↑k1 : Int) - n1))) w1)
theorem tape_Tape_Left_eq (g : Nat) (w : World) (K : Value → World → Prop) : fw Try.prog Try.f52 (annL []) (ordL [(3, [(0, 0), (1, 0), (2, 0), (5, 0), (6, 0), (7, 0), (3, 1), (4, 0), (8, 1), (9, 0), (10, 0)])]) [.pointer (some ⟨g, 0, none⟩)] w K = tape_Tape_Left_m g w K := by kernel_rfl
theorem tape_Tape_Left_go (g : Nat) {w : World} {K : Value → World → Prop} (h : tape_Tape_Left_m g w K) : Rets Try.prog 52 #[.pointer (some ⟨g, 0, none⟩)] w K :=
  calls_of_fw plain mixed Try.func52 (by kernel_rfl) (by rw [tape_Tape_Left_eq]; exact h)
def tape_nil_Left_m  (w : World) (K : Value → World → Prop) : Prop :=
  (true = true → K (Value.int IntKind.i64 (0 : Int)) w) ∧ (true = false → Drw w fun (w1 : World) => False)
theorem tape_nil_Left_eq  (w : World) (K : Value → World → Prop) : fw Try.prog Try.f52 (annL []) (ordL [(3, [(0, 0), (1, 0), (2, 0), (5, 0), (6, 0), (7, 0), (3, 1), (4, 0), (8, 1), (9, 0), (10, 0)])]) [.pointer none] w K = tape_nil_Left_m  w K := by kernel_rfl
theorem tape_nil_Left_go  {w : World} {K : Value → World → Prop} (h : tape_nil_Left_m  w K) : Rets Try.prog 52 #[.pointer none] w K :=
  calls_of_fw plain mixed Try.func52 (by kernel_rfl) (by rw [tape_nil_Left_eq]; exact h)
def tape_Tape_At_m (g : Nat) (w : World) (K : Value → World → Prop) : Prop :=
  (false = true → K (Value.int IntKind.i64 (0 : Int)) w) ∧
  (false = false →
  ∃ (n1 : Int),
  cellAt w (Addr.add { block := g, off := (0 : Nat) } (1 : Nat)) (Value.int IntKind.i64 n1) ∧
  K (Value.int IntKind.i64 n1) w)
theorem tape_Tape_At_eq (g : Nat) (w : World) (K : Value → World → Prop) : fw Try.prog Try.f51 (annL []) (ordL []) [.pointer (some ⟨g, 0, none⟩)] w K = tape_Tape_At_m g w K := by kernel_rfl
theorem tape_Tape_At_go (g : Nat) {w : World} {K : Value → World → Prop} (h : tape_Tape_At_m g w K) : Rets Try.prog 51 #[.pointer (some ⟨g, 0, none⟩)] w K :=
  calls_of_fw plain mixed Try.func51 (by kernel_rfl) (by rw [tape_Tape_At_eq]; exact h)
def tape_nil_At_m  (w : World) (K : Value → World → Prop) : Prop :=
  (true = true → K (Value.int IntKind.i64 (0 : Int)) w) ∧ (true = false → False)
theorem tape_nil_At_eq  (w : World) (K : Value → World → Prop) : fw Try.prog Try.f51 (annL []) (ordL []) [.pointer none] w K = tape_nil_At_m  w K := by kernel_rfl
theorem tape_nil_At_go  {w : World} {K : Value → World → Prop} (h : tape_nil_At_m  w K) : Rets Try.prog 51 #[.pointer none] w K :=
  calls_of_fw plain mixed Try.func51 (by kernel_rfl) (by rw [tape_nil_At_eq]; exact h)
def tape_Tape_Byte_m (g : Nat) (w : World) (K : Value → World → Prop) : Prop :=
  Rets Try.prog (52 : Nat) { toList := [Value.pointer (some { block := g, off := (0 : Nat) })] } w
  fun (v1 : Value) (w1 : World) =>
  ∃ (n1 : Int),
  v1 = Value.int IntKind.i64 n1 ∧
  ((n1 == (0 : Int)) = true → K (Value.int IntKind.i64 (0 : Int)) w1) ∧
  ((n1 == (0 : Int)) = false →
  ∃ (n2 : Int),
  cellAt w1 (Addr.add { block := g, off := (0 : Nat) } (1 : Nat)) (Value.int IntKind.i64 n2) ∧
  StoreR (Addr.add { block := g, off := (0 : Nat) } (1 : Nat))
  [Value.int IntKind.i64 (IntKind.wrap IntKind.i64 (n2 + (1 : Int)))] w1 fun (w2 : World) =>
  Drw w2 fun (w3 : World) =>
  ∃ (q1 : Option Addr),
  ∃ (k1 : Nat),
  ∃ (k2 : Nat),
  cellAt w3 (Addr.add { block := g, off := (0 : Nat) } (0 : Nat)) (Value.slice q1 k1 k2) ∧
  ∃ (n3 : Int),
  cellAt w3 (Addr.add { block := g, off := (0 : Nat) } (1 : Nat)) (Value.int IntKind.i64 n3) ∧
  (0 : Int) ≤ IntKind.wrap IntKind.i64 (n3 - (1 : Int)) ∧
  IntKind.wrap IntKind.i64 (n3 - (1 : Int)) < (↑k1 : Int) ∧
  someR q1 fun (a1 : Addr) =>
  ∃ (n4 : Int),
  cellAt w3 (Addr.add a1 (Int.toNat (IntKind.wrap IntKind.i64 (n3 - (1 : Int))) * (1 : Nat))) (Value.int IntKind.u8 n4) ∧
  K (Value.int IntKind.i64 (IntKind.wrap IntKind.i64 n4)) w3)
theorem tape_Tape_Byte_eq (g : Nat) (w : World) (K : Value → World → Prop) : fw Try.prog Try.f47 (annL []) (ordL [(4, [(0, 0), (1, 0), (2, 0), (4, 0), (5, 0), (6, 0), (3, 1), (7, 1), (8, 0), (9, 0), (10, 1), (11, 0), (12, 0)])]) [.pointer (some ⟨g, 0, none⟩)] w K = tape_Tape_Byte_m g w K := by kernel_rfl
theorem tape_Tape_Byte_go (g : Nat) {w : World} {K : Value → World → Prop} (h : tape_Tape_Byte_m g w K) : Rets Try.prog 47 #[.pointer (some ⟨g, 0, none⟩)] w K :=
  calls_of_fw plain mixed Try.func47 (by kernel_rfl) (by rw [tape_Tape_Byte_eq]; exact h)
def tape_nil_Byte_m  (w : World) (K : Value → World → Prop) : Prop :=
  Rets Try.prog (52 : Nat) { toList := [Value.pointer none] } w fun (v1 : Value) (w1 : World) =>
  ∃ (n1 : Int),
  v1 = Value.int IntKind.i64 n1 ∧
  ((n1 == (0 : Int)) = true → K (Value.int IntKind.i64 (0 : Int)) w1) ∧ ((n1 == (0 : Int)) = false → False)
theorem tape_nil_Byte_eq  (w : World) (K : Value → World → Prop) : fw Try.prog Try.f47 (annL []) (ordL [(4, [(0, 0), (1, 0), (2, 0), (4, 0), (5, 0), (6, 0), (3, 1), (7, 1), (8, 0), (9, 0), (10, 1), (11, 0), (12, 0)])]) [.pointer none] w K = tape_nil_Byte_m  w K := by kernel_rfl
theorem tape_nil_Byte_go  {w : World} {K : Value → World → Prop} (h : tape_nil_Byte_m  w K) : Rets Try.prog 47 #[.pointer none] w K :=
  calls_of_fw plain mixed Try.func47 (by kernel_rfl) (by rw [tape_nil_Byte_eq]; exact h)
def tape_Tape_Int_m (q : Option Addr) (w : World) (K : Value → World → Prop) : Prop :=
  Rets Try.prog (47 : Nat) { toList := [Value.pointer q] } w fun (v1 : Value) (w1 : World) =>
  ∃ (n1 : Int),
  v1 = Value.int IntKind.i64 n1 ∧
  (decide (n1 < (200 : Int)) = true → K (Value.int IntKind.i64 n1) w1) ∧
  (decide (n1 < (200 : Int)) = false →
  (decide (n1 < (255 : Int)) = true →
  Rets Try.prog (47 : Nat) { toList := [Value.pointer q] } w1 fun (v2 : Value) (w2 : World) =>
  ∃ (n2 : Int),
  v2 = Value.int IntKind.i64 n2 ∧
  K
  (Value.int IntKind.i64
  (IntKind.wrap IntKind.i64
  (IntKind.wrap IntKind.i64
  (IntKind.wrap IntKind.i64 (IntKind.wrap IntKind.i64 (n1 - (200 : Int)) * (256 : Int)) + (200 : Int)) +
  n2)))
  w2) ∧
  (decide (n1 < (255 : Int)) = false →
  ∃ (h1 : Nat → List Value → World → Prop),
  (∃ (k1 : Nat), h1 k1 [Value.int IntKind.u64 (0 : Int), Value.int IntKind.i64 (0 : Int)] w1) ∧
  ∀ (k2 : Nat) (w3 : World) (n3 n4 : Int) (v3 v4 v5 v6 v7 v8 v9 v10 : Value),
  h1 k2 [Value.int IntKind.u64 n3, Value.int IntKind.i64 n4] w3 →
  (decide (n4 < (8 : Int)) = true →
  (0 : Int) ≤ (8 : Int) ∧
  Rets Try.prog (47 : Nat) { toList := [Value.pointer q] } w3 fun (v11 : Value) (w4 : World) =>
  ∃ (n5 : Int),
  v11 = Value.int IntKind.i64 n5 ∧
  ∃ (k3 : Nat),
  k3 < k2 ∧
  h1 k3
  [Value.int IntKind.u64 (bits BinOp.or IntKind.u64 (shlI IntKind.u64 n3 (8 : Int)) (IntKind.wrap IntKind.u64 n5)),
  Value.int IntKind.i64 (IntKind.wrap IntKind.i64 (n4 + (1 : Int)))]
  w4) ∧
  (decide (n4 < (8 : Int)) = false → K (Value.int IntKind.i64 (IntKind.wrap IntKind.i64 n3)) w3)))
theorem tape_Tape_Int_eq (q : Option Addr) (w : World) (K : Value → World → Prop) : fw Try.prog Try.f45 (annL [(3, [(4, some 46), (19, some 3), (20, none), (21, none), (22, none), (23, none), (24, none), (25, none), (26, none), (27, none)])]) (ordL []) [.pointer q] w K = tape_Tape_Int_m q w K := by kernel_rfl
theorem tape_Tape_Int_go (q : Option Addr) {w : World} {K : Value → World → Prop} (h : tape_Tape_Int_m q w K) : Rets Try.prog 45 #[.pointer q] w K :=
  calls_of_fw plain mixed Try.func45 (by kernel_rfl) (by rw [tape_Tape_Int_eq]; exact h)
def tape_Tape_Below_m (q : Option Addr) (n : Int) (w : World) (K : Value → World → Prop) : Prop :=
  (decide (n < (1 : Int)) = true → K (Value.int IntKind.i64 (0 : Int)) w) ∧
  (decide (n < (1 : Int)) = false →
  Rets Try.prog (47 : Nat) { toList := [Value.pointer q] } w fun (v1 : Value) (w1 : World) =>
  ∃ (n1 : Int), v1 = Value.int IntKind.i64 n1 ∧ n ≠ (0 : Int) ∧ K (Value.int IntKind.i64 (Int.tmod n1 n)) w1)
theorem tape_Tape_Below_eq (q : Option Addr) (n : Int) (w : World) (K : Value → World → Prop) : fw Try.prog Try.f49 (annL []) (ordL []) [.pointer q, .int .i64 n] w K = tape_Tape_Below_m q n w K := by kernel_rfl
theorem tape_Tape_Below_go (q : Option Addr) (n : Int) {w : World} {K : Value → World → Prop} (h : tape_Tape_Below_m q n w K) : Rets Try.prog 49 #[.pointer q, .int .i64 n] w K :=
  calls_of_fw plain mixed Try.func49 (by kernel_rfl) (by rw [tape_Tape_Below_eq]; exact h)
def tape_Tape_Rest_m (g : Nat) (w : World) (K : Value → World → Prop) : Prop :=
  (false = true → K (Value.slice none (0 : Nat) (0 : Nat)) w) ∧
  (false = false →
  Drw w fun (w1 : World) =>
  ∃ (q1 : Option Addr),
  ∃ (k1 : Nat),
  ∃ (k2 : Nat),
  cellAt w1 (Addr.add { block := g, off := (0 : Nat) } (0 : Nat)) (Value.slice q1 k1 k2) ∧
  ∃ (n1 : Int),
  cellAt w1 (Addr.add { block := g, off := (0 : Nat) } (1 : Nat)) (Value.int IntKind.i64 n1) ∧
  (0 : Int) ≤ n1 ∧
  n1 ≤ (↑k1 : Int) ∧
  Rets Try.prog (100 : Nat)
  { toList := [Value.slice (slcA q1 (Int.toNat n1) k2 (1 : Nat)) (k1 - Int.toNat n1) (k2 - Int.toNat n1)] } w1
  fun (v1 : Value) (w2 : World) =>
  ∃ (q2 : Option Addr),
  ∃ (k3 : Nat),
  ∃ (k4 : Nat),
  v1 = Value.slice q2 k3 k4 ∧
  ∃ (q3 : Option Addr),
  ∃ (k5 : Nat),
  ∃ (k6 : Nat),
  cellAt w2 (Addr.add { block := g, off := (0 : Nat) } (0 : Nat)) (Value.slice q3 k5 k6) ∧
  StoreR (Addr.add { block := g, off := (0 : Nat) } (1 : Nat)) [Value.int IntKind.i64 (↑k5 : Int)] w2 fun (w3 : World) =>
  K (Value.slice q2 k3 k4) w3)
theorem tape_Tape_Rest_eq (g : Nat) (w : World) (K : Value → World → Prop) : fw Try.prog Try.f53 (annL []) (ordL [(3, [(0, 0), (1, 0), (2, 0), (4, 0), (5, 0), (6, 0), (3, 1), (7, 1), (8, 0), (9, 3), (10, 0)])]) [.pointer (some ⟨g, 0, none⟩)] w K = tape_Tape_Rest_m g w K := by kernel_rfl
theorem tape_Tape_Rest_go (g : Nat) {w : World} {K : Value → World → Prop} (h : tape_Tape_Rest_m g w K) : Rets Try.prog 53 #[.pointer (some ⟨g, 0, none⟩)] w K :=
  calls_of_fw plain mixed Try.func53 (by kernel_rfl) (by rw [tape_Tape_Rest_eq]; exact h)
def tape_nil_Rest_m  (w : World) (K : Value → World → Prop) : Prop :=
  (true = true → K (Value.slice none (0 : Nat) (0 : Nat)) w) ∧ (true = false → Drw w fun (w1 : World) => False)
theorem tape_nil_Rest_eq  (w : World) (K : Value → World → Prop) : fw Try.prog Try.f53 (annL []) (ordL [(3, [(0, 0), (1, 0), (2, 0), (4, 0), (5, 0), (6, 0), (3, 1), (7, 1), (8, 0), (9, 3), (10, 0)])]) [.pointer none] w K = tape_nil_Rest_m  w K := by kernel_rfl
theorem tape_nil_Rest_go  {w : World} {K : Value → World → Prop} (h : tape_nil_Rest_m  w K) : Rets Try.prog 53 #[.pointer none] w K :=
  calls_of_fw plain mixed Try.func53 (by kernel_rfl) (by rw [tape_nil_Rest_eq]; exact h)
def tape_Put_m (q : Option Addr) (l c : Nat) (q2 : Option Addr) (l2 c2 : Nat) (w : World) (K : Value → World → Prop) : Prop :=
  Rets Try.prog (100 : Nat) { toList := [Value.slice q l c] } w fun (v1 : Value) (w1 : World) =>
  ∃ (q1 : Option Addr),
  ∃ (k1 : Nat),
  ∃ (k2 : Nat),
  v1 = Value.slice q1 k1 k2 ∧
  ∃ (h1 : Nat → List Value → World → Prop),
  (∃ (k3 : Nat), h1 k3 [Value.slice q1 k1 k2, Value.int IntKind.i64 (0 : Int)] w1) ∧
  ∀ (k4 : Nat) (w2 : World) (q2_1 : Option Addr) (k5 k6 : Nat) (v2 v3 : Value) (n1 : Int)
  (v4 v5 v6 v7 v8 v9 v10 v11 v12 v13 v14 v15 v16 v17 v18 v19 v20 v21 v22 v23 v24 v25 v26 v27 v28 v29 v30 v31 v32 v33 v34
  v35 v36 v37 v38 v39 v40 v41 v42 v43 v44 v45 v46 v47 v48 v49 v50 v51 v52 v53 v54 v55 v56 : Value),
  h1 k4 [Value.slice q2_1 k5 k6, Value.int IntKind.i64 n1] w2 →
  (decide (n1 < (↑l2 : Int)) = true →
  ∃ (h2 : List Value → World → Prop),
  ((0 : Int) ≤ n1 ∧
  n1 < (↑l2 : Int) ∧
  someR q2 fun (a1 : Addr) =>
  ∃ (n2 : Int),
  cellAt w2 (Addr.add a1 (Int.toNat n1 * (1 : Nat))) (Value.int IntKind.i64 n2) ∧
  ∃ (h3 : List Value → World → Prop),
  ((decide (n2 ≥ (0 : Int)) = true →
  (decide (n2 < (200 : Int)) = true →
  NewR (5 : Nat) [Value.int IntKind.u8 (IntKind.wrap IntKind.u8 n2)] w2 fun (a2 : Addr) (w3 : World) =>
  RunR Try.prog
  (builtinV Builtin.append { toList := [(45 : Nat), (45 : Nat)] } (nat_lit 45)
  { toList := [Value.slice q2_1 k5 k6, Value.slice (some a2) (1 : Nat) (1 : Nat)] })
  w3 fun (v57 : Value) (w4 : World) =>
  ∃ (q3 : Option Addr), ∃ (k7 : Nat), ∃ (k8 : Nat), v57 = Value.slice q3 k7 k8 ∧ h2 [Value.slice q3 k7 k8] w4) ∧
  (decide (n2 < (200 : Int)) = false →
  (decide (n2 ≥ (200 : Int)) = true →
  (decide (n2 < (14280 : Int)) = true →
  (256 : Int) ≠ (0 : Int) ∧
  (256 : Int) ≠ (0 : Int) ∧
  NewR (5 : Nat)
  [Value.int IntKind.u8
  (IntKind.wrap IntKind.u8
  (IntKind.wrap IntKind.i64
  ((200 : Int) + IntKind.wrap IntKind.i64 (Int.tdiv (IntKind.wrap IntKind.i64 (n2 - (200 : Int))) (256 : Int))))),
  Value.int IntKind.u8 (IntKind.wrap IntKind.u8 (Int.tmod (IntKind.wrap IntKind.i64 (n2 - (200 : Int))) (256 : Int)))]
  w2 fun (a3 : Addr) (w5 : World) =>
  RunR Try.prog
  (builtinV Builtin.append { toList := [(45 : Nat), (45 : Nat)] } (nat_lit 45)
  { toList := [Value.slice q2_1 k5 k6, Value.slice (some a3) (2 : Nat) (2 : Nat)] })
  w5 fun (v58 : Value) (w6 : World) =>
  ∃ (q4 : Option Addr), ∃ (k9 : Nat), ∃ (k10 : Nat), v58 = Value.slice q4 k9 k10 ∧ h2 [Value.slice q4 k9 k10] w6) ∧
  (decide (n2 < (14280 : Int)) = false → h3 [Value.slice q2_1 k5 k6] w2)) ∧
  (decide (n2 ≥ (200 : Int)) = false → h3 [Value.slice q2_1 k5 k6] w2))) ∧
  (decide (n2 ≥ (0 : Int)) = false →
  (decide (n2 ≥ (200 : Int)) = true →
  (decide (n2 < (14280 : Int)) = true →
  (256 : Int) ≠ (0 : Int) ∧
  (256 : Int) ≠ (0 : Int) ∧
  NewR (5 : Nat)
  [Value.int IntKind.u8
  (IntKind.wrap IntKind.u8
  (IntKind.wrap IntKind.i64
  ((200 : Int) + IntKind.wrap IntKind.i64 (Int.tdiv (IntKind.wrap IntKind.i64 (n2 - (200 : Int))) (256 : Int))))),
  Value.int IntKind.u8 (IntKind.wrap IntKind.u8 (Int.tmod (IntKind.wrap IntKind.i64 (n2 - (200 : Int))) (256 : Int)))]
  w2 fun (a4 : Addr) (w7 : World) =>
  RunR Try.prog
  (builtinV Builtin.append { toList := [(45 : Nat), (45 : Nat)] } (nat_lit 45)
  { toList := [Value.slice q2_1 k5 k6, Value.slice (some a4) (2 : Nat) (2 : Nat)] })
  w7 fun (v59 : Value) (w8 : World) =>
  ∃ (q5 : Option Addr), ∃ (k11 : Nat), ∃ (k12 : Nat), v59 = Value.slice q5 k11 k12 ∧ h2 [Value.slice q5 k11 k12] w8) ∧
  (decide (n2 < (14280 : Int)) = false → h3 [Value.slice q2_1 k5 k6] w2)) ∧
  (decide (n2 ≥ (200 : Int)) = false → h3 [Value.slice q2_1 k5 k6] w2))) ∧
  ∀ (w9 : World) (q6 : Option Addr) (k13 k14 : Nat)
  (v60 v61 v62 v63 v64 v65 v66 v67 v68 v69 v70 v71 v72 v73 v74 v75 v76 v77 v78 v79 v80 v81 v82 v83 v84 v85 v86 v87 v88 v89
  v90 : Value),
  h3 [Value.slice q6 k13 k14] w9 →
  NewR (5 : Nat) [Value.int IntKind.u8 (255 : Int)] w9 fun (a5 : Addr) (w10 : World) =>
  RunR Try.prog
  (builtinV Builtin.append { toList := [(45 : Nat), (45 : Nat)] } (nat_lit 45)
  { toList := [Value.slice q6 k13 k14, Value.slice (some a5) (1 : Nat) (1 : Nat)] })
  w10 fun (v91 : Value) (w11 : World) =>
  ∃ (q7 : Option Addr),
  ∃ (k15 : Nat),
  ∃ (k16 : Nat),
  v91 = Value.slice q7 k15 k16 ∧
  ∃ (h4 : Nat → List Value → World → Prop),
  (∃ (k17 : Nat), h4 k17 [Value.slice q7 k15 k16, Value.int IntKind.i64 (0 : Int)] w11) ∧
  ∀ (k18 : Nat) (w12 : World) (q8 : Option Addr) (k19 k20 : Nat) (v92 : Value) (n3 : Int)
  (v93 v94 v95 v96 v97 v98 v99 v100 v101 v102 v103 v104 v105 v106 : Value),
  h4 k18 [Value.slice q8 k19 k20, Value.int IntKind.i64 n3] w12 →
  (decide (n3 < (8 : Int)) = true →
  (0 : Int) ≤
  IntKind.wrap IntKind.u64 (IntKind.wrap IntKind.i64 ((56 : Int) - IntKind.wrap IntKind.i64 ((8 : Int) * n3))) ∧
  NewR (5 : Nat)
  [Value.int IntKind.u8
  (IntKind.wrap IntKind.u8
  (shrI IntKind.u64 (IntKind.wrap IntKind.u64 n2)
  (IntKind.wrap IntKind.u64 (IntKind.wrap IntKind.i64 ((56 : Int) - IntKind.wrap IntKind.i64 ((8 : Int) * n3))))))]
  w12 fun (a6 : Addr) (w13 : World) =>
  RunR Try.prog
  (builtinV Builtin.append { toList := [(45 : Nat), (45 : Nat)] } (nat_lit 45)
  { toList := [Value.slice q8 k19 k20, Value.slice (some a6) (1 : Nat) (1 : Nat)] })
  w13 fun (v107 : Value) (w14 : World) =>
  ∃ (q9 : Option Addr),
  ∃ (k21 : Nat),
  ∃ (k22 : Nat),
  v107 = Value.slice q9 k21 k22 ∧
  ∃ (k23 : Nat),
  k23 < k18 ∧ h4 k23 [Value.slice q9 k21 k22, Value.int IntKind.i64 (IntKind.wrap IntKind.i64 (n3 + (1 : Int)))] w14) ∧
  (decide (n3 < (8 : Int)) = false → h2 [Value.slice q8 k19 k20] w12)) ∧
  ∀ (w15 : World) (q10 : Option Addr) (k24 k25 : Nat)
  (v108 v109 v110 v111 v112 v113 v114 v115 v116 v117 v118 v119 v120 v121 v122 v123 v124 v125 v126 v127 v128 v129 v130 v131
  v132 v133 v134 v135 v136 v137 v138 v139 v140 v141 v142 v143 v144 v145 v146 v147 v148 v149 v150 v151 v152 v153 v154 v155
  v156 v157 v158 v159 v160 : Value),
  h2 [Value.slice q10 k24 k25] w15 →
  ∃ (k26 : Nat),
  k26 < k4 ∧ h1 k26 [Value.slice q10 k24 k25, Value.int IntKind.i64 (IntKind.wrap IntKind.i64 (n1 + (1 : Int)))] w15) ∧
  (decide (n1 < (↑l2 : Int)) = false → K (Value.slice q2_1 k5 k6) w2)
theorem tape_Put_eq (q : Option Addr) (l c : Nat) (q2 : Option Addr) (l2 c2 : Nat) (w : World) (K : Value → World → Prop) : fw Try.prog Try.f101 (annL [(1, [(5, some 45), (7, none), (8, none), (13, some 3), (14, none), (15, none), (16, none), (17, none), (18, none), (19, none), (20, none), (21, none), (22, none), (23, none), (24, none), (25, none), (26, none), (27, none), (28, none), (29, none), (30, none), (31, none), (32, none), (33, none), (34, none), (35, none), (36, none), (37, none), (38, none), (39, none), (40, none), (41, none), (42, none), (43, none), (44, none), (45, none), (46, none), (47, none), (48, none), (49, none), (50, none), (51, none), (52, none), (53, none), (54, none), (55, none), (56, none), (57, none), (58, none), (59, none), (60, none), (61, none), (62, none), (63, none), (64, none), (65, none), (66, none)]), (3, [(5, some 45), (7, none), (8, none), (15, none), (16, none), (17, none), (18, none), (19, none), (20, none), (21, none), (22, none), (23, none), (24, none), (25, none), (26, none), (27, none), (28, none), (29, none), (30, none), (31, none), (32, none), (33, none), (34, none), (35, none), (36, none), (37, none), (38, none), (39, none), (40, none), (41, none), (42, none), (43, none), (44, none), (45, none), (46, none), (47, none), (48, none), (49, none), (50, none), (51, none), (52, none), (53, none), (54, none), (55, none), (56, none), (57, none), (58, none), (59, none), (60, none), (61, none), (62, none), (63, none), (64, none), (65, none)]), (4, [(5, some 45), (17, none), (18, none), (19, none), (20, none), (21, none), (22, none), (23, none), (24, none), (25, none), (26, none), (27, none), (28, none), (29, none), (30, none), (31, none), (32, none), (33, none), (34, none), (35, none), (36, none), (37, none), (38, none), (39, none), (40, none), (41, none), (42, none), (43, none), (44, none), (45, none), (46, none), (47, none)]), (8, [(5, some 45), (8, none), (51, some 3), (52, none), (53, none), (54, none), (55, none), (56, none), (57, none), (58, none), (59, none), (60, none), (61, none), (62, none), (63, none), (64, none), (65, none)])]) (ordL []) [.slice q l c, .slice q2 l2 c2] w K = tape_Put_m q l c q2 l2 c2 w K := by kernel_rfl
theorem tape_Put_go (q : Option Addr) (l c : Nat) (q2 : Option Addr) (l2 c2 : Nat) {w : World} {K : Value → World → Prop} (h : tape_Put_m q l c q2 l2 c2 w K) : Rets Try.prog 101 #[.slice q l c, .slice q2 l2 c2] w K :=
  calls_of_fw plain mixed Try.func101 (by kernel_rfl) (by rw [tape_Put_eq]; exact h)
def cortadoref16_T_Byte_m (g : Nat) (w : World) (K : Value → World → Prop) : Prop :=
  Drw w fun (w1 : World) =>
  ∃ (n1 : Int),
  cellAt w1 (Addr.add { block := g, off := (0 : Nat) } (1 : Nat)) (Value.int IntKind.i64 n1) ∧
  ∃ (q1 : Option Addr),
  ∃ (k1 : Nat),
  ∃ (k2 : Nat),
  cellAt w1 (Addr.add { block := g, off := (0 : Nat) } (0 : Nat)) (Value.slice q1 k1 k2) ∧
  (decide (n1 ≥ (↑k1 : Int)) = true → K (Value.int IntKind.i64 (0 : Int)) w1) ∧
  (decide (n1 ≥ (↑k1 : Int)) = false →
  ∃ (n2 : Int),
  cellAt w1 (Addr.add { block := g, off := (0 : Nat) } (1 : Nat)) (Value.int IntKind.i64 n2) ∧
  StoreR (Addr.add { block := g, off := (0 : Nat) } (1 : Nat))
  [Value.int IntKind.i64 (IntKind.wrap IntKind.i64 (n2 + (1 : Int)))] w1 fun (w2 : World) =>
  Drw w2 fun (w3 : World) =>
  ∃ (q2 : Option Addr),
  ∃ (k3 : Nat),
  ∃ (k4 : Nat),
  cellAt w3 (Addr.add { block := g, off := (0 : Nat) } (0 : Nat)) (Value.slice q2 k3 k4) ∧
  ∃ (n3 : Int),
  cellAt w3 (Addr.add { block := g, off := (0 : Nat) } (1 : Nat)) (Value.int IntKind.i64 n3) ∧
  (0 : Int) ≤ IntKind.wrap IntKind.i64 (n3 - (1 : Int)) ∧
  IntKind.wrap IntKind.i64 (n3 - (1 : Int)) < (↑k3 : Int) ∧
  someR q2 fun (a1 : Addr) =>
  ∃ (n4 : Int),
  cellAt w3 (Addr.add a1 (Int.toNat (IntKind.wrap IntKind.i64 (n3 - (1 : Int))) * (1 : Nat))) (Value.int IntKind.u8 n4) ∧
  K (Value.int IntKind.i64 (IntKind.wrap IntKind.i64 n4)) w3)
theorem cortadoref16_T_Byte_eq (g : Nat) (w : World) (K : Value → World → Prop) : fw Try.prog Try.f48 (annL []) (ordL [(1, [(0, 0), (1, 0), (2, 0), (4, 0), (5, 0), (6, 0), (3, 1), (7, 1), (8, 0), (9, 0)]), (4, [(0, 0), (1, 0), (2, 0), (4, 0), (5, 0), (6, 0), (3, 1), (7, 1), (8, 0), (9, 0), (10, 1), (11, 0), (12, 0)])]) [.pointer (some ⟨g, 0, none⟩)] w K = cortadoref16_T_Byte_m g w K := by kernel_rfl
theorem cortadoref16_T_Byte_go (g : Nat) {w : World} {K : Value → World → Prop} (h : cortadoref16_T_Byte_m g w K) : Rets Try.prog 48 #[.pointer (some ⟨g, 0, none⟩)] w K :=
  calls_of_fw plain mixed Try.func48 (by kernel_rfl) (by rw [cortadoref16_T_Byte_eq]; exact h)
def cortadoref16_T_Int_m (g : Nat) (w : World) (K : Value → World → Prop) : Prop :=
  Rets Try.prog (48 : Nat) { toList := [Value.pointer (some { block := g, off := (0 : Nat) })] } w
  fun (v1 : Value) (w1 : World) =>
  ∃ (n1 : Int),
  v1 = Value.int IntKind.i64 n1 ∧
  (decide (n1 < (200 : Int)) = true → K (Value.int IntKind.i64 n1) w1) ∧
  (decide (n1 < (200 : Int)) = false →
  (decide (n1 < (255 : Int)) = true →
  Rets Try.prog (48 : Nat) { toList := [Value.pointer (some { block := g, off := (0 : Nat) })] } w1
  fun (v2 : Value) (w2 : World) =>
  ∃ (n2 : Int),
  v2 = Value.int IntKind.i64 n2 ∧
  K
  (Value.int IntKind.i64
  (IntKind.wrap IntKind.i64
  (IntKind.wrap IntKind.i64
  (IntKind.wrap IntKind.i64 (IntKind.wrap IntKind.i64 (n1 - (200 : Int)) * (256 : Int)) + (200 : Int)) +
  n2)))
  w2) ∧
  (decide (n1 < (255 : Int)) = false →
  ∃ (h1 : Nat → List Value → World → Prop),
  (∃ (k1 : Nat), h1 k1 [Value.int IntKind.u64 (0 : Int), Value.int IntKind.i64 (0 : Int)] w1) ∧
  ∀ (k2 : Nat) (w3 : World) (n3 n4 : Int) (v3 v4 v5 v6 v7 v8 v9 v10 v11 v12 : Value),
  h1 k2 [Value.int IntKind.u64 n3, Value.int IntKind.i64 n4] w3 →
  (decide (n4 < (8 : Int)) = true →
  Rets Try.prog (48 : Nat) { toList := [Value.pointer (some { block := g, off := (0 : Nat) })] } w3
  fun (v13 : Value) (w4 : World) =>
  ∃ (n5 : Int),
  v13 = Value.int IntKind.i64 n5 ∧
  ∃ (k3 : Nat),
  k3 < k2 ∧
  h1 k3
  [Value.int IntKind.u64
  (IntKind.wrap IntKind.u64 (IntKind.wrap IntKind.u64 ((256 : Int) * n3) + IntKind.wrap IntKind.u64 n5)),
  Value.int IntKind.i64 (IntKind.wrap IntKind.i64 (n4 + (1 : Int)))]
  w4) ∧
  (decide (n4 < (8 : Int)) = false → K (Value.int IntKind.i64 (IntKind.wrap IntKind.i64 n3)) w3)))
theorem cortadoref16_T_Int_eq (g : Nat) (w : World) (K : Value → World → Prop) : fw Try.prog Try.f46 (annL [(3, [(4, some 46), (5, some 3), (20, none), (21, none), (22, none), (23, none), (24, none), (25, none), (26, none), (27, none), (28, none), (29, none)])]) (ordL []) [.pointer (some ⟨g, 0, none⟩)] w K = cortadoref16_T_Int_m g w K := by kernel_rfl
theorem cortadoref16_T_Int_go (g : Nat) {w : World} {K : Value → World → Prop} (h : cortadoref16_T_Int_m g w K) : Rets Try.prog 46 #[.pointer (some ⟨g, 0, none⟩)] w K :=
  calls_of_fw plain mixed Try.func46 (by kernel_rfl) (by rw [cortadoref16_T_Int_eq]; exact h)
def cortadoref16_T_Below_m (g : Nat) (n : Int) (w : World) (K : Value → World → Prop) : Prop :=
  (decide (n < (1 : Int)) = true → K (Value.int IntKind.i64 (0 : Int)) w) ∧
  (decide (n < (1 : Int)) = false →
  Rets Try.prog (48 : Nat) { toList := [Value.pointer (some { block := g, off := (0 : Nat) })] } w
  fun (v1 : Value) (w1 : World) =>
  ∃ (n1 : Int), v1 = Value.int IntKind.i64 n1 ∧ n ≠ (0 : Int) ∧ K (Value.int IntKind.i64 (Int.tmod n1 n)) w1)
theorem cortadoref16_T_Below_eq (g : Nat) (n : Int) (w : World) (K : Value → World → Prop) : fw Try.prog Try.f50 (annL []) (ordL []) [.pointer (some ⟨g, 0, none⟩), .int .i64 n] w K = cortadoref16_T_Below_m g n w K := by kernel_rfl
theorem cortadoref16_T_Below_go (g : Nat) (n : Int) {w : World} {K : Value → World → Prop} (h : cortadoref16_T_Below_m g n w K) : Rets Try.prog 50 #[.pointer (some ⟨g, 0, none⟩), .int .i64 n] w K :=
  calls_of_fw plain mixed Try.func50 (by kernel_rfl) (by rw [cortadoref16_T_Below_eq]; exact h)
def cortadolaw16_awake_m  (w : World) (K : Value → World → Prop) : Prop :=
  NewR (5 : Nat) [Value.int IntKind.u8 (7 : Int)] w fun (a1 : Addr) (w1 : World) =>
  Rets Try.prog (44 : Nat) { toList := [Value.slice (some a1) (1 : Nat) (1 : Nat)] } w1 fun (v1 : Value) (w2 : World) =>
  ∃ (q1 : Option Addr),
  v1 = Value.pointer q1 ∧
  Rets Try.prog (45 : Nat) { toList := [Value.pointer q1] } w2 fun (v2 : Value) (w3 : World) =>
  ∃ (n1 : Int),
  v2 = Value.int IntKind.i64 n1 ∧
  ((n1 == (7 : Int)) = true →
  NewR (3 : Nat) [Value.int IntKind.i64 (5 : Int), Value.int IntKind.i64 (300 : Int)] w3 fun (a2 : Addr) (w4 : World) =>
  Rets Try.prog (101 : Nat)
  { toList := [Value.slice none (0 : Nat) (0 : Nat), Value.slice (some a2) (2 : Nat) (2 : Nat)] } w4
  fun (v3 : Value) (w5 : World) =>
  ∃ (q2 : Option Addr),
  ∃ (k1 : Nat), ∃ (k2 : Nat), v3 = Value.slice q2 k1 k2 ∧ K (Value.bool ((↑k1 : Int) == (3 : Int))) w5) ∧
  ((n1 == (7 : Int)) = false → K (Value.bool false) w3)
theorem cortadolaw16_awake_eq  (w : World) (K : Value → World → Prop) : fw Try.prog Try.f43 (annL []) (ordL []) [] w K = cortadolaw16_awake_m  w K := by kernel_rfl
theorem cortadolaw16_awake_go  {w : World} {K : Value → World → Prop} (h : cortadolaw16_awake_m  w K) : Rets Try.prog 43 #[] w K :=
  calls_of_fw plain mixed Try.func43 (by kernel_rfl) (by rw [cortadolaw16_awake_eq]; exact h)
def cortadolaw16_TapeReads_m (q : Option Addr) (l c : Nat) (q2 : Option Addr) (l2 c2 : Nat) (w : World) (K : Value → World → Prop) : Prop :=
  (decide ((↑l : Int) > (200 : Int)) = false →
  (decide ((↑l2 : Int) > (60 : Int)) = true →
  Rets Try.prog (43 : Nat) { toList := [] } w fun (v1 : Value) (w1 : World) =>
  ∃ (b1 : Bool), v1 = Value.bool b1 ∧ K (Value.bool b1) w1) ∧
  (decide ((↑l2 : Int) > (60 : Int)) = false →
  Rets Try.prog (44 : Nat) { toList := [Value.slice q l c] } w fun (v2 : Value) (w2 : World) =>
  ∃ (q1 : Option Addr),
  v2 = Value.pointer q1 ∧
  NewR (67 : Nat) [Value.slice q l c, Value.int IntKind.i64 (0 : Int)] w2 fun (a1 : Addr) (w3 : World) =>
  ∃ (h1 : Nat → List Value → World → Prop),
  (∃ (k1 : Nat), h1 k1 [Value.int IntKind.i64 (0 : Int)] w3) ∧
  ∀ (k2 : Nat) (w4 : World) (v3 : Value) (n1 : Int)
  (v4 v5 v6 v7 v8 v9 v10 v11 v12 v13 v14 v15 v16 v17 v18 v19 v20 v21 v22 v23 v24 v25 v26 v27 v28 v29 v30 v31 v32 v33 v34
  v35 v36 v37 v38 v39 v40 v41 v42 v43 v44 v45 v46 v47 v48 v49 v50 v51 v52 v53 v54 v55 v56 v57 v58 v59 v60 v61 v62 v63 v64
  v65 v66 : Value),
  h1 k2 [Value.int IntKind.i64 n1] w4 →
  (decide (n1 < (↑l2 : Int)) = true →
  (0 : Int) ≤ n1 ∧
  n1 < (↑l2 : Int) ∧
  someR q2 fun (a2 : Addr) =>
  ∃ (n2 : Int),
  cellAt w4 (Addr.add a2 (Int.toNat n1 * (1 : Nat))) (Value.int IntKind.i64 n2) ∧
  ((n2 == (0 : Int)) = true →
  Rets Try.prog (45 : Nat) { toList := [Value.pointer q1] } w4 fun (v67 : Value) (w5 : World) =>
  ∃ (n3 : Int),
  v67 = Value.int IntKind.i64 n3 ∧
  Rets Try.prog (46 : Nat) { toList := [Value.pointer (some a1)] } w5 fun (v68 : Value) (w6 : World) =>
  ∃ (n4 : Int),
  v68 = Value.int IntKind.i64 n4 ∧
  Drw w6 fun (w7 : World) =>
  ∃ (h2 : World → Prop),
  h2 w7 ∧
  ((!n3 == n4) = false →
  ∃ (n5 : Int),
  (∀ (w8 : World), h2 w8 → World.cell? w8 (Addr.add a1 (1 : Nat)) = some (Value.int IntKind.i64 n5)) ∧
  Rets Try.prog (51 : Nat) { toList := [Value.pointer q1] } w7 fun (v69 : Value) (w9 : World) =>
  ∃ (n6 : Int),
  v69 = Value.int IntKind.i64 n6 ∧
  h2 w9 ∧
  ((n6 != n5) = false →
  ∃ (n7 : Int),
  (∀ (w10 : World), h2 w10 → World.cell? w10 (Addr.add a1 (1 : Nat)) = some (Value.int IntKind.i64 n7)) ∧
  Rets Try.prog (52 : Nat) { toList := [Value.pointer q1] } w9 fun (v70 : Value) (w11 : World) =>
  ∃ (n8 : Int),
  v70 = Value.int IntKind.i64 n8 ∧
  h2 w11 ∧
  ((n8 != IntKind.wrap IntKind.i64 ((↑l : Int) - n7)) = true → K (Value.bool false) w11) ∧
  ((n8 != IntKind.wrap IntKind.i64 ((↑l : Int) - n7)) = false →
  ∃ (k3 : Nat), k3 < k2 ∧ h1 k3 [Value.int IntKind.i64 (IntKind.wrap IntKind.i64 (n1 + (1 : Int)))] w11)) ∧
  ((n6 != n5) = true → K (Value.bool false) w9)) ∧
  ((!n3 == n4) = true → K (Value.bool false) w7)) ∧
  ((n2 == (0 : Int)) = false →
  (0 : Int) ≤ n1 ∧
  n1 < (↑l2 : Int) ∧
  someR q2 fun (a3 : Addr) =>
  ∃ (n9 : Int),
  cellAt w4 (Addr.add a3 (Int.toNat n1 * (1 : Nat))) (Value.int IntKind.i64 n9) ∧
  (decide (n9 < (-5 : Int)) = true →
  Rets Try.prog (47 : Nat) { toList := [Value.pointer q1] } w4 fun (v71 : Value) (w12 : World) =>
  ∃ (n10 : Int),
  v71 = Value.int IntKind.i64 n10 ∧
  Rets Try.prog (48 : Nat) { toList := [Value.pointer (some a1)] } w12 fun (v72 : Value) (w13 : World) =>
  ∃ (n11 : Int),
  v72 = Value.int IntKind.i64 n11 ∧
  Drw w13 fun (w14 : World) =>
  ∃ (h3 : World → Prop),
  h3 w14 ∧
  ((!n10 == n11) = false →
  ∃ (n12 : Int),
  (∀ (w15 : World), h3 w15 → World.cell? w15 (Addr.add a1 (1 : Nat)) = some (Value.int IntKind.i64 n12)) ∧
  Rets Try.prog (51 : Nat) { toList := [Value.pointer q1] } w14 fun (v73 : Value) (w16 : World) =>
  ∃ (n13 : Int),
  v73 = Value.int IntKind.i64 n13 ∧
  h3 w16 ∧
  ((n13 != n12) = false →
  ∃ (n14 : Int),
  (∀ (w17 : World), h3 w17 → World.cell? w17 (Addr.add a1 (1 : Nat)) = some (Value.int IntKind.i64 n14)) ∧
  Rets Try.prog (52 : Nat) { toList := [Value.pointer q1] } w16 fun (v74 : Value) (w18 : World) =>
  ∃ (n15 : Int),
  v74 = Value.int IntKind.i64 n15 ∧
  h3 w18 ∧
  ((n15 != IntKind.wrap IntKind.i64 ((↑l : Int) - n14)) = true → K (Value.bool false) w18) ∧
  ((n15 != IntKind.wrap IntKind.i64 ((↑l : Int) - n14)) = false →
  ∃ (k4 : Nat), k4 < k2 ∧ h1 k4 [Value.int IntKind.i64 (IntKind.wrap IntKind.i64 (n1 + (1 : Int)))] w18)) ∧
  ((n13 != n12) = true → K (Value.bool false) w16)) ∧
  ((!n10 == n11) = true → K (Value.bool false) w14)) ∧
  (decide (n9 < (-5 : Int)) = false →
  Drw w4 fun (w19 : World) =>
  ∃ (h4 : World → Prop),
  h4 w19 ∧
  (0 : Int) ≤ n1 ∧
  n1 < (↑l2 : Int) ∧
  someR q2 fun (a4 : Addr) =>
  (0 : Int) ≤ n1 ∧
  n1 < (↑l2 : Int) ∧
  someR q2 fun (a5 : Addr) =>
  ∃ (n16 : Int),
  (∀ (w20 : World),
  h4 w20 → World.cell? w20 (Addr.add a4 (Int.toNat n1 * (1 : Nat))) = some (Value.int IntKind.i64 n16)) ∧
  ∃ (n17 : Int),
  (∀ (w21 : World),
  h4 w21 → World.cell? w21 (Addr.add a5 (Int.toNat n1 * (1 : Nat))) = some (Value.int IntKind.i64 n17)) ∧
  Rets Try.prog (49 : Nat) { toList := [Value.pointer q1, Value.int IntKind.i64 n16] } w19
  fun (v75 : Value) (w22 : World) =>
  ∃ (n18 : Int),
  v75 = Value.int IntKind.i64 n18 ∧
  h4 w22 ∧
  Rets Try.prog (50 : Nat) { toList := [Value.pointer (some a1), Value.int IntKind.i64 n17] } w22
  fun (v76 : Value) (w23 : World) =>
  ∃ (n19 : Int),
  v76 = Value.int IntKind.i64 n19 ∧
  Drw w23 fun (w24 : World) =>
  ∃ (h5 : World → Prop),
  h5 w24 ∧
  ((!n18 == n19) = false →
  ∃ (n20 : Int),
  (∀ (w25 : World), h5 w25 → World.cell? w25 (Addr.add a1 (1 : Nat)) = some (Value.int IntKind.i64 n20)) ∧
  Rets Try.prog (51 : Nat) { toList := [Value.pointer q1] } w24 fun (v77 : Value) (w26 : World) =>
  ∃ (n21 : Int),
  v77 = Value.int IntKind.i64 n21 ∧
  h5 w26 ∧
  ((n21 != n20) = false →
  ∃ (n22 : Int),
  (∀ (w27 : World), h5 w27 → World.cell? w27 (Addr.add a1 (1 : Nat)) = some (Value.int IntKind.i64 n22)) ∧
  Rets Try.prog (52 : Nat) { toList := [Value.pointer q1] } w26 fun (v78 : Value) (w28 : World) =>
  ∃ (n23 : Int),
  v78 = Value.int IntKind.i64 n23 ∧
  h5 w28 ∧
  ((n23 != IntKind.wrap IntKind.i64 ((↑l : Int) - n22)) = true → K (Value.bool false) w28) ∧
  ((n23 != IntKind.wrap IntKind.i64 ((↑l : Int) - n22)) = false →
  ∃ (k5 : Nat), k5 < k2 ∧ h1 k5 [Value.int IntKind.i64 (IntKind.wrap IntKind.i64 (n1 + (1 : Int)))] w28)) ∧
  ((n21 != n20) = true → K (Value.bool false) w26)) ∧
  ((!n18 == n19) = true → K (Value.bool false) w24)))) ∧
  (decide (n1 < (↑l2 : Int)) = false →
  Rets Try.prog (53 : Nat) { toList := [Value.pointer q1] } w4 fun (v79 : Value) (w29 : World) =>
  ∃ (q2 : Option Addr),
  ∃ (k6 : Nat),
  ∃ (k7 : Nat),
  v79 = Value.slice q2 k6 k7 ∧
  Drw w29 fun (w30 : World) =>
  ∃ (v80 : Value),
  SameRun Try.prog (fun (w31 : World) => w31 = w30) (convert (45 : Nat) (9 : Nat) (Value.slice q2 k6 k7)) v80 ∧
  ∃ (s1 : ByteArray),
  v80 = Value.string s1 ∧
  ∃ (n24 : Int),
  cellAt w30 (Addr.add a1 (1 : Nat)) (Value.int IntKind.i64 n24) ∧
  (0 : Int) ≤ n24 ∧
  n24 ≤ (↑l : Int) ∧
  ∃ (v81 : Value),
  SameRun Try.prog (fun (w32 : World) => w32 = w30)
  (convert (45 : Nat) (9 : Nat)
  (Value.slice (slcA q (Int.toNat n24) c (1 : Nat)) (l - Int.toNat n24) (c - Int.toNat n24)))
  v81 ∧
  ∃ (s2 : ByteArray),
  v81 = Value.string s2 ∧
  ((ByteArray.toList s1 == ByteArray.toList s2) = true →
  Rets Try.prog (52 : Nat) { toList := [Value.pointer q1] } w30 fun (v82 : Value) (w33 : World) =>
  ∃ (n25 : Int),
  v82 = Value.int IntKind.i64 n25 ∧
  ((n25 == (0 : Int)) = true →
  Rets Try.prog (51 : Nat) { toList := [Value.pointer q1] } w33 fun (v83 : Value) (w34 : World) =>
  ∃ (n26 : Int),
  v83 = Value.int IntKind.i64 n26 ∧
  ((n26 == (↑l : Int)) = true →
  Rets Try.prog (47 : Nat) { toList := [Value.pointer none] } w34 fun (v84 : Value) (w35 : World) =>
  ∃ (n27 : Int),
  v84 = Value.int IntKind.i64 n27 ∧
  Rets Try.prog (45 : Nat) { toList := [Value.pointer none] } w35 fun (v85 : Value) (w36 : World) =>
  ∃ (n28 : Int),
  v85 = Value.int IntKind.i64 n28 ∧
  Rets Try.prog (52 : Nat) { toList := [Value.pointer none] } w36 fun (v86 : Value) (w37 : World) =>
  ∃ (n29 : Int),
  v86 = Value.int IntKind.i64 n29 ∧
  Rets Try.prog (51 : Nat) { toList := [Value.pointer none] } w37 fun (v87 : Value) (w38 : World) =>
  ∃ (n30 : Int),
  v87 = Value.int IntKind.i64 n30 ∧
  Rets Try.prog (49 : Nat) { toList := [Value.pointer none, Value.int IntKind.i64 (3 : Int)] } w38
  fun (v88 : Value) (w39 : World) =>
  ∃ (n31 : Int),
  v88 = Value.int IntKind.i64 n31 ∧
  ((IntKind.wrap IntKind.i64
  (IntKind.wrap IntKind.i64 (IntKind.wrap IntKind.i64 (IntKind.wrap IntKind.i64 (n27 + n28) + n29) + n30) + n31) ==
  (0 : Int)) =
  true →
  Rets Try.prog (53 : Nat) { toList := [Value.pointer none] } w39 fun (v89 : Value) (w40 : World) =>
  ∃ (q3 : Option Addr),
  ∃ (k8 : Nat),
  ∃ (k9 : Nat),
  v89 = Value.slice q3 k8 k9 ∧
  (((↑k8 : Int) == (0 : Int)) = true →
  Rets Try.prog (43 : Nat) { toList := [] } w40 fun (v90 : Value) (w41 : World) =>
  ∃ (b2 : Bool), v90 = Value.bool b2 ∧ K (Value.bool b2) w41) ∧
  (((↑k8 : Int) == (0 : Int)) = false → K (Value.bool false) w40)) ∧
  ((IntKind.wrap IntKind.i64
  (IntKind.wrap IntKind.i64 (IntKind.wrap IntKind.i64 (IntKind.wrap IntKind.i64 (n27 + n28) + n29) + n30) + n31) ==
  (0 : Int)) =
  false →
  K (Value.bool false) w39)) ∧
  ((n26 == (↑l : Int)) = false → K (Value.bool false) w34)) ∧
  ((n25 == (0 : Int)) = false → K (Value.bool false) w33)) ∧
  ((ByteArray.toList s1 == ByteArray.toList s2) = false → K (Value.bool false) w30)))) ∧
  (decide ((↑l : Int) > (200 : Int)) = true →
  Rets Try.prog (43 : Nat) { toList := [] } w fun (v91 : Value) (w42 : World) =>
  ∃ (b3 : Bool), v91 = Value.bool b3 ∧ K (Value.bool b3) w42)
theorem cortadolaw16_TapeReads_eq (q : Option Addr) (l c : Nat) (q2 : Option Addr) (l2 c2 : Nat) (w : World) (K : Value → World → Prop) : fw Try.prog Try.f8 (annL [(2, [(4, none), (7, some 3), (8, none), (25, none), (26, none), (27, none), (28, none), (29, none), (30, none), (31, none), (32, none), (33, none), (34, none), (35, none), (36, none), (37, none), (38, none), (39, none), (40, none), (41, none), (42, none), (43, none), (44, none), (45, none), (46, none), (47, none), (48, none), (49, none), (50, none), (51, none), (52, none), (53, none), (54, none), (55, none), (56, none), (57, none), (58, none), (59, none), (60, none), (61, none), (62, none), (63, none), (64, none), (65, none), (66, none), (67, none), (68, none), (69, none), (70, none), (71, none), (72, none), (73, none), (74, none), (75, none), (76, none), (77, none), (78, none), (79, none), (80, none), (81, none), (82, none), (83, none), (84, none), (85, none), (86, none)])]) (ordL [(12, [(0, 0), (1, 0), (2, 0), (3, 0), (6, 0), (7, 0), (8, 0), (9, 0), (4, 1), (10, 1), (5, 2), (11, 3), (12, 0), (13, 0)]), (13, [(0, 0), (1, 0), (2, 0), (3, 0), (5, 0), (6, 0), (7, 0), (8, 1), (4, 2), (9, 0), (10, 0), (11, 0), (12, 0), (14, 0), (15, 0), (16, 0), (17, 0), (18, 0), (19, 1), (20, 0), (13, 2), (21, 0), (22, 0)]), (17, [(0, 0), (2, 0), (3, 0), (4, 0), (5, 0), (1, 1), (6, 1), (7, 0), (8, 1), (9, 0), (10, 0), (11, 0), (12, 3), (13, 0), (14, 0), (15, 0), (16, 0), (18, 0), (19, 0), (17, 3), (20, 0), (21, 0), (22, 0), (23, 0), (25, 0), (28, 0), (31, 0), (34, 0), (24, 3), (26, 3), (27, 0), (29, 3), (30, 0), (32, 3), (33, 0), (35, 3), (36, 0), (37, 0), (38, 0), (39, 0), (40, 0), (41, 3), (42, 0), (43, 0), (44, 0), (45, 0), (46, 3), (47, 0), (48, 0)])]) [.slice q l c, .slice q2 l2 c2] w K = cortadolaw16_TapeReads_m q l c q2 l2 c2 w K := by kernel_rfl
theorem cortadolaw16_TapeReads_go (q : Option Addr) (l c : Nat) (q2 : Option Addr) (l2 c2 : Nat) {w : World} {K : Value → World → Prop} (h : cortadolaw16_TapeReads_m q l c q2 l2 c2 w K) : Rets Try.prog 8 #[.slice q l c, .slice q2 l2 c2] w K :=
  calls_of_fw plain mixed Try.func8 (by kernel_rfl) (by rw [cortadolaw16_TapeReads_eq]; exact h)
end Go.Proofs.Ytfcddffcjmgpkaa.Eng
