/- What the code of these functions asks for: printed by a program of this session's (gens.py) out of the seat's own functions; the kernel checks each row. -/
import Derived.Test.YtggflkjdgcdcmaaGreatDoorEngH
import Derived.Test.YtggflkjdgcdcmaaGreatDoorProg
import Derived.Test.YtggflkjdgcdcmaaGreatDoorBase
namespace Go.Proofs.YtggflkjdgcdcmaaGreatDoor.Eng
open Go Go.Proofs
set_option linter.unusedVariables false
set_option maxRecDepth 1000000
def dice_New_m (q : Option Addr) (l c : Nat) (s : Int) (w : World) (K : Value → World → Prop) : Prop :=
  NewR (3 : Nat) [] w fun (a1 : Addr) (w1 : World) =>
  RunR Tryz.prog
  (builtinV Builtin.append { toList := [(22 : Nat), (22 : Nat)] } (nat_lit 22)
  { toList := [Value.slice (some a1) (0 : Nat) (0 : Nat), Value.slice q l c] })
  w1 fun (v1 : Value) (w2 : World) =>
  ∃ (q1 : Option Addr),
  ∃ (k1 : Nat),
  ∃ (k2 : Nat),
  v1 = Value.slice q1 k1 k2 ∧
  (0 : Int) ≤ (↑k1 : Int) ∧
  (↑k1 : Int) ≤ (↑k2 : Int) ∧
  (0 : Int) ≤ (↑k1 : Int) ∧
  (↑k1 : Int) ≤ (↑(Int.toNat (↑k1 : Int)) : Int) ∧
  NewR (80 : Nat)
  [Value.slice (slcA q1 (0 : Nat) (Int.toNat (↑k1 : Int)) (1 : Nat)) (Int.toNat (↑k1 : Int) - (0 : Nat))
  (Int.toNat (↑k1 : Int) - (0 : Nat)),
  Value.int IntKind.u64 s, Value.int IntKind.i64 (0 : Int)]
  w2 fun (a2 : Addr) (w3 : World) => K (Value.pointer (some a2)) w3
theorem dice_New_eq (q : Option Addr) (l c : Nat) (s : Int) (w : World) (K : Value → World → Prop) : fw Tryz.prog Tryz.f8 (annL []) (ordL []) [.slice q l c, .int .u64 s] w K = dice_New_m q l c s w K := by kernel_rfl
theorem dice_New_go (q : Option Addr) (l c : Nat) (s : Int) {w : World} {K : Value → World → Prop} (h : dice_New_m q l c s w K) : Rets Tryz.prog 8 #[.slice q l c, .int .u64 s] w K :=
  calls_of_fw plain mixed Tryz.func8 (by kernel_rfl) (by rw [dice_New_eq]; exact h)
def dice_Dice_at_m (g : Nat) (k : Int) (w : World) (K : Value → World → Prop) : Prop :=
  ∃ (q1 : Option Addr),
  ∃ (k1 : Nat),
  ∃ (k2 : Nat),
  cellAt w (Addr.add { block := g, off := (0 : Nat) } (0 : Nat)) (Value.slice q1 k1 k2) ∧
  (decide (k < (↑k1 : Int)) = true →
  ∃ (q2 : Option Addr),
  ∃ (k3 : Nat),
  ∃ (k4 : Nat),
  cellAt w (Addr.add { block := g, off := (0 : Nat) } (0 : Nat)) (Value.slice q2 k3 k4) ∧
  (0 : Int) ≤ k ∧
  k < (↑k3 : Int) ∧
  someR q2 fun (a1 : Addr) =>
  ∃ (n1 : Int),
  cellAt w (Addr.add a1 (Int.toNat k * (1 : Nat))) (Value.int IntKind.i64 n1) ∧
  K (Value.int IntKind.u64 (IntKind.wrap IntKind.u64 n1)) w) ∧
  (decide (k < (↑k1 : Int)) = false →
  Drw w fun (w1 : World) =>
  ∃ (n2 : Int),
  cellAt w1 (Addr.add { block := g, off := (0 : Nat) } (1 : Nat)) (Value.int IntKind.u64 n2) ∧
  ∃ (q3 : Option Addr),
  ∃ (k5 : Nat),
  ∃ (k6 : Nat),
  cellAt w1 (Addr.add { block := g, off := (0 : Nat) } (0 : Nat)) (Value.slice q3 k5 k6) ∧
  Rets Tryz.prog (73 : Nat)
  {
  toList :=
  [Value.int IntKind.u64
  (IntKind.wrap IntKind.u64
  (n2 +
  IntKind.wrap IntKind.u64
  ((11400714819323198485 : Int) *
  IntKind.wrap IntKind.u64 (IntKind.wrap IntKind.i64 (IntKind.wrap IntKind.i64 (k - (↑k5 : Int)) + (1 : Int))))))] }
  w1 fun (v1 : Value) (w2 : World) => ∃ (n3 : Int), v1 = Value.int IntKind.u64 n3 ∧ K (Value.int IntKind.u64 n3) w2)
theorem dice_Dice_at_eq (g : Nat) (k : Int) (w : World) (K : Value → World → Prop) : fw Tryz.prog Tryz.f141 (annL []) (ordL [(3, [(0, 0), (1, 0), (2, 0), (4, 0), (5, 0), (6, 0), (7, 0), (3, 1), (8, 1), (9, 0), (10, 0), (11, 0), (12, 0), (13, 0), (14, 0), (15, 3), (16, 0)])]) [.pointer (some ⟨g, 0, none⟩), .int .i64 k] w K = dice_Dice_at_m g k w K := by kernel_rfl
theorem dice_Dice_at_go (g : Nat) (k : Int) {w : World} {K : Value → World → Prop} (h : dice_Dice_at_m g k w K) : Rets Tryz.prog 141 #[.pointer (some ⟨g, 0, none⟩), .int .i64 k] w K :=
  calls_of_fw plain mixed Tryz.func141 (by kernel_rfl) (by rw [dice_Dice_at_eq]; exact h)
def dice_Dice_Next_m (g : Nat) (w : World) (K : Value → World → Prop) : Prop :=
  (false = true → K (Value.int IntKind.u64 (0 : Int)) w) ∧
  (false = false →
  ∃ (n1 : Int),
  cellAt w (Addr.add { block := g, off := (0 : Nat) } (2 : Nat)) (Value.int IntKind.i64 n1) ∧
  Rets Tryz.prog (141 : Nat)
  { toList := [Value.pointer (some { block := g, off := (0 : Nat) }), Value.int IntKind.i64 n1] } w
  fun (v1 : Value) (w1 : World) =>
  ∃ (n2 : Int),
  v1 = Value.int IntKind.u64 n2 ∧
  ∃ (n3 : Int),
  cellAt w1 (Addr.add { block := g, off := (0 : Nat) } (2 : Nat)) (Value.int IntKind.i64 n3) ∧
  StoreR (Addr.add { block := g, off := (0 : Nat) } (2 : Nat))
  [Value.int IntKind.i64 (IntKind.wrap IntKind.i64 (n3 + (1 : Int)))] w1 fun (w2 : World) =>
  K (Value.int IntKind.u64 n2) w2)
theorem dice_Dice_Next_eq (g : Nat) (w : World) (K : Value → World → Prop) : fw Tryz.prog Tryz.f131 (annL []) (ordL []) [.pointer (some ⟨g, 0, none⟩)] w K = dice_Dice_Next_m g w K := by kernel_rfl
theorem dice_Dice_Next_go (g : Nat) {w : World} {K : Value → World → Prop} (h : dice_Dice_Next_m g w K) : Rets Tryz.prog 131 #[.pointer (some ⟨g, 0, none⟩)] w K :=
  calls_of_fw plain mixed Tryz.func131 (by kernel_rfl) (by rw [dice_Dice_Next_eq]; exact h)
def dice_Dice_Below_m (q : Option Addr) (n : Int) (w : World) (K : Value → World → Prop) : Prop :=
  (decide (n < (1 : Int)) = true → K (Value.int IntKind.i64 (0 : Int)) w) ∧
  (decide (n < (1 : Int)) = false →
  Rets Tryz.prog (131 : Nat) { toList := [Value.pointer q] } w fun (v1 : Value) (w1 : World) =>
  ∃ (n1 : Int),
  v1 = Value.int IntKind.u64 n1 ∧
  IntKind.wrap IntKind.u64 n ≠ (0 : Int) ∧
  K (Value.int IntKind.i64 (IntKind.wrap IntKind.i64 (Int.tmod n1 (IntKind.wrap IntKind.u64 n)))) w1)
theorem dice_Dice_Below_eq (q : Option Addr) (n : Int) (w : World) (K : Value → World → Prop) : fw Tryz.prog Tryz.f113 (annL []) (ordL []) [.pointer q, .int .i64 n] w K = dice_Dice_Below_m q n w K := by kernel_rfl
theorem dice_Dice_Below_go (q : Option Addr) (n : Int) {w : World} {K : Value → World → Prop} (h : dice_Dice_Below_m q n w K) : Rets Tryz.prog 113 #[.pointer q, .int .i64 n] w K :=
  calls_of_fw plain mixed Tryz.func113 (by kernel_rfl) (by rw [dice_Dice_Below_eq]; exact h)
def dice_Dice_Used_m (g : Nat) (w : World) (K : Value → World → Prop) : Prop :=
  (false = true → K (Value.int IntKind.i64 (0 : Int)) w) ∧
  (false = false →
  ∃ (n1 : Int),
  cellAt w (Addr.add { block := g, off := (0 : Nat) } (2 : Nat)) (Value.int IntKind.i64 n1) ∧
  K (Value.int IntKind.i64 n1) w)
theorem dice_Dice_Used_eq (g : Nat) (w : World) (K : Value → World → Prop) : fw Tryz.prog Tryz.f11 (annL []) (ordL []) [.pointer (some ⟨g, 0, none⟩)] w K = dice_Dice_Used_m g w K := by kernel_rfl
theorem dice_Dice_Used_go (g : Nat) {w : World} {K : Value → World → Prop} (h : dice_Dice_Used_m g w K) : Rets Tryz.prog 11 #[.pointer (some ⟨g, 0, none⟩)] w K :=
  calls_of_fw plain mixed Tryz.func11 (by kernel_rfl) (by rw [dice_Dice_Used_eq]; exact h)
def cortadoref15_At_m (q : Option Addr) (l c : Nat) (s k : Int) (w : World) (K : Value → World → Prop) : Prop :=
  (decide (k < (↑l : Int)) = true →
  (0 : Int) ≤ k ∧
  k < (↑l : Int) ∧
  someR q fun (a1 : Addr) =>
  ∃ (n1 : Int),
  cellAt w (Addr.add a1 (Int.toNat k * (1 : Nat))) (Value.int IntKind.i64 n1) ∧
  K (Value.int IntKind.u64 (IntKind.wrap IntKind.u64 n1)) w) ∧
  (decide (k < (↑l : Int)) = false →
  ∃ (h1 : Nat → List Value → World → Prop),
  (∃ (k1 : Nat), h1 k1 [Value.int IntKind.u64 s, Value.int IntKind.i64 (↑l : Int)] w) ∧
  ∀ (k2 : Nat) (w1 : World) (n2 n3 : Int) (v1 v2 v3 v4 v5 v6 v7 : Value),
  h1 k2 [Value.int IntKind.u64 n2, Value.int IntKind.i64 n3] w1 →
  (decide (n3 ≤ k) = true →
  ∃ (k3 : Nat),
  k3 < k2 ∧
  h1 k3
  [Value.int IntKind.u64 (IntKind.wrap IntKind.u64 (n2 + (11400714819323198485 : Int))),
  Value.int IntKind.i64 (IntKind.wrap IntKind.i64 (n3 + (1 : Int)))]
  w1) ∧
  (decide (n3 ≤ k) = false →
  Rets Tryz.prog (93 : Nat) { toList := [Value.int IntKind.u64 n2] } w1 fun (v8 : Value) (w2 : World) =>
  ∃ (n4 : Int), v8 = Value.int IntKind.u64 n4 ∧ K (Value.int IntKind.u64 n4) w2))
theorem cortadoref15_At_eq (q : Option Addr) (l c : Nat) (s k : Int) (w : World) (K : Value → World → Prop) : fw Tryz.prog Tryz.f142 (annL [(2, [(7, some 30), (8, some 3), (21, none), (22, none), (23, none), (24, none), (25, none), (26, none), (27, none)])]) (ordL []) [.slice q l c, .int .u64 s, .int .i64 k] w K = cortadoref15_At_m q l c s k w K := by kernel_rfl
theorem cortadoref15_At_go (q : Option Addr) (l c : Nat) (s k : Int) {w : World} {K : Value → World → Prop} (h : cortadoref15_At_m q l c s k w K) : Rets Tryz.prog 142 #[.slice q l c, .int .u64 s, .int .i64 k] w K :=
  calls_of_fw plain mixed Tryz.func142 (by kernel_rfl) (by rw [cortadoref15_At_eq]; exact h)
def cortadoref15_D_Next_m (g : Nat) (w : World) (K : Value → World → Prop) : Prop :=
  Drw w fun (w1 : World) =>
  ∃ (q1 : Option Addr),
  ∃ (k1 : Nat),
  ∃ (k2 : Nat),
  cellAt w1 (Addr.add { block := g, off := (0 : Nat) } (0 : Nat)) (Value.slice q1 k1 k2) ∧
  ∃ (n1 : Int),
  cellAt w1 (Addr.add { block := g, off := (0 : Nat) } (1 : Nat)) (Value.int IntKind.u64 n1) ∧
  ∃ (n2 : Int),
  cellAt w1 (Addr.add { block := g, off := (0 : Nat) } (2 : Nat)) (Value.int IntKind.i64 n2) ∧
  Rets Tryz.prog (142 : Nat) { toList := [Value.slice q1 k1 k2, Value.int IntKind.u64 n1, Value.int IntKind.i64 n2] } w1
  fun (v1 : Value) (w2 : World) =>
  ∃ (n3 : Int),
  v1 = Value.int IntKind.u64 n3 ∧
  ∃ (n4 : Int),
  cellAt w2 (Addr.add { block := g, off := (0 : Nat) } (2 : Nat)) (Value.int IntKind.i64 n4) ∧
  StoreR (Addr.add { block := g, off := (0 : Nat) } (2 : Nat))
  [Value.int IntKind.i64 (IntKind.wrap IntKind.i64 (n4 + (1 : Int)))] w2 fun (w3 : World) =>
  K (Value.int IntKind.u64 n3) w3
theorem cortadoref15_D_Next_eq (g : Nat) (w : World) (K : Value → World → Prop) : fw Tryz.prog Tryz.f137 (annL []) (ordL [(1, [(0, 0), (1, 0), (2, 0), (4, 0), (5, 0), (6, 0), (8, 0), (9, 0), (10, 0), (3, 1), (7, 1), (11, 1), (12, 3), (13, 0)])]) [.pointer (some ⟨g, 0, none⟩)] w K = cortadoref15_D_Next_m g w K := by kernel_rfl
theorem cortadoref15_D_Next_go (g : Nat) {w : World} {K : Value → World → Prop} (h : cortadoref15_D_Next_m g w K) : Rets Tryz.prog 137 #[.pointer (some ⟨g, 0, none⟩)] w K :=
  calls_of_fw plain mixed Tryz.func137 (by kernel_rfl) (by rw [cortadoref15_D_Next_eq]; exact h)
def cortadoref15_D_Below_m (g : Nat) (n : Int) (w : World) (K : Value → World → Prop) : Prop :=
  (decide (n < (1 : Int)) = true → K (Value.int IntKind.i64 (0 : Int)) w) ∧
  (decide (n < (1 : Int)) = false →
  Rets Tryz.prog (137 : Nat) { toList := [Value.pointer (some { block := g, off := (0 : Nat) })] } w
  fun (v1 : Value) (w1 : World) =>
  ∃ (n1 : Int),
  v1 = Value.int IntKind.u64 n1 ∧
  IntKind.wrap IntKind.u64 n ≠ (0 : Int) ∧
  K (Value.int IntKind.i64 (IntKind.wrap IntKind.i64 (Int.tmod n1 (IntKind.wrap IntKind.u64 n)))) w1)
theorem cortadoref15_D_Below_eq (g : Nat) (n : Int) (w : World) (K : Value → World → Prop) : fw Tryz.prog Tryz.f125 (annL []) (ordL []) [.pointer (some ⟨g, 0, none⟩), .int .i64 n] w K = cortadoref15_D_Below_m g n w K := by kernel_rfl
theorem cortadoref15_D_Below_go (g : Nat) (n : Int) {w : World} {K : Value → World → Prop} (h : cortadoref15_D_Below_m g n w K) : Rets Tryz.prog 125 #[.pointer (some ⟨g, 0, none⟩), .int .i64 n] w K :=
  calls_of_fw plain mixed Tryz.func125 (by kernel_rfl) (by rw [cortadoref15_D_Below_eq]; exact h)
end Go.Proofs.YtggflkjdgcdcmaaGreatDoor.Eng
