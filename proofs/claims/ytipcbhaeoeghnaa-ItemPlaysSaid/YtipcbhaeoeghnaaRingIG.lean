/- What the code of these functions asks for: printed by a program of this session's (gens.py) out of the seat's own functions; the kernel checks each row. -/
import Derived.Test.YtipcbhaeoeghnaaEngH
import Derived.Test.YtipcbhaeoeghnaaProg
import Derived.Test.YtipcbhaeoeghnaaBase
namespace Go.Proofs.Ytipcbhaeoeghnaa.Eng
open Go Go.Proofs
set_option linter.unusedVariables false
set_option maxRecDepth 1000000
def rg_int_New_m (room : Int) (w : World) (K : Value → World → Prop) : Prop :=
  NewR (165 : Nat)
  [Value.slice none (0 : Nat) (0 : Nat), Value.int IntKind.i64 (0 : Int), Value.int IntKind.i64 (0 : Int),
  Value.int IntKind.i64 (maxI (0 : Int) (minI room (65536 : Int)))]
  w fun (a1 : Addr) (w1 : World) => K (Value.pointer (some a1)) w1
theorem rg_int_New_eq (room : Int) (w : World) (K : Value → World → Prop) : fw Try.prog Try.f92 (annL []) (ordL []) [.int .i64 room] w K = rg_int_New_m room w K := by kernel_rfl
theorem rg_int_New_go (room : Int) {w : World} {K : Value → World → Prop} (h : rg_int_New_m room w K) : Rets Try.prog 92 #[.int .i64 room] w K :=
  calls_of_fw plain mixed Try.func92 (by kernel_rfl) (by rw [rg_int_New_eq]; exact h)
def rg_int_place_m (g : Nat) (i : Int) (w : World) (K : Value → World → Prop) : Prop :=
  Drw w fun (w1 : World) =>
  ∃ (n1 : Int),
  cellAt w1 (Addr.add { block := g, off := (0 : Nat) } (1 : Nat)) (Value.int IntKind.i64 n1) ∧
  ∃ (q1 : Option Addr),
  ∃ (k1 : Nat),
  ∃ (k2 : Nat),
  cellAt w1 (Addr.add { block := g, off := (0 : Nat) } (0 : Nat)) (Value.slice q1 k1 k2) ∧
  (↑k1 : Int) ≠ (0 : Int) ∧ K (Value.int IntKind.i64 (Int.tmod (IntKind.wrap IntKind.i64 (n1 + i)) (↑k1 : Int))) w1
theorem rg_int_place_eq (g : Nat) (i : Int) (w : World) (K : Value → World → Prop) : fw Try.prog Try.f113 (annL []) (ordL [(1, [(0, 0), (1, 0), (2, 0), (4, 0), (6, 0), (7, 0), (8, 0), (3, 1), (5, 0), (9, 1), (10, 0), (11, 0), (12, 0)])]) [.pointer (some ⟨g, 0, none⟩), .int .i64 i] w K = rg_int_place_m g i w K := by kernel_rfl
theorem rg_int_place_go (g : Nat) (i : Int) {w : World} {K : Value → World → Prop} (h : rg_int_place_m g i w K) : Rets Try.prog 113 #[.pointer (some ⟨g, 0, none⟩), .int .i64 i] w K :=
  calls_of_fw plain mixed Try.func113 (by kernel_rfl) (by rw [rg_int_place_eq]; exact h)
def rg_int_Len_m (g : Nat) (w : World) (K : Value → World → Prop) : Prop :=
  (false = true → K (Value.int IntKind.i64 (0 : Int)) w) ∧
  (false = false →
  ∃ (n1 : Int),
  cellAt w (Addr.add { block := g, off := (0 : Nat) } (2 : Nat)) (Value.int IntKind.i64 n1) ∧
  K (Value.int IntKind.i64 n1) w)
theorem rg_int_Len_eq (g : Nat) (w : World) (K : Value → World → Prop) : fw Try.prog Try.f95 (annL []) (ordL []) [.pointer (some ⟨g, 0, none⟩)] w K = rg_int_Len_m g w K := by kernel_rfl
theorem rg_int_Len_go (g : Nat) {w : World} {K : Value → World → Prop} (h : rg_int_Len_m g w K) : Rets Try.prog 95 #[.pointer (some ⟨g, 0, none⟩)] w K :=
  calls_of_fw plain mixed Try.func95 (by kernel_rfl) (by rw [rg_int_Len_eq]; exact h)
def rg_int_Room_m (g : Nat) (w : World) (K : Value → World → Prop) : Prop :=
  (false = true → K (Value.int IntKind.i64 (0 : Int)) w) ∧
  (false = false →
  ∃ (n1 : Int),
  cellAt w (Addr.add { block := g, off := (0 : Nat) } (3 : Nat)) (Value.int IntKind.i64 n1) ∧
  K (Value.int IntKind.i64 n1) w)
theorem rg_int_Room_eq (g : Nat) (w : World) (K : Value → World → Prop) : fw Try.prog Try.f96 (annL []) (ordL []) [.pointer (some ⟨g, 0, none⟩)] w K = rg_int_Room_m g w K := by kernel_rfl
theorem rg_int_Room_go (g : Nat) {w : World} {K : Value → World → Prop} (h : rg_int_Room_m g w K) : Rets Try.prog 96 #[.pointer (some ⟨g, 0, none⟩)] w K :=
  calls_of_fw plain mixed Try.func96 (by kernel_rfl) (by rw [rg_int_Room_eq]; exact h)
def rg_int_sClone_m (q : Option Addr) (l c : Nat) (w : World) (K : Value → World → Prop) : Prop :=
  (Option.isNone q = true → K (Value.slice none (0 : Nat) (0 : Nat)) w) ∧
  (Option.isNone q = false →
  NewR (83 : Nat) [] w fun (a1 : Addr) (w1 : World) =>
  RunR Try.prog
  (builtinV Builtin.append { toList := [(163 : Nat), (163 : Nat)] } (nat_lit 163)
  { toList := [Value.slice (some a1) (0 : Nat) (0 : Nat), Value.slice q l c] })
  w1 fun (v1 : Value) (w2 : World) =>
  ∃ (q1 : Option Addr), ∃ (k1 : Nat), ∃ (k2 : Nat), v1 = Value.slice q1 k1 k2 ∧ K (Value.slice q1 k1 k2) w2)
theorem rg_int_sClone_eq (q : Option Addr) (l c : Nat) (w : World) (K : Value → World → Prop) : fw Try.prog Try.f124 (annL []) (ordL []) [.slice q l c] w K = rg_int_sClone_m q l c w K := by kernel_rfl
theorem rg_int_sClone_go (q : Option Addr) (l c : Nat) {w : World} {K : Value → World → Prop} (h : rg_int_sClone_m q l c w K) : Rets Try.prog 124 #[.slice q l c] w K :=
  calls_of_fw plain mixed Try.func124 (by kernel_rfl) (by rw [rg_int_sClone_eq]; exact h)
def rg_int_Clone_m (g : Nat) (w : World) (K : Value → World → Prop) : Prop :=
  (false = true → K (Value.pointer none) w) ∧
  (false = false →
  Drw w fun (w1 : World) =>
  ∃ (h1 : World → Prop),
  h1 w1 ∧
  ∃ (q1 : Option Addr),
  ∃ (k1 : Nat),
  ∃ (k2 : Nat),
  (∀ (w2 : World),
  h1 w2 → World.cell? w2 (Addr.add { block := g, off := (0 : Nat) } (0 : Nat)) = some (Value.slice q1 k1 k2)) ∧
  ∃ (n1 : Int),
  (∀ (w3 : World),
  h1 w3 → World.cell? w3 (Addr.add { block := g, off := (0 : Nat) } (1 : Nat)) = some (Value.int IntKind.i64 n1)) ∧
  ∃ (n2 : Int),
  (∀ (w4 : World),
  h1 w4 → World.cell? w4 (Addr.add { block := g, off := (0 : Nat) } (2 : Nat)) = some (Value.int IntKind.i64 n2)) ∧
  ∃ (n3 : Int),
  (∀ (w5 : World),
  h1 w5 → World.cell? w5 (Addr.add { block := g, off := (0 : Nat) } (3 : Nat)) = some (Value.int IntKind.i64 n3)) ∧
  Rets Try.prog (124 : Nat) { toList := [Value.slice q1 k1 k2] } w1 fun (v1 : Value) (w6 : World) =>
  ∃ (q2 : Option Addr),
  ∃ (k3 : Nat),
  ∃ (k4 : Nat),
  v1 = Value.slice q2 k3 k4 ∧
  h1 w6 ∧
  NewR (165 : Nat) [Value.slice q2 k3 k4, Value.int IntKind.i64 n1, Value.int IntKind.i64 n2, Value.int IntKind.i64 n3] w6
  fun (a1 : Addr) (w7 : World) => K (Value.pointer (some a1)) w7)
theorem rg_int_Clone_eq (g : Nat) (w : World) (K : Value → World → Prop) : fw Try.prog Try.f116 (annL []) (ordL [(3, [(0, 0), (1, 0), (2, 0), (5, 0), (6, 0), (7, 0), (9, 0), (10, 0), (11, 0), (13, 0), (14, 0), (15, 0), (3, 1), (8, 1), (12, 1), (16, 1), (4, 2), (17, 0), (18, 3), (19, 0)])]) [.pointer (some ⟨g, 0, none⟩)] w K = rg_int_Clone_m g w K := by kernel_rfl
theorem rg_int_Clone_go (g : Nat) {w : World} {K : Value → World → Prop} (h : rg_int_Clone_m g w K) : Rets Try.prog 116 #[.pointer (some ⟨g, 0, none⟩)] w K :=
  calls_of_fw plain mixed Try.func116 (by kernel_rfl) (by rw [rg_int_Clone_eq]; exact h)
def rg_int_At_m (g : Nat) (i : Int) (w : World) (K : Value → World → Prop) : Prop :=
  NewR (83 : Nat)
  [Value.int IntKind.i64 (0 : Int), Value.int IntKind.u64 (0 : Int), Value.int IntKind.u64 (0 : Int),
  Value.int IntKind.i64 (0 : Int), Value.int IntKind.i64 (0 : Int), Value.int IntKind.i64 (0 : Int),
  Value.int IntKind.i64 (0 : Int), Value.int IntKind.i64 (0 : Int), Value.int IntKind.i64 (0 : Int)]
  w fun (a1 : Addr) (w1 : World) =>
  (false = false →
  (decide (i < (0 : Int)) = false →
  ∃ (n1 : Int),
  cellAt w1 (Addr.add { block := g, off := (0 : Nat) } (2 : Nat)) (Value.int IntKind.i64 n1) ∧
  (decide (i ≥ n1) = true →
  ∃ (n2 : Int),
  ∃ (n3 : Int),
  ∃ (n4 : Int),
  ∃ (n5 : Int),
  ∃ (n6 : Int),
  ∃ (n7 : Int),
  ∃ (n8 : Int),
  ∃ (n9 : Int),
  ∃ (n10 : Int),
  (cellAt w1 (Addr.add a1 (0 : Nat)) (Value.int IntKind.i64 n2) ∧
  cellAt w1 (Addr.add a1 (1 : Nat)) (Value.int IntKind.u64 n3) ∧
  cellAt w1 (Addr.add a1 (2 : Nat)) (Value.int IntKind.u64 n4) ∧
  cellAt w1 (Addr.add a1 (3 : Nat)) (Value.int IntKind.i64 n5) ∧
  cellAt w1 (Addr.add a1 (4 : Nat)) (Value.int IntKind.i64 n6) ∧
  cellAt w1 (Addr.add a1 (5 : Nat)) (Value.int IntKind.i64 n7) ∧
  cellAt w1 (Addr.add a1 (6 : Nat)) (Value.int IntKind.i64 n8) ∧
  cellAt w1 (Addr.add a1 (7 : Nat)) (Value.int IntKind.i64 n9) ∧
  cellAt w1 (Addr.add a1 (8 : Nat)) (Value.int IntKind.i64 n10)) ∧
  StoreR a1
  [Value.int IntKind.i64 n2, Value.int IntKind.u64 n3, Value.int IntKind.u64 n4, Value.int IntKind.i64 n5,
  Value.int IntKind.i64 n6, Value.int IntKind.i64 n7, Value.int IntKind.i64 n8, Value.int IntKind.i64 n9,
  Value.int IntKind.i64 n10]
  w1 fun (w2 : World) =>
  ∃ (n11 : Int),
  ∃ (n12 : Int),
  ∃ (n13 : Int),
  ∃ (n14 : Int),
  ∃ (n15 : Int),
  ∃ (n16 : Int),
  ∃ (n17 : Int),
  ∃ (n18 : Int),
  ∃ (n19 : Int),
  (cellAt w2 (Addr.add a1 (0 : Nat)) (Value.int IntKind.i64 n11) ∧
  cellAt w2 (Addr.add a1 (1 : Nat)) (Value.int IntKind.u64 n12) ∧
  cellAt w2 (Addr.add a1 (2 : Nat)) (Value.int IntKind.u64 n13) ∧
  cellAt w2 (Addr.add a1 (3 : Nat)) (Value.int IntKind.i64 n14) ∧
  cellAt w2 (Addr.add a1 (4 : Nat)) (Value.int IntKind.i64 n15) ∧
  cellAt w2 (Addr.add a1 (5 : Nat)) (Value.int IntKind.i64 n16) ∧
  cellAt w2 (Addr.add a1 (6 : Nat)) (Value.int IntKind.i64 n17) ∧
  cellAt w2 (Addr.add a1 (7 : Nat)) (Value.int IntKind.i64 n18) ∧
  cellAt w2 (Addr.add a1 (8 : Nat)) (Value.int IntKind.i64 n19)) ∧
  K
  (Value.tuple
  {
  toList :=
  [Value.agg
  {
  toList :=
  [Value.int IntKind.i64 n11, Value.int IntKind.u64 n12, Value.int IntKind.u64 n13, Value.int IntKind.i64 n14,
  Value.int IntKind.i64 n15, Value.int IntKind.i64 n16, Value.int IntKind.i64 n17, Value.int IntKind.i64 n18,
  Value.int IntKind.i64 n19] },
  Value.bool false] })
  w2) ∧
  (decide (i ≥ n1) = false →
  Drw w1 fun (w3 : World) =>
  ∃ (h1 : World → Prop),
  h1 w3 ∧
  ∃ (q1 : Option Addr),
  ∃ (k1 : Nat),
  ∃ (k2 : Nat),
  (∀ (w4 : World),
  h1 w4 → World.cell? w4 (Addr.add { block := g, off := (0 : Nat) } (0 : Nat)) = some (Value.slice q1 k1 k2)) ∧
  Rets Try.prog (113 : Nat) { toList := [Value.pointer (some { block := g, off := (0 : Nat) }), Value.int IntKind.i64 i] }
  w3 fun (v1 : Value) (w5 : World) =>
  ∃ (n20 : Int),
  v1 = Value.int IntKind.i64 n20 ∧
  ∃ (h2 : World → Prop),
  (∀ (w6 : World), h2 w6 → h1 w6) ∧
  h2 w5 ∧
  (0 : Int) ≤ n20 ∧
  n20 < (↑k1 : Int) ∧
  someR q1 fun (a2 : Addr) =>
  ∃ (n21 : Int),
  ∃ (n22 : Int),
  ∃ (n23 : Int),
  ∃ (n24 : Int),
  ∃ (n25 : Int),
  ∃ (n26 : Int),
  ∃ (n27 : Int),
  ∃ (n28 : Int),
  ∃ (n29 : Int),
  ((∀ (w7 : World),
  h2 w7 →
  World.cell? w7 (Addr.add (Addr.add a2 (Int.toNat n20 * (9 : Nat))) (0 : Nat)) = some (Value.int IntKind.i64 n21)) ∧
  (∀ (w8 : World),
  h2 w8 →
  World.cell? w8 (Addr.add (Addr.add a2 (Int.toNat n20 * (9 : Nat))) ((0 : Nat) + (1 : Nat))) =
  some (Value.int IntKind.u64 n22)) ∧
  (∀ (w9 : World),
  h2 w9 →
  World.cell? w9 (Addr.add (Addr.add a2 (Int.toNat n20 * (9 : Nat))) ((0 : Nat) + (1 : Nat) + (1 : Nat))) =
  some (Value.int IntKind.u64 n23)) ∧
  (∀ (w10 : World),
  h2 w10 →
  World.cell? w10 (Addr.add (Addr.add a2 (Int.toNat n20 * (9 : Nat))) ((0 : Nat) + (1 : Nat) + (1 : Nat) + (1 : Nat))) =
  some (Value.int IntKind.i64 n24)) ∧
  (∀ (w11 : World),
  h2 w11 →
  World.cell? w11
  (Addr.add (Addr.add a2 (Int.toNat n20 * (9 : Nat))) ((0 : Nat) + (1 : Nat) + (1 : Nat) + (1 : Nat) + (1 : Nat))) =
  some (Value.int IntKind.i64 n25)) ∧
  (∀ (w12 : World),
  h2 w12 →
  World.cell? w12
  (Addr.add (Addr.add a2 (Int.toNat n20 * (9 : Nat)))
  ((0 : Nat) + (1 : Nat) + (1 : Nat) + (1 : Nat) + (1 : Nat) + (1 : Nat))) =
  some (Value.int IntKind.i64 n26)) ∧
  (∀ (w13 : World),
  h2 w13 →
  World.cell? w13
  (Addr.add (Addr.add a2 (Int.toNat n20 * (9 : Nat)))
  ((0 : Nat) + (1 : Nat) + (1 : Nat) + (1 : Nat) + (1 : Nat) + (1 : Nat) + (1 : Nat))) =
  some (Value.int IntKind.i64 n27)) ∧
  (∀ (w14 : World),
  h2 w14 →
  World.cell? w14
  (Addr.add (Addr.add a2 (Int.toNat n20 * (9 : Nat)))
  ((0 : Nat) + (1 : Nat) + (1 : Nat) + (1 : Nat) + (1 : Nat) + (1 : Nat) + (1 : Nat) + (1 : Nat))) =
  some (Value.int IntKind.i64 n28)) ∧
  ∀ (w15 : World),
  h2 w15 →
  World.cell? w15
  (Addr.add (Addr.add a2 (Int.toNat n20 * (9 : Nat)))
  ((0 : Nat) + (1 : Nat) + (1 : Nat) + (1 : Nat) + (1 : Nat) + (1 : Nat) + (1 : Nat) + (1 : Nat) + (1 : Nat))) =
  some (Value.int IntKind.i64 n29)) ∧
  StoreR a1
  [Value.int IntKind.i64 n21, Value.int IntKind.u64 n22, Value.int IntKind.u64 n23, Value.int IntKind.i64 n24,
  Value.int IntKind.i64 n25, Value.int IntKind.i64 n26, Value.int IntKind.i64 n27, Value.int IntKind.i64 n28,
  Value.int IntKind.i64 n29]
  w5 fun (w16 : World) =>
  ∃ (n30 : Int),
  ∃ (n31 : Int),
  ∃ (n32 : Int),
  ∃ (n33 : Int),
  ∃ (n34 : Int),
  ∃ (n35 : Int),
  ∃ (n36 : Int),
  ∃ (n37 : Int),
  ∃ (n38 : Int),
  (cellAt w16 (Addr.add a1 (0 : Nat)) (Value.int IntKind.i64 n30) ∧
  cellAt w16 (Addr.add a1 (1 : Nat)) (Value.int IntKind.u64 n31) ∧
  cellAt w16 (Addr.add a1 (2 : Nat)) (Value.int IntKind.u64 n32) ∧
  cellAt w16 (Addr.add a1 (3 : Nat)) (Value.int IntKind.i64 n33) ∧
  cellAt w16 (Addr.add a1 (4 : Nat)) (Value.int IntKind.i64 n34) ∧
  cellAt w16 (Addr.add a1 (5 : Nat)) (Value.int IntKind.i64 n35) ∧
  cellAt w16 (Addr.add a1 (6 : Nat)) (Value.int IntKind.i64 n36) ∧
  cellAt w16 (Addr.add a1 (7 : Nat)) (Value.int IntKind.i64 n37) ∧
  cellAt w16 (Addr.add a1 (8 : Nat)) (Value.int IntKind.i64 n38)) ∧
  K
  (Value.tuple
  {
  toList :=
  [Value.agg
  {
  toList :=
  [Value.int IntKind.i64 n30, Value.int IntKind.u64 n31, Value.int IntKind.u64 n32, Value.int IntKind.i64 n33,
  Value.int IntKind.i64 n34, Value.int IntKind.i64 n35, Value.int IntKind.i64 n36, Value.int IntKind.i64 n37,
  Value.int IntKind.i64 n38] },
  Value.bool true] })
  w16)) ∧
  (decide (i < (0 : Int)) = true →
  ∃ (n39 : Int),
  ∃ (n40 : Int),
  ∃ (n41 : Int),
  ∃ (n42 : Int),
  ∃ (n43 : Int),
  ∃ (n44 : Int),
  ∃ (n45 : Int),
  ∃ (n46 : Int),
  ∃ (n47 : Int),
  (cellAt w1 (Addr.add a1 (0 : Nat)) (Value.int IntKind.i64 n39) ∧
  cellAt w1 (Addr.add a1 (1 : Nat)) (Value.int IntKind.u64 n40) ∧
  cellAt w1 (Addr.add a1 (2 : Nat)) (Value.int IntKind.u64 n41) ∧
  cellAt w1 (Addr.add a1 (3 : Nat)) (Value.int IntKind.i64 n42) ∧
  cellAt w1 (Addr.add a1 (4 : Nat)) (Value.int IntKind.i64 n43) ∧
  cellAt w1 (Addr.add a1 (5 : Nat)) (Value.int IntKind.i64 n44) ∧
  cellAt w1 (Addr.add a1 (6 : Nat)) (Value.int IntKind.i64 n45) ∧
  cellAt w1 (Addr.add a1 (7 : Nat)) (Value.int IntKind.i64 n46) ∧
  cellAt w1 (Addr.add a1 (8 : Nat)) (Value.int IntKind.i64 n47)) ∧
  StoreR a1
  [Value.int IntKind.i64 n39, Value.int IntKind.u64 n40, Value.int IntKind.u64 n41, Value.int IntKind.i64 n42,
  Value.int IntKind.i64 n43, Value.int IntKind.i64 n44, Value.int IntKind.i64 n45, Value.int IntKind.i64 n46,
  Value.int IntKind.i64 n47]
  w1 fun (w17 : World) =>
  ∃ (n48 : Int),
  ∃ (n49 : Int),
  ∃ (n50 : Int),
  ∃ (n51 : Int),
  ∃ (n52 : Int),
  ∃ (n53 : Int),
  ∃ (n54 : Int),
  ∃ (n55 : Int),
  ∃ (n56 : Int),
  (cellAt w17 (Addr.add a1 (0 : Nat)) (Value.int IntKind.i64 n48) ∧
  cellAt w17 (Addr.add a1 (1 : Nat)) (Value.int IntKind.u64 n49) ∧
  cellAt w17 (Addr.add a1 (2 : Nat)) (Value.int IntKind.u64 n50) ∧
  cellAt w17 (Addr.add a1 (3 : Nat)) (Value.int IntKind.i64 n51) ∧
  cellAt w17 (Addr.add a1 (4 : Nat)) (Value.int IntKind.i64 n52) ∧
  cellAt w17 (Addr.add a1 (5 : Nat)) (Value.int IntKind.i64 n53) ∧
  cellAt w17 (Addr.add a1 (6 : Nat)) (Value.int IntKind.i64 n54) ∧
  cellAt w17 (Addr.add a1 (7 : Nat)) (Value.int IntKind.i64 n55) ∧
  cellAt w17 (Addr.add a1 (8 : Nat)) (Value.int IntKind.i64 n56)) ∧
  K
  (Value.tuple
  {
  toList :=
  [Value.agg
  {
  toList :=
  [Value.int IntKind.i64 n48, Value.int IntKind.u64 n49, Value.int IntKind.u64 n50, Value.int IntKind.i64 n51,
  Value.int IntKind.i64 n52, Value.int IntKind.i64 n53, Value.int IntKind.i64 n54, Value.int IntKind.i64 n55,
  Value.int IntKind.i64 n56] },
  Value.bool false] })
  w17)) ∧
  (false = true →
  ∃ (n57 : Int),
  ∃ (n58 : Int),
  ∃ (n59 : Int),
  ∃ (n60 : Int),
  ∃ (n61 : Int),
  ∃ (n62 : Int),
  ∃ (n63 : Int),
  ∃ (n64 : Int),
  ∃ (n65 : Int),
  (cellAt w1 (Addr.add a1 (0 : Nat)) (Value.int IntKind.i64 n57) ∧
  cellAt w1 (Addr.add a1 (1 : Nat)) (Value.int IntKind.u64 n58) ∧
  cellAt w1 (Addr.add a1 (2 : Nat)) (Value.int IntKind.u64 n59) ∧
  cellAt w1 (Addr.add a1 (3 : Nat)) (Value.int IntKind.i64 n60) ∧
  cellAt w1 (Addr.add a1 (4 : Nat)) (Value.int IntKind.i64 n61) ∧
  cellAt w1 (Addr.add a1 (5 : Nat)) (Value.int IntKind.i64 n62) ∧
  cellAt w1 (Addr.add a1 (6 : Nat)) (Value.int IntKind.i64 n63) ∧
  cellAt w1 (Addr.add a1 (7 : Nat)) (Value.int IntKind.i64 n64) ∧
  cellAt w1 (Addr.add a1 (8 : Nat)) (Value.int IntKind.i64 n65)) ∧
  StoreR a1
  [Value.int IntKind.i64 n57, Value.int IntKind.u64 n58, Value.int IntKind.u64 n59, Value.int IntKind.i64 n60,
  Value.int IntKind.i64 n61, Value.int IntKind.i64 n62, Value.int IntKind.i64 n63, Value.int IntKind.i64 n64,
  Value.int IntKind.i64 n65]
  w1 fun (w18 : World) =>
  ∃ (n66 : Int),
  ∃ (n67 : Int),
  ∃ (n68 : Int),
  ∃ (n69 : Int),
  ∃ (n70 : Int),
  ∃ (n71 : Int),
  ∃ (n72 : Int),
  ∃ (n73 : Int),
  ∃ (n74 : Int),
  (cellAt w18 (Addr.add a1 (0 : Nat)) (Value.int IntKind.i64 n66) ∧
  cellAt w18 (Addr.add a1 (1 : Nat)) (Value.int IntKind.u64 n67) ∧
  cellAt w18 (Addr.add a1 (2 : Nat)) (Value.int IntKind.u64 n68) ∧
  cellAt w18 (Addr.add a1 (3 : Nat)) (Value.int IntKind.i64 n69) ∧
  cellAt w18 (Addr.add a1 (4 : Nat)) (Value.int IntKind.i64 n70) ∧
  cellAt w18 (Addr.add a1 (5 : Nat)) (Value.int IntKind.i64 n71) ∧
  cellAt w18 (Addr.add a1 (6 : Nat)) (Value.int IntKind.i64 n72) ∧
  cellAt w18 (Addr.add a1 (7 : Nat)) (Value.int IntKind.i64 n73) ∧
  cellAt w18 (Addr.add a1 (8 : Nat)) (Value.int IntKind.i64 n74)) ∧
  K
  (Value.tuple
  {
  toList :=
  [Value.agg
  {
  toList :=
  [Value.int IntKind.i64 n66, Value.int IntKind.u64 n67, Value.int IntKind.u64 n68, Value.int IntKind.i64 n69,
  Value.int IntKind.i64 n70, Value.int IntKind.i64 n71, Value.int IntKind.i64 n72, Value.int IntKind.i64 n73,
  Value.int IntKind.i64 n74] },
  Value.bool false] })
  w18)
theorem rg_int_At_eq (g : Nat) (i : Int) (w : World) (K : Value → World → Prop) : fw Try.prog Try.f117 (annL []) (ordL [(3, [(0, 0), (1, 0), (2, 0), (4, 0), (5, 0), (3, 1), (6, 4), (7, 0), (8, 1), (9, 3), (10, 0)])]) [.pointer (some ⟨g, 0, none⟩), .int .i64 i] w K = rg_int_At_m g i w K := by kernel_rfl
theorem rg_int_At_go (g : Nat) (i : Int) {w : World} {K : Value → World → Prop} (h : rg_int_At_m g i w K) : Rets Try.prog 117 #[.pointer (some ⟨g, 0, none⟩), .int .i64 i] w K :=
  calls_of_fw plain mixed Try.func117 (by kernel_rfl) (by rw [rg_int_At_eq]; exact h)
def rg_int_All_m (q : Option Addr) (w : World) (K : Value → World → Prop) : Prop :=
  NewR (137 : Nat) [Value.pointer q] w fun (a1 : Addr) (w1 : World) =>
  K (Value.func (Fn.func (115 : Nat)) { toList := [] } { toList := [Value.pointer (some a1)] }) w1
theorem rg_int_All_eq (q : Option Addr) (w : World) (K : Value → World → Prop) : fw Try.prog Try.f97 (annL []) (ordL []) [.pointer q] w K = rg_int_All_m q w K := by kernel_rfl
theorem rg_int_All_go (q : Option Addr) {w : World} {K : Value → World → Prop} (h : rg_int_All_m q w K) : Rets Try.prog 97 #[.pointer q] w K :=
  calls_of_fw plain mixed Try.func97 (by kernel_rfl) (by rw [rg_int_All_eq]; exact h)
def rg_int_All1_m (l b : Nat) (w : World) (K : Value → World → Prop) : Prop :=
  ∃ (q1 : Option Addr),
  cellAt w { block := b, off := (0 : Nat) } (Value.pointer q1) ∧
  Rets Try.prog (116 : Nat) { toList := [Value.pointer q1] } w fun (v1 : Value) (w1 : World) =>
  ∃ (q2 : Option Addr),
  v1 = Value.pointer q2 ∧
  Rets Try.prog (95 : Nat) { toList := [Value.pointer q2] } w1 fun (v2 : Value) (w2 : World) =>
  ∃ (n1 : Int),
  v2 = Value.int IntKind.i64 n1 ∧
  ∃ (h1 : Nat → List Value → World → Prop),
  (∃ (k1 : Nat), h1 k1 [Value.int IntKind.i64 (0 : Int)] w2) ∧
  ∀ (k2 : Nat) (w3 : World) (v3 v4 v5 : Value) (n2 : Int) (v6 v7 v8 v9 v10 v11 v12 v13 v14 v15 v16 v17 v18 v19 : Value),
  h1 k2 [Value.int IntKind.i64 n2] w3 →
  (decide (n2 < n1) = true →
  Rets Try.prog (117 : Nat) { toList := [Value.pointer q2, Value.int IntKind.i64 n2] } w3
  fun (v20 : Value) (w4 : World) =>
  ∃ (n3 : Int),
  ∃ (n4 : Int),
  ∃ (n5 : Int),
  ∃ (n6 : Int),
  ∃ (n7 : Int),
  ∃ (n8 : Int),
  ∃ (n9 : Int),
  ∃ (n10 : Int),
  ∃ (n11 : Int),
  ∃ (b1 : Bool),
  v20 =
  Value.tuple
  {
  toList :=
  [Value.agg
  {
  toList :=
  [Value.int IntKind.i64 n3, Value.int IntKind.u64 n4, Value.int IntKind.u64 n5, Value.int IntKind.i64 n6,
  Value.int IntKind.i64 n7, Value.int IntKind.i64 n8, Value.int IntKind.i64 n9, Value.int IntKind.i64 n10,
  Value.int IntKind.i64 n11] },
  Value.bool b1] } ∧
  NewR (83 : Nat)
  [Value.int IntKind.i64 (0 : Int), Value.int IntKind.u64 (0 : Int), Value.int IntKind.u64 (0 : Int),
  Value.int IntKind.i64 (0 : Int), Value.int IntKind.i64 (0 : Int), Value.int IntKind.i64 (0 : Int),
  Value.int IntKind.i64 (0 : Int), Value.int IntKind.i64 (0 : Int), Value.int IntKind.i64 (0 : Int)]
  w4 fun (a1 : Addr) (w5 : World) =>
  StoreR a1
  [Value.int IntKind.i64 n3, Value.int IntKind.u64 n4, Value.int IntKind.u64 n5, Value.int IntKind.i64 n6,
  Value.int IntKind.i64 n7, Value.int IntKind.i64 n8, Value.int IntKind.i64 n9, Value.int IntKind.i64 n10,
  Value.int IntKind.i64 n11]
  w5 fun (w6 : World) =>
  ∃ (n12 : Int),
  ∃ (n13 : Int),
  ∃ (n14 : Int),
  ∃ (n15 : Int),
  ∃ (n16 : Int),
  ∃ (n17 : Int),
  ∃ (n18 : Int),
  ∃ (n19 : Int),
  ∃ (n20 : Int),
  (cellAt w6 (Addr.add a1 (0 : Nat)) (Value.int IntKind.i64 n12) ∧
  cellAt w6 (Addr.add a1 (1 : Nat)) (Value.int IntKind.u64 n13) ∧
  cellAt w6 (Addr.add a1 (2 : Nat)) (Value.int IntKind.u64 n14) ∧
  cellAt w6 (Addr.add a1 (3 : Nat)) (Value.int IntKind.i64 n15) ∧
  cellAt w6 (Addr.add a1 (4 : Nat)) (Value.int IntKind.i64 n16) ∧
  cellAt w6 (Addr.add a1 (5 : Nat)) (Value.int IntKind.i64 n17) ∧
  cellAt w6 (Addr.add a1 (6 : Nat)) (Value.int IntKind.i64 n18) ∧
  cellAt w6 (Addr.add a1 (7 : Nat)) (Value.int IntKind.i64 n19) ∧
  cellAt w6 (Addr.add a1 (8 : Nat)) (Value.int IntKind.i64 n20)) ∧
  RoundR Try.prog l
  {
  toList :=
  [Value.int IntKind.i64 n2,
  Value.agg
  {
  toList :=
  [Value.int IntKind.i64 n12, Value.int IntKind.u64 n13, Value.int IntKind.u64 n14, Value.int IntKind.i64 n15,
  Value.int IntKind.i64 n16, Value.int IntKind.i64 n17, Value.int IntKind.i64 n18, Value.int IntKind.i64 n19,
  Value.int IntKind.i64 n20] }] }
  w6 fun (v21 : Value) (w7 : World) =>
  ∃ (b2 : Bool),
  v21 = Value.bool b2 ∧
  ((!b2) = true → K (Value.tuple { toList := [] }) w7) ∧
  ((!b2) = false →
  ∃ (k3 : Nat), k3 < k2 ∧ h1 k3 [Value.int IntKind.i64 (IntKind.wrap IntKind.i64 (n2 + (1 : Int)))] w7)) ∧
  (decide (n2 < n1) = false → K (Value.tuple { toList := [] }) w3)
theorem rg_int_All1_eq (l b : Nat) (w : World) (K : Value → World → Prop) : fw Try.prog Try.f115 (annL [(1, [(4, none), (5, none), (6, none), (11, some 3), (12, none), (13, none), (14, none), (15, none), (16, none), (17, none), (18, none), (19, none), (20, none), (21, none), (22, none), (23, none), (24, none), (25, none)])]) (ordL []) [.func (.yield l) #[] #[], .pointer (some ⟨b, 0, none⟩)] w K = rg_int_All1_m l b w K := by kernel_rfl
theorem rg_int_All1_go (l b : Nat) {w : World} {K : Value → World → Prop} (h : rg_int_All1_m l b w K) : Rets Try.prog 115 #[.func (.yield l) #[] #[], .pointer (some ⟨b, 0, none⟩)] w K :=
  calls_of_fw plain mixed Try.func115 (by kernel_rfl) (by rw [rg_int_All1_eq]; exact h)
def rg_int_grow_m (g : Nat) (w : World) (K : Value → World → Prop) : Prop :=
  Drw w fun (w1 : World) =>
  ∃ (n1 : Int),
  cellAt w1 (Addr.add { block := g, off := (0 : Nat) } (2 : Nat)) (Value.int IntKind.i64 n1) ∧
  ∃ (q1 : Option Addr),
  ∃ (k1 : Nat),
  ∃ (k2 : Nat),
  cellAt w1 (Addr.add { block := g, off := (0 : Nat) } (0 : Nat)) (Value.slice q1 k1 k2) ∧
  (decide (n1 < (↑k1 : Int)) = true → K (Value.tuple { toList := [] }) w1) ∧
  (decide (n1 < (↑k1 : Int)) = false →
  ∃ (n2 : Int),
  cellAt w1 (Addr.add { block := g, off := (0 : Nat) } (2 : Nat)) (Value.int IntKind.i64 n2) ∧
  MakeR (83 : Nat)
  [Value.int IntKind.i64 (0 : Int), Value.int IntKind.u64 (0 : Int), Value.int IntKind.u64 (0 : Int),
  Value.int IntKind.i64 (0 : Int), Value.int IntKind.i64 (0 : Int), Value.int IntKind.i64 (0 : Int),
  Value.int IntKind.i64 (0 : Int), Value.int IntKind.i64 (0 : Int), Value.int IntKind.i64 (0 : Int)]
  (72 : Nat) (0 : Int) n2 w1 fun (a1 : Addr) (w2 : World) =>
  NewR (163 : Nat) [Value.slice none (0 : Nat) (0 : Nat)] w2 fun (a2 : Addr) (w3 : World) =>
  StoreR a2 [Value.slice (some a1) (0 : Nat) (Int.toNat n2)] w3 fun (w4 : World) =>
  Rets Try.prog (97 : Nat) { toList := [Value.pointer (some { block := g, off := (0 : Nat) })] } w4
  fun (v1 : Value) (w5 : World) =>
  ∃ (k3 : Nat),
  ∃ (a3 : Array Value),
  ∃ (c1 : Array Value),
  v1 = Value.func (Fn.func k3) a3 c1 ∧
  ∃ (v2 : Value),
  Value.func (Fn.func k3) a3 c1 = Value.func (Fn.func (115 : Nat)) { toList := [] } { toList := [v2] } ∧
  LoopR w5 fun (k4 k5 : Nat) (L1 : Loop) (w6 : World) =>
  (∀ (n3 n4 n5 n6 n7 n8 n9 n10 n11 n12 : Int) (w7 : World) (h1 : Value → World → Prop),
  RecR k5 L1 w7 →
  (NewR (83 : Nat)
  [Value.int IntKind.i64 (0 : Int), Value.int IntKind.u64 (0 : Int), Value.int IntKind.u64 (0 : Int),
  Value.int IntKind.i64 (0 : Int), Value.int IntKind.i64 (0 : Int), Value.int IntKind.i64 (0 : Int),
  Value.int IntKind.i64 (0 : Int), Value.int IntKind.i64 (0 : Int), Value.int IntKind.i64 (0 : Int)]
  w7 fun (a4 : Addr) (w8 : World) =>
  StoreR a4
  [Value.int IntKind.i64 n4, Value.int IntKind.u64 n5, Value.int IntKind.u64 n6, Value.int IntKind.i64 n7,
  Value.int IntKind.i64 n8, Value.int IntKind.i64 n9, Value.int IntKind.i64 n10, Value.int IntKind.i64 n11,
  Value.int IntKind.i64 n12]
  w8 fun (w9 : World) =>
  BegR k5 L1 w9 fun (w10 : World) =>
  ∃ (q2 : Option Addr),
  ∃ (k6 : Nat),
  ∃ (k7 : Nat),
  cellAt w10 a2 (Value.slice q2 k6 k7) ∧
  ∃ (n13 : Int),
  ∃ (n14 : Int),
  ∃ (n15 : Int),
  ∃ (n16 : Int),
  ∃ (n17 : Int),
  ∃ (n18 : Int),
  ∃ (n19 : Int),
  ∃ (n20 : Int),
  ∃ (n21 : Int),
  (cellAt w10 (Addr.add a4 (0 : Nat)) (Value.int IntKind.i64 n13) ∧
  cellAt w10 (Addr.add a4 (1 : Nat)) (Value.int IntKind.u64 n14) ∧
  cellAt w10 (Addr.add a4 (2 : Nat)) (Value.int IntKind.u64 n15) ∧
  cellAt w10 (Addr.add a4 (3 : Nat)) (Value.int IntKind.i64 n16) ∧
  cellAt w10 (Addr.add a4 (4 : Nat)) (Value.int IntKind.i64 n17) ∧
  cellAt w10 (Addr.add a4 (5 : Nat)) (Value.int IntKind.i64 n18) ∧
  cellAt w10 (Addr.add a4 (6 : Nat)) (Value.int IntKind.i64 n19) ∧
  cellAt w10 (Addr.add a4 (7 : Nat)) (Value.int IntKind.i64 n20) ∧
  cellAt w10 (Addr.add a4 (8 : Nat)) (Value.int IntKind.i64 n21)) ∧
  NewR (83 : Nat)
  [Value.int IntKind.i64 n13, Value.int IntKind.u64 n14, Value.int IntKind.u64 n15, Value.int IntKind.i64 n16,
  Value.int IntKind.i64 n17, Value.int IntKind.i64 n18, Value.int IntKind.i64 n19, Value.int IntKind.i64 n20,
  Value.int IntKind.i64 n21]
  w10 fun (a5 : Addr) (w11 : World) =>
  RunR Try.prog
  (builtinV Builtin.append { toList := [(163 : Nat), (163 : Nat)] } (nat_lit 163)
  { toList := [Value.slice q2 k6 k7, Value.slice (some a5) (1 : Nat) (1 : Nat)] })
  w11 fun (v3 : Value) (w12 : World) =>
  ∃ (q3 : Option Addr),
  ∃ (k8 : Nat),
  ∃ (k9 : Nat),
  v3 = Value.slice q3 k8 k9 ∧
  StoreR a2 [Value.slice q3 k8 k9] w12 fun (w13 : World) =>
  FinR k5 L1 none w13 fun (w14 : World) => h1 (Value.bool true) w14) →
  RoundR Try.prog k5
  {
  toList :=
  [Value.int IntKind.i64 n3,
  Value.agg
  {
  toList :=
  [Value.int IntKind.i64 n4, Value.int IntKind.u64 n5, Value.int IntKind.u64 n6, Value.int IntKind.i64 n7,
  Value.int IntKind.i64 n8, Value.int IntKind.i64 n9, Value.int IntKind.i64 n10, Value.int IntKind.i64 n11,
  Value.int IntKind.i64 n12] }] }
  w7 h1) →
  Rets Try.prog (115 : Nat) { toList := [Value.func (Fn.yield k5) { toList := [] } { toList := [] }, v2] } w6
  fun (v4 : Value) (w15 : World) =>
  EndR k5 L1 none w15 fun (w16 : World) =>
  Drw w16 fun (w17 : World) =>
  ∃ (n22 : Int),
  cellAt w17 (Addr.add { block := g, off := (0 : Nat) } (3 : Nat)) (Value.int IntKind.i64 n22) ∧
  ∃ (n23 : Int),
  cellAt w17 (Addr.add { block := g, off := (0 : Nat) } (2 : Nat)) (Value.int IntKind.i64 n23) ∧
  MakeR (83 : Nat)
  [Value.int IntKind.i64 (0 : Int), Value.int IntKind.u64 (0 : Int), Value.int IntKind.u64 (0 : Int),
  Value.int IntKind.i64 (0 : Int), Value.int IntKind.i64 (0 : Int), Value.int IntKind.i64 (0 : Int),
  Value.int IntKind.i64 (0 : Int), Value.int IntKind.i64 (0 : Int), Value.int IntKind.i64 (0 : Int)]
  (72 : Nat) (minI n22 (maxI (4 : Int) (IntKind.wrap IntKind.i64 ((2 : Int) * n23))))
  (minI n22 (maxI (4 : Int) (IntKind.wrap IntKind.i64 ((2 : Int) * n23)))) w17 fun (a6 : Addr) (w18 : World) =>
  ∃ (q4 : Option Addr),
  ∃ (k10 : Nat),
  ∃ (k11 : Nat),
  cellAt w18 a2 (Value.slice q4 k10 k11) ∧
  RunR Try.prog
  (builtinV Builtin.copy { toList := [(163 : Nat), (163 : Nat)] } (nat_lit 3)
  {
  toList :=
  [Value.slice (some a6) (Int.toNat (minI n22 (maxI (4 : Int) (IntKind.wrap IntKind.i64 ((2 : Int) * n23)))))
  (Int.toNat (minI n22 (maxI (4 : Int) (IntKind.wrap IntKind.i64 ((2 : Int) * n23))))),
  Value.slice q4 k10 k11] })
  w18 fun (v5 : Value) (w19 : World) =>
  ∃ (n24 : Int),
  v5 = Value.int IntKind.i64 n24 ∧
  StoreR (Addr.add { block := g, off := (0 : Nat) } (0 : Nat))
  [Value.slice (some a6) (Int.toNat (minI n22 (maxI (4 : Int) (IntKind.wrap IntKind.i64 ((2 : Int) * n23)))))
  (Int.toNat (minI n22 (maxI (4 : Int) (IntKind.wrap IntKind.i64 ((2 : Int) * n23)))))]
  w19 fun (w20 : World) =>
  StoreR (Addr.add { block := g, off := (0 : Nat) } (1 : Nat)) [Value.int IntKind.i64 (0 : Int)] w20 fun (w21 : World) =>
  MarkR k4 w21 fun (w22 : World) => K (Value.tuple { toList := [] }) w22)
theorem rg_int_grow_eq (g : Nat) (w : World) (K : Value → World → Prop) : fw Try.prog Try.f114 (annL [(2, [(23, some 3), (24, some 83)])]) (ordL [(0, [(0, 0), (1, 0), (2, 0), (4, 0), (5, 0), (6, 0), (3, 1), (7, 1), (8, 0), (9, 0)]), (1000002, [(115, 1)]), (5, [(0, 0), (1, 0), (2, 0), (4, 0), (5, 0), (6, 0), (3, 1), (7, 1), (8, 0), (9, 0), (10, 0), (11, 3), (12, 0)])]) [.pointer (some ⟨g, 0, none⟩)] w K = rg_int_grow_m g w K := by kernel_rfl
theorem rg_int_grow_go (g : Nat) {w : World} {K : Value → World → Prop} (h : rg_int_grow_m g w K) : Rets Try.prog 114 #[.pointer (some ⟨g, 0, none⟩)] w K :=
  calls_of_fw plain mixed Try.func114 (by kernel_rfl) (by rw [rg_int_grow_eq]; exact h)
def rg_int_Send_m (g : Nat) (k p c v n e o u d : Int) (w : World) (K : Value → World → Prop) : Prop :=
  NewR (83 : Nat)
  [Value.int IntKind.i64 k, Value.int IntKind.u64 p, Value.int IntKind.u64 c, Value.int IntKind.i64 v,
  Value.int IntKind.i64 n, Value.int IntKind.i64 e, Value.int IntKind.i64 o, Value.int IntKind.i64 u,
  Value.int IntKind.i64 d]
  w fun (a1 : Addr) (w1 : World) =>
  Drw w1 fun (w2 : World) =>
  (false = false →
  ∃ (n1 : Int),
  cellAt w2 (Addr.add { block := g, off := (0 : Nat) } (2 : Nat)) (Value.int IntKind.i64 n1) ∧
  ∃ (n2 : Int),
  cellAt w2 (Addr.add { block := g, off := (0 : Nat) } (3 : Nat)) (Value.int IntKind.i64 n2) ∧
  (decide (n1 ≥ n2) = true → K (Value.bool false) w2) ∧
  (decide (n1 ≥ n2) = false →
  Rets Try.prog (114 : Nat) { toList := [Value.pointer (some { block := g, off := (0 : Nat) })] } w2
  fun (v1 : Value) (w3 : World) =>
  v1 = Value.tuple { toList := [] } ∧
  Drw w3 fun (w4 : World) =>
  ∃ (h1 : World → Prop),
  h1 w4 ∧
  ∃ (q1 : Option Addr),
  ∃ (k1 : Nat),
  ∃ (k2 : Nat),
  (∀ (w5 : World),
  h1 w5 → World.cell? w5 (Addr.add { block := g, off := (0 : Nat) } (0 : Nat)) = some (Value.slice q1 k1 k2)) ∧
  ∃ (n3 : Int),
  (∀ (w6 : World),
  h1 w6 → World.cell? w6 (Addr.add { block := g, off := (0 : Nat) } (2 : Nat)) = some (Value.int IntKind.i64 n3)) ∧
  ∃ (n4 : Int),
  ∃ (n5 : Int),
  ∃ (n6 : Int),
  ∃ (n7 : Int),
  ∃ (n8 : Int),
  ∃ (n9 : Int),
  ∃ (n10 : Int),
  ∃ (n11 : Int),
  ∃ (n12 : Int),
  ((∀ (w7 : World), h1 w7 → World.cell? w7 (Addr.add a1 (0 : Nat)) = some (Value.int IntKind.i64 n4)) ∧
  (∀ (w8 : World), h1 w8 → World.cell? w8 (Addr.add a1 ((0 : Nat) + (1 : Nat))) = some (Value.int IntKind.u64 n5)) ∧
  (∀ (w9 : World),
  h1 w9 → World.cell? w9 (Addr.add a1 ((0 : Nat) + (1 : Nat) + (1 : Nat))) = some (Value.int IntKind.u64 n6)) ∧
  (∀ (w10 : World),
  h1 w10 →
  World.cell? w10 (Addr.add a1 ((0 : Nat) + (1 : Nat) + (1 : Nat) + (1 : Nat))) = some (Value.int IntKind.i64 n7)) ∧
  (∀ (w11 : World),
  h1 w11 →
  World.cell? w11 (Addr.add a1 ((0 : Nat) + (1 : Nat) + (1 : Nat) + (1 : Nat) + (1 : Nat))) =
  some (Value.int IntKind.i64 n8)) ∧
  (∀ (w12 : World),
  h1 w12 →
  World.cell? w12 (Addr.add a1 ((0 : Nat) + (1 : Nat) + (1 : Nat) + (1 : Nat) + (1 : Nat) + (1 : Nat))) =
  some (Value.int IntKind.i64 n9)) ∧
  (∀ (w13 : World),
  h1 w13 →
  World.cell? w13 (Addr.add a1 ((0 : Nat) + (1 : Nat) + (1 : Nat) + (1 : Nat) + (1 : Nat) + (1 : Nat) + (1 : Nat))) =
  some (Value.int IntKind.i64 n10)) ∧
  (∀ (w14 : World),
  h1 w14 →
  World.cell? w14
  (Addr.add a1 ((0 : Nat) + (1 : Nat) + (1 : Nat) + (1 : Nat) + (1 : Nat) + (1 : Nat) + (1 : Nat) + (1 : Nat))) =
  some (Value.int IntKind.i64 n11)) ∧
  ∀ (w15 : World),
  h1 w15 →
  World.cell? w15
  (Addr.add a1
  ((0 : Nat) + (1 : Nat) + (1 : Nat) + (1 : Nat) + (1 : Nat) + (1 : Nat) + (1 : Nat) + (1 : Nat) + (1 : Nat))) =
  some (Value.int IntKind.i64 n12)) ∧
  Rets Try.prog (113 : Nat)
  { toList := [Value.pointer (some { block := g, off := (0 : Nat) }), Value.int IntKind.i64 n3] } w4
  fun (v2 : Value) (w16 : World) =>
  ∃ (n13 : Int),
  v2 = Value.int IntKind.i64 n13 ∧
  h1 w16 ∧
  (0 : Int) ≤ n13 ∧
  n13 < (↑k1 : Int) ∧
  someR q1 fun (a2 : Addr) =>
  StoreR (Addr.add a2 (Int.toNat n13 * (9 : Nat)))
  [Value.int IntKind.i64 n4, Value.int IntKind.u64 n5, Value.int IntKind.u64 n6, Value.int IntKind.i64 n7,
  Value.int IntKind.i64 n8, Value.int IntKind.i64 n9, Value.int IntKind.i64 n10, Value.int IntKind.i64 n11,
  Value.int IntKind.i64 n12]
  w16 fun (w17 : World) =>
  ∃ (n14 : Int),
  cellAt w17 (Addr.add { block := g, off := (0 : Nat) } (2 : Nat)) (Value.int IntKind.i64 n14) ∧
  StoreR (Addr.add { block := g, off := (0 : Nat) } (2 : Nat))
  [Value.int IntKind.i64 (IntKind.wrap IntKind.i64 (n14 + (1 : Int)))] w17 fun (w18 : World) =>
  K (Value.bool true) w18)) ∧
  (false = true → K (Value.bool false) w2)
theorem rg_int_Send_eq (g : Nat) (k p c v n e o u d : Int) (w : World) (K : Value → World → Prop) : fw Try.prog Try.f94 (annL []) (ordL [(1, [(0, 0), (1, 0), (2, 0), (3, 0), (4, 0), (5, 0), (7, 0), (8, 0), (9, 0), (6, 1), (10, 1), (11, 0), (12, 0)]), (4, [(0, 0), (1, 0), (2, 0), (4, 0), (5, 0), (6, 0), (7, 0), (3, 1), (8, 1), (10, 1), (9, 2), (11, 0), (12, 3)])]) [.pointer (some ⟨g, 0, none⟩), .agg #[.int .i64 k, .int .u64 p, .int .u64 c, .int .i64 v, .int .i64 n, .int .i64 e, .int .i64 o, .int .i64 u, .int .i64 d]] w K = rg_int_Send_m g k p c v n e o u d w K := by kernel_rfl
theorem rg_int_Send_go (g : Nat) (k p c v n e o u d : Int) {w : World} {K : Value → World → Prop} (h : rg_int_Send_m g k p c v n e o u d w K) : Rets Try.prog 94 #[.pointer (some ⟨g, 0, none⟩), .agg #[.int .i64 k, .int .u64 p, .int .u64 c, .int .i64 v, .int .i64 n, .int .i64 e, .int .i64 o, .int .i64 u, .int .i64 d]] w K :=
  calls_of_fw plain mixed Try.func94 (by kernel_rfl) (by rw [rg_int_Send_eq]; exact h)
def rg_int_Take_m (g : Nat) (w : World) (K : Value → World → Prop) : Prop :=
  NewR (83 : Nat)
  [Value.int IntKind.i64 (0 : Int), Value.int IntKind.u64 (0 : Int), Value.int IntKind.u64 (0 : Int),
  Value.int IntKind.i64 (0 : Int), Value.int IntKind.i64 (0 : Int), Value.int IntKind.i64 (0 : Int),
  Value.int IntKind.i64 (0 : Int), Value.int IntKind.i64 (0 : Int), Value.int IntKind.i64 (0 : Int)]
  w fun (a1 : Addr) (w1 : World) =>
  (false = false →
  ∃ (n1 : Int),
  cellAt w1 (Addr.add { block := g, off := (0 : Nat) } (2 : Nat)) (Value.int IntKind.i64 n1) ∧
  ((n1 == (0 : Int)) = true →
  ∃ (n2 : Int),
  ∃ (n3 : Int),
  ∃ (n4 : Int),
  ∃ (n5 : Int),
  ∃ (n6 : Int),
  ∃ (n7 : Int),
  ∃ (n8 : Int),
  ∃ (n9 : Int),
  ∃ (n10 : Int),
  (cellAt w1 (Addr.add a1 (0 : Nat)) (Value.int IntKind.i64 n2) ∧
  cellAt w1 (Addr.add a1 (1 : Nat)) (Value.int IntKind.u64 n3) ∧
  cellAt w1 (Addr.add a1 (2 : Nat)) (Value.int IntKind.u64 n4) ∧
  cellAt w1 (Addr.add a1 (3 : Nat)) (Value.int IntKind.i64 n5) ∧
  cellAt w1 (Addr.add a1 (4 : Nat)) (Value.int IntKind.i64 n6) ∧
  cellAt w1 (Addr.add a1 (5 : Nat)) (Value.int IntKind.i64 n7) ∧
  cellAt w1 (Addr.add a1 (6 : Nat)) (Value.int IntKind.i64 n8) ∧
  cellAt w1 (Addr.add a1 (7 : Nat)) (Value.int IntKind.i64 n9) ∧
  cellAt w1 (Addr.add a1 (8 : Nat)) (Value.int IntKind.i64 n10)) ∧
  StoreR a1
  [Value.int IntKind.i64 n2, Value.int IntKind.u64 n3, Value.int IntKind.u64 n4, Value.int IntKind.i64 n5,
  Value.int IntKind.i64 n6, Value.int IntKind.i64 n7, Value.int IntKind.i64 n8, Value.int IntKind.i64 n9,
  Value.int IntKind.i64 n10]
  w1 fun (w2 : World) =>
  ∃ (n11 : Int),
  ∃ (n12 : Int),
  ∃ (n13 : Int),
  ∃ (n14 : Int),
  ∃ (n15 : Int),
  ∃ (n16 : Int),
  ∃ (n17 : Int),
  ∃ (n18 : Int),
  ∃ (n19 : Int),
  (cellAt w2 (Addr.add a1 (0 : Nat)) (Value.int IntKind.i64 n11) ∧
  cellAt w2 (Addr.add a1 (1 : Nat)) (Value.int IntKind.u64 n12) ∧
  cellAt w2 (Addr.add a1 (2 : Nat)) (Value.int IntKind.u64 n13) ∧
  cellAt w2 (Addr.add a1 (3 : Nat)) (Value.int IntKind.i64 n14) ∧
  cellAt w2 (Addr.add a1 (4 : Nat)) (Value.int IntKind.i64 n15) ∧
  cellAt w2 (Addr.add a1 (5 : Nat)) (Value.int IntKind.i64 n16) ∧
  cellAt w2 (Addr.add a1 (6 : Nat)) (Value.int IntKind.i64 n17) ∧
  cellAt w2 (Addr.add a1 (7 : Nat)) (Value.int IntKind.i64 n18) ∧
  cellAt w2 (Addr.add a1 (8 : Nat)) (Value.int IntKind.i64 n19)) ∧
  K
  (Value.tuple
  {
  toList :=
  [Value.agg
  {
  toList :=
  [Value.int IntKind.i64 n11, Value.int IntKind.u64 n12, Value.int IntKind.u64 n13, Value.int IntKind.i64 n14,
  Value.int IntKind.i64 n15, Value.int IntKind.i64 n16, Value.int IntKind.i64 n17, Value.int IntKind.i64 n18,
  Value.int IntKind.i64 n19] },
  Value.bool false] })
  w2) ∧
  ((n1 == (0 : Int)) = false →
  NewR (83 : Nat)
  [Value.int IntKind.i64 (0 : Int), Value.int IntKind.u64 (0 : Int), Value.int IntKind.u64 (0 : Int),
  Value.int IntKind.i64 (0 : Int), Value.int IntKind.i64 (0 : Int), Value.int IntKind.i64 (0 : Int),
  Value.int IntKind.i64 (0 : Int), Value.int IntKind.i64 (0 : Int), Value.int IntKind.i64 (0 : Int)]
  w1 fun (a2 : Addr) (w3 : World) =>
  Drw w3 fun (w4 : World) =>
  ∃ (h1 : World → Prop),
  h1 w4 ∧
  ∃ (q1 : Option Addr),
  ∃ (k1 : Nat),
  ∃ (k2 : Nat),
  (∀ (w5 : World),
  h1 w5 → World.cell? w5 (Addr.add { block := g, off := (0 : Nat) } (0 : Nat)) = some (Value.slice q1 k1 k2)) ∧
  ∃ (n20 : Int),
  (∀ (w6 : World),
  h1 w6 → World.cell? w6 (Addr.add { block := g, off := (0 : Nat) } (1 : Nat)) = some (Value.int IntKind.i64 n20)) ∧
  ∃ (q2 : Option Addr),
  ∃ (k3 : Nat),
  ∃ (k4 : Nat),
  (∀ (w7 : World),
  h1 w7 → World.cell? w7 (Addr.add { block := g, off := (0 : Nat) } (0 : Nat)) = some (Value.slice q2 k3 k4)) ∧
  ∃ (n21 : Int),
  (∀ (w8 : World),
  h1 w8 → World.cell? w8 (Addr.add { block := g, off := (0 : Nat) } (1 : Nat)) = some (Value.int IntKind.i64 n21)) ∧
  (0 : Int) ≤ n21 ∧
  n21 < (↑k3 : Int) ∧
  someR q2 fun (a3 : Addr) =>
  ∃ (n22 : Int),
  ∃ (n23 : Int),
  ∃ (n24 : Int),
  ∃ (n25 : Int),
  ∃ (n26 : Int),
  ∃ (n27 : Int),
  ∃ (n28 : Int),
  ∃ (n29 : Int),
  ∃ (n30 : Int),
  ((∀ (w9 : World),
  h1 w9 →
  World.cell? w9 (Addr.add (Addr.add a3 (Int.toNat n21 * (9 : Nat))) (0 : Nat)) = some (Value.int IntKind.i64 n22)) ∧
  (∀ (w10 : World),
  h1 w10 →
  World.cell? w10 (Addr.add (Addr.add a3 (Int.toNat n21 * (9 : Nat))) ((0 : Nat) + (1 : Nat))) =
  some (Value.int IntKind.u64 n23)) ∧
  (∀ (w11 : World),
  h1 w11 →
  World.cell? w11 (Addr.add (Addr.add a3 (Int.toNat n21 * (9 : Nat))) ((0 : Nat) + (1 : Nat) + (1 : Nat))) =
  some (Value.int IntKind.u64 n24)) ∧
  (∀ (w12 : World),
  h1 w12 →
  World.cell? w12 (Addr.add (Addr.add a3 (Int.toNat n21 * (9 : Nat))) ((0 : Nat) + (1 : Nat) + (1 : Nat) + (1 : Nat))) =
  some (Value.int IntKind.i64 n25)) ∧
  (∀ (w13 : World),
  h1 w13 →
  World.cell? w13
  (Addr.add (Addr.add a3 (Int.toNat n21 * (9 : Nat))) ((0 : Nat) + (1 : Nat) + (1 : Nat) + (1 : Nat) + (1 : Nat))) =
  some (Value.int IntKind.i64 n26)) ∧
  (∀ (w14 : World),
  h1 w14 →
  World.cell? w14
  (Addr.add (Addr.add a3 (Int.toNat n21 * (9 : Nat)))
  ((0 : Nat) + (1 : Nat) + (1 : Nat) + (1 : Nat) + (1 : Nat) + (1 : Nat))) =
  some (Value.int IntKind.i64 n27)) ∧
  (∀ (w15 : World),
  h1 w15 →
  World.cell? w15
  (Addr.add (Addr.add a3 (Int.toNat n21 * (9 : Nat)))
  ((0 : Nat) + (1 : Nat) + (1 : Nat) + (1 : Nat) + (1 : Nat) + (1 : Nat) + (1 : Nat))) =
  some (Value.int IntKind.i64 n28)) ∧
  (∀ (w16 : World),
  h1 w16 →
  World.cell? w16
  (Addr.add (Addr.add a3 (Int.toNat n21 * (9 : Nat)))
  ((0 : Nat) + (1 : Nat) + (1 : Nat) + (1 : Nat) + (1 : Nat) + (1 : Nat) + (1 : Nat) + (1 : Nat))) =
  some (Value.int IntKind.i64 n29)) ∧
  ∀ (w17 : World),
  h1 w17 →
  World.cell? w17
  (Addr.add (Addr.add a3 (Int.toNat n21 * (9 : Nat)))
  ((0 : Nat) + (1 : Nat) + (1 : Nat) + (1 : Nat) + (1 : Nat) + (1 : Nat) + (1 : Nat) + (1 : Nat) + (1 : Nat))) =
  some (Value.int IntKind.i64 n30)) ∧
  ∃ (n31 : Int),
  ∃ (n32 : Int),
  ∃ (n33 : Int),
  ∃ (n34 : Int),
  ∃ (n35 : Int),
  ∃ (n36 : Int),
  ∃ (n37 : Int),
  ∃ (n38 : Int),
  ∃ (n39 : Int),
  ((∀ (w18 : World), h1 w18 → World.cell? w18 (Addr.add a2 (0 : Nat)) = some (Value.int IntKind.i64 n31)) ∧
  (∀ (w19 : World), h1 w19 → World.cell? w19 (Addr.add a2 ((0 : Nat) + (1 : Nat))) = some (Value.int IntKind.u64 n32)) ∧
  (∀ (w20 : World),
  h1 w20 → World.cell? w20 (Addr.add a2 ((0 : Nat) + (1 : Nat) + (1 : Nat))) = some (Value.int IntKind.u64 n33)) ∧
  (∀ (w21 : World),
  h1 w21 →
  World.cell? w21 (Addr.add a2 ((0 : Nat) + (1 : Nat) + (1 : Nat) + (1 : Nat))) = some (Value.int IntKind.i64 n34)) ∧
  (∀ (w22 : World),
  h1 w22 →
  World.cell? w22 (Addr.add a2 ((0 : Nat) + (1 : Nat) + (1 : Nat) + (1 : Nat) + (1 : Nat))) =
  some (Value.int IntKind.i64 n35)) ∧
  (∀ (w23 : World),
  h1 w23 →
  World.cell? w23 (Addr.add a2 ((0 : Nat) + (1 : Nat) + (1 : Nat) + (1 : Nat) + (1 : Nat) + (1 : Nat))) =
  some (Value.int IntKind.i64 n36)) ∧
  (∀ (w24 : World),
  h1 w24 →
  World.cell? w24 (Addr.add a2 ((0 : Nat) + (1 : Nat) + (1 : Nat) + (1 : Nat) + (1 : Nat) + (1 : Nat) + (1 : Nat))) =
  some (Value.int IntKind.i64 n37)) ∧
  (∀ (w25 : World),
  h1 w25 →
  World.cell? w25
  (Addr.add a2 ((0 : Nat) + (1 : Nat) + (1 : Nat) + (1 : Nat) + (1 : Nat) + (1 : Nat) + (1 : Nat) + (1 : Nat))) =
  some (Value.int IntKind.i64 n38)) ∧
  ∀ (w26 : World),
  h1 w26 →
  World.cell? w26
  (Addr.add a2
  ((0 : Nat) + (1 : Nat) + (1 : Nat) + (1 : Nat) + (1 : Nat) + (1 : Nat) + (1 : Nat) + (1 : Nat) + (1 : Nat))) =
  some (Value.int IntKind.i64 n39)) ∧
  StoreR a1
  [Value.int IntKind.i64 n22, Value.int IntKind.u64 n23, Value.int IntKind.u64 n24, Value.int IntKind.i64 n25,
  Value.int IntKind.i64 n26, Value.int IntKind.i64 n27, Value.int IntKind.i64 n28, Value.int IntKind.i64 n29,
  Value.int IntKind.i64 n30]
  w4 fun (w27 : World) =>
  h1 w27 ∧
  (0 : Int) ≤ n20 ∧
  n20 < (↑k1 : Int) ∧
  someR q1 fun (a4 : Addr) =>
  StoreR (Addr.add a4 (Int.toNat n20 * (9 : Nat)))
  [Value.int IntKind.i64 n31, Value.int IntKind.u64 n32, Value.int IntKind.u64 n33, Value.int IntKind.i64 n34,
  Value.int IntKind.i64 n35, Value.int IntKind.i64 n36, Value.int IntKind.i64 n37, Value.int IntKind.i64 n38,
  Value.int IntKind.i64 n39]
  w27 fun (w28 : World) =>
  Drw w28 fun (w29 : World) =>
  ∃ (h2 : World → Prop),
  h2 w29 ∧
  ∃ (n40 : Int),
  (∀ (w30 : World),
  h2 w30 → World.cell? w30 (Addr.add { block := g, off := (0 : Nat) } (2 : Nat)) = some (Value.int IntKind.i64 n40)) ∧
  Rets Try.prog (113 : Nat)
  { toList := [Value.pointer (some { block := g, off := (0 : Nat) }), Value.int IntKind.i64 (1 : Int)] } w29
  fun (v1 : Value) (w31 : World) =>
  ∃ (n41 : Int),
  v1 = Value.int IntKind.i64 n41 ∧
  h2 w31 ∧
  StoreR (Addr.add { block := g, off := (0 : Nat) } (1 : Nat)) [Value.int IntKind.i64 n41] w31 fun (w32 : World) =>
  StoreR (Addr.add { block := g, off := (0 : Nat) } (2 : Nat))
  [Value.int IntKind.i64 (IntKind.wrap IntKind.i64 (n40 - (1 : Int)))] w32 fun (w33 : World) =>
  ∃ (n42 : Int),
  ∃ (n43 : Int),
  ∃ (n44 : Int),
  ∃ (n45 : Int),
  ∃ (n46 : Int),
  ∃ (n47 : Int),
  ∃ (n48 : Int),
  ∃ (n49 : Int),
  ∃ (n50 : Int),
  (cellAt w33 (Addr.add a1 (0 : Nat)) (Value.int IntKind.i64 n42) ∧
  cellAt w33 (Addr.add a1 (1 : Nat)) (Value.int IntKind.u64 n43) ∧
  cellAt w33 (Addr.add a1 (2 : Nat)) (Value.int IntKind.u64 n44) ∧
  cellAt w33 (Addr.add a1 (3 : Nat)) (Value.int IntKind.i64 n45) ∧
  cellAt w33 (Addr.add a1 (4 : Nat)) (Value.int IntKind.i64 n46) ∧
  cellAt w33 (Addr.add a1 (5 : Nat)) (Value.int IntKind.i64 n47) ∧
  cellAt w33 (Addr.add a1 (6 : Nat)) (Value.int IntKind.i64 n48) ∧
  cellAt w33 (Addr.add a1 (7 : Nat)) (Value.int IntKind.i64 n49) ∧
  cellAt w33 (Addr.add a1 (8 : Nat)) (Value.int IntKind.i64 n50)) ∧
  StoreR a1
  [Value.int IntKind.i64 n42, Value.int IntKind.u64 n43, Value.int IntKind.u64 n44, Value.int IntKind.i64 n45,
  Value.int IntKind.i64 n46, Value.int IntKind.i64 n47, Value.int IntKind.i64 n48, Value.int IntKind.i64 n49,
  Value.int IntKind.i64 n50]
  w33 fun (w34 : World) =>
  ∃ (n51 : Int),
  ∃ (n52 : Int),
  ∃ (n53 : Int),
  ∃ (n54 : Int),
  ∃ (n55 : Int),
  ∃ (n56 : Int),
  ∃ (n57 : Int),
  ∃ (n58 : Int),
  ∃ (n59 : Int),
  (cellAt w34 (Addr.add a1 (0 : Nat)) (Value.int IntKind.i64 n51) ∧
  cellAt w34 (Addr.add a1 (1 : Nat)) (Value.int IntKind.u64 n52) ∧
  cellAt w34 (Addr.add a1 (2 : Nat)) (Value.int IntKind.u64 n53) ∧
  cellAt w34 (Addr.add a1 (3 : Nat)) (Value.int IntKind.i64 n54) ∧
  cellAt w34 (Addr.add a1 (4 : Nat)) (Value.int IntKind.i64 n55) ∧
  cellAt w34 (Addr.add a1 (5 : Nat)) (Value.int IntKind.i64 n56) ∧
  cellAt w34 (Addr.add a1 (6 : Nat)) (Value.int IntKind.i64 n57) ∧
  cellAt w34 (Addr.add a1 (7 : Nat)) (Value.int IntKind.i64 n58) ∧
  cellAt w34 (Addr.add a1 (8 : Nat)) (Value.int IntKind.i64 n59)) ∧
  K
  (Value.tuple
  {
  toList :=
  [Value.agg
  {
  toList :=
  [Value.int IntKind.i64 n51, Value.int IntKind.u64 n52, Value.int IntKind.u64 n53, Value.int IntKind.i64 n54,
  Value.int IntKind.i64 n55, Value.int IntKind.i64 n56, Value.int IntKind.i64 n57, Value.int IntKind.i64 n58,
  Value.int IntKind.i64 n59] },
  Value.bool true] })
  w34)) ∧
  (false = true →
  ∃ (n60 : Int),
  ∃ (n61 : Int),
  ∃ (n62 : Int),
  ∃ (n63 : Int),
  ∃ (n64 : Int),
  ∃ (n65 : Int),
  ∃ (n66 : Int),
  ∃ (n67 : Int),
  ∃ (n68 : Int),
  (cellAt w1 (Addr.add a1 (0 : Nat)) (Value.int IntKind.i64 n60) ∧
  cellAt w1 (Addr.add a1 (1 : Nat)) (Value.int IntKind.u64 n61) ∧
  cellAt w1 (Addr.add a1 (2 : Nat)) (Value.int IntKind.u64 n62) ∧
  cellAt w1 (Addr.add a1 (3 : Nat)) (Value.int IntKind.i64 n63) ∧
  cellAt w1 (Addr.add a1 (4 : Nat)) (Value.int IntKind.i64 n64) ∧
  cellAt w1 (Addr.add a1 (5 : Nat)) (Value.int IntKind.i64 n65) ∧
  cellAt w1 (Addr.add a1 (6 : Nat)) (Value.int IntKind.i64 n66) ∧
  cellAt w1 (Addr.add a1 (7 : Nat)) (Value.int IntKind.i64 n67) ∧
  cellAt w1 (Addr.add a1 (8 : Nat)) (Value.int IntKind.i64 n68)) ∧
  StoreR a1
  [Value.int IntKind.i64 n60, Value.int IntKind.u64 n61, Value.int IntKind.u64 n62, Value.int IntKind.i64 n63,
  Value.int IntKind.i64 n64, Value.int IntKind.i64 n65, Value.int IntKind.i64 n66, Value.int IntKind.i64 n67,
  Value.int IntKind.i64 n68]
  w1 fun (w35 : World) =>
  ∃ (n69 : Int),
  ∃ (n70 : Int),
  ∃ (n71 : Int),
  ∃ (n72 : Int),
  ∃ (n73 : Int),
  ∃ (n74 : Int),
  ∃ (n75 : Int),
  ∃ (n76 : Int),
  ∃ (n77 : Int),
  (cellAt w35 (Addr.add a1 (0 : Nat)) (Value.int IntKind.i64 n69) ∧
  cellAt w35 (Addr.add a1 (1 : Nat)) (Value.int IntKind.u64 n70) ∧
  cellAt w35 (Addr.add a1 (2 : Nat)) (Value.int IntKind.u64 n71) ∧
  cellAt w35 (Addr.add a1 (3 : Nat)) (Value.int IntKind.i64 n72) ∧
  cellAt w35 (Addr.add a1 (4 : Nat)) (Value.int IntKind.i64 n73) ∧
  cellAt w35 (Addr.add a1 (5 : Nat)) (Value.int IntKind.i64 n74) ∧
  cellAt w35 (Addr.add a1 (6 : Nat)) (Value.int IntKind.i64 n75) ∧
  cellAt w35 (Addr.add a1 (7 : Nat)) (Value.int IntKind.i64 n76) ∧
  cellAt w35 (Addr.add a1 (8 : Nat)) (Value.int IntKind.i64 n77)) ∧
  K
  (Value.tuple
  {
  toList :=
  [Value.agg
  {
  toList :=
  [Value.int IntKind.i64 n69, Value.int IntKind.u64 n70, Value.int IntKind.u64 n71, Value.int IntKind.i64 n72,
  Value.int IntKind.i64 n73, Value.int IntKind.i64 n74, Value.int IntKind.i64 n75, Value.int IntKind.i64 n76,
  Value.int IntKind.i64 n77] },
  Value.bool false] })
  w35)
theorem rg_int_Take_eq (g : Nat) (w : World) (K : Value → World → Prop) : fw Try.prog Try.f93 (annL []) (ordL [(4, [(0, 0), (1, 0), (2, 0), (4, 0), (5, 0), (6, 0), (8, 0), (9, 0), (10, 0), (12, 0), (13, 0), (14, 0), (3, 1), (7, 1), (11, 1), (15, 1), (16, 0), (17, 1), (18, 1), (19, 2), (20, 0), (21, 3)]), (5, [(0, 0), (1, 0), (2, 0), (4, 0), (5, 0), (6, 0), (7, 1), (8, 0), (3, 2), (9, 0), (10, 0), (11, 3), (12, 0), (13, 0), (14, 3)])]) [.pointer (some ⟨g, 0, none⟩)] w K = rg_int_Take_m g w K := by kernel_rfl
theorem rg_int_Take_go (g : Nat) {w : World} {K : Value → World → Prop} (h : rg_int_Take_m g w K) : Rets Try.prog 93 #[.pointer (some ⟨g, 0, none⟩)] w K :=
  calls_of_fw plain mixed Try.func93 (by kernel_rfl) (by rw [rg_int_Take_eq]; exact h)
end Go.Proofs.Ytipcbhaeoeghnaa.Eng
