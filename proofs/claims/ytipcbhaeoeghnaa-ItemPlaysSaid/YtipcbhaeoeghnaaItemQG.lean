/- What the code of these functions asks for: printed by a program of this session's (gens.py) out of the seat's own functions; the kernel checks each row. -/
import Derived.Test.YtipcbhaeoeghnaaEngH
import Derived.Test.YtipcbhaeoeghnaaProg
import Derived.Test.YtipcbhaeoeghnaaBase
namespace Go.Proofs.Ytipcbhaeoeghnaa.Eng
open Go Go.Proofs
set_option linter.unusedVariables false
set_option maxRecDepth 1000000
def item_Known_m (x : Int) (w : World) (K : Value → World → Prop) : Prop :=
  (decide (x ≥ (1 : Int)) = true → K (Value.bool (decide (x ≤ (6 : Int)))) w) ∧
  (decide (x ≥ (1 : Int)) = false → K (Value.bool false) w)
theorem item_Known_eq (x : Int) (w : World) (K : Value → World → Prop) : fw Try.prog Try.f55 (annL []) (ordL []) [.int .i64 x] w K = item_Known_m x w K := by kernel_rfl
theorem item_Known_go (x : Int) {w : World} {K : Value → World → Prop} (h : item_Known_m x w K) : Rets Try.prog 55 #[.int .i64 x] w K :=
  calls_of_fw plain mixed Try.func55 (by kernel_rfl) (by rw [item_Known_eq]; exact h)
def item_Marker_m (x : Int) (w : World) (K : Value → World → Prop) : Prop :=
  (decide (x ≥ (4 : Int)) = true → K (Value.bool (decide (x ≤ (6 : Int)))) w) ∧
  (decide (x ≥ (4 : Int)) = false → K (Value.bool false) w)
theorem item_Marker_eq (x : Int) (w : World) (K : Value → World → Prop) : fw Try.prog Try.f56 (annL []) (ordL []) [.int .i64 x] w K = item_Marker_m x w K := by kernel_rfl
theorem item_Marker_go (x : Int) {w : World} {K : Value → World → Prop} (h : item_Marker_m x w K) : Rets Try.prog 56 #[.int .i64 x] w K :=
  calls_of_fw plain mixed Try.func56 (by kernel_rfl) (by rw [item_Marker_eq]; exact h)
def item_Name_m (x : Int) (w : World) (K : Value → World → Prop) : Prop :=
  Rets Try.prog (55 : Nat) { toList := [Value.int IntKind.i64 x] } w fun (v1 : Value) (w1 : World) => ∃ (b1 : Bool), v1 = Value.bool b1 ∧ ((!b1) = true → K (Value.string { data := #[] }) w1) ∧ ((!b1) = false → (0 : Int) ≤ IntKind.wrap IntKind.i64 (x - (1 : Int)) ∧ IntKind.wrap IntKind.i64 (x - (1 : Int)) < (↑(6 : Nat) : Int) ∧ match List.get?Internal (Array.toList { toList := [Value.string { data := #[(110 : UInt8), (101 : UInt8), (119 : UInt8)] }, Value.string { data := #[(117 : UInt8), (112 : UInt8), (100 : UInt8), (97 : UInt8), (116 : UInt8), (101 : UInt8)] }, Value.string { data := #[(100 : UInt8), (101 : UInt8), (108 : UInt8)] }, Value.string { data := #[(119 : UInt8), (97 : UInt8), (105 : UInt8), (116 : UInt8)] }, Value.string { data := #[(99 : UInt8), (108 : UInt8), (101 : UInt8), (97 : UInt8), (114 : UInt8)] }, Value.string { data := #[(108 : UInt8), (105 : UInt8), (109 : UInt8), (105 : UInt8), (116 : UInt8)] }] }) (Int.toNat (IntKind.wrap IntKind.i64 (x - (1 : Int))) * (fun (i : TypeInfo) => TypeInfo.size i) (Tables.types (Program.toTables Try.prog))[(9 : Nat)]) with | some v2 => K v2 w1 | none => False)
theorem item_Name_eq (x : Int) (w : World) (K : Value → World → Prop) : fw Try.prog Try.f57 (annL []) (ordL []) [.int .i64 x] w K = item_Name_m x w K := by kernel_rfl
theorem item_Name_go (x : Int) {w : World} {K : Value → World → Prop} (h : item_Name_m x w K) : Rets Try.prog 57 #[.int .i64 x] w K :=
  calls_of_fw plain mixed Try.func57 (by kernel_rfl) (by rw [item_Name_eq]; exact h)
def iq_int_New_m (room : Int) (w : World) (K : Value → World → Prop) : Prop :=
  Rets Try.prog (92 : Nat) { toList := [Value.int IntKind.i64 (maxI (1 : Int) (minI room (64 : Int)))] } w
  fun (v1 : Value) (w1 : World) =>
  ∃ (q1 : Option Addr),
  v1 = Value.pointer q1 ∧
  NewR (141 : Nat)
  [Value.pointer q1, Value.int IntKind.i64 (0 : Int), Value.int IntKind.i64 (0 : Int), Value.int IntKind.i64 (0 : Int),
  Value.int IntKind.i64 (0 : Int), Value.int IntKind.i64 (0 : Int), Value.int IntKind.i64 (0 : Int),
  Value.int IntKind.i64 (0 : Int), Value.int IntKind.i64 (0 : Int), Value.int IntKind.i64 (0 : Int)]
  w1 fun (a1 : Addr) (w2 : World) => K (Value.pointer (some a1)) w2
theorem iq_int_New_eq (room : Int) (w : World) (K : Value → World → Prop) : fw Try.prog Try.f40 (annL []) (ordL []) [.int .i64 room] w K = iq_int_New_m room w K := by kernel_rfl
theorem iq_int_New_go (room : Int) {w : World} {K : Value → World → Prop} (h : iq_int_New_m room w K) : Rets Try.prog 40 #[.int .i64 room] w K :=
  calls_of_fw plain mixed Try.func40 (by kernel_rfl) (by rw [iq_int_New_eq]; exact h)
def iq_int_Len_m (g : Nat) (w : World) (K : Value → World → Prop) : Prop :=
  (false = true → K (Value.int IntKind.i64 (0 : Int)) w) ∧
  (false = false →
  ∃ (q1 : Option Addr),
  cellAt w (Addr.add { block := g, off := (0 : Nat) } (0 : Nat)) (Value.pointer q1) ∧
  Rets Try.prog (95 : Nat) { toList := [Value.pointer q1] } w fun (v1 : Value) (w1 : World) =>
  ∃ (n1 : Int), v1 = Value.int IntKind.i64 n1 ∧ K (Value.int IntKind.i64 n1) w1)
theorem iq_int_Len_eq (g : Nat) (w : World) (K : Value → World → Prop) : fw Try.prog Try.f46 (annL []) (ordL []) [.pointer (some ⟨g, 0, none⟩)] w K = iq_int_Len_m g w K := by kernel_rfl
theorem iq_int_Len_go (g : Nat) {w : World} {K : Value → World → Prop} (h : iq_int_Len_m g w K) : Rets Try.prog 46 #[.pointer (some ⟨g, 0, none⟩)] w K :=
  calls_of_fw plain mixed Try.func46 (by kernel_rfl) (by rw [iq_int_Len_eq]; exact h)
def iqn_int_Len_m  (w : World) (K : Value → World → Prop) : Prop :=
  (true = true → K (Value.int IntKind.i64 (0 : Int)) w) ∧ (true = false → False)
theorem iqn_int_Len_eq  (w : World) (K : Value → World → Prop) : fw Try.prog Try.f46 (annL []) (ordL []) [.pointer none] w K = iqn_int_Len_m  w K := by kernel_rfl
theorem iqn_int_Len_go  {w : World} {K : Value → World → Prop} (h : iqn_int_Len_m  w K) : Rets Try.prog 46 #[.pointer none] w K :=
  calls_of_fw plain mixed Try.func46 (by kernel_rfl) (by rw [iqn_int_Len_eq]; exact h)
def iq_int_Room_m (g : Nat) (w : World) (K : Value → World → Prop) : Prop :=
  (false = true → K (Value.int IntKind.i64 (0 : Int)) w) ∧
  (false = false →
  ∃ (q1 : Option Addr),
  cellAt w (Addr.add { block := g, off := (0 : Nat) } (0 : Nat)) (Value.pointer q1) ∧
  Rets Try.prog (96 : Nat) { toList := [Value.pointer q1] } w fun (v1 : Value) (w1 : World) =>
  ∃ (n1 : Int), v1 = Value.int IntKind.i64 n1 ∧ K (Value.int IntKind.i64 n1) w1)
theorem iq_int_Room_eq (g : Nat) (w : World) (K : Value → World → Prop) : fw Try.prog Try.f47 (annL []) (ordL []) [.pointer (some ⟨g, 0, none⟩)] w K = iq_int_Room_m g w K := by kernel_rfl
theorem iq_int_Room_go (g : Nat) {w : World} {K : Value → World → Prop} (h : iq_int_Room_m g w K) : Rets Try.prog 47 #[.pointer (some ⟨g, 0, none⟩)] w K :=
  calls_of_fw plain mixed Try.func47 (by kernel_rfl) (by rw [iq_int_Room_eq]; exact h)
def iqn_int_Room_m  (w : World) (K : Value → World → Prop) : Prop :=
  (true = true → K (Value.int IntKind.i64 (0 : Int)) w) ∧ (true = false → False)
theorem iqn_int_Room_eq  (w : World) (K : Value → World → Prop) : fw Try.prog Try.f47 (annL []) (ordL []) [.pointer none] w K = iqn_int_Room_m  w K := by kernel_rfl
theorem iqn_int_Room_go  {w : World} {K : Value → World → Prop} (h : iqn_int_Room_m  w K) : Rets Try.prog 47 #[.pointer none] w K :=
  calls_of_fw plain mixed Try.func47 (by kernel_rfl) (by rw [iqn_int_Room_eq]; exact h)
def iq_int_May_m (g : Nat) (w : World) (K : Value → World → Prop) : Prop :=
  Rets Try.prog (46 : Nat) { toList := [Value.pointer (some { block := g, off := (0 : Nat) })] } w
  fun (v1 : Value) (w1 : World) =>
  ∃ (n1 : Int),
  v1 = Value.int IntKind.i64 n1 ∧
  Rets Try.prog (47 : Nat) { toList := [Value.pointer (some { block := g, off := (0 : Nat) })] } w1
  fun (v2 : Value) (w2 : World) => ∃ (n2 : Int), v2 = Value.int IntKind.i64 n2 ∧ K (Value.bool (decide (n1 < n2))) w2
theorem iq_int_May_eq (g : Nat) (w : World) (K : Value → World → Prop) : fw Try.prog Try.f48 (annL []) (ordL []) [.pointer (some ⟨g, 0, none⟩)] w K = iq_int_May_m g w K := by kernel_rfl
theorem iq_int_May_go (g : Nat) {w : World} {K : Value → World → Prop} (h : iq_int_May_m g w K) : Rets Try.prog 48 #[.pointer (some ⟨g, 0, none⟩)] w K :=
  calls_of_fw plain mixed Try.func48 (by kernel_rfl) (by rw [iq_int_May_eq]; exact h)
def iqn_int_May_m  (w : World) (K : Value → World → Prop) : Prop :=
  Rets Try.prog (46 : Nat) { toList := [Value.pointer none] } w fun (v1 : Value) (w1 : World) =>
  ∃ (n1 : Int),
  v1 = Value.int IntKind.i64 n1 ∧
  Rets Try.prog (47 : Nat) { toList := [Value.pointer none] } w1 fun (v2 : Value) (w2 : World) =>
  ∃ (n2 : Int), v2 = Value.int IntKind.i64 n2 ∧ K (Value.bool (decide (n1 < n2))) w2
theorem iqn_int_May_eq  (w : World) (K : Value → World → Prop) : fw Try.prog Try.f48 (annL []) (ordL []) [.pointer none] w K = iqn_int_May_m  w K := by kernel_rfl
theorem iqn_int_May_go  {w : World} {K : Value → World → Prop} (h : iqn_int_May_m  w K) : Rets Try.prog 48 #[.pointer none] w K :=
  calls_of_fw plain mixed Try.func48 (by kernel_rfl) (by rw [iqn_int_May_eq]; exact h)
def iq_int_Sent_m (g : Nat) (w : World) (K : Value → World → Prop) : Prop :=
  (false = true → K (Value.int IntKind.i64 (0 : Int)) w) ∧
  (false = false →
  ∃ (n1 : Int),
  cellAt w (Addr.add { block := g, off := (0 : Nat) } (8 : Nat)) (Value.int IntKind.i64 n1) ∧
  K (Value.int IntKind.i64 n1) w)
theorem iq_int_Sent_eq (g : Nat) (w : World) (K : Value → World → Prop) : fw Try.prog Try.f49 (annL []) (ordL []) [.pointer (some ⟨g, 0, none⟩)] w K = iq_int_Sent_m g w K := by kernel_rfl
theorem iq_int_Sent_go (g : Nat) {w : World} {K : Value → World → Prop} (h : iq_int_Sent_m g w K) : Rets Try.prog 49 #[.pointer (some ⟨g, 0, none⟩)] w K :=
  calls_of_fw plain mixed Try.func49 (by kernel_rfl) (by rw [iq_int_Sent_eq]; exact h)
def iqn_int_Sent_m  (w : World) (K : Value → World → Prop) : Prop :=
  (true = true → K (Value.int IntKind.i64 (0 : Int)) w) ∧ (true = false → False)
theorem iqn_int_Sent_eq  (w : World) (K : Value → World → Prop) : fw Try.prog Try.f49 (annL []) (ordL []) [.pointer none] w K = iqn_int_Sent_m  w K := by kernel_rfl
theorem iqn_int_Sent_go  {w : World} {K : Value → World → Prop} (h : iqn_int_Sent_m  w K) : Rets Try.prog 49 #[.pointer none] w K :=
  calls_of_fw plain mixed Try.func49 (by kernel_rfl) (by rw [iqn_int_Sent_eq]; exact h)
def iq_int_Full_m (g : Nat) (w : World) (K : Value → World → Prop) : Prop :=
  (false = true → K (Value.int IntKind.i64 (0 : Int)) w) ∧
  (false = false →
  ∃ (n1 : Int),
  cellAt w (Addr.add { block := g, off := (0 : Nat) } (9 : Nat)) (Value.int IntKind.i64 n1) ∧
  K (Value.int IntKind.i64 n1) w)
theorem iq_int_Full_eq (g : Nat) (w : World) (K : Value → World → Prop) : fw Try.prog Try.f50 (annL []) (ordL []) [.pointer (some ⟨g, 0, none⟩)] w K = iq_int_Full_m g w K := by kernel_rfl
theorem iq_int_Full_go (g : Nat) {w : World} {K : Value → World → Prop} (h : iq_int_Full_m g w K) : Rets Try.prog 50 #[.pointer (some ⟨g, 0, none⟩)] w K :=
  calls_of_fw plain mixed Try.func50 (by kernel_rfl) (by rw [iq_int_Full_eq]; exact h)
def iqn_int_Full_m  (w : World) (K : Value → World → Prop) : Prop :=
  (true = true → K (Value.int IntKind.i64 (0 : Int)) w) ∧ (true = false → False)
theorem iqn_int_Full_eq  (w : World) (K : Value → World → Prop) : fw Try.prog Try.f50 (annL []) (ordL []) [.pointer none] w K = iqn_int_Full_m  w K := by kernel_rfl
theorem iqn_int_Full_go  {w : World} {K : Value → World → Prop} (h : iqn_int_Full_m  w K) : Rets Try.prog 50 #[.pointer none] w K :=
  calls_of_fw plain mixed Try.func50 (by kernel_rfl) (by rw [iqn_int_Full_eq]; exact h)
def iq_int_Take_m (g : Nat) (w : World) (K : Value → World → Prop) : Prop :=
  NewR (83 : Nat)
  [Value.int IntKind.i64 (0 : Int), Value.int IntKind.u64 (0 : Int), Value.int IntKind.u64 (0 : Int),
  Value.int IntKind.i64 (0 : Int), Value.int IntKind.i64 (0 : Int), Value.int IntKind.i64 (0 : Int),
  Value.int IntKind.i64 (0 : Int), Value.int IntKind.i64 (0 : Int), Value.int IntKind.i64 (0 : Int)]
  w fun (a1 : Addr) (w1 : World) =>
  (false = true →
  StoreR a1
  [Value.int IntKind.i64 (0 : Int), Value.int IntKind.u64 (0 : Int), Value.int IntKind.u64 (0 : Int),
  Value.int IntKind.i64 (0 : Int), Value.int IntKind.i64 (0 : Int), Value.int IntKind.i64 (0 : Int),
  Value.int IntKind.i64 (0 : Int), Value.int IntKind.i64 (0 : Int), Value.int IntKind.i64 (0 : Int)]
  w1 fun (w2 : World) =>
  ∃ (n1 : Int),
  ∃ (n2 : Int),
  ∃ (n3 : Int),
  ∃ (n4 : Int),
  ∃ (n5 : Int),
  ∃ (n6 : Int),
  ∃ (n7 : Int),
  ∃ (n8 : Int),
  ∃ (n9 : Int),
  (cellAt w2 (Addr.add a1 (0 : Nat)) (Value.int IntKind.i64 n1) ∧
  cellAt w2 (Addr.add a1 (1 : Nat)) (Value.int IntKind.u64 n2) ∧
  cellAt w2 (Addr.add a1 (2 : Nat)) (Value.int IntKind.u64 n3) ∧
  cellAt w2 (Addr.add a1 (3 : Nat)) (Value.int IntKind.i64 n4) ∧
  cellAt w2 (Addr.add a1 (4 : Nat)) (Value.int IntKind.i64 n5) ∧
  cellAt w2 (Addr.add a1 (5 : Nat)) (Value.int IntKind.i64 n6) ∧
  cellAt w2 (Addr.add a1 (6 : Nat)) (Value.int IntKind.i64 n7) ∧
  cellAt w2 (Addr.add a1 (7 : Nat)) (Value.int IntKind.i64 n8) ∧
  cellAt w2 (Addr.add a1 (8 : Nat)) (Value.int IntKind.i64 n9)) ∧
  K
  (Value.tuple
  {
  toList :=
  [Value.agg
  {
  toList :=
  [Value.int IntKind.i64 n1, Value.int IntKind.u64 n2, Value.int IntKind.u64 n3, Value.int IntKind.i64 n4,
  Value.int IntKind.i64 n5, Value.int IntKind.i64 n6, Value.int IntKind.i64 n7, Value.int IntKind.i64 n8,
  Value.int IntKind.i64 n9] },
  Value.bool false] })
  w2) ∧
  (false = false →
  ∃ (q1 : Option Addr),
  cellAt w1 (Addr.add { block := g, off := (0 : Nat) } (0 : Nat)) (Value.pointer q1) ∧
  Rets Try.prog (93 : Nat) { toList := [Value.pointer q1] } w1 fun (v1 : Value) (w3 : World) =>
  ∃ (n10 : Int),
  ∃ (n11 : Int),
  ∃ (n12 : Int),
  ∃ (n13 : Int),
  ∃ (n14 : Int),
  ∃ (n15 : Int),
  ∃ (n16 : Int),
  ∃ (n17 : Int),
  ∃ (n18 : Int),
  ∃ (b1 : Bool),
  v1 =
  Value.tuple
  {
  toList :=
  [Value.agg
  {
  toList :=
  [Value.int IntKind.i64 n10, Value.int IntKind.u64 n11, Value.int IntKind.u64 n12, Value.int IntKind.i64 n13,
  Value.int IntKind.i64 n14, Value.int IntKind.i64 n15, Value.int IntKind.i64 n16, Value.int IntKind.i64 n17,
  Value.int IntKind.i64 n18] },
  Value.bool b1] } ∧
  NewR (83 : Nat)
  [Value.int IntKind.i64 (0 : Int), Value.int IntKind.u64 (0 : Int), Value.int IntKind.u64 (0 : Int),
  Value.int IntKind.i64 (0 : Int), Value.int IntKind.i64 (0 : Int), Value.int IntKind.i64 (0 : Int),
  Value.int IntKind.i64 (0 : Int), Value.int IntKind.i64 (0 : Int), Value.int IntKind.i64 (0 : Int)]
  w3 fun (a2 : Addr) (w4 : World) =>
  StoreR a2
  [Value.int IntKind.i64 n10, Value.int IntKind.u64 n11, Value.int IntKind.u64 n12, Value.int IntKind.i64 n13,
  Value.int IntKind.i64 n14, Value.int IntKind.i64 n15, Value.int IntKind.i64 n16, Value.int IntKind.i64 n17,
  Value.int IntKind.i64 n18]
  w4 fun (w5 : World) =>
  (b1 = true →
  Drw w5 fun (w6 : World) =>
  ∃ (n19 : Int),
  cellAt w6 (Addr.add a2 (0 : Nat)) (Value.int IntKind.i64 n19) ∧
  (0 : Int) ≤ n19 ∧
  n19 < (↑(7 : Nat) : Int) ∧
  ∃ (n20 : Int),
  cellAt w6 (Addr.add (Addr.add { block := g, off := (0 : Nat) } (1 : Nat)) (Int.toNat n19 * (1 : Nat)))
  (Value.int IntKind.i64 n20) ∧
  (0 : Int) ≤ n19 ∧
  n19 < (↑(7 : Nat) : Int) ∧
  StoreR (Addr.add (Addr.add { block := g, off := (0 : Nat) } (1 : Nat)) (Int.toNat n19 * (1 : Nat)))
  [Value.int IntKind.i64 (IntKind.wrap IntKind.i64 (n20 - (1 : Int)))] w6 fun (w7 : World) =>
  ∃ (n21 : Int),
  ∃ (n22 : Int),
  ∃ (n23 : Int),
  ∃ (n24 : Int),
  ∃ (n25 : Int),
  ∃ (n26 : Int),
  ∃ (n27 : Int),
  ∃ (n28 : Int),
  ∃ (n29 : Int),
  (cellAt w7 (Addr.add a2 (0 : Nat)) (Value.int IntKind.i64 n21) ∧
  cellAt w7 (Addr.add a2 (1 : Nat)) (Value.int IntKind.u64 n22) ∧
  cellAt w7 (Addr.add a2 (2 : Nat)) (Value.int IntKind.u64 n23) ∧
  cellAt w7 (Addr.add a2 (3 : Nat)) (Value.int IntKind.i64 n24) ∧
  cellAt w7 (Addr.add a2 (4 : Nat)) (Value.int IntKind.i64 n25) ∧
  cellAt w7 (Addr.add a2 (5 : Nat)) (Value.int IntKind.i64 n26) ∧
  cellAt w7 (Addr.add a2 (6 : Nat)) (Value.int IntKind.i64 n27) ∧
  cellAt w7 (Addr.add a2 (7 : Nat)) (Value.int IntKind.i64 n28) ∧
  cellAt w7 (Addr.add a2 (8 : Nat)) (Value.int IntKind.i64 n29)) ∧
  StoreR a1
  [Value.int IntKind.i64 n21, Value.int IntKind.u64 n22, Value.int IntKind.u64 n23, Value.int IntKind.i64 n24,
  Value.int IntKind.i64 n25, Value.int IntKind.i64 n26, Value.int IntKind.i64 n27, Value.int IntKind.i64 n28,
  Value.int IntKind.i64 n29]
  w7 fun (w8 : World) =>
  ∃ (n30 : Int),
  ∃ (n31 : Int),
  ∃ (n32 : Int),
  ∃ (n33 : Int),
  ∃ (n34 : Int),
  ∃ (n35 : Int),
  ∃ (n36 : Int),
  ∃ (n37 : Int),
  ∃ (n38 : Int),
  (cellAt w8 (Addr.add a1 (0 : Nat)) (Value.int IntKind.i64 n30) ∧
  cellAt w8 (Addr.add a1 (1 : Nat)) (Value.int IntKind.u64 n31) ∧
  cellAt w8 (Addr.add a1 (2 : Nat)) (Value.int IntKind.u64 n32) ∧
  cellAt w8 (Addr.add a1 (3 : Nat)) (Value.int IntKind.i64 n33) ∧
  cellAt w8 (Addr.add a1 (4 : Nat)) (Value.int IntKind.i64 n34) ∧
  cellAt w8 (Addr.add a1 (5 : Nat)) (Value.int IntKind.i64 n35) ∧
  cellAt w8 (Addr.add a1 (6 : Nat)) (Value.int IntKind.i64 n36) ∧
  cellAt w8 (Addr.add a1 (7 : Nat)) (Value.int IntKind.i64 n37) ∧
  cellAt w8 (Addr.add a1 (8 : Nat)) (Value.int IntKind.i64 n38)) ∧
  K
  (Value.tuple
  {
  toList :=
  [Value.agg
  {
  toList :=
  [Value.int IntKind.i64 n30, Value.int IntKind.u64 n31, Value.int IntKind.u64 n32, Value.int IntKind.i64 n33,
  Value.int IntKind.i64 n34, Value.int IntKind.i64 n35, Value.int IntKind.i64 n36, Value.int IntKind.i64 n37,
  Value.int IntKind.i64 n38] },
  Value.bool b1] })
  w8) ∧
  (b1 = false →
  ∃ (n39 : Int),
  ∃ (n40 : Int),
  ∃ (n41 : Int),
  ∃ (n42 : Int),
  ∃ (n43 : Int),
  ∃ (n44 : Int),
  ∃ (n45 : Int),
  ∃ (n46 : Int),
  ∃ (n47 : Int),
  (cellAt w5 (Addr.add a2 (0 : Nat)) (Value.int IntKind.i64 n39) ∧
  cellAt w5 (Addr.add a2 (1 : Nat)) (Value.int IntKind.u64 n40) ∧
  cellAt w5 (Addr.add a2 (2 : Nat)) (Value.int IntKind.u64 n41) ∧
  cellAt w5 (Addr.add a2 (3 : Nat)) (Value.int IntKind.i64 n42) ∧
  cellAt w5 (Addr.add a2 (4 : Nat)) (Value.int IntKind.i64 n43) ∧
  cellAt w5 (Addr.add a2 (5 : Nat)) (Value.int IntKind.i64 n44) ∧
  cellAt w5 (Addr.add a2 (6 : Nat)) (Value.int IntKind.i64 n45) ∧
  cellAt w5 (Addr.add a2 (7 : Nat)) (Value.int IntKind.i64 n46) ∧
  cellAt w5 (Addr.add a2 (8 : Nat)) (Value.int IntKind.i64 n47)) ∧
  StoreR a1
  [Value.int IntKind.i64 n39, Value.int IntKind.u64 n40, Value.int IntKind.u64 n41, Value.int IntKind.i64 n42,
  Value.int IntKind.i64 n43, Value.int IntKind.i64 n44, Value.int IntKind.i64 n45, Value.int IntKind.i64 n46,
  Value.int IntKind.i64 n47]
  w5 fun (w9 : World) =>
  ∃ (n48 : Int),
  ∃ (n49 : Int),
  ∃ (n50 : Int),
  ∃ (n51 : Int),
  ∃ (n52 : Int),
  ∃ (n53 : Int),
  ∃ (n54 : Int),
  ∃ (n55 : Int),
  ∃ (n56 : Int),
  (cellAt w9 (Addr.add a1 (0 : Nat)) (Value.int IntKind.i64 n48) ∧
  cellAt w9 (Addr.add a1 (1 : Nat)) (Value.int IntKind.u64 n49) ∧
  cellAt w9 (Addr.add a1 (2 : Nat)) (Value.int IntKind.u64 n50) ∧
  cellAt w9 (Addr.add a1 (3 : Nat)) (Value.int IntKind.i64 n51) ∧
  cellAt w9 (Addr.add a1 (4 : Nat)) (Value.int IntKind.i64 n52) ∧
  cellAt w9 (Addr.add a1 (5 : Nat)) (Value.int IntKind.i64 n53) ∧
  cellAt w9 (Addr.add a1 (6 : Nat)) (Value.int IntKind.i64 n54) ∧
  cellAt w9 (Addr.add a1 (7 : Nat)) (Value.int IntKind.i64 n55) ∧
  cellAt w9 (Addr.add a1 (8 : Nat)) (Value.int IntKind.i64 n56)) ∧
  K
  (Value.tuple
  {
  toList :=
  [Value.agg
  {
  toList :=
  [Value.int IntKind.i64 n48, Value.int IntKind.u64 n49, Value.int IntKind.u64 n50, Value.int IntKind.i64 n51,
  Value.int IntKind.i64 n52, Value.int IntKind.i64 n53, Value.int IntKind.i64 n54, Value.int IntKind.i64 n55,
  Value.int IntKind.i64 n56] },
  Value.bool b1] })
  w9))
theorem iq_int_Take_eq (g : Nat) (w : World) (K : Value → World → Prop) : fw Try.prog Try.f43 (annL []) (ordL [(5, [(0, 0), (1, 0), (3, 0), (4, 0), (8, 0), (9, 0), (2, 1), (5, 0), (6, 1), (7, 0), (10, 0), (11, 3)])]) [.pointer (some ⟨g, 0, none⟩)] w K = iq_int_Take_m g w K := by kernel_rfl
theorem iq_int_Take_go (g : Nat) {w : World} {K : Value → World → Prop} (h : iq_int_Take_m g w K) : Rets Try.prog 43 #[.pointer (some ⟨g, 0, none⟩)] w K :=
  calls_of_fw plain mixed Try.func43 (by kernel_rfl) (by rw [iq_int_Take_eq]; exact h)
def iqn_int_Take_m  (w : World) (K : Value → World → Prop) : Prop :=
  NewR (83 : Nat)
  [Value.int IntKind.i64 (0 : Int), Value.int IntKind.u64 (0 : Int), Value.int IntKind.u64 (0 : Int),
  Value.int IntKind.i64 (0 : Int), Value.int IntKind.i64 (0 : Int), Value.int IntKind.i64 (0 : Int),
  Value.int IntKind.i64 (0 : Int), Value.int IntKind.i64 (0 : Int), Value.int IntKind.i64 (0 : Int)]
  w fun (a1 : Addr) (w1 : World) =>
  (true = true →
  StoreR a1
  [Value.int IntKind.i64 (0 : Int), Value.int IntKind.u64 (0 : Int), Value.int IntKind.u64 (0 : Int),
  Value.int IntKind.i64 (0 : Int), Value.int IntKind.i64 (0 : Int), Value.int IntKind.i64 (0 : Int),
  Value.int IntKind.i64 (0 : Int), Value.int IntKind.i64 (0 : Int), Value.int IntKind.i64 (0 : Int)]
  w1 fun (w2 : World) =>
  ∃ (n1 : Int),
  ∃ (n2 : Int),
  ∃ (n3 : Int),
  ∃ (n4 : Int),
  ∃ (n5 : Int),
  ∃ (n6 : Int),
  ∃ (n7 : Int),
  ∃ (n8 : Int),
  ∃ (n9 : Int),
  (cellAt w2 (Addr.add a1 (0 : Nat)) (Value.int IntKind.i64 n1) ∧
  cellAt w2 (Addr.add a1 (1 : Nat)) (Value.int IntKind.u64 n2) ∧
  cellAt w2 (Addr.add a1 (2 : Nat)) (Value.int IntKind.u64 n3) ∧
  cellAt w2 (Addr.add a1 (3 : Nat)) (Value.int IntKind.i64 n4) ∧
  cellAt w2 (Addr.add a1 (4 : Nat)) (Value.int IntKind.i64 n5) ∧
  cellAt w2 (Addr.add a1 (5 : Nat)) (Value.int IntKind.i64 n6) ∧
  cellAt w2 (Addr.add a1 (6 : Nat)) (Value.int IntKind.i64 n7) ∧
  cellAt w2 (Addr.add a1 (7 : Nat)) (Value.int IntKind.i64 n8) ∧
  cellAt w2 (Addr.add a1 (8 : Nat)) (Value.int IntKind.i64 n9)) ∧
  K
  (Value.tuple
  {
  toList :=
  [Value.agg
  {
  toList :=
  [Value.int IntKind.i64 n1, Value.int IntKind.u64 n2, Value.int IntKind.u64 n3, Value.int IntKind.i64 n4,
  Value.int IntKind.i64 n5, Value.int IntKind.i64 n6, Value.int IntKind.i64 n7, Value.int IntKind.i64 n8,
  Value.int IntKind.i64 n9] },
  Value.bool false] })
  w2) ∧
  (true = false → False)
theorem iqn_int_Take_eq  (w : World) (K : Value → World → Prop) : fw Try.prog Try.f43 (annL []) (ordL [(5, [(0, 0), (1, 0), (3, 0), (4, 0), (8, 0), (9, 0), (2, 1), (5, 0), (6, 1), (7, 0), (10, 0), (11, 3)])]) [.pointer none] w K = iqn_int_Take_m  w K := by kernel_rfl
theorem iqn_int_Take_go  {w : World} {K : Value → World → Prop} (h : iqn_int_Take_m  w K) : Rets Try.prog 43 #[.pointer none] w K :=
  calls_of_fw plain mixed Try.func43 (by kernel_rfl) (by rw [iqn_int_Take_eq]; exact h)
def iq_int_Count_m (g : Nat) (x : Int) (w : World) (K : Value → World → Prop) : Prop :=
  (false = false →
  Rets Try.prog (55 : Nat) { toList := [Value.int IntKind.i64 x] } w fun (v1 : Value) (w1 : World) =>
  ∃ (b1 : Bool),
  v1 = Value.bool b1 ∧
  ((!b1) = true → K (Value.int IntKind.i64 (0 : Int)) w1) ∧
  ((!b1) = false →
  (0 : Int) ≤ x ∧
  x < (↑(7 : Nat) : Int) ∧
  ∃ (n1 : Int),
  cellAt w1 (Addr.add (Addr.add { block := g, off := (0 : Nat) } (1 : Nat)) (Int.toNat x * (1 : Nat)))
  (Value.int IntKind.i64 n1) ∧
  K (Value.int IntKind.i64 n1) w1)) ∧
  (false = true → K (Value.int IntKind.i64 (0 : Int)) w)
theorem iq_int_Count_eq (g : Nat) (x : Int) (w : World) (K : Value → World → Prop) : fw Try.prog Try.f51 (annL []) (ordL []) [.pointer (some ⟨g, 0, none⟩), .int .i64 x] w K = iq_int_Count_m g x w K := by kernel_rfl
theorem iq_int_Count_go (g : Nat) (x : Int) {w : World} {K : Value → World → Prop} (h : iq_int_Count_m g x w K) : Rets Try.prog 51 #[.pointer (some ⟨g, 0, none⟩), .int .i64 x] w K :=
  calls_of_fw plain mixed Try.func51 (by kernel_rfl) (by rw [iq_int_Count_eq]; exact h)
def iqn_int_Count_m (x : Int) (w : World) (K : Value → World → Prop) : Prop :=
  (true = false →
  Rets Try.prog (55 : Nat) { toList := [Value.int IntKind.i64 x] } w fun (v1 : Value) (w1 : World) =>
  ∃ (b1 : Bool), v1 = Value.bool b1 ∧ ((!b1) = true → K (Value.int IntKind.i64 (0 : Int)) w1) ∧ ((!b1) = false → False)) ∧
  (true = true → K (Value.int IntKind.i64 (0 : Int)) w)
theorem iqn_int_Count_eq (x : Int) (w : World) (K : Value → World → Prop) : fw Try.prog Try.f51 (annL []) (ordL []) [.pointer none, .int .i64 x] w K = iqn_int_Count_m x w K := by kernel_rfl
theorem iqn_int_Count_go (x : Int) {w : World} {K : Value → World → Prop} (h : iqn_int_Count_m x w K) : Rets Try.prog 51 #[.pointer none, .int .i64 x] w K :=
  calls_of_fw plain mixed Try.func51 (by kernel_rfl) (by rw [iqn_int_Count_eq]; exact h)
def iq_int_Offer_m (g : Nat) (k p c v n e o u d : Int) (w : World) (K : Value → World → Prop) : Prop :=
  NewR (83 : Nat)
  [Value.int IntKind.i64 k, Value.int IntKind.u64 p, Value.int IntKind.u64 c, Value.int IntKind.i64 v,
  Value.int IntKind.i64 n, Value.int IntKind.i64 e, Value.int IntKind.i64 o, Value.int IntKind.i64 u,
  Value.int IntKind.i64 d]
  w fun (a1 : Addr) (w1 : World) =>
  (false = false →
  ∃ (n1 : Int),
  cellAt w1 (Addr.add a1 (0 : Nat)) (Value.int IntKind.i64 n1) ∧
  Rets Try.prog (55 : Nat) { toList := [Value.int IntKind.i64 n1] } w1 fun (v1 : Value) (w2 : World) =>
  ∃ (b1 : Bool),
  v1 = Value.bool b1 ∧
  ((!b1) = true → K (Value.bool false) w2) ∧
  ((!b1) = false →
  Drw w2 fun (w3 : World) =>
  ∃ (q1 : Option Addr),
  cellAt w3 (Addr.add { block := g, off := (0 : Nat) } (0 : Nat)) (Value.pointer q1) ∧
  ∃ (n2 : Int),
  ∃ (n3 : Int),
  ∃ (n4 : Int),
  ∃ (n5 : Int),
  ∃ (n6 : Int),
  ∃ (n7 : Int),
  ∃ (n8 : Int),
  ∃ (n9 : Int),
  ∃ (n10 : Int),
  (cellAt w3 (Addr.add a1 (0 : Nat)) (Value.int IntKind.i64 n2) ∧
  cellAt w3 (Addr.add a1 (1 : Nat)) (Value.int IntKind.u64 n3) ∧
  cellAt w3 (Addr.add a1 (2 : Nat)) (Value.int IntKind.u64 n4) ∧
  cellAt w3 (Addr.add a1 (3 : Nat)) (Value.int IntKind.i64 n5) ∧
  cellAt w3 (Addr.add a1 (4 : Nat)) (Value.int IntKind.i64 n6) ∧
  cellAt w3 (Addr.add a1 (5 : Nat)) (Value.int IntKind.i64 n7) ∧
  cellAt w3 (Addr.add a1 (6 : Nat)) (Value.int IntKind.i64 n8) ∧
  cellAt w3 (Addr.add a1 (7 : Nat)) (Value.int IntKind.i64 n9) ∧
  cellAt w3 (Addr.add a1 (8 : Nat)) (Value.int IntKind.i64 n10)) ∧
  Rets Try.prog (94 : Nat)
  {
  toList :=
  [Value.pointer q1,
  Value.agg
  {
  toList :=
  [Value.int IntKind.i64 n2, Value.int IntKind.u64 n3, Value.int IntKind.u64 n4, Value.int IntKind.i64 n5,
  Value.int IntKind.i64 n6, Value.int IntKind.i64 n7, Value.int IntKind.i64 n8, Value.int IntKind.i64 n9,
  Value.int IntKind.i64 n10] }] }
  w3 fun (v2 : Value) (w4 : World) =>
  ∃ (b2 : Bool),
  v2 = Value.bool b2 ∧
  ((!b2) = true →
  ∃ (n11 : Int),
  cellAt w4 (Addr.add { block := g, off := (0 : Nat) } (9 : Nat)) (Value.int IntKind.i64 n11) ∧
  StoreR (Addr.add { block := g, off := (0 : Nat) } (9 : Nat))
  [Value.int IntKind.i64 (IntKind.wrap IntKind.i64 (n11 + (1 : Int)))] w4 fun (w5 : World) => K (Value.bool false) w5) ∧
  ((!b2) = false →
  Drw w4 fun (w6 : World) =>
  ∃ (n12 : Int),
  cellAt w6 (Addr.add a1 (0 : Nat)) (Value.int IntKind.i64 n12) ∧
  (0 : Int) ≤ n12 ∧
  n12 < (↑(7 : Nat) : Int) ∧
  ∃ (n13 : Int),
  cellAt w6 (Addr.add (Addr.add { block := g, off := (0 : Nat) } (1 : Nat)) (Int.toNat n12 * (1 : Nat)))
  (Value.int IntKind.i64 n13) ∧
  (0 : Int) ≤ n12 ∧
  n12 < (↑(7 : Nat) : Int) ∧
  StoreR (Addr.add (Addr.add { block := g, off := (0 : Nat) } (1 : Nat)) (Int.toNat n12 * (1 : Nat)))
  [Value.int IntKind.i64 (IntKind.wrap IntKind.i64 (n13 + (1 : Int)))] w6 fun (w7 : World) =>
  ∃ (n14 : Int),
  cellAt w7 (Addr.add { block := g, off := (0 : Nat) } (8 : Nat)) (Value.int IntKind.i64 n14) ∧
  StoreR (Addr.add { block := g, off := (0 : Nat) } (8 : Nat))
  [Value.int IntKind.i64 (IntKind.wrap IntKind.i64 (n14 + (1 : Int)))] w7 fun (w8 : World) => K (Value.bool true) w8))) ∧
  (false = true → K (Value.bool false) w1)
theorem iq_int_Offer_eq (g : Nat) (k p c v n e o u d : Int) (w : World) (K : Value → World → Prop) : fw Try.prog Try.f45 (annL []) (ordL [(3, [(0, 0), (1, 0), (2, 0), (3, 1), (4, 1), (5, 3), (6, 0)]), (6, [(0, 0), (1, 0), (3, 0), (4, 0), (8, 0), (9, 0), (2, 1), (5, 0), (6, 1), (7, 0), (10, 0), (11, 3)])]) [.pointer (some ⟨g, 0, none⟩), .agg #[.int .i64 k, .int .u64 p, .int .u64 c, .int .i64 v, .int .i64 n, .int .i64 e, .int .i64 o, .int .i64 u, .int .i64 d]] w K = iq_int_Offer_m g k p c v n e o u d w K := by kernel_rfl
theorem iq_int_Offer_go (g : Nat) (k p c v n e o u d : Int) {w : World} {K : Value → World → Prop} (h : iq_int_Offer_m g k p c v n e o u d w K) : Rets Try.prog 45 #[.pointer (some ⟨g, 0, none⟩), .agg #[.int .i64 k, .int .u64 p, .int .u64 c, .int .i64 v, .int .i64 n, .int .i64 e, .int .i64 o, .int .i64 u, .int .i64 d]] w K :=
  calls_of_fw plain mixed Try.func45 (by kernel_rfl) (by rw [iq_int_Offer_eq]; exact h)
def iqn_int_Offer_m (k p c v n e o u d : Int) (w : World) (K : Value → World → Prop) : Prop :=
  NewR (83 : Nat)
  [Value.int IntKind.i64 k, Value.int IntKind.u64 p, Value.int IntKind.u64 c, Value.int IntKind.i64 v,
  Value.int IntKind.i64 n, Value.int IntKind.i64 e, Value.int IntKind.i64 o, Value.int IntKind.i64 u,
  Value.int IntKind.i64 d]
  w fun (a1 : Addr) (w1 : World) =>
  (true = false →
  ∃ (n1 : Int),
  cellAt w1 (Addr.add a1 (0 : Nat)) (Value.int IntKind.i64 n1) ∧
  Rets Try.prog (55 : Nat) { toList := [Value.int IntKind.i64 n1] } w1 fun (v1 : Value) (w2 : World) =>
  ∃ (b1 : Bool),
  v1 = Value.bool b1 ∧ ((!b1) = true → K (Value.bool false) w2) ∧ ((!b1) = false → Drw w2 fun (w3 : World) => False)) ∧
  (true = true → K (Value.bool false) w1)
theorem iqn_int_Offer_eq (k p c v n e o u d : Int) (w : World) (K : Value → World → Prop) : fw Try.prog Try.f45 (annL []) (ordL [(3, [(0, 0), (1, 0), (2, 0), (3, 1), (4, 1), (5, 3), (6, 0)]), (6, [(0, 0), (1, 0), (3, 0), (4, 0), (8, 0), (9, 0), (2, 1), (5, 0), (6, 1), (7, 0), (10, 0), (11, 3)])]) [.pointer none, .agg #[.int .i64 k, .int .u64 p, .int .u64 c, .int .i64 v, .int .i64 n, .int .i64 e, .int .i64 o, .int .i64 u, .int .i64 d]] w K = iqn_int_Offer_m k p c v n e o u d w K := by kernel_rfl
theorem iqn_int_Offer_go (k p c v n e o u d : Int) {w : World} {K : Value → World → Prop} (h : iqn_int_Offer_m k p c v n e o u d w K) : Rets Try.prog 45 #[.pointer none, .agg #[.int .i64 k, .int .u64 p, .int .u64 c, .int .i64 v, .int .i64 n, .int .i64 e, .int .i64 o, .int .i64 u, .int .i64 d]] w K :=
  calls_of_fw plain mixed Try.func45 (by kernel_rfl) (by rw [iqn_int_Offer_eq]; exact h)
def iq_int_All_m (g : Nat) (w : World) (K : Value → World → Prop) : Prop :=
  (false = true →
  Rets Try.prog (97 : Nat) { toList := [Value.pointer none] } w fun (v1 : Value) (w1 : World) =>
  ∃ (k1 : Nat),
  ∃ (a1 : Array Value), ∃ (c1 : Array Value), v1 = Value.func (Fn.func k1) a1 c1 ∧ K (Value.func (Fn.func k1) a1 c1) w1) ∧
  (false = false →
  ∃ (q1 : Option Addr),
  cellAt w (Addr.add { block := g, off := (0 : Nat) } (0 : Nat)) (Value.pointer q1) ∧
  Rets Try.prog (97 : Nat) { toList := [Value.pointer q1] } w fun (v2 : Value) (w2 : World) =>
  ∃ (k2 : Nat),
  ∃ (a2 : Array Value), ∃ (c2 : Array Value), v2 = Value.func (Fn.func k2) a2 c2 ∧ K (Value.func (Fn.func k2) a2 c2) w2)
theorem iq_int_All_eq (g : Nat) (w : World) (K : Value → World → Prop) : fw Try.prog Try.f53 (annL []) (ordL []) [.pointer (some ⟨g, 0, none⟩)] w K = iq_int_All_m g w K := by kernel_rfl
theorem iq_int_All_go (g : Nat) {w : World} {K : Value → World → Prop} (h : iq_int_All_m g w K) : Rets Try.prog 53 #[.pointer (some ⟨g, 0, none⟩)] w K :=
  calls_of_fw plain mixed Try.func53 (by kernel_rfl) (by rw [iq_int_All_eq]; exact h)
def iq_string_New_m (room : Int) (w : World) (K : Value → World → Prop) : Prop :=
  Rets Try.prog (98 : Nat) { toList := [Value.int IntKind.i64 (maxI (1 : Int) (minI room (64 : Int)))] } w
  fun (v1 : Value) (w1 : World) =>
  ∃ (q1 : Option Addr),
  v1 = Value.pointer q1 ∧
  NewR (145 : Nat)
  [Value.pointer q1, Value.int IntKind.i64 (0 : Int), Value.int IntKind.i64 (0 : Int), Value.int IntKind.i64 (0 : Int),
  Value.int IntKind.i64 (0 : Int), Value.int IntKind.i64 (0 : Int), Value.int IntKind.i64 (0 : Int),
  Value.int IntKind.i64 (0 : Int), Value.int IntKind.i64 (0 : Int), Value.int IntKind.i64 (0 : Int)]
  w1 fun (a1 : Addr) (w2 : World) => K (Value.pointer (some a1)) w2
theorem iq_string_New_eq (room : Int) (w : World) (K : Value → World → Prop) : fw Try.prog Try.f54 (annL []) (ordL []) [.int .i64 room] w K = iq_string_New_m room w K := by kernel_rfl
theorem iq_string_New_go (room : Int) {w : World} {K : Value → World → Prop} (h : iq_string_New_m room w K) : Rets Try.prog 54 #[.int .i64 room] w K :=
  calls_of_fw plain mixed Try.func54 (by kernel_rfl) (by rw [iq_string_New_eq]; exact h)
def iq_string_Len_m (g : Nat) (w : World) (K : Value → World → Prop) : Prop :=
  (false = true → K (Value.int IntKind.i64 (0 : Int)) w) ∧
  (false = false →
  ∃ (q1 : Option Addr),
  cellAt w (Addr.add { block := g, off := (0 : Nat) } (0 : Nat)) (Value.pointer q1) ∧
  Rets Try.prog (102 : Nat) { toList := [Value.pointer q1] } w fun (v1 : Value) (w1 : World) =>
  ∃ (n1 : Int), v1 = Value.int IntKind.i64 n1 ∧ K (Value.int IntKind.i64 n1) w1)
theorem iq_string_Len_eq (g : Nat) (w : World) (K : Value → World → Prop) : fw Try.prog Try.f62 (annL []) (ordL []) [.pointer (some ⟨g, 0, none⟩)] w K = iq_string_Len_m g w K := by kernel_rfl
theorem iq_string_Len_go (g : Nat) {w : World} {K : Value → World → Prop} (h : iq_string_Len_m g w K) : Rets Try.prog 62 #[.pointer (some ⟨g, 0, none⟩)] w K :=
  calls_of_fw plain mixed Try.func62 (by kernel_rfl) (by rw [iq_string_Len_eq]; exact h)
def iq_string_Room_m (g : Nat) (w : World) (K : Value → World → Prop) : Prop :=
  (false = true → K (Value.int IntKind.i64 (0 : Int)) w) ∧
  (false = false →
  ∃ (q1 : Option Addr),
  cellAt w (Addr.add { block := g, off := (0 : Nat) } (0 : Nat)) (Value.pointer q1) ∧
  Rets Try.prog (118 : Nat) { toList := [Value.pointer q1] } w fun (v1 : Value) (w1 : World) =>
  ∃ (n1 : Int), v1 = Value.int IntKind.i64 n1 ∧ K (Value.int IntKind.i64 n1) w1)
theorem iq_string_Room_eq (g : Nat) (w : World) (K : Value → World → Prop) : fw Try.prog Try.f99 (annL []) (ordL []) [.pointer (some ⟨g, 0, none⟩)] w K = iq_string_Room_m g w K := by kernel_rfl
theorem iq_string_Room_go (g : Nat) {w : World} {K : Value → World → Prop} (h : iq_string_Room_m g w K) : Rets Try.prog 99 #[.pointer (some ⟨g, 0, none⟩)] w K :=
  calls_of_fw plain mixed Try.func99 (by kernel_rfl) (by rw [iq_string_Room_eq]; exact h)
def iq_string_May_m (g : Nat) (w : World) (K : Value → World → Prop) : Prop :=
  Rets Try.prog (62 : Nat) { toList := [Value.pointer (some { block := g, off := (0 : Nat) })] } w
  fun (v1 : Value) (w1 : World) =>
  ∃ (n1 : Int),
  v1 = Value.int IntKind.i64 n1 ∧
  Rets Try.prog (99 : Nat) { toList := [Value.pointer (some { block := g, off := (0 : Nat) })] } w1
  fun (v2 : Value) (w2 : World) => ∃ (n2 : Int), v2 = Value.int IntKind.i64 n2 ∧ K (Value.bool (decide (n1 < n2))) w2
theorem iq_string_May_eq (g : Nat) (w : World) (K : Value → World → Prop) : fw Try.prog Try.f58 (annL []) (ordL []) [.pointer (some ⟨g, 0, none⟩)] w K = iq_string_May_m g w K := by kernel_rfl
theorem iq_string_May_go (g : Nat) {w : World} {K : Value → World → Prop} (h : iq_string_May_m g w K) : Rets Try.prog 58 #[.pointer (some ⟨g, 0, none⟩)] w K :=
  calls_of_fw plain mixed Try.func58 (by kernel_rfl) (by rw [iq_string_May_eq]; exact h)
def iq_string_Sent_m (g : Nat) (w : World) (K : Value → World → Prop) : Prop :=
  (false = true → K (Value.int IntKind.i64 (0 : Int)) w) ∧
  (false = false →
  ∃ (n1 : Int),
  cellAt w (Addr.add { block := g, off := (0 : Nat) } (8 : Nat)) (Value.int IntKind.i64 n1) ∧
  K (Value.int IntKind.i64 n1) w)
theorem iq_string_Sent_eq (g : Nat) (w : World) (K : Value → World → Prop) : fw Try.prog Try.f61 (annL []) (ordL []) [.pointer (some ⟨g, 0, none⟩)] w K = iq_string_Sent_m g w K := by kernel_rfl
theorem iq_string_Sent_go (g : Nat) {w : World} {K : Value → World → Prop} (h : iq_string_Sent_m g w K) : Rets Try.prog 61 #[.pointer (some ⟨g, 0, none⟩)] w K :=
  calls_of_fw plain mixed Try.func61 (by kernel_rfl) (by rw [iq_string_Sent_eq]; exact h)
def iq_string_Take_m (g : Nat) (w : World) (K : Value → World → Prop) : Prop :=
  NewR (99 : Nat)
  [Value.int IntKind.i64 (0 : Int), Value.int IntKind.u64 (0 : Int), Value.int IntKind.u64 (0 : Int),
  Value.string { data := #[] }, Value.int IntKind.i64 (0 : Int), Value.int IntKind.i64 (0 : Int),
  Value.int IntKind.i64 (0 : Int), Value.int IntKind.i64 (0 : Int), Value.int IntKind.i64 (0 : Int)]
  w fun (a1 : Addr) (w1 : World) =>
  (false = true →
  StoreR a1
  [Value.int IntKind.i64 (0 : Int), Value.int IntKind.u64 (0 : Int), Value.int IntKind.u64 (0 : Int),
  Value.string { data := #[] }, Value.int IntKind.i64 (0 : Int), Value.int IntKind.i64 (0 : Int),
  Value.int IntKind.i64 (0 : Int), Value.int IntKind.i64 (0 : Int), Value.int IntKind.i64 (0 : Int)]
  w1 fun (w2 : World) =>
  ∃ (n1 : Int),
  ∃ (n2 : Int),
  ∃ (n3 : Int),
  ∃ (s1 : ByteArray),
  ∃ (n4 : Int),
  ∃ (n5 : Int),
  ∃ (n6 : Int),
  ∃ (n7 : Int),
  ∃ (n8 : Int),
  (cellAt w2 (Addr.add a1 (0 : Nat)) (Value.int IntKind.i64 n1) ∧
  cellAt w2 (Addr.add a1 (1 : Nat)) (Value.int IntKind.u64 n2) ∧
  cellAt w2 (Addr.add a1 (2 : Nat)) (Value.int IntKind.u64 n3) ∧
  cellAt w2 (Addr.add a1 (3 : Nat)) (Value.string s1) ∧
  cellAt w2 (Addr.add a1 (4 : Nat)) (Value.int IntKind.i64 n4) ∧
  cellAt w2 (Addr.add a1 (5 : Nat)) (Value.int IntKind.i64 n5) ∧
  cellAt w2 (Addr.add a1 (6 : Nat)) (Value.int IntKind.i64 n6) ∧
  cellAt w2 (Addr.add a1 (7 : Nat)) (Value.int IntKind.i64 n7) ∧
  cellAt w2 (Addr.add a1 (8 : Nat)) (Value.int IntKind.i64 n8)) ∧
  K
  (Value.tuple
  {
  toList :=
  [Value.agg
  {
  toList :=
  [Value.int IntKind.i64 n1, Value.int IntKind.u64 n2, Value.int IntKind.u64 n3, Value.string s1,
  Value.int IntKind.i64 n4, Value.int IntKind.i64 n5, Value.int IntKind.i64 n6, Value.int IntKind.i64 n7,
  Value.int IntKind.i64 n8] },
  Value.bool false] })
  w2) ∧
  (false = false →
  ∃ (q1 : Option Addr),
  cellAt w1 (Addr.add { block := g, off := (0 : Nat) } (0 : Nat)) (Value.pointer q1) ∧
  Rets Try.prog (101 : Nat) { toList := [Value.pointer q1] } w1 fun (v1 : Value) (w3 : World) =>
  ∃ (n9 : Int),
  ∃ (n10 : Int),
  ∃ (n11 : Int),
  ∃ (s2 : ByteArray),
  ∃ (n12 : Int),
  ∃ (n13 : Int),
  ∃ (n14 : Int),
  ∃ (n15 : Int),
  ∃ (n16 : Int),
  ∃ (b1 : Bool),
  v1 =
  Value.tuple
  {
  toList :=
  [Value.agg
  {
  toList :=
  [Value.int IntKind.i64 n9, Value.int IntKind.u64 n10, Value.int IntKind.u64 n11, Value.string s2,
  Value.int IntKind.i64 n12, Value.int IntKind.i64 n13, Value.int IntKind.i64 n14, Value.int IntKind.i64 n15,
  Value.int IntKind.i64 n16] },
  Value.bool b1] } ∧
  NewR (99 : Nat)
  [Value.int IntKind.i64 (0 : Int), Value.int IntKind.u64 (0 : Int), Value.int IntKind.u64 (0 : Int),
  Value.string { data := #[] }, Value.int IntKind.i64 (0 : Int), Value.int IntKind.i64 (0 : Int),
  Value.int IntKind.i64 (0 : Int), Value.int IntKind.i64 (0 : Int), Value.int IntKind.i64 (0 : Int)]
  w3 fun (a2 : Addr) (w4 : World) =>
  StoreR a2
  [Value.int IntKind.i64 n9, Value.int IntKind.u64 n10, Value.int IntKind.u64 n11, Value.string s2,
  Value.int IntKind.i64 n12, Value.int IntKind.i64 n13, Value.int IntKind.i64 n14, Value.int IntKind.i64 n15,
  Value.int IntKind.i64 n16]
  w4 fun (w5 : World) =>
  (b1 = true →
  Drw w5 fun (w6 : World) =>
  ∃ (n17 : Int),
  cellAt w6 (Addr.add a2 (0 : Nat)) (Value.int IntKind.i64 n17) ∧
  (0 : Int) ≤ n17 ∧
  n17 < (↑(7 : Nat) : Int) ∧
  ∃ (n18 : Int),
  cellAt w6 (Addr.add (Addr.add { block := g, off := (0 : Nat) } (1 : Nat)) (Int.toNat n17 * (1 : Nat)))
  (Value.int IntKind.i64 n18) ∧
  (0 : Int) ≤ n17 ∧
  n17 < (↑(7 : Nat) : Int) ∧
  StoreR (Addr.add (Addr.add { block := g, off := (0 : Nat) } (1 : Nat)) (Int.toNat n17 * (1 : Nat)))
  [Value.int IntKind.i64 (IntKind.wrap IntKind.i64 (n18 - (1 : Int)))] w6 fun (w7 : World) =>
  ∃ (n19 : Int),
  ∃ (n20 : Int),
  ∃ (n21 : Int),
  ∃ (s3 : ByteArray),
  ∃ (n22 : Int),
  ∃ (n23 : Int),
  ∃ (n24 : Int),
  ∃ (n25 : Int),
  ∃ (n26 : Int),
  (cellAt w7 (Addr.add a2 (0 : Nat)) (Value.int IntKind.i64 n19) ∧
  cellAt w7 (Addr.add a2 (1 : Nat)) (Value.int IntKind.u64 n20) ∧
  cellAt w7 (Addr.add a2 (2 : Nat)) (Value.int IntKind.u64 n21) ∧
  cellAt w7 (Addr.add a2 (3 : Nat)) (Value.string s3) ∧
  cellAt w7 (Addr.add a2 (4 : Nat)) (Value.int IntKind.i64 n22) ∧
  cellAt w7 (Addr.add a2 (5 : Nat)) (Value.int IntKind.i64 n23) ∧
  cellAt w7 (Addr.add a2 (6 : Nat)) (Value.int IntKind.i64 n24) ∧
  cellAt w7 (Addr.add a2 (7 : Nat)) (Value.int IntKind.i64 n25) ∧
  cellAt w7 (Addr.add a2 (8 : Nat)) (Value.int IntKind.i64 n26)) ∧
  StoreR a1
  [Value.int IntKind.i64 n19, Value.int IntKind.u64 n20, Value.int IntKind.u64 n21, Value.string s3,
  Value.int IntKind.i64 n22, Value.int IntKind.i64 n23, Value.int IntKind.i64 n24, Value.int IntKind.i64 n25,
  Value.int IntKind.i64 n26]
  w7 fun (w8 : World) =>
  ∃ (n27 : Int),
  ∃ (n28 : Int),
  ∃ (n29 : Int),
  ∃ (s4 : ByteArray),
  ∃ (n30 : Int),
  ∃ (n31 : Int),
  ∃ (n32 : Int),
  ∃ (n33 : Int),
  ∃ (n34 : Int),
  (cellAt w8 (Addr.add a1 (0 : Nat)) (Value.int IntKind.i64 n27) ∧
  cellAt w8 (Addr.add a1 (1 : Nat)) (Value.int IntKind.u64 n28) ∧
  cellAt w8 (Addr.add a1 (2 : Nat)) (Value.int IntKind.u64 n29) ∧
  cellAt w8 (Addr.add a1 (3 : Nat)) (Value.string s4) ∧
  cellAt w8 (Addr.add a1 (4 : Nat)) (Value.int IntKind.i64 n30) ∧
  cellAt w8 (Addr.add a1 (5 : Nat)) (Value.int IntKind.i64 n31) ∧
  cellAt w8 (Addr.add a1 (6 : Nat)) (Value.int IntKind.i64 n32) ∧
  cellAt w8 (Addr.add a1 (7 : Nat)) (Value.int IntKind.i64 n33) ∧
  cellAt w8 (Addr.add a1 (8 : Nat)) (Value.int IntKind.i64 n34)) ∧
  K
  (Value.tuple
  {
  toList :=
  [Value.agg
  {
  toList :=
  [Value.int IntKind.i64 n27, Value.int IntKind.u64 n28, Value.int IntKind.u64 n29, Value.string s4,
  Value.int IntKind.i64 n30, Value.int IntKind.i64 n31, Value.int IntKind.i64 n32, Value.int IntKind.i64 n33,
  Value.int IntKind.i64 n34] },
  Value.bool b1] })
  w8) ∧
  (b1 = false →
  ∃ (n35 : Int),
  ∃ (n36 : Int),
  ∃ (n37 : Int),
  ∃ (s5 : ByteArray),
  ∃ (n38 : Int),
  ∃ (n39 : Int),
  ∃ (n40 : Int),
  ∃ (n41 : Int),
  ∃ (n42 : Int),
  (cellAt w5 (Addr.add a2 (0 : Nat)) (Value.int IntKind.i64 n35) ∧
  cellAt w5 (Addr.add a2 (1 : Nat)) (Value.int IntKind.u64 n36) ∧
  cellAt w5 (Addr.add a2 (2 : Nat)) (Value.int IntKind.u64 n37) ∧
  cellAt w5 (Addr.add a2 (3 : Nat)) (Value.string s5) ∧
  cellAt w5 (Addr.add a2 (4 : Nat)) (Value.int IntKind.i64 n38) ∧
  cellAt w5 (Addr.add a2 (5 : Nat)) (Value.int IntKind.i64 n39) ∧
  cellAt w5 (Addr.add a2 (6 : Nat)) (Value.int IntKind.i64 n40) ∧
  cellAt w5 (Addr.add a2 (7 : Nat)) (Value.int IntKind.i64 n41) ∧
  cellAt w5 (Addr.add a2 (8 : Nat)) (Value.int IntKind.i64 n42)) ∧
  StoreR a1
  [Value.int IntKind.i64 n35, Value.int IntKind.u64 n36, Value.int IntKind.u64 n37, Value.string s5,
  Value.int IntKind.i64 n38, Value.int IntKind.i64 n39, Value.int IntKind.i64 n40, Value.int IntKind.i64 n41,
  Value.int IntKind.i64 n42]
  w5 fun (w9 : World) =>
  ∃ (n43 : Int),
  ∃ (n44 : Int),
  ∃ (n45 : Int),
  ∃ (s6 : ByteArray),
  ∃ (n46 : Int),
  ∃ (n47 : Int),
  ∃ (n48 : Int),
  ∃ (n49 : Int),
  ∃ (n50 : Int),
  (cellAt w9 (Addr.add a1 (0 : Nat)) (Value.int IntKind.i64 n43) ∧
  cellAt w9 (Addr.add a1 (1 : Nat)) (Value.int IntKind.u64 n44) ∧
  cellAt w9 (Addr.add a1 (2 : Nat)) (Value.int IntKind.u64 n45) ∧
  cellAt w9 (Addr.add a1 (3 : Nat)) (Value.string s6) ∧
  cellAt w9 (Addr.add a1 (4 : Nat)) (Value.int IntKind.i64 n46) ∧
  cellAt w9 (Addr.add a1 (5 : Nat)) (Value.int IntKind.i64 n47) ∧
  cellAt w9 (Addr.add a1 (6 : Nat)) (Value.int IntKind.i64 n48) ∧
  cellAt w9 (Addr.add a1 (7 : Nat)) (Value.int IntKind.i64 n49) ∧
  cellAt w9 (Addr.add a1 (8 : Nat)) (Value.int IntKind.i64 n50)) ∧
  K
  (Value.tuple
  {
  toList :=
  [Value.agg
  {
  toList :=
  [Value.int IntKind.i64 n43, Value.int IntKind.u64 n44, Value.int IntKind.u64 n45, Value.string s6,
  Value.int IntKind.i64 n46, Value.int IntKind.i64 n47, Value.int IntKind.i64 n48, Value.int IntKind.i64 n49,
  Value.int IntKind.i64 n50] },
  Value.bool b1] })
  w9))
theorem iq_string_Take_eq (g : Nat) (w : World) (K : Value → World → Prop) : fw Try.prog Try.f60 (annL []) (ordL [(5, [(0, 0), (1, 0), (3, 0), (4, 0), (8, 0), (9, 0), (2, 1), (5, 0), (6, 1), (7, 0), (10, 0), (11, 3)])]) [.pointer (some ⟨g, 0, none⟩)] w K = iq_string_Take_m g w K := by kernel_rfl
theorem iq_string_Take_go (g : Nat) {w : World} {K : Value → World → Prop} (h : iq_string_Take_m g w K) : Rets Try.prog 60 #[.pointer (some ⟨g, 0, none⟩)] w K :=
  calls_of_fw plain mixed Try.func60 (by kernel_rfl) (by rw [iq_string_Take_eq]; exact h)
def iq_string_Offer_m (g : Nat) (k p c  n e o u d : Int) (v : ByteArray) (w : World) (K : Value → World → Prop) : Prop :=
  NewR (99 : Nat)
  [Value.int IntKind.i64 k, Value.int IntKind.u64 p, Value.int IntKind.u64 c, Value.string v, Value.int IntKind.i64 n,
  Value.int IntKind.i64 e, Value.int IntKind.i64 o, Value.int IntKind.i64 u, Value.int IntKind.i64 d]
  w fun (a1 : Addr) (w1 : World) =>
  (false = false →
  ∃ (n1 : Int),
  cellAt w1 (Addr.add a1 (0 : Nat)) (Value.int IntKind.i64 n1) ∧
  Rets Try.prog (55 : Nat) { toList := [Value.int IntKind.i64 n1] } w1 fun (v1 : Value) (w2 : World) =>
  ∃ (b1 : Bool),
  v1 = Value.bool b1 ∧
  ((!b1) = true → K (Value.bool false) w2) ∧
  ((!b1) = false →
  Drw w2 fun (w3 : World) =>
  ∃ (q1 : Option Addr),
  cellAt w3 (Addr.add { block := g, off := (0 : Nat) } (0 : Nat)) (Value.pointer q1) ∧
  ∃ (n2 : Int),
  ∃ (n3 : Int),
  ∃ (n4 : Int),
  ∃ (s1 : ByteArray),
  ∃ (n5 : Int),
  ∃ (n6 : Int),
  ∃ (n7 : Int),
  ∃ (n8 : Int),
  ∃ (n9 : Int),
  (cellAt w3 (Addr.add a1 (0 : Nat)) (Value.int IntKind.i64 n2) ∧
  cellAt w3 (Addr.add a1 (1 : Nat)) (Value.int IntKind.u64 n3) ∧
  cellAt w3 (Addr.add a1 (2 : Nat)) (Value.int IntKind.u64 n4) ∧
  cellAt w3 (Addr.add a1 (3 : Nat)) (Value.string s1) ∧
  cellAt w3 (Addr.add a1 (4 : Nat)) (Value.int IntKind.i64 n5) ∧
  cellAt w3 (Addr.add a1 (5 : Nat)) (Value.int IntKind.i64 n6) ∧
  cellAt w3 (Addr.add a1 (6 : Nat)) (Value.int IntKind.i64 n7) ∧
  cellAt w3 (Addr.add a1 (7 : Nat)) (Value.int IntKind.i64 n8) ∧
  cellAt w3 (Addr.add a1 (8 : Nat)) (Value.int IntKind.i64 n9)) ∧
  Rets Try.prog (100 : Nat)
  {
  toList :=
  [Value.pointer q1,
  Value.agg
  {
  toList :=
  [Value.int IntKind.i64 n2, Value.int IntKind.u64 n3, Value.int IntKind.u64 n4, Value.string s1,
  Value.int IntKind.i64 n5, Value.int IntKind.i64 n6, Value.int IntKind.i64 n7, Value.int IntKind.i64 n8,
  Value.int IntKind.i64 n9] }] }
  w3 fun (v2 : Value) (w4 : World) =>
  ∃ (b2 : Bool),
  v2 = Value.bool b2 ∧
  ((!b2) = true →
  ∃ (n10 : Int),
  cellAt w4 (Addr.add { block := g, off := (0 : Nat) } (9 : Nat)) (Value.int IntKind.i64 n10) ∧
  StoreR (Addr.add { block := g, off := (0 : Nat) } (9 : Nat))
  [Value.int IntKind.i64 (IntKind.wrap IntKind.i64 (n10 + (1 : Int)))] w4 fun (w5 : World) => K (Value.bool false) w5) ∧
  ((!b2) = false →
  Drw w4 fun (w6 : World) =>
  ∃ (n11 : Int),
  cellAt w6 (Addr.add a1 (0 : Nat)) (Value.int IntKind.i64 n11) ∧
  (0 : Int) ≤ n11 ∧
  n11 < (↑(7 : Nat) : Int) ∧
  ∃ (n12 : Int),
  cellAt w6 (Addr.add (Addr.add { block := g, off := (0 : Nat) } (1 : Nat)) (Int.toNat n11 * (1 : Nat)))
  (Value.int IntKind.i64 n12) ∧
  (0 : Int) ≤ n11 ∧
  n11 < (↑(7 : Nat) : Int) ∧
  StoreR (Addr.add (Addr.add { block := g, off := (0 : Nat) } (1 : Nat)) (Int.toNat n11 * (1 : Nat)))
  [Value.int IntKind.i64 (IntKind.wrap IntKind.i64 (n12 + (1 : Int)))] w6 fun (w7 : World) =>
  ∃ (n13 : Int),
  cellAt w7 (Addr.add { block := g, off := (0 : Nat) } (8 : Nat)) (Value.int IntKind.i64 n13) ∧
  StoreR (Addr.add { block := g, off := (0 : Nat) } (8 : Nat))
  [Value.int IntKind.i64 (IntKind.wrap IntKind.i64 (n13 + (1 : Int)))] w7 fun (w8 : World) => K (Value.bool true) w8))) ∧
  (false = true → K (Value.bool false) w1)
theorem iq_string_Offer_eq (g : Nat) (k p c  n e o u d : Int) (v : ByteArray) (w : World) (K : Value → World → Prop) : fw Try.prog Try.f59 (annL []) (ordL [(3, [(0, 0), (1, 0), (2, 0), (3, 1), (4, 1), (5, 3), (6, 0)]), (6, [(0, 0), (1, 0), (3, 0), (4, 0), (8, 0), (9, 0), (2, 1), (5, 0), (6, 1), (7, 0), (10, 0), (11, 3)])]) [.pointer (some ⟨g, 0, none⟩), .agg #[.int .i64 k, .int .u64 p, .int .u64 c, .string v, .int .i64 n, .int .i64 e, .int .i64 o, .int .i64 u, .int .i64 d]] w K = iq_string_Offer_m g k p c n e o u d v w K := by kernel_rfl
theorem iq_string_Offer_go (g : Nat) (k p c  n e o u d : Int) (v : ByteArray) {w : World} {K : Value → World → Prop} (h : iq_string_Offer_m g k p c n e o u d v w K) : Rets Try.prog 59 #[.pointer (some ⟨g, 0, none⟩), .agg #[.int .i64 k, .int .u64 p, .int .u64 c, .string v, .int .i64 n, .int .i64 e, .int .i64 o, .int .i64 u, .int .i64 d]] w K :=
  calls_of_fw plain mixed Try.func59 (by kernel_rfl) (by rw [iq_string_Offer_eq]; exact h)
def cortadoref28_New_m (room : Int) (w : World) (K : Value → World → Prop) : Prop :=
  NewR (74 : Nat)
  [Value.slice none (0 : Nat) (0 : Nat), Value.int IntKind.i64 (0 : Int), Value.int IntKind.i64 (0 : Int),
  Value.int IntKind.i64 (0 : Int)]
  w fun (a1 : Addr) (w1 : World) =>
  StoreR a1
  [Value.slice none (0 : Nat) (0 : Nat), Value.int IntKind.i64 (maxI (1 : Int) (minI room (64 : Int))),
  Value.int IntKind.i64 (0 : Int), Value.int IntKind.i64 (0 : Int)]
  w1 fun (w2 : World) =>
  ∃ (q1 : Option Addr),
  ∃ (k1 : Nat),
  ∃ (k2 : Nat),
  ∃ (n1 : Int),
  ∃ (n2 : Int),
  ∃ (n3 : Int),
  (cellAt w2 (Addr.add a1 (0 : Nat)) (Value.slice q1 k1 k2) ∧
  cellAt w2 (Addr.add a1 (1 : Nat)) (Value.int IntKind.i64 n1) ∧
  cellAt w2 (Addr.add a1 (2 : Nat)) (Value.int IntKind.i64 n2) ∧
  cellAt w2 (Addr.add a1 (3 : Nat)) (Value.int IntKind.i64 n3)) ∧
  K
  (Value.agg
  { toList := [Value.slice q1 k1 k2, Value.int IntKind.i64 n1, Value.int IntKind.i64 n2, Value.int IntKind.i64 n3] })
  w2
theorem cortadoref28_New_eq (room : Int) (w : World) (K : Value → World → Prop) : fw Try.prog Try.f41 (annL []) (ordL []) [.int .i64 room] w K = cortadoref28_New_m room w K := by kernel_rfl
theorem cortadoref28_New_go (room : Int) {w : World} {K : Value → World → Prop} (h : cortadoref28_New_m room w K) : Rets Try.prog 41 #[.int .i64 room] w K :=
  calls_of_fw plain mixed Try.func41 (by kernel_rfl) (by rw [cortadoref28_New_eq]; exact h)
def cortadoref28_Take_m (q : Option Addr) (l c : Nat) (room sent full : Int) (w : World) (K : Value → World → Prop) : Prop :=
  NewR (74 : Nat) [Value.slice q l c, Value.int IntKind.i64 room, Value.int IntKind.i64 sent, Value.int IntKind.i64 full]
  w fun (a1 : Addr) (w1 : World) =>
  NewR (74 : Nat)
  [Value.slice none (0 : Nat) (0 : Nat), Value.int IntKind.i64 (0 : Int), Value.int IntKind.i64 (0 : Int),
  Value.int IntKind.i64 (0 : Int)]
  w1 fun (a2 : Addr) (w2 : World) =>
  NewR (80 : Nat)
  [Value.int IntKind.i64 (0 : Int), Value.int IntKind.u64 (0 : Int), Value.int IntKind.u64 (0 : Int),
  Value.int IntKind.i64 (0 : Int), Value.int IntKind.i64 (0 : Int), Value.int IntKind.i64 (0 : Int),
  Value.int IntKind.i64 (0 : Int), Value.int IntKind.i64 (0 : Int), Value.int IntKind.i64 (0 : Int)]
  w2 fun (a3 : Addr) (w3 : World) =>
  ∃ (q1 : Option Addr),
  ∃ (k1 : Nat),
  ∃ (k2 : Nat),
  cellAt w3 (Addr.add a1 (0 : Nat)) (Value.slice q1 k1 k2) ∧
  (((↑k1 : Int) == (0 : Int)) = true →
  ∃ (q2 : Option Addr),
  ∃ (k3 : Nat),
  ∃ (k4 : Nat),
  ∃ (n1 : Int),
  ∃ (n2 : Int),
  ∃ (n3 : Int),
  (cellAt w3 (Addr.add a1 (0 : Nat)) (Value.slice q2 k3 k4) ∧
  cellAt w3 (Addr.add a1 (1 : Nat)) (Value.int IntKind.i64 n1) ∧
  cellAt w3 (Addr.add a1 (2 : Nat)) (Value.int IntKind.i64 n2) ∧
  cellAt w3 (Addr.add a1 (3 : Nat)) (Value.int IntKind.i64 n3)) ∧
  StoreR a2 [Value.slice q2 k3 k4, Value.int IntKind.i64 n1, Value.int IntKind.i64 n2, Value.int IntKind.i64 n3] w3
  fun (w4 : World) =>
  StoreR a3
  [Value.int IntKind.i64 (0 : Int), Value.int IntKind.u64 (0 : Int), Value.int IntKind.u64 (0 : Int),
  Value.int IntKind.i64 (0 : Int), Value.int IntKind.i64 (0 : Int), Value.int IntKind.i64 (0 : Int),
  Value.int IntKind.i64 (0 : Int), Value.int IntKind.i64 (0 : Int), Value.int IntKind.i64 (0 : Int)]
  w4 fun (w5 : World) =>
  ∃ (q3 : Option Addr),
  ∃ (k5 : Nat),
  ∃ (k6 : Nat),
  ∃ (n4 : Int),
  ∃ (n5 : Int),
  ∃ (n6 : Int),
  (cellAt w5 (Addr.add a2 (0 : Nat)) (Value.slice q3 k5 k6) ∧
  cellAt w5 (Addr.add a2 (1 : Nat)) (Value.int IntKind.i64 n4) ∧
  cellAt w5 (Addr.add a2 (2 : Nat)) (Value.int IntKind.i64 n5) ∧
  cellAt w5 (Addr.add a2 (3 : Nat)) (Value.int IntKind.i64 n6)) ∧
  ∃ (n7 : Int),
  ∃ (n8 : Int),
  ∃ (n9 : Int),
  ∃ (n10 : Int),
  ∃ (n11 : Int),
  ∃ (n12 : Int),
  ∃ (n13 : Int),
  ∃ (n14 : Int),
  ∃ (n15 : Int),
  (cellAt w5 (Addr.add a3 (0 : Nat)) (Value.int IntKind.i64 n7) ∧
  cellAt w5 (Addr.add a3 (1 : Nat)) (Value.int IntKind.u64 n8) ∧
  cellAt w5 (Addr.add a3 (2 : Nat)) (Value.int IntKind.u64 n9) ∧
  cellAt w5 (Addr.add a3 (3 : Nat)) (Value.int IntKind.i64 n10) ∧
  cellAt w5 (Addr.add a3 (4 : Nat)) (Value.int IntKind.i64 n11) ∧
  cellAt w5 (Addr.add a3 (5 : Nat)) (Value.int IntKind.i64 n12) ∧
  cellAt w5 (Addr.add a3 (6 : Nat)) (Value.int IntKind.i64 n13) ∧
  cellAt w5 (Addr.add a3 (7 : Nat)) (Value.int IntKind.i64 n14) ∧
  cellAt w5 (Addr.add a3 (8 : Nat)) (Value.int IntKind.i64 n15)) ∧
  K
  (Value.tuple
  {
  toList :=
  [Value.agg
  { toList := [Value.slice q3 k5 k6, Value.int IntKind.i64 n4, Value.int IntKind.i64 n5, Value.int IntKind.i64 n6] },
  Value.agg
  {
  toList :=
  [Value.int IntKind.i64 n7, Value.int IntKind.u64 n8, Value.int IntKind.u64 n9, Value.int IntKind.i64 n10,
  Value.int IntKind.i64 n11, Value.int IntKind.i64 n12, Value.int IntKind.i64 n13, Value.int IntKind.i64 n14,
  Value.int IntKind.i64 n15] },
  Value.bool false] })
  w5) ∧
  (((↑k1 : Int) == (0 : Int)) = false →
  ∃ (q4 : Option Addr),
  ∃ (k7 : Nat),
  ∃ (k8 : Nat),
  cellAt w3 (Addr.add a1 (0 : Nat)) (Value.slice q4 k7 k8) ∧
  (0 : Int) ≤ (0 : Int) ∧
  (0 : Int) < (↑k7 : Int) ∧
  someR q4 fun (a4 : Addr) =>
  ∃ (n16 : Int),
  ∃ (n17 : Int),
  ∃ (n18 : Int),
  ∃ (n19 : Int),
  ∃ (n20 : Int),
  ∃ (n21 : Int),
  ∃ (n22 : Int),
  ∃ (n23 : Int),
  ∃ (n24 : Int),
  (cellAt w3 (Addr.add (Addr.add a4 (0 : Nat)) (0 : Nat)) (Value.int IntKind.i64 n16) ∧
  cellAt w3 (Addr.add (Addr.add a4 (0 : Nat)) (1 : Nat)) (Value.int IntKind.u64 n17) ∧
  cellAt w3 (Addr.add (Addr.add a4 (0 : Nat)) (2 : Nat)) (Value.int IntKind.u64 n18) ∧
  cellAt w3 (Addr.add (Addr.add a4 (0 : Nat)) (3 : Nat)) (Value.int IntKind.i64 n19) ∧
  cellAt w3 (Addr.add (Addr.add a4 (0 : Nat)) (4 : Nat)) (Value.int IntKind.i64 n20) ∧
  cellAt w3 (Addr.add (Addr.add a4 (0 : Nat)) (5 : Nat)) (Value.int IntKind.i64 n21) ∧
  cellAt w3 (Addr.add (Addr.add a4 (0 : Nat)) (6 : Nat)) (Value.int IntKind.i64 n22) ∧
  cellAt w3 (Addr.add (Addr.add a4 (0 : Nat)) (7 : Nat)) (Value.int IntKind.i64 n23) ∧
  cellAt w3 (Addr.add (Addr.add a4 (0 : Nat)) (8 : Nat)) (Value.int IntKind.i64 n24)) ∧
  NewR (80 : Nat)
  [Value.int IntKind.i64 (0 : Int), Value.int IntKind.u64 (0 : Int), Value.int IntKind.u64 (0 : Int),
  Value.int IntKind.i64 (0 : Int), Value.int IntKind.i64 (0 : Int), Value.int IntKind.i64 (0 : Int),
  Value.int IntKind.i64 (0 : Int), Value.int IntKind.i64 (0 : Int), Value.int IntKind.i64 (0 : Int)]
  w3 fun (a5 : Addr) (w6 : World) =>
  StoreR a5
  [Value.int IntKind.i64 n16, Value.int IntKind.u64 n17, Value.int IntKind.u64 n18, Value.int IntKind.i64 n19,
  Value.int IntKind.i64 n20, Value.int IntKind.i64 n21, Value.int IntKind.i64 n22, Value.int IntKind.i64 n23,
  Value.int IntKind.i64 n24]
  w6 fun (w7 : World) =>
  ∃ (q5 : Option Addr),
  ∃ (k9 : Nat),
  ∃ (k10 : Nat),
  cellAt w7 (Addr.add a1 (0 : Nat)) (Value.slice q5 k9 k10) ∧
  (0 : Int) ≤ (1 : Int) ∧
  (1 : Int) ≤ (↑k9 : Int) ∧
  StoreR (Addr.add a1 (0 : Nat)) [Value.slice (slcA q5 (1 : Nat) k10 (9 : Nat)) (k9 - (1 : Nat)) (k10 - (1 : Nat))] w7
  fun (w8 : World) =>
  Drw w8 fun (w9 : World) =>
  ∃ (h1 : World → Prop),
  h1 w9 ∧
  ∃ (q6 : Option Addr),
  ∃ (k11 : Nat),
  ∃ (k12 : Nat),
  ∃ (n25 : Int),
  ∃ (n26 : Int),
  ∃ (n27 : Int),
  ((∀ (w10 : World), h1 w10 → World.cell? w10 (Addr.add a1 (0 : Nat)) = some (Value.slice q6 k11 k12)) ∧
  (∀ (w11 : World), h1 w11 → World.cell? w11 (Addr.add a1 ((0 : Nat) + (1 : Nat))) = some (Value.int IntKind.i64 n25)) ∧
  (∀ (w12 : World),
  h1 w12 → World.cell? w12 (Addr.add a1 ((0 : Nat) + (1 : Nat) + (1 : Nat))) = some (Value.int IntKind.i64 n26)) ∧
  ∀ (w13 : World),
  h1 w13 →
  World.cell? w13 (Addr.add a1 ((0 : Nat) + (1 : Nat) + (1 : Nat) + (1 : Nat))) = some (Value.int IntKind.i64 n27)) ∧
  ∃ (n28 : Int),
  ∃ (n29 : Int),
  ∃ (n30 : Int),
  ∃ (n31 : Int),
  ∃ (n32 : Int),
  ∃ (n33 : Int),
  ∃ (n34 : Int),
  ∃ (n35 : Int),
  ∃ (n36 : Int),
  ((∀ (w14 : World), h1 w14 → World.cell? w14 (Addr.add a5 (0 : Nat)) = some (Value.int IntKind.i64 n28)) ∧
  (∀ (w15 : World), h1 w15 → World.cell? w15 (Addr.add a5 ((0 : Nat) + (1 : Nat))) = some (Value.int IntKind.u64 n29)) ∧
  (∀ (w16 : World),
  h1 w16 → World.cell? w16 (Addr.add a5 ((0 : Nat) + (1 : Nat) + (1 : Nat))) = some (Value.int IntKind.u64 n30)) ∧
  (∀ (w17 : World),
  h1 w17 →
  World.cell? w17 (Addr.add a5 ((0 : Nat) + (1 : Nat) + (1 : Nat) + (1 : Nat))) = some (Value.int IntKind.i64 n31)) ∧
  (∀ (w18 : World),
  h1 w18 →
  World.cell? w18 (Addr.add a5 ((0 : Nat) + (1 : Nat) + (1 : Nat) + (1 : Nat) + (1 : Nat))) =
  some (Value.int IntKind.i64 n32)) ∧
  (∀ (w19 : World),
  h1 w19 →
  World.cell? w19 (Addr.add a5 ((0 : Nat) + (1 : Nat) + (1 : Nat) + (1 : Nat) + (1 : Nat) + (1 : Nat))) =
  some (Value.int IntKind.i64 n33)) ∧
  (∀ (w20 : World),
  h1 w20 →
  World.cell? w20 (Addr.add a5 ((0 : Nat) + (1 : Nat) + (1 : Nat) + (1 : Nat) + (1 : Nat) + (1 : Nat) + (1 : Nat))) =
  some (Value.int IntKind.i64 n34)) ∧
  (∀ (w21 : World),
  h1 w21 →
  World.cell? w21
  (Addr.add a5 ((0 : Nat) + (1 : Nat) + (1 : Nat) + (1 : Nat) + (1 : Nat) + (1 : Nat) + (1 : Nat) + (1 : Nat))) =
  some (Value.int IntKind.i64 n35)) ∧
  ∀ (w22 : World),
  h1 w22 →
  World.cell? w22
  (Addr.add a5
  ((0 : Nat) + (1 : Nat) + (1 : Nat) + (1 : Nat) + (1 : Nat) + (1 : Nat) + (1 : Nat) + (1 : Nat) + (1 : Nat))) =
  some (Value.int IntKind.i64 n36)) ∧
  StoreR a2 [Value.slice q6 k11 k12, Value.int IntKind.i64 n25, Value.int IntKind.i64 n26, Value.int IntKind.i64 n27] w9
  fun (w23 : World) =>
  h1 w23 ∧
  StoreR a3
  [Value.int IntKind.i64 n28, Value.int IntKind.u64 n29, Value.int IntKind.u64 n30, Value.int IntKind.i64 n31,
  Value.int IntKind.i64 n32, Value.int IntKind.i64 n33, Value.int IntKind.i64 n34, Value.int IntKind.i64 n35,
  Value.int IntKind.i64 n36]
  w23 fun (w24 : World) =>
  ∃ (q7 : Option Addr),
  ∃ (k13 : Nat),
  ∃ (k14 : Nat),
  ∃ (n37 : Int),
  ∃ (n38 : Int),
  ∃ (n39 : Int),
  (cellAt w24 (Addr.add a2 (0 : Nat)) (Value.slice q7 k13 k14) ∧
  cellAt w24 (Addr.add a2 (1 : Nat)) (Value.int IntKind.i64 n37) ∧
  cellAt w24 (Addr.add a2 (2 : Nat)) (Value.int IntKind.i64 n38) ∧
  cellAt w24 (Addr.add a2 (3 : Nat)) (Value.int IntKind.i64 n39)) ∧
  ∃ (n40 : Int),
  ∃ (n41 : Int),
  ∃ (n42 : Int),
  ∃ (n43 : Int),
  ∃ (n44 : Int),
  ∃ (n45 : Int),
  ∃ (n46 : Int),
  ∃ (n47 : Int),
  ∃ (n48 : Int),
  (cellAt w24 (Addr.add a3 (0 : Nat)) (Value.int IntKind.i64 n40) ∧
  cellAt w24 (Addr.add a3 (1 : Nat)) (Value.int IntKind.u64 n41) ∧
  cellAt w24 (Addr.add a3 (2 : Nat)) (Value.int IntKind.u64 n42) ∧
  cellAt w24 (Addr.add a3 (3 : Nat)) (Value.int IntKind.i64 n43) ∧
  cellAt w24 (Addr.add a3 (4 : Nat)) (Value.int IntKind.i64 n44) ∧
  cellAt w24 (Addr.add a3 (5 : Nat)) (Value.int IntKind.i64 n45) ∧
  cellAt w24 (Addr.add a3 (6 : Nat)) (Value.int IntKind.i64 n46) ∧
  cellAt w24 (Addr.add a3 (7 : Nat)) (Value.int IntKind.i64 n47) ∧
  cellAt w24 (Addr.add a3 (8 : Nat)) (Value.int IntKind.i64 n48)) ∧
  K
  (Value.tuple
  {
  toList :=
  [Value.agg
  { toList := [Value.slice q7 k13 k14, Value.int IntKind.i64 n37, Value.int IntKind.i64 n38, Value.int IntKind.i64 n39] },
  Value.agg
  {
  toList :=
  [Value.int IntKind.i64 n40, Value.int IntKind.u64 n41, Value.int IntKind.u64 n42, Value.int IntKind.i64 n43,
  Value.int IntKind.i64 n44, Value.int IntKind.i64 n45, Value.int IntKind.i64 n46, Value.int IntKind.i64 n47,
  Value.int IntKind.i64 n48] },
  Value.bool true] })
  w24)
theorem cortadoref28_Take_eq (q : Option Addr) (l c : Nat) (room sent full : Int) (w : World) (K : Value → World → Prop) : fw Try.prog Try.f42 (annL []) (ordL [(5, [(0, 1), (1, 1), (2, 2), (3, 3), (4, 0)])]) [.agg #[.slice q l c, .int .i64 room, .int .i64 sent, .int .i64 full]] w K = cortadoref28_Take_m q l c room sent full w K := by kernel_rfl
theorem cortadoref28_Take_go (q : Option Addr) (l c : Nat) (room sent full : Int) {w : World} {K : Value → World → Prop} (h : cortadoref28_Take_m q l c room sent full w K) : Rets Try.prog 42 #[.agg #[.slice q l c, .int .i64 room, .int .i64 sent, .int .i64 full]] w K :=
  calls_of_fw plain mixed Try.func42 (by kernel_rfl) (by rw [cortadoref28_Take_eq]; exact h)
def cortadoref28_Offer_m (q : Option Addr) (l c0 : Nat) (room sent full : Int) (k p c v n e o u d : Int) (w : World) (K : Value → World → Prop) : Prop :=
  NewR (74 : Nat) [Value.slice q l c0, Value.int IntKind.i64 room, Value.int IntKind.i64 sent, Value.int IntKind.i64 full]
  w fun (a1 : Addr) (w1 : World) =>
  NewR (80 : Nat)
  [Value.int IntKind.i64 k, Value.int IntKind.u64 p, Value.int IntKind.u64 c, Value.int IntKind.i64 v,
  Value.int IntKind.i64 n, Value.int IntKind.i64 e, Value.int IntKind.i64 o, Value.int IntKind.i64 u,
  Value.int IntKind.i64 d]
  w1 fun (a2 : Addr) (w2 : World) =>
  NewR (74 : Nat)
  [Value.slice none (0 : Nat) (0 : Nat), Value.int IntKind.i64 (0 : Int), Value.int IntKind.i64 (0 : Int),
  Value.int IntKind.i64 (0 : Int)]
  w2 fun (a3 : Addr) (w3 : World) =>
  ∃ (n1 : Int),
  cellAt w3 (Addr.add a2 (0 : Nat)) (Value.int IntKind.i64 n1) ∧
  (decide (n1 < (1 : Int)) = false →
  ∃ (n2 : Int),
  cellAt w3 (Addr.add a2 (0 : Nat)) (Value.int IntKind.i64 n2) ∧
  (decide (n2 > (6 : Int)) = true →
  ∃ (q1 : Option Addr),
  ∃ (k1 : Nat),
  ∃ (k2 : Nat),
  ∃ (n3 : Int),
  ∃ (n4 : Int),
  ∃ (n5 : Int),
  (cellAt w3 (Addr.add a1 (0 : Nat)) (Value.slice q1 k1 k2) ∧
  cellAt w3 (Addr.add a1 (1 : Nat)) (Value.int IntKind.i64 n3) ∧
  cellAt w3 (Addr.add a1 (2 : Nat)) (Value.int IntKind.i64 n4) ∧
  cellAt w3 (Addr.add a1 (3 : Nat)) (Value.int IntKind.i64 n5)) ∧
  StoreR a3 [Value.slice q1 k1 k2, Value.int IntKind.i64 n3, Value.int IntKind.i64 n4, Value.int IntKind.i64 n5] w3
  fun (w4 : World) =>
  ∃ (q2 : Option Addr),
  ∃ (k3 : Nat),
  ∃ (k4 : Nat),
  ∃ (n6 : Int),
  ∃ (n7 : Int),
  ∃ (n8 : Int),
  (cellAt w4 (Addr.add a3 (0 : Nat)) (Value.slice q2 k3 k4) ∧
  cellAt w4 (Addr.add a3 (1 : Nat)) (Value.int IntKind.i64 n6) ∧
  cellAt w4 (Addr.add a3 (2 : Nat)) (Value.int IntKind.i64 n7) ∧
  cellAt w4 (Addr.add a3 (3 : Nat)) (Value.int IntKind.i64 n8)) ∧
  K
  (Value.tuple
  {
  toList :=
  [Value.agg
  { toList := [Value.slice q2 k3 k4, Value.int IntKind.i64 n6, Value.int IntKind.i64 n7, Value.int IntKind.i64 n8] },
  Value.bool false] })
  w4) ∧
  (decide (n2 > (6 : Int)) = false →
  ∃ (q3 : Option Addr),
  ∃ (k5 : Nat),
  ∃ (k6 : Nat),
  cellAt w3 (Addr.add a1 (0 : Nat)) (Value.slice q3 k5 k6) ∧
  ∃ (n9 : Int),
  cellAt w3 (Addr.add a1 (1 : Nat)) (Value.int IntKind.i64 n9) ∧
  (decide ((↑k5 : Int) ≥ n9) = true →
  ∃ (n10 : Int),
  cellAt w3 (Addr.add a1 (3 : Nat)) (Value.int IntKind.i64 n10) ∧
  StoreR (Addr.add a1 (3 : Nat)) [Value.int IntKind.i64 (IntKind.wrap IntKind.i64 (n10 + (1 : Int)))] w3
  fun (w5 : World) =>
  ∃ (q4 : Option Addr),
  ∃ (k7 : Nat),
  ∃ (k8 : Nat),
  ∃ (n11 : Int),
  ∃ (n12 : Int),
  ∃ (n13 : Int),
  (cellAt w5 (Addr.add a1 (0 : Nat)) (Value.slice q4 k7 k8) ∧
  cellAt w5 (Addr.add a1 (1 : Nat)) (Value.int IntKind.i64 n11) ∧
  cellAt w5 (Addr.add a1 (2 : Nat)) (Value.int IntKind.i64 n12) ∧
  cellAt w5 (Addr.add a1 (3 : Nat)) (Value.int IntKind.i64 n13)) ∧
  StoreR a3 [Value.slice q4 k7 k8, Value.int IntKind.i64 n11, Value.int IntKind.i64 n12, Value.int IntKind.i64 n13] w5
  fun (w6 : World) =>
  ∃ (q5 : Option Addr),
  ∃ (k9 : Nat),
  ∃ (k10 : Nat),
  ∃ (n14 : Int),
  ∃ (n15 : Int),
  ∃ (n16 : Int),
  (cellAt w6 (Addr.add a3 (0 : Nat)) (Value.slice q5 k9 k10) ∧
  cellAt w6 (Addr.add a3 (1 : Nat)) (Value.int IntKind.i64 n14) ∧
  cellAt w6 (Addr.add a3 (2 : Nat)) (Value.int IntKind.i64 n15) ∧
  cellAt w6 (Addr.add a3 (3 : Nat)) (Value.int IntKind.i64 n16)) ∧
  K
  (Value.tuple
  {
  toList :=
  [Value.agg
  { toList := [Value.slice q5 k9 k10, Value.int IntKind.i64 n14, Value.int IntKind.i64 n15, Value.int IntKind.i64 n16] },
  Value.bool false] })
  w6) ∧
  (decide ((↑k5 : Int) ≥ n9) = false →
  Drw w3 fun (w7 : World) =>
  ∃ (h1 : World → Prop),
  h1 w7 ∧
  ∃ (q6 : Option Addr),
  ∃ (k11 : Nat),
  ∃ (k12 : Nat),
  (∀ (w8 : World), h1 w8 → World.cell? w8 (Addr.add a1 (0 : Nat)) = some (Value.slice q6 k11 k12)) ∧
  ∃ (n17 : Int),
  ∃ (n18 : Int),
  ∃ (n19 : Int),
  ∃ (n20 : Int),
  ∃ (n21 : Int),
  ∃ (n22 : Int),
  ∃ (n23 : Int),
  ∃ (n24 : Int),
  ∃ (n25 : Int),
  ((∀ (w9 : World), h1 w9 → World.cell? w9 (Addr.add a2 (0 : Nat)) = some (Value.int IntKind.i64 n17)) ∧
  (∀ (w10 : World), h1 w10 → World.cell? w10 (Addr.add a2 ((0 : Nat) + (1 : Nat))) = some (Value.int IntKind.u64 n18)) ∧
  (∀ (w11 : World),
  h1 w11 → World.cell? w11 (Addr.add a2 ((0 : Nat) + (1 : Nat) + (1 : Nat))) = some (Value.int IntKind.u64 n19)) ∧
  (∀ (w12 : World),
  h1 w12 →
  World.cell? w12 (Addr.add a2 ((0 : Nat) + (1 : Nat) + (1 : Nat) + (1 : Nat))) = some (Value.int IntKind.i64 n20)) ∧
  (∀ (w13 : World),
  h1 w13 →
  World.cell? w13 (Addr.add a2 ((0 : Nat) + (1 : Nat) + (1 : Nat) + (1 : Nat) + (1 : Nat))) =
  some (Value.int IntKind.i64 n21)) ∧
  (∀ (w14 : World),
  h1 w14 →
  World.cell? w14 (Addr.add a2 ((0 : Nat) + (1 : Nat) + (1 : Nat) + (1 : Nat) + (1 : Nat) + (1 : Nat))) =
  some (Value.int IntKind.i64 n22)) ∧
  (∀ (w15 : World),
  h1 w15 →
  World.cell? w15 (Addr.add a2 ((0 : Nat) + (1 : Nat) + (1 : Nat) + (1 : Nat) + (1 : Nat) + (1 : Nat) + (1 : Nat))) =
  some (Value.int IntKind.i64 n23)) ∧
  (∀ (w16 : World),
  h1 w16 →
  World.cell? w16
  (Addr.add a2 ((0 : Nat) + (1 : Nat) + (1 : Nat) + (1 : Nat) + (1 : Nat) + (1 : Nat) + (1 : Nat) + (1 : Nat))) =
  some (Value.int IntKind.i64 n24)) ∧
  ∀ (w17 : World),
  h1 w17 →
  World.cell? w17
  (Addr.add a2
  ((0 : Nat) + (1 : Nat) + (1 : Nat) + (1 : Nat) + (1 : Nat) + (1 : Nat) + (1 : Nat) + (1 : Nat) + (1 : Nat))) =
  some (Value.int IntKind.i64 n25)) ∧
  ∃ (n26 : Int),
  (∀ (w18 : World), h1 w18 → World.cell? w18 (Addr.add a1 (1 : Nat)) = some (Value.int IntKind.i64 n26)) ∧
  ∃ (n27 : Int),
  (∀ (w19 : World), h1 w19 → World.cell? w19 (Addr.add a1 (2 : Nat)) = some (Value.int IntKind.i64 n27)) ∧
  ∃ (n28 : Int),
  (∀ (w20 : World), h1 w20 → World.cell? w20 (Addr.add a1 (3 : Nat)) = some (Value.int IntKind.i64 n28)) ∧
  (NewR (80 : Nat) [] w7 fun (a4 : Addr) (w21 : World) =>
  h1 w21 ∧
  (RunR Try.prog
  (builtinV Builtin.append { toList := [(70 : Nat), (70 : Nat)] } (nat_lit 70)
  { toList := [Value.slice (some a4) (0 : Nat) (0 : Nat), Value.slice q6 k11 k12] })
  w21 fun (v1 : Value) (w22 : World) =>
  ∃ (q7 : Option Addr),
  ∃ (k13 : Nat),
  ∃ (k14 : Nat),
  v1 = Value.slice q7 k13 k14 ∧
  h1 w22 ∧
  NewR (80 : Nat)
  [Value.int IntKind.i64 n17, Value.int IntKind.u64 n18, Value.int IntKind.u64 n19, Value.int IntKind.i64 n20,
  Value.int IntKind.i64 n21, Value.int IntKind.i64 n22, Value.int IntKind.i64 n23, Value.int IntKind.i64 n24,
  Value.int IntKind.i64 n25]
  w22 fun (a5 : Addr) (w23 : World) =>
  h1 w23 ∧
  RunR Try.prog
  (builtinV Builtin.append { toList := [(70 : Nat), (70 : Nat)] } (nat_lit 70)
  { toList := [Value.slice q7 k13 k14, Value.slice (some a5) (1 : Nat) (1 : Nat)] })
  w23 fun (v2 : Value) (w24 : World) =>
  ∃ (q8 : Option Addr),
  ∃ (k15 : Nat),
  ∃ (k16 : Nat),
  v2 = Value.slice q8 k15 k16 ∧
  h1 w24 ∧
  StoreR a3
  [Value.slice q8 k15 k16, Value.int IntKind.i64 n26, Value.int IntKind.i64 (IntKind.wrap IntKind.i64 (n27 + (1 : Int))),
  Value.int IntKind.i64 n28]
  w24 fun (w25 : World) =>
  ∃ (q9 : Option Addr),
  ∃ (k17 : Nat),
  ∃ (k18 : Nat),
  ∃ (n29 : Int),
  ∃ (n30 : Int),
  ∃ (n31 : Int),
  (cellAt w25 (Addr.add a3 (0 : Nat)) (Value.slice q9 k17 k18) ∧
  cellAt w25 (Addr.add a3 (1 : Nat)) (Value.int IntKind.i64 n29) ∧
  cellAt w25 (Addr.add a3 (2 : Nat)) (Value.int IntKind.i64 n30) ∧
  cellAt w25 (Addr.add a3 (3 : Nat)) (Value.int IntKind.i64 n31)) ∧
  K
  (Value.tuple
  {
  toList :=
  [Value.agg
  { toList := [Value.slice q9 k17 k18, Value.int IntKind.i64 n29, Value.int IntKind.i64 n30, Value.int IntKind.i64 n31] },
  Value.bool true] })
  w25) ∧
  NewR (80 : Nat)
  [Value.int IntKind.i64 n17, Value.int IntKind.u64 n18, Value.int IntKind.u64 n19, Value.int IntKind.i64 n20,
  Value.int IntKind.i64 n21, Value.int IntKind.i64 n22, Value.int IntKind.i64 n23, Value.int IntKind.i64 n24,
  Value.int IntKind.i64 n25]
  w21 fun (a6 : Addr) (w26 : World) =>
  h1 w26 ∧
  RunR Try.prog
  (builtinV Builtin.append { toList := [(70 : Nat), (70 : Nat)] } (nat_lit 70)
  { toList := [Value.slice (some a4) (0 : Nat) (0 : Nat), Value.slice q6 k11 k12] })
  w26 fun (v3 : Value) (w27 : World) =>
  ∃ (q10 : Option Addr),
  ∃ (k19 : Nat),
  ∃ (k20 : Nat),
  v3 = Value.slice q10 k19 k20 ∧
  h1 w27 ∧
  RunR Try.prog
  (builtinV Builtin.append { toList := [(70 : Nat), (70 : Nat)] } (nat_lit 70)
  { toList := [Value.slice q10 k19 k20, Value.slice (some a6) (1 : Nat) (1 : Nat)] })
  w27 fun (v4 : Value) (w28 : World) =>
  ∃ (q11 : Option Addr),
  ∃ (k21 : Nat),
  ∃ (k22 : Nat),
  v4 = Value.slice q11 k21 k22 ∧
  h1 w28 ∧
  StoreR a3
  [Value.slice q11 k21 k22, Value.int IntKind.i64 n26, Value.int IntKind.i64 (IntKind.wrap IntKind.i64 (n27 + (1 : Int))),
  Value.int IntKind.i64 n28]
  w28 fun (w29 : World) =>
  ∃ (q12 : Option Addr),
  ∃ (k23 : Nat),
  ∃ (k24 : Nat),
  ∃ (n32 : Int),
  ∃ (n33 : Int),
  ∃ (n34 : Int),
  (cellAt w29 (Addr.add a3 (0 : Nat)) (Value.slice q12 k23 k24) ∧
  cellAt w29 (Addr.add a3 (1 : Nat)) (Value.int IntKind.i64 n32) ∧
  cellAt w29 (Addr.add a3 (2 : Nat)) (Value.int IntKind.i64 n33) ∧
  cellAt w29 (Addr.add a3 (3 : Nat)) (Value.int IntKind.i64 n34)) ∧
  K
  (Value.tuple
  {
  toList :=
  [Value.agg
  {
  toList := [Value.slice q12 k23 k24, Value.int IntKind.i64 n32, Value.int IntKind.i64 n33, Value.int IntKind.i64 n34] },
  Value.bool true] })
  w29) ∧
  NewR (80 : Nat)
  [Value.int IntKind.i64 n17, Value.int IntKind.u64 n18, Value.int IntKind.u64 n19, Value.int IntKind.i64 n20,
  Value.int IntKind.i64 n21, Value.int IntKind.i64 n22, Value.int IntKind.i64 n23, Value.int IntKind.i64 n24,
  Value.int IntKind.i64 n25]
  w7 fun (a7 : Addr) (w30 : World) =>
  h1 w30 ∧
  NewR (80 : Nat) [] w30 fun (a8 : Addr) (w31 : World) =>
  h1 w31 ∧
  RunR Try.prog
  (builtinV Builtin.append { toList := [(70 : Nat), (70 : Nat)] } (nat_lit 70)
  { toList := [Value.slice (some a8) (0 : Nat) (0 : Nat), Value.slice q6 k11 k12] })
  w31 fun (v5 : Value) (w32 : World) =>
  ∃ (q13 : Option Addr),
  ∃ (k25 : Nat),
  ∃ (k26 : Nat),
  v5 = Value.slice q13 k25 k26 ∧
  h1 w32 ∧
  RunR Try.prog
  (builtinV Builtin.append { toList := [(70 : Nat), (70 : Nat)] } (nat_lit 70)
  { toList := [Value.slice q13 k25 k26, Value.slice (some a7) (1 : Nat) (1 : Nat)] })
  w32 fun (v6 : Value) (w33 : World) =>
  ∃ (q14 : Option Addr),
  ∃ (k27 : Nat),
  ∃ (k28 : Nat),
  v6 = Value.slice q14 k27 k28 ∧
  h1 w33 ∧
  StoreR a3
  [Value.slice q14 k27 k28, Value.int IntKind.i64 n26, Value.int IntKind.i64 (IntKind.wrap IntKind.i64 (n27 + (1 : Int))),
  Value.int IntKind.i64 n28]
  w33 fun (w34 : World) =>
  ∃ (q15 : Option Addr),
  ∃ (k29 : Nat),
  ∃ (k30 : Nat),
  ∃ (n35 : Int),
  ∃ (n36 : Int),
  ∃ (n37 : Int),
  (cellAt w34 (Addr.add a3 (0 : Nat)) (Value.slice q15 k29 k30) ∧
  cellAt w34 (Addr.add a3 (1 : Nat)) (Value.int IntKind.i64 n35) ∧
  cellAt w34 (Addr.add a3 (2 : Nat)) (Value.int IntKind.i64 n36) ∧
  cellAt w34 (Addr.add a3 (3 : Nat)) (Value.int IntKind.i64 n37)) ∧
  K
  (Value.tuple
  {
  toList :=
  [Value.agg
  {
  toList := [Value.slice q15 k29 k30, Value.int IntKind.i64 n35, Value.int IntKind.i64 n36, Value.int IntKind.i64 n37] },
  Value.bool true] })
  w34))) ∧
  (decide (n1 < (1 : Int)) = true →
  ∃ (q16 : Option Addr),
  ∃ (k31 : Nat),
  ∃ (k32 : Nat),
  ∃ (n38 : Int),
  ∃ (n39 : Int),
  ∃ (n40 : Int),
  (cellAt w3 (Addr.add a1 (0 : Nat)) (Value.slice q16 k31 k32) ∧
  cellAt w3 (Addr.add a1 (1 : Nat)) (Value.int IntKind.i64 n38) ∧
  cellAt w3 (Addr.add a1 (2 : Nat)) (Value.int IntKind.i64 n39) ∧
  cellAt w3 (Addr.add a1 (3 : Nat)) (Value.int IntKind.i64 n40)) ∧
  StoreR a3 [Value.slice q16 k31 k32, Value.int IntKind.i64 n38, Value.int IntKind.i64 n39, Value.int IntKind.i64 n40] w3
  fun (w35 : World) =>
  ∃ (q17 : Option Addr),
  ∃ (k33 : Nat),
  ∃ (k34 : Nat),
  ∃ (n41 : Int),
  ∃ (n42 : Int),
  ∃ (n43 : Int),
  (cellAt w35 (Addr.add a3 (0 : Nat)) (Value.slice q17 k33 k34) ∧
  cellAt w35 (Addr.add a3 (1 : Nat)) (Value.int IntKind.i64 n41) ∧
  cellAt w35 (Addr.add a3 (2 : Nat)) (Value.int IntKind.i64 n42) ∧
  cellAt w35 (Addr.add a3 (3 : Nat)) (Value.int IntKind.i64 n43)) ∧
  K
  (Value.tuple
  {
  toList :=
  [Value.agg
  {
  toList := [Value.slice q17 k33 k34, Value.int IntKind.i64 n41, Value.int IntKind.i64 n42, Value.int IntKind.i64 n43] },
  Value.bool false] })
  w35)
theorem cortadoref28_Offer_eq (q : Option Addr) (l c0 : Nat) (room sent full : Int) (k p c v n e o u d : Int) (w : World) (K : Value → World → Prop) : fw Try.prog Try.f44 (annL []) (ordL [(6, [(1, 0), (7, 0), (9, 0), (12, 0), (2, 1), (4, 1), (8, 1), (10, 1), (11, 0), (13, 1), (0, 6), (0, 2), (0, 6), (3, 2), (5, 2), (6, 2), (14, 0), (15, 3), (16, 0), (0, 7), (5, 2), (3, 2), (6, 2), (14, 0), (15, 3), (16, 0), (0, 7), (5, 2), (0, 2), (3, 2), (6, 2), (14, 0), (15, 3), (16, 0), (0, 7)])]) [.agg #[.slice q l c0, .int .i64 room, .int .i64 sent, .int .i64 full], .agg #[.int .i64 k, .int .u64 p, .int .u64 c, .int .i64 v, .int .i64 n, .int .i64 e, .int .i64 o, .int .i64 u, .int .i64 d]] w K = cortadoref28_Offer_m q l c0 room sent full k p c v n e o u d w K := by kernel_rfl
theorem cortadoref28_Offer_go (q : Option Addr) (l c0 : Nat) (room sent full : Int) (k p c v n e o u d : Int) {w : World} {K : Value → World → Prop} (h : cortadoref28_Offer_m q l c0 room sent full k p c v n e o u d w K) : Rets Try.prog 44 #[.agg #[.slice q l c0, .int .i64 room, .int .i64 sent, .int .i64 full], .agg #[.int .i64 k, .int .u64 p, .int .u64 c, .int .i64 v, .int .i64 n, .int .i64 e, .int .i64 o, .int .i64 u, .int .i64 d]] w K :=
  calls_of_fw plain mixed Try.func44 (by kernel_rfl) (by rw [cortadoref28_Offer_eq]; exact h)
def cortadoref28_Count_m (q : Option Addr) (l c : Nat) (room sent full : Int) (x : Int) (w : World) (K : Value → World → Prop) : Prop :=
  NewR (74 : Nat) [Value.slice q l c, Value.int IntKind.i64 room, Value.int IntKind.i64 sent, Value.int IntKind.i64 full]
  w fun (a1 : Addr) (w1 : World) =>
  ∃ (h1 : Nat → List Value → World → Prop),
  (∃ (k1 : Nat), h1 k1 [Value.int IntKind.i64 (0 : Int), Value.int IntKind.i64 (0 : Int)] w1) ∧
  ∀ (k2 : Nat) (w2 : World) (n1 n2 : Int) (v1 v2 v3 v4 v5 v6 v7 v8 v9 v10 v11 v12 v13 v14 v15 v16 v17 : Value),
  h1 k2 [Value.int IntKind.i64 n1, Value.int IntKind.i64 n2] w2 →
  ∃ (q1 : Option Addr),
  ∃ (k3 : Nat),
  ∃ (k4 : Nat),
  cellAt w2 (Addr.add a1 (0 : Nat)) (Value.slice q1 k3 k4) ∧
  (decide (n2 < (↑k3 : Int)) = true →
  ∃ (q2 : Option Addr),
  ∃ (k5 : Nat),
  ∃ (k6 : Nat),
  cellAt w2 (Addr.add a1 (0 : Nat)) (Value.slice q2 k5 k6) ∧
  (0 : Int) ≤ n2 ∧
  n2 < (↑k5 : Int) ∧
  someR q2 fun (a2 : Addr) =>
  ∃ (n3 : Int),
  cellAt w2 (Addr.add (Addr.add a2 (Int.toNat n2 * (9 : Nat))) (0 : Nat)) (Value.int IntKind.i64 n3) ∧
  ((n3 == x) = true →
  ∃ (k7 : Nat),
  k7 < k2 ∧
  h1 k7
  [Value.int IntKind.i64 (IntKind.wrap IntKind.i64 (n1 + (1 : Int))),
  Value.int IntKind.i64 (IntKind.wrap IntKind.i64 (n2 + (1 : Int)))]
  w2) ∧
  ((n3 == x) = false →
  ∃ (k8 : Nat),
  k8 < k2 ∧ h1 k8 [Value.int IntKind.i64 n1, Value.int IntKind.i64 (IntKind.wrap IntKind.i64 (n2 + (1 : Int)))] w2)) ∧
  (decide (n2 < (↑k3 : Int)) = false → K (Value.int IntKind.i64 n1) w2)
theorem cortadoref28_Count_eq (q : Option Addr) (l c : Nat) (room sent full : Int) (x : Int) (w : World) (K : Value → World → Prop) : fw Try.prog Try.f52 (annL [(1, [(5, some 3), (6, some 3), (7, none), (8, none), (9, none), (10, none), (11, none), (12, none), (13, none), (14, none), (15, none), (16, none), (17, none), (18, none), (19, none), (20, none), (21, none), (22, none), (23, none)])]) (ordL []) [.agg #[.slice q l c, .int .i64 room, .int .i64 sent, .int .i64 full], .int .i64 x] w K = cortadoref28_Count_m q l c room sent full x w K := by kernel_rfl
theorem cortadoref28_Count_go (q : Option Addr) (l c : Nat) (room sent full : Int) (x : Int) {w : World} {K : Value → World → Prop} (h : cortadoref28_Count_m q l c room sent full x w K) : Rets Try.prog 52 #[.agg #[.slice q l c, .int .i64 room, .int .i64 sent, .int .i64 full], .int .i64 x] w K :=
  calls_of_fw plain mixed Try.func52 (by kernel_rfl) (by rw [cortadoref28_Count_eq]; exact h)
def cortadolaw28_awake_m  (w : World) (K : Value → World → Prop) : Prop :=
  Rets Try.prog (40 : Nat) { toList := [Value.int IntKind.i64 (1 : Int)] } w fun (v1 : Value) (w1 : World) =>
  ∃ (q1 : Option Addr),
  v1 = Value.pointer q1 ∧
  NewR (83 : Nat)
  [Value.int IntKind.i64 (0 : Int), Value.int IntKind.u64 (0 : Int), Value.int IntKind.u64 (0 : Int),
  Value.int IntKind.i64 (0 : Int), Value.int IntKind.i64 (0 : Int), Value.int IntKind.i64 (0 : Int),
  Value.int IntKind.i64 (0 : Int), Value.int IntKind.i64 (0 : Int), Value.int IntKind.i64 (0 : Int)]
  w1 fun (a1 : Addr) (w2 : World) =>
  StoreR a1
  [Value.int IntKind.i64 (4 : Int), Value.int IntKind.u64 (0 : Int), Value.int IntKind.u64 (0 : Int),
  Value.int IntKind.i64 (0 : Int), Value.int IntKind.i64 (0 : Int), Value.int IntKind.i64 (0 : Int),
  Value.int IntKind.i64 (0 : Int), Value.int IntKind.i64 (0 : Int), Value.int IntKind.i64 (0 : Int)]
  w2 fun (w3 : World) =>
  Drw w3 fun (w4 : World) =>
  ∃ (h1 : World → Prop),
  h1 w4 ∧
  ∃ (n1 : Int),
  ∃ (n2 : Int),
  ∃ (n3 : Int),
  ∃ (n4 : Int),
  ∃ (n5 : Int),
  ∃ (n6 : Int),
  ∃ (n7 : Int),
  ∃ (n8 : Int),
  ∃ (n9 : Int),
  ((∀ (w5 : World), h1 w5 → World.cell? w5 (Addr.add a1 (0 : Nat)) = some (Value.int IntKind.i64 n1)) ∧
  (∀ (w6 : World), h1 w6 → World.cell? w6 (Addr.add a1 ((0 : Nat) + (1 : Nat))) = some (Value.int IntKind.u64 n2)) ∧
  (∀ (w7 : World),
  h1 w7 → World.cell? w7 (Addr.add a1 ((0 : Nat) + (1 : Nat) + (1 : Nat))) = some (Value.int IntKind.u64 n3)) ∧
  (∀ (w8 : World),
  h1 w8 →
  World.cell? w8 (Addr.add a1 ((0 : Nat) + (1 : Nat) + (1 : Nat) + (1 : Nat))) = some (Value.int IntKind.i64 n4)) ∧
  (∀ (w9 : World),
  h1 w9 →
  World.cell? w9 (Addr.add a1 ((0 : Nat) + (1 : Nat) + (1 : Nat) + (1 : Nat) + (1 : Nat))) =
  some (Value.int IntKind.i64 n5)) ∧
  (∀ (w10 : World),
  h1 w10 →
  World.cell? w10 (Addr.add a1 ((0 : Nat) + (1 : Nat) + (1 : Nat) + (1 : Nat) + (1 : Nat) + (1 : Nat))) =
  some (Value.int IntKind.i64 n6)) ∧
  (∀ (w11 : World),
  h1 w11 →
  World.cell? w11 (Addr.add a1 ((0 : Nat) + (1 : Nat) + (1 : Nat) + (1 : Nat) + (1 : Nat) + (1 : Nat) + (1 : Nat))) =
  some (Value.int IntKind.i64 n7)) ∧
  (∀ (w12 : World),
  h1 w12 →
  World.cell? w12
  (Addr.add a1 ((0 : Nat) + (1 : Nat) + (1 : Nat) + (1 : Nat) + (1 : Nat) + (1 : Nat) + (1 : Nat) + (1 : Nat))) =
  some (Value.int IntKind.i64 n8)) ∧
  ∀ (w13 : World),
  h1 w13 →
  World.cell? w13
  (Addr.add a1
  ((0 : Nat) + (1 : Nat) + (1 : Nat) + (1 : Nat) + (1 : Nat) + (1 : Nat) + (1 : Nat) + (1 : Nat) + (1 : Nat))) =
  some (Value.int IntKind.i64 n9)) ∧
  ∃ (n10 : Int),
  ∃ (n11 : Int),
  ∃ (n12 : Int),
  ∃ (n13 : Int),
  ∃ (n14 : Int),
  ∃ (n15 : Int),
  ∃ (n16 : Int),
  ∃ (n17 : Int),
  ∃ (n18 : Int),
  ((∀ (w14 : World), h1 w14 → World.cell? w14 (Addr.add a1 (0 : Nat)) = some (Value.int IntKind.i64 n10)) ∧
  (∀ (w15 : World), h1 w15 → World.cell? w15 (Addr.add a1 ((0 : Nat) + (1 : Nat))) = some (Value.int IntKind.u64 n11)) ∧
  (∀ (w16 : World),
  h1 w16 → World.cell? w16 (Addr.add a1 ((0 : Nat) + (1 : Nat) + (1 : Nat))) = some (Value.int IntKind.u64 n12)) ∧
  (∀ (w17 : World),
  h1 w17 →
  World.cell? w17 (Addr.add a1 ((0 : Nat) + (1 : Nat) + (1 : Nat) + (1 : Nat))) = some (Value.int IntKind.i64 n13)) ∧
  (∀ (w18 : World),
  h1 w18 →
  World.cell? w18 (Addr.add a1 ((0 : Nat) + (1 : Nat) + (1 : Nat) + (1 : Nat) + (1 : Nat))) =
  some (Value.int IntKind.i64 n14)) ∧
  (∀ (w19 : World),
  h1 w19 →
  World.cell? w19 (Addr.add a1 ((0 : Nat) + (1 : Nat) + (1 : Nat) + (1 : Nat) + (1 : Nat) + (1 : Nat))) =
  some (Value.int IntKind.i64 n15)) ∧
  (∀ (w20 : World),
  h1 w20 →
  World.cell? w20 (Addr.add a1 ((0 : Nat) + (1 : Nat) + (1 : Nat) + (1 : Nat) + (1 : Nat) + (1 : Nat) + (1 : Nat))) =
  some (Value.int IntKind.i64 n16)) ∧
  (∀ (w21 : World),
  h1 w21 →
  World.cell? w21
  (Addr.add a1 ((0 : Nat) + (1 : Nat) + (1 : Nat) + (1 : Nat) + (1 : Nat) + (1 : Nat) + (1 : Nat) + (1 : Nat))) =
  some (Value.int IntKind.i64 n17)) ∧
  ∀ (w22 : World),
  h1 w22 →
  World.cell? w22
  (Addr.add a1
  ((0 : Nat) + (1 : Nat) + (1 : Nat) + (1 : Nat) + (1 : Nat) + (1 : Nat) + (1 : Nat) + (1 : Nat) + (1 : Nat))) =
  some (Value.int IntKind.i64 n18)) ∧
  Rets Try.prog (45 : Nat)
  {
  toList :=
  [Value.pointer q1,
  Value.agg
  {
  toList :=
  [Value.int IntKind.i64 n1, Value.int IntKind.u64 n2, Value.int IntKind.u64 n3, Value.int IntKind.i64 n4,
  Value.int IntKind.i64 n5, Value.int IntKind.i64 n6, Value.int IntKind.i64 n7, Value.int IntKind.i64 n8,
  Value.int IntKind.i64 n9] }] }
  w4 fun (v2 : Value) (w23 : World) =>
  ∃ (b1 : Bool),
  v2 = Value.bool b1 ∧
  h1 w23 ∧
  Rets Try.prog (45 : Nat)
  {
  toList :=
  [Value.pointer q1,
  Value.agg
  {
  toList :=
  [Value.int IntKind.i64 n10, Value.int IntKind.u64 n11, Value.int IntKind.u64 n12, Value.int IntKind.i64 n13,
  Value.int IntKind.i64 n14, Value.int IntKind.i64 n15, Value.int IntKind.i64 n16, Value.int IntKind.i64 n17,
  Value.int IntKind.i64 n18] }] }
  w23 fun (v3 : Value) (w24 : World) =>
  ∃ (b2 : Bool),
  v3 = Value.bool b2 ∧
  Rets Try.prog (43 : Nat) { toList := [Value.pointer q1] } w24 fun (v4 : Value) (w25 : World) =>
  ∃ (n19 : Int),
  ∃ (n20 : Int),
  ∃ (n21 : Int),
  ∃ (n22 : Int),
  ∃ (n23 : Int),
  ∃ (n24 : Int),
  ∃ (n25 : Int),
  ∃ (n26 : Int),
  ∃ (n27 : Int),
  ∃ (b3 : Bool),
  v4 =
  Value.tuple
  {
  toList :=
  [Value.agg
  {
  toList :=
  [Value.int IntKind.i64 n19, Value.int IntKind.u64 n20, Value.int IntKind.u64 n21, Value.int IntKind.i64 n22,
  Value.int IntKind.i64 n23, Value.int IntKind.i64 n24, Value.int IntKind.i64 n25, Value.int IntKind.i64 n26,
  Value.int IntKind.i64 n27] },
  Value.bool b3] } ∧
  NewR (83 : Nat)
  [Value.int IntKind.i64 (0 : Int), Value.int IntKind.u64 (0 : Int), Value.int IntKind.u64 (0 : Int),
  Value.int IntKind.i64 (0 : Int), Value.int IntKind.i64 (0 : Int), Value.int IntKind.i64 (0 : Int),
  Value.int IntKind.i64 (0 : Int), Value.int IntKind.i64 (0 : Int), Value.int IntKind.i64 (0 : Int)]
  w25 fun (a2 : Addr) (w26 : World) =>
  StoreR a2
  [Value.int IntKind.i64 n19, Value.int IntKind.u64 n20, Value.int IntKind.u64 n21, Value.int IntKind.i64 n22,
  Value.int IntKind.i64 n23, Value.int IntKind.i64 n24, Value.int IntKind.i64 n25, Value.int IntKind.i64 n26,
  Value.int IntKind.i64 n27]
  w26 fun (w27 : World) =>
  (b1 = true →
  ((!b2) = true →
  (b3 = true →
  ∃ (n28 : Int),
  ∃ (n29 : Int),
  ∃ (n30 : Int),
  ∃ (n31 : Int),
  ∃ (n32 : Int),
  ∃ (n33 : Int),
  ∃ (n34 : Int),
  ∃ (n35 : Int),
  ∃ (n36 : Int),
  (cellAt w27 (Addr.add a1 (0 : Nat)) (Value.int IntKind.i64 n28) ∧
  cellAt w27 (Addr.add a1 (1 : Nat)) (Value.int IntKind.u64 n29) ∧
  cellAt w27 (Addr.add a1 (2 : Nat)) (Value.int IntKind.u64 n30) ∧
  cellAt w27 (Addr.add a1 (3 : Nat)) (Value.int IntKind.i64 n31) ∧
  cellAt w27 (Addr.add a1 (4 : Nat)) (Value.int IntKind.i64 n32) ∧
  cellAt w27 (Addr.add a1 (5 : Nat)) (Value.int IntKind.i64 n33) ∧
  cellAt w27 (Addr.add a1 (6 : Nat)) (Value.int IntKind.i64 n34) ∧
  cellAt w27 (Addr.add a1 (7 : Nat)) (Value.int IntKind.i64 n35) ∧
  cellAt w27 (Addr.add a1 (8 : Nat)) (Value.int IntKind.i64 n36)) ∧
  Rets Try.prog (45 : Nat)
  {
  toList :=
  [Value.pointer q1,
  Value.agg
  {
  toList :=
  [Value.int IntKind.i64 n28, Value.int IntKind.u64 n29, Value.int IntKind.u64 n30, Value.int IntKind.i64 n31,
  Value.int IntKind.i64 n32, Value.int IntKind.i64 n33, Value.int IntKind.i64 n34, Value.int IntKind.i64 n35,
  Value.int IntKind.i64 n36] }] }
  w27 fun (v5 : Value) (w28 : World) => ∃ (b4 : Bool), v5 = Value.bool b4 ∧ K (Value.bool b4) w28) ∧
  (b3 = false → K (Value.bool false) w27)) ∧
  ((!b2) = false → K (Value.bool false) w27)) ∧
  (b1 = false → K (Value.bool false) w27)
theorem cortadolaw28_awake_eq  (w : World) (K : Value → World → Prop) : fw Try.prog Try.f39 (annL []) (ordL [(3, [(0, 0), (3, 0), (1, 1), (4, 1), (2, 2), (5, 3), (6, 0), (7, 0)])]) [] w K = cortadolaw28_awake_m  w K := by kernel_rfl
theorem cortadolaw28_awake_go  {w : World} {K : Value → World → Prop} (h : cortadolaw28_awake_m  w K) : Rets Try.prog 39 #[] w K :=
  calls_of_fw plain mixed Try.func39 (by kernel_rfl) (by rw [cortadolaw28_awake_eq]; exact h)
end Go.Proofs.Ytipcbhaeoeghnaa.Eng
