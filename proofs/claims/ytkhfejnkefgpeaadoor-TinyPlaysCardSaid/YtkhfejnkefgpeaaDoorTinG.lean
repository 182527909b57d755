/- What the code of these functions asks for: printed by a program of this session's (gens.py) out of the seat's own functions; the kernel checks each row. -/
import Derived.Test.YtkhfejnkefgpeaaDoorEngH
import Derived.Test.YtkhfejnkefgpeaaDoorProg
import Derived.Test.YtkhfejnkefgpeaaDoorBase
namespace Go.Proofs.YtkhfejnkefgpeaaDoor.Eng
open Go Go.Proofs
set_option linter.unusedVariables false
set_option maxRecDepth 1000000
def tiny_New_m (n s : Int) (w : World) (K : Value → World → Prop) : Prop :=
  Rets Tryd.prog (19 : Nat)
  { toList := [Value.int IntKind.i64 (maxI (1 : Int) (minI n (4096 : Int))), Value.int IntKind.u64 s] } w
  fun (v1 : Value) (w1 : World) =>
  ∃ (q1 : Option Addr),
  v1 = Value.pointer q1 ∧
  Rets Tryd.prog (20 : Nat)
  { toList := [Value.int IntKind.i64 (maxI (1 : Int) (minI n (4096 : Int))), Value.int IntKind.u64 s] } w1
  fun (v2 : Value) (w2 : World) =>
  ∃ (q2 : Option Addr),
  v2 = Value.pointer q2 ∧
  NewR (54 : Nat)
  [Value.pointer q1, Value.pointer q2, Value.int IntKind.i64 (0 : Int),
  Value.int IntKind.i64 (maxI (1 : Int) (minI n (4096 : Int))), Value.int IntKind.i64 (0 : Int)]
  w2 fun (a1 : Addr) (w3 : World) => K (Value.pointer (some a1)) w3
theorem tiny_New_eq (n s : Int) (w : World) (K : Value → World → Prop) : fw Tryd.prog Tryd.f6 (annL []) (ordL []) [.int .i64 n, .int .u64 s] w K = tiny_New_m n s w K := by kernel_rfl
theorem tiny_New_go (n s : Int) {w : World} {K : Value → World → Prop} (h : tiny_New_m n s w K) : Rets Tryd.prog 6 #[.int .i64 n, .int .u64 s] w K :=
  calls_of_fw plain mixed Tryd.func6 (by kernel_rfl) (by rw [tiny_New_eq]; exact h)
def tiny_Tiny_age_m (g : Nat) (w : World) (K : Value → World → Prop) : Prop :=
  ∃ (q1 : Option Addr),
  cellAt w (Addr.add (Addr.add { block := g, off := (0 : Nat) } (0 : Nat)) (0 : Nat)) (Value.pointer q1) ∧
  Rets Tryd.prog (48 : Nat) { toList := [Value.pointer q1] } w fun (v1 : Value) (w1 : World) =>
  v1 = Value.tuple { toList := [] } ∧
  ∃ (q2 : Option Addr),
  cellAt w1 (Addr.add (Addr.add { block := g, off := (0 : Nat) } (0 : Nat)) (1 : Nat)) (Value.pointer q2) ∧
  Rets Tryd.prog (29 : Nat) { toList := [Value.pointer q2] } w1 fun (v2 : Value) (w2 : World) =>
  v2 = Value.tuple { toList := [] } ∧
  StoreR (Addr.add { block := g, off := (0 : Nat) } (2 : Nat)) [Value.int IntKind.i64 (0 : Int)] w2 fun (w3 : World) =>
  ∃ (n1 : Int),
  cellAt w3 (Addr.add { block := g, off := (0 : Nat) } (4 : Nat)) (Value.int IntKind.i64 n1) ∧
  StoreR (Addr.add { block := g, off := (0 : Nat) } (4 : Nat))
  [Value.int IntKind.i64 (IntKind.wrap IntKind.i64 (n1 + (1 : Int)))] w3 fun (w4 : World) =>
  K (Value.tuple { toList := [] }) w4
theorem tiny_Tiny_age_eq (g : Nat) (w : World) (K : Value → World → Prop) : fw Tryd.prog Tryd.f32 (annL []) (ordL []) [.pointer (some ⟨g, 0, none⟩)] w K = tiny_Tiny_age_m g w K := by kernel_rfl
theorem tiny_Tiny_age_go (g : Nat) {w : World} {K : Value → World → Prop} (h : tiny_Tiny_age_m g w K) : Rets Tryd.prog 32 #[.pointer (some ⟨g, 0, none⟩)] w K :=
  calls_of_fw plain mixed Tryd.func32 (by kernel_rfl) (by rw [tiny_Tiny_age_eq]; exact h)
def tiny_Tiny_Add_m (g : Nat) (hh : Int) (w : World) (K : Value → World → Prop) : Prop :=
  (false = true → K (Value.tuple { toList := [] }) w) ∧
  (false = false →
  ∃ (q1 : Option Addr),
  cellAt w (Addr.add (Addr.add { block := g, off := (0 : Nat) } (0 : Nat)) (1 : Nat)) (Value.pointer q1) ∧
  Rets Tryd.prog (30 : Nat) { toList := [Value.pointer q1, Value.int IntKind.u64 hh] } w fun (v1 : Value) (w1 : World) =>
  ∃ (b1 : Bool),
  v1 = Value.bool b1 ∧
  ((!b1) = true →
  Rets Tryd.prog (17 : Nat) { toList := [Value.pointer (some { block := g, off := (0 : Nat) })] } w1
  fun (v2 : Value) (w2 : World) =>
  ∃ (q2 : Option Addr),
  v2 = Value.pointer q2 ∧
  Rets Tryd.prog (31 : Nat) { toList := [Value.pointer q2, Value.int IntKind.u64 hh] } w2 fun (v3 : Value) (w3 : World) =>
  v3 = Value.tuple { toList := [] } ∧
  ∃ (n1 : Int),
  cellAt w3 (Addr.add { block := g, off := (0 : Nat) } (2 : Nat)) (Value.int IntKind.i64 n1) ∧
  StoreR (Addr.add { block := g, off := (0 : Nat) } (2 : Nat))
  [Value.int IntKind.i64 (IntKind.wrap IntKind.i64 (n1 + (1 : Int)))] w3 fun (w4 : World) =>
  Drw w4 fun (w5 : World) =>
  ∃ (n2 : Int),
  cellAt w5 (Addr.add { block := g, off := (0 : Nat) } (2 : Nat)) (Value.int IntKind.i64 n2) ∧
  ∃ (n3 : Int),
  cellAt w5 (Addr.add { block := g, off := (0 : Nat) } (3 : Nat)) (Value.int IntKind.i64 n3) ∧
  (decide (n2 ≥ n3) = true →
  Rets Tryd.prog (32 : Nat) { toList := [Value.pointer (some { block := g, off := (0 : Nat) })] } w5
  fun (v4 : Value) (w6 : World) => v4 = Value.tuple { toList := [] } ∧ K (Value.tuple { toList := [] }) w6) ∧
  (decide (n2 ≥ n3) = false → K (Value.tuple { toList := [] }) w5)) ∧
  ((!b1) = false →
  ∃ (n4 : Int),
  cellAt w1 (Addr.add { block := g, off := (0 : Nat) } (2 : Nat)) (Value.int IntKind.i64 n4) ∧
  StoreR (Addr.add { block := g, off := (0 : Nat) } (2 : Nat))
  [Value.int IntKind.i64 (IntKind.wrap IntKind.i64 (n4 + (1 : Int)))] w1 fun (w7 : World) =>
  Drw w7 fun (w8 : World) =>
  ∃ (n5 : Int),
  cellAt w8 (Addr.add { block := g, off := (0 : Nat) } (2 : Nat)) (Value.int IntKind.i64 n5) ∧
  ∃ (n6 : Int),
  cellAt w8 (Addr.add { block := g, off := (0 : Nat) } (3 : Nat)) (Value.int IntKind.i64 n6) ∧
  (decide (n5 ≥ n6) = true →
  Rets Tryd.prog (32 : Nat) { toList := [Value.pointer (some { block := g, off := (0 : Nat) })] } w8
  fun (v5 : Value) (w9 : World) => v5 = Value.tuple { toList := [] } ∧ K (Value.tuple { toList := [] }) w9) ∧
  (decide (n5 ≥ n6) = false → K (Value.tuple { toList := [] }) w8)))
theorem tiny_Tiny_Add_eq (g : Nat) (hh : Int) (w : World) (K : Value → World → Prop) : fw Tryd.prog Tryd.f16 (annL []) (ordL [(4, [(0, 0), (1, 0), (2, 0), (4, 0), (5, 0), (6, 0), (3, 1), (7, 1), (8, 0)])]) [.pointer (some ⟨g, 0, none⟩), .int .u64 hh] w K = tiny_Tiny_Add_m g hh w K := by kernel_rfl
theorem tiny_Tiny_Add_go (g : Nat) (hh : Int) {w : World} {K : Value → World → Prop} (h : tiny_Tiny_Add_m g hh w K) : Rets Tryd.prog 16 #[.pointer (some ⟨g, 0, none⟩), .int .u64 hh] w K :=
  calls_of_fw plain mixed Tryd.func16 (by kernel_rfl) (by rw [tiny_Tiny_Add_eq]; exact h)
def tiny_nil_Add_m (hh : Int) (w : World) (K : Value → World → Prop) : Prop :=
  (true = true → K (Value.tuple { toList := [] }) w) ∧ (true = false → False)
theorem tiny_nil_Add_eq (hh : Int) (w : World) (K : Value → World → Prop) : fw Tryd.prog Tryd.f16 (annL []) (ordL [(4, [(0, 0), (1, 0), (2, 0), (4, 0), (5, 0), (6, 0), (3, 1), (7, 1), (8, 0)])]) [.pointer none, .int .u64 hh] w K = tiny_nil_Add_m hh w K := by kernel_rfl
theorem tiny_nil_Add_go (hh : Int) {w : World} {K : Value → World → Prop} (h : tiny_nil_Add_m hh w K) : Rets Tryd.prog 16 #[.pointer none, .int .u64 hh] w K :=
  calls_of_fw plain mixed Tryd.func16 (by kernel_rfl) (by rw [tiny_nil_Add_eq]; exact h)
def tiny_Tiny_Push_m (g : Nat) (q : Option Addr) (l c : Nat) (w : World) (K : Value → World → Prop) : Prop :=
  ∃ (h1 : Nat → List Value → World → Prop),
  (∃ (k1 : Nat), h1 k1 [Value.int IntKind.i64 (0 : Int)] w) ∧
  ∀ (k2 : Nat) (w1 : World) (v1 : Value) (n1 : Int) (v2 v3 v4 v5 v6 v7 v8 : Value),
  h1 k2 [Value.int IntKind.i64 n1] w1 →
  (decide (n1 < (↑l : Int)) = true →
  (0 : Int) ≤ n1 ∧
  n1 < (↑l : Int) ∧
  someR q fun (a1 : Addr) =>
  ∃ (n2 : Int),
  cellAt w1 (Addr.add a1 (Int.toNat n1 * (1 : Nat))) (Value.int IntKind.u64 n2) ∧
  Rets Tryd.prog (16 : Nat)
  { toList := [Value.pointer (some { block := g, off := (0 : Nat) }), Value.int IntKind.u64 n2] } w1
  fun (v9 : Value) (w2 : World) =>
  v9 = Value.tuple { toList := [] } ∧
  ∃ (k3 : Nat), k3 < k2 ∧ h1 k3 [Value.int IntKind.i64 (IntKind.wrap IntKind.i64 (n1 + (1 : Int)))] w2) ∧
  (decide (n1 < (↑l : Int)) = false → K (Value.tuple { toList := [] }) w1)
theorem tiny_Tiny_Push_eq (g : Nat) (q : Option Addr) (l c : Nat) (w : World) (K : Value → World → Prop) : fw Tryd.prog Tryd.f8 (annL [(1, [(5, none), (8, some 3), (9, none), (10, none), (11, none), (12, none), (13, none), (14, none), (15, none)])]) (ordL []) [.pointer (some ⟨g, 0, none⟩), .slice q l c] w K = tiny_Tiny_Push_m g q l c w K := by kernel_rfl
theorem tiny_Tiny_Push_go (g : Nat) (q : Option Addr) (l c : Nat) {w : World} {K : Value → World → Prop} (h : tiny_Tiny_Push_m g q l c w K) : Rets Tryd.prog 8 #[.pointer (some ⟨g, 0, none⟩), .slice q l c] w K :=
  calls_of_fw plain mixed Tryd.func8 (by kernel_rfl) (by rw [tiny_Tiny_Push_eq]; exact h)
def tiny_nil_Push_m (q : Option Addr) (l c : Nat) (w : World) (K : Value → World → Prop) : Prop :=
  ∃ (h1 : Nat → List Value → World → Prop),
  (∃ (k1 : Nat), h1 k1 [Value.int IntKind.i64 (0 : Int)] w) ∧
  ∀ (k2 : Nat) (w1 : World) (v1 : Value) (n1 : Int) (v2 v3 v4 v5 v6 v7 v8 : Value),
  h1 k2 [Value.int IntKind.i64 n1] w1 →
  (decide (n1 < (↑l : Int)) = true →
  (0 : Int) ≤ n1 ∧
  n1 < (↑l : Int) ∧
  someR q fun (a1 : Addr) =>
  ∃ (n2 : Int),
  cellAt w1 (Addr.add a1 (Int.toNat n1 * (1 : Nat))) (Value.int IntKind.u64 n2) ∧
  Rets Tryd.prog (16 : Nat) { toList := [Value.pointer none, Value.int IntKind.u64 n2] } w1
  fun (v9 : Value) (w2 : World) =>
  v9 = Value.tuple { toList := [] } ∧
  ∃ (k3 : Nat), k3 < k2 ∧ h1 k3 [Value.int IntKind.i64 (IntKind.wrap IntKind.i64 (n1 + (1 : Int)))] w2) ∧
  (decide (n1 < (↑l : Int)) = false → K (Value.tuple { toList := [] }) w1)
theorem tiny_nil_Push_eq (q : Option Addr) (l c : Nat) (w : World) (K : Value → World → Prop) : fw Tryd.prog Tryd.f8 (annL [(1, [(5, none), (8, some 3), (9, none), (10, none), (11, none), (12, none), (13, none), (14, none), (15, none)])]) (ordL []) [.pointer none, .slice q l c] w K = tiny_nil_Push_m q l c w K := by kernel_rfl
theorem tiny_nil_Push_go (q : Option Addr) (l c : Nat) {w : World} {K : Value → World → Prop} (h : tiny_nil_Push_m q l c w K) : Rets Tryd.prog 8 #[.pointer none, .slice q l c] w K :=
  calls_of_fw plain mixed Tryd.func8 (by kernel_rfl) (by rw [tiny_nil_Push_eq]; exact h)
def tiny_Tiny_Estimate_m (g : Nat) (hh : Int) (w : World) (K : Value → World → Prop) : Prop :=
  (false = true → K (Value.int IntKind.i64 (0 : Int)) w) ∧
  (false = false →
  ∃ (q1 : Option Addr),
  cellAt w (Addr.add (Addr.add { block := g, off := (0 : Nat) } (0 : Nat)) (0 : Nat)) (Value.pointer q1) ∧
  Rets Tryd.prog (24 : Nat) { toList := [Value.pointer q1, Value.int IntKind.u64 hh] } w fun (v1 : Value) (w1 : World) =>
  ∃ (n1 : Int),
  v1 = Value.int IntKind.i64 n1 ∧
  ∃ (q2 : Option Addr),
  cellAt w1 (Addr.add (Addr.add { block := g, off := (0 : Nat) } (0 : Nat)) (1 : Nat)) (Value.pointer q2) ∧
  Rets Tryd.prog (25 : Nat) { toList := [Value.pointer q2, Value.int IntKind.u64 hh] } w1 fun (v2 : Value) (w2 : World) =>
  ∃ (b1 : Bool),
  v2 = Value.bool b1 ∧
  (b1 = true → K (Value.int IntKind.i64 (IntKind.wrap IntKind.i64 (n1 + (1 : Int)))) w2) ∧
  (b1 = false → K (Value.int IntKind.i64 n1) w2))
theorem tiny_Tiny_Estimate_eq (g : Nat) (hh : Int) (w : World) (K : Value → World → Prop) : fw Tryd.prog Tryd.f13 (annL []) (ordL []) [.pointer (some ⟨g, 0, none⟩), .int .u64 hh] w K = tiny_Tiny_Estimate_m g hh w K := by kernel_rfl
theorem tiny_Tiny_Estimate_go (g : Nat) (hh : Int) {w : World} {K : Value → World → Prop} (h : tiny_Tiny_Estimate_m g hh w K) : Rets Tryd.prog 13 #[.pointer (some ⟨g, 0, none⟩), .int .u64 hh] w K :=
  calls_of_fw plain mixed Tryd.func13 (by kernel_rfl) (by rw [tiny_Tiny_Estimate_eq]; exact h)
def tiny_nil_Estimate_m (hh : Int) (w : World) (K : Value → World → Prop) : Prop :=
  (true = true → K (Value.int IntKind.i64 (0 : Int)) w) ∧ (true = false → False)
theorem tiny_nil_Estimate_eq (hh : Int) (w : World) (K : Value → World → Prop) : fw Tryd.prog Tryd.f13 (annL []) (ordL []) [.pointer none, .int .u64 hh] w K = tiny_nil_Estimate_m hh w K := by kernel_rfl
theorem tiny_nil_Estimate_go (hh : Int) {w : World} {K : Value → World → Prop} (h : tiny_nil_Estimate_m hh w K) : Rets Tryd.prog 13 #[.pointer none, .int .u64 hh] w K :=
  calls_of_fw plain mixed Tryd.func13 (by kernel_rfl) (by rw [tiny_nil_Estimate_eq]; exact h)
def tiny_Tiny_Count_m (g : Nat) (w : World) (K : Value → World → Prop) : Prop :=
  (false = true → K (Value.int IntKind.i64 (0 : Int)) w) ∧
  (false = false →
  ∃ (n1 : Int),
  cellAt w (Addr.add { block := g, off := (0 : Nat) } (2 : Nat)) (Value.int IntKind.i64 n1) ∧
  K (Value.int IntKind.i64 n1) w)
theorem tiny_Tiny_Count_eq (g : Nat) (w : World) (K : Value → World → Prop) : fw Tryd.prog Tryd.f10 (annL []) (ordL []) [.pointer (some ⟨g, 0, none⟩)] w K = tiny_Tiny_Count_m g w K := by kernel_rfl
theorem tiny_Tiny_Count_go (g : Nat) {w : World} {K : Value → World → Prop} (h : tiny_Tiny_Count_m g w K) : Rets Tryd.prog 10 #[.pointer (some ⟨g, 0, none⟩)] w K :=
  calls_of_fw plain mixed Tryd.func10 (by kernel_rfl) (by rw [tiny_Tiny_Count_eq]; exact h)
def tiny_nil_Count_m  (w : World) (K : Value → World → Prop) : Prop :=
  (true = true → K (Value.int IntKind.i64 (0 : Int)) w) ∧ (true = false → False)
theorem tiny_nil_Count_eq  (w : World) (K : Value → World → Prop) : fw Tryd.prog Tryd.f10 (annL []) (ordL []) [.pointer none] w K = tiny_nil_Count_m  w K := by kernel_rfl
theorem tiny_nil_Count_go  {w : World} {K : Value → World → Prop} (h : tiny_nil_Count_m  w K) : Rets Tryd.prog 10 #[.pointer none] w K :=
  calls_of_fw plain mixed Tryd.func10 (by kernel_rfl) (by rw [tiny_nil_Count_eq]; exact h)
def tiny_Tiny_Aged_m (g : Nat) (w : World) (K : Value → World → Prop) : Prop :=
  (false = true → K (Value.int IntKind.i64 (0 : Int)) w) ∧
  (false = false →
  ∃ (n1 : Int),
  cellAt w (Addr.add { block := g, off := (0 : Nat) } (4 : Nat)) (Value.int IntKind.i64 n1) ∧
  K (Value.int IntKind.i64 n1) w)
theorem tiny_Tiny_Aged_eq (g : Nat) (w : World) (K : Value → World → Prop) : fw Tryd.prog Tryd.f11 (annL []) (ordL []) [.pointer (some ⟨g, 0, none⟩)] w K = tiny_Tiny_Aged_m g w K := by kernel_rfl
theorem tiny_Tiny_Aged_go (g : Nat) {w : World} {K : Value → World → Prop} (h : tiny_Tiny_Aged_m g w K) : Rets Tryd.prog 11 #[.pointer (some ⟨g, 0, none⟩)] w K :=
  calls_of_fw plain mixed Tryd.func11 (by kernel_rfl) (by rw [tiny_Tiny_Aged_eq]; exact h)
def tiny_nil_Aged_m  (w : World) (K : Value → World → Prop) : Prop :=
  (true = true → K (Value.int IntKind.i64 (0 : Int)) w) ∧ (true = false → False)
theorem tiny_nil_Aged_eq  (w : World) (K : Value → World → Prop) : fw Tryd.prog Tryd.f11 (annL []) (ordL []) [.pointer none] w K = tiny_nil_Aged_m  w K := by kernel_rfl
theorem tiny_nil_Aged_go  {w : World} {K : Value → World → Prop} (h : tiny_nil_Aged_m  w K) : Rets Tryd.prog 11 #[.pointer none] w K :=
  calls_of_fw plain mixed Tryd.func11 (by kernel_rfl) (by rw [tiny_nil_Aged_eq]; exact h)
def tiny_Tiny_Limit_m (g : Nat) (w : World) (K : Value → World → Prop) : Prop :=
  (false = true → K (Value.int IntKind.i64 (0 : Int)) w) ∧
  (false = false →
  ∃ (n1 : Int),
  cellAt w (Addr.add { block := g, off := (0 : Nat) } (3 : Nat)) (Value.int IntKind.i64 n1) ∧
  K (Value.int IntKind.i64 n1) w)
theorem tiny_Tiny_Limit_eq (g : Nat) (w : World) (K : Value → World → Prop) : fw Tryd.prog Tryd.f12 (annL []) (ordL []) [.pointer (some ⟨g, 0, none⟩)] w K = tiny_Tiny_Limit_m g w K := by kernel_rfl
theorem tiny_Tiny_Limit_go (g : Nat) {w : World} {K : Value → World → Prop} (h : tiny_Tiny_Limit_m g w K) : Rets Tryd.prog 12 #[.pointer (some ⟨g, 0, none⟩)] w K :=
  calls_of_fw plain mixed Tryd.func12 (by kernel_rfl) (by rw [tiny_Tiny_Limit_eq]; exact h)
def tiny_nil_Limit_m  (w : World) (K : Value → World → Prop) : Prop :=
  (true = true → K (Value.int IntKind.i64 (0 : Int)) w) ∧ (true = false → False)
theorem tiny_nil_Limit_eq  (w : World) (K : Value → World → Prop) : fw Tryd.prog Tryd.f12 (annL []) (ordL []) [.pointer none] w K = tiny_nil_Limit_m  w K := by kernel_rfl
theorem tiny_nil_Limit_go  {w : World} {K : Value → World → Prop} (h : tiny_nil_Limit_m  w K) : Rets Tryd.prog 12 #[.pointer none] w K :=
  calls_of_fw plain mixed Tryd.func12 (by kernel_rfl) (by rw [tiny_nil_Limit_eq]; exact h)
def tiny_nil_Clear_m  (w : World) (K : Value → World → Prop) : Prop :=
  (true = true → K (Value.tuple { toList := [] }) w) ∧ (true = false → False)
theorem tiny_nil_Clear_eq  (w : World) (K : Value → World → Prop) : fw Tryd.prog Tryd.f15 (annL []) (ordL []) [.pointer none] w K = tiny_nil_Clear_m  w K := by kernel_rfl
theorem tiny_nil_Clear_go  {w : World} {K : Value → World → Prop} (h : tiny_nil_Clear_m  w K) : Rets Tryd.prog 15 #[.pointer none] w K :=
  calls_of_fw plain mixed Tryd.func15 (by kernel_rfl) (by rw [tiny_nil_Clear_eq]; exact h)
def tiny_Tiny_Sketch_m (g : Nat) (w : World) (K : Value → World → Prop) : Prop :=
  (false = true → K (Value.pointer none) w) ∧
  (false = false →
  ∃ (q1 : Option Addr),
  cellAt w (Addr.add (Addr.add { block := g, off := (0 : Nat) } (0 : Nat)) (0 : Nat)) (Value.pointer q1) ∧
  K (Value.pointer q1) w)
theorem tiny_Tiny_Sketch_eq (g : Nat) (w : World) (K : Value → World → Prop) : fw Tryd.prog Tryd.f17 (annL []) (ordL []) [.pointer (some ⟨g, 0, none⟩)] w K = tiny_Tiny_Sketch_m g w K := by kernel_rfl
theorem tiny_Tiny_Sketch_go (g : Nat) {w : World} {K : Value → World → Prop} (h : tiny_Tiny_Sketch_m g w K) : Rets Tryd.prog 17 #[.pointer (some ⟨g, 0, none⟩)] w K :=
  calls_of_fw plain mixed Tryd.func17 (by kernel_rfl) (by rw [tiny_Tiny_Sketch_eq]; exact h)
def tiny_nil_Sketch_m  (w : World) (K : Value → World → Prop) : Prop :=
  (true = true → K (Value.pointer none) w) ∧ (true = false → False)
theorem tiny_nil_Sketch_eq  (w : World) (K : Value → World → Prop) : fw Tryd.prog Tryd.f17 (annL []) (ordL []) [.pointer none] w K = tiny_nil_Sketch_m  w K := by kernel_rfl
theorem tiny_nil_Sketch_go  {w : World} {K : Value → World → Prop} (h : tiny_nil_Sketch_m  w K) : Rets Tryd.prog 17 #[.pointer none] w K :=
  calls_of_fw plain mixed Tryd.func17 (by kernel_rfl) (by rw [tiny_nil_Sketch_eq]; exact h)
def tiny_Tiny_Door_m (g : Nat) (w : World) (K : Value → World → Prop) : Prop :=
  (false = true → K (Value.pointer none) w) ∧
  (false = false →
  ∃ (q1 : Option Addr),
  cellAt w (Addr.add (Addr.add { block := g, off := (0 : Nat) } (0 : Nat)) (1 : Nat)) (Value.pointer q1) ∧
  K (Value.pointer q1) w)
theorem tiny_Tiny_Door_eq (g : Nat) (w : World) (K : Value → World → Prop) : fw Tryd.prog Tryd.f18 (annL []) (ordL []) [.pointer (some ⟨g, 0, none⟩)] w K = tiny_Tiny_Door_m g w K := by kernel_rfl
theorem tiny_Tiny_Door_go (g : Nat) {w : World} {K : Value → World → Prop} (h : tiny_Tiny_Door_m g w K) : Rets Tryd.prog 18 #[.pointer (some ⟨g, 0, none⟩)] w K :=
  calls_of_fw plain mixed Tryd.func18 (by kernel_rfl) (by rw [tiny_Tiny_Door_eq]; exact h)
def tiny_nil_Door_m  (w : World) (K : Value → World → Prop) : Prop :=
  (true = true → K (Value.pointer none) w) ∧ (true = false → False)
theorem tiny_nil_Door_eq  (w : World) (K : Value → World → Prop) : fw Tryd.prog Tryd.f18 (annL []) (ordL []) [.pointer none] w K = tiny_nil_Door_m  w K := by kernel_rfl
theorem tiny_nil_Door_go  {w : World} {K : Value → World → Prop} (h : tiny_nil_Door_m  w K) : Rets Tryd.prog 18 #[.pointer none] w K :=
  calls_of_fw plain mixed Tryd.func18 (by kernel_rfl) (by rw [tiny_nil_Door_eq]; exact h)
def cortadolaw13_awake_m  (w : World) (K : Value → World → Prop) : Prop :=
  Rets Tryd.prog (6 : Nat) { toList := [Value.int IntKind.i64 (4 : Int), Value.int IntKind.u64 (0 : Int)] } w
  fun (v1 : Value) (w1 : World) =>
  ∃ (q1 : Option Addr),
  v1 = Value.pointer q1 ∧
  NewR (22 : Nat) [Value.int IntKind.u64 (7 : Int), Value.int IntKind.u64 (7 : Int), Value.int IntKind.u64 (7 : Int)] w1
  fun (a1 : Addr) (w2 : World) =>
  Rets Tryd.prog (8 : Nat) { toList := [Value.pointer q1, Value.slice (some a1) (3 : Nat) (3 : Nat)] } w2
  fun (v2 : Value) (w3 : World) =>
  v2 = Value.tuple { toList := [] } ∧
  Rets Tryd.prog (13 : Nat) { toList := [Value.pointer q1, Value.int IntKind.u64 (7 : Int)] } w3
  fun (v3 : Value) (w4 : World) =>
  ∃ (n1 : Int),
  v3 = Value.int IntKind.i64 n1 ∧
  ((n1 == (3 : Int)) = true →
  Rets Tryd.prog (10 : Nat) { toList := [Value.pointer q1] } w4 fun (v4 : Value) (w5 : World) =>
  ∃ (n2 : Int), v4 = Value.int IntKind.i64 n2 ∧ K (Value.bool (n2 == (3 : Int))) w5) ∧
  ((n1 == (3 : Int)) = false → K (Value.bool false) w4)
theorem cortadolaw13_awake_eq  (w : World) (K : Value → World → Prop) : fw Tryd.prog Tryd.f5 (annL []) (ordL []) [] w K = cortadolaw13_awake_m  w K := by kernel_rfl
theorem cortadolaw13_awake_go  {w : World} {K : Value → World → Prop} (h : cortadolaw13_awake_m  w K) : Rets Tryd.prog 5 #[] w K :=
  calls_of_fw plain mixed Tryd.func5 (by kernel_rfl) (by rw [cortadolaw13_awake_eq]; exact h)
def cortadolaw13_TinyRises_m (n s : Int) (q : Option Addr) (l c : Nat) (w : World) (K : Value → World → Prop) : Prop :=
  (decide ((↑l : Int) > (60 : Int)) = true →
  Rets Tryd.prog (5 : Nat) { toList := [] } w fun (v1 : Value) (w1 : World) =>
  ∃ (b1 : Bool), v1 = Value.bool b1 ∧ K (Value.bool b1) w1) ∧
  (decide ((↑l : Int) > (60 : Int)) = false →
  (5 : Int) ≠ (0 : Int) ∧
  Rets Tryd.prog (6 : Nat) { toList := [Value.int IntKind.i64 (minI n (500 : Int)), Value.int IntKind.u64 s] } w
  fun (v2 : Value) (w2 : World) =>
  ∃ (q1 : Option Addr),
  v2 = Value.pointer q1 ∧
  ∃ (h1 : Nat → List Value → World → Prop),
  (∃ (k1 : Nat), h1 k1 [Value.int IntKind.i64 (0 : Int)] w2) ∧
  ∀ (k2 : Nat) (w3 : World) (v3 : Value) (n1 : Int)
  (v4 v5 v6 v7 v8 v9 v10 v11 v12 v13 v14 v15 v16 v17 v18 v19 v20 v21 v22 v23 v24 v25 v26 v27 v28 v29 v30 v31 v32 v33 v34
  v35 v36 v37 v38 v39 v40 v41 v42 v43 v44 v45 v46 v47 v48 v49 v50 v51 v52 v53 v54 v55 v56 v57 v58 v59 v60 v61 v62 v63 v64
  v65 v66 v67 v68 v69 v70 v71 v72 v73 v74 v75 v76 v77 v78 v79 v80 v81 v82 v83 v84 v85 v86 v87 v88 v89 v90 : Value),
  h1 k2 [Value.int IntKind.i64 n1] w3 →
  (decide (n1 < (↑l : Int)) = true →
  (0 : Int) ≤ n1 ∧
  n1 < (↑l : Int) ∧
  someR q fun (a1 : Addr) =>
  ∃ (n2 : Int),
  cellAt w3 (Addr.add a1 (Int.toNat n1 * (1 : Nat))) (Value.int IntKind.u64 n2) ∧
  Rets Tryd.prog (13 : Nat) { toList := [Value.pointer q1, Value.int IntKind.u64 n2] } w3
  fun (v91 : Value) (w4 : World) =>
  ∃ (n3 : Int),
  v91 = Value.int IntKind.i64 n3 ∧
  Rets Tryd.prog (13 : Nat) { toList := [Value.pointer q1, Value.int IntKind.u64 (Int.tmod s (5 : Int))] } w4
  fun (v92 : Value) (w5 : World) =>
  ∃ (n4 : Int),
  v92 = Value.int IntKind.i64 n4 ∧
  Rets Tryd.prog (11 : Nat) { toList := [Value.pointer q1] } w5 fun (v93 : Value) (w6 : World) =>
  ∃ (n5 : Int),
  v93 = Value.int IntKind.i64 n5 ∧
  (0 : Int) ≤ n1 ∧
  n1 < (↑l : Int) ∧
  someR q fun (a2 : Addr) =>
  ∃ (n6 : Int),
  cellAt w6 (Addr.add a2 (Int.toNat n1 * (1 : Nat))) (Value.int IntKind.u64 n6) ∧
  Rets Tryd.prog (16 : Nat) { toList := [Value.pointer q1, Value.int IntKind.u64 n6] } w6
  fun (v94 : Value) (w7 : World) =>
  v94 = Value.tuple { toList := [] } ∧
  (0 : Int) ≤ n1 ∧
  n1 < (↑l : Int) ∧
  someR q fun (a3 : Addr) =>
  ∃ (n7 : Int),
  cellAt w7 (Addr.add a3 (Int.toNat n1 * (1 : Nat))) (Value.int IntKind.u64 n7) ∧
  Rets Tryd.prog (13 : Nat) { toList := [Value.pointer q1, Value.int IntKind.u64 n7] } w7
  fun (v95 : Value) (w8 : World) =>
  ∃ (n8 : Int),
  v95 = Value.int IntKind.i64 n8 ∧
  Rets Tryd.prog (13 : Nat) { toList := [Value.pointer q1, Value.int IntKind.u64 (Int.tmod s (5 : Int))] } w8
  fun (v96 : Value) (w9 : World) =>
  ∃ (n9 : Int),
  v96 = Value.int IntKind.i64 n9 ∧
  (decide (n8 < (0 : Int)) = false →
  (decide (n8 > (16 : Int)) = false →
  Rets Tryd.prog (10 : Nat) { toList := [Value.pointer q1] } w9 fun (v97 : Value) (w10 : World) =>
  ∃ (n10 : Int),
  v97 = Value.int IntKind.i64 n10 ∧
  (decide (n10 < (0 : Int)) = false →
  Rets Tryd.prog (10 : Nat) { toList := [Value.pointer q1] } w10 fun (v98 : Value) (w11 : World) =>
  ∃ (n11 : Int),
  v98 = Value.int IntKind.i64 n11 ∧
  Rets Tryd.prog (12 : Nat) { toList := [Value.pointer q1] } w11 fun (v99 : Value) (w12 : World) =>
  ∃ (n12 : Int),
  v99 = Value.int IntKind.i64 n12 ∧
  (decide (n11 ≥ n12) = true → K (Value.bool false) w12) ∧
  (decide (n11 ≥ n12) = false →
  Rets Tryd.prog (11 : Nat) { toList := [Value.pointer q1] } w12 fun (v100 : Value) (w13 : World) =>
  ∃ (n13 : Int),
  v100 = Value.int IntKind.i64 n13 ∧
  ((n13 == n5) = true →
  (decide (n9 < n4) = false →
  ((n8 != minI (16 : Int) (IntKind.wrap IntKind.i64 (n3 + (1 : Int)))) = true → K (Value.bool false) w13) ∧
  ((n8 != minI (16 : Int) (IntKind.wrap IntKind.i64 (n3 + (1 : Int)))) = false →
  Rets Tryd.prog (11 : Nat) { toList := [Value.pointer q1] } w13 fun (v101 : Value) (w14 : World) =>
  ∃ (n14 : Int),
  v101 = Value.int IntKind.i64 n14 ∧
  ((n14 != n5) = true →
  Rets Tryd.prog (10 : Nat) { toList := [Value.pointer q1] } w14 fun (v102 : Value) (w15 : World) =>
  ∃ (n15 : Int),
  v102 = Value.int IntKind.i64 n15 ∧
  ((n15 != (0 : Int)) = false →
  (2 : Int) ≠ (0 : Int) ∧
  (decide (n8 > IntKind.wrap IntKind.i64 (Int.tdiv (IntKind.wrap IntKind.i64 (n3 + (1 : Int))) (2 : Int))) = true →
  K (Value.bool false) w15) ∧
  (decide (n8 > IntKind.wrap IntKind.i64 (Int.tdiv (IntKind.wrap IntKind.i64 (n3 + (1 : Int))) (2 : Int))) = false →
  ∃ (k3 : Nat), k3 < k2 ∧ h1 k3 [Value.int IntKind.i64 (IntKind.wrap IntKind.i64 (n1 + (1 : Int)))] w15)) ∧
  ((n15 != (0 : Int)) = true → K (Value.bool false) w15)) ∧
  ((n14 != n5) = false →
  ∃ (k4 : Nat), k4 < k2 ∧ h1 k4 [Value.int IntKind.i64 (IntKind.wrap IntKind.i64 (n1 + (1 : Int)))] w14))) ∧
  (decide (n9 < n4) = true → K (Value.bool false) w13)) ∧
  ((n13 == n5) = false →
  Rets Tryd.prog (11 : Nat) { toList := [Value.pointer q1] } w13 fun (v103 : Value) (w16 : World) =>
  ∃ (n16 : Int),
  v103 = Value.int IntKind.i64 n16 ∧
  ((n16 != n5) = true →
  Rets Tryd.prog (10 : Nat) { toList := [Value.pointer q1] } w16 fun (v104 : Value) (w17 : World) =>
  ∃ (n17 : Int),
  v104 = Value.int IntKind.i64 n17 ∧
  ((n17 != (0 : Int)) = false →
  (2 : Int) ≠ (0 : Int) ∧
  (decide (n8 > IntKind.wrap IntKind.i64 (Int.tdiv (IntKind.wrap IntKind.i64 (n3 + (1 : Int))) (2 : Int))) = true →
  K (Value.bool false) w17) ∧
  (decide (n8 > IntKind.wrap IntKind.i64 (Int.tdiv (IntKind.wrap IntKind.i64 (n3 + (1 : Int))) (2 : Int))) = false →
  ∃ (k5 : Nat), k5 < k2 ∧ h1 k5 [Value.int IntKind.i64 (IntKind.wrap IntKind.i64 (n1 + (1 : Int)))] w17)) ∧
  ((n17 != (0 : Int)) = true → K (Value.bool false) w17)) ∧
  ((n16 != n5) = false →
  ∃ (k6 : Nat), k6 < k2 ∧ h1 k6 [Value.int IntKind.i64 (IntKind.wrap IntKind.i64 (n1 + (1 : Int)))] w16)))) ∧
  (decide (n10 < (0 : Int)) = true → K (Value.bool false) w10)) ∧
  (decide (n8 > (16 : Int)) = true → K (Value.bool false) w9)) ∧
  (decide (n8 < (0 : Int)) = true → K (Value.bool false) w9)) ∧
  (decide (n1 < (↑l : Int)) = false →
  Rets Tryd.prog (16 : Nat) { toList := [Value.pointer none, Value.int IntKind.u64 (1 : Int)] } w3
  fun (v105 : Value) (w18 : World) =>
  v105 = Value.tuple { toList := [] } ∧
  Rets Tryd.prog (8 : Nat) { toList := [Value.pointer none, Value.slice q l c] } w18 fun (v106 : Value) (w19 : World) =>
  v106 = Value.tuple { toList := [] } ∧
  Rets Tryd.prog (15 : Nat) { toList := [Value.pointer none] } w19 fun (v107 : Value) (w20 : World) =>
  v107 = Value.tuple { toList := [] } ∧
  Rets Tryd.prog (13 : Nat) { toList := [Value.pointer none, Value.int IntKind.u64 (1 : Int)] } w20
  fun (v108 : Value) (w21 : World) =>
  ∃ (n18 : Int),
  v108 = Value.int IntKind.i64 n18 ∧
  Rets Tryd.prog (10 : Nat) { toList := [Value.pointer none] } w21 fun (v109 : Value) (w22 : World) =>
  ∃ (n19 : Int),
  v109 = Value.int IntKind.i64 n19 ∧
  Rets Tryd.prog (11 : Nat) { toList := [Value.pointer none] } w22 fun (v110 : Value) (w23 : World) =>
  ∃ (n20 : Int),
  v110 = Value.int IntKind.i64 n20 ∧
  Rets Tryd.prog (12 : Nat) { toList := [Value.pointer none] } w23 fun (v111 : Value) (w24 : World) =>
  ∃ (n21 : Int),
  v111 = Value.int IntKind.i64 n21 ∧
  ((IntKind.wrap IntKind.i64 (IntKind.wrap IntKind.i64 (IntKind.wrap IntKind.i64 (n18 + n19) + n20) + n21) == (0 : Int)) =
  true →
  Rets Tryd.prog (17 : Nat) { toList := [Value.pointer none] } w24 fun (v112 : Value) (w25 : World) =>
  ∃ (q2 : Option Addr),
  v112 = Value.pointer q2 ∧
  (Option.isNone q2 = true →
  Rets Tryd.prog (18 : Nat) { toList := [Value.pointer none] } w25 fun (v113 : Value) (w26 : World) =>
  ∃ (q3 : Option Addr),
  v113 = Value.pointer q3 ∧
  (Option.isNone q3 = true →
  Rets Tryd.prog (17 : Nat) { toList := [Value.pointer q1] } w26 fun (v114 : Value) (w27 : World) =>
  ∃ (q4 : Option Addr),
  v114 = Value.pointer q4 ∧
  ((!Option.isNone q4) = true →
  Rets Tryd.prog (18 : Nat) { toList := [Value.pointer q1] } w27 fun (v115 : Value) (w28 : World) =>
  ∃ (q5 : Option Addr),
  v115 = Value.pointer q5 ∧
  ((!Option.isNone q5) = true →
  Rets Tryd.prog (5 : Nat) { toList := [] } w28 fun (v116 : Value) (w29 : World) =>
  ∃ (b2 : Bool), v116 = Value.bool b2 ∧ K (Value.bool b2) w29) ∧
  ((!Option.isNone q5) = false → K (Value.bool false) w28)) ∧
  ((!Option.isNone q4) = false → K (Value.bool false) w27)) ∧
  (Option.isNone q3 = false → K (Value.bool false) w26)) ∧
  (Option.isNone q2 = false → K (Value.bool false) w25)) ∧
  ((IntKind.wrap IntKind.i64 (IntKind.wrap IntKind.i64 (IntKind.wrap IntKind.i64 (n18 + n19) + n20) + n21) == (0 : Int)) =
  false →
  K (Value.bool false) w24)))
theorem cortadolaw13_TinyRises_eq (n s : Int) (q : Option Addr) (l c : Nat) (w : World) (K : Value → World → Prop) : fw Tryd.prog Tryd.f4 (annL [(2, [(6, none), (9, some 3), (10, none), (11, none), (12, none), (13, none), (14, none), (26, none), (27, none), (28, none), (29, none), (30, none), (31, none), (32, none), (33, none), (34, none), (35, none), (36, none), (37, none), (38, none), (39, none), (40, none), (41, none), (42, none), (43, none), (44, none), (45, none), (46, none), (47, none), (48, none), (49, none), (50, none), (51, none), (52, none), (53, none), (54, none), (55, none), (56, none), (57, none), (58, none), (59, none), (60, none), (61, none), (62, none), (63, none), (64, none), (65, none), (66, none), (67, none), (68, none), (69, none), (70, none), (71, none), (72, none), (73, none), (74, none), (75, none), (76, none), (77, none), (78, none), (79, none), (80, none), (81, none), (82, none), (83, none), (84, none), (85, none), (86, none), (87, none), (88, none), (89, none), (90, none), (91, none), (92, none), (93, none), (94, none), (95, none), (96, none), (97, none), (98, none), (99, none), (100, none), (101, none), (102, none), (103, none), (104, none), (105, none), (106, none), (107, none)])]) (ordL []) [.int .i64 n, .int .u64 s, .slice q l c] w K = cortadolaw13_TinyRises_m n s q l c w K := by kernel_rfl
theorem cortadolaw13_TinyRises_go (n s : Int) (q : Option Addr) (l c : Nat) {w : World} {K : Value → World → Prop} (h : cortadolaw13_TinyRises_m n s q l c w K) : Rets Tryd.prog 4 #[.int .i64 n, .int .u64 s, .slice q l c] w K :=
  calls_of_fw plain mixed Tryd.func4 (by kernel_rfl) (by rw [cortadolaw13_TinyRises_eq]; exact h)
end Go.Proofs.YtkhfejnkefgpeaaDoor.Eng
