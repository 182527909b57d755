/- What the code of these functions asks for: printed by a program of this session's (gens.py) out of the seat's own functions; the kernel checks each row. -/
import Derived.Test.YtfcddffcjmgpkaaEngH
import Derived.Test.YtfcddffcjmgpkaaProg
import Derived.Test.YtfcddffcjmgpkaaBase
namespace Go.Proofs.Ytfcddffcjmgpkaa.Eng
open Go Go.Proofs
set_option linter.unusedVariables false
set_option maxRecDepth 1000000
def ring_New_string_m (room : Int) (w : World) (K : Value → World → Prop) : Prop :=
  NewR (115 : Nat)
  [Value.slice none (0 : Nat) (0 : Nat), Value.int IntKind.i64 (0 : Int), Value.int IntKind.i64 (0 : Int),
  Value.int IntKind.i64 (maxI (0 : Int) (minI room (65536 : Int)))]
  w fun (a1 : Addr) (w1 : World) => K (Value.pointer (some a1)) w1
theorem ring_New_string_eq (room : Int) (w : World) (K : Value → World → Prop) : fw Try.prog Try.f20 (annL []) (ordL []) [.int .i64 room] w K = ring_New_string_m room w K := by kernel_rfl
theorem ring_New_string_go (room : Int) {w : World} {K : Value → World → Prop} (h : ring_New_string_m room w K) : Rets Try.prog 20 #[.int .i64 room] w K :=
  calls_of_fw plain mixed Try.func20 (by kernel_rfl) (by rw [ring_New_string_eq]; exact h)
def ring_Ring_string_place_m (g : Nat) (i : Int) (w : World) (K : Value → World → Prop) : Prop :=
  Drw w fun (w1 : World) =>
  ∃ (n1 : Int),
  cellAt w1 (Addr.add { block := g, off := (0 : Nat) } (1 : Nat)) (Value.int IntKind.i64 n1) ∧
  ∃ (q1 : Option Addr),
  ∃ (k1 : Nat),
  ∃ (k2 : Nat),
  cellAt w1 (Addr.add { block := g, off := (0 : Nat) } (0 : Nat)) (Value.slice q1 k1 k2) ∧
  (↑k1 : Int) ≠ (0 : Int) ∧ K (Value.int IntKind.i64 (Int.tmod (IntKind.wrap IntKind.i64 (n1 + i)) (↑k1 : Int))) w1
theorem ring_Ring_string_place_eq (g : Nat) (i : Int) (w : World) (K : Value → World → Prop) : fw Try.prog Try.f87 (annL []) (ordL [(1, [(0, 0), (1, 0), (2, 0), (4, 0), (6, 0), (7, 0), (8, 0), (3, 1), (5, 0), (9, 1), (10, 0), (11, 0), (12, 0)])]) [.pointer (some ⟨g, 0, none⟩), .int .i64 i] w K = ring_Ring_string_place_m g i w K := by kernel_rfl
theorem ring_Ring_string_place_go (g : Nat) (i : Int) {w : World} {K : Value → World → Prop} (h : ring_Ring_string_place_m g i w K) : Rets Try.prog 87 #[.pointer (some ⟨g, 0, none⟩), .int .i64 i] w K :=
  calls_of_fw plain mixed Try.func87 (by kernel_rfl) (by rw [ring_Ring_string_place_eq]; exact h)
def ring_Ring_string_Len_m (g : Nat) (w : World) (K : Value → World → Prop) : Prop :=
  (false = true → K (Value.int IntKind.i64 (0 : Int)) w) ∧
  (false = false →
  ∃ (n1 : Int),
  cellAt w (Addr.add { block := g, off := (0 : Nat) } (2 : Nat)) (Value.int IntKind.i64 n1) ∧
  K (Value.int IntKind.i64 n1) w)
theorem ring_Ring_string_Len_eq (g : Nat) (w : World) (K : Value → World → Prop) : fw Try.prog Try.f23 (annL []) (ordL []) [.pointer (some ⟨g, 0, none⟩)] w K = ring_Ring_string_Len_m g w K := by kernel_rfl
theorem ring_Ring_string_Len_go (g : Nat) {w : World} {K : Value → World → Prop} (h : ring_Ring_string_Len_m g w K) : Rets Try.prog 23 #[.pointer (some ⟨g, 0, none⟩)] w K :=
  calls_of_fw plain mixed Try.func23 (by kernel_rfl) (by rw [ring_Ring_string_Len_eq]; exact h)
def ring_nil_string_Len_m  (w : World) (K : Value → World → Prop) : Prop :=
  (true = true → K (Value.int IntKind.i64 (0 : Int)) w) ∧ (true = false → False)
theorem ring_nil_string_Len_eq  (w : World) (K : Value → World → Prop) : fw Try.prog Try.f23 (annL []) (ordL []) [.pointer none] w K = ring_nil_string_Len_m  w K := by kernel_rfl
theorem ring_nil_string_Len_go  {w : World} {K : Value → World → Prop} (h : ring_nil_string_Len_m  w K) : Rets Try.prog 23 #[.pointer none] w K :=
  calls_of_fw plain mixed Try.func23 (by kernel_rfl) (by rw [ring_nil_string_Len_eq]; exact h)
def slices_Clone_string_string_m (q : Option Addr) (l c : Nat) (w : World) (K : Value → World → Prop) : Prop :=
  (Option.isNone q = true → K (Value.slice none (0 : Nat) (0 : Nat)) w) ∧
  (Option.isNone q = false →
  NewR (9 : Nat) [] w fun (a1 : Addr) (w1 : World) =>
  RunR Try.prog
  (builtinV Builtin.append { toList := [(33 : Nat), (33 : Nat)] } (nat_lit 33)
  { toList := [Value.slice (some a1) (0 : Nat) (0 : Nat), Value.slice q l c] })
  w1 fun (v1 : Value) (w2 : World) =>
  ∃ (q1 : Option Addr), ∃ (k1 : Nat), ∃ (k2 : Nat), v1 = Value.slice q1 k1 k2 ∧ K (Value.slice q1 k1 k2) w2)
theorem slices_Clone_string_string_eq (q : Option Addr) (l c : Nat) (w : World) (K : Value → World → Prop) : fw Try.prog Try.f88 (annL []) (ordL []) [.slice q l c] w K = slices_Clone_string_string_m q l c w K := by kernel_rfl
theorem slices_Clone_string_string_go (q : Option Addr) (l c : Nat) {w : World} {K : Value → World → Prop} (h : slices_Clone_string_string_m q l c w K) : Rets Try.prog 88 #[.slice q l c] w K :=
  calls_of_fw plain mixed Try.func88 (by kernel_rfl) (by rw [slices_Clone_string_string_eq]; exact h)
def ring_Ring_string_Clone_m (g : Nat) (w : World) (K : Value → World → Prop) : Prop :=
  (false = true → K (Value.pointer none) w) ∧
  (false = false →
  Drw w fun (w1 : World) =>
  ∃ (h1 : World → Prop),
  h1 w1 ∧
  ∃ (q1 : Option Addr),
  ∃ (k1 : Nat),
  ∃ (k2 : Nat),
  (∀ (w2 : World),
  h1 w2 → World.cell? w2 (Addr.add { block := g, off := (0 : Nat) } (0 : Nat)) = some (Value.slice q1 k1 k2)) ∧
  ∃ (n1 : Int),
  (∀ (w3 : World),
  h1 w3 → World.cell? w3 (Addr.add { block := g, off := (0 : Nat) } (1 : Nat)) = some (Value.int IntKind.i64 n1)) ∧
  ∃ (n2 : Int),
  (∀ (w4 : World),
  h1 w4 → World.cell? w4 (Addr.add { block := g, off := (0 : Nat) } (2 : Nat)) = some (Value.int IntKind.i64 n2)) ∧
  ∃ (n3 : Int),
  (∀ (w5 : World),
  h1 w5 → World.cell? w5 (Addr.add { block := g, off := (0 : Nat) } (3 : Nat)) = some (Value.int IntKind.i64 n3)) ∧
  Rets Try.prog (88 : Nat) { toList := [Value.slice q1 k1 k2] } w1 fun (v1 : Value) (w6 : World) =>
  ∃ (q2 : Option Addr),
  ∃ (k3 : Nat),
  ∃ (k4 : Nat),
  v1 = Value.slice q2 k3 k4 ∧
  h1 w6 ∧
  NewR (115 : Nat) [Value.slice q2 k3 k4, Value.int IntKind.i64 n1, Value.int IntKind.i64 n2, Value.int IntKind.i64 n3] w6
  fun (a1 : Addr) (w7 : World) => K (Value.pointer (some a1)) w7)
theorem ring_Ring_string_Clone_eq (g : Nat) (w : World) (K : Value → World → Prop) : fw Try.prog Try.f22 (annL []) (ordL [(3, [(0, 0), (1, 0), (2, 0), (5, 0), (6, 0), (7, 0), (9, 0), (10, 0), (11, 0), (13, 0), (14, 0), (15, 0), (3, 1), (8, 1), (12, 1), (16, 1), (4, 2), (17, 0), (18, 3), (19, 0)])]) [.pointer (some ⟨g, 0, none⟩)] w K = ring_Ring_string_Clone_m g w K := by kernel_rfl
theorem ring_Ring_string_Clone_go (g : Nat) {w : World} {K : Value → World → Prop} (h : ring_Ring_string_Clone_m g w K) : Rets Try.prog 22 #[.pointer (some ⟨g, 0, none⟩)] w K :=
  calls_of_fw plain mixed Try.func22 (by kernel_rfl) (by rw [ring_Ring_string_Clone_eq]; exact h)
def ring_nil_string_Clone_m  (w : World) (K : Value → World → Prop) : Prop :=
  (true = true → K (Value.pointer none) w) ∧
  (true = false → Drw w fun (w1 : World) => ∃ (h1 : World → Prop), h1 w1 ∧ False)
theorem ring_nil_string_Clone_eq  (w : World) (K : Value → World → Prop) : fw Try.prog Try.f22 (annL []) (ordL [(3, [(0, 0), (1, 0), (2, 0), (5, 0), (6, 0), (7, 0), (9, 0), (10, 0), (11, 0), (13, 0), (14, 0), (15, 0), (3, 1), (8, 1), (12, 1), (16, 1), (4, 2), (17, 0), (18, 3), (19, 0)])]) [.pointer none] w K = ring_nil_string_Clone_m  w K := by kernel_rfl
theorem ring_nil_string_Clone_go  {w : World} {K : Value → World → Prop} (h : ring_nil_string_Clone_m  w K) : Rets Try.prog 22 #[.pointer none] w K :=
  calls_of_fw plain mixed Try.func22 (by kernel_rfl) (by rw [ring_nil_string_Clone_eq]; exact h)
def ring_Ring_string_At_m (g : Nat) (i : Int) (w : World) (K : Value → World → Prop) : Prop :=
  (false = false →
  (decide (i < (0 : Int)) = false →
  ∃ (n1 : Int),
  cellAt w (Addr.add { block := g, off := (0 : Nat) } (2 : Nat)) (Value.int IntKind.i64 n1) ∧
  (decide (i ≥ n1) = true → K (Value.tuple { toList := [Value.string { data := #[] }, Value.bool false] }) w) ∧
  (decide (i ≥ n1) = false →
  Drw w fun (w1 : World) =>
  ∃ (h1 : World → Prop),
  h1 w1 ∧
  ∃ (q1 : Option Addr),
  ∃ (k1 : Nat),
  ∃ (k2 : Nat),
  (∀ (w2 : World),
  h1 w2 → World.cell? w2 (Addr.add { block := g, off := (0 : Nat) } (0 : Nat)) = some (Value.slice q1 k1 k2)) ∧
  Rets Try.prog (87 : Nat) { toList := [Value.pointer (some { block := g, off := (0 : Nat) }), Value.int IntKind.i64 i] }
  w1 fun (v1 : Value) (w3 : World) =>
  ∃ (n2 : Int),
  v1 = Value.int IntKind.i64 n2 ∧
  ∃ (h2 : World → Prop),
  (∀ (w4 : World), h2 w4 → h1 w4) ∧
  h2 w3 ∧
  (0 : Int) ≤ n2 ∧
  n2 < (↑k1 : Int) ∧
  someR q1 fun (a1 : Addr) =>
  ∃ (s1 : ByteArray),
  (∀ (w5 : World), h2 w5 → World.cell? w5 (Addr.add a1 (Int.toNat n2 * (1 : Nat))) = some (Value.string s1)) ∧
  K (Value.tuple { toList := [Value.string s1, Value.bool true] }) w3)) ∧
  (decide (i < (0 : Int)) = true → K (Value.tuple { toList := [Value.string { data := #[] }, Value.bool false] }) w)) ∧
  (false = true → K (Value.tuple { toList := [Value.string { data := #[] }, Value.bool false] }) w)
theorem ring_Ring_string_At_eq (g : Nat) (i : Int) (w : World) (K : Value → World → Prop) : fw Try.prog Try.f24 (annL []) (ordL [(3, [(0, 0), (1, 0), (2, 0), (4, 0), (5, 0), (3, 1), (6, 4), (7, 0), (8, 1), (9, 0), (10, 0)])]) [.pointer (some ⟨g, 0, none⟩), .int .i64 i] w K = ring_Ring_string_At_m g i w K := by kernel_rfl
theorem ring_Ring_string_At_go (g : Nat) (i : Int) {w : World} {K : Value → World → Prop} (h : ring_Ring_string_At_m g i w K) : Rets Try.prog 24 #[.pointer (some ⟨g, 0, none⟩), .int .i64 i] w K :=
  calls_of_fw plain mixed Try.func24 (by kernel_rfl) (by rw [ring_Ring_string_At_eq]; exact h)
def ring_nil_string_At_m (i : Int) (w : World) (K : Value → World → Prop) : Prop :=
  (true = false →
  (decide (i < (0 : Int)) = false → False) ∧
  (decide (i < (0 : Int)) = true → K (Value.tuple { toList := [Value.string { data := #[] }, Value.bool false] }) w)) ∧
  (true = true → K (Value.tuple { toList := [Value.string { data := #[] }, Value.bool false] }) w)
theorem ring_nil_string_At_eq (i : Int) (w : World) (K : Value → World → Prop) : fw Try.prog Try.f24 (annL []) (ordL [(3, [(0, 0), (1, 0), (2, 0), (4, 0), (5, 0), (3, 1), (6, 4), (7, 0), (8, 1), (9, 0), (10, 0)])]) [.pointer none, .int .i64 i] w K = ring_nil_string_At_m i w K := by kernel_rfl
theorem ring_nil_string_At_go (i : Int) {w : World} {K : Value → World → Prop} (h : ring_nil_string_At_m i w K) : Rets Try.prog 24 #[.pointer none, .int .i64 i] w K :=
  calls_of_fw plain mixed Try.func24 (by kernel_rfl) (by rw [ring_nil_string_At_eq]; exact h)
def ring_Ring_string_All_m (q : Option Addr) (w : World) (K : Value → World → Prop) : Prop :=
  NewR (34 : Nat) [Value.pointer q] w fun (a1 : Addr) (w1 : World) =>
  K (Value.func (Fn.func (89 : Nat)) { toList := [] } { toList := [Value.pointer (some a1)] }) w1
theorem ring_Ring_string_All_eq (q : Option Addr) (w : World) (K : Value → World → Prop) : fw Try.prog Try.f26 (annL []) (ordL []) [.pointer q] w K = ring_Ring_string_All_m q w K := by kernel_rfl
theorem ring_Ring_string_All_go (q : Option Addr) {w : World} {K : Value → World → Prop} (h : ring_Ring_string_All_m q w K) : Rets Try.prog 26 #[.pointer q] w K :=
  calls_of_fw plain mixed Try.func26 (by kernel_rfl) (by rw [ring_Ring_string_All_eq]; exact h)
def ring_Ring_string_All_1_m (l b : Nat) (w : World) (K : Value → World → Prop) : Prop :=
  ∃ (q1 : Option Addr),
  cellAt w { block := b, off := (0 : Nat) } (Value.pointer q1) ∧
  Rets Try.prog (22 : Nat) { toList := [Value.pointer q1] } w fun (v1 : Value) (w1 : World) =>
  ∃ (q2 : Option Addr),
  v1 = Value.pointer q2 ∧
  Rets Try.prog (23 : Nat) { toList := [Value.pointer q2] } w1 fun (v2 : Value) (w2 : World) =>
  ∃ (n1 : Int),
  v2 = Value.int IntKind.i64 n1 ∧
  ∃ (h1 : Nat → List Value → World → Prop),
  (∃ (k1 : Nat), h1 k1 [Value.int IntKind.i64 (0 : Int)] w2) ∧
  ∀ (k2 : Nat) (w3 : World) (v3 v4 v5 : Value) (n2 : Int) (v6 v7 v8 v9 v10 v11 v12 v13 v14 v15 v16 v17 v18 v19 : Value),
  h1 k2 [Value.int IntKind.i64 n2] w3 →
  (decide (n2 < n1) = true →
  Rets Try.prog (24 : Nat) { toList := [Value.pointer q2, Value.int IntKind.i64 n2] } w3 fun (v20 : Value) (w4 : World) =>
  ∃ (s1 : ByteArray),
  ∃ (b1 : Bool),
  v20 = Value.tuple { toList := [Value.string s1, Value.bool b1] } ∧
  RoundR Try.prog l { toList := [Value.int IntKind.i64 n2, Value.string s1] } w4 fun (v21 : Value) (w5 : World) =>
  ∃ (b2 : Bool),
  v21 = Value.bool b2 ∧
  ((!b2) = true → K (Value.tuple { toList := [] }) w5) ∧
  ((!b2) = false →
  ∃ (k3 : Nat), k3 < k2 ∧ h1 k3 [Value.int IntKind.i64 (IntKind.wrap IntKind.i64 (n2 + (1 : Int)))] w5)) ∧
  (decide (n2 < n1) = false → K (Value.tuple { toList := [] }) w3)
theorem ring_Ring_string_All_1_eq (l b : Nat) (w : World) (K : Value → World → Prop) : fw Try.prog Try.f89 (annL [(1, [(4, none), (5, none), (6, none), (11, some 3), (12, none), (13, none), (14, none), (15, none), (16, none), (17, none), (18, none), (19, none), (20, none), (21, none), (22, none), (23, none), (24, none), (25, none)])]) (ordL []) [.func (.yield l) #[] #[], .pointer (some ⟨b, 0, none⟩)] w K = ring_Ring_string_All_1_m l b w K := by kernel_rfl
theorem ring_Ring_string_All_1_go (l b : Nat) {w : World} {K : Value → World → Prop} (h : ring_Ring_string_All_1_m l b w K) : Rets Try.prog 89 #[.func (.yield l) #[] #[], .pointer (some ⟨b, 0, none⟩)] w K :=
  calls_of_fw plain mixed Try.func89 (by kernel_rfl) (by rw [ring_Ring_string_All_1_eq]; exact h)
def ring_Ring_string_grow_m (g : Nat) (w : World) (K : Value → World → Prop) : Prop :=
  Drw w fun (w1 : World) =>
  ∃ (n1 : Int),
  cellAt w1 (Addr.add { block := g, off := (0 : Nat) } (2 : Nat)) (Value.int IntKind.i64 n1) ∧
  ∃ (q1 : Option Addr),
  ∃ (k1 : Nat),
  ∃ (k2 : Nat),
  cellAt w1 (Addr.add { block := g, off := (0 : Nat) } (0 : Nat)) (Value.slice q1 k1 k2) ∧
  (decide (n1 < (↑k1 : Int)) = true → K (Value.tuple { toList := [] }) w1) ∧
  (decide (n1 < (↑k1 : Int)) = false →
  ∃ (n2 : Int),
  cellAt w1 (Addr.add { block := g, off := (0 : Nat) } (2 : Nat)) (Value.int IntKind.i64 n2) ∧
  MakeR (9 : Nat) [Value.string { data := #[] }] (16 : Nat) (0 : Int) n2 w1 fun (a1 : Addr) (w2 : World) =>
  NewR (33 : Nat) [Value.slice none (0 : Nat) (0 : Nat)] w2 fun (a2 : Addr) (w3 : World) =>
  StoreR a2 [Value.slice (some a1) (0 : Nat) (Int.toNat n2)] w3 fun (w4 : World) =>
  Rets Try.prog (26 : Nat) { toList := [Value.pointer (some { block := g, off := (0 : Nat) })] } w4
  fun (v1 : Value) (w5 : World) =>
  ∃ (f1 : Fn),
  ∃ (a3 : Array Value),
  ∃ (c1 : Array Value),
  v1 = Value.func f1 a3 c1 ∧
  ∃ (v2 : Value),
  Value.func f1 a3 c1 = Value.func (Fn.func (89 : Nat)) { toList := [] } { toList := [v2] } ∧
  LoopR w5 fun (k3 k4 : Nat) (L1 : Loop) (w6 : World) =>
  (∀ (n3 : Int) (s1 : ByteArray) (w7 : World) (h1 : Value → World → Prop),
  RecR k4 L1 w7 →
  (BegR k4 L1 w7 fun (w8 : World) =>
  ∃ (q2 : Option Addr),
  ∃ (k5 : Nat),
  ∃ (k6 : Nat),
  cellAt w8 a2 (Value.slice q2 k5 k6) ∧
  NewR (9 : Nat) [Value.string s1] w8 fun (a4 : Addr) (w9 : World) =>
  RunR Try.prog
  (builtinV Builtin.append { toList := [(33 : Nat), (33 : Nat)] } (nat_lit 33)
  { toList := [Value.slice q2 k5 k6, Value.slice (some a4) (1 : Nat) (1 : Nat)] })
  w9 fun (v3 : Value) (w10 : World) =>
  ∃ (q3 : Option Addr),
  ∃ (k7 : Nat),
  ∃ (k8 : Nat),
  v3 = Value.slice q3 k7 k8 ∧
  StoreR a2 [Value.slice q3 k7 k8] w10 fun (w11 : World) =>
  FinR k4 L1 none w11 fun (w12 : World) => h1 (Value.bool true) w12) →
  RoundR Try.prog k4 { toList := [Value.int IntKind.i64 n3, Value.string s1] } w7 h1) →
  Rets Try.prog (89 : Nat) { toList := [Value.func (Fn.yield k4) { toList := [] } { toList := [] }, v2] } w6
  fun (v4 : Value) (w13 : World) =>
  EndR k4 L1 none w13 fun (w14 : World) =>
  Drw w14 fun (w15 : World) =>
  ∃ (n4 : Int),
  cellAt w15 (Addr.add { block := g, off := (0 : Nat) } (3 : Nat)) (Value.int IntKind.i64 n4) ∧
  ∃ (n5 : Int),
  cellAt w15 (Addr.add { block := g, off := (0 : Nat) } (2 : Nat)) (Value.int IntKind.i64 n5) ∧
  MakeR (9 : Nat) [Value.string { data := #[] }] (16 : Nat)
  (minI n4 (maxI (4 : Int) (IntKind.wrap IntKind.i64 ((2 : Int) * n5))))
  (minI n4 (maxI (4 : Int) (IntKind.wrap IntKind.i64 ((2 : Int) * n5)))) w15 fun (a5 : Addr) (w16 : World) =>
  ∃ (q4 : Option Addr),
  ∃ (k9 : Nat),
  ∃ (k10 : Nat),
  cellAt w16 a2 (Value.slice q4 k9 k10) ∧
  RunR Try.prog
  (builtinV Builtin.copy { toList := [(33 : Nat), (33 : Nat)] } (nat_lit 3)
  {
  toList :=
  [Value.slice (some a5) (Int.toNat (minI n4 (maxI (4 : Int) (IntKind.wrap IntKind.i64 ((2 : Int) * n5)))))
  (Int.toNat (minI n4 (maxI (4 : Int) (IntKind.wrap IntKind.i64 ((2 : Int) * n5))))),
  Value.slice q4 k9 k10] })
  w16 fun (v5 : Value) (w17 : World) =>
  ∃ (n6 : Int),
  v5 = Value.int IntKind.i64 n6 ∧
  StoreR (Addr.add { block := g, off := (0 : Nat) } (0 : Nat))
  [Value.slice (some a5) (Int.toNat (minI n4 (maxI (4 : Int) (IntKind.wrap IntKind.i64 ((2 : Int) * n5)))))
  (Int.toNat (minI n4 (maxI (4 : Int) (IntKind.wrap IntKind.i64 ((2 : Int) * n5)))))]
  w17 fun (w18 : World) =>
  StoreR (Addr.add { block := g, off := (0 : Nat) } (1 : Nat)) [Value.int IntKind.i64 (0 : Int)] w18 fun (w19 : World) =>
  MarkR k3 w19 fun (w20 : World) => K (Value.tuple { toList := [] }) w20)
theorem ring_Ring_string_grow_eq (g : Nat) (w : World) (K : Value → World → Prop) : fw Try.prog Try.f86 (annL [(2, [(23, some 3), (24, some 9)])]) (ordL [(0, [(0, 0), (1, 0), (2, 0), (4, 0), (5, 0), (6, 0), (3, 1), (7, 1), (8, 0), (9, 0)]), (1000002, [(89, 1)]), (5, [(0, 0), (1, 0), (2, 0), (4, 0), (5, 0), (6, 0), (3, 1), (7, 1), (8, 0), (9, 0), (10, 0), (11, 3), (12, 0)])]) [.pointer (some ⟨g, 0, none⟩)] w K = ring_Ring_string_grow_m g w K := by kernel_rfl
theorem ring_Ring_string_grow_go (g : Nat) {w : World} {K : Value → World → Prop} (h : ring_Ring_string_grow_m g w K) : Rets Try.prog 86 #[.pointer (some ⟨g, 0, none⟩)] w K :=
  calls_of_fw plain mixed Try.func86 (by kernel_rfl) (by rw [ring_Ring_string_grow_eq]; exact h)
def ring_Ring_string_Send_m (g : Nat) (x : ByteArray) (w : World) (K : Value → World → Prop) : Prop :=
  Drw w fun (w1 : World) =>
  (false = false →
  ∃ (n1 : Int),
  cellAt w1 (Addr.add { block := g, off := (0 : Nat) } (2 : Nat)) (Value.int IntKind.i64 n1) ∧
  ∃ (n2 : Int),
  cellAt w1 (Addr.add { block := g, off := (0 : Nat) } (3 : Nat)) (Value.int IntKind.i64 n2) ∧
  (decide (n1 ≥ n2) = true → K (Value.bool false) w1) ∧
  (decide (n1 ≥ n2) = false →
  Rets Try.prog (86 : Nat) { toList := [Value.pointer (some { block := g, off := (0 : Nat) })] } w1
  fun (v1 : Value) (w2 : World) =>
  v1 = Value.tuple { toList := [] } ∧
  Drw w2 fun (w3 : World) =>
  ∃ (h1 : World → Prop),
  h1 w3 ∧
  ∃ (q1 : Option Addr),
  ∃ (k1 : Nat),
  ∃ (k2 : Nat),
  (∀ (w4 : World),
  h1 w4 → World.cell? w4 (Addr.add { block := g, off := (0 : Nat) } (0 : Nat)) = some (Value.slice q1 k1 k2)) ∧
  ∃ (n3 : Int),
  (∀ (w5 : World),
  h1 w5 → World.cell? w5 (Addr.add { block := g, off := (0 : Nat) } (2 : Nat)) = some (Value.int IntKind.i64 n3)) ∧
  Rets Try.prog (87 : Nat) { toList := [Value.pointer (some { block := g, off := (0 : Nat) }), Value.int IntKind.i64 n3] }
  w3 fun (v2 : Value) (w6 : World) =>
  ∃ (n4 : Int),
  v2 = Value.int IntKind.i64 n4 ∧
  h1 w6 ∧
  (0 : Int) ≤ n4 ∧
  n4 < (↑k1 : Int) ∧
  someR q1 fun (a1 : Addr) =>
  StoreR (Addr.add a1 (Int.toNat n4 * (1 : Nat))) [Value.string x] w6 fun (w7 : World) =>
  ∃ (n5 : Int),
  cellAt w7 (Addr.add { block := g, off := (0 : Nat) } (2 : Nat)) (Value.int IntKind.i64 n5) ∧
  StoreR (Addr.add { block := g, off := (0 : Nat) } (2 : Nat))
  [Value.int IntKind.i64 (IntKind.wrap IntKind.i64 (n5 + (1 : Int)))] w7 fun (w8 : World) => K (Value.bool true) w8)) ∧
  (false = true → K (Value.bool false) w1)
theorem ring_Ring_string_Send_eq (g : Nat) (x : ByteArray) (w : World) (K : Value → World → Prop) : fw Try.prog Try.f21 (annL []) (ordL [(1, [(0, 0), (1, 0), (2, 0), (3, 0), (4, 0), (5, 0), (7, 0), (8, 0), (9, 0), (6, 1), (10, 1), (11, 0), (12, 0)]), (4, [(0, 0), (1, 0), (2, 0), (4, 0), (5, 0), (6, 0), (7, 0), (10, 0), (3, 1), (8, 1), (9, 2), (11, 0), (12, 3)])]) [.pointer (some ⟨g, 0, none⟩), .string x] w K = ring_Ring_string_Send_m g x w K := by kernel_rfl
theorem ring_Ring_string_Send_go (g : Nat) (x : ByteArray) {w : World} {K : Value → World → Prop} (h : ring_Ring_string_Send_m g x w K) : Rets Try.prog 21 #[.pointer (some ⟨g, 0, none⟩), .string x] w K :=
  calls_of_fw plain mixed Try.func21 (by kernel_rfl) (by rw [ring_Ring_string_Send_eq]; exact h)
def ring_nil_string_Send_m (x : ByteArray) (w : World) (K : Value → World → Prop) : Prop :=
  Drw w fun (w1 : World) => (true = false → False) ∧ (true = true → K (Value.bool false) w1)
theorem ring_nil_string_Send_eq (x : ByteArray) (w : World) (K : Value → World → Prop) : fw Try.prog Try.f21 (annL []) (ordL [(1, [(0, 0), (1, 0), (2, 0), (3, 0), (4, 0), (5, 0), (7, 0), (8, 0), (9, 0), (6, 1), (10, 1), (11, 0), (12, 0)]), (4, [(0, 0), (1, 0), (2, 0), (4, 0), (5, 0), (6, 0), (7, 0), (10, 0), (3, 1), (8, 1), (9, 2), (11, 0), (12, 3)])]) [.pointer none, .string x] w K = ring_nil_string_Send_m x w K := by kernel_rfl
theorem ring_nil_string_Send_go (x : ByteArray) {w : World} {K : Value → World → Prop} (h : ring_nil_string_Send_m x w K) : Rets Try.prog 21 #[.pointer none, .string x] w K :=
  calls_of_fw plain mixed Try.func21 (by kernel_rfl) (by rw [ring_nil_string_Send_eq]; exact h)
def ring_Ring_string_Take_m (g : Nat) (w : World) (K : Value → World → Prop) : Prop :=
  (false = false →
  ∃ (n1 : Int),
  cellAt w (Addr.add { block := g, off := (0 : Nat) } (2 : Nat)) (Value.int IntKind.i64 n1) ∧
  ((n1 == (0 : Int)) = true → K (Value.tuple { toList := [Value.string { data := #[] }, Value.bool false] }) w) ∧
  ((n1 == (0 : Int)) = false →
  Drw w fun (w1 : World) =>
  ∃ (q1 : Option Addr),
  ∃ (k1 : Nat),
  ∃ (k2 : Nat),
  cellAt w1 (Addr.add { block := g, off := (0 : Nat) } (0 : Nat)) (Value.slice q1 k1 k2) ∧
  ∃ (n2 : Int),
  cellAt w1 (Addr.add { block := g, off := (0 : Nat) } (1 : Nat)) (Value.int IntKind.i64 n2) ∧
  ∃ (q2 : Option Addr),
  ∃ (k3 : Nat),
  ∃ (k4 : Nat),
  cellAt w1 (Addr.add { block := g, off := (0 : Nat) } (0 : Nat)) (Value.slice q2 k3 k4) ∧
  ∃ (n3 : Int),
  cellAt w1 (Addr.add { block := g, off := (0 : Nat) } (1 : Nat)) (Value.int IntKind.i64 n3) ∧
  (0 : Int) ≤ n3 ∧
  n3 < (↑k3 : Int) ∧
  someR q2 fun (a1 : Addr) =>
  ∃ (s1 : ByteArray),
  cellAt w1 (Addr.add a1 (Int.toNat n3 * (1 : Nat))) (Value.string s1) ∧
  (0 : Int) ≤ n2 ∧
  n2 < (↑k1 : Int) ∧
  someR q1 fun (a2 : Addr) =>
  StoreR (Addr.add a2 (Int.toNat n2 * (1 : Nat))) [Value.string { data := #[] }] w1 fun (w2 : World) =>
  Drw w2 fun (w3 : World) =>
  ∃ (h1 : World → Prop),
  h1 w3 ∧
  ∃ (n4 : Int),
  (∀ (w4 : World),
  h1 w4 → World.cell? w4 (Addr.add { block := g, off := (0 : Nat) } (2 : Nat)) = some (Value.int IntKind.i64 n4)) ∧
  Rets Try.prog (87 : Nat)
  { toList := [Value.pointer (some { block := g, off := (0 : Nat) }), Value.int IntKind.i64 (1 : Int)] } w3
  fun (v1 : Value) (w5 : World) =>
  ∃ (n5 : Int),
  v1 = Value.int IntKind.i64 n5 ∧
  h1 w5 ∧
  StoreR (Addr.add { block := g, off := (0 : Nat) } (1 : Nat)) [Value.int IntKind.i64 n5] w5 fun (w6 : World) =>
  StoreR (Addr.add { block := g, off := (0 : Nat) } (2 : Nat))
  [Value.int IntKind.i64 (IntKind.wrap IntKind.i64 (n4 - (1 : Int)))] w6 fun (w7 : World) =>
  K (Value.tuple { toList := [Value.string s1, Value.bool true] }) w7)) ∧
  (false = true → K (Value.tuple { toList := [Value.string { data := #[] }, Value.bool false] }) w)
theorem ring_Ring_string_Take_eq (g : Nat) (w : World) (K : Value → World → Prop) : fw Try.prog Try.f25 (annL []) (ordL [(4, [(0, 0), (1, 0), (2, 0), (4, 0), (5, 0), (6, 0), (8, 0), (9, 0), (10, 0), (12, 0), (13, 0), (14, 0), (18, 0), (3, 1), (7, 1), (11, 1), (15, 1), (16, 0), (17, 1), (19, 0), (20, 0), (21, 3)]), (5, [(0, 0), (1, 0), (2, 0), (4, 0), (5, 0), (6, 0), (7, 1), (8, 0), (3, 2), (9, 0), (10, 0), (11, 3), (12, 0), (13, 0), (14, 3)])]) [.pointer (some ⟨g, 0, none⟩)] w K = ring_Ring_string_Take_m g w K := by kernel_rfl
theorem ring_Ring_string_Take_go (g : Nat) {w : World} {K : Value → World → Prop} (h : ring_Ring_string_Take_m g w K) : Rets Try.prog 25 #[.pointer (some ⟨g, 0, none⟩)] w K :=
  calls_of_fw plain mixed Try.func25 (by kernel_rfl) (by rw [ring_Ring_string_Take_eq]; exact h)
def ring_nil_string_Take_m  (w : World) (K : Value → World → Prop) : Prop :=
  (true = false → False) ∧
  (true = true → K (Value.tuple { toList := [Value.string { data := #[] }, Value.bool false] }) w)
theorem ring_nil_string_Take_eq  (w : World) (K : Value → World → Prop) : fw Try.prog Try.f25 (annL []) (ordL [(4, [(0, 0), (1, 0), (2, 0), (4, 0), (5, 0), (6, 0), (8, 0), (9, 0), (10, 0), (12, 0), (13, 0), (14, 0), (18, 0), (3, 1), (7, 1), (11, 1), (15, 1), (16, 0), (17, 1), (19, 0), (20, 0), (21, 3)]), (5, [(0, 0), (1, 0), (2, 0), (4, 0), (5, 0), (6, 0), (7, 1), (8, 0), (3, 2), (9, 0), (10, 0), (11, 3), (12, 0), (13, 0), (14, 3)])]) [.pointer none] w K = ring_nil_string_Take_m  w K := by kernel_rfl
theorem ring_nil_string_Take_go  {w : World} {K : Value → World → Prop} (h : ring_nil_string_Take_m  w K) : Rets Try.prog 25 #[.pointer none] w K :=
  calls_of_fw plain mixed Try.func25 (by kernel_rfl) (by rw [ring_nil_string_Take_eq]; exact h)
end Go.Proofs.Ytfcddffcjmgpkaa.Eng
