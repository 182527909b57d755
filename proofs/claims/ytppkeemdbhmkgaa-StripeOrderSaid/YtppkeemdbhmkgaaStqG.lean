/- What the code of these functions asks for: printed by a program of this session's (gens.py) out of the seat's own functions; the kernel checks each row. -/
import Derived.Test.YtppkeemdbhmkgaaEngH
import Derived.Test.YtppkeemdbhmkgaaProg
import Derived.Test.YtppkeemdbhmkgaaBase
namespace Go.Proofs.Ytppkeemdbhmkgaa.Eng
open Go Go.Proofs
set_option linter.unusedVariables false
set_option maxRecDepth 1000000
def ring_New_int_m (room : Int) (w : World) (K : Value → World → Prop) : Prop :=
  NewR (61 : Nat)
  [Value.slice none (0 : Nat) (0 : Nat), Value.int IntKind.i64 (0 : Int), Value.int IntKind.i64 (0 : Int),
  Value.int IntKind.i64 (maxI (0 : Int) (minI room (65536 : Int)))]
  w fun (a1 : Addr) (w1 : World) => K (Value.pointer (some a1)) w1
theorem ring_New_int_eq (room : Int) (w : World) (K : Value → World → Prop) : fw Try.prog Try.f36 (annL []) (ordL []) [.int .i64 room] w K = ring_New_int_m room w K := by kernel_rfl
theorem ring_New_int_go (room : Int) {w : World} {K : Value → World → Prop} (h : ring_New_int_m room w K) : Rets Try.prog 36 #[.int .i64 room] w K :=
  calls_of_fw plain mixed Try.func36 (by kernel_rfl) (by rw [ring_New_int_eq]; exact h)
def ring_Ring_int_place_m (g : Nat) (i : Int) (w : World) (K : Value → World → Prop) : Prop :=
  Drw w fun (w1 : World) =>
  ∃ (n1 : Int),
  cellAt w1 (Addr.add { block := g, off := (0 : Nat) } (1 : Nat)) (Value.int IntKind.i64 n1) ∧
  ∃ (q1 : Option Addr),
  ∃ (k1 : Nat),
  ∃ (k2 : Nat),
  cellAt w1 (Addr.add { block := g, off := (0 : Nat) } (0 : Nat)) (Value.slice q1 k1 k2) ∧
  (↑k1 : Int) ≠ (0 : Int) ∧ K (Value.int IntKind.i64 (Int.tmod (IntKind.wrap IntKind.i64 (n1 + i)) (↑k1 : Int))) w1
theorem ring_Ring_int_place_eq (g : Nat) (i : Int) (w : World) (K : Value → World → Prop) : fw Try.prog Try.f40 (annL []) (ordL [(1, [(0, 0), (1, 0), (2, 0), (4, 0), (6, 0), (7, 0), (8, 0), (3, 1), (5, 0), (9, 1), (10, 0), (11, 0), (12, 0)])]) [.pointer (some ⟨g, 0, none⟩), .int .i64 i] w K = ring_Ring_int_place_m g i w K := by kernel_rfl
theorem ring_Ring_int_place_go (g : Nat) (i : Int) {w : World} {K : Value → World → Prop} (h : ring_Ring_int_place_m g i w K) : Rets Try.prog 40 #[.pointer (some ⟨g, 0, none⟩), .int .i64 i] w K :=
  calls_of_fw plain mixed Try.func40 (by kernel_rfl) (by rw [ring_Ring_int_place_eq]; exact h)
def ring_Ring_int_Len_m (g : Nat) (w : World) (K : Value → World → Prop) : Prop :=
  (false = true → K (Value.int IntKind.i64 (0 : Int)) w) ∧
  (false = false →
  ∃ (n1 : Int),
  cellAt w (Addr.add { block := g, off := (0 : Nat) } (2 : Nat)) (Value.int IntKind.i64 n1) ∧
  K (Value.int IntKind.i64 n1) w)
theorem ring_Ring_int_Len_eq (g : Nat) (w : World) (K : Value → World → Prop) : fw Try.prog Try.f34 (annL []) (ordL []) [.pointer (some ⟨g, 0, none⟩)] w K = ring_Ring_int_Len_m g w K := by kernel_rfl
theorem ring_Ring_int_Len_go (g : Nat) {w : World} {K : Value → World → Prop} (h : ring_Ring_int_Len_m g w K) : Rets Try.prog 34 #[.pointer (some ⟨g, 0, none⟩)] w K :=
  calls_of_fw plain mixed Try.func34 (by kernel_rfl) (by rw [ring_Ring_int_Len_eq]; exact h)
def slices_Clone_int_int_m (q : Option Addr) (l c : Nat) (w : World) (K : Value → World → Prop) : Prop :=
  (Option.isNone q = true → K (Value.slice none (0 : Nat) (0 : Nat)) w) ∧
  (Option.isNone q = false →
  NewR (33 : Nat) [] w fun (a1 : Addr) (w1 : World) =>
  RunR Try.prog
  (builtinV Builtin.append { toList := [(48 : Nat), (48 : Nat)] } (nat_lit 48)
  { toList := [Value.slice (some a1) (0 : Nat) (0 : Nat), Value.slice q l c] })
  w1 fun (v1 : Value) (w2 : World) =>
  ∃ (q1 : Option Addr), ∃ (k1 : Nat), ∃ (k2 : Nat), v1 = Value.slice q1 k1 k2 ∧ K (Value.slice q1 k1 k2) w2)
theorem slices_Clone_int_int_eq (q : Option Addr) (l c : Nat) (w : World) (K : Value → World → Prop) : fw Try.prog Try.f51 (annL []) (ordL []) [.slice q l c] w K = slices_Clone_int_int_m q l c w K := by kernel_rfl
theorem slices_Clone_int_int_go (q : Option Addr) (l c : Nat) {w : World} {K : Value → World → Prop} (h : slices_Clone_int_int_m q l c w K) : Rets Try.prog 51 #[.slice q l c] w K :=
  calls_of_fw plain mixed Try.func51 (by kernel_rfl) (by rw [slices_Clone_int_int_eq]; exact h)
def ring_Ring_int_Clone_m (g : Nat) (w : World) (K : Value → World → Prop) : Prop :=
  (false = true → K (Value.pointer none) w) ∧
  (false = false →
  Drw w fun (w1 : World) =>
  ∃ (h1 : World → Prop),
  h1 w1 ∧
  ∃ (q1 : Option Addr),
  ∃ (k1 : Nat),
  ∃ (k2 : Nat),
  (∀ (w2 : World),
  h1 w2 → World.cell? w2 (Addr.add { block := g, off := (0 : Nat) } (0 : Nat)) = some (Value.slice q1 k1 k2)) ∧
  ∃ (n1 : Int),
  (∀ (w3 : World),
  h1 w3 → World.cell? w3 (Addr.add { block := g, off := (0 : Nat) } (1 : Nat)) = some (Value.int IntKind.i64 n1)) ∧
  ∃ (n2 : Int),
  (∀ (w4 : World),
  h1 w4 → World.cell? w4 (Addr.add { block := g, off := (0 : Nat) } (2 : Nat)) = some (Value.int IntKind.i64 n2)) ∧
  ∃ (n3 : Int),
  (∀ (w5 : World),
  h1 w5 → World.cell? w5 (Addr.add { block := g, off := (0 : Nat) } (3 : Nat)) = some (Value.int IntKind.i64 n3)) ∧
  Rets Try.prog (51 : Nat) { toList := [Value.slice q1 k1 k2] } w1 fun (v1 : Value) (w6 : World) =>
  ∃ (q2 : Option Addr),
  ∃ (k3 : Nat),
  ∃ (k4 : Nat),
  v1 = Value.slice q2 k3 k4 ∧
  h1 w6 ∧
  NewR (61 : Nat) [Value.slice q2 k3 k4, Value.int IntKind.i64 n1, Value.int IntKind.i64 n2, Value.int IntKind.i64 n3] w6
  fun (a1 : Addr) (w7 : World) => K (Value.pointer (some a1)) w7)
theorem ring_Ring_int_Clone_eq (g : Nat) (w : World) (K : Value → World → Prop) : fw Try.prog Try.f48 (annL []) (ordL [(3, [(0, 0), (1, 0), (2, 0), (5, 0), (6, 0), (7, 0), (9, 0), (10, 0), (11, 0), (13, 0), (14, 0), (15, 0), (3, 1), (8, 1), (12, 1), (16, 1), (4, 2), (17, 0), (18, 3), (19, 0)])]) [.pointer (some ⟨g, 0, none⟩)] w K = ring_Ring_int_Clone_m g w K := by kernel_rfl
theorem ring_Ring_int_Clone_go (g : Nat) {w : World} {K : Value → World → Prop} (h : ring_Ring_int_Clone_m g w K) : Rets Try.prog 48 #[.pointer (some ⟨g, 0, none⟩)] w K :=
  calls_of_fw plain mixed Try.func48 (by kernel_rfl) (by rw [ring_Ring_int_Clone_eq]; exact h)
def ring_Ring_int_At_m (g : Nat) (i : Int) (w : World) (K : Value → World → Prop) : Prop :=
  (false = false →
  (decide (i < (0 : Int)) = false →
  ∃ (n1 : Int),
  cellAt w (Addr.add { block := g, off := (0 : Nat) } (2 : Nat)) (Value.int IntKind.i64 n1) ∧
  (decide (i ≥ n1) = true → K (Value.tuple { toList := [Value.slice none (0 : Nat) (0 : Nat), Value.bool false] }) w) ∧
  (decide (i ≥ n1) = false →
  Drw w fun (w1 : World) =>
  ∃ (h1 : World → Prop),
  h1 w1 ∧
  ∃ (q1 : Option Addr),
  ∃ (k1 : Nat),
  ∃ (k2 : Nat),
  (∀ (w2 : World),
  h1 w2 → World.cell? w2 (Addr.add { block := g, off := (0 : Nat) } (0 : Nat)) = some (Value.slice q1 k1 k2)) ∧
  Rets Try.prog (40 : Nat) { toList := [Value.pointer (some { block := g, off := (0 : Nat) }), Value.int IntKind.i64 i] }
  w1 fun (v1 : Value) (w3 : World) =>
  ∃ (n2 : Int),
  v1 = Value.int IntKind.i64 n2 ∧
  ∃ (h2 : World → Prop),
  (∀ (w4 : World), h2 w4 → h1 w4) ∧
  h2 w3 ∧
  (0 : Int) ≤ n2 ∧
  n2 < (↑k1 : Int) ∧
  someR q1 fun (a1 : Addr) =>
  ∃ (q2 : Option Addr),
  ∃ (k3 : Nat),
  ∃ (k4 : Nat),
  (∀ (w5 : World), h2 w5 → World.cell? w5 (Addr.add a1 (Int.toNat n2 * (1 : Nat))) = some (Value.slice q2 k3 k4)) ∧
  K (Value.tuple { toList := [Value.slice q2 k3 k4, Value.bool true] }) w3)) ∧
  (decide (i < (0 : Int)) = true →
  K (Value.tuple { toList := [Value.slice none (0 : Nat) (0 : Nat), Value.bool false] }) w)) ∧
  (false = true → K (Value.tuple { toList := [Value.slice none (0 : Nat) (0 : Nat), Value.bool false] }) w)
theorem ring_Ring_int_At_eq (g : Nat) (i : Int) (w : World) (K : Value → World → Prop) : fw Try.prog Try.f49 (annL []) (ordL [(3, [(0, 0), (1, 0), (2, 0), (4, 0), (5, 0), (3, 1), (6, 4), (7, 0), (8, 1), (9, 0), (10, 0)])]) [.pointer (some ⟨g, 0, none⟩), .int .i64 i] w K = ring_Ring_int_At_m g i w K := by kernel_rfl
theorem ring_Ring_int_At_go (g : Nat) (i : Int) {w : World} {K : Value → World → Prop} (h : ring_Ring_int_At_m g i w K) : Rets Try.prog 49 #[.pointer (some ⟨g, 0, none⟩), .int .i64 i] w K :=
  calls_of_fw plain mixed Try.func49 (by kernel_rfl) (by rw [ring_Ring_int_At_eq]; exact h)
def ring_Ring_int_All_m (q : Option Addr) (w : World) (K : Value → World → Prop) : Prop :=
  NewR (49 : Nat) [Value.pointer q] w fun (a1 : Addr) (w1 : World) =>
  K (Value.func (Fn.func (47 : Nat)) { toList := [] } { toList := [Value.pointer (some a1)] }) w1
theorem ring_Ring_int_All_eq (q : Option Addr) (w : World) (K : Value → World → Prop) : fw Try.prog Try.f43 (annL []) (ordL []) [.pointer q] w K = ring_Ring_int_All_m q w K := by kernel_rfl
theorem ring_Ring_int_All_go (q : Option Addr) {w : World} {K : Value → World → Prop} (h : ring_Ring_int_All_m q w K) : Rets Try.prog 43 #[.pointer q] w K :=
  calls_of_fw plain mixed Try.func43 (by kernel_rfl) (by rw [ring_Ring_int_All_eq]; exact h)
def ring_Ring_int_All_1_m (l b : Nat) (w : World) (K : Value → World → Prop) : Prop :=
  ∃ (q1 : Option Addr),
  cellAt w { block := b, off := (0 : Nat) } (Value.pointer q1) ∧
  Rets Try.prog (48 : Nat) { toList := [Value.pointer q1] } w fun (v1 : Value) (w1 : World) =>
  ∃ (q2 : Option Addr),
  v1 = Value.pointer q2 ∧
  Rets Try.prog (34 : Nat) { toList := [Value.pointer q2] } w1 fun (v2 : Value) (w2 : World) =>
  ∃ (n1 : Int),
  v2 = Value.int IntKind.i64 n1 ∧
  ∃ (h1 : Nat → List Value → World → Prop),
  (∃ (k1 : Nat), h1 k1 [Value.int IntKind.i64 (0 : Int)] w2) ∧
  ∀ (k2 : Nat) (w3 : World) (v3 v4 v5 : Value) (n2 : Int) (v6 v7 v8 v9 v10 v11 v12 v13 v14 v15 v16 v17 v18 v19 : Value),
  h1 k2 [Value.int IntKind.i64 n2] w3 →
  (decide (n2 < n1) = true →
  Rets Try.prog (49 : Nat) { toList := [Value.pointer q2, Value.int IntKind.i64 n2] } w3 fun (v20 : Value) (w4 : World) =>
  ∃ (q3 : Option Addr),
  ∃ (k3 : Nat),
  ∃ (k4 : Nat),
  ∃ (b1 : Bool),
  v20 = Value.tuple { toList := [Value.slice q3 k3 k4, Value.bool b1] } ∧
  RoundR Try.prog l { toList := [Value.int IntKind.i64 n2, Value.slice q3 k3 k4] } w4 fun (v21 : Value) (w5 : World) =>
  ∃ (b2 : Bool),
  v21 = Value.bool b2 ∧
  ((!b2) = true → K (Value.tuple { toList := [] }) w5) ∧
  ((!b2) = false →
  ∃ (k5 : Nat), k5 < k2 ∧ h1 k5 [Value.int IntKind.i64 (IntKind.wrap IntKind.i64 (n2 + (1 : Int)))] w5)) ∧
  (decide (n2 < n1) = false → K (Value.tuple { toList := [] }) w3)
theorem ring_Ring_int_All_1_eq (l b : Nat) (w : World) (K : Value → World → Prop) : fw Try.prog Try.f47 (annL [(1, [(4, none), (5, none), (6, none), (11, some 3), (12, none), (13, none), (14, none), (15, none), (16, none), (17, none), (18, none), (19, none), (20, none), (21, none), (22, none), (23, none), (24, none), (25, none)])]) (ordL []) [.func (.yield l) #[] #[], .pointer (some ⟨b, 0, none⟩)] w K = ring_Ring_int_All_1_m l b w K := by kernel_rfl
theorem ring_Ring_int_All_1_go (l b : Nat) {w : World} {K : Value → World → Prop} (h : ring_Ring_int_All_1_m l b w K) : Rets Try.prog 47 #[.func (.yield l) #[] #[], .pointer (some ⟨b, 0, none⟩)] w K :=
  calls_of_fw plain mixed Try.func47 (by kernel_rfl) (by rw [ring_Ring_int_All_1_eq]; exact h)
def ring_Ring_int_grow_m (g : Nat) (w : World) (K : Value → World → Prop) : Prop :=
  Drw w fun (w1 : World) =>
  ∃ (n1 : Int),
  cellAt w1 (Addr.add { block := g, off := (0 : Nat) } (2 : Nat)) (Value.int IntKind.i64 n1) ∧
  ∃ (q1 : Option Addr),
  ∃ (k1 : Nat),
  ∃ (k2 : Nat),
  cellAt w1 (Addr.add { block := g, off := (0 : Nat) } (0 : Nat)) (Value.slice q1 k1 k2) ∧
  (decide (n1 < (↑k1 : Int)) = true → K (Value.tuple { toList := [] }) w1) ∧
  (decide (n1 < (↑k1 : Int)) = false →
  ∃ (n2 : Int),
  cellAt w1 (Addr.add { block := g, off := (0 : Nat) } (2 : Nat)) (Value.int IntKind.i64 n2) ∧
  MakeR (33 : Nat) [Value.slice none (0 : Nat) (0 : Nat)] (24 : Nat) (0 : Int) n2 w1 fun (a1 : Addr) (w2 : World) =>
  NewR (48 : Nat) [Value.slice none (0 : Nat) (0 : Nat)] w2 fun (a2 : Addr) (w3 : World) =>
  StoreR a2 [Value.slice (some a1) (0 : Nat) (Int.toNat n2)] w3 fun (w4 : World) =>
  Rets Try.prog (43 : Nat) { toList := [Value.pointer (some { block := g, off := (0 : Nat) })] } w4
  fun (v1 : Value) (w5 : World) =>
  ∃ (k3 : Nat),
  ∃ (a3 : Array Value),
  ∃ (c1 : Array Value),
  v1 = Value.func (Fn.func k3) a3 c1 ∧
  ∃ (v2 : Value),
  Value.func (Fn.func k3) a3 c1 = Value.func (Fn.func (47 : Nat)) { toList := [] } { toList := [v2] } ∧
  LoopR w5 fun (k4 k5 : Nat) (L1 : Loop) (w6 : World) =>
  (∀ (n3 : Int) (q2 : Option Addr) (k6 k7 : Nat) (w7 : World) (h1 : Value → World → Prop),
  RecR k5 L1 w7 →
  (BegR k5 L1 w7 fun (w8 : World) =>
  ∃ (q3 : Option Addr),
  ∃ (k8 : Nat),
  ∃ (k9 : Nat),
  cellAt w8 a2 (Value.slice q3 k8 k9) ∧
  NewR (33 : Nat) [Value.slice q2 k6 k7] w8 fun (a4 : Addr) (w9 : World) =>
  RunR Try.prog
  (builtinV Builtin.append { toList := [(48 : Nat), (48 : Nat)] } (nat_lit 48)
  { toList := [Value.slice q3 k8 k9, Value.slice (some a4) (1 : Nat) (1 : Nat)] })
  w9 fun (v3 : Value) (w10 : World) =>
  ∃ (q4 : Option Addr),
  ∃ (k10 : Nat),
  ∃ (k11 : Nat),
  v3 = Value.slice q4 k10 k11 ∧
  StoreR a2 [Value.slice q4 k10 k11] w10 fun (w11 : World) =>
  FinR k5 L1 none w11 fun (w12 : World) => h1 (Value.bool true) w12) →
  RoundR Try.prog k5 { toList := [Value.int IntKind.i64 n3, Value.slice q2 k6 k7] } w7 h1) →
  Rets Try.prog (47 : Nat) { toList := [Value.func (Fn.yield k5) { toList := [] } { toList := [] }, v2] } w6
  fun (v4 : Value) (w13 : World) =>
  EndR k5 L1 none w13 fun (w14 : World) =>
  Drw w14 fun (w15 : World) =>
  ∃ (n4 : Int),
  cellAt w15 (Addr.add { block := g, off := (0 : Nat) } (3 : Nat)) (Value.int IntKind.i64 n4) ∧
  ∃ (n5 : Int),
  cellAt w15 (Addr.add { block := g, off := (0 : Nat) } (2 : Nat)) (Value.int IntKind.i64 n5) ∧
  MakeR (33 : Nat) [Value.slice none (0 : Nat) (0 : Nat)] (24 : Nat)
  (minI n4 (maxI (4 : Int) (IntKind.wrap IntKind.i64 ((2 : Int) * n5))))
  (minI n4 (maxI (4 : Int) (IntKind.wrap IntKind.i64 ((2 : Int) * n5)))) w15 fun (a5 : Addr) (w16 : World) =>
  ∃ (q5 : Option Addr),
  ∃ (k12 : Nat),
  ∃ (k13 : Nat),
  cellAt w16 a2 (Value.slice q5 k12 k13) ∧
  RunR Try.prog
  (builtinV Builtin.copy { toList := [(48 : Nat), (48 : Nat)] } (nat_lit 3)
  {
  toList :=
  [Value.slice (some a5) (Int.toNat (minI n4 (maxI (4 : Int) (IntKind.wrap IntKind.i64 ((2 : Int) * n5)))))
  (Int.toNat (minI n4 (maxI (4 : Int) (IntKind.wrap IntKind.i64 ((2 : Int) * n5))))),
  Value.slice q5 k12 k13] })
  w16 fun (v5 : Value) (w17 : World) =>
  ∃ (n6 : Int),
  v5 = Value.int IntKind.i64 n6 ∧
  StoreR (Addr.add { block := g, off := (0 : Nat) } (0 : Nat))
  [Value.slice (some a5) (Int.toNat (minI n4 (maxI (4 : Int) (IntKind.wrap IntKind.i64 ((2 : Int) * n5)))))
  (Int.toNat (minI n4 (maxI (4 : Int) (IntKind.wrap IntKind.i64 ((2 : Int) * n5)))))]
  w17 fun (w18 : World) =>
  StoreR (Addr.add { block := g, off := (0 : Nat) } (1 : Nat)) [Value.int IntKind.i64 (0 : Int)] w18 fun (w19 : World) =>
  MarkR k4 w19 fun (w20 : World) => K (Value.tuple { toList := [] }) w20)
theorem ring_Ring_int_grow_eq (g : Nat) (w : World) (K : Value → World → Prop) : fw Try.prog Try.f41 (annL [(2, [(23, some 3), (24, some 33)])]) (ordL [(0, [(0, 0), (1, 0), (2, 0), (4, 0), (5, 0), (6, 0), (3, 1), (7, 1), (8, 0), (9, 0)]), (1000002, [(47, 1)]), (5, [(0, 0), (1, 0), (2, 0), (4, 0), (5, 0), (6, 0), (3, 1), (7, 1), (8, 0), (9, 0), (10, 0), (11, 3), (12, 0)])]) [.pointer (some ⟨g, 0, none⟩)] w K = ring_Ring_int_grow_m g w K := by kernel_rfl
theorem ring_Ring_int_grow_go (g : Nat) {w : World} {K : Value → World → Prop} (h : ring_Ring_int_grow_m g w K) : Rets Try.prog 41 #[.pointer (some ⟨g, 0, none⟩)] w K :=
  calls_of_fw plain mixed Try.func41 (by kernel_rfl) (by rw [ring_Ring_int_grow_eq]; exact h)
def ring_Ring_int_Send_m (g : Nat) (q : Option Addr) (l c : Nat) (w : World) (K : Value → World → Prop) : Prop :=
  Drw w fun (w1 : World) =>
  (false = false →
  ∃ (n1 : Int),
  cellAt w1 (Addr.add { block := g, off := (0 : Nat) } (2 : Nat)) (Value.int IntKind.i64 n1) ∧
  ∃ (n2 : Int),
  cellAt w1 (Addr.add { block := g, off := (0 : Nat) } (3 : Nat)) (Value.int IntKind.i64 n2) ∧
  (decide (n1 ≥ n2) = true → K (Value.bool false) w1) ∧
  (decide (n1 ≥ n2) = false →
  Rets Try.prog (41 : Nat) { toList := [Value.pointer (some { block := g, off := (0 : Nat) })] } w1
  fun (v1 : Value) (w2 : World) =>
  v1 = Value.tuple { toList := [] } ∧
  Drw w2 fun (w3 : World) =>
  ∃ (h1 : World → Prop),
  h1 w3 ∧
  ∃ (q1 : Option Addr),
  ∃ (k1 : Nat),
  ∃ (k2 : Nat),
  (∀ (w4 : World),
  h1 w4 → World.cell? w4 (Addr.add { block := g, off := (0 : Nat) } (0 : Nat)) = some (Value.slice q1 k1 k2)) ∧
  ∃ (n3 : Int),
  (∀ (w5 : World),
  h1 w5 → World.cell? w5 (Addr.add { block := g, off := (0 : Nat) } (2 : Nat)) = some (Value.int IntKind.i64 n3)) ∧
  Rets Try.prog (40 : Nat) { toList := [Value.pointer (some { block := g, off := (0 : Nat) }), Value.int IntKind.i64 n3] }
  w3 fun (v2 : Value) (w6 : World) =>
  ∃ (n4 : Int),
  v2 = Value.int IntKind.i64 n4 ∧
  h1 w6 ∧
  (0 : Int) ≤ n4 ∧
  n4 < (↑k1 : Int) ∧
  someR q1 fun (a1 : Addr) =>
  StoreR (Addr.add a1 (Int.toNat n4 * (1 : Nat))) [Value.slice q l c] w6 fun (w7 : World) =>
  ∃ (n5 : Int),
  cellAt w7 (Addr.add { block := g, off := (0 : Nat) } (2 : Nat)) (Value.int IntKind.i64 n5) ∧
  StoreR (Addr.add { block := g, off := (0 : Nat) } (2 : Nat))
  [Value.int IntKind.i64 (IntKind.wrap IntKind.i64 (n5 + (1 : Int)))] w7 fun (w8 : World) => K (Value.bool true) w8)) ∧
  (false = true → K (Value.bool false) w1)
theorem ring_Ring_int_Send_eq (g : Nat) (q : Option Addr) (l c : Nat) (w : World) (K : Value → World → Prop) : fw Try.prog Try.f32 (annL []) (ordL [(1, [(0, 0), (1, 0), (2, 0), (3, 0), (4, 0), (5, 0), (7, 0), (8, 0), (9, 0), (6, 1), (10, 1), (11, 0), (12, 0)]), (4, [(0, 0), (1, 0), (2, 0), (4, 0), (5, 0), (6, 0), (7, 0), (10, 0), (3, 1), (8, 1), (9, 2), (11, 0), (12, 3)])]) [.pointer (some ⟨g, 0, none⟩), .slice q l c] w K = ring_Ring_int_Send_m g q l c w K := by kernel_rfl
theorem ring_Ring_int_Send_go (g : Nat) (q : Option Addr) (l c : Nat) {w : World} {K : Value → World → Prop} (h : ring_Ring_int_Send_m g q l c w K) : Rets Try.prog 32 #[.pointer (some ⟨g, 0, none⟩), .slice q l c] w K :=
  calls_of_fw plain mixed Try.func32 (by kernel_rfl) (by rw [ring_Ring_int_Send_eq]; exact h)
def ring_New_string_m (room : Int) (w : World) (K : Value → World → Prop) : Prop :=
  NewR (57 : Nat)
  [Value.slice none (0 : Nat) (0 : Nat), Value.int IntKind.i64 (0 : Int), Value.int IntKind.i64 (0 : Int),
  Value.int IntKind.i64 (maxI (0 : Int) (minI room (65536 : Int)))]
  w fun (a1 : Addr) (w1 : World) => K (Value.pointer (some a1)) w1
theorem ring_New_string_eq (room : Int) (w : World) (K : Value → World → Prop) : fw Try.prog Try.f20 (annL []) (ordL []) [.int .i64 room] w K = ring_New_string_m room w K := by kernel_rfl
theorem ring_New_string_go (room : Int) {w : World} {K : Value → World → Prop} (h : ring_New_string_m room w K) : Rets Try.prog 20 #[.int .i64 room] w K :=
  calls_of_fw plain mixed Try.func20 (by kernel_rfl) (by rw [ring_New_string_eq]; exact h)
def ring_Ring_string_place_m (g : Nat) (i : Int) (w : World) (K : Value → World → Prop) : Prop :=
  Drw w fun (w1 : World) =>
  ∃ (n1 : Int),
  cellAt w1 (Addr.add { block := g, off := (0 : Nat) } (1 : Nat)) (Value.int IntKind.i64 n1) ∧
  ∃ (q1 : Option Addr),
  ∃ (k1 : Nat),
  ∃ (k2 : Nat),
  cellAt w1 (Addr.add { block := g, off := (0 : Nat) } (0 : Nat)) (Value.slice q1 k1 k2) ∧
  (↑k1 : Int) ≠ (0 : Int) ∧ K (Value.int IntKind.i64 (Int.tmod (IntKind.wrap IntKind.i64 (n1 + i)) (↑k1 : Int))) w1
theorem ring_Ring_string_place_eq (g : Nat) (i : Int) (w : World) (K : Value → World → Prop) : fw Try.prog Try.f39 (annL []) (ordL [(1, [(0, 0), (1, 0), (2, 0), (4, 0), (6, 0), (7, 0), (8, 0), (3, 1), (5, 0), (9, 1), (10, 0), (11, 0), (12, 0)])]) [.pointer (some ⟨g, 0, none⟩), .int .i64 i] w K = ring_Ring_string_place_m g i w K := by kernel_rfl
theorem ring_Ring_string_place_go (g : Nat) (i : Int) {w : World} {K : Value → World → Prop} (h : ring_Ring_string_place_m g i w K) : Rets Try.prog 39 #[.pointer (some ⟨g, 0, none⟩), .int .i64 i] w K :=
  calls_of_fw plain mixed Try.func39 (by kernel_rfl) (by rw [ring_Ring_string_place_eq]; exact h)
def ring_Ring_string_Len_m (g : Nat) (w : World) (K : Value → World → Prop) : Prop :=
  (false = true → K (Value.int IntKind.i64 (0 : Int)) w) ∧
  (false = false →
  ∃ (n1 : Int),
  cellAt w (Addr.add { block := g, off := (0 : Nat) } (2 : Nat)) (Value.int IntKind.i64 n1) ∧
  K (Value.int IntKind.i64 n1) w)
theorem ring_Ring_string_Len_eq (g : Nat) (w : World) (K : Value → World → Prop) : fw Try.prog Try.f26 (annL []) (ordL []) [.pointer (some ⟨g, 0, none⟩)] w K = ring_Ring_string_Len_m g w K := by kernel_rfl
theorem ring_Ring_string_Len_go (g : Nat) {w : World} {K : Value → World → Prop} (h : ring_Ring_string_Len_m g w K) : Rets Try.prog 26 #[.pointer (some ⟨g, 0, none⟩)] w K :=
  calls_of_fw plain mixed Try.func26 (by kernel_rfl) (by rw [ring_Ring_string_Len_eq]; exact h)
def slices_Clone_string_string_m (q : Option Addr) (l c : Nat) (w : World) (K : Value → World → Prop) : Prop :=
  (Option.isNone q = true → K (Value.slice none (0 : Nat) (0 : Nat)) w) ∧
  (Option.isNone q = false →
  NewR (22 : Nat) [] w fun (a1 : Addr) (w1 : World) =>
  RunR Try.prog
  (builtinV Builtin.append { toList := [(40 : Nat), (40 : Nat)] } (nat_lit 40)
  { toList := [Value.slice (some a1) (0 : Nat) (0 : Nat), Value.slice q l c] })
  w1 fun (v1 : Value) (w2 : World) =>
  ∃ (q1 : Option Addr), ∃ (k1 : Nat), ∃ (k2 : Nat), v1 = Value.slice q1 k1 k2 ∧ K (Value.slice q1 k1 k2) w2)
theorem slices_Clone_string_string_eq (q : Option Addr) (l c : Nat) (w : World) (K : Value → World → Prop) : fw Try.prog Try.f50 (annL []) (ordL []) [.slice q l c] w K = slices_Clone_string_string_m q l c w K := by kernel_rfl
theorem slices_Clone_string_string_go (q : Option Addr) (l c : Nat) {w : World} {K : Value → World → Prop} (h : slices_Clone_string_string_m q l c w K) : Rets Try.prog 50 #[.slice q l c] w K :=
  calls_of_fw plain mixed Try.func50 (by kernel_rfl) (by rw [slices_Clone_string_string_eq]; exact h)
def ring_Ring_string_Clone_m (g : Nat) (w : World) (K : Value → World → Prop) : Prop :=
  (false = true → K (Value.pointer none) w) ∧
  (false = false →
  Drw w fun (w1 : World) =>
  ∃ (h1 : World → Prop),
  h1 w1 ∧
  ∃ (q1 : Option Addr),
  ∃ (k1 : Nat),
  ∃ (k2 : Nat),
  (∀ (w2 : World),
  h1 w2 → World.cell? w2 (Addr.add { block := g, off := (0 : Nat) } (0 : Nat)) = some (Value.slice q1 k1 k2)) ∧
  ∃ (n1 : Int),
  (∀ (w3 : World),
  h1 w3 → World.cell? w3 (Addr.add { block := g, off := (0 : Nat) } (1 : Nat)) = some (Value.int IntKind.i64 n1)) ∧
  ∃ (n2 : Int),
  (∀ (w4 : World),
  h1 w4 → World.cell? w4 (Addr.add { block := g, off := (0 : Nat) } (2 : Nat)) = some (Value.int IntKind.i64 n2)) ∧
  ∃ (n3 : Int),
  (∀ (w5 : World),
  h1 w5 → World.cell? w5 (Addr.add { block := g, off := (0 : Nat) } (3 : Nat)) = some (Value.int IntKind.i64 n3)) ∧
  Rets Try.prog (50 : Nat) { toList := [Value.slice q1 k1 k2] } w1 fun (v1 : Value) (w6 : World) =>
  ∃ (q2 : Option Addr),
  ∃ (k3 : Nat),
  ∃ (k4 : Nat),
  v1 = Value.slice q2 k3 k4 ∧
  h1 w6 ∧
  NewR (57 : Nat) [Value.slice q2 k3 k4, Value.int IntKind.i64 n1, Value.int IntKind.i64 n2, Value.int IntKind.i64 n3] w6
  fun (a1 : Addr) (w7 : World) => K (Value.pointer (some a1)) w7)
theorem ring_Ring_string_Clone_eq (g : Nat) (w : World) (K : Value → World → Prop) : fw Try.prog Try.f45 (annL []) (ordL [(3, [(0, 0), (1, 0), (2, 0), (5, 0), (6, 0), (7, 0), (9, 0), (10, 0), (11, 0), (13, 0), (14, 0), (15, 0), (3, 1), (8, 1), (12, 1), (16, 1), (4, 2), (17, 0), (18, 3), (19, 0)])]) [.pointer (some ⟨g, 0, none⟩)] w K = ring_Ring_string_Clone_m g w K := by kernel_rfl
theorem ring_Ring_string_Clone_go (g : Nat) {w : World} {K : Value → World → Prop} (h : ring_Ring_string_Clone_m g w K) : Rets Try.prog 45 #[.pointer (some ⟨g, 0, none⟩)] w K :=
  calls_of_fw plain mixed Try.func45 (by kernel_rfl) (by rw [ring_Ring_string_Clone_eq]; exact h)
def ring_Ring_string_At_m (g : Nat) (i : Int) (w : World) (K : Value → World → Prop) : Prop :=
  (false = false →
  (decide (i < (0 : Int)) = false →
  ∃ (n1 : Int),
  cellAt w (Addr.add { block := g, off := (0 : Nat) } (2 : Nat)) (Value.int IntKind.i64 n1) ∧
  (decide (i ≥ n1) = true → K (Value.tuple { toList := [Value.slice none (0 : Nat) (0 : Nat), Value.bool false] }) w) ∧
  (decide (i ≥ n1) = false →
  Drw w fun (w1 : World) =>
  ∃ (h1 : World → Prop),
  h1 w1 ∧
  ∃ (q1 : Option Addr),
  ∃ (k1 : Nat),
  ∃ (k2 : Nat),
  (∀ (w2 : World),
  h1 w2 → World.cell? w2 (Addr.add { block := g, off := (0 : Nat) } (0 : Nat)) = some (Value.slice q1 k1 k2)) ∧
  Rets Try.prog (39 : Nat) { toList := [Value.pointer (some { block := g, off := (0 : Nat) }), Value.int IntKind.i64 i] }
  w1 fun (v1 : Value) (w3 : World) =>
  ∃ (n2 : Int),
  v1 = Value.int IntKind.i64 n2 ∧
  ∃ (h2 : World → Prop),
  (∀ (w4 : World), h2 w4 → h1 w4) ∧
  h2 w3 ∧
  (0 : Int) ≤ n2 ∧
  n2 < (↑k1 : Int) ∧
  someR q1 fun (a1 : Addr) =>
  ∃ (q2 : Option Addr),
  ∃ (k3 : Nat),
  ∃ (k4 : Nat),
  (∀ (w5 : World), h2 w5 → World.cell? w5 (Addr.add a1 (Int.toNat n2 * (1 : Nat))) = some (Value.slice q2 k3 k4)) ∧
  K (Value.tuple { toList := [Value.slice q2 k3 k4, Value.bool true] }) w3)) ∧
  (decide (i < (0 : Int)) = true →
  K (Value.tuple { toList := [Value.slice none (0 : Nat) (0 : Nat), Value.bool false] }) w)) ∧
  (false = true → K (Value.tuple { toList := [Value.slice none (0 : Nat) (0 : Nat), Value.bool false] }) w)
theorem ring_Ring_string_At_eq (g : Nat) (i : Int) (w : World) (K : Value → World → Prop) : fw Try.prog Try.f46 (annL []) (ordL [(3, [(0, 0), (1, 0), (2, 0), (4, 0), (5, 0), (3, 1), (6, 4), (7, 0), (8, 1), (9, 0), (10, 0)])]) [.pointer (some ⟨g, 0, none⟩), .int .i64 i] w K = ring_Ring_string_At_m g i w K := by kernel_rfl
theorem ring_Ring_string_At_go (g : Nat) (i : Int) {w : World} {K : Value → World → Prop} (h : ring_Ring_string_At_m g i w K) : Rets Try.prog 46 #[.pointer (some ⟨g, 0, none⟩), .int .i64 i] w K :=
  calls_of_fw plain mixed Try.func46 (by kernel_rfl) (by rw [ring_Ring_string_At_eq]; exact h)
def ring_Ring_string_All_m (q : Option Addr) (w : World) (K : Value → World → Prop) : Prop :=
  NewR (41 : Nat) [Value.pointer q] w fun (a1 : Addr) (w1 : World) =>
  K (Value.func (Fn.func (44 : Nat)) { toList := [] } { toList := [Value.pointer (some a1)] }) w1
theorem ring_Ring_string_All_eq (q : Option Addr) (w : World) (K : Value → World → Prop) : fw Try.prog Try.f42 (annL []) (ordL []) [.pointer q] w K = ring_Ring_string_All_m q w K := by kernel_rfl
theorem ring_Ring_string_All_go (q : Option Addr) {w : World} {K : Value → World → Prop} (h : ring_Ring_string_All_m q w K) : Rets Try.prog 42 #[.pointer q] w K :=
  calls_of_fw plain mixed Try.func42 (by kernel_rfl) (by rw [ring_Ring_string_All_eq]; exact h)
def ring_Ring_string_All_1_m (l b : Nat) (w : World) (K : Value → World → Prop) : Prop :=
  ∃ (q1 : Option Addr),
  cellAt w { block := b, off := (0 : Nat) } (Value.pointer q1) ∧
  Rets Try.prog (45 : Nat) { toList := [Value.pointer q1] } w fun (v1 : Value) (w1 : World) =>
  ∃ (q2 : Option Addr),
  v1 = Value.pointer q2 ∧
  Rets Try.prog (26 : Nat) { toList := [Value.pointer q2] } w1 fun (v2 : Value) (w2 : World) =>
  ∃ (n1 : Int),
  v2 = Value.int IntKind.i64 n1 ∧
  ∃ (h1 : Nat → List Value → World → Prop),
  (∃ (k1 : Nat), h1 k1 [Value.int IntKind.i64 (0 : Int)] w2) ∧
  ∀ (k2 : Nat) (w3 : World) (v3 v4 v5 : Value) (n2 : Int) (v6 v7 v8 v9 v10 v11 v12 v13 v14 v15 v16 v17 v18 v19 : Value),
  h1 k2 [Value.int IntKind.i64 n2] w3 →
  (decide (n2 < n1) = true →
  Rets Try.prog (46 : Nat) { toList := [Value.pointer q2, Value.int IntKind.i64 n2] } w3 fun (v20 : Value) (w4 : World) =>
  ∃ (q3 : Option Addr),
  ∃ (k3 : Nat),
  ∃ (k4 : Nat),
  ∃ (b1 : Bool),
  v20 = Value.tuple { toList := [Value.slice q3 k3 k4, Value.bool b1] } ∧
  RoundR Try.prog l { toList := [Value.int IntKind.i64 n2, Value.slice q3 k3 k4] } w4 fun (v21 : Value) (w5 : World) =>
  ∃ (b2 : Bool),
  v21 = Value.bool b2 ∧
  ((!b2) = true → K (Value.tuple { toList := [] }) w5) ∧
  ((!b2) = false →
  ∃ (k5 : Nat), k5 < k2 ∧ h1 k5 [Value.int IntKind.i64 (IntKind.wrap IntKind.i64 (n2 + (1 : Int)))] w5)) ∧
  (decide (n2 < n1) = false → K (Value.tuple { toList := [] }) w3)
theorem ring_Ring_string_All_1_eq (l b : Nat) (w : World) (K : Value → World → Prop) : fw Try.prog Try.f44 (annL [(1, [(4, none), (5, none), (6, none), (11, some 3), (12, none), (13, none), (14, none), (15, none), (16, none), (17, none), (18, none), (19, none), (20, none), (21, none), (22, none), (23, none), (24, none), (25, none)])]) (ordL []) [.func (.yield l) #[] #[], .pointer (some ⟨b, 0, none⟩)] w K = ring_Ring_string_All_1_m l b w K := by kernel_rfl
theorem ring_Ring_string_All_1_go (l b : Nat) {w : World} {K : Value → World → Prop} (h : ring_Ring_string_All_1_m l b w K) : Rets Try.prog 44 #[.func (.yield l) #[] #[], .pointer (some ⟨b, 0, none⟩)] w K :=
  calls_of_fw plain mixed Try.func44 (by kernel_rfl) (by rw [ring_Ring_string_All_1_eq]; exact h)
def ring_Ring_string_grow_m (g : Nat) (w : World) (K : Value → World → Prop) : Prop :=
  Drw w fun (w1 : World) =>
  ∃ (n1 : Int),
  cellAt w1 (Addr.add { block := g, off := (0 : Nat) } (2 : Nat)) (Value.int IntKind.i64 n1) ∧
  ∃ (q1 : Option Addr),
  ∃ (k1 : Nat),
  ∃ (k2 : Nat),
  cellAt w1 (Addr.add { block := g, off := (0 : Nat) } (0 : Nat)) (Value.slice q1 k1 k2) ∧
  (decide (n1 < (↑k1 : Int)) = true → K (Value.tuple { toList := [] }) w1) ∧
  (decide (n1 < (↑k1 : Int)) = false →
  ∃ (n2 : Int),
  cellAt w1 (Addr.add { block := g, off := (0 : Nat) } (2 : Nat)) (Value.int IntKind.i64 n2) ∧
  MakeR (22 : Nat) [Value.slice none (0 : Nat) (0 : Nat)] (24 : Nat) (0 : Int) n2 w1 fun (a1 : Addr) (w2 : World) =>
  NewR (40 : Nat) [Value.slice none (0 : Nat) (0 : Nat)] w2 fun (a2 : Addr) (w3 : World) =>
  StoreR a2 [Value.slice (some a1) (0 : Nat) (Int.toNat n2)] w3 fun (w4 : World) =>
  Rets Try.prog (42 : Nat) { toList := [Value.pointer (some { block := g, off := (0 : Nat) })] } w4
  fun (v1 : Value) (w5 : World) =>
  ∃ (k3 : Nat),
  ∃ (a3 : Array Value),
  ∃ (c1 : Array Value),
  v1 = Value.func (Fn.func k3) a3 c1 ∧
  ∃ (v2 : Value),
  Value.func (Fn.func k3) a3 c1 = Value.func (Fn.func (44 : Nat)) { toList := [] } { toList := [v2] } ∧
  LoopR w5 fun (k4 k5 : Nat) (L1 : Loop) (w6 : World) =>
  (∀ (n3 : Int) (q2 : Option Addr) (k6 k7 : Nat) (w7 : World) (h1 : Value → World → Prop),
  RecR k5 L1 w7 →
  (BegR k5 L1 w7 fun (w8 : World) =>
  ∃ (q3 : Option Addr),
  ∃ (k8 : Nat),
  ∃ (k9 : Nat),
  cellAt w8 a2 (Value.slice q3 k8 k9) ∧
  NewR (22 : Nat) [Value.slice q2 k6 k7] w8 fun (a4 : Addr) (w9 : World) =>
  RunR Try.prog
  (builtinV Builtin.append { toList := [(40 : Nat), (40 : Nat)] } (nat_lit 40)
  { toList := [Value.slice q3 k8 k9, Value.slice (some a4) (1 : Nat) (1 : Nat)] })
  w9 fun (v3 : Value) (w10 : World) =>
  ∃ (q4 : Option Addr),
  ∃ (k10 : Nat),
  ∃ (k11 : Nat),
  v3 = Value.slice q4 k10 k11 ∧
  StoreR a2 [Value.slice q4 k10 k11] w10 fun (w11 : World) =>
  FinR k5 L1 none w11 fun (w12 : World) => h1 (Value.bool true) w12) →
  RoundR Try.prog k5 { toList := [Value.int IntKind.i64 n3, Value.slice q2 k6 k7] } w7 h1) →
  Rets Try.prog (44 : Nat) { toList := [Value.func (Fn.yield k5) { toList := [] } { toList := [] }, v2] } w6
  fun (v4 : Value) (w13 : World) =>
  EndR k5 L1 none w13 fun (w14 : World) =>
  Drw w14 fun (w15 : World) =>
  ∃ (n4 : Int),
  cellAt w15 (Addr.add { block := g, off := (0 : Nat) } (3 : Nat)) (Value.int IntKind.i64 n4) ∧
  ∃ (n5 : Int),
  cellAt w15 (Addr.add { block := g, off := (0 : Nat) } (2 : Nat)) (Value.int IntKind.i64 n5) ∧
  MakeR (22 : Nat) [Value.slice none (0 : Nat) (0 : Nat)] (24 : Nat)
  (minI n4 (maxI (4 : Int) (IntKind.wrap IntKind.i64 ((2 : Int) * n5))))
  (minI n4 (maxI (4 : Int) (IntKind.wrap IntKind.i64 ((2 : Int) * n5)))) w15 fun (a5 : Addr) (w16 : World) =>
  ∃ (q5 : Option Addr),
  ∃ (k12 : Nat),
  ∃ (k13 : Nat),
  cellAt w16 a2 (Value.slice q5 k12 k13) ∧
  RunR Try.prog
  (builtinV Builtin.copy { toList := [(40 : Nat), (40 : Nat)] } (nat_lit 3)
  {
  toList :=
  [Value.slice (some a5) (Int.toNat (minI n4 (maxI (4 : Int) (IntKind.wrap IntKind.i64 ((2 : Int) * n5)))))
  (Int.toNat (minI n4 (maxI (4 : Int) (IntKind.wrap IntKind.i64 ((2 : Int) * n5))))),
  Value.slice q5 k12 k13] })
  w16 fun (v5 : Value) (w17 : World) =>
  ∃ (n6 : Int),
  v5 = Value.int IntKind.i64 n6 ∧
  StoreR (Addr.add { block := g, off := (0 : Nat) } (0 : Nat))
  [Value.slice (some a5) (Int.toNat (minI n4 (maxI (4 : Int) (IntKind.wrap IntKind.i64 ((2 : Int) * n5)))))
  (Int.toNat (minI n4 (maxI (4 : Int) (IntKind.wrap IntKind.i64 ((2 : Int) * n5)))))]
  w17 fun (w18 : World) =>
  StoreR (Addr.add { block := g, off := (0 : Nat) } (1 : Nat)) [Value.int IntKind.i64 (0 : Int)] w18 fun (w19 : World) =>
  MarkR k4 w19 fun (w20 : World) => K (Value.tuple { toList := [] }) w20)
theorem ring_Ring_string_grow_eq (g : Nat) (w : World) (K : Value → World → Prop) : fw Try.prog Try.f38 (annL [(2, [(23, some 3), (24, some 22)])]) (ordL [(0, [(0, 0), (1, 0), (2, 0), (4, 0), (5, 0), (6, 0), (3, 1), (7, 1), (8, 0), (9, 0)]), (1000002, [(44, 1)]), (5, [(0, 0), (1, 0), (2, 0), (4, 0), (5, 0), (6, 0), (3, 1), (7, 1), (8, 0), (9, 0), (10, 0), (11, 3), (12, 0)])]) [.pointer (some ⟨g, 0, none⟩)] w K = ring_Ring_string_grow_m g w K := by kernel_rfl
theorem ring_Ring_string_grow_go (g : Nat) {w : World} {K : Value → World → Prop} (h : ring_Ring_string_grow_m g w K) : Rets Try.prog 38 #[.pointer (some ⟨g, 0, none⟩)] w K :=
  calls_of_fw plain mixed Try.func38 (by kernel_rfl) (by rw [ring_Ring_string_grow_eq]; exact h)
def ring_Ring_string_Send_m (g : Nat) (q : Option Addr) (l c : Nat) (w : World) (K : Value → World → Prop) : Prop :=
  Drw w fun (w1 : World) =>
  (false = false →
  ∃ (n1 : Int),
  cellAt w1 (Addr.add { block := g, off := (0 : Nat) } (2 : Nat)) (Value.int IntKind.i64 n1) ∧
  ∃ (n2 : Int),
  cellAt w1 (Addr.add { block := g, off := (0 : Nat) } (3 : Nat)) (Value.int IntKind.i64 n2) ∧
  (decide (n1 ≥ n2) = true → K (Value.bool false) w1) ∧
  (decide (n1 ≥ n2) = false →
  Rets Try.prog (38 : Nat) { toList := [Value.pointer (some { block := g, off := (0 : Nat) })] } w1
  fun (v1 : Value) (w2 : World) =>
  v1 = Value.tuple { toList := [] } ∧
  Drw w2 fun (w3 : World) =>
  ∃ (h1 : World → Prop),
  h1 w3 ∧
  ∃ (q1 : Option Addr),
  ∃ (k1 : Nat),
  ∃ (k2 : Nat),
  (∀ (w4 : World),
  h1 w4 → World.cell? w4 (Addr.add { block := g, off := (0 : Nat) } (0 : Nat)) = some (Value.slice q1 k1 k2)) ∧
  ∃ (n3 : Int),
  (∀ (w5 : World),
  h1 w5 → World.cell? w5 (Addr.add { block := g, off := (0 : Nat) } (2 : Nat)) = some (Value.int IntKind.i64 n3)) ∧
  Rets Try.prog (39 : Nat) { toList := [Value.pointer (some { block := g, off := (0 : Nat) }), Value.int IntKind.i64 n3] }
  w3 fun (v2 : Value) (w6 : World) =>
  ∃ (n4 : Int),
  v2 = Value.int IntKind.i64 n4 ∧
  h1 w6 ∧
  (0 : Int) ≤ n4 ∧
  n4 < (↑k1 : Int) ∧
  someR q1 fun (a1 : Addr) =>
  StoreR (Addr.add a1 (Int.toNat n4 * (1 : Nat))) [Value.slice q l c] w6 fun (w7 : World) =>
  ∃ (n5 : Int),
  cellAt w7 (Addr.add { block := g, off := (0 : Nat) } (2 : Nat)) (Value.int IntKind.i64 n5) ∧
  StoreR (Addr.add { block := g, off := (0 : Nat) } (2 : Nat))
  [Value.int IntKind.i64 (IntKind.wrap IntKind.i64 (n5 + (1 : Int)))] w7 fun (w8 : World) => K (Value.bool true) w8)) ∧
  (false = true → K (Value.bool false) w1)
theorem ring_Ring_string_Send_eq (g : Nat) (q : Option Addr) (l c : Nat) (w : World) (K : Value → World → Prop) : fw Try.prog Try.f24 (annL []) (ordL [(1, [(0, 0), (1, 0), (2, 0), (3, 0), (4, 0), (5, 0), (7, 0), (8, 0), (9, 0), (6, 1), (10, 1), (11, 0), (12, 0)]), (4, [(0, 0), (1, 0), (2, 0), (4, 0), (5, 0), (6, 0), (7, 0), (10, 0), (3, 1), (8, 1), (9, 2), (11, 0), (12, 3)])]) [.pointer (some ⟨g, 0, none⟩), .slice q l c] w K = ring_Ring_string_Send_m g q l c w K := by kernel_rfl
theorem ring_Ring_string_Send_go (g : Nat) (q : Option Addr) (l c : Nat) {w : World} {K : Value → World → Prop} (h : ring_Ring_string_Send_m g q l c w K) : Rets Try.prog 24 #[.pointer (some ⟨g, 0, none⟩), .slice q l c] w K :=
  calls_of_fw plain mixed Try.func24 (by kernel_rfl) (by rw [ring_Ring_string_Send_eq]; exact h)
def ring_Ring_string_Take_m (g : Nat) (w : World) (K : Value → World → Prop) : Prop :=
  (false = false →
  ∃ (n1 : Int),
  cellAt w (Addr.add { block := g, off := (0 : Nat) } (2 : Nat)) (Value.int IntKind.i64 n1) ∧
  ((n1 == (0 : Int)) = true → K (Value.tuple { toList := [Value.slice none (0 : Nat) (0 : Nat), Value.bool false] }) w) ∧
  ((n1 == (0 : Int)) = false →
  Drw w fun (w1 : World) =>
  ∃ (q1 : Option Addr),
  ∃ (k1 : Nat),
  ∃ (k2 : Nat),
  cellAt w1 (Addr.add { block := g, off := (0 : Nat) } (0 : Nat)) (Value.slice q1 k1 k2) ∧
  ∃ (n2 : Int),
  cellAt w1 (Addr.add { block := g, off := (0 : Nat) } (1 : Nat)) (Value.int IntKind.i64 n2) ∧
  ∃ (q2 : Option Addr),
  ∃ (k3 : Nat),
  ∃ (k4 : Nat),
  cellAt w1 (Addr.add { block := g, off := (0 : Nat) } (0 : Nat)) (Value.slice q2 k3 k4) ∧
  ∃ (n3 : Int),
  cellAt w1 (Addr.add { block := g, off := (0 : Nat) } (1 : Nat)) (Value.int IntKind.i64 n3) ∧
  (0 : Int) ≤ n3 ∧
  n3 < (↑k3 : Int) ∧
  someR q2 fun (a1 : Addr) =>
  ∃ (q3 : Option Addr),
  ∃ (k5 : Nat),
  ∃ (k6 : Nat),
  cellAt w1 (Addr.add a1 (Int.toNat n3 * (1 : Nat))) (Value.slice q3 k5 k6) ∧
  (0 : Int) ≤ n2 ∧
  n2 < (↑k1 : Int) ∧
  someR q1 fun (a2 : Addr) =>
  StoreR (Addr.add a2 (Int.toNat n2 * (1 : Nat))) [Value.slice none (0 : Nat) (0 : Nat)] w1 fun (w2 : World) =>
  Drw w2 fun (w3 : World) =>
  ∃ (h1 : World → Prop),
  h1 w3 ∧
  ∃ (n4 : Int),
  (∀ (w4 : World),
  h1 w4 → World.cell? w4 (Addr.add { block := g, off := (0 : Nat) } (2 : Nat)) = some (Value.int IntKind.i64 n4)) ∧
  Rets Try.prog (39 : Nat)
  { toList := [Value.pointer (some { block := g, off := (0 : Nat) }), Value.int IntKind.i64 (1 : Int)] } w3
  fun (v1 : Value) (w5 : World) =>
  ∃ (n5 : Int),
  v1 = Value.int IntKind.i64 n5 ∧
  h1 w5 ∧
  StoreR (Addr.add { block := g, off := (0 : Nat) } (1 : Nat)) [Value.int IntKind.i64 n5] w5 fun (w6 : World) =>
  StoreR (Addr.add { block := g, off := (0 : Nat) } (2 : Nat))
  [Value.int IntKind.i64 (IntKind.wrap IntKind.i64 (n4 - (1 : Int)))] w6 fun (w7 : World) =>
  K (Value.tuple { toList := [Value.slice q3 k5 k6, Value.bool true] }) w7)) ∧
  (false = true → K (Value.tuple { toList := [Value.slice none (0 : Nat) (0 : Nat), Value.bool false] }) w)
theorem ring_Ring_string_Take_eq (g : Nat) (w : World) (K : Value → World → Prop) : fw Try.prog Try.f27 (annL []) (ordL [(4, [(0, 0), (1, 0), (2, 0), (4, 0), (5, 0), (6, 0), (8, 0), (9, 0), (10, 0), (12, 0), (13, 0), (14, 0), (18, 0), (3, 1), (7, 1), (11, 1), (15, 1), (16, 0), (17, 1), (19, 0), (20, 0), (21, 3)]), (5, [(0, 0), (1, 0), (2, 0), (4, 0), (5, 0), (6, 0), (7, 1), (8, 0), (3, 2), (9, 0), (10, 0), (11, 3), (12, 0), (13, 0), (14, 3)])]) [.pointer (some ⟨g, 0, none⟩)] w K = ring_Ring_string_Take_m g w K := by kernel_rfl
theorem ring_Ring_string_Take_go (g : Nat) {w : World} {K : Value → World → Prop} (h : ring_Ring_string_Take_m g w K) : Rets Try.prog 27 #[.pointer (some ⟨g, 0, none⟩)] w K :=
  calls_of_fw plain mixed Try.func27 (by kernel_rfl) (by rw [ring_Ring_string_Take_eq]; exact h)
def pool_New_int_m (room spare : Int) (w : World) (K : Value → World → Prop) : Prop :=
  NewR (63 : Nat)
  [Value.slice none (0 : Nat) (0 : Nat), Value.int IntKind.i64 (maxI (1 : Int) (minI room (1024 : Int))),
  Value.int IntKind.i64 (maxI (0 : Int) (minI spare (1024 : Int))), Value.int IntKind.i64 (0 : Int)]
  w fun (a1 : Addr) (w1 : World) => K (Value.pointer (some a1)) w1
theorem pool_New_int_eq (room spare : Int) (w : World) (K : Value → World → Prop) : fw Try.prog Try.f37 (annL []) (ordL []) [.int .i64 room, .int .i64 spare] w K = pool_New_int_m room spare w K := by kernel_rfl
theorem pool_New_int_go (room spare : Int) {w : World} {K : Value → World → Prop} (h : pool_New_int_m room spare w K) : Rets Try.prog 37 #[.int .i64 room, .int .i64 spare] w K :=
  calls_of_fw plain mixed Try.func37 (by kernel_rfl) (by rw [pool_New_int_eq]; exact h)
def pool_Pool_int_Take_m (g : Nat) (w : World) (K : Value → World → Prop) : Prop :=
  (false = true → K (Value.slice none (0 : Nat) (0 : Nat)) w) ∧
  (false = false →
  ∃ (q1 : Option Addr),
  ∃ (k1 : Nat),
  ∃ (k2 : Nat),
  cellAt w (Addr.add { block := g, off := (0 : Nat) } (0 : Nat)) (Value.slice q1 k1 k2) ∧
  (decide ((↑k1 : Int) > (0 : Int)) = true →
  ∃ (q2 : Option Addr),
  ∃ (k3 : Nat),
  ∃ (k4 : Nat),
  cellAt w (Addr.add { block := g, off := (0 : Nat) } (0 : Nat)) (Value.slice q2 k3 k4) ∧
  (0 : Int) ≤ IntKind.wrap IntKind.i64 ((↑k1 : Int) - (1 : Int)) ∧
  IntKind.wrap IntKind.i64 ((↑k1 : Int) - (1 : Int)) < (↑k3 : Int) ∧
  someR q2 fun (a1 : Addr) =>
  ∃ (q3 : Option Addr),
  ∃ (k5 : Nat),
  ∃ (k6 : Nat),
  cellAt w (Addr.add a1 (Int.toNat (IntKind.wrap IntKind.i64 ((↑k1 : Int) - (1 : Int))) * (1 : Nat)))
  (Value.slice q3 k5 k6) ∧
  ∃ (q4 : Option Addr),
  ∃ (k7 : Nat),
  ∃ (k8 : Nat),
  cellAt w (Addr.add { block := g, off := (0 : Nat) } (0 : Nat)) (Value.slice q4 k7 k8) ∧
  (0 : Int) ≤ IntKind.wrap IntKind.i64 ((↑k1 : Int) - (1 : Int)) ∧
  IntKind.wrap IntKind.i64 ((↑k1 : Int) - (1 : Int)) < (↑k7 : Int) ∧
  someR q4 fun (a2 : Addr) =>
  StoreR (Addr.add a2 (Int.toNat (IntKind.wrap IntKind.i64 ((↑k1 : Int) - (1 : Int))) * (1 : Nat)))
  [Value.slice none (0 : Nat) (0 : Nat)] w fun (w1 : World) =>
  ∃ (q5 : Option Addr),
  ∃ (k9 : Nat),
  ∃ (k10 : Nat),
  cellAt w1 (Addr.add { block := g, off := (0 : Nat) } (0 : Nat)) (Value.slice q5 k9 k10) ∧
  (0 : Int) ≤ IntKind.wrap IntKind.i64 ((↑k1 : Int) - (1 : Int)) ∧
  IntKind.wrap IntKind.i64 ((↑k1 : Int) - (1 : Int)) ≤ (↑k10 : Int) ∧
  StoreR (Addr.add { block := g, off := (0 : Nat) } (0 : Nat))
  [Value.slice (slcA q5 (0 : Nat) k10 (1 : Nat))
  (Int.toNat (IntKind.wrap IntKind.i64 ((↑k1 : Int) - (1 : Int))) - (0 : Nat)) (k10 - (0 : Nat))]
  w1 fun (w2 : World) => K (Value.slice q3 k5 k6) w2) ∧
  (decide ((↑k1 : Int) > (0 : Int)) = false →
  ∃ (n1 : Int),
  cellAt w (Addr.add { block := g, off := (0 : Nat) } (3 : Nat)) (Value.int IntKind.i64 n1) ∧
  StoreR (Addr.add { block := g, off := (0 : Nat) } (3 : Nat))
  [Value.int IntKind.i64 (IntKind.wrap IntKind.i64 (n1 + (1 : Int)))] w fun (w3 : World) =>
  ∃ (n2 : Int),
  cellAt w3 (Addr.add { block := g, off := (0 : Nat) } (1 : Nat)) (Value.int IntKind.i64 n2) ∧
  MakeR (3 : Nat) [Value.int IntKind.i64 (0 : Int)] (8 : Nat) (0 : Int) n2 w3 fun (a3 : Addr) (w4 : World) =>
  K (Value.slice (some a3) (0 : Nat) (Int.toNat n2)) w4))
theorem pool_Pool_int_Take_eq (g : Nat) (w : World) (K : Value → World → Prop) : fw Try.prog Try.f31 (annL []) (ordL []) [.pointer (some ⟨g, 0, none⟩)] w K = pool_Pool_int_Take_m g w K := by kernel_rfl
theorem pool_Pool_int_Take_go (g : Nat) {w : World} {K : Value → World → Prop} (h : pool_Pool_int_Take_m g w K) : Rets Try.prog 31 #[.pointer (some ⟨g, 0, none⟩)] w K :=
  calls_of_fw plain mixed Try.func31 (by kernel_rfl) (by rw [pool_Pool_int_Take_eq]; exact h)
def pool_Pool_int_Give_m (g : Nat) (q : Option Addr) (l c : Nat) (w : World) (K : Value → World → Prop) : Prop :=
  Drw w fun (w1 : World) =>
  (false = false →
  ∃ (q1 : Option Addr),
  ∃ (k1 : Nat),
  ∃ (k2 : Nat),
  cellAt w1 (Addr.add { block := g, off := (0 : Nat) } (0 : Nat)) (Value.slice q1 k1 k2) ∧
  ∃ (n1 : Int),
  cellAt w1 (Addr.add { block := g, off := (0 : Nat) } (2 : Nat)) (Value.int IntKind.i64 n1) ∧
  (decide ((↑k1 : Int) ≥ n1) = false →
  ∃ (n2 : Int),
  cellAt w1 (Addr.add { block := g, off := (0 : Nat) } (1 : Nat)) (Value.int IntKind.i64 n2) ∧
  (((↑c : Int) != n2) = true → K (Value.bool false) w1) ∧
  (((↑c : Int) != n2) = false →
  ∃ (n3 : Int),
  cellAt w1 (Addr.add { block := g, off := (0 : Nat) } (1 : Nat)) (Value.int IntKind.i64 n3) ∧
  (0 : Int) ≤ n3 ∧
  n3 ≤ (↑c : Int) ∧
  RunR Try.prog
  (builtinV Builtin.clear { toList := [(33 : Nat)] } (nat_lit 0)
  { toList := [Value.slice (slcA q (0 : Nat) c (1 : Nat)) (Int.toNat n3 - (0 : Nat)) (c - (0 : Nat))] })
  w1 fun (v1 : Value) (w2 : World) =>
  v1 = Value.tuple { toList := [] } ∧
  Drw w2 fun (w3 : World) =>
  ∃ (h1 : World → Prop),
  h1 w3 ∧
  (0 : Int) ≤ (0 : Int) ∧
  (0 : Int) ≤ (↑(c - (0 : Nat)) : Int) ∧
  ∃ (q2 : Option Addr),
  ∃ (k3 : Nat),
  ∃ (k4 : Nat),
  (∀ (w4 : World),
  h1 w4 → World.cell? w4 (Addr.add { block := g, off := (0 : Nat) } (0 : Nat)) = some (Value.slice q2 k3 k4)) ∧
  NewR (33 : Nat)
  [Value.slice (slcA (slcA q (0 : Nat) c (1 : Nat)) (0 : Nat) (c - (0 : Nat)) (1 : Nat)) (0 : Nat)
  (c - (0 : Nat) - (0 : Nat))]
  w3 fun (a1 : Addr) (w5 : World) =>
  h1 w5 ∧
  RunR Try.prog
  (builtinV Builtin.append { toList := [(48 : Nat), (48 : Nat)] } (nat_lit 48)
  { toList := [Value.slice q2 k3 k4, Value.slice (some a1) (1 : Nat) (1 : Nat)] })
  w5 fun (v2 : Value) (w6 : World) =>
  ∃ (q3 : Option Addr),
  ∃ (k5 : Nat),
  ∃ (k6 : Nat),
  v2 = Value.slice q3 k5 k6 ∧
  StoreR (Addr.add { block := g, off := (0 : Nat) } (0 : Nat)) [Value.slice q3 k5 k6] w6 fun (w7 : World) =>
  K (Value.bool true) w7)) ∧
  (decide ((↑k1 : Int) ≥ n1) = true → K (Value.bool false) w1)) ∧
  (false = true → K (Value.bool false) w1)
theorem pool_Pool_int_Give_eq (g : Nat) (q : Option Addr) (l c : Nat) (w : World) (K : Value → World → Prop) : fw Try.prog Try.f33 (annL []) (ordL [(1, [(0, 0), (1, 0), (2, 0), (3, 0), (4, 0), (5, 0), (8, 0), (9, 0), (10, 0), (6, 1), (7, 0), (11, 1), (12, 0), (13, 0), (14, 0), (15, 0), (16, 0), (17, 0), (18, 0), (19, 0), (20, 1), (21, 0), (22, 0)]), (5, [(0, 0), (1, 0), (2, 0), (3, 0), (5, 0), (6, 0), (4, 1), (7, 2), (8, 3), (9, 0), (10, 0), (11, 3)])]) [.pointer (some ⟨g, 0, none⟩), .slice q l c] w K = pool_Pool_int_Give_m g q l c w K := by kernel_rfl
theorem pool_Pool_int_Give_go (g : Nat) (q : Option Addr) (l c : Nat) {w : World} {K : Value → World → Prop} (h : pool_Pool_int_Give_m g q l c w K) : Rets Try.prog 33 #[.pointer (some ⟨g, 0, none⟩), .slice q l c] w K :=
  calls_of_fw plain mixed Try.func33 (by kernel_rfl) (by rw [pool_Pool_int_Give_eq]; exact h)
def pool_New_string_m (room spare : Int) (w : World) (K : Value → World → Prop) : Prop :=
  NewR (59 : Nat)
  [Value.slice none (0 : Nat) (0 : Nat), Value.int IntKind.i64 (maxI (1 : Int) (minI room (1024 : Int))),
  Value.int IntKind.i64 (maxI (0 : Int) (minI spare (1024 : Int))), Value.int IntKind.i64 (0 : Int)]
  w fun (a1 : Addr) (w1 : World) => K (Value.pointer (some a1)) w1
theorem pool_New_string_eq (room spare : Int) (w : World) (K : Value → World → Prop) : fw Try.prog Try.f21 (annL []) (ordL []) [.int .i64 room, .int .i64 spare] w K = pool_New_string_m room spare w K := by kernel_rfl
theorem pool_New_string_go (room spare : Int) {w : World} {K : Value → World → Prop} (h : pool_New_string_m room spare w K) : Rets Try.prog 21 #[.int .i64 room, .int .i64 spare] w K :=
  calls_of_fw plain mixed Try.func21 (by kernel_rfl) (by rw [pool_New_string_eq]; exact h)
def pool_Pool_string_Take_m (g : Nat) (w : World) (K : Value → World → Prop) : Prop :=
  (false = true → K (Value.slice none (0 : Nat) (0 : Nat)) w) ∧
  (false = false →
  ∃ (q1 : Option Addr),
  ∃ (k1 : Nat),
  ∃ (k2 : Nat),
  cellAt w (Addr.add { block := g, off := (0 : Nat) } (0 : Nat)) (Value.slice q1 k1 k2) ∧
  (decide ((↑k1 : Int) > (0 : Int)) = true →
  ∃ (q2 : Option Addr),
  ∃ (k3 : Nat),
  ∃ (k4 : Nat),
  cellAt w (Addr.add { block := g, off := (0 : Nat) } (0 : Nat)) (Value.slice q2 k3 k4) ∧
  (0 : Int) ≤ IntKind.wrap IntKind.i64 ((↑k1 : Int) - (1 : Int)) ∧
  IntKind.wrap IntKind.i64 ((↑k1 : Int) - (1 : Int)) < (↑k3 : Int) ∧
  someR q2 fun (a1 : Addr) =>
  ∃ (q3 : Option Addr),
  ∃ (k5 : Nat),
  ∃ (k6 : Nat),
  cellAt w (Addr.add a1 (Int.toNat (IntKind.wrap IntKind.i64 ((↑k1 : Int) - (1 : Int))) * (1 : Nat)))
  (Value.slice q3 k5 k6) ∧
  ∃ (q4 : Option Addr),
  ∃ (k7 : Nat),
  ∃ (k8 : Nat),
  cellAt w (Addr.add { block := g, off := (0 : Nat) } (0 : Nat)) (Value.slice q4 k7 k8) ∧
  (0 : Int) ≤ IntKind.wrap IntKind.i64 ((↑k1 : Int) - (1 : Int)) ∧
  IntKind.wrap IntKind.i64 ((↑k1 : Int) - (1 : Int)) < (↑k7 : Int) ∧
  someR q4 fun (a2 : Addr) =>
  StoreR (Addr.add a2 (Int.toNat (IntKind.wrap IntKind.i64 ((↑k1 : Int) - (1 : Int))) * (1 : Nat)))
  [Value.slice none (0 : Nat) (0 : Nat)] w fun (w1 : World) =>
  ∃ (q5 : Option Addr),
  ∃ (k9 : Nat),
  ∃ (k10 : Nat),
  cellAt w1 (Addr.add { block := g, off := (0 : Nat) } (0 : Nat)) (Value.slice q5 k9 k10) ∧
  (0 : Int) ≤ IntKind.wrap IntKind.i64 ((↑k1 : Int) - (1 : Int)) ∧
  IntKind.wrap IntKind.i64 ((↑k1 : Int) - (1 : Int)) ≤ (↑k10 : Int) ∧
  StoreR (Addr.add { block := g, off := (0 : Nat) } (0 : Nat))
  [Value.slice (slcA q5 (0 : Nat) k10 (1 : Nat))
  (Int.toNat (IntKind.wrap IntKind.i64 ((↑k1 : Int) - (1 : Int))) - (0 : Nat)) (k10 - (0 : Nat))]
  w1 fun (w2 : World) => K (Value.slice q3 k5 k6) w2) ∧
  (decide ((↑k1 : Int) > (0 : Int)) = false →
  ∃ (n1 : Int),
  cellAt w (Addr.add { block := g, off := (0 : Nat) } (3 : Nat)) (Value.int IntKind.i64 n1) ∧
  StoreR (Addr.add { block := g, off := (0 : Nat) } (3 : Nat))
  [Value.int IntKind.i64 (IntKind.wrap IntKind.i64 (n1 + (1 : Int)))] w fun (w3 : World) =>
  ∃ (n2 : Int),
  cellAt w3 (Addr.add { block := g, off := (0 : Nat) } (1 : Nat)) (Value.int IntKind.i64 n2) ∧
  MakeR (9 : Nat) [Value.string { data := #[] }] (16 : Nat) (0 : Int) n2 w3 fun (a3 : Addr) (w4 : World) =>
  K (Value.slice (some a3) (0 : Nat) (Int.toNat n2)) w4))
theorem pool_Pool_string_Take_eq (g : Nat) (w : World) (K : Value → World → Prop) : fw Try.prog Try.f23 (annL []) (ordL []) [.pointer (some ⟨g, 0, none⟩)] w K = pool_Pool_string_Take_m g w K := by kernel_rfl
theorem pool_Pool_string_Take_go (g : Nat) {w : World} {K : Value → World → Prop} (h : pool_Pool_string_Take_m g w K) : Rets Try.prog 23 #[.pointer (some ⟨g, 0, none⟩)] w K :=
  calls_of_fw plain mixed Try.func23 (by kernel_rfl) (by rw [pool_Pool_string_Take_eq]; exact h)
def pool_Pool_string_Give_m (g : Nat) (q : Option Addr) (l c : Nat) (w : World) (K : Value → World → Prop) : Prop :=
  Drw w fun (w1 : World) =>
  (false = false →
  ∃ (q1 : Option Addr),
  ∃ (k1 : Nat),
  ∃ (k2 : Nat),
  cellAt w1 (Addr.add { block := g, off := (0 : Nat) } (0 : Nat)) (Value.slice q1 k1 k2) ∧
  ∃ (n1 : Int),
  cellAt w1 (Addr.add { block := g, off := (0 : Nat) } (2 : Nat)) (Value.int IntKind.i64 n1) ∧
  (decide ((↑k1 : Int) ≥ n1) = false →
  ∃ (n2 : Int),
  cellAt w1 (Addr.add { block := g, off := (0 : Nat) } (1 : Nat)) (Value.int IntKind.i64 n2) ∧
  (((↑c : Int) != n2) = true → K (Value.bool false) w1) ∧
  (((↑c : Int) != n2) = false →
  ∃ (n3 : Int),
  cellAt w1 (Addr.add { block := g, off := (0 : Nat) } (1 : Nat)) (Value.int IntKind.i64 n3) ∧
  (0 : Int) ≤ n3 ∧
  n3 ≤ (↑c : Int) ∧
  RunR Try.prog
  (builtinV Builtin.clear { toList := [(22 : Nat)] } (nat_lit 0)
  { toList := [Value.slice (slcA q (0 : Nat) c (1 : Nat)) (Int.toNat n3 - (0 : Nat)) (c - (0 : Nat))] })
  w1 fun (v1 : Value) (w2 : World) =>
  v1 = Value.tuple { toList := [] } ∧
  Drw w2 fun (w3 : World) =>
  ∃ (h1 : World → Prop),
  h1 w3 ∧
  (0 : Int) ≤ (0 : Int) ∧
  (0 : Int) ≤ (↑(c - (0 : Nat)) : Int) ∧
  ∃ (q2 : Option Addr),
  ∃ (k3 : Nat),
  ∃ (k4 : Nat),
  (∀ (w4 : World),
  h1 w4 → World.cell? w4 (Addr.add { block := g, off := (0 : Nat) } (0 : Nat)) = some (Value.slice q2 k3 k4)) ∧
  NewR (22 : Nat)
  [Value.slice (slcA (slcA q (0 : Nat) c (1 : Nat)) (0 : Nat) (c - (0 : Nat)) (1 : Nat)) (0 : Nat)
  (c - (0 : Nat) - (0 : Nat))]
  w3 fun (a1 : Addr) (w5 : World) =>
  h1 w5 ∧
  RunR Try.prog
  (builtinV Builtin.append { toList := [(40 : Nat), (40 : Nat)] } (nat_lit 40)
  { toList := [Value.slice q2 k3 k4, Value.slice (some a1) (1 : Nat) (1 : Nat)] })
  w5 fun (v2 : Value) (w6 : World) =>
  ∃ (q3 : Option Addr),
  ∃ (k5 : Nat),
  ∃ (k6 : Nat),
  v2 = Value.slice q3 k5 k6 ∧
  StoreR (Addr.add { block := g, off := (0 : Nat) } (0 : Nat)) [Value.slice q3 k5 k6] w6 fun (w7 : World) =>
  K (Value.bool true) w7)) ∧
  (decide ((↑k1 : Int) ≥ n1) = true → K (Value.bool false) w1)) ∧
  (false = true → K (Value.bool false) w1)
theorem pool_Pool_string_Give_eq (g : Nat) (q : Option Addr) (l c : Nat) (w : World) (K : Value → World → Prop) : fw Try.prog Try.f25 (annL []) (ordL [(1, [(0, 0), (1, 0), (2, 0), (3, 0), (4, 0), (5, 0), (8, 0), (9, 0), (10, 0), (6, 1), (7, 0), (11, 1), (12, 0), (13, 0), (14, 0), (15, 0), (16, 0), (17, 0), (18, 0), (19, 0), (20, 1), (21, 0), (22, 0)]), (5, [(0, 0), (1, 0), (2, 0), (3, 0), (5, 0), (6, 0), (4, 1), (7, 2), (8, 3), (9, 0), (10, 0), (11, 3)])]) [.pointer (some ⟨g, 0, none⟩), .slice q l c] w K = pool_Pool_string_Give_m g q l c w K := by kernel_rfl
theorem pool_Pool_string_Give_go (g : Nat) (q : Option Addr) (l c : Nat) {w : World} {K : Value → World → Prop} (h : pool_Pool_string_Give_m g q l c w K) : Rets Try.prog 25 #[.pointer (some ⟨g, 0, none⟩), .slice q l c] w K :=
  calls_of_fw plain mixed Try.func25 (by kernel_rfl) (by rw [pool_Pool_string_Give_eq]; exact h)
def pool_Pool_string_Made_m (g : Nat) (w : World) (K : Value → World → Prop) : Prop :=
  (false = true → K (Value.int IntKind.i64 (0 : Int)) w) ∧
  (false = false →
  ∃ (n1 : Int),
  cellAt w (Addr.add { block := g, off := (0 : Nat) } (3 : Nat)) (Value.int IntKind.i64 n1) ∧
  K (Value.int IntKind.i64 n1) w)
theorem pool_Pool_string_Made_eq (g : Nat) (w : World) (K : Value → World → Prop) : fw Try.prog Try.f28 (annL []) (ordL []) [.pointer (some ⟨g, 0, none⟩)] w K = pool_Pool_string_Made_m g w K := by kernel_rfl
theorem pool_Pool_string_Made_go (g : Nat) {w : World} {K : Value → World → Prop} (h : pool_Pool_string_Made_m g w K) : Rets Try.prog 28 #[.pointer (some ⟨g, 0, none⟩)] w K :=
  calls_of_fw plain mixed Try.func28 (by kernel_rfl) (by rw [pool_Pool_string_Made_eq]; exact h)
def stripe_New_int_m (lanes batch room : Int) (w : World) (K : Value → World → Prop) : Prop :=
  Drw w fun (w1 : World) =>
  (MakeR (33 : Nat) [Value.slice none (0 : Nat) (0 : Nat)] (24 : Nat) (maxI (1 : Int) (minI lanes (64 : Int)))
  (maxI (1 : Int) (minI lanes (64 : Int))) w1 fun (a1 : Addr) (w2 : World) =>
  Rets Try.prog (36 : Nat) { toList := [Value.int IntKind.i64 (maxI (0 : Int) (minI room (1024 : Int)))] } w2
  fun (v1 : Value) (w3 : World) =>
  ∃ (q1 : Option Addr),
  v1 = Value.pointer q1 ∧
  Rets Try.prog (37 : Nat)
  {
  toList :=
  [Value.int IntKind.i64 (maxI (1 : Int) (minI batch (16 : Int))),
  Value.int IntKind.i64
  (IntKind.wrap IntKind.i64 (maxI (1 : Int) (minI lanes (64 : Int)) + maxI (0 : Int) (minI room (1024 : Int))))] }
  w3 fun (v2 : Value) (w4 : World) =>
  ∃ (q2 : Option Addr),
  v2 = Value.pointer q2 ∧
  NewR (52 : Nat)
  [Value.slice (some a1) (Int.toNat (maxI (1 : Int) (minI lanes (64 : Int))))
  (Int.toNat (maxI (1 : Int) (minI lanes (64 : Int)))),
  Value.int IntKind.i64 (maxI (1 : Int) (minI batch (16 : Int))), Value.pointer q1, Value.pointer q2]
  w4 fun (a2 : Addr) (w5 : World) => K (Value.pointer (some a2)) w5) ∧
  Rets Try.prog (36 : Nat) { toList := [Value.int IntKind.i64 (maxI (0 : Int) (minI room (1024 : Int)))] } w1
  fun (v3 : Value) (w6 : World) =>
  ∃ (q3 : Option Addr),
  v3 = Value.pointer q3 ∧
  (MakeR (33 : Nat) [Value.slice none (0 : Nat) (0 : Nat)] (24 : Nat) (maxI (1 : Int) (minI lanes (64 : Int)))
  (maxI (1 : Int) (minI lanes (64 : Int))) w6 fun (a3 : Addr) (w7 : World) =>
  Rets Try.prog (37 : Nat)
  {
  toList :=
  [Value.int IntKind.i64 (maxI (1 : Int) (minI batch (16 : Int))),
  Value.int IntKind.i64
  (IntKind.wrap IntKind.i64 (maxI (1 : Int) (minI lanes (64 : Int)) + maxI (0 : Int) (minI room (1024 : Int))))] }
  w7 fun (v4 : Value) (w8 : World) =>
  ∃ (q4 : Option Addr),
  v4 = Value.pointer q4 ∧
  NewR (52 : Nat)
  [Value.slice (some a3) (Int.toNat (maxI (1 : Int) (minI lanes (64 : Int))))
  (Int.toNat (maxI (1 : Int) (minI lanes (64 : Int)))),
  Value.int IntKind.i64 (maxI (1 : Int) (minI batch (16 : Int))), Value.pointer q3, Value.pointer q4]
  w8 fun (a4 : Addr) (w9 : World) => K (Value.pointer (some a4)) w9) ∧
  Rets Try.prog (37 : Nat)
  {
  toList :=
  [Value.int IntKind.i64 (maxI (1 : Int) (minI batch (16 : Int))),
  Value.int IntKind.i64
  (IntKind.wrap IntKind.i64 (maxI (1 : Int) (minI lanes (64 : Int)) + maxI (0 : Int) (minI room (1024 : Int))))] }
  w6 fun (v5 : Value) (w10 : World) =>
  ∃ (q5 : Option Addr),
  v5 = Value.pointer q5 ∧
  MakeR (33 : Nat) [Value.slice none (0 : Nat) (0 : Nat)] (24 : Nat) (maxI (1 : Int) (minI lanes (64 : Int)))
  (maxI (1 : Int) (minI lanes (64 : Int))) w10 fun (a5 : Addr) (w11 : World) =>
  NewR (52 : Nat)
  [Value.slice (some a5) (Int.toNat (maxI (1 : Int) (minI lanes (64 : Int))))
  (Int.toNat (maxI (1 : Int) (minI lanes (64 : Int)))),
  Value.int IntKind.i64 (maxI (1 : Int) (minI batch (16 : Int))), Value.pointer q3, Value.pointer q5]
  w11 fun (a6 : Addr) (w12 : World) => K (Value.pointer (some a6)) w12
theorem stripe_New_int_eq (lanes batch room : Int) (w : World) (K : Value → World → Prop) : fw Try.prog Try.f19 (annL []) (ordL [(4, [(0, 0), (2, 0), (3, 0), (5, 0), (6, 0), (7, 0), (8, 0), (0, 6), (1, 3), (4, 3), (9, 3), (10, 0), (11, 3), (12, 0), (0, 7), (4, 3), (0, 6), (1, 3), (9, 3), (10, 0), (11, 3), (12, 0), (0, 7), (9, 3), (1, 3), (10, 0), (11, 3), (12, 0), (0, 7)])]) [.int .i64 lanes, .int .i64 batch, .int .i64 room] w K = stripe_New_int_m lanes batch room w K := by kernel_rfl
theorem stripe_New_int_go (lanes batch room : Int) {w : World} {K : Value → World → Prop} (h : stripe_New_int_m lanes batch room w K) : Rets Try.prog 19 #[.int .i64 lanes, .int .i64 batch, .int .i64 room] w K :=
  calls_of_fw plain mixed Try.func19 (by kernel_rfl) (by rw [stripe_New_int_eq]; exact h)
def stripe_Buffer_int_lane_m (g : Nat) (i : Int) (w : World) (K : Value → World → Prop) : Prop :=
  ∃ (q1 : Option Addr),
  ∃ (k1 : Nat),
  ∃ (k2 : Nat),
  cellAt w (Addr.add { block := g, off := (0 : Nat) } (0 : Nat)) (Value.slice q1 k1 k2) ∧
  (↑k1 : Int) ≠ (0 : Int) ∧ K (Value.int IntKind.i64 (Int.tmod (maxI i (0 : Int)) (↑k1 : Int))) w
theorem stripe_Buffer_int_lane_eq (g : Nat) (i : Int) (w : World) (K : Value → World → Prop) : fw Try.prog Try.f30 (annL []) (ordL []) [.pointer (some ⟨g, 0, none⟩), .int .i64 i] w K = stripe_Buffer_int_lane_m g i w K := by kernel_rfl
theorem stripe_Buffer_int_lane_go (g : Nat) (i : Int) {w : World} {K : Value → World → Prop} (h : stripe_Buffer_int_lane_m g i w K) : Rets Try.prog 30 #[.pointer (some ⟨g, 0, none⟩), .int .i64 i] w K :=
  calls_of_fw plain mixed Try.func30 (by kernel_rfl) (by rw [stripe_Buffer_int_lane_eq]; exact h)
def stripe_Buffer_int_Push_m (g : Nat) (i : Int) (x : Int) (w : World) (K : Value → World → Prop) : Prop :=
  (false = true → K (Value.int IntKind.i64 (2 : Int)) w) ∧
  (false = false →
  Rets Try.prog (30 : Nat) { toList := [Value.pointer (some { block := g, off := (0 : Nat) }), Value.int IntKind.i64 i] }
  w fun (v1 : Value) (w1 : World) =>
  ∃ (n1 : Int),
  v1 = Value.int IntKind.i64 n1 ∧
  ∃ (q1 : Option Addr),
  ∃ (k1 : Nat),
  ∃ (k2 : Nat),
  cellAt w1 (Addr.add { block := g, off := (0 : Nat) } (0 : Nat)) (Value.slice q1 k1 k2) ∧
  (0 : Int) ≤ n1 ∧
  n1 < (↑k1 : Int) ∧
  someR q1 fun (a1 : Addr) =>
  ∃ (q2 : Option Addr),
  ∃ (k3 : Nat),
  ∃ (k4 : Nat),
  cellAt w1 (Addr.add a1 (Int.toNat n1 * (1 : Nat))) (Value.slice q2 k3 k4) ∧
  ∃ (h1 : List Value → World → Prop),
  ((Option.isNone q2 = true →
  Drw w1 fun (w2 : World) =>
  ∃ (h2 : World → Prop),
  h2 w2 ∧
  ∃ (q3 : Option Addr),
  ∃ (k5 : Nat),
  ∃ (k6 : Nat),
  (∀ (w3 : World),
  h2 w3 → World.cell? w3 (Addr.add { block := g, off := (0 : Nat) } (0 : Nat)) = some (Value.slice q3 k5 k6)) ∧
  ∃ (q4 : Option Addr),
  (∀ (w4 : World),
  h2 w4 → World.cell? w4 (Addr.add { block := g, off := (0 : Nat) } (3 : Nat)) = some (Value.pointer q4)) ∧
  Rets Try.prog (31 : Nat) { toList := [Value.pointer q4] } w2 fun (v2 : Value) (w5 : World) =>
  ∃ (q5 : Option Addr),
  ∃ (k7 : Nat),
  ∃ (k8 : Nat),
  v2 = Value.slice q5 k7 k8 ∧
  h2 w5 ∧
  (0 : Int) ≤ n1 ∧
  n1 < (↑k5 : Int) ∧
  someR q3 fun (a2 : Addr) =>
  StoreR (Addr.add a2 (Int.toNat n1 * (1 : Nat))) [Value.slice q5 k7 k8] w5 fun (w6 : World) => h1 [] w6) ∧
  (Option.isNone q2 = false → h1 [] w1)) ∧
  ∀ (w7 : World) (v3 v4 v5 v6 v7 v8 v9 v10 v11 v12 v13 : Value),
  h1 [] w7 →
  Drw w7 fun (w8 : World) =>
  ∃ (h3 : World → Prop),
  h3 w8 ∧
  ∃ (q6 : Option Addr),
  ∃ (k9 : Nat),
  ∃ (k10 : Nat),
  (∀ (w9 : World),
  h3 w9 → World.cell? w9 (Addr.add { block := g, off := (0 : Nat) } (0 : Nat)) = some (Value.slice q6 k9 k10)) ∧
  ∃ (q7 : Option Addr),
  ∃ (k11 : Nat),
  ∃ (k12 : Nat),
  (∀ (w10 : World),
  h3 w10 → World.cell? w10 (Addr.add { block := g, off := (0 : Nat) } (0 : Nat)) = some (Value.slice q7 k11 k12)) ∧
  (0 : Int) ≤ n1 ∧
  n1 < (↑k11 : Int) ∧
  someR q7 fun (a3 : Addr) =>
  ∃ (q8 : Option Addr),
  ∃ (k13 : Nat),
  ∃ (k14 : Nat),
  (∀ (w11 : World), h3 w11 → World.cell? w11 (Addr.add a3 (Int.toNat n1 * (1 : Nat))) = some (Value.slice q8 k13 k14)) ∧
  NewR (3 : Nat) [Value.int IntKind.i64 x] w8 fun (a4 : Addr) (w12 : World) =>
  h3 w12 ∧
  RunR Try.prog
  (builtinV Builtin.append { toList := [(33 : Nat), (33 : Nat)] } (nat_lit 33)
  { toList := [Value.slice q8 k13 k14, Value.slice (some a4) (1 : Nat) (1 : Nat)] })
  w12 fun (v14 : Value) (w13 : World) =>
  ∃ (q9 : Option Addr),
  ∃ (k15 : Nat),
  ∃ (k16 : Nat),
  v14 = Value.slice q9 k15 k16 ∧
  h3 w13 ∧
  (0 : Int) ≤ n1 ∧
  n1 < (↑k9 : Int) ∧
  someR q6 fun (a5 : Addr) =>
  StoreR (Addr.add a5 (Int.toNat n1 * (1 : Nat))) [Value.slice q9 k15 k16] w13 fun (w14 : World) =>
  Drw w14 fun (w15 : World) =>
  ∃ (q10 : Option Addr),
  ∃ (k17 : Nat),
  ∃ (k18 : Nat),
  cellAt w15 (Addr.add { block := g, off := (0 : Nat) } (0 : Nat)) (Value.slice q10 k17 k18) ∧
  (0 : Int) ≤ n1 ∧
  n1 < (↑k17 : Int) ∧
  someR q10 fun (a6 : Addr) =>
  ∃ (q11 : Option Addr),
  ∃ (k19 : Nat),
  ∃ (k20 : Nat),
  cellAt w15 (Addr.add a6 (Int.toNat n1 * (1 : Nat))) (Value.slice q11 k19 k20) ∧
  ∃ (n2 : Int),
  cellAt w15 (Addr.add { block := g, off := (0 : Nat) } (1 : Nat)) (Value.int IntKind.i64 n2) ∧
  (decide ((↑k19 : Int) < n2) = true → K (Value.int IntKind.i64 (0 : Int)) w15) ∧
  (decide ((↑k19 : Int) < n2) = false →
  ∃ (q12 : Option Addr),
  ∃ (k21 : Nat),
  ∃ (k22 : Nat),
  cellAt w15 (Addr.add { block := g, off := (0 : Nat) } (0 : Nat)) (Value.slice q12 k21 k22) ∧
  (0 : Int) ≤ n1 ∧
  n1 < (↑k21 : Int) ∧
  someR q12 fun (a7 : Addr) =>
  ∃ (q13 : Option Addr),
  ∃ (k23 : Nat),
  ∃ (k24 : Nat),
  cellAt w15 (Addr.add a7 (Int.toNat n1 * (1 : Nat))) (Value.slice q13 k23 k24) ∧
  ∃ (q14 : Option Addr),
  ∃ (k25 : Nat),
  ∃ (k26 : Nat),
  cellAt w15 (Addr.add { block := g, off := (0 : Nat) } (0 : Nat)) (Value.slice q14 k25 k26) ∧
  (0 : Int) ≤ n1 ∧
  n1 < (↑k25 : Int) ∧
  someR q14 fun (a8 : Addr) =>
  StoreR (Addr.add a8 (Int.toNat n1 * (1 : Nat))) [Value.slice none (0 : Nat) (0 : Nat)] w15 fun (w16 : World) =>
  ∃ (q15 : Option Addr),
  cellAt w16 (Addr.add { block := g, off := (0 : Nat) } (2 : Nat)) (Value.pointer q15) ∧
  Rets Try.prog (32 : Nat) { toList := [Value.pointer q15, Value.slice q13 k23 k24] } w16
  fun (v15 : Value) (w17 : World) =>
  ∃ (b1 : Bool),
  v15 = Value.bool b1 ∧
  (b1 = true → K (Value.int IntKind.i64 (1 : Int)) w17) ∧
  (b1 = false →
  ∃ (q16 : Option Addr),
  cellAt w17 (Addr.add { block := g, off := (0 : Nat) } (3 : Nat)) (Value.pointer q16) ∧
  Rets Try.prog (33 : Nat) { toList := [Value.pointer q16, Value.slice q13 k23 k24] } w17
  fun (v16 : Value) (w18 : World) => ∃ (b2 : Bool), v16 = Value.bool b2 ∧ K (Value.int IntKind.i64 (2 : Int)) w18)))
theorem stripe_Buffer_int_Push_eq (g : Nat) (i : Int) (x : Int) (w : World) (K : Value → World → Prop) : fw Try.prog Try.f13 (annL [(1, [(22, none), (23, none), (24, none), (25, none), (26, none), (27, none), (28, none), (29, none), (30, none), (31, none), (32, none)])]) (ordL [(5, [(0, 0), (1, 0), (2, 0), (4, 0), (5, 0), (6, 0), (7, 0), (3, 1), (8, 1), (9, 2), (10, 0), (11, 3)]), (6, [(0, 0), (1, 0), (2, 0), (4, 0), (5, 0), (6, 0), (7, 0), (9, 0), (12, 0), (3, 1), (8, 1), (10, 0), (11, 1), (13, 2), (14, 2), (15, 0), (16, 3)]), (7, [(0, 0), (1, 0), (2, 0), (4, 0), (8, 0), (9, 0), (10, 0), (3, 1), (5, 0), (6, 1), (7, 0), (11, 1), (12, 0)])]) [.pointer (some ⟨g, 0, none⟩), .int .i64 i, .int .i64 x] w K = stripe_Buffer_int_Push_m g i x w K := by kernel_rfl
theorem stripe_Buffer_int_Push_go (g : Nat) (i : Int) (x : Int) {w : World} {K : Value → World → Prop} (h : stripe_Buffer_int_Push_m g i x w K) : Rets Try.prog 13 #[.pointer (some ⟨g, 0, none⟩), .int .i64 i, .int .i64 x] w K :=
  calls_of_fw plain mixed Try.func13 (by kernel_rfl) (by rw [stripe_Buffer_int_Push_eq]; exact h)
def stripe_nil_int_Push_m (i : Int) (x : Int) (w : World) (K : Value → World → Prop) : Prop :=
  (true = true → K (Value.int IntKind.i64 (2 : Int)) w) ∧
  (true = false →
  Rets Try.prog (30 : Nat) { toList := [Value.pointer none, Value.int IntKind.i64 i] } w fun (v1 : Value) (w1 : World) =>
  ∃ (n1 : Int), v1 = Value.int IntKind.i64 n1 ∧ False)
theorem stripe_nil_int_Push_eq (i : Int) (x : Int) (w : World) (K : Value → World → Prop) : fw Try.prog Try.f13 (annL []) (ordL [(5, [(0, 0), (1, 0), (2, 0), (4, 0), (5, 0), (6, 0), (7, 0), (3, 1), (8, 1), (9, 2), (10, 0), (11, 3)]), (6, [(0, 0), (1, 0), (2, 0), (4, 0), (5, 0), (6, 0), (7, 0), (9, 0), (12, 0), (3, 1), (8, 1), (10, 0), (11, 1), (13, 2), (14, 2), (15, 0), (16, 3)]), (7, [(0, 0), (1, 0), (2, 0), (4, 0), (8, 0), (9, 0), (10, 0), (3, 1), (5, 0), (6, 1), (7, 0), (11, 1), (12, 0)])]) [.pointer none, .int .i64 i, .int .i64 x] w K = stripe_nil_int_Push_m i x w K := by kernel_rfl
theorem stripe_nil_int_Push_go (i : Int) (x : Int) {w : World} {K : Value → World → Prop} (h : stripe_nil_int_Push_m i x w K) : Rets Try.prog 13 #[.pointer none, .int .i64 i, .int .i64 x] w K :=
  calls_of_fw plain mixed Try.func13 (by kernel_rfl) (by rw [stripe_nil_int_Push_eq]; exact h)
def stripe_nil_int_Take_m  (w : World) (K : Value → World → Prop) : Prop :=
  (true = true → K (Value.tuple { toList := [Value.slice none (0 : Nat) (0 : Nat), Value.bool false] }) w) ∧
  (true = false → False)
theorem stripe_nil_int_Take_eq  (w : World) (K : Value → World → Prop) : fw Try.prog Try.f12 (annL []) (ordL []) [.pointer none] w K = stripe_nil_int_Take_m  w K := by kernel_rfl
theorem stripe_nil_int_Take_go  {w : World} {K : Value → World → Prop} (h : stripe_nil_int_Take_m  w K) : Rets Try.prog 12 #[.pointer none] w K :=
  calls_of_fw plain mixed Try.func12 (by kernel_rfl) (by rw [stripe_nil_int_Take_eq]; exact h)
def stripe_nil_int_Give_m (q : Option Addr) (l c : Nat) (w : World) (K : Value → World → Prop) : Prop :=
  (true = true → K (Value.bool false) w) ∧ (true = false → False)
theorem stripe_nil_int_Give_eq (q : Option Addr) (l c : Nat) (w : World) (K : Value → World → Prop) : fw Try.prog Try.f14 (annL []) (ordL []) [.pointer none, .slice q l c] w K = stripe_nil_int_Give_m q l c w K := by kernel_rfl
theorem stripe_nil_int_Give_go (q : Option Addr) (l c : Nat) {w : World} {K : Value → World → Prop} (h : stripe_nil_int_Give_m q l c w K) : Rets Try.prog 14 #[.pointer none, .slice q l c] w K :=
  calls_of_fw plain mixed Try.func14 (by kernel_rfl) (by rw [stripe_nil_int_Give_eq]; exact h)
def stripe_nil_int_Waiting_m  (w : World) (K : Value → World → Prop) : Prop :=
  (true = true → K (Value.int IntKind.i64 (0 : Int)) w) ∧ (true = false → False)
theorem stripe_nil_int_Waiting_eq  (w : World) (K : Value → World → Prop) : fw Try.prog Try.f15 (annL []) (ordL []) [.pointer none] w K = stripe_nil_int_Waiting_m  w K := by kernel_rfl
theorem stripe_nil_int_Waiting_go  {w : World} {K : Value → World → Prop} (h : stripe_nil_int_Waiting_m  w K) : Rets Try.prog 15 #[.pointer none] w K :=
  calls_of_fw plain mixed Try.func15 (by kernel_rfl) (by rw [stripe_nil_int_Waiting_eq]; exact h)
def stripe_nil_int_Loose_m (i : Int) (w : World) (K : Value → World → Prop) : Prop :=
  (true = true → K (Value.int IntKind.i64 (0 : Int)) w) ∧
  (true = false → Drw w fun (w1 : World) => ∃ (h1 : World → Prop), h1 w1 ∧ False)
theorem stripe_nil_int_Loose_eq (i : Int) (w : World) (K : Value → World → Prop) : fw Try.prog Try.f16 (annL []) (ordL [(3, [(0, 0), (1, 0), (2, 0), (4, 0), (5, 0), (3, 1), (6, 4), (7, 0), (8, 1), (9, 0), (10, 0)])]) [.pointer none, .int .i64 i] w K = stripe_nil_int_Loose_m i w K := by kernel_rfl
theorem stripe_nil_int_Loose_go (i : Int) {w : World} {K : Value → World → Prop} (h : stripe_nil_int_Loose_m i w K) : Rets Try.prog 16 #[.pointer none, .int .i64 i] w K :=
  calls_of_fw plain mixed Try.func16 (by kernel_rfl) (by rw [stripe_nil_int_Loose_eq]; exact h)
def stripe_nil_int_Lanes_m  (w : World) (K : Value → World → Prop) : Prop :=
  (true = true → K (Value.int IntKind.i64 (0 : Int)) w) ∧ (true = false → False)
theorem stripe_nil_int_Lanes_eq  (w : World) (K : Value → World → Prop) : fw Try.prog Try.f17 (annL []) (ordL []) [.pointer none] w K = stripe_nil_int_Lanes_m  w K := by kernel_rfl
theorem stripe_nil_int_Lanes_go  {w : World} {K : Value → World → Prop} (h : stripe_nil_int_Lanes_m  w K) : Rets Try.prog 17 #[.pointer none] w K :=
  calls_of_fw plain mixed Try.func17 (by kernel_rfl) (by rw [stripe_nil_int_Lanes_eq]; exact h)
def stripe_nil_int_Made_m  (w : World) (K : Value → World → Prop) : Prop :=
  (true = true → K (Value.int IntKind.i64 (0 : Int)) w) ∧ (true = false → False)
theorem stripe_nil_int_Made_eq  (w : World) (K : Value → World → Prop) : fw Try.prog Try.f18 (annL []) (ordL []) [.pointer none] w K = stripe_nil_int_Made_m  w K := by kernel_rfl
theorem stripe_nil_int_Made_go  {w : World} {K : Value → World → Prop} (h : stripe_nil_int_Made_m  w K) : Rets Try.prog 18 #[.pointer none] w K :=
  calls_of_fw plain mixed Try.func18 (by kernel_rfl) (by rw [stripe_nil_int_Made_eq]; exact h)
def stripe_New_string_m (lanes batch room : Int) (w : World) (K : Value → World → Prop) : Prop :=
  Drw w fun (w1 : World) =>
  (MakeR (22 : Nat) [Value.slice none (0 : Nat) (0 : Nat)] (24 : Nat) (maxI (1 : Int) (minI lanes (64 : Int)))
  (maxI (1 : Int) (minI lanes (64 : Int))) w1 fun (a1 : Addr) (w2 : World) =>
  Rets Try.prog (20 : Nat) { toList := [Value.int IntKind.i64 (maxI (0 : Int) (minI room (1024 : Int)))] } w2
  fun (v1 : Value) (w3 : World) =>
  ∃ (q1 : Option Addr),
  v1 = Value.pointer q1 ∧
  Rets Try.prog (21 : Nat)
  {
  toList :=
  [Value.int IntKind.i64 (maxI (1 : Int) (minI batch (16 : Int))),
  Value.int IntKind.i64
  (IntKind.wrap IntKind.i64 (maxI (1 : Int) (minI lanes (64 : Int)) + maxI (0 : Int) (minI room (1024 : Int))))] }
  w3 fun (v2 : Value) (w4 : World) =>
  ∃ (q2 : Option Addr),
  v2 = Value.pointer q2 ∧
  NewR (46 : Nat)
  [Value.slice (some a1) (Int.toNat (maxI (1 : Int) (minI lanes (64 : Int))))
  (Int.toNat (maxI (1 : Int) (minI lanes (64 : Int)))),
  Value.int IntKind.i64 (maxI (1 : Int) (minI batch (16 : Int))), Value.pointer q1, Value.pointer q2]
  w4 fun (a2 : Addr) (w5 : World) => K (Value.pointer (some a2)) w5) ∧
  Rets Try.prog (20 : Nat) { toList := [Value.int IntKind.i64 (maxI (0 : Int) (minI room (1024 : Int)))] } w1
  fun (v3 : Value) (w6 : World) =>
  ∃ (q3 : Option Addr),
  v3 = Value.pointer q3 ∧
  (MakeR (22 : Nat) [Value.slice none (0 : Nat) (0 : Nat)] (24 : Nat) (maxI (1 : Int) (minI lanes (64 : Int)))
  (maxI (1 : Int) (minI lanes (64 : Int))) w6 fun (a3 : Addr) (w7 : World) =>
  Rets Try.prog (21 : Nat)
  {
  toList :=
  [Value.int IntKind.i64 (maxI (1 : Int) (minI batch (16 : Int))),
  Value.int IntKind.i64
  (IntKind.wrap IntKind.i64 (maxI (1 : Int) (minI lanes (64 : Int)) + maxI (0 : Int) (minI room (1024 : Int))))] }
  w7 fun (v4 : Value) (w8 : World) =>
  ∃ (q4 : Option Addr),
  v4 = Value.pointer q4 ∧
  NewR (46 : Nat)
  [Value.slice (some a3) (Int.toNat (maxI (1 : Int) (minI lanes (64 : Int))))
  (Int.toNat (maxI (1 : Int) (minI lanes (64 : Int)))),
  Value.int IntKind.i64 (maxI (1 : Int) (minI batch (16 : Int))), Value.pointer q3, Value.pointer q4]
  w8 fun (a4 : Addr) (w9 : World) => K (Value.pointer (some a4)) w9) ∧
  Rets Try.prog (21 : Nat)
  {
  toList :=
  [Value.int IntKind.i64 (maxI (1 : Int) (minI batch (16 : Int))),
  Value.int IntKind.i64
  (IntKind.wrap IntKind.i64 (maxI (1 : Int) (minI lanes (64 : Int)) + maxI (0 : Int) (minI room (1024 : Int))))] }
  w6 fun (v5 : Value) (w10 : World) =>
  ∃ (q5 : Option Addr),
  v5 = Value.pointer q5 ∧
  MakeR (22 : Nat) [Value.slice none (0 : Nat) (0 : Nat)] (24 : Nat) (maxI (1 : Int) (minI lanes (64 : Int)))
  (maxI (1 : Int) (minI lanes (64 : Int))) w10 fun (a5 : Addr) (w11 : World) =>
  NewR (46 : Nat)
  [Value.slice (some a5) (Int.toNat (maxI (1 : Int) (minI lanes (64 : Int))))
  (Int.toNat (maxI (1 : Int) (minI lanes (64 : Int)))),
  Value.int IntKind.i64 (maxI (1 : Int) (minI batch (16 : Int))), Value.pointer q3, Value.pointer q5]
  w11 fun (a6 : Addr) (w12 : World) => K (Value.pointer (some a6)) w12
theorem stripe_New_string_eq (lanes batch room : Int) (w : World) (K : Value → World → Prop) : fw Try.prog Try.f5 (annL []) (ordL [(4, [(0, 0), (2, 0), (3, 0), (5, 0), (6, 0), (7, 0), (8, 0), (0, 6), (1, 3), (4, 3), (9, 3), (10, 0), (11, 3), (12, 0), (0, 7), (4, 3), (0, 6), (1, 3), (9, 3), (10, 0), (11, 3), (12, 0), (0, 7), (9, 3), (1, 3), (10, 0), (11, 3), (12, 0), (0, 7)])]) [.int .i64 lanes, .int .i64 batch, .int .i64 room] w K = stripe_New_string_m lanes batch room w K := by kernel_rfl
theorem stripe_New_string_go (lanes batch room : Int) {w : World} {K : Value → World → Prop} (h : stripe_New_string_m lanes batch room w K) : Rets Try.prog 5 #[.int .i64 lanes, .int .i64 batch, .int .i64 room] w K :=
  calls_of_fw plain mixed Try.func5 (by kernel_rfl) (by rw [stripe_New_string_eq]; exact h)
def stripe_Buffer_string_lane_m (g : Nat) (i : Int) (w : World) (K : Value → World → Prop) : Prop :=
  ∃ (q1 : Option Addr),
  ∃ (k1 : Nat),
  ∃ (k2 : Nat),
  cellAt w (Addr.add { block := g, off := (0 : Nat) } (0 : Nat)) (Value.slice q1 k1 k2) ∧
  (↑k1 : Int) ≠ (0 : Int) ∧ K (Value.int IntKind.i64 (Int.tmod (maxI i (0 : Int)) (↑k1 : Int))) w
theorem stripe_Buffer_string_lane_eq (g : Nat) (i : Int) (w : World) (K : Value → World → Prop) : fw Try.prog Try.f22 (annL []) (ordL []) [.pointer (some ⟨g, 0, none⟩), .int .i64 i] w K = stripe_Buffer_string_lane_m g i w K := by kernel_rfl
theorem stripe_Buffer_string_lane_go (g : Nat) (i : Int) {w : World} {K : Value → World → Prop} (h : stripe_Buffer_string_lane_m g i w K) : Rets Try.prog 22 #[.pointer (some ⟨g, 0, none⟩), .int .i64 i] w K :=
  calls_of_fw plain mixed Try.func22 (by kernel_rfl) (by rw [stripe_Buffer_string_lane_eq]; exact h)
def stripe_Buffer_string_Push_m (g : Nat) (i : Int) (x : ByteArray) (w : World) (K : Value → World → Prop) : Prop :=
  (false = true → K (Value.int IntKind.i64 (2 : Int)) w) ∧
  (false = false →
  Rets Try.prog (22 : Nat) { toList := [Value.pointer (some { block := g, off := (0 : Nat) }), Value.int IntKind.i64 i] }
  w fun (v1 : Value) (w1 : World) =>
  ∃ (n1 : Int),
  v1 = Value.int IntKind.i64 n1 ∧
  ∃ (q1 : Option Addr),
  ∃ (k1 : Nat),
  ∃ (k2 : Nat),
  cellAt w1 (Addr.add { block := g, off := (0 : Nat) } (0 : Nat)) (Value.slice q1 k1 k2) ∧
  (0 : Int) ≤ n1 ∧
  n1 < (↑k1 : Int) ∧
  someR q1 fun (a1 : Addr) =>
  ∃ (q2 : Option Addr),
  ∃ (k3 : Nat),
  ∃ (k4 : Nat),
  cellAt w1 (Addr.add a1 (Int.toNat n1 * (1 : Nat))) (Value.slice q2 k3 k4) ∧
  ∃ (h1 : List Value → World → Prop),
  ((Option.isNone q2 = true →
  Drw w1 fun (w2 : World) =>
  ∃ (h2 : World → Prop),
  h2 w2 ∧
  ∃ (q3 : Option Addr),
  ∃ (k5 : Nat),
  ∃ (k6 : Nat),
  (∀ (w3 : World),
  h2 w3 → World.cell? w3 (Addr.add { block := g, off := (0 : Nat) } (0 : Nat)) = some (Value.slice q3 k5 k6)) ∧
  ∃ (q4 : Option Addr),
  (∀ (w4 : World),
  h2 w4 → World.cell? w4 (Addr.add { block := g, off := (0 : Nat) } (3 : Nat)) = some (Value.pointer q4)) ∧
  Rets Try.prog (23 : Nat) { toList := [Value.pointer q4] } w2 fun (v2 : Value) (w5 : World) =>
  ∃ (q5 : Option Addr),
  ∃ (k7 : Nat),
  ∃ (k8 : Nat),
  v2 = Value.slice q5 k7 k8 ∧
  h2 w5 ∧
  (0 : Int) ≤ n1 ∧
  n1 < (↑k5 : Int) ∧
  someR q3 fun (a2 : Addr) =>
  StoreR (Addr.add a2 (Int.toNat n1 * (1 : Nat))) [Value.slice q5 k7 k8] w5 fun (w6 : World) => h1 [] w6) ∧
  (Option.isNone q2 = false → h1 [] w1)) ∧
  ∀ (w7 : World) (v3 v4 v5 v6 v7 v8 v9 v10 v11 v12 v13 : Value),
  h1 [] w7 →
  Drw w7 fun (w8 : World) =>
  ∃ (h3 : World → Prop),
  h3 w8 ∧
  ∃ (q6 : Option Addr),
  ∃ (k9 : Nat),
  ∃ (k10 : Nat),
  (∀ (w9 : World),
  h3 w9 → World.cell? w9 (Addr.add { block := g, off := (0 : Nat) } (0 : Nat)) = some (Value.slice q6 k9 k10)) ∧
  ∃ (q7 : Option Addr),
  ∃ (k11 : Nat),
  ∃ (k12 : Nat),
  (∀ (w10 : World),
  h3 w10 → World.cell? w10 (Addr.add { block := g, off := (0 : Nat) } (0 : Nat)) = some (Value.slice q7 k11 k12)) ∧
  (0 : Int) ≤ n1 ∧
  n1 < (↑k11 : Int) ∧
  someR q7 fun (a3 : Addr) =>
  ∃ (q8 : Option Addr),
  ∃ (k13 : Nat),
  ∃ (k14 : Nat),
  (∀ (w11 : World), h3 w11 → World.cell? w11 (Addr.add a3 (Int.toNat n1 * (1 : Nat))) = some (Value.slice q8 k13 k14)) ∧
  NewR (9 : Nat) [Value.string x] w8 fun (a4 : Addr) (w12 : World) =>
  h3 w12 ∧
  RunR Try.prog
  (builtinV Builtin.append { toList := [(22 : Nat), (22 : Nat)] } (nat_lit 22)
  { toList := [Value.slice q8 k13 k14, Value.slice (some a4) (1 : Nat) (1 : Nat)] })
  w12 fun (v14 : Value) (w13 : World) =>
  ∃ (q9 : Option Addr),
  ∃ (k15 : Nat),
  ∃ (k16 : Nat),
  v14 = Value.slice q9 k15 k16 ∧
  h3 w13 ∧
  (0 : Int) ≤ n1 ∧
  n1 < (↑k9 : Int) ∧
  someR q6 fun (a5 : Addr) =>
  StoreR (Addr.add a5 (Int.toNat n1 * (1 : Nat))) [Value.slice q9 k15 k16] w13 fun (w14 : World) =>
  Drw w14 fun (w15 : World) =>
  ∃ (q10 : Option Addr),
  ∃ (k17 : Nat),
  ∃ (k18 : Nat),
  cellAt w15 (Addr.add { block := g, off := (0 : Nat) } (0 : Nat)) (Value.slice q10 k17 k18) ∧
  (0 : Int) ≤ n1 ∧
  n1 < (↑k17 : Int) ∧
  someR q10 fun (a6 : Addr) =>
  ∃ (q11 : Option Addr),
  ∃ (k19 : Nat),
  ∃ (k20 : Nat),
  cellAt w15 (Addr.add a6 (Int.toNat n1 * (1 : Nat))) (Value.slice q11 k19 k20) ∧
  ∃ (n2 : Int),
  cellAt w15 (Addr.add { block := g, off := (0 : Nat) } (1 : Nat)) (Value.int IntKind.i64 n2) ∧
  (decide ((↑k19 : Int) < n2) = true → K (Value.int IntKind.i64 (0 : Int)) w15) ∧
  (decide ((↑k19 : Int) < n2) = false →
  ∃ (q12 : Option Addr),
  ∃ (k21 : Nat),
  ∃ (k22 : Nat),
  cellAt w15 (Addr.add { block := g, off := (0 : Nat) } (0 : Nat)) (Value.slice q12 k21 k22) ∧
  (0 : Int) ≤ n1 ∧
  n1 < (↑k21 : Int) ∧
  someR q12 fun (a7 : Addr) =>
  ∃ (q13 : Option Addr),
  ∃ (k23 : Nat),
  ∃ (k24 : Nat),
  cellAt w15 (Addr.add a7 (Int.toNat n1 * (1 : Nat))) (Value.slice q13 k23 k24) ∧
  ∃ (q14 : Option Addr),
  ∃ (k25 : Nat),
  ∃ (k26 : Nat),
  cellAt w15 (Addr.add { block := g, off := (0 : Nat) } (0 : Nat)) (Value.slice q14 k25 k26) ∧
  (0 : Int) ≤ n1 ∧
  n1 < (↑k25 : Int) ∧
  someR q14 fun (a8 : Addr) =>
  StoreR (Addr.add a8 (Int.toNat n1 * (1 : Nat))) [Value.slice none (0 : Nat) (0 : Nat)] w15 fun (w16 : World) =>
  ∃ (q15 : Option Addr),
  cellAt w16 (Addr.add { block := g, off := (0 : Nat) } (2 : Nat)) (Value.pointer q15) ∧
  Rets Try.prog (24 : Nat) { toList := [Value.pointer q15, Value.slice q13 k23 k24] } w16
  fun (v15 : Value) (w17 : World) =>
  ∃ (b1 : Bool),
  v15 = Value.bool b1 ∧
  (b1 = true → K (Value.int IntKind.i64 (1 : Int)) w17) ∧
  (b1 = false →
  ∃ (q16 : Option Addr),
  cellAt w17 (Addr.add { block := g, off := (0 : Nat) } (3 : Nat)) (Value.pointer q16) ∧
  Rets Try.prog (25 : Nat) { toList := [Value.pointer q16, Value.slice q13 k23 k24] } w17
  fun (v16 : Value) (w18 : World) => ∃ (b2 : Bool), v16 = Value.bool b2 ∧ K (Value.int IntKind.i64 (2 : Int)) w18)))
theorem stripe_Buffer_string_Push_eq (g : Nat) (i : Int) (x : ByteArray) (w : World) (K : Value → World → Prop) : fw Try.prog Try.f6 (annL [(1, [(22, none), (23, none), (24, none), (25, none), (26, none), (27, none), (28, none), (29, none), (30, none), (31, none), (32, none)])]) (ordL [(5, [(0, 0), (1, 0), (2, 0), (4, 0), (5, 0), (6, 0), (7, 0), (3, 1), (8, 1), (9, 2), (10, 0), (11, 3)]), (6, [(0, 0), (1, 0), (2, 0), (4, 0), (5, 0), (6, 0), (7, 0), (9, 0), (12, 0), (3, 1), (8, 1), (10, 0), (11, 1), (13, 2), (14, 2), (15, 0), (16, 3)]), (7, [(0, 0), (1, 0), (2, 0), (4, 0), (8, 0), (9, 0), (10, 0), (3, 1), (5, 0), (6, 1), (7, 0), (11, 1), (12, 0)])]) [.pointer (some ⟨g, 0, none⟩), .int .i64 i, .string x] w K = stripe_Buffer_string_Push_m g i x w K := by kernel_rfl
theorem stripe_Buffer_string_Push_go (g : Nat) (i : Int) (x : ByteArray) {w : World} {K : Value → World → Prop} (h : stripe_Buffer_string_Push_m g i x w K) : Rets Try.prog 6 #[.pointer (some ⟨g, 0, none⟩), .int .i64 i, .string x] w K :=
  calls_of_fw plain mixed Try.func6 (by kernel_rfl) (by rw [stripe_Buffer_string_Push_eq]; exact h)
def stripe_Buffer_string_Take_m (g : Nat) (w : World) (K : Value → World → Prop) : Prop :=
  (false = true → K (Value.tuple { toList := [Value.slice none (0 : Nat) (0 : Nat), Value.bool false] }) w) ∧
  (false = false →
  ∃ (q1 : Option Addr),
  cellAt w (Addr.add { block := g, off := (0 : Nat) } (2 : Nat)) (Value.pointer q1) ∧
  Rets Try.prog (27 : Nat) { toList := [Value.pointer q1] } w fun (v1 : Value) (w1 : World) =>
  ∃ (q2 : Option Addr),
  ∃ (k1 : Nat),
  ∃ (k2 : Nat),
  ∃ (b1 : Bool),
  v1 = Value.tuple { toList := [Value.slice q2 k1 k2, Value.bool b1] } ∧
  K (Value.tuple { toList := [Value.slice q2 k1 k2, Value.bool b1] }) w1)
theorem stripe_Buffer_string_Take_eq (g : Nat) (w : World) (K : Value → World → Prop) : fw Try.prog Try.f9 (annL []) (ordL []) [.pointer (some ⟨g, 0, none⟩)] w K = stripe_Buffer_string_Take_m g w K := by kernel_rfl
theorem stripe_Buffer_string_Take_go (g : Nat) {w : World} {K : Value → World → Prop} (h : stripe_Buffer_string_Take_m g w K) : Rets Try.prog 9 #[.pointer (some ⟨g, 0, none⟩)] w K :=
  calls_of_fw plain mixed Try.func9 (by kernel_rfl) (by rw [stripe_Buffer_string_Take_eq]; exact h)
def stripe_Buffer_string_Give_m (g : Nat) (q : Option Addr) (l c : Nat) (w : World) (K : Value → World → Prop) : Prop :=
  (false = true → K (Value.bool false) w) ∧
  (false = false →
  ∃ (q1 : Option Addr),
  cellAt w (Addr.add { block := g, off := (0 : Nat) } (3 : Nat)) (Value.pointer q1) ∧
  Rets Try.prog (25 : Nat) { toList := [Value.pointer q1, Value.slice q l c] } w fun (v1 : Value) (w1 : World) =>
  ∃ (b1 : Bool), v1 = Value.bool b1 ∧ K (Value.bool b1) w1)
theorem stripe_Buffer_string_Give_eq (g : Nat) (q : Option Addr) (l c : Nat) (w : World) (K : Value → World → Prop) : fw Try.prog Try.f10 (annL []) (ordL []) [.pointer (some ⟨g, 0, none⟩), .slice q l c] w K = stripe_Buffer_string_Give_m g q l c w K := by kernel_rfl
theorem stripe_Buffer_string_Give_go (g : Nat) (q : Option Addr) (l c : Nat) {w : World} {K : Value → World → Prop} (h : stripe_Buffer_string_Give_m g q l c w K) : Rets Try.prog 10 #[.pointer (some ⟨g, 0, none⟩), .slice q l c] w K :=
  calls_of_fw plain mixed Try.func10 (by kernel_rfl) (by rw [stripe_Buffer_string_Give_eq]; exact h)
def stripe_Buffer_string_Waiting_m (g : Nat) (w : World) (K : Value → World → Prop) : Prop :=
  (false = true → K (Value.int IntKind.i64 (0 : Int)) w) ∧
  (false = false →
  ∃ (q1 : Option Addr),
  cellAt w (Addr.add { block := g, off := (0 : Nat) } (2 : Nat)) (Value.pointer q1) ∧
  Rets Try.prog (26 : Nat) { toList := [Value.pointer q1] } w fun (v1 : Value) (w1 : World) =>
  ∃ (n1 : Int), v1 = Value.int IntKind.i64 n1 ∧ K (Value.int IntKind.i64 n1) w1)
theorem stripe_Buffer_string_Waiting_eq (g : Nat) (w : World) (K : Value → World → Prop) : fw Try.prog Try.f7 (annL []) (ordL []) [.pointer (some ⟨g, 0, none⟩)] w K = stripe_Buffer_string_Waiting_m g w K := by kernel_rfl
theorem stripe_Buffer_string_Waiting_go (g : Nat) {w : World} {K : Value → World → Prop} (h : stripe_Buffer_string_Waiting_m g w K) : Rets Try.prog 7 #[.pointer (some ⟨g, 0, none⟩)] w K :=
  calls_of_fw plain mixed Try.func7 (by kernel_rfl) (by rw [stripe_Buffer_string_Waiting_eq]; exact h)
def stripe_Buffer_string_Loose_m (g : Nat) (i : Int) (w : World) (K : Value → World → Prop) : Prop :=
  (false = true → K (Value.int IntKind.i64 (0 : Int)) w) ∧
  (false = false →
  Drw w fun (w1 : World) =>
  ∃ (h1 : World → Prop),
  h1 w1 ∧
  ∃ (q1 : Option Addr),
  ∃ (k1 : Nat),
  ∃ (k2 : Nat),
  (∀ (w2 : World),
  h1 w2 → World.cell? w2 (Addr.add { block := g, off := (0 : Nat) } (0 : Nat)) = some (Value.slice q1 k1 k2)) ∧
  Rets Try.prog (22 : Nat) { toList := [Value.pointer (some { block := g, off := (0 : Nat) }), Value.int IntKind.i64 i] }
  w1 fun (v1 : Value) (w3 : World) =>
  ∃ (n1 : Int),
  v1 = Value.int IntKind.i64 n1 ∧
  ∃ (h2 : World → Prop),
  (∀ (w4 : World), h2 w4 → h1 w4) ∧
  h2 w3 ∧
  (0 : Int) ≤ n1 ∧
  n1 < (↑k1 : Int) ∧
  someR q1 fun (a1 : Addr) =>
  ∃ (q2 : Option Addr),
  ∃ (k3 : Nat),
  ∃ (k4 : Nat),
  (∀ (w5 : World), h2 w5 → World.cell? w5 (Addr.add a1 (Int.toNat n1 * (1 : Nat))) = some (Value.slice q2 k3 k4)) ∧
  K (Value.int IntKind.i64 (↑k3 : Int)) w3)
theorem stripe_Buffer_string_Loose_eq (g : Nat) (i : Int) (w : World) (K : Value → World → Prop) : fw Try.prog Try.f8 (annL []) (ordL [(3, [(0, 0), (1, 0), (2, 0), (4, 0), (5, 0), (3, 1), (6, 4), (7, 0), (8, 1), (9, 0), (10, 0)])]) [.pointer (some ⟨g, 0, none⟩), .int .i64 i] w K = stripe_Buffer_string_Loose_m g i w K := by kernel_rfl
theorem stripe_Buffer_string_Loose_go (g : Nat) (i : Int) {w : World} {K : Value → World → Prop} (h : stripe_Buffer_string_Loose_m g i w K) : Rets Try.prog 8 #[.pointer (some ⟨g, 0, none⟩), .int .i64 i] w K :=
  calls_of_fw plain mixed Try.func8 (by kernel_rfl) (by rw [stripe_Buffer_string_Loose_eq]; exact h)
def stripe_Buffer_string_Made_m (g : Nat) (w : World) (K : Value → World → Prop) : Prop :=
  (false = true → K (Value.int IntKind.i64 (0 : Int)) w) ∧
  (false = false →
  ∃ (q1 : Option Addr),
  cellAt w (Addr.add { block := g, off := (0 : Nat) } (3 : Nat)) (Value.pointer q1) ∧
  Rets Try.prog (28 : Nat) { toList := [Value.pointer q1] } w fun (v1 : Value) (w1 : World) =>
  ∃ (n1 : Int), v1 = Value.int IntKind.i64 n1 ∧ K (Value.int IntKind.i64 n1) w1)
theorem stripe_Buffer_string_Made_eq (g : Nat) (w : World) (K : Value → World → Prop) : fw Try.prog Try.f11 (annL []) (ordL []) [.pointer (some ⟨g, 0, none⟩)] w K = stripe_Buffer_string_Made_m g w K := by kernel_rfl
theorem stripe_Buffer_string_Made_go (g : Nat) {w : World} {K : Value → World → Prop} (h : stripe_Buffer_string_Made_m g w K) : Rets Try.prog 11 #[.pointer (some ⟨g, 0, none⟩)] w K :=
  calls_of_fw plain mixed Try.func11 (by kernel_rfl) (by rw [stripe_Buffer_string_Made_eq]; exact h)
end Go.Proofs.Ytppkeemdbhmkgaa.Eng
