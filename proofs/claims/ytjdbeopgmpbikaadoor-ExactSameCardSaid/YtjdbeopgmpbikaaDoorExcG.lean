/- What the code of these functions asks for: printed by a program of this session's (gens.py) out of the seat's own functions; the kernel checks each row. -/
import Derived.Test.YtjdbeopgmpbikaaDoorEngH
import Derived.Test.YtjdbeopgmpbikaaDoorProg
import Derived.Test.YtjdbeopgmpbikaaDoorBase
namespace Go.Proofs.YtjdbeopgmpbikaaDoor.Eng
open Go Go.Proofs
set_option linter.unusedVariables false
set_option maxRecDepth 1000000
def rank_Tree_int_int_All_m (q : Option Addr) (w : World) (K : Value → World → Prop) : Prop :=
  NewR (53 : Nat) [Value.pointer q] w fun (a1 : Addr) (w1 : World) =>
  K (Value.func (Fn.func (68 : Nat)) { toList := [] } { toList := [Value.pointer (some a1)] }) w1
theorem rank_Tree_int_int_All_eq (q : Option Addr) (w : World) (K : Value → World → Prop) : fw Tryd.prog Tryd.f50 (annL []) (ordL []) [.pointer q] w K = rank_Tree_int_int_All_m q w K := by kernel_rfl
theorem rank_Tree_int_int_All_go (q : Option Addr) {w : World} {K : Value → World → Prop} (h : rank_Tree_int_int_All_m q w K) : Rets Tryd.prog 50 #[.pointer q] w K :=
  calls_of_fw plain mixed Tryd.func50 (by kernel_rfl) (by rw [rank_Tree_int_int_All_eq]; exact h)
def rank_Tree_int_int_All_1_m (l b : Nat) (w : World) (K : Value → World → Prop) : Prop :=
  ∃ (q1 : Option Addr),
  cellAt w { block := b, off := (0 : Nat) } (Value.pointer q1) ∧
  ((!Option.isNone q1) = true →
  ∃ (q2 : Option Addr),
  cellAt w { block := b, off := (0 : Nat) } (Value.pointer q2) ∧
  someR q2 fun (a1 : Addr) =>
  ∃ (q3 : Option Addr),
  cellAt w (Addr.add a1 (1 : Nat)) (Value.pointer q3) ∧
  Rets Tryd.prog (69 : Nat)
  {
  toList :=
  [Value.pointer q3, Value.func (Fn.func (70 : Nat)) { toList := [] } { toList := [] },
  Value.func (Fn.yield l) { toList := [] } { toList := [] }] }
  w fun (v1 : Value) (w1 : World) => ∃ (b1 : Bool), v1 = Value.bool b1 ∧ K (Value.tuple { toList := [] }) w1) ∧
  ((!Option.isNone q1) = false → K (Value.tuple { toList := [] }) w)
theorem rank_Tree_int_int_All_1_eq (l b : Nat) (w : World) (K : Value → World → Prop) : fw Tryd.prog Tryd.f68 (annL []) (ordL []) [.func (.yield l) #[] #[], .pointer (some ⟨b, 0, none⟩)] w K = rank_Tree_int_int_All_1_m l b w K := by kernel_rfl
theorem rank_Tree_int_int_All_1_go (l b : Nat) {w : World} {K : Value → World → Prop} (h : rank_Tree_int_int_All_1_m l b w K) : Rets Tryd.prog 68 #[.func (.yield l) #[] #[], .pointer (some ⟨b, 0, none⟩)] w K :=
  calls_of_fw plain mixed Tryd.func68 (by kernel_rfl) (by rw [rank_Tree_int_int_All_1_eq]; exact h)
def rank_Tree_int_int_All_1_1_m (x : Int) (w : World) (K : Value → World → Prop) : Prop :=
  K (Value.bool true) w
theorem rank_Tree_int_int_All_1_1_eq (x : Int) (w : World) (K : Value → World → Prop) : fw Tryd.prog Tryd.f70 (annL []) (ordL []) [.int .u64 x] w K = rank_Tree_int_int_All_1_1_m x w K := by kernel_rfl
theorem rank_Tree_int_int_All_1_1_go (x : Int) {w : World} {K : Value → World → Prop} (h : rank_Tree_int_int_All_1_1_m x w K) : Rets Tryd.prog 70 #[.int .u64 x] w K :=
  calls_of_fw plain mixed Tryd.func70 (by kernel_rfl) (by rw [rank_Tree_int_int_All_1_1_eq]; exact h)
def walk_all_m (p : Option Addr) (l : Nat) (w : World) (K : Value → World → Prop) : Prop :=
  (Option.isNone p = true → K (Value.bool true) w) ∧
  (Option.isNone p = false →
  someR p fun (a1 : Addr) =>
  ∃ (n1 : Int),
  cellAt w (Addr.add a1 (0 : Nat)) (Value.int IntKind.u64 n1) ∧
  Rets Tryd.prog (70 : Nat) { toList := [Value.int IntKind.u64 n1] } w fun (v1 : Value) (w1 : World) =>
  ∃ (b1 : Bool),
  v1 = Value.bool b1 ∧
  ((!b1) = true →
  someR p fun (a2 : Addr) =>
  ∃ (q1 : Option Addr),
  cellAt w1 (Addr.add a2 (4 : Nat)) (Value.pointer q1) ∧
  Rets Tryd.prog (69 : Nat)
  {
  toList :=
  [Value.pointer q1, Value.func (Fn.func (70 : Nat)) { toList := [] } { toList := [] },
  Value.func (Fn.yield l) { toList := [] } { toList := [] }] }
  w1 fun (v2 : Value) (w2 : World) => ∃ (b2 : Bool), v2 = Value.bool b2 ∧ K (Value.bool b2) w2) ∧
  ((!b1) = false →
  Drw w1 fun (w3 : World) =>
  ∃ (h1 : World → Prop),
  h1 w3 ∧
  someR p fun (a3 : Addr) =>
  ∃ (q2 : Option Addr),
  (∀ (w4 : World), h1 w4 → World.cell? w4 (Addr.add a3 (3 : Nat)) = some (Value.pointer q2)) ∧
  Rets Tryd.prog (69 : Nat)
  {
  toList :=
  [Value.pointer q2, Value.func (Fn.func (70 : Nat)) { toList := [] } { toList := [] },
  Value.func (Fn.yield l) { toList := [] } { toList := [] }] }
  w3 fun (v3 : Value) (w5 : World) =>
  ∃ (b3 : Bool),
  v3 = Value.bool b3 ∧
  h1 w5 ∧
  (b3 = true →
  someR p fun (a4 : Addr) =>
  someR p fun (a5 : Addr) =>
  ∃ (n2 : Int),
  (∀ (w6 : World), h1 w6 → World.cell? w6 (Addr.add a4 (0 : Nat)) = some (Value.int IntKind.u64 n2)) ∧
  ∃ (b4 : Bool),
  ∃ (n3 : Int),
  ((∀ (w7 : World), h1 w7 → World.cell? w7 (Addr.add (Addr.add a5 (1 : Nat)) (0 : Nat)) = some (Value.bool b4)) ∧
  ∀ (w8 : World),
  h1 w8 → World.cell? w8 (Addr.add (Addr.add a5 (1 : Nat)) ((0 : Nat) + (1 : Nat))) = some (Value.int IntKind.i64 n3)) ∧
  RoundR Tryd.prog l
  { toList := [Value.int IntKind.u64 n2, Value.agg { toList := [Value.bool b4, Value.int IntKind.i64 n3] }] } w5
  fun (v4 : Value) (w9 : World) =>
  ∃ (b5 : Bool),
  v4 = Value.bool b5 ∧
  h1 w9 ∧
  (b5 = true →
  someR p fun (a6 : Addr) =>
  ∃ (q3 : Option Addr),
  (∀ (w10 : World), h1 w10 → World.cell? w10 (Addr.add a6 (4 : Nat)) = some (Value.pointer q3)) ∧
  Rets Tryd.prog (69 : Nat)
  {
  toList :=
  [Value.pointer q3, Value.func (Fn.func (70 : Nat)) { toList := [] } { toList := [] },
  Value.func (Fn.yield l) { toList := [] } { toList := [] }] }
  w9 fun (v5 : Value) (w11 : World) => ∃ (b6 : Bool), v5 = Value.bool b6 ∧ K (Value.bool b6) w11) ∧
  (b5 = false → K (Value.bool false) w9)) ∧
  (b3 = false → K (Value.bool false) w5)))
theorem walk_all_eq (p : Option Addr) (l : Nat) (w : World) (K : Value → World → Prop) : fw Tryd.prog Tryd.f69 (annL []) (ordL [(5, [(0, 0), (1, 0), (2, 0), (4, 0), (5, 0), (3, 1), (6, 2), (7, 0), (8, 0), (9, 0), (10, 0), (11, 0), (13, 0), (14, 0), (15, 0), (12, 1), (16, 1), (17, 2), (18, 0), (19, 0), (20, 0), (21, 0), (22, 0), (24, 0), (25, 0), (23, 1), (26, 3), (27, 0), (28, 0)])]) [.pointer p, .func (.func 70) #[] #[], .func (.yield l) #[] #[]] w K = walk_all_m p l w K := by kernel_rfl
theorem walk_all_go (p : Option Addr) (l : Nat) {w : World} {K : Value → World → Prop} (h : walk_all_m p l w K) : Rets Tryd.prog 69 #[.pointer p, .func (.func 70) #[] #[], .func (.yield l) #[] #[]] w K :=
  calls_of_fw plain mixed Tryd.func69 (by kernel_rfl) (by rw [walk_all_eq]; exact h)
def exact_Exact_age_m (g : Nat) (w : World) (K : Value → World → Prop) : Prop :=
  Rets Tryd.prog (21 : Nat) { toList := [] } w fun (v1 : Value) (w1 : World) =>
  ∃ (q1 : Option Addr),
  v1 = Value.pointer q1 ∧
  NewR (53 : Nat) [Value.pointer none] w1 fun (a1 : Addr) (w2 : World) =>
  StoreR a1 [Value.pointer q1] w2 fun (w3 : World) =>
  ∃ (q2 : Option Addr),
  cellAt w3 (Addr.add { block := g, off := (0 : Nat) } (0 : Nat)) (Value.pointer q2) ∧
  Rets Tryd.prog (50 : Nat) { toList := [Value.pointer q2] } w3 fun (v2 : Value) (w4 : World) =>
  ∃ (k1 : Nat),
  ∃ (a2 : Array Value),
  ∃ (c1 : Array Value),
  v2 = Value.func (Fn.func k1) a2 c1 ∧
  ∃ (v3 : Value),
  Value.func (Fn.func k1) a2 c1 = Value.func (Fn.func (68 : Nat)) { toList := [] } { toList := [v3] } ∧
  LoopR w4 fun (k2 k3 : Nat) (L1 : Loop) (w5 : World) =>
  (∀ (n1 : Int) (b1 : Bool) (n2 : Int) (w6 : World) (h1 : Value → World → Prop),
  RecR k3 L1 w6 →
  (NewR (60 : Nat) [Value.bool false, Value.int IntKind.i64 (0 : Int)] w6 fun (a3 : Addr) (w7 : World) =>
  StoreR a3 [Value.bool b1, Value.int IntKind.i64 n2] w7 fun (w8 : World) =>
  BegR k3 L1 w8 fun (w9 : World) =>
  ∃ (n3 : Int),
  cellAt w9 (Addr.add a3 (1 : Nat)) (Value.int IntKind.i64 n3) ∧
  (2 : Int) ≠ (0 : Int) ∧
  (decide (IntKind.wrap IntKind.i64 (Int.tdiv n3 (2 : Int)) > (0 : Int)) = true →
  ∃ (q3 : Option Addr),
  cellAt w9 a1 (Value.pointer q3) ∧
  ∃ (n4 : Int),
  cellAt w9 (Addr.add a3 (1 : Nat)) (Value.int IntKind.i64 n4) ∧
  (2 : Int) ≠ (0 : Int) ∧
  Rets Tryd.prog (27 : Nat)
  {
  toList :=
  [Value.pointer q3, Value.int IntKind.u64 n1,
  Value.agg { toList := [Value.bool false, Value.int IntKind.i64 (IntKind.wrap IntKind.i64 (Int.tdiv n4 (2 : Int)))] }] }
  w9 fun (v4 : Value) (w10 : World) =>
  ∃ (q4 : Option Addr),
  v4 = Value.pointer q4 ∧
  StoreR a1 [Value.pointer q4] w10 fun (w11 : World) =>
  FinR k3 L1 none w11 fun (w12 : World) => h1 (Value.bool true) w12) ∧
  (decide (IntKind.wrap IntKind.i64 (Int.tdiv n3 (2 : Int)) > (0 : Int)) = false →
  FinR k3 L1 none w9 fun (w13 : World) => h1 (Value.bool true) w13)) →
  RoundR Tryd.prog k3
  { toList := [Value.int IntKind.u64 n1, Value.agg { toList := [Value.bool b1, Value.int IntKind.i64 n2] }] } w6 h1) →
  Rets Tryd.prog (68 : Nat) { toList := [Value.func (Fn.yield k3) { toList := [] } { toList := [] }, v3] } w5
  fun (v5 : Value) (w14 : World) =>
  EndR k3 L1 none w14 fun (w15 : World) =>
  ∃ (q5 : Option Addr),
  cellAt w15 a1 (Value.pointer q5) ∧
  StoreR (Addr.add { block := g, off := (0 : Nat) } (0 : Nat)) [Value.pointer q5] w15 fun (w16 : World) =>
  StoreR (Addr.add { block := g, off := (0 : Nat) } (1 : Nat)) [Value.int IntKind.i64 (0 : Int)] w16 fun (w17 : World) =>
  MarkR k2 w17 fun (w18 : World) => K (Value.tuple { toList := [] }) w18
theorem exact_Exact_age_eq (g : Nat) (w : World) (K : Value → World → Prop) : fw Tryd.prog Tryd.f28 (annL [(1, [(11, some 22), (12, some 60)])]) (ordL [(1000001, [(68, 1)])]) [.pointer (some ⟨g, 0, none⟩)] w K = exact_Exact_age_m g w K := by kernel_rfl
theorem exact_Exact_age_go (g : Nat) {w : World} {K : Value → World → Prop} (h : exact_Exact_age_m g w K) : Rets Tryd.prog 28 #[.pointer (some ⟨g, 0, none⟩)] w K :=
  calls_of_fw plain mixed Tryd.func28 (by kernel_rfl) (by rw [exact_Exact_age_eq]; exact h)
end Go.Proofs.YtjdbeopgmpbikaaDoor.Eng
