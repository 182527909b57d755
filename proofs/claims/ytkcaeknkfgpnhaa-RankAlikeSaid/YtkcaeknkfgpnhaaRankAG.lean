/- What the code of these functions asks for: printed by a program of this session's (gens.py) out of the seat's own functions; the kernel checks each row. -/
import Derived.Test.YtkcaeknkfgpnhaaEngH
import Derived.Test.YtkcaeknkfgpnhaaProg
import Derived.Test.YtkcaeknkfgpnhaaBase
namespace Go.Proofs.Ytkcaeknkfgpnhaa.Eng
open Go Go.Proofs
set_option linter.unusedVariables false
set_option maxRecDepth 1000000
def rank_Tree_int_int_All_m (q : Option Addr) (w : World) (K : Value → World → Prop) : Prop :=
  NewR (37 : Nat) [Value.pointer q] w fun (a1 : Addr) (w1 : World) =>
  K (Value.func (Fn.func (109 : Nat)) { toList := [] } { toList := [Value.pointer (some a1)] }) w1
theorem rank_Tree_int_int_All_eq (q : Option Addr) (w : World) (K : Value → World → Prop) : fw Try.prog Try.f49 (annL []) (ordL []) [.pointer q] w K = rank_Tree_int_int_All_m q w K := by kernel_rfl
theorem rank_Tree_int_int_All_go (q : Option Addr) {w : World} {K : Value → World → Prop} (h : rank_Tree_int_int_All_m q w K) : Rets Try.prog 49 #[.pointer q] w K :=
  calls_of_fw plain mixed Try.func49 (by kernel_rfl) (by rw [rank_Tree_int_int_All_eq]; exact h)
def rank_Tree_int_int_From_m (q : Option Addr) (k : Int) (w : World) (K : Value → World → Prop) : Prop :=
  NewR (37 : Nat) [Value.pointer q] w fun (a1 : Addr) (w1 : World) =>
  NewR (3 : Nat) [Value.int IntKind.i64 k] w1 fun (a2 : Addr) (w2 : World) =>
  K (Value.func (Fn.func (112 : Nat)) { toList := [] } { toList := [Value.pointer (some a1), Value.pointer (some a2)] })
  w2
theorem rank_Tree_int_int_From_eq (q : Option Addr) (k : Int) (w : World) (K : Value → World → Prop) : fw Try.prog Try.f50 (annL []) (ordL []) [.pointer q, .int .i64 k] w K = rank_Tree_int_int_From_m q k w K := by kernel_rfl
theorem rank_Tree_int_int_From_go (q : Option Addr) (k : Int) {w : World} {K : Value → World → Prop} (h : rank_Tree_int_int_From_m q k w K) : Rets Try.prog 50 #[.pointer q, .int .i64 k] w K :=
  calls_of_fw plain mixed Try.func50 (by kernel_rfl) (by rw [rank_Tree_int_int_From_eq]; exact h)
def rank_Tree_int_int_All_1_m (l b : Nat) (w : World) (K : Value → World → Prop) : Prop :=
  ∃ (q1 : Option Addr),
  cellAt w { block := b, off := (0 : Nat) } (Value.pointer q1) ∧
  ((!Option.isNone q1) = true →
  ∃ (q2 : Option Addr),
  cellAt w { block := b, off := (0 : Nat) } (Value.pointer q2) ∧
  someR q2 fun (a1 : Addr) =>
  ∃ (q3 : Option Addr),
  cellAt w (Addr.add a1 (1 : Nat)) (Value.pointer q3) ∧
  Rets Try.prog (110 : Nat)
  {
  toList :=
  [Value.pointer q3, Value.func (Fn.func (111 : Nat)) { toList := [] } { toList := [] },
  Value.func (Fn.yield l) { toList := [] } { toList := [] }] }
  w fun (v1 : Value) (w1 : World) => ∃ (b1 : Bool), v1 = Value.bool b1 ∧ K (Value.tuple { toList := [] }) w1) ∧
  ((!Option.isNone q1) = false → K (Value.tuple { toList := [] }) w)
theorem rank_Tree_int_int_All_1_eq (l b : Nat) (w : World) (K : Value → World → Prop) : fw Try.prog Try.f109 (annL []) (ordL []) [.func (.yield l) #[] #[], .pointer (some ⟨b, 0, none⟩)] w K = rank_Tree_int_int_All_1_m l b w K := by kernel_rfl
theorem rank_Tree_int_int_All_1_go (l b : Nat) {w : World} {K : Value → World → Prop} (h : rank_Tree_int_int_All_1_m l b w K) : Rets Try.prog 109 #[.func (.yield l) #[] #[], .pointer (some ⟨b, 0, none⟩)] w K :=
  calls_of_fw plain mixed Try.func109 (by kernel_rfl) (by rw [rank_Tree_int_int_All_1_eq]; exact h)
def rank_Tree_int_int_From_1_m (l a b : Nat) (w : World) (K : Value → World → Prop) : Prop :=
  ∃ (q1 : Option Addr),
  cellAt w { block := a, off := (0 : Nat) } (Value.pointer q1) ∧
  ((!Option.isNone q1) = true →
  ∃ (q2 : Option Addr),
  cellAt w { block := a, off := (0 : Nat) } (Value.pointer q2) ∧
  someR q2 fun (a1 : Addr) =>
  ∃ (q3 : Option Addr),
  cellAt w (Addr.add a1 (1 : Nat)) (Value.pointer q3) ∧
  Rets Try.prog (110 : Nat)
  {
  toList :=
  [Value.pointer q3,
  Value.func (Fn.func (113 : Nat)) { toList := [] }
  {
  toList :=
  [Value.pointer (some { block := a, off := (0 : Nat) }), Value.pointer (some { block := b, off := (0 : Nat) })] },
  Value.func (Fn.yield l) { toList := [] } { toList := [] }] }
  w fun (v1 : Value) (w1 : World) => ∃ (b1 : Bool), v1 = Value.bool b1 ∧ K (Value.tuple { toList := [] }) w1) ∧
  ((!Option.isNone q1) = false → K (Value.tuple { toList := [] }) w)
theorem rank_Tree_int_int_From_1_eq (l a b : Nat) (w : World) (K : Value → World → Prop) : fw Try.prog Try.f112 (annL []) (ordL []) [.func (.yield l) #[] #[], .pointer (some ⟨a, 0, none⟩), .pointer (some ⟨b, 0, none⟩)] w K = rank_Tree_int_int_From_1_m l a b w K := by kernel_rfl
theorem rank_Tree_int_int_From_1_go (l a b : Nat) {w : World} {K : Value → World → Prop} (h : rank_Tree_int_int_From_1_m l a b w K) : Rets Try.prog 112 #[.func (.yield l) #[] #[], .pointer (some ⟨a, 0, none⟩), .pointer (some ⟨b, 0, none⟩)] w K :=
  calls_of_fw plain mixed Try.func112 (by kernel_rfl) (by rw [rank_Tree_int_int_From_1_eq]; exact h)
def told_all_m (b : Nat) (most : Int) (w : World) (K : Value → World → Prop) : Prop :=
  NewR (3 : Nat) [Value.int IntKind.i64 most] w fun (a1 : Addr) (w1 : World) =>
  NewR (40 : Nat) [Value.slice none (0 : Nat) (0 : Nat)] w1 fun (a2 : Addr) (w2 : World) =>
  (false = true → K (Value.slice none (0 : Nat) (0 : Nat)) w2) ∧
  (false = false →
  ∃ (v1 : Value),
  Value.func (Fn.func (109 : Nat)) { toList := [] }
  { toList := [Value.pointer (some { block := b, off := (0 : Nat) })] } =
  Value.func (Fn.func (109 : Nat)) { toList := [] } { toList := [v1] } ∧
  LoopR w2 fun (k1 k2 : Nat) (L1 : Loop) (w3 : World) =>
  (∀ (n1 n2 : Int) (w4 : World) (h1 : Value → World → Prop),
  RecR k2 L1 w4 →
  (BegR k2 L1 w4 fun (w5 : World) =>
  ∃ (q1 : Option Addr),
  ∃ (k3 : Nat),
  ∃ (k4 : Nat),
  cellAt w5 a2 (Value.slice q1 k3 k4) ∧
  ∃ (n3 : Int),
  cellAt w5 a1 (Value.int IntKind.i64 n3) ∧
  (decide ((↑k3 : Int) ≥ n3) = true →
  FinR k2 L1 (some (Code.exit (0 : Nat))) w5 fun (w6 : World) => h1 (Value.bool false) w6) ∧
  (decide ((↑k3 : Int) ≥ n3) = false →
  ∃ (q2 : Option Addr),
  ∃ (k5 : Nat),
  ∃ (k6 : Nat),
  cellAt w5 a2 (Value.slice q2 k5 k6) ∧
  NewR (110 : Nat) [Value.int IntKind.i64 n1, Value.int IntKind.i64 n2] w5 fun (a3 : Addr) (w7 : World) =>
  RunR Try.prog
  (builtinV Builtin.append { toList := [(40 : Nat), (40 : Nat)] } (nat_lit 40)
  { toList := [Value.slice q2 k5 k6, Value.slice (some a3) (1 : Nat) (1 : Nat)] })
  w7 fun (v2 : Value) (w8 : World) =>
  ∃ (q3 : Option Addr),
  ∃ (k7 : Nat),
  ∃ (k8 : Nat),
  v2 = Value.slice q3 k7 k8 ∧
  StoreR a2 [Value.slice q3 k7 k8] w8 fun (w9 : World) =>
  FinR k2 L1 none w9 fun (w10 : World) => h1 (Value.bool true) w10)) →
  RoundR Try.prog k2 { toList := [Value.int IntKind.i64 n1, Value.int IntKind.i64 n2] } w4 h1) →
  Rets Try.prog (109 : Nat) { toList := [Value.func (Fn.yield k2) { toList := [] } { toList := [] }, v1] } w3
  fun (v3 : Value) (w11 : World) =>
  (EndR k2 L1 none w11 fun (w12 : World) =>
  ∃ (q4 : Option Addr),
  ∃ (k9 : Nat),
  ∃ (k10 : Nat),
  cellAt w12 a2 (Value.slice q4 k9 k10) ∧ MarkR k1 w12 fun (w13 : World) => K (Value.slice q4 k9 k10) w13) ∨
  EndR k2 L1 (some (Code.exit (0 : Nat))) w11 fun (w14 : World) =>
  ∃ (q5 : Option Addr),
  ∃ (k11 : Nat),
  ∃ (k12 : Nat),
  cellAt w14 a2 (Value.slice q5 k11 k12) ∧ MarkR k1 w14 fun (w15 : World) => K (Value.slice q5 k11 k12) w15)
theorem told_all_eq (b : Nat) (most : Int) (w : World) (K : Value → World → Prop) : fw Try.prog Try.f48 (annL [(2, [(11, some 3), (12, some 3)])]) (ordL [(1000002, [(109, 1)])]) [.func (.func 109) #[] #[.pointer (some ⟨b, 0, none⟩)], .int .i64 most] w K = told_all_m b most w K := by kernel_rfl
theorem told_all_go (b : Nat) (most : Int) {w : World} {K : Value → World → Prop} (h : told_all_m b most w K) : Rets Try.prog 48 #[.func (.func 109) #[] #[.pointer (some ⟨b, 0, none⟩)], .int .i64 most] w K :=
  calls_of_fw plain mixed Try.func48 (by kernel_rfl) (by rw [told_all_eq]; exact h)
def told_from_m (a b : Nat) (most : Int) (w : World) (K : Value → World → Prop) : Prop :=
  NewR (3 : Nat) [Value.int IntKind.i64 most] w fun (a1 : Addr) (w1 : World) =>
  NewR (40 : Nat) [Value.slice none (0 : Nat) (0 : Nat)] w1 fun (a2 : Addr) (w2 : World) =>
  (false = true → K (Value.slice none (0 : Nat) (0 : Nat)) w2) ∧
  (false = false →
  ∃ (v1 : Value),
  ∃ (v2 : Value),
  Value.func (Fn.func (112 : Nat)) { toList := [] }
  {
  toList :=
  [Value.pointer (some { block := a, off := (0 : Nat) }), Value.pointer (some { block := b, off := (0 : Nat) })] } =
  Value.func (Fn.func (112 : Nat)) { toList := [] } { toList := [v1, v2] } ∧
  LoopR w2 fun (k1 k2 : Nat) (L1 : Loop) (w3 : World) =>
  (∀ (n1 n2 : Int) (w4 : World) (h1 : Value → World → Prop),
  RecR k2 L1 w4 →
  (BegR k2 L1 w4 fun (w5 : World) =>
  ∃ (q1 : Option Addr),
  ∃ (k3 : Nat),
  ∃ (k4 : Nat),
  cellAt w5 a2 (Value.slice q1 k3 k4) ∧
  ∃ (n3 : Int),
  cellAt w5 a1 (Value.int IntKind.i64 n3) ∧
  (decide ((↑k3 : Int) ≥ n3) = true →
  FinR k2 L1 (some (Code.exit (0 : Nat))) w5 fun (w6 : World) => h1 (Value.bool false) w6) ∧
  (decide ((↑k3 : Int) ≥ n3) = false →
  ∃ (q2 : Option Addr),
  ∃ (k5 : Nat),
  ∃ (k6 : Nat),
  cellAt w5 a2 (Value.slice q2 k5 k6) ∧
  NewR (110 : Nat) [Value.int IntKind.i64 n1, Value.int IntKind.i64 n2] w5 fun (a3 : Addr) (w7 : World) =>
  RunR Try.prog
  (builtinV Builtin.append { toList := [(40 : Nat), (40 : Nat)] } (nat_lit 40)
  { toList := [Value.slice q2 k5 k6, Value.slice (some a3) (1 : Nat) (1 : Nat)] })
  w7 fun (v3 : Value) (w8 : World) =>
  ∃ (q3 : Option Addr),
  ∃ (k7 : Nat),
  ∃ (k8 : Nat),
  v3 = Value.slice q3 k7 k8 ∧
  StoreR a2 [Value.slice q3 k7 k8] w8 fun (w9 : World) =>
  FinR k2 L1 none w9 fun (w10 : World) => h1 (Value.bool true) w10)) →
  RoundR Try.prog k2 { toList := [Value.int IntKind.i64 n1, Value.int IntKind.i64 n2] } w4 h1) →
  Rets Try.prog (112 : Nat) { toList := [Value.func (Fn.yield k2) { toList := [] } { toList := [] }, v1, v2] } w3
  fun (v4 : Value) (w11 : World) =>
  (EndR k2 L1 none w11 fun (w12 : World) =>
  ∃ (q4 : Option Addr),
  ∃ (k9 : Nat),
  ∃ (k10 : Nat),
  cellAt w12 a2 (Value.slice q4 k9 k10) ∧ MarkR k1 w12 fun (w13 : World) => K (Value.slice q4 k9 k10) w13) ∨
  EndR k2 L1 (some (Code.exit (0 : Nat))) w11 fun (w14 : World) =>
  ∃ (q5 : Option Addr),
  ∃ (k11 : Nat),
  ∃ (k12 : Nat),
  cellAt w14 a2 (Value.slice q5 k11 k12) ∧ MarkR k1 w14 fun (w15 : World) => K (Value.slice q5 k11 k12) w15)
theorem told_from_eq (a b : Nat) (most : Int) (w : World) (K : Value → World → Prop) : fw Try.prog Try.f48 (annL [(2, [(11, some 3), (12, some 3)])]) (ordL [(1000002, [(112, 2)])]) [.func (.func 112) #[] #[.pointer (some ⟨a, 0, none⟩), .pointer (some ⟨b, 0, none⟩)], .int .i64 most] w K = told_from_m a b most w K := by kernel_rfl
theorem told_from_go (a b : Nat) (most : Int) {w : World} {K : Value → World → Prop} (h : told_from_m a b most w K) : Rets Try.prog 48 #[.func (.func 112) #[] #[.pointer (some ⟨a, 0, none⟩), .pointer (some ⟨b, 0, none⟩)], .int .i64 most] w K :=
  calls_of_fw plain mixed Try.func48 (by kernel_rfl) (by rw [told_from_eq]; exact h)
def cortadolaw08_RankAlike_m (q : Option Addr) (l c : Nat) (turn : Int) (w : World) (K : Value → World → Prop) : Prop :=
  (decide ((↑l : Int) > (40 : Int)) = true →
  Rets Try.prog (17 : Nat) { toList := [] } w fun (v1 : Value) (w1 : World) =>
  ∃ (b1 : Bool), v1 = Value.bool b1 ∧ K (Value.bool b1) w1) ∧
  (decide ((↑l : Int) > (40 : Int)) = false →
  Rets Try.prog (18 : Nat) { toList := [Value.func (Fn.func (19 : Nat)) { toList := [] } { toList := [] }] } w
  fun (v2 : Value) (w2 : World) =>
  ∃ (q1 : Option Addr),
  v2 = Value.pointer q1 ∧
  Rets Try.prog (18 : Nat) { toList := [Value.func (Fn.func (19 : Nat)) { toList := [] } { toList := [] }] } w2
  fun (v3 : Value) (w3 : World) =>
  ∃ (q2 : Option Addr),
  v3 = Value.pointer q2 ∧
  ∃ (h1 : List Value → World → Prop),
  ((decide ((↑l : Int) > (0 : Int)) = true →
  IntKind.wrap IntKind.u64 (↑l : Int) ≠ (0 : Int) ∧
  h1 [Value.int IntKind.i64 (IntKind.wrap IntKind.i64 (Int.tmod turn (IntKind.wrap IntKind.u64 (↑l : Int))))] w3) ∧
  (decide ((↑l : Int) > (0 : Int)) = false → h1 [Value.int IntKind.i64 (0 : Int)] w3)) ∧
  ∀ (w4 : World) (n1 : Int) (v4 v5 v6 v7 v8 v9 : Value),
  h1 [Value.int IntKind.i64 n1] w4 →
  ∃ (h2 : Nat → List Value → World → Prop),
  (∃ (k1 : Nat),
  h2 k1 [Value.pointer q1, Value.pointer q2, Value.slice none (0 : Nat) (0 : Nat), Value.int IntKind.i64 (0 : Int)] w4) ∧
  ∀ (k2 : Nat) (w5 : World) (q3 q4 q5 : Option Addr) (k3 k4 : Nat) (n2 : Int)
  (v10 v11 v12 v13 v14 v15 v16 v17 v18 v19 v20 v21 v22 v23 v24 v25 v26 v27 v28 v29 v30 v31 v32 v33 v34 v35 v36 v37 v38 v39
  v40 v41 v42 v43 v44 v45 v46 v47 v48 v49 v50 v51 v52 v53 v54 v55 v56 v57 v58 v59 v60 : Value),
  h2 k2 [Value.pointer q3, Value.pointer q4, Value.slice q5 k3 k4, Value.int IntKind.i64 n2] w5 →
  (decide (n2 < (↑l : Int)) = true →
  (↑l : Int) ≠ (0 : Int) ∧
  Drw w5 fun (w6 : World) =>
  ∃ (h3 : World → Prop),
  h3 w6 ∧
  (0 : Int) ≤ n2 ∧
  n2 < (↑l : Int) ∧
  someR q fun (a1 : Addr) =>
  (0 : Int) ≤ n2 ∧
  n2 < (↑l : Int) ∧
  someR q fun (a2 : Addr) =>
  (0 : Int) ≤
  IntKind.wrap IntKind.i64
  (IntKind.wrap IntKind.i64 ((↑l : Int) - (1 : Int)) - Int.tmod (IntKind.wrap IntKind.i64 (n2 + n1)) (↑l : Int)) ∧
  IntKind.wrap IntKind.i64
  (IntKind.wrap IntKind.i64 ((↑l : Int) - (1 : Int)) - Int.tmod (IntKind.wrap IntKind.i64 (n2 + n1)) (↑l : Int)) <
  (↑l : Int) ∧
  someR q fun (a3 : Addr) =>
  (0 : Int) ≤
  IntKind.wrap IntKind.i64
  (IntKind.wrap IntKind.i64 ((↑l : Int) - (1 : Int)) - Int.tmod (IntKind.wrap IntKind.i64 (n2 + n1)) (↑l : Int)) ∧
  IntKind.wrap IntKind.i64
  (IntKind.wrap IntKind.i64 ((↑l : Int) - (1 : Int)) - Int.tmod (IntKind.wrap IntKind.i64 (n2 + n1)) (↑l : Int)) <
  (↑l : Int) ∧
  someR q fun (a4 : Addr) =>
  ∃ (n3 : Int),
  (∀ (w7 : World), h3 w7 → World.cell? w7 (Addr.add a1 (Int.toNat n2 * (1 : Nat))) = some (Value.int IntKind.i64 n3)) ∧
  ∃ (n4 : Int),
  (∀ (w8 : World), h3 w8 → World.cell? w8 (Addr.add a2 (Int.toNat n2 * (1 : Nat))) = some (Value.int IntKind.i64 n4)) ∧
  ∃ (n5 : Int),
  (∀ (w9 : World),
  h3 w9 →
  World.cell? w9
  (Addr.add a3
  (Int.toNat
  (IntKind.wrap IntKind.i64
  (IntKind.wrap IntKind.i64 ((↑l : Int) - (1 : Int)) - Int.tmod (IntKind.wrap IntKind.i64 (n2 + n1)) (↑l : Int))) *
  (1 : Nat))) =
  some (Value.int IntKind.i64 n5)) ∧
  ∃ (n6 : Int),
  (∀ (w10 : World),
  h3 w10 →
  World.cell? w10
  (Addr.add a4
  (Int.toNat
  (IntKind.wrap IntKind.i64
  (IntKind.wrap IntKind.i64 ((↑l : Int) - (1 : Int)) - Int.tmod (IntKind.wrap IntKind.i64 (n2 + n1)) (↑l : Int))) *
  (1 : Nat))) =
  some (Value.int IntKind.i64 n6)) ∧
  Rets Try.prog (20 : Nat) { toList := [Value.pointer q3, Value.int IntKind.i64 n3, Value.int IntKind.i64 n4] } w6
  fun (v61 : Value) (w11 : World) =>
  ∃ (q6 : Option Addr),
  v61 = Value.pointer q6 ∧
  h3 w11 ∧
  Rets Try.prog (20 : Nat) { toList := [Value.pointer q4, Value.int IntKind.i64 n5, Value.int IntKind.i64 n6] } w11
  fun (v62 : Value) (w12 : World) =>
  ∃ (q7 : Option Addr),
  v62 = Value.pointer q7 ∧
  Drw w12 fun (w13 : World) =>
  (0 : Int) ≤ n2 ∧
  n2 < (↑l : Int) ∧
  someR q fun (a5 : Addr) =>
  (0 : Int) ≤ n2 ∧
  n2 < (↑l : Int) ∧
  someR q fun (a6 : Addr) =>
  ∃ (n7 : Int),
  cellAt w13 (Addr.add a5 (Int.toNat n2 * (1 : Nat))) (Value.int IntKind.i64 n7) ∧
  ∃ (n8 : Int),
  cellAt w13 (Addr.add a6 (Int.toNat n2 * (1 : Nat))) (Value.int IntKind.i64 n8) ∧
  Rets Try.prog (21 : Nat) { toList := [Value.slice q5 k3 k4, Value.int IntKind.i64 n7, Value.int IntKind.i64 n8] } w13
  fun (v63 : Value) (w14 : World) =>
  ∃ (q8 : Option Addr),
  ∃ (k5 : Nat),
  ∃ (k6 : Nat),
  v63 = Value.slice q8 k5 k6 ∧
  ∃ (k7 : Nat),
  k7 < k2 ∧
  h2 k7
  [Value.pointer q6, Value.pointer q7, Value.slice q8 k5 k6,
  Value.int IntKind.i64 (IntKind.wrap IntKind.i64 (n2 + (1 : Int)))]
  w14) ∧
  (decide (n2 < (↑l : Int)) = false →
  ∃ (h4 : Nat → List Value → World → Prop),
  (∃ (k8 : Nat), h4 k8 [Value.pointer q4, Value.int IntKind.i64 (0 : Int)] w5) ∧
  ∀ (k9 : Nat) (w15 : World) (q9 : Option Addr) (n9 : Int)
  (v64 v65 v66 v67 v68 v69 v70 v71 v72 v73 v74 v75 v76 v77 v78 v79 v80 v81 v82 v83 v84 v85 v86 v87 v88 v89 v90 v91 v92 v93
  v94 v95 v96 : Value),
  h4 k9 [Value.pointer q9, Value.int IntKind.i64 n9] w15 →
  (decide (n9 < (↑l : Int)) = true →
  (0 : Int) ≤ n9 ∧
  n9 < (↑l : Int) ∧
  someR q fun (a7 : Addr) =>
  ∃ (n10 : Int),
  cellAt w15 (Addr.add a7 (Int.toNat n9 * (1 : Nat))) (Value.int IntKind.i64 n10) ∧
  Rets Try.prog (25 : Nat)
  { toList := [Value.slice q5 k3 k4, Value.int IntKind.i64 (IntKind.wrap IntKind.i64 (n10 - (1 : Int)))] } w15
  fun (v97 : Value) (w16 : World) =>
  ∃ (n11 : Int),
  ∃ (b2 : Bool),
  v97 = Value.tuple { toList := [Value.int IntKind.i64 n11, Value.bool b2] } ∧
  ((!b2) = true →
  Drw w16 fun (w17 : World) =>
  ∃ (h5 : World → Prop),
  h5 w17 ∧
  (0 : Int) ≤ n9 ∧
  n9 < (↑l : Int) ∧
  someR q fun (a8 : Addr) =>
  (0 : Int) ≤ n9 ∧
  n9 < (↑l : Int) ∧
  someR q fun (a9 : Addr) =>
  ∃ (n12 : Int),
  (∀ (w18 : World),
  h5 w18 → World.cell? w18 (Addr.add a8 (Int.toNat n9 * (1 : Nat))) = some (Value.int IntKind.i64 n12)) ∧
  ∃ (n13 : Int),
  (∀ (w19 : World),
  h5 w19 → World.cell? w19 (Addr.add a9 (Int.toNat n9 * (1 : Nat))) = some (Value.int IntKind.i64 n13)) ∧
  Rets Try.prog (20 : Nat)
  {
  toList :=
  [Value.pointer q9, Value.int IntKind.i64 (IntKind.wrap IntKind.i64 (n12 - (1 : Int))),
  Value.int IntKind.i64 (0 : Int)] }
  w17 fun (v98 : Value) (w20 : World) =>
  ∃ (q10 : Option Addr),
  v98 = Value.pointer q10 ∧
  h5 w20 ∧
  Rets Try.prog (22 : Nat)
  { toList := [Value.pointer q10, Value.int IntKind.i64 (IntKind.wrap IntKind.i64 (n13 - (1 : Int)))] } w20
  fun (v99 : Value) (w21 : World) =>
  ∃ (q11 : Option Addr),
  v99 = Value.pointer q11 ∧
  ∃ (k10 : Nat),
  k10 < k9 ∧ h4 k10 [Value.pointer q11, Value.int IntKind.i64 (IntKind.wrap IntKind.i64 (n9 + (1 : Int)))] w21) ∧
  ((!b2) = false →
  ∃ (k11 : Nat),
  k11 < k9 ∧ h4 k11 [Value.pointer q9, Value.int IntKind.i64 (IntKind.wrap IntKind.i64 (n9 + (1 : Int)))] w16)) ∧
  (decide (n9 < (↑l : Int)) = false →
  Rets Try.prog (24 : Nat) { toList := [Value.pointer none, Value.int IntKind.i64 n1] } w15
  fun (v100 : Value) (w22 : World) =>
  ∃ (n14 : Int),
  ∃ (b3 : Bool),
  v100 = Value.tuple { toList := [Value.int IntKind.i64 n14, Value.bool b3] } ∧
  Rets Try.prog (46 : Nat) { toList := [Value.pointer none, Value.int IntKind.i64 (0 : Int)] } w22
  fun (v101 : Value) (w23 : World) =>
  ∃ (n15 : Int),
  ∃ (n16 : Int),
  ∃ (b4 : Bool),
  v101 = Value.tuple { toList := [Value.int IntKind.i64 n15, Value.int IntKind.i64 n16, Value.bool b4] } ∧
  Rets Try.prog (26 : Nat) { toList := [Value.pointer none, Value.int IntKind.i64 n1] } w23
  fun (v102 : Value) (w24 : World) =>
  ∃ (n17 : Int),
  ∃ (b5 : Bool),
  v102 = Value.tuple { toList := [Value.int IntKind.i64 n17, Value.bool b5] } ∧
  Rets Try.prog (28 : Nat) { toList := [Value.pointer q3, Value.slice q5 k3 k4] } w24 fun (v103 : Value) (w25 : World) =>
  ∃ (b6 : Bool),
  v103 = Value.bool b6 ∧
  (b6 = true →
  Rets Try.prog (28 : Nat) { toList := [Value.pointer q9, Value.slice q5 k3 k4] } w25 fun (v104 : Value) (w26 : World) =>
  ∃ (b7 : Bool),
  v104 = Value.bool b7 ∧
  (b7 = true →
  ((!b3) = true →
  ((!b4) = true →
  ((n17 == (0 : Int)) = true →
  ((!b5) = true →
  Rets Try.prog (20 : Nat) { toList := [Value.pointer none, Value.int IntKind.i64 n1, Value.int IntKind.i64 n1] } w26
  fun (v105 : Value) (w27 : World) =>
  ∃ (q12 : Option Addr),
  v105 = Value.pointer q12 ∧
  (Option.isNone q12 = true →
  Rets Try.prog (22 : Nat) { toList := [Value.pointer none, Value.int IntKind.i64 n1] } w27
  fun (v106 : Value) (w28 : World) =>
  ∃ (q13 : Option Addr),
  v106 = Value.pointer q13 ∧
  (Option.isNone q13 = true →
  Rets Try.prog (47 : Nat) { toList := [Value.pointer none] } w28 fun (v107 : Value) (w29 : World) =>
  ∃ (n18 : Int),
  v107 = Value.int IntKind.i64 n18 ∧
  Rets Try.prog (29 : Nat) { toList := [Value.pointer none] } w29 fun (v108 : Value) (w30 : World) =>
  ∃ (n19 : Int),
  v108 = Value.int IntKind.i64 n19 ∧
  ((IntKind.wrap IntKind.i64 (n18 + n19) == (0 : Int)) = true →
  Rets Try.prog (49 : Nat) { toList := [Value.pointer none] } w30 fun (v109 : Value) (w31 : World) =>
  ∃ (k12 : Nat),
  ∃ (a10 : Array Value),
  ∃ (c1 : Array Value),
  v109 = Value.func (Fn.func k12) a10 c1 ∧
  Rets Try.prog (48 : Nat) { toList := [Value.func (Fn.func k12) a10 c1, Value.int IntKind.i64 (1 : Int)] } w31
  fun (v110 : Value) (w32 : World) =>
  ∃ (q14 : Option Addr),
  ∃ (k13 : Nat),
  ∃ (k14 : Nat),
  v110 = Value.slice q14 k13 k14 ∧
  Rets Try.prog (50 : Nat) { toList := [Value.pointer none, Value.int IntKind.i64 n1] } w32
  fun (v111 : Value) (w33 : World) =>
  ∃ (k15 : Nat),
  ∃ (a11 : Array Value),
  ∃ (c2 : Array Value),
  v111 = Value.func (Fn.func k15) a11 c2 ∧
  Rets Try.prog (48 : Nat) { toList := [Value.func (Fn.func k15) a11 c2, Value.int IntKind.i64 (1 : Int)] } w33
  fun (v112 : Value) (w34 : World) =>
  ∃ (q15 : Option Addr),
  ∃ (k16 : Nat),
  ∃ (k17 : Nat),
  v112 = Value.slice q15 k16 k17 ∧
  ((IntKind.wrap IntKind.i64 ((↑k13 : Int) + (↑k16 : Int)) == (0 : Int)) = true →
  Rets Try.prog (18 : Nat) { toList := [Value.nilFunc] } w34 fun (v113 : Value) (w35 : World) =>
  ∃ (q16 : Option Addr),
  v113 = Value.pointer q16 ∧
  (Option.isNone q16 = true →
  Rets Try.prog (17 : Nat) { toList := [] } w35 fun (v114 : Value) (w36 : World) =>
  ∃ (b8 : Bool), v114 = Value.bool b8 ∧ K (Value.bool b8) w36) ∧
  (Option.isNone q16 = false → K (Value.bool false) w35)) ∧
  ((IntKind.wrap IntKind.i64 ((↑k13 : Int) + (↑k16 : Int)) == (0 : Int)) = false → K (Value.bool false) w34)) ∧
  ((IntKind.wrap IntKind.i64 (n18 + n19) == (0 : Int)) = false → K (Value.bool false) w30)) ∧
  (Option.isNone q13 = false → K (Value.bool false) w28)) ∧
  (Option.isNone q12 = false → K (Value.bool false) w27)) ∧
  ((!b5) = false → K (Value.bool false) w26)) ∧
  ((n17 == (0 : Int)) = false → K (Value.bool false) w26)) ∧
  ((!b4) = false → K (Value.bool false) w26)) ∧
  ((!b3) = false → K (Value.bool false) w26)) ∧
  (b7 = false → K (Value.bool false) w26)) ∧
  (b6 = false → K (Value.bool false) w25))))
theorem cortadolaw08_RankAlike_eq (q : Option Addr) (l c : Nat) (turn : Int) (w : World) (K : Value → World → Prop) : fw Try.prog Try.f7 (annL [(1, [(8, some 3), (31, none), (32, none), (33, none), (34, none), (35, none), (36, none)]), (3, [(5, some 37), (6, some 37), (7, some 40), (9, some 3), (10, none), (37, none), (38, none), (39, none), (40, none), (41, none), (42, none), (43, none), (44, none), (45, none), (46, none), (47, none), (48, none), (49, none), (50, none), (51, none), (52, none), (53, none), (54, none), (55, none), (56, none), (57, none), (58, none), (59, none), (60, none), (61, none), (62, none), (63, none), (64, none), (65, none), (66, none), (67, none), (68, none), (69, none), (70, none), (71, none), (72, none), (73, none), (74, none), (75, none), (76, none), (77, none), (78, none), (79, none), (80, none), (81, none), (82, none), (83, none), (84, none), (85, none), (86, none)]), (7, [(6, some 37), (11, some 3), (12, none), (13, none), (87, none), (88, none), (89, none), (90, none), (91, none), (92, none), (93, none), (94, none), (95, none), (96, none), (97, none), (98, none), (99, none), (100, none), (101, none), (102, none), (103, none), (104, none), (105, none), (106, none), (107, none), (108, none), (109, none), (110, none), (111, none), (112, none), (113, none), (114, none), (115, none), (116, none), (117, none)])]) (ordL [(12, [(0, 0), (1, 0), (2, 0), (3, 0), (5, 0), (6, 0), (7, 0), (10, 0), (11, 0), (12, 0), (13, 0), (14, 0), (15, 0), (16, 0), (17, 0), (19, 0), (20, 0), (21, 0), (22, 0), (23, 0), (24, 0), (25, 0), (4, 1), (8, 1), (18, 1), (26, 1), (9, 2), (27, 3), (28, 0), (29, 0)]), (13, [(0, 0), (1, 0), (2, 0), (3, 0), (5, 0), (6, 0), (7, 0), (4, 1), (8, 1), (9, 3), (10, 0)]), (19, [(0, 0), (1, 0), (2, 0), (3, 0), (7, 0), (8, 0), (9, 0), (4, 1), (5, 0), (10, 1), (11, 0), (6, 2), (12, 3), (13, 0)])]) [.slice q l c, .int .u64 turn] w K = cortadolaw08_RankAlike_m q l c turn w K := by kernel_rfl
theorem cortadolaw08_RankAlike_go (q : Option Addr) (l c : Nat) (turn : Int) {w : World} {K : Value → World → Prop} (h : cortadolaw08_RankAlike_m q l c turn w K) : Rets Try.prog 7 #[.slice q l c, .int .u64 turn] w K :=
  calls_of_fw plain mixed Try.func7 (by kernel_rfl) (by rw [cortadolaw08_RankAlike_eq]; exact h)
end Go.Proofs.Ytkcaeknkfgpnhaa.Eng
