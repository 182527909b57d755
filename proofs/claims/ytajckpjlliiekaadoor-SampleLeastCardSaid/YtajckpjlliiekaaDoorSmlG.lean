/- What the code of these functions asks for: printed by a program of this session's (gens.py) out of the seat's own functions; the kernel checks each row. -/
import Derived.Test.YtajckpjlliiekaaDoorEngH
import Derived.Test.YtajckpjlliiekaaDoorProg
import Derived.Test.YtajckpjlliiekaaDoorBase
namespace Go.Proofs.YtajckpjlliiekaaDoor.Eng
open Go Go.Proofs
set_option linter.unusedVariables false
set_option maxRecDepth 1000000
def hitsAt_m (x : Int) (b : Nat) (w : World) (K : Value → World → Prop) : Prop :=
  Drw w fun (w1 : World) =>
  ∃ (q1 : Option Addr),
  ∃ (k1 : Nat),
  ∃ (k2 : Nat),
  cellAt w1 { block := b, off := (0 : Nat) } (Value.slice q1 k1 k2) ∧
  ∃ (q2 : Option Addr),
  ∃ (k3 : Nat),
  ∃ (k4 : Nat),
  cellAt w1 { block := b, off := (0 : Nat) } (Value.slice q2 k3 k4) ∧
  IntKind.wrap IntKind.u64 (↑k3 : Int) ≠ (0 : Int) ∧
  (0 : Int) ≤ IntKind.wrap IntKind.i64 (Int.tmod x (IntKind.wrap IntKind.u64 (↑k3 : Int))) ∧
  IntKind.wrap IntKind.i64 (Int.tmod x (IntKind.wrap IntKind.u64 (↑k3 : Int))) < (↑k1 : Int) ∧
  someR q1 fun (a1 : Addr) =>
  ∃ (n1 : Int),
  cellAt w1
  (Addr.add a1 (Int.toNat (IntKind.wrap IntKind.i64 (Int.tmod x (IntKind.wrap IntKind.u64 (↑k3 : Int)))) * (1 : Nat)))
  (Value.int IntKind.i64 n1) ∧
  K (Value.int IntKind.i64 n1) w1
theorem hitsAt_eq (x : Int) (b : Nat) (w : World) (K : Value → World → Prop) : fw Tryd.prog Tryd.f18 (annL []) (ordL [(1, [(1, 0), (0, 1), (2, 1), (3, 0), (4, 0), (5, 0), (6, 0), (7, 0), (8, 1), (9, 0)])]) [.int .u64 x, .pointer (some ⟨b, 0, none⟩)] w K = hitsAt_m x b w K := by kernel_rfl
theorem hitsAt_go (x : Int) (b : Nat) {w : World} {K : Value → World → Prop} (h : hitsAt_m x b w K) : Rets Tryd.prog 18 #[.int .u64 x, .pointer (some ⟨b, 0, none⟩)] w K :=
  calls_of_fw plain mixed Tryd.func18 (by kernel_rfl) (by rw [hitsAt_eq]; exact h)
def sample_Least_m (q : Option Addr) (l c : Nat) (b : Nat) (w : World) (K : Value → World → Prop) : Prop :=
  (false = false →
  (((↑l : Int) == (0 : Int)) = true →
  K (Value.tuple { toList := [Value.int IntKind.i64 (0 : Int), Value.int IntKind.i64 (0 : Int), Value.bool false] }) w) ∧
  (((↑l : Int) == (0 : Int)) = false →
  (0 : Int) ≤ (0 : Int) ∧
  (0 : Int) < (↑l : Int) ∧
  someR q fun (a1 : Addr) =>
  ∃ (n1 : Int),
  cellAt w (Addr.add a1 (0 : Nat)) (Value.int IntKind.u64 n1) ∧
  Rets Tryd.prog (18 : Nat)
  { toList := [Value.int IntKind.u64 n1, Value.pointer (some { block := b, off := (0 : Nat) })] } w
  fun (v1 : Value) (w1 : World) =>
  ∃ (n2 : Int),
  v1 = Value.int IntKind.i64 n2 ∧
  ∃ (h1 : Nat → List Value → World → Prop),
  (∃ (k1 : Nat), h1 k1 [Value.int IntKind.i64 (0 : Int), Value.int IntKind.i64 n2, Value.int IntKind.i64 (0 : Int)] w1) ∧
  ∀ (k2 : Nat) (w2 : World) (n3 n4 : Int) (v2 v3 v4 : Value) (n5 : Int)
  (v5 v6 v7 v8 v9 v10 v11 v12 v13 v14 v15 v16 v17 : Value),
  h1 k2 [Value.int IntKind.i64 n3, Value.int IntKind.i64 n4, Value.int IntKind.i64 n5] w2 →
  (decide (n5 < (↑l : Int)) = true →
  (0 : Int) ≤ n5 ∧
  n5 < (↑l : Int) ∧
  someR q fun (a2 : Addr) =>
  ∃ (n6 : Int),
  cellAt w2 (Addr.add a2 (Int.toNat n5 * (1 : Nat))) (Value.int IntKind.u64 n6) ∧
  Rets Tryd.prog (18 : Nat)
  { toList := [Value.int IntKind.u64 n6, Value.pointer (some { block := b, off := (0 : Nat) })] } w2
  fun (v18 : Value) (w3 : World) =>
  ∃ (n7 : Int),
  v18 = Value.int IntKind.i64 n7 ∧
  ∃ (h2 : List Value → World → Prop),
  ((decide (n7 < n4) = true → h2 [Value.int IntKind.i64 n5, Value.int IntKind.i64 n7] w3) ∧
  (decide (n7 < n4) = false → h2 [Value.int IntKind.i64 n3, Value.int IntKind.i64 n4] w3)) ∧
  ∀ (w4 : World) (n8 n9 : Int) (v19 v20 : Value),
  h2 [Value.int IntKind.i64 n8, Value.int IntKind.i64 n9] w4 →
  ∃ (k3 : Nat),
  k3 < k2 ∧
  h1 k3
  [Value.int IntKind.i64 n8, Value.int IntKind.i64 n9, Value.int IntKind.i64 (IntKind.wrap IntKind.i64 (n5 + (1 : Int)))]
  w4) ∧
  (decide (n5 < (↑l : Int)) = false →
  K (Value.tuple { toList := [Value.int IntKind.i64 n3, Value.int IntKind.i64 n4, Value.bool true] }) w2))) ∧
  (false = true →
  K (Value.tuple { toList := [Value.int IntKind.i64 (0 : Int), Value.int IntKind.i64 (0 : Int), Value.bool false] }) w)
theorem sample_Least_eq (q : Option Addr) (l c : Nat) (b : Nat) (w : World) (K : Value → World → Prop) : fw Tryd.prog Tryd.f17 (annL [(2, [(4, some 3), (5, some 3), (7, none), (8, none), (9, none), (24, some 3), (25, none), (26, none), (27, none), (28, none), (29, none), (30, none), (31, none), (32, none), (33, none), (34, none), (35, none), (36, none), (37, none)]), (5, [(4, some 3), (5, some 3), (35, none), (36, none)])]) (ordL []) [.slice q l c, .func (.func 18) #[] #[.pointer (some ⟨b, 0, none⟩)]] w K = sample_Least_m q l c b w K := by kernel_rfl
theorem sample_Least_go (q : Option Addr) (l c : Nat) (b : Nat) {w : World} {K : Value → World → Prop} (h : sample_Least_m q l c b w K) : Rets Tryd.prog 17 #[.slice q l c, .func (.func 18) #[] #[.pointer (some ⟨b, 0, none⟩)]] w K :=
  calls_of_fw plain mixed Tryd.func17 (by kernel_rfl) (by rw [sample_Least_eq]; exact h)
def sample_nil_Least_m (q : Option Addr) (l c : Nat) (w : World) (K : Value → World → Prop) : Prop :=
  (true = false →
  (((↑l : Int) == (0 : Int)) = true →
  K (Value.tuple { toList := [Value.int IntKind.i64 (0 : Int), Value.int IntKind.i64 (0 : Int), Value.bool false] }) w) ∧
  (((↑l : Int) == (0 : Int)) = false →
  (0 : Int) ≤ (0 : Int) ∧
  (0 : Int) < (↑l : Int) ∧
  someR q fun (a1 : Addr) => ∃ (n1 : Int), cellAt w (Addr.add a1 (0 : Nat)) (Value.int IntKind.u64 n1) ∧ False)) ∧
  (true = true →
  K (Value.tuple { toList := [Value.int IntKind.i64 (0 : Int), Value.int IntKind.i64 (0 : Int), Value.bool false] }) w)
theorem sample_nil_Least_eq (q : Option Addr) (l c : Nat) (w : World) (K : Value → World → Prop) : fw Tryd.prog Tryd.f17 (annL [(2, [(4, some 3), (5, some 3), (7, none), (8, none), (9, none), (24, some 3), (25, none), (26, none), (27, none), (28, none), (29, none), (30, none), (31, none), (32, none), (33, none), (34, none), (35, none), (36, none), (37, none)])]) (ordL []) [.slice q l c, .nilFunc] w K = sample_nil_Least_m q l c w K := by kernel_rfl
theorem sample_nil_Least_go (q : Option Addr) (l c : Nat) {w : World} {K : Value → World → Prop} (h : sample_nil_Least_m q l c w K) : Rets Tryd.prog 17 #[.slice q l c, .nilFunc] w K :=
  calls_of_fw plain mixed Tryd.func17 (by kernel_rfl) (by rw [sample_nil_Least_eq]; exact h)
def cortadolaw25_SampleLeast_m (q : Option Addr) (l c : Nat) (q2 : Option Addr) (l2 c2 : Nat) (i : Int) (w : World) (K : Value → World → Prop) : Prop :=
  NewR (24 : Nat) [Value.slice q2 l2 c2] w fun (a1 : Addr) (w1 : World) =>
  ∃ (h1 : List Value → World → Prop),
  ((decide ((↑l : Int) > (30 : Int)) = false →
  ∃ (q1 : Option Addr),
  ∃ (k1 : Nat), ∃ (k2 : Nat), cellAt w1 a1 (Value.slice q1 k1 k2) ∧ h1 [Value.bool ((↑k1 : Int) == (0 : Int))] w1) ∧
  (decide ((↑l : Int) > (30 : Int)) = true → h1 [Value.bool true] w1)) ∧
  ∀ (w2 : World) (v1 v2 v3 v4 v5 v6 v7 : Value) (b1 : Bool),
  h1 [Value.bool b1] w2 →
  (b1 = true →
  Rets Tryd.prog (8 : Nat) { toList := [] } w2 fun (v8 : Value) (w3 : World) =>
  ∃ (b2 : Bool), v8 = Value.bool b2 ∧ K (Value.bool b2) w3) ∧
  (b1 = false →
  ∃ (h2 : Nat → List Value → World → Prop),
  (∃ (k3 : Nat), h2 k3 [Value.slice none (0 : Nat) (0 : Nat), Value.int IntKind.i64 (0 : Int)] w2) ∧
  ∀ (k4 : Nat) (w4 : World) (q2 : Option Addr) (k5 k6 : Nat) (n1 : Int)
  (v9 v10 v11 v12 v13 v14 v15 v16 v17 v18 v19 v20 v21 v22 v23 v24 v25 v26 v27 v28 v29 : Value),
  h2 k4 [Value.slice q2 k5 k6, Value.int IntKind.i64 n1] w4 →
  (decide (n1 < (↑l : Int)) = true →
  Drw w4 fun (w5 : World) =>
  (0 : Int) ≤ n1 ∧
  n1 < (↑l : Int) ∧
  someR q fun (a2 : Addr) =>
  ∃ (q3 : Option Addr),
  ∃ (k7 : Nat),
  ∃ (k8 : Nat),
  cellAt w5 a1 (Value.slice q3 k7 k8) ∧
  ∃ (n2 : Int),
  cellAt w5 (Addr.add a2 (Int.toNat n1 * (1 : Nat))) (Value.int IntKind.u64 n2) ∧
  ∃ (q4 : Option Addr),
  ∃ (k9 : Nat),
  ∃ (k10 : Nat),
  cellAt w5 a1 (Value.slice q4 k9 k10) ∧
  IntKind.wrap IntKind.u64 (↑k9 : Int) ≠ (0 : Int) ∧
  (0 : Int) ≤ IntKind.wrap IntKind.i64 (Int.tmod n2 (IntKind.wrap IntKind.u64 (↑k9 : Int))) ∧
  IntKind.wrap IntKind.i64 (Int.tmod n2 (IntKind.wrap IntKind.u64 (↑k9 : Int))) < (↑k7 : Int) ∧
  someR q3 fun (a3 : Addr) =>
  ∃ (n3 : Int),
  cellAt w5
  (Addr.add a3 (Int.toNat (IntKind.wrap IntKind.i64 (Int.tmod n2 (IntKind.wrap IntKind.u64 (↑k9 : Int)))) * (1 : Nat)))
  (Value.int IntKind.i64 n3) ∧
  NewR (3 : Nat) [Value.int IntKind.i64 n3] w5 fun (a4 : Addr) (w6 : World) =>
  RunR Tryd.prog
  (builtinV Builtin.append { toList := [(24 : Nat), (24 : Nat)] } (nat_lit 24)
  { toList := [Value.slice q2 k5 k6, Value.slice (some a4) (1 : Nat) (1 : Nat)] })
  w6 fun (v30 : Value) (w7 : World) =>
  ∃ (q5 : Option Addr),
  ∃ (k11 : Nat),
  ∃ (k12 : Nat),
  v30 = Value.slice q5 k11 k12 ∧
  ∃ (k13 : Nat),
  k13 < k4 ∧ h2 k13 [Value.slice q5 k11 k12, Value.int IntKind.i64 (IntKind.wrap IntKind.i64 (n1 + (1 : Int)))] w7) ∧
  (decide (n1 < (↑l : Int)) = false →
  Rets Tryd.prog (17 : Nat)
  {
  toList :=
  [Value.slice q l c, Value.func (Fn.func (18 : Nat)) { toList := [] } { toList := [Value.pointer (some a1)] }] }
  w4 fun (v31 : Value) (w8 : World) =>
  ∃ (n4 : Int),
  ∃ (n5 : Int),
  ∃ (b3 : Bool),
  v31 = Value.tuple { toList := [Value.int IntKind.i64 n4, Value.int IntKind.i64 n5, Value.bool b3] } ∧
  Rets Tryd.prog (19 : Nat) { toList := [Value.slice q2 k5 k6] } w8 fun (v32 : Value) (w9 : World) =>
  ∃ (n6 : Int),
  ∃ (n7 : Int),
  ∃ (b4 : Bool),
  v32 = Value.tuple { toList := [Value.int IntKind.i64 n6, Value.int IntKind.i64 n7, Value.bool b4] } ∧
  Rets Tryd.prog (17 : Nat) { toList := [Value.slice q l c, Value.nilFunc] } w9 fun (v33 : Value) (w10 : World) =>
  ∃ (n8 : Int),
  ∃ (n9 : Int),
  ∃ (b5 : Bool),
  v33 = Value.tuple { toList := [Value.int IntKind.i64 n8, Value.int IntKind.i64 n9, Value.bool b5] } ∧
  NewR (32 : Nat) [] w10 fun (a5 : Addr) (w11 : World) =>
  RunR Tryd.prog
  (builtinV Builtin.append { toList := [(22 : Nat), (22 : Nat)] } (nat_lit 22)
  { toList := [Value.slice (some a5) (0 : Nat) (0 : Nat), Value.slice q l c] })
  w11 fun (v34 : Value) (w12 : World) =>
  ∃ (q6 : Option Addr),
  ∃ (k14 : Nat),
  ∃ (k15 : Nat),
  v34 = Value.slice q6 k14 k15 ∧
  ∃ (h3 : List Value → World → Prop),
  (((n4 == n6) = true →
  ((n5 == n7) = true →
  ((b3 == b4) = true →
  ((!b5) = true →
  Rets Tryd.prog (20 : Nat) { toList := [Value.slice q l c, Value.int IntKind.i64 i] } w12
  fun (v35 : Value) (w13 : World) =>
  ∃ (q7 : Option Addr),
  ∃ (k16 : Nat),
  ∃ (k17 : Nat),
  v35 = Value.slice q7 k16 k17 ∧
  Rets Tryd.prog (21 : Nat) { toList := [Value.slice q l c, Value.int IntKind.i64 i] } w13
  fun (v36 : Value) (w14 : World) =>
  ∃ (q8 : Option Addr),
  ∃ (k18 : Nat),
  ∃ (k19 : Nat),
  v36 = Value.slice q8 k18 k19 ∧
  Rets Tryd.prog (14 : Nat) { toList := [Value.slice q7 k16 k17, Value.slice q8 k18 k19] } w14
  fun (v37 : Value) (w15 : World) =>
  ∃ (b6 : Bool),
  v37 = Value.bool b6 ∧
  (b6 = true →
  Rets Tryd.prog (14 : Nat) { toList := [Value.slice q l c, Value.slice q6 k14 k15] } w15
  fun (v38 : Value) (w16 : World) =>
  ∃ (b7 : Bool),
  v38 = Value.bool b7 ∧
  (b7 = true →
  Rets Tryd.prog (8 : Nat) { toList := [] } w16 fun (v39 : Value) (w17 : World) =>
  ∃ (b8 : Bool), v39 = Value.bool b8 ∧ h3 [Value.bool b8] w17) ∧
  (b7 = false → h3 [Value.bool false] w16)) ∧
  (b6 = false → h3 [Value.bool false] w15)) ∧
  ((!b5) = false → h3 [Value.bool false] w12)) ∧
  ((b3 == b4) = false → h3 [Value.bool false] w12)) ∧
  ((n5 == n7) = false → h3 [Value.bool false] w12)) ∧
  ((n4 == n6) = false → h3 [Value.bool false] w12)) ∧
  ∀ (w18 : World) (b9 : Bool)
  (v40 v41 v42 v43 v44 v45 v46 v47 v48 v49 v50 v51 v52 v53 v54 v55 v56 v57 v58 v59 v60 v61 v62 v63 v64 v65 v66 v67 v68 v69
  v70 v71 v72 v73 : Value),
  h3 [Value.bool b9] w18 → K (Value.bool b9) w18))
theorem cortadolaw25_SampleLeast_eq (q : Option Addr) (l c : Nat) (q2 : Option Addr) (l2 c2 : Nat) (i : Int) (w : World) (K : Value → World → Prop) : fw Tryd.prog Tryd.f5 (annL [(2, [(7, some 24), (8, some 3), (28, none), (29, none), (30, none), (31, none), (32, none), (33, none), (34, none), (35, none), (36, none), (37, none), (38, none), (39, none), (40, none), (41, none), (42, none), (43, none), (44, none), (45, none), (46, none), (47, none), (48, none)])]) (ordL [(2000001, [(19, 0), (20, 0), (21, 0), (22, 0), (23, 0), (24, 0), (25, 0), (26, 5)]), (7, [(0, 0), (2, 0), (3, 0), (4, 0), (1, 1), (5, 1), (6, 1), (7, 0), (8, 0), (9, 0), (10, 0), (11, 0), (12, 1), (13, 3), (14, 3), (15, 0)]), (2000012, [(6, 5), (71, 0), (72, 0), (73, 0), (74, 0), (75, 0), (76, 0), (77, 0), (78, 0), (79, 0), (80, 0), (81, 0), (82, 0), (83, 0), (84, 0), (85, 0), (86, 0), (87, 0), (88, 0), (89, 0), (90, 0), (91, 0), (92, 0), (93, 0), (94, 0), (95, 0), (96, 0), (97, 0), (98, 0), (99, 0), (100, 0), (101, 0), (102, 0), (103, 0), (104, 0)])]) [.slice q l c, .slice q2 l2 c2, .int .i64 i] w K = cortadolaw25_SampleLeast_m q l c q2 l2 c2 i w K := by kernel_rfl
theorem cortadolaw25_SampleLeast_go (q : Option Addr) (l c : Nat) (q2 : Option Addr) (l2 c2 : Nat) (i : Int) {w : World} {K : Value → World → Prop} (h : cortadolaw25_SampleLeast_m q l c q2 l2 c2 i w K) : Rets Tryd.prog 5 #[.slice q l c, .slice q2 l2 c2, .int .i64 i] w K :=
  calls_of_fw plain mixed Tryd.func5 (by kernel_rfl) (by rw [cortadolaw25_SampleLeast_eq]; exact h)
end Go.Proofs.YtajckpjlliiekaaDoor.Eng
