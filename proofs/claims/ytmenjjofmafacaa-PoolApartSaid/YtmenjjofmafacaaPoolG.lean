/- What the code of these functions asks for: printed by a program of this session's (gens.py) out of the seat's own functions; the kernel checks each row. -/
import Derived.Test.YtmenjjofmafacaaEngH
import Derived.Test.YtmenjjofmafacaaProg
import Derived.Test.YtmenjjofmafacaaBase
namespace Go.Proofs.Ytmenjjofmafacaa.Eng
open Go Go.Proofs
set_option linter.unusedVariables false
set_option maxRecDepth 1000000
def pool_New_int_m (room spare : Int) (w : World) (K : Value → World → Prop) : Prop :=
  NewR (102 : Nat)
  [Value.slice none (0 : Nat) (0 : Nat), Value.int IntKind.i64 (maxI (1 : Int) (minI room (1024 : Int))),
  Value.int IntKind.i64 (maxI (0 : Int) (minI spare (1024 : Int))), Value.int IntKind.i64 (0 : Int)]
  w fun (a1 : Addr) (w1 : World) => K (Value.pointer (some a1)) w1
theorem pool_New_int_eq (room spare : Int) (w : World) (K : Value → World → Prop) : fw Try.prog Try.f16 (annL []) (ordL []) [.int .i64 room, .int .i64 spare] w K = pool_New_int_m room spare w K := by kernel_rfl
theorem pool_New_int_go (room spare : Int) {w : World} {K : Value → World → Prop} (h : pool_New_int_m room spare w K) : Rets Try.prog 16 #[.int .i64 room, .int .i64 spare] w K :=
  calls_of_fw plain mixed Try.func16 (by kernel_rfl) (by rw [pool_New_int_eq]; exact h)
def pool_Pool_int_Take_m (g : Nat) (w : World) (K : Value → World → Prop) : Prop :=
  (false = true → K (Value.slice none (0 : Nat) (0 : Nat)) w) ∧
  (false = false →
  ∃ (q1 : Option Addr),
  ∃ (k1 : Nat),
  ∃ (k2 : Nat),
  cellAt w (Addr.add { block := g, off := (0 : Nat) } (0 : Nat)) (Value.slice q1 k1 k2) ∧
  (decide ((↑k1 : Int) > (0 : Int)) = true →
  ∃ (q2 : Option Addr),
  ∃ (k3 : Nat),
  ∃ (k4 : Nat),
  cellAt w (Addr.add { block := g, off := (0 : Nat) } (0 : Nat)) (Value.slice q2 k3 k4) ∧
  (0 : Int) ≤ IntKind.wrap IntKind.i64 ((↑k1 : Int) - (1 : Int)) ∧
  IntKind.wrap IntKind.i64 ((↑k1 : Int) - (1 : Int)) < (↑k3 : Int) ∧
  someR q2 fun (a1 : Addr) =>
  ∃ (q3 : Option Addr),
  ∃ (k5 : Nat),
  ∃ (k6 : Nat),
  cellAt w (Addr.add a1 (Int.toNat (IntKind.wrap IntKind.i64 ((↑k1 : Int) - (1 : Int))) * (1 : Nat)))
  (Value.slice q3 k5 k6) ∧
  ∃ (q4 : Option Addr),
  ∃ (k7 : Nat),
  ∃ (k8 : Nat),
  cellAt w (Addr.add { block := g, off := (0 : Nat) } (0 : Nat)) (Value.slice q4 k7 k8) ∧
  (0 : Int) ≤ IntKind.wrap IntKind.i64 ((↑k1 : Int) - (1 : Int)) ∧
  IntKind.wrap IntKind.i64 ((↑k1 : Int) - (1 : Int)) < (↑k7 : Int) ∧
  someR q4 fun (a2 : Addr) =>
  StoreR (Addr.add a2 (Int.toNat (IntKind.wrap IntKind.i64 ((↑k1 : Int) - (1 : Int))) * (1 : Nat)))
  [Value.slice none (0 : Nat) (0 : Nat)] w fun (w1 : World) =>
  ∃ (q5 : Option Addr),
  ∃ (k9 : Nat),
  ∃ (k10 : Nat),
  cellAt w1 (Addr.add { block := g, off := (0 : Nat) } (0 : Nat)) (Value.slice q5 k9 k10) ∧
  (0 : Int) ≤ IntKind.wrap IntKind.i64 ((↑k1 : Int) - (1 : Int)) ∧
  IntKind.wrap IntKind.i64 ((↑k1 : Int) - (1 : Int)) ≤ (↑k10 : Int) ∧
  StoreR (Addr.add { block := g, off := (0 : Nat) } (0 : Nat))
  [Value.slice (slcA q5 (0 : Nat) k10 (1 : Nat))
  (Int.toNat (IntKind.wrap IntKind.i64 ((↑k1 : Int) - (1 : Int))) - (0 : Nat)) (k10 - (0 : Nat))]
  w1 fun (w2 : World) => K (Value.slice q3 k5 k6) w2) ∧
  (decide ((↑k1 : Int) > (0 : Int)) = false →
  ∃ (n1 : Int),
  cellAt w (Addr.add { block := g, off := (0 : Nat) } (3 : Nat)) (Value.int IntKind.i64 n1) ∧
  StoreR (Addr.add { block := g, off := (0 : Nat) } (3 : Nat))
  [Value.int IntKind.i64 (IntKind.wrap IntKind.i64 (n1 + (1 : Int)))] w fun (w3 : World) =>
  ∃ (n2 : Int),
  cellAt w3 (Addr.add { block := g, off := (0 : Nat) } (1 : Nat)) (Value.int IntKind.i64 n2) ∧
  MakeR (3 : Nat) [Value.int IntKind.i64 (0 : Int)] (8 : Nat) (0 : Int) n2 w3 fun (a3 : Addr) (w4 : World) =>
  K (Value.slice (some a3) (0 : Nat) (Int.toNat n2)) w4))
theorem pool_Pool_int_Take_eq (g : Nat) (w : World) (K : Value → World → Prop) : fw Try.prog Try.f18 (annL []) (ordL []) [.pointer (some ⟨g, 0, none⟩)] w K = pool_Pool_int_Take_m g w K := by kernel_rfl
theorem pool_Pool_int_Take_go (g : Nat) {w : World} {K : Value → World → Prop} (h : pool_Pool_int_Take_m g w K) : Rets Try.prog 18 #[.pointer (some ⟨g, 0, none⟩)] w K :=
  calls_of_fw plain mixed Try.func18 (by kernel_rfl) (by rw [pool_Pool_int_Take_eq]; exact h)
def pool_nil_int_Take_m  (w : World) (K : Value → World → Prop) : Prop :=
  (true = true → K (Value.slice none (0 : Nat) (0 : Nat)) w) ∧ (true = false → False)
theorem pool_nil_int_Take_eq  (w : World) (K : Value → World → Prop) : fw Try.prog Try.f18 (annL []) (ordL []) [.pointer none] w K = pool_nil_int_Take_m  w K := by kernel_rfl
theorem pool_nil_int_Take_go  {w : World} {K : Value → World → Prop} (h : pool_nil_int_Take_m  w K) : Rets Try.prog 18 #[.pointer none] w K :=
  calls_of_fw plain mixed Try.func18 (by kernel_rfl) (by rw [pool_nil_int_Take_eq]; exact h)
def pool_Pool_int_Give_m (g : Nat) (q : Option Addr) (l c : Nat) (w : World) (K : Value → World → Prop) : Prop :=
  Drw w fun (w1 : World) =>
  (false = false →
  ∃ (q1 : Option Addr),
  ∃ (k1 : Nat),
  ∃ (k2 : Nat),
  cellAt w1 (Addr.add { block := g, off := (0 : Nat) } (0 : Nat)) (Value.slice q1 k1 k2) ∧
  ∃ (n1 : Int),
  cellAt w1 (Addr.add { block := g, off := (0 : Nat) } (2 : Nat)) (Value.int IntKind.i64 n1) ∧
  (decide ((↑k1 : Int) ≥ n1) = false →
  ∃ (n2 : Int),
  cellAt w1 (Addr.add { block := g, off := (0 : Nat) } (1 : Nat)) (Value.int IntKind.i64 n2) ∧
  (((↑c : Int) != n2) = true → K (Value.bool false) w1) ∧
  (((↑c : Int) != n2) = false →
  ∃ (n3 : Int),
  cellAt w1 (Addr.add { block := g, off := (0 : Nat) } (1 : Nat)) (Value.int IntKind.i64 n3) ∧
  (0 : Int) ≤ n3 ∧
  n3 ≤ (↑c : Int) ∧
  RunR Try.prog
  (builtinV Builtin.clear { toList := [(26 : Nat)] } (nat_lit 0)
  { toList := [Value.slice (slcA q (0 : Nat) c (1 : Nat)) (Int.toNat n3 - (0 : Nat)) (c - (0 : Nat))] })
  w1 fun (v1 : Value) (w2 : World) =>
  v1 = Value.tuple { toList := [] } ∧
  Drw w2 fun (w3 : World) =>
  ∃ (h1 : World → Prop),
  h1 w3 ∧
  (0 : Int) ≤ (0 : Int) ∧
  (0 : Int) ≤ (↑(c - (0 : Nat)) : Int) ∧
  ∃ (q2 : Option Addr),
  ∃ (k3 : Nat),
  ∃ (k4 : Nat),
  (∀ (w4 : World),
  h1 w4 → World.cell? w4 (Addr.add { block := g, off := (0 : Nat) } (0 : Nat)) = some (Value.slice q2 k3 k4)) ∧
  NewR (26 : Nat)
  [Value.slice (slcA (slcA q (0 : Nat) c (1 : Nat)) (0 : Nat) (c - (0 : Nat)) (1 : Nat)) (0 : Nat)
  (c - (0 : Nat) - (0 : Nat))]
  w3 fun (a1 : Addr) (w5 : World) =>
  h1 w5 ∧
  RunR Try.prog
  (builtinV Builtin.append { toList := [(32 : Nat), (32 : Nat)] } (nat_lit 32)
  { toList := [Value.slice q2 k3 k4, Value.slice (some a1) (1 : Nat) (1 : Nat)] })
  w5 fun (v2 : Value) (w6 : World) =>
  ∃ (q3 : Option Addr),
  ∃ (k5 : Nat),
  ∃ (k6 : Nat),
  v2 = Value.slice q3 k5 k6 ∧
  StoreR (Addr.add { block := g, off := (0 : Nat) } (0 : Nat)) [Value.slice q3 k5 k6] w6 fun (w7 : World) =>
  K (Value.bool true) w7)) ∧
  (decide ((↑k1 : Int) ≥ n1) = true → K (Value.bool false) w1)) ∧
  (false = true → K (Value.bool false) w1)
theorem pool_Pool_int_Give_eq (g : Nat) (q : Option Addr) (l c : Nat) (w : World) (K : Value → World → Prop) : fw Try.prog Try.f21 (annL []) (ordL [(1, [(0, 0), (1, 0), (2, 0), (3, 0), (4, 0), (5, 0), (8, 0), (9, 0), (10, 0), (6, 1), (7, 0), (11, 1), (12, 0), (13, 0), (14, 0), (15, 0), (16, 0), (17, 0), (18, 0), (19, 0), (20, 1), (21, 0), (22, 0)]), (5, [(0, 0), (1, 0), (2, 0), (3, 0), (5, 0), (6, 0), (4, 1), (7, 2), (8, 3), (9, 0), (10, 0), (11, 3)])]) [.pointer (some ⟨g, 0, none⟩), .slice q l c] w K = pool_Pool_int_Give_m g q l c w K := by kernel_rfl
theorem pool_Pool_int_Give_go (g : Nat) (q : Option Addr) (l c : Nat) {w : World} {K : Value → World → Prop} (h : pool_Pool_int_Give_m g q l c w K) : Rets Try.prog 21 #[.pointer (some ⟨g, 0, none⟩), .slice q l c] w K :=
  calls_of_fw plain mixed Try.func21 (by kernel_rfl) (by rw [pool_Pool_int_Give_eq]; exact h)
def pool_nil_int_Give_m (q : Option Addr) (l c : Nat) (w : World) (K : Value → World → Prop) : Prop :=
  Drw w fun (w1 : World) => (true = false → False) ∧ (true = true → K (Value.bool false) w1)
theorem pool_nil_int_Give_eq (q : Option Addr) (l c : Nat) (w : World) (K : Value → World → Prop) : fw Try.prog Try.f21 (annL []) (ordL [(1, [(0, 0), (1, 0), (2, 0), (3, 0), (4, 0), (5, 0), (8, 0), (9, 0), (10, 0), (6, 1), (7, 0), (11, 1), (12, 0), (13, 0), (14, 0), (15, 0), (16, 0), (17, 0), (18, 0), (19, 0), (20, 1), (21, 0), (22, 0)]), (5, [(0, 0), (1, 0), (2, 0), (3, 0), (5, 0), (6, 0), (4, 1), (7, 2), (8, 3), (9, 0), (10, 0), (11, 3)])]) [.pointer none, .slice q l c] w K = pool_nil_int_Give_m q l c w K := by kernel_rfl
theorem pool_nil_int_Give_go (q : Option Addr) (l c : Nat) {w : World} {K : Value → World → Prop} (h : pool_nil_int_Give_m q l c w K) : Rets Try.prog 21 #[.pointer none, .slice q l c] w K :=
  calls_of_fw plain mixed Try.func21 (by kernel_rfl) (by rw [pool_nil_int_Give_eq]; exact h)
def pool_Pool_int_Made_m (g : Nat) (w : World) (K : Value → World → Prop) : Prop :=
  (false = true → K (Value.int IntKind.i64 (0 : Int)) w) ∧
  (false = false →
  ∃ (n1 : Int),
  cellAt w (Addr.add { block := g, off := (0 : Nat) } (3 : Nat)) (Value.int IntKind.i64 n1) ∧
  K (Value.int IntKind.i64 n1) w)
theorem pool_Pool_int_Made_eq (g : Nat) (w : World) (K : Value → World → Prop) : fw Try.prog Try.f22 (annL []) (ordL []) [.pointer (some ⟨g, 0, none⟩)] w K = pool_Pool_int_Made_m g w K := by kernel_rfl
theorem pool_Pool_int_Made_go (g : Nat) {w : World} {K : Value → World → Prop} (h : pool_Pool_int_Made_m g w K) : Rets Try.prog 22 #[.pointer (some ⟨g, 0, none⟩)] w K :=
  calls_of_fw plain mixed Try.func22 (by kernel_rfl) (by rw [pool_Pool_int_Made_eq]; exact h)
def pool_nil_int_Made_m  (w : World) (K : Value → World → Prop) : Prop :=
  (true = true → K (Value.int IntKind.i64 (0 : Int)) w) ∧ (true = false → False)
theorem pool_nil_int_Made_eq  (w : World) (K : Value → World → Prop) : fw Try.prog Try.f22 (annL []) (ordL []) [.pointer none] w K = pool_nil_int_Made_m  w K := by kernel_rfl
theorem pool_nil_int_Made_go  {w : World} {K : Value → World → Prop} (h : pool_nil_int_Made_m  w K) : Rets Try.prog 22 #[.pointer none] w K :=
  calls_of_fw plain mixed Try.func22 (by kernel_rfl) (by rw [pool_nil_int_Made_eq]; exact h)
def pool_Pool_int_Spare_m (g : Nat) (w : World) (K : Value → World → Prop) : Prop :=
  (false = true → K (Value.int IntKind.i64 (0 : Int)) w) ∧
  (false = false →
  ∃ (q1 : Option Addr),
  ∃ (k1 : Nat),
  ∃ (k2 : Nat),
  cellAt w (Addr.add { block := g, off := (0 : Nat) } (0 : Nat)) (Value.slice q1 k1 k2) ∧
  K (Value.int IntKind.i64 (↑k1 : Int)) w)
theorem pool_Pool_int_Spare_eq (g : Nat) (w : World) (K : Value → World → Prop) : fw Try.prog Try.f23 (annL []) (ordL []) [.pointer (some ⟨g, 0, none⟩)] w K = pool_Pool_int_Spare_m g w K := by kernel_rfl
theorem pool_Pool_int_Spare_go (g : Nat) {w : World} {K : Value → World → Prop} (h : pool_Pool_int_Spare_m g w K) : Rets Try.prog 23 #[.pointer (some ⟨g, 0, none⟩)] w K :=
  calls_of_fw plain mixed Try.func23 (by kernel_rfl) (by rw [pool_Pool_int_Spare_eq]; exact h)
def pool_nil_int_Spare_m  (w : World) (K : Value → World → Prop) : Prop :=
  (true = true → K (Value.int IntKind.i64 (0 : Int)) w) ∧ (true = false → False)
theorem pool_nil_int_Spare_eq  (w : World) (K : Value → World → Prop) : fw Try.prog Try.f23 (annL []) (ordL []) [.pointer none] w K = pool_nil_int_Spare_m  w K := by kernel_rfl
theorem pool_nil_int_Spare_go  {w : World} {K : Value → World → Prop} (h : pool_nil_int_Spare_m  w K) : Rets Try.prog 23 #[.pointer none] w K :=
  calls_of_fw plain mixed Try.func23 (by kernel_rfl) (by rw [pool_nil_int_Spare_eq]; exact h)
def pool_Pool_int_Room_m (g : Nat) (w : World) (K : Value → World → Prop) : Prop :=
  (false = true → K (Value.int IntKind.i64 (0 : Int)) w) ∧
  (false = false →
  ∃ (n1 : Int),
  cellAt w (Addr.add { block := g, off := (0 : Nat) } (1 : Nat)) (Value.int IntKind.i64 n1) ∧
  K (Value.int IntKind.i64 n1) w)
theorem pool_Pool_int_Room_eq (g : Nat) (w : World) (K : Value → World → Prop) : fw Try.prog Try.f24 (annL []) (ordL []) [.pointer (some ⟨g, 0, none⟩)] w K = pool_Pool_int_Room_m g w K := by kernel_rfl
theorem pool_Pool_int_Room_go (g : Nat) {w : World} {K : Value → World → Prop} (h : pool_Pool_int_Room_m g w K) : Rets Try.prog 24 #[.pointer (some ⟨g, 0, none⟩)] w K :=
  calls_of_fw plain mixed Try.func24 (by kernel_rfl) (by rw [pool_Pool_int_Room_eq]; exact h)
def pool_nil_int_Room_m  (w : World) (K : Value → World → Prop) : Prop :=
  (true = true → K (Value.int IntKind.i64 (0 : Int)) w) ∧ (true = false → False)
theorem pool_nil_int_Room_eq  (w : World) (K : Value → World → Prop) : fw Try.prog Try.f24 (annL []) (ordL []) [.pointer none] w K = pool_nil_int_Room_m  w K := by kernel_rfl
theorem pool_nil_int_Room_go  {w : World} {K : Value → World → Prop} (h : pool_nil_int_Room_m  w K) : Rets Try.prog 24 #[.pointer none] w K :=
  calls_of_fw plain mixed Try.func24 (by kernel_rfl) (by rw [pool_nil_int_Room_eq]; exact h)
def pool_New_string_m (room spare : Int) (w : World) (K : Value → World → Prop) : Prop :=
  NewR (104 : Nat)
  [Value.slice none (0 : Nat) (0 : Nat), Value.int IntKind.i64 (maxI (1 : Int) (minI room (1024 : Int))),
  Value.int IntKind.i64 (maxI (0 : Int) (minI spare (1024 : Int))), Value.int IntKind.i64 (0 : Int)]
  w fun (a1 : Addr) (w1 : World) => K (Value.pointer (some a1)) w1
theorem pool_New_string_eq (room spare : Int) (w : World) (K : Value → World → Prop) : fw Try.prog Try.f25 (annL []) (ordL []) [.int .i64 room, .int .i64 spare] w K = pool_New_string_m room spare w K := by kernel_rfl
theorem pool_New_string_go (room spare : Int) {w : World} {K : Value → World → Prop} (h : pool_New_string_m room spare w K) : Rets Try.prog 25 #[.int .i64 room, .int .i64 spare] w K :=
  calls_of_fw plain mixed Try.func25 (by kernel_rfl) (by rw [pool_New_string_eq]; exact h)
def pool_Pool_string_Take_m (g : Nat) (w : World) (K : Value → World → Prop) : Prop :=
  (false = true → K (Value.slice none (0 : Nat) (0 : Nat)) w) ∧
  (false = false →
  ∃ (q1 : Option Addr),
  ∃ (k1 : Nat),
  ∃ (k2 : Nat),
  cellAt w (Addr.add { block := g, off := (0 : Nat) } (0 : Nat)) (Value.slice q1 k1 k2) ∧
  (decide ((↑k1 : Int) > (0 : Int)) = true →
  ∃ (q2 : Option Addr),
  ∃ (k3 : Nat),
  ∃ (k4 : Nat),
  cellAt w (Addr.add { block := g, off := (0 : Nat) } (0 : Nat)) (Value.slice q2 k3 k4) ∧
  (0 : Int) ≤ IntKind.wrap IntKind.i64 ((↑k1 : Int) - (1 : Int)) ∧
  IntKind.wrap IntKind.i64 ((↑k1 : Int) - (1 : Int)) < (↑k3 : Int) ∧
  someR q2 fun (a1 : Addr) =>
  ∃ (q3 : Option Addr),
  ∃ (k5 : Nat),
  ∃ (k6 : Nat),
  cellAt w (Addr.add a1 (Int.toNat (IntKind.wrap IntKind.i64 ((↑k1 : Int) - (1 : Int))) * (1 : Nat)))
  (Value.slice q3 k5 k6) ∧
  ∃ (q4 : Option Addr),
  ∃ (k7 : Nat),
  ∃ (k8 : Nat),
  cellAt w (Addr.add { block := g, off := (0 : Nat) } (0 : Nat)) (Value.slice q4 k7 k8) ∧
  (0 : Int) ≤ IntKind.wrap IntKind.i64 ((↑k1 : Int) - (1 : Int)) ∧
  IntKind.wrap IntKind.i64 ((↑k1 : Int) - (1 : Int)) < (↑k7 : Int) ∧
  someR q4 fun (a2 : Addr) =>
  StoreR (Addr.add a2 (Int.toNat (IntKind.wrap IntKind.i64 ((↑k1 : Int) - (1 : Int))) * (1 : Nat)))
  [Value.slice none (0 : Nat) (0 : Nat)] w fun (w1 : World) =>
  ∃ (q5 : Option Addr),
  ∃ (k9 : Nat),
  ∃ (k10 : Nat),
  cellAt w1 (Addr.add { block := g, off := (0 : Nat) } (0 : Nat)) (Value.slice q5 k9 k10) ∧
  (0 : Int) ≤ IntKind.wrap IntKind.i64 ((↑k1 : Int) - (1 : Int)) ∧
  IntKind.wrap IntKind.i64 ((↑k1 : Int) - (1 : Int)) ≤ (↑k10 : Int) ∧
  StoreR (Addr.add { block := g, off := (0 : Nat) } (0 : Nat))
  [Value.slice (slcA q5 (0 : Nat) k10 (1 : Nat))
  (Int.toNat (IntKind.wrap IntKind.i64 ((↑k1 : Int) - (1 : Int))) - (0 : Nat)) (k10 - (0 : Nat))]
  w1 fun (w2 : World) => K (Value.slice q3 k5 k6) w2) ∧
  (decide ((↑k1 : Int) > (0 : Int)) = false →
  ∃ (n1 : Int),
  cellAt w (Addr.add { block := g, off := (0 : Nat) } (3 : Nat)) (Value.int IntKind.i64 n1) ∧
  StoreR (Addr.add { block := g, off := (0 : Nat) } (3 : Nat))
  [Value.int IntKind.i64 (IntKind.wrap IntKind.i64 (n1 + (1 : Int)))] w fun (w3 : World) =>
  ∃ (n2 : Int),
  cellAt w3 (Addr.add { block := g, off := (0 : Nat) } (1 : Nat)) (Value.int IntKind.i64 n2) ∧
  MakeR (9 : Nat) [Value.string { data := #[] }] (16 : Nat) (0 : Int) n2 w3 fun (a3 : Addr) (w4 : World) =>
  K (Value.slice (some a3) (0 : Nat) (Int.toNat n2)) w4))
theorem pool_Pool_string_Take_eq (g : Nat) (w : World) (K : Value → World → Prop) : fw Try.prog Try.f26 (annL []) (ordL []) [.pointer (some ⟨g, 0, none⟩)] w K = pool_Pool_string_Take_m g w K := by kernel_rfl
theorem pool_Pool_string_Take_go (g : Nat) {w : World} {K : Value → World → Prop} (h : pool_Pool_string_Take_m g w K) : Rets Try.prog 26 #[.pointer (some ⟨g, 0, none⟩)] w K :=
  calls_of_fw plain mixed Try.func26 (by kernel_rfl) (by rw [pool_Pool_string_Take_eq]; exact h)
def pool_nil_string_Take_m  (w : World) (K : Value → World → Prop) : Prop :=
  (true = true → K (Value.slice none (0 : Nat) (0 : Nat)) w) ∧ (true = false → False)
theorem pool_nil_string_Take_eq  (w : World) (K : Value → World → Prop) : fw Try.prog Try.f26 (annL []) (ordL []) [.pointer none] w K = pool_nil_string_Take_m  w K := by kernel_rfl
theorem pool_nil_string_Take_go  {w : World} {K : Value → World → Prop} (h : pool_nil_string_Take_m  w K) : Rets Try.prog 26 #[.pointer none] w K :=
  calls_of_fw plain mixed Try.func26 (by kernel_rfl) (by rw [pool_nil_string_Take_eq]; exact h)
def pool_Pool_string_Give_m (g : Nat) (q : Option Addr) (l c : Nat) (w : World) (K : Value → World → Prop) : Prop :=
  Drw w fun (w1 : World) =>
  (false = false →
  ∃ (q1 : Option Addr),
  ∃ (k1 : Nat),
  ∃ (k2 : Nat),
  cellAt w1 (Addr.add { block := g, off := (0 : Nat) } (0 : Nat)) (Value.slice q1 k1 k2) ∧
  ∃ (n1 : Int),
  cellAt w1 (Addr.add { block := g, off := (0 : Nat) } (2 : Nat)) (Value.int IntKind.i64 n1) ∧
  (decide ((↑k1 : Int) ≥ n1) = false →
  ∃ (n2 : Int),
  cellAt w1 (Addr.add { block := g, off := (0 : Nat) } (1 : Nat)) (Value.int IntKind.i64 n2) ∧
  (((↑c : Int) != n2) = true → K (Value.bool false) w1) ∧
  (((↑c : Int) != n2) = false →
  ∃ (n3 : Int),
  cellAt w1 (Addr.add { block := g, off := (0 : Nat) } (1 : Nat)) (Value.int IntKind.i64 n3) ∧
  (0 : Int) ≤ n3 ∧
  n3 ≤ (↑c : Int) ∧
  RunR Try.prog
  (builtinV Builtin.clear { toList := [(44 : Nat)] } (nat_lit 0)
  { toList := [Value.slice (slcA q (0 : Nat) c (1 : Nat)) (Int.toNat n3 - (0 : Nat)) (c - (0 : Nat))] })
  w1 fun (v1 : Value) (w2 : World) =>
  v1 = Value.tuple { toList := [] } ∧
  Drw w2 fun (w3 : World) =>
  ∃ (h1 : World → Prop),
  h1 w3 ∧
  (0 : Int) ≤ (0 : Int) ∧
  (0 : Int) ≤ (↑(c - (0 : Nat)) : Int) ∧
  ∃ (q2 : Option Addr),
  ∃ (k3 : Nat),
  ∃ (k4 : Nat),
  (∀ (w4 : World),
  h1 w4 → World.cell? w4 (Addr.add { block := g, off := (0 : Nat) } (0 : Nat)) = some (Value.slice q2 k3 k4)) ∧
  NewR (44 : Nat)
  [Value.slice (slcA (slcA q (0 : Nat) c (1 : Nat)) (0 : Nat) (c - (0 : Nat)) (1 : Nat)) (0 : Nat)
  (c - (0 : Nat) - (0 : Nat))]
  w3 fun (a1 : Addr) (w5 : World) =>
  h1 w5 ∧
  RunR Try.prog
  (builtinV Builtin.append { toList := [(43 : Nat), (43 : Nat)] } (nat_lit 43)
  { toList := [Value.slice q2 k3 k4, Value.slice (some a1) (1 : Nat) (1 : Nat)] })
  w5 fun (v2 : Value) (w6 : World) =>
  ∃ (q3 : Option Addr),
  ∃ (k5 : Nat),
  ∃ (k6 : Nat),
  v2 = Value.slice q3 k5 k6 ∧
  StoreR (Addr.add { block := g, off := (0 : Nat) } (0 : Nat)) [Value.slice q3 k5 k6] w6 fun (w7 : World) =>
  K (Value.bool true) w7)) ∧
  (decide ((↑k1 : Int) ≥ n1) = true → K (Value.bool false) w1)) ∧
  (false = true → K (Value.bool false) w1)
theorem pool_Pool_string_Give_eq (g : Nat) (q : Option Addr) (l c : Nat) (w : World) (K : Value → World → Prop) : fw Try.prog Try.f28 (annL []) (ordL [(1, [(0, 0), (1, 0), (2, 0), (3, 0), (4, 0), (5, 0), (8, 0), (9, 0), (10, 0), (6, 1), (7, 0), (11, 1), (12, 0), (13, 0), (14, 0), (15, 0), (16, 0), (17, 0), (18, 0), (19, 0), (20, 1), (21, 0), (22, 0)]), (5, [(0, 0), (1, 0), (2, 0), (3, 0), (5, 0), (6, 0), (4, 1), (7, 2), (8, 3), (9, 0), (10, 0), (11, 3)])]) [.pointer (some ⟨g, 0, none⟩), .slice q l c] w K = pool_Pool_string_Give_m g q l c w K := by kernel_rfl
theorem pool_Pool_string_Give_go (g : Nat) (q : Option Addr) (l c : Nat) {w : World} {K : Value → World → Prop} (h : pool_Pool_string_Give_m g q l c w K) : Rets Try.prog 28 #[.pointer (some ⟨g, 0, none⟩), .slice q l c] w K :=
  calls_of_fw plain mixed Try.func28 (by kernel_rfl) (by rw [pool_Pool_string_Give_eq]; exact h)
def pool_nil_string_Give_m (q : Option Addr) (l c : Nat) (w : World) (K : Value → World → Prop) : Prop :=
  Drw w fun (w1 : World) => (true = false → False) ∧ (true = true → K (Value.bool false) w1)
theorem pool_nil_string_Give_eq (q : Option Addr) (l c : Nat) (w : World) (K : Value → World → Prop) : fw Try.prog Try.f28 (annL []) (ordL [(1, [(0, 0), (1, 0), (2, 0), (3, 0), (4, 0), (5, 0), (8, 0), (9, 0), (10, 0), (6, 1), (7, 0), (11, 1), (12, 0), (13, 0), (14, 0), (15, 0), (16, 0), (17, 0), (18, 0), (19, 0), (20, 1), (21, 0), (22, 0)]), (5, [(0, 0), (1, 0), (2, 0), (3, 0), (5, 0), (6, 0), (4, 1), (7, 2), (8, 3), (9, 0), (10, 0), (11, 3)])]) [.pointer none, .slice q l c] w K = pool_nil_string_Give_m q l c w K := by kernel_rfl
theorem pool_nil_string_Give_go (q : Option Addr) (l c : Nat) {w : World} {K : Value → World → Prop} (h : pool_nil_string_Give_m q l c w K) : Rets Try.prog 28 #[.pointer none, .slice q l c] w K :=
  calls_of_fw plain mixed Try.func28 (by kernel_rfl) (by rw [pool_nil_string_Give_eq]; exact h)
def pool_Pool_string_Room_m (g : Nat) (w : World) (K : Value → World → Prop) : Prop :=
  (false = true → K (Value.int IntKind.i64 (0 : Int)) w) ∧
  (false = false →
  ∃ (n1 : Int),
  cellAt w (Addr.add { block := g, off := (0 : Nat) } (1 : Nat)) (Value.int IntKind.i64 n1) ∧
  K (Value.int IntKind.i64 n1) w)
theorem pool_Pool_string_Room_eq (g : Nat) (w : World) (K : Value → World → Prop) : fw Try.prog Try.f27 (annL []) (ordL []) [.pointer (some ⟨g, 0, none⟩)] w K = pool_Pool_string_Room_m g w K := by kernel_rfl
theorem pool_Pool_string_Room_go (g : Nat) {w : World} {K : Value → World → Prop} (h : pool_Pool_string_Room_m g w K) : Rets Try.prog 27 #[.pointer (some ⟨g, 0, none⟩)] w K :=
  calls_of_fw plain mixed Try.func27 (by kernel_rfl) (by rw [pool_Pool_string_Room_eq]; exact h)
def pool_nil_string_Room_m  (w : World) (K : Value → World → Prop) : Prop :=
  (true = true → K (Value.int IntKind.i64 (0 : Int)) w) ∧ (true = false → False)
theorem pool_nil_string_Room_eq  (w : World) (K : Value → World → Prop) : fw Try.prog Try.f27 (annL []) (ordL []) [.pointer none] w K = pool_nil_string_Room_m  w K := by kernel_rfl
theorem pool_nil_string_Room_go  {w : World} {K : Value → World → Prop} (h : pool_nil_string_Room_m  w K) : Rets Try.prog 27 #[.pointer none] w K :=
  calls_of_fw plain mixed Try.func27 (by kernel_rfl) (by rw [pool_nil_string_Room_eq]; exact h)
def cortadoref09_New_m (room spare : Int) (w : World) (K : Value → World → Prop) : Prop :=
  NewR (30 : Nat)
  [Value.int IntKind.i64 (0 : Int), Value.int IntKind.i64 (0 : Int), Value.int IntKind.i64 (0 : Int),
  Value.int IntKind.i64 (0 : Int)]
  w fun (a1 : Addr) (w1 : World) =>
  StoreR a1
  [Value.int IntKind.i64 (maxI (1 : Int) (minI room (1024 : Int))),
  Value.int IntKind.i64 (maxI (0 : Int) (minI spare (1024 : Int))), Value.int IntKind.i64 (0 : Int),
  Value.int IntKind.i64 (0 : Int)]
  w1 fun (w2 : World) =>
  ∃ (n1 : Int),
  ∃ (n2 : Int),
  ∃ (n3 : Int),
  ∃ (n4 : Int),
  (cellAt w2 (Addr.add a1 (0 : Nat)) (Value.int IntKind.i64 n1) ∧
  cellAt w2 (Addr.add a1 (1 : Nat)) (Value.int IntKind.i64 n2) ∧
  cellAt w2 (Addr.add a1 (2 : Nat)) (Value.int IntKind.i64 n3) ∧
  cellAt w2 (Addr.add a1 (3 : Nat)) (Value.int IntKind.i64 n4)) ∧
  K
  (Value.agg
  { toList := [Value.int IntKind.i64 n1, Value.int IntKind.i64 n2, Value.int IntKind.i64 n3, Value.int IntKind.i64 n4] })
  w2
theorem cortadoref09_New_eq (room spare : Int) (w : World) (K : Value → World → Prop) : fw Try.prog Try.f17 (annL []) (ordL []) [.int .i64 room, .int .i64 spare] w K = cortadoref09_New_m room spare w K := by kernel_rfl
theorem cortadoref09_New_go (room spare : Int) {w : World} {K : Value → World → Prop} (h : cortadoref09_New_m room spare w K) : Rets Try.prog 17 #[.int .i64 room, .int .i64 spare] w K :=
  calls_of_fw plain mixed Try.func17 (by kernel_rfl) (by rw [cortadoref09_New_eq]; exact h)
def cortadoref09_Take_m (a b c d : Int) (w : World) (K : Value → World → Prop) : Prop :=
  NewR (30 : Nat) [Value.int IntKind.i64 a, Value.int IntKind.i64 b, Value.int IntKind.i64 c, Value.int IntKind.i64 d] w
  fun (a1 : Addr) (w1 : World) =>
  NewR (30 : Nat)
  [Value.int IntKind.i64 (0 : Int), Value.int IntKind.i64 (0 : Int), Value.int IntKind.i64 (0 : Int),
  Value.int IntKind.i64 (0 : Int)]
  w1 fun (a2 : Addr) (w2 : World) =>
  ∃ (n1 : Int),
  cellAt w2 (Addr.add a1 (3 : Nat)) (Value.int IntKind.i64 n1) ∧
  (decide (n1 > (0 : Int)) = true →
  ∃ (n2 : Int),
  cellAt w2 (Addr.add a1 (3 : Nat)) (Value.int IntKind.i64 n2) ∧
  StoreR (Addr.add a1 (3 : Nat)) [Value.int IntKind.i64 (IntKind.wrap IntKind.i64 (n2 - (1 : Int)))] w2
  fun (w3 : World) =>
  ∃ (n3 : Int),
  ∃ (n4 : Int),
  ∃ (n5 : Int),
  ∃ (n6 : Int),
  (cellAt w3 (Addr.add a1 (0 : Nat)) (Value.int IntKind.i64 n3) ∧
  cellAt w3 (Addr.add a1 (1 : Nat)) (Value.int IntKind.i64 n4) ∧
  cellAt w3 (Addr.add a1 (2 : Nat)) (Value.int IntKind.i64 n5) ∧
  cellAt w3 (Addr.add a1 (3 : Nat)) (Value.int IntKind.i64 n6)) ∧
  StoreR a2 [Value.int IntKind.i64 n3, Value.int IntKind.i64 n4, Value.int IntKind.i64 n5, Value.int IntKind.i64 n6] w3
  fun (w4 : World) =>
  ∃ (n7 : Int),
  ∃ (n8 : Int),
  ∃ (n9 : Int),
  ∃ (n10 : Int),
  (cellAt w4 (Addr.add a2 (0 : Nat)) (Value.int IntKind.i64 n7) ∧
  cellAt w4 (Addr.add a2 (1 : Nat)) (Value.int IntKind.i64 n8) ∧
  cellAt w4 (Addr.add a2 (2 : Nat)) (Value.int IntKind.i64 n9) ∧
  cellAt w4 (Addr.add a2 (3 : Nat)) (Value.int IntKind.i64 n10)) ∧
  K
  (Value.agg
  { toList := [Value.int IntKind.i64 n7, Value.int IntKind.i64 n8, Value.int IntKind.i64 n9, Value.int IntKind.i64 n10] })
  w4) ∧
  (decide (n1 > (0 : Int)) = false →
  ∃ (n11 : Int),
  cellAt w2 (Addr.add a1 (2 : Nat)) (Value.int IntKind.i64 n11) ∧
  StoreR (Addr.add a1 (2 : Nat)) [Value.int IntKind.i64 (IntKind.wrap IntKind.i64 (n11 + (1 : Int)))] w2
  fun (w5 : World) =>
  ∃ (n12 : Int),
  ∃ (n13 : Int),
  ∃ (n14 : Int),
  ∃ (n15 : Int),
  (cellAt w5 (Addr.add a1 (0 : Nat)) (Value.int IntKind.i64 n12) ∧
  cellAt w5 (Addr.add a1 (1 : Nat)) (Value.int IntKind.i64 n13) ∧
  cellAt w5 (Addr.add a1 (2 : Nat)) (Value.int IntKind.i64 n14) ∧
  cellAt w5 (Addr.add a1 (3 : Nat)) (Value.int IntKind.i64 n15)) ∧
  StoreR a2 [Value.int IntKind.i64 n12, Value.int IntKind.i64 n13, Value.int IntKind.i64 n14, Value.int IntKind.i64 n15]
  w5 fun (w6 : World) =>
  ∃ (n16 : Int),
  ∃ (n17 : Int),
  ∃ (n18 : Int),
  ∃ (n19 : Int),
  (cellAt w6 (Addr.add a2 (0 : Nat)) (Value.int IntKind.i64 n16) ∧
  cellAt w6 (Addr.add a2 (1 : Nat)) (Value.int IntKind.i64 n17) ∧
  cellAt w6 (Addr.add a2 (2 : Nat)) (Value.int IntKind.i64 n18) ∧
  cellAt w6 (Addr.add a2 (3 : Nat)) (Value.int IntKind.i64 n19)) ∧
  K
  (Value.agg
  {
  toList :=
  [Value.int IntKind.i64 n16, Value.int IntKind.i64 n17, Value.int IntKind.i64 n18, Value.int IntKind.i64 n19] })
  w6)
theorem cortadoref09_Take_eq (a b c d : Int) (w : World) (K : Value → World → Prop) : fw Try.prog Try.f19 (annL []) (ordL []) [.agg #[.int .i64 a, .int .i64 b, .int .i64 c, .int .i64 d]] w K = cortadoref09_Take_m a b c d w K := by kernel_rfl
theorem cortadoref09_Take_go (a b c d : Int) {w : World} {K : Value → World → Prop} (h : cortadoref09_Take_m a b c d w K) : Rets Try.prog 19 #[.agg #[.int .i64 a, .int .i64 b, .int .i64 c, .int .i64 d]] w K :=
  calls_of_fw plain mixed Try.func19 (by kernel_rfl) (by rw [cortadoref09_Take_eq]; exact h)
def cortadoref09_Give_m (a b c d room : Int) (w : World) (K : Value → World → Prop) : Prop :=
  NewR (30 : Nat) [Value.int IntKind.i64 a, Value.int IntKind.i64 b, Value.int IntKind.i64 c, Value.int IntKind.i64 d] w
  fun (a1 : Addr) (w1 : World) =>
  NewR (30 : Nat)
  [Value.int IntKind.i64 (0 : Int), Value.int IntKind.i64 (0 : Int), Value.int IntKind.i64 (0 : Int),
  Value.int IntKind.i64 (0 : Int)]
  w1 fun (a2 : Addr) (w2 : World) =>
  ∃ (n1 : Int),
  cellAt w2 (Addr.add a1 (3 : Nat)) (Value.int IntKind.i64 n1) ∧
  ∃ (n2 : Int),
  cellAt w2 (Addr.add a1 (1 : Nat)) (Value.int IntKind.i64 n2) ∧
  (decide (n1 ≥ n2) = false →
  ∃ (n3 : Int),
  cellAt w2 (Addr.add a1 (0 : Nat)) (Value.int IntKind.i64 n3) ∧
  ((room != n3) = true →
  ∃ (n4 : Int),
  ∃ (n5 : Int),
  ∃ (n6 : Int),
  ∃ (n7 : Int),
  (cellAt w2 (Addr.add a1 (0 : Nat)) (Value.int IntKind.i64 n4) ∧
  cellAt w2 (Addr.add a1 (1 : Nat)) (Value.int IntKind.i64 n5) ∧
  cellAt w2 (Addr.add a1 (2 : Nat)) (Value.int IntKind.i64 n6) ∧
  cellAt w2 (Addr.add a1 (3 : Nat)) (Value.int IntKind.i64 n7)) ∧
  StoreR a2 [Value.int IntKind.i64 n4, Value.int IntKind.i64 n5, Value.int IntKind.i64 n6, Value.int IntKind.i64 n7] w2
  fun (w3 : World) =>
  ∃ (n8 : Int),
  ∃ (n9 : Int),
  ∃ (n10 : Int),
  ∃ (n11 : Int),
  (cellAt w3 (Addr.add a2 (0 : Nat)) (Value.int IntKind.i64 n8) ∧
  cellAt w3 (Addr.add a2 (1 : Nat)) (Value.int IntKind.i64 n9) ∧
  cellAt w3 (Addr.add a2 (2 : Nat)) (Value.int IntKind.i64 n10) ∧
  cellAt w3 (Addr.add a2 (3 : Nat)) (Value.int IntKind.i64 n11)) ∧
  K
  (Value.tuple
  {
  toList :=
  [Value.agg
  {
  toList := [Value.int IntKind.i64 n8, Value.int IntKind.i64 n9, Value.int IntKind.i64 n10, Value.int IntKind.i64 n11] },
  Value.bool false] })
  w3) ∧
  ((room != n3) = false →
  ∃ (n12 : Int),
  cellAt w2 (Addr.add a1 (3 : Nat)) (Value.int IntKind.i64 n12) ∧
  StoreR (Addr.add a1 (3 : Nat)) [Value.int IntKind.i64 (IntKind.wrap IntKind.i64 (n12 + (1 : Int)))] w2
  fun (w4 : World) =>
  ∃ (n13 : Int),
  ∃ (n14 : Int),
  ∃ (n15 : Int),
  ∃ (n16 : Int),
  (cellAt w4 (Addr.add a1 (0 : Nat)) (Value.int IntKind.i64 n13) ∧
  cellAt w4 (Addr.add a1 (1 : Nat)) (Value.int IntKind.i64 n14) ∧
  cellAt w4 (Addr.add a1 (2 : Nat)) (Value.int IntKind.i64 n15) ∧
  cellAt w4 (Addr.add a1 (3 : Nat)) (Value.int IntKind.i64 n16)) ∧
  StoreR a2 [Value.int IntKind.i64 n13, Value.int IntKind.i64 n14, Value.int IntKind.i64 n15, Value.int IntKind.i64 n16]
  w4 fun (w5 : World) =>
  ∃ (n17 : Int),
  ∃ (n18 : Int),
  ∃ (n19 : Int),
  ∃ (n20 : Int),
  (cellAt w5 (Addr.add a2 (0 : Nat)) (Value.int IntKind.i64 n17) ∧
  cellAt w5 (Addr.add a2 (1 : Nat)) (Value.int IntKind.i64 n18) ∧
  cellAt w5 (Addr.add a2 (2 : Nat)) (Value.int IntKind.i64 n19) ∧
  cellAt w5 (Addr.add a2 (3 : Nat)) (Value.int IntKind.i64 n20)) ∧
  K
  (Value.tuple
  {
  toList :=
  [Value.agg
  {
  toList :=
  [Value.int IntKind.i64 n17, Value.int IntKind.i64 n18, Value.int IntKind.i64 n19, Value.int IntKind.i64 n20] },
  Value.bool true] })
  w5)) ∧
  (decide (n1 ≥ n2) = true →
  ∃ (n21 : Int),
  ∃ (n22 : Int),
  ∃ (n23 : Int),
  ∃ (n24 : Int),
  (cellAt w2 (Addr.add a1 (0 : Nat)) (Value.int IntKind.i64 n21) ∧
  cellAt w2 (Addr.add a1 (1 : Nat)) (Value.int IntKind.i64 n22) ∧
  cellAt w2 (Addr.add a1 (2 : Nat)) (Value.int IntKind.i64 n23) ∧
  cellAt w2 (Addr.add a1 (3 : Nat)) (Value.int IntKind.i64 n24)) ∧
  StoreR a2 [Value.int IntKind.i64 n21, Value.int IntKind.i64 n22, Value.int IntKind.i64 n23, Value.int IntKind.i64 n24]
  w2 fun (w6 : World) =>
  ∃ (n25 : Int),
  ∃ (n26 : Int),
  ∃ (n27 : Int),
  ∃ (n28 : Int),
  (cellAt w6 (Addr.add a2 (0 : Nat)) (Value.int IntKind.i64 n25) ∧
  cellAt w6 (Addr.add a2 (1 : Nat)) (Value.int IntKind.i64 n26) ∧
  cellAt w6 (Addr.add a2 (2 : Nat)) (Value.int IntKind.i64 n27) ∧
  cellAt w6 (Addr.add a2 (3 : Nat)) (Value.int IntKind.i64 n28)) ∧
  K
  (Value.tuple
  {
  toList :=
  [Value.agg
  {
  toList :=
  [Value.int IntKind.i64 n25, Value.int IntKind.i64 n26, Value.int IntKind.i64 n27, Value.int IntKind.i64 n28] },
  Value.bool false] })
  w6)
theorem cortadoref09_Give_eq (a b c d room : Int) (w : World) (K : Value → World → Prop) : fw Try.prog Try.f20 (annL []) (ordL []) [.agg #[.int .i64 a, .int .i64 b, .int .i64 c, .int .i64 d], .int .i64 room] w K = cortadoref09_Give_m a b c d room w K := by kernel_rfl
theorem cortadoref09_Give_go (a b c d room : Int) {w : World} {K : Value → World → Prop} (h : cortadoref09_Give_m a b c d room w K) : Rets Try.prog 20 #[.agg #[.int .i64 a, .int .i64 b, .int .i64 c, .int .i64 d], .int .i64 room] w K :=
  calls_of_fw plain mixed Try.func20 (by kernel_rfl) (by rw [cortadoref09_Give_eq]; exact h)
def cortadolaw09_awake_m  (w : World) (K : Value → World → Prop) : Prop :=
  Rets Try.prog (16 : Nat) { toList := [Value.int IntKind.i64 (3 : Int), Value.int IntKind.i64 (2 : Int)] } w
  fun (v1 : Value) (w1 : World) =>
  ∃ (q1 : Option Addr),
  v1 = Value.pointer q1 ∧
  Rets Try.prog (18 : Nat) { toList := [Value.pointer q1] } w1 fun (v2 : Value) (w2 : World) =>
  ∃ (q2 : Option Addr),
  ∃ (k1 : Nat),
  ∃ (k2 : Nat),
  v2 = Value.slice q2 k1 k2 ∧
  Rets Try.prog (24 : Nat) { toList := [Value.pointer q1] } w2 fun (v3 : Value) (w3 : World) =>
  ∃ (n1 : Int),
  v3 = Value.int IntKind.i64 n1 ∧
  ((n1 == (3 : Int)) = true →
  Rets Try.prog (21 : Nat) { toList := [Value.pointer q1, Value.slice q2 k1 k2] } w3 fun (v4 : Value) (w4 : World) =>
  ∃ (b1 : Bool),
  v4 = Value.bool b1 ∧
  (b1 = true →
  Rets Try.prog (18 : Nat) { toList := [Value.pointer q1] } w4 fun (v5 : Value) (w5 : World) =>
  ∃ (q3 : Option Addr),
  ∃ (k3 : Nat),
  ∃ (k4 : Nat),
  v5 = Value.slice q3 k3 k4 ∧
  (((↑k3 : Int) == (0 : Int)) = true →
  Rets Try.prog (22 : Nat) { toList := [Value.pointer q1] } w5 fun (v6 : Value) (w6 : World) =>
  ∃ (n2 : Int), v6 = Value.int IntKind.i64 n2 ∧ K (Value.bool (n2 == (1 : Int))) w6) ∧
  (((↑k3 : Int) == (0 : Int)) = false → K (Value.bool false) w5)) ∧
  (b1 = false → K (Value.bool false) w4)) ∧
  ((n1 == (3 : Int)) = false → K (Value.bool false) w3)
theorem cortadolaw09_awake_eq  (w : World) (K : Value → World → Prop) : fw Try.prog Try.f15 (annL []) (ordL []) [] w K = cortadolaw09_awake_m  w K := by kernel_rfl
theorem cortadolaw09_awake_go  {w : World} {K : Value → World → Prop} (h : cortadolaw09_awake_m  w K) : Rets Try.prog 15 #[] w K :=
  calls_of_fw plain mixed Try.func15 (by kernel_rfl) (by rw [cortadolaw09_awake_eq]; exact h)
def cortadolaw09_PoolPlays_m (room spare : Int) (q : Option Addr) (l c : Nat) (w : World) (K : Value → World → Prop) : Prop :=
  (decide ((↑l : Int) > (40 : Int)) = true →
  Rets Try.prog (15 : Nat) { toList := [] } w fun (v1 : Value) (w1 : World) =>
  ∃ (b1 : Bool), v1 = Value.bool b1 ∧ K (Value.bool b1) w1) ∧
  (decide ((↑l : Int) > (40 : Int)) = false →
  Rets Try.prog (16 : Nat) { toList := [Value.int IntKind.i64 (minI room (20 : Int)), Value.int IntKind.i64 spare] } w
  fun (v2 : Value) (w2 : World) =>
  ∃ (q1 : Option Addr),
  v2 = Value.pointer q1 ∧
  Rets Try.prog (17 : Nat) { toList := [Value.int IntKind.i64 (minI room (20 : Int)), Value.int IntKind.i64 spare] } w2
  fun (v3 : Value) (w3 : World) =>
  ∃ (n1 : Int),
  ∃ (n2 : Int),
  ∃ (n3 : Int),
  ∃ (n4 : Int),
  v3 =
  Value.agg
  { toList := [Value.int IntKind.i64 n1, Value.int IntKind.i64 n2, Value.int IntKind.i64 n3, Value.int IntKind.i64 n4] } ∧
  NewR (30 : Nat)
  [Value.int IntKind.i64 (0 : Int), Value.int IntKind.i64 (0 : Int), Value.int IntKind.i64 (0 : Int),
  Value.int IntKind.i64 (0 : Int)]
  w3 fun (a1 : Addr) (w4 : World) =>
  StoreR a1 [Value.int IntKind.i64 n1, Value.int IntKind.i64 n2, Value.int IntKind.i64 n3, Value.int IntKind.i64 n4] w4
  fun (w5 : World) =>
  ∃ (h1 : Nat → List Value → World → Prop),
  (∃ (k1 : Nat), h1 k1 [Value.slice none (0 : Nat) (0 : Nat), Value.int IntKind.i64 (0 : Int)] w5) ∧
  ∀ (k2 : Nat) (w6 : World) (v4 : Value) (q2 : Option Addr) (k3 k4 : Nat) (n5 : Int)
  (v5 v6 v7 v8 v9 v10 v11 v12 v13 v14 v15 v16 v17 v18 v19 v20 v21 v22 v23 v24 v25 v26 v27 v28 v29 v30 v31 v32 v33 v34 v35
  v36 v37 v38 v39 v40 v41 v42 v43 v44 v45 v46 v47 v48 v49 v50 v51 v52 v53 v54 v55 v56 v57 v58 v59 v60 v61 v62 v63 v64 v65
  v66 v67 v68 v69 v70 v71 v72 v73 v74 v75 v76 v77 v78 v79 v80 v81 v82 v83 v84 v85 v86 v87 v88 v89 v90 v91 v92 v93 v94 v95
  v96 v97 v98 v99 v100 v101 v102 v103 v104 v105 v106 v107 v108 v109 v110 : Value),
  h1 k2 [Value.slice q2 k3 k4, Value.int IntKind.i64 n5] w6 →
  (decide (n5 < (↑l : Int)) = true →
  (0 : Int) ≤ n5 ∧
  n5 < (↑l : Int) ∧
  someR q fun (a2 : Addr) =>
  ∃ (n6 : Int),
  cellAt w6 (Addr.add a2 (Int.toNat n5 * (1 : Nat))) (Value.int IntKind.i64 n6) ∧
  (decide (n6 < (0 : Int)) = false →
  (((↑k3 : Int) == (0 : Int)) = true →
  Rets Try.prog (18 : Nat) { toList := [Value.pointer q1] } w6 fun (v111 : Value) (w7 : World) =>
  ∃ (q3 : Option Addr),
  ∃ (k5 : Nat),
  ∃ (k6 : Nat),
  v111 = Value.slice q3 k5 k6 ∧
  ∃ (n7 : Int),
  ∃ (n8 : Int),
  ∃ (n9 : Int),
  ∃ (n10 : Int),
  (cellAt w7 (Addr.add a1 (0 : Nat)) (Value.int IntKind.i64 n7) ∧
  cellAt w7 (Addr.add a1 (1 : Nat)) (Value.int IntKind.i64 n8) ∧
  cellAt w7 (Addr.add a1 (2 : Nat)) (Value.int IntKind.i64 n9) ∧
  cellAt w7 (Addr.add a1 (3 : Nat)) (Value.int IntKind.i64 n10)) ∧
  Rets Try.prog (19 : Nat)
  {
  toList :=
  [Value.agg
  {
  toList := [Value.int IntKind.i64 n7, Value.int IntKind.i64 n8, Value.int IntKind.i64 n9, Value.int IntKind.i64 n10] }] }
  w7 fun (v112 : Value) (w8 : World) =>
  ∃ (n11 : Int),
  ∃ (n12 : Int),
  ∃ (n13 : Int),
  ∃ (n14 : Int),
  v112 =
  Value.agg
  {
  toList :=
  [Value.int IntKind.i64 n11, Value.int IntKind.i64 n12, Value.int IntKind.i64 n13, Value.int IntKind.i64 n14] } ∧
  StoreR a1 [Value.int IntKind.i64 n11, Value.int IntKind.i64 n12, Value.int IntKind.i64 n13, Value.int IntKind.i64 n14]
  w8 fun (w9 : World) =>
  (((↑k5 : Int) != (0 : Int)) = true → K (Value.bool false) w9) ∧
  (((↑k5 : Int) != (0 : Int)) = false →
  (0 : Int) ≤ n5 ∧
  n5 < (↑l : Int) ∧
  someR q fun (a3 : Addr) =>
  ∃ (n15 : Int),
  cellAt w9 (Addr.add a3 (Int.toNat n5 * (1 : Nat))) (Value.int IntKind.i64 n15) ∧
  NewR (3 : Nat) [Value.int IntKind.i64 n15] w9 fun (a4 : Addr) (w10 : World) =>
  RunR Try.prog
  (builtinV Builtin.append { toList := [(26 : Nat), (26 : Nat)] } (nat_lit 26)
  { toList := [Value.slice q3 k5 k6, Value.slice (some a4) (1 : Nat) (1 : Nat)] })
  w10 fun (v113 : Value) (w11 : World) =>
  ∃ (q4 : Option Addr),
  ∃ (k7 : Nat),
  ∃ (k8 : Nat),
  v113 = Value.slice q4 k7 k8 ∧
  NewR (26 : Nat) [Value.slice q4 k7 k8] w11 fun (a5 : Addr) (w12 : World) =>
  RunR Try.prog
  (builtinV Builtin.append { toList := [(32 : Nat), (32 : Nat)] } (nat_lit 32)
  { toList := [Value.slice q2 k3 k4, Value.slice (some a5) (1 : Nat) (1 : Nat)] })
  w12 fun (v114 : Value) (w13 : World) =>
  ∃ (q5 : Option Addr),
  ∃ (k9 : Nat),
  ∃ (k10 : Nat),
  v114 = Value.slice q5 k9 k10 ∧
  Drw w13 fun (w14 : World) =>
  ∃ (h2 : World → Prop),
  h2 w14 ∧
  ∃ (n16 : Int),
  (∀ (w15 : World), h2 w15 → World.cell? w15 (Addr.add a1 (2 : Nat)) = some (Value.int IntKind.i64 n16)) ∧
  Rets Try.prog (22 : Nat) { toList := [Value.pointer q1] } w14 fun (v115 : Value) (w16 : World) =>
  ∃ (n17 : Int),
  v115 = Value.int IntKind.i64 n17 ∧
  h2 w16 ∧
  ((n17 != n16) = false →
  ∃ (n18 : Int),
  (∀ (w17 : World), h2 w17 → World.cell? w17 (Addr.add a1 (3 : Nat)) = some (Value.int IntKind.i64 n18)) ∧
  Rets Try.prog (23 : Nat) { toList := [Value.pointer q1] } w16 fun (v116 : Value) (w18 : World) =>
  ∃ (n19 : Int),
  v116 = Value.int IntKind.i64 n19 ∧
  h2 w18 ∧
  ((n19 != n18) = false →
  ∃ (n20 : Int),
  (∀ (w19 : World), h2 w19 → World.cell? w19 (Addr.add a1 (0 : Nat)) = some (Value.int IntKind.i64 n20)) ∧
  Rets Try.prog (24 : Nat) { toList := [Value.pointer q1] } w18 fun (v117 : Value) (w20 : World) =>
  ∃ (n21 : Int),
  v117 = Value.int IntKind.i64 n21 ∧
  h2 w20 ∧
  ((n21 != n20) = true → K (Value.bool false) w20) ∧
  ((n21 != n20) = false →
  ∃ (k11 : Nat),
  k11 < k2 ∧ h1 k11 [Value.slice q5 k9 k10, Value.int IntKind.i64 (IntKind.wrap IntKind.i64 (n5 + (1 : Int)))] w20)) ∧
  ((n19 != n18) = true → K (Value.bool false) w18)) ∧
  ((n17 != n16) = true → K (Value.bool false) w16))) ∧
  (((↑k3 : Int) == (0 : Int)) = false →
  (0 : Int) ≤ n5 ∧
  n5 < (↑l : Int) ∧
  someR q fun (a6 : Addr) =>
  ∃ (n22 : Int),
  cellAt w6 (Addr.add a6 (Int.toNat n5 * (1 : Nat))) (Value.int IntKind.i64 n22) ∧
  (↑k3 : Int) ≠ (0 : Int) ∧
  (0 : Int) ≤ Int.tmod n22 (↑k3 : Int) ∧
  Int.tmod n22 (↑k3 : Int) < (↑k3 : Int) ∧
  someR q2 fun (a7 : Addr) =>
  ∃ (q6 : Option Addr),
  ∃ (k12 : Nat),
  ∃ (k13 : Nat),
  cellAt w6 (Addr.add a7 (Int.toNat (Int.tmod n22 (↑k3 : Int)) * (1 : Nat))) (Value.slice q6 k12 k13) ∧
  ∃ (n23 : Int),
  cellAt w6 (Addr.add a1 (0 : Nat)) (Value.int IntKind.i64 n23) ∧
  (0 : Int) ≤ n5 ∧
  n5 < (↑l : Int) ∧
  someR q fun (a8 : Addr) =>
  ∃ (n24 : Int),
  cellAt w6 (Addr.add a8 (Int.toNat n5 * (1 : Nat))) (Value.int IntKind.i64 n24) ∧
  (7 : Int) ≠ (0 : Int) ∧
  ((Int.tmod n24 (7 : Int) == (6 : Int)) = true →
  ∃ (n25 : Int),
  cellAt w6 (Addr.add a1 (0 : Nat)) (Value.int IntKind.i64 n25) ∧
  MakeR (3 : Nat) [Value.int IntKind.i64 (0 : Int)] (8 : Nat) (0 : Int) (IntKind.wrap IntKind.i64 (n25 + (1 : Int))) w6
  fun (a9 : Addr) (w21 : World) =>
  ∃ (n26 : Int),
  ∃ (n27 : Int),
  ∃ (n28 : Int),
  ∃ (n29 : Int),
  (cellAt w21 (Addr.add a1 (0 : Nat)) (Value.int IntKind.i64 n26) ∧
  cellAt w21 (Addr.add a1 (1 : Nat)) (Value.int IntKind.i64 n27) ∧
  cellAt w21 (Addr.add a1 (2 : Nat)) (Value.int IntKind.i64 n28) ∧
  cellAt w21 (Addr.add a1 (3 : Nat)) (Value.int IntKind.i64 n29)) ∧
  Rets Try.prog (20 : Nat)
  {
  toList :=
  [Value.agg
  {
  toList :=
  [Value.int IntKind.i64 n26, Value.int IntKind.i64 n27, Value.int IntKind.i64 n28, Value.int IntKind.i64 n29] },
  Value.int IntKind.i64 (IntKind.wrap IntKind.i64 (n23 + (1 : Int)))] }
  w21 fun (v118 : Value) (w22 : World) =>
  ∃ (n30 : Int),
  ∃ (n31 : Int),
  ∃ (n32 : Int),
  ∃ (n33 : Int),
  ∃ (b2 : Bool),
  v118 =
  Value.tuple
  {
  toList :=
  [Value.agg
  {
  toList :=
  [Value.int IntKind.i64 n30, Value.int IntKind.i64 n31, Value.int IntKind.i64 n32, Value.int IntKind.i64 n33] },
  Value.bool b2] } ∧
  NewR (30 : Nat)
  [Value.int IntKind.i64 (0 : Int), Value.int IntKind.i64 (0 : Int), Value.int IntKind.i64 (0 : Int),
  Value.int IntKind.i64 (0 : Int)]
  w22 fun (a10 : Addr) (w23 : World) =>
  StoreR a10 [Value.int IntKind.i64 n30, Value.int IntKind.i64 n31, Value.int IntKind.i64 n32, Value.int IntKind.i64 n33]
  w23 fun (w24 : World) =>
  Rets Try.prog (21 : Nat)
  {
  toList := [Value.pointer q1, Value.slice (some a9) (0 : Nat) (Int.toNat (IntKind.wrap IntKind.i64 (n25 + (1 : Int))))] }
  w24 fun (v119 : Value) (w25 : World) =>
  ∃ (b3 : Bool),
  v119 = Value.bool b3 ∧
  ((!b3 == b2) = true → K (Value.bool false) w25) ∧
  ((!b3 == b2) = false →
  ∃ (n34 : Int),
  ∃ (n35 : Int),
  ∃ (n36 : Int),
  ∃ (n37 : Int),
  (cellAt w25 (Addr.add a10 (0 : Nat)) (Value.int IntKind.i64 n34) ∧
  cellAt w25 (Addr.add a10 (1 : Nat)) (Value.int IntKind.i64 n35) ∧
  cellAt w25 (Addr.add a10 (2 : Nat)) (Value.int IntKind.i64 n36) ∧
  cellAt w25 (Addr.add a10 (3 : Nat)) (Value.int IntKind.i64 n37)) ∧
  StoreR a1 [Value.int IntKind.i64 n34, Value.int IntKind.i64 n35, Value.int IntKind.i64 n36, Value.int IntKind.i64 n37]
  w25 fun (w26 : World) =>
  Drw w26 fun (w27 : World) =>
  ∃ (h3 : World → Prop),
  h3 w27 ∧
  ∃ (n38 : Int),
  (∀ (w28 : World), h3 w28 → World.cell? w28 (Addr.add a1 (2 : Nat)) = some (Value.int IntKind.i64 n38)) ∧
  Rets Try.prog (22 : Nat) { toList := [Value.pointer q1] } w27 fun (v120 : Value) (w29 : World) =>
  ∃ (n39 : Int),
  v120 = Value.int IntKind.i64 n39 ∧
  h3 w29 ∧
  ((n39 != n38) = false →
  ∃ (n40 : Int),
  (∀ (w30 : World), h3 w30 → World.cell? w30 (Addr.add a1 (3 : Nat)) = some (Value.int IntKind.i64 n40)) ∧
  Rets Try.prog (23 : Nat) { toList := [Value.pointer q1] } w29 fun (v121 : Value) (w31 : World) =>
  ∃ (n41 : Int),
  v121 = Value.int IntKind.i64 n41 ∧
  h3 w31 ∧
  ((n41 != n40) = false →
  ∃ (n42 : Int),
  (∀ (w32 : World), h3 w32 → World.cell? w32 (Addr.add a1 (0 : Nat)) = some (Value.int IntKind.i64 n42)) ∧
  Rets Try.prog (24 : Nat) { toList := [Value.pointer q1] } w31 fun (v122 : Value) (w33 : World) =>
  ∃ (n43 : Int),
  v122 = Value.int IntKind.i64 n43 ∧
  h3 w33 ∧
  ((n43 != n42) = true → K (Value.bool false) w33) ∧
  ((n43 != n42) = false →
  ∃ (k14 : Nat),
  k14 < k2 ∧ h1 k14 [Value.slice q2 k3 k4, Value.int IntKind.i64 (IntKind.wrap IntKind.i64 (n5 + (1 : Int)))] w33)) ∧
  ((n41 != n40) = true → K (Value.bool false) w31)) ∧
  ((n39 != n38) = true → K (Value.bool false) w29))) ∧
  ((Int.tmod n24 (7 : Int) == (6 : Int)) = false →
  Drw w6 fun (w34 : World) =>
  (0 : Int) ≤ Int.tmod n22 (↑k3 : Int) ∧
  Int.tmod n22 (↑k3 : Int) ≤ (↑k4 : Int) ∧
  (0 : Int) ≤ IntKind.wrap IntKind.i64 (Int.tmod n22 (↑k3 : Int) + (1 : Int)) ∧
  IntKind.wrap IntKind.i64 (Int.tmod n22 (↑k3 : Int) + (1 : Int)) ≤ (↑k3 : Int) ∧
  NewR (26 : Nat) [] w34 fun (a11 : Addr) (w35 : World) =>
  RunR Try.prog
  (builtinV Builtin.append { toList := [(32 : Nat), (32 : Nat)] } (nat_lit 32)
  {
  toList :=
  [Value.slice (some a11) (0 : Nat) (0 : Nat),
  Value.slice (slcA q2 (0 : Nat) k4 (1 : Nat)) (Int.toNat (Int.tmod n22 (↑k3 : Int)) - (0 : Nat)) (k4 - (0 : Nat))] })
  w35 fun (v123 : Value) (w36 : World) =>
  ∃ (q7 : Option Addr),
  ∃ (k15 : Nat),
  ∃ (k16 : Nat),
  v123 = Value.slice q7 k15 k16 ∧
  RunR Try.prog
  (builtinV Builtin.append { toList := [(32 : Nat), (32 : Nat)] } (nat_lit 32)
  {
  toList :=
  [Value.slice q7 k15 k16,
  Value.slice (slcA q2 (Int.toNat (IntKind.wrap IntKind.i64 (Int.tmod n22 (↑k3 : Int) + (1 : Int)))) k4 (1 : Nat))
  (k3 - Int.toNat (IntKind.wrap IntKind.i64 (Int.tmod n22 (↑k3 : Int) + (1 : Int))))
  (k4 - Int.toNat (IntKind.wrap IntKind.i64 (Int.tmod n22 (↑k3 : Int) + (1 : Int))))] })
  w36 fun (v124 : Value) (w37 : World) =>
  ∃ (q8 : Option Addr),
  ∃ (k17 : Nat),
  ∃ (k18 : Nat),
  v124 = Value.slice q8 k17 k18 ∧
  ∃ (n44 : Int),
  ∃ (n45 : Int),
  ∃ (n46 : Int),
  ∃ (n47 : Int),
  (cellAt w37 (Addr.add a1 (0 : Nat)) (Value.int IntKind.i64 n44) ∧
  cellAt w37 (Addr.add a1 (1 : Nat)) (Value.int IntKind.i64 n45) ∧
  cellAt w37 (Addr.add a1 (2 : Nat)) (Value.int IntKind.i64 n46) ∧
  cellAt w37 (Addr.add a1 (3 : Nat)) (Value.int IntKind.i64 n47)) ∧
  Rets Try.prog (20 : Nat)
  {
  toList :=
  [Value.agg
  {
  toList :=
  [Value.int IntKind.i64 n44, Value.int IntKind.i64 n45, Value.int IntKind.i64 n46, Value.int IntKind.i64 n47] },
  Value.int IntKind.i64 n23] }
  w37 fun (v125 : Value) (w38 : World) =>
  ∃ (n48 : Int),
  ∃ (n49 : Int),
  ∃ (n50 : Int),
  ∃ (n51 : Int),
  ∃ (b4 : Bool),
  v125 =
  Value.tuple
  {
  toList :=
  [Value.agg
  {
  toList :=
  [Value.int IntKind.i64 n48, Value.int IntKind.i64 n49, Value.int IntKind.i64 n50, Value.int IntKind.i64 n51] },
  Value.bool b4] } ∧
  NewR (30 : Nat)
  [Value.int IntKind.i64 (0 : Int), Value.int IntKind.i64 (0 : Int), Value.int IntKind.i64 (0 : Int),
  Value.int IntKind.i64 (0 : Int)]
  w38 fun (a12 : Addr) (w39 : World) =>
  StoreR a12 [Value.int IntKind.i64 n48, Value.int IntKind.i64 n49, Value.int IntKind.i64 n50, Value.int IntKind.i64 n51]
  w39 fun (w40 : World) =>
  Rets Try.prog (21 : Nat) { toList := [Value.pointer q1, Value.slice q6 k12 k13] } w40
  fun (v126 : Value) (w41 : World) =>
  ∃ (b5 : Bool),
  v126 = Value.bool b5 ∧
  ((!b5 == b4) = true → K (Value.bool false) w41) ∧
  ((!b5 == b4) = false →
  ∃ (n52 : Int),
  ∃ (n53 : Int),
  ∃ (n54 : Int),
  ∃ (n55 : Int),
  (cellAt w41 (Addr.add a12 (0 : Nat)) (Value.int IntKind.i64 n52) ∧
  cellAt w41 (Addr.add a12 (1 : Nat)) (Value.int IntKind.i64 n53) ∧
  cellAt w41 (Addr.add a12 (2 : Nat)) (Value.int IntKind.i64 n54) ∧
  cellAt w41 (Addr.add a12 (3 : Nat)) (Value.int IntKind.i64 n55)) ∧
  StoreR a1 [Value.int IntKind.i64 n52, Value.int IntKind.i64 n53, Value.int IntKind.i64 n54, Value.int IntKind.i64 n55]
  w41 fun (w42 : World) =>
  Drw w42 fun (w43 : World) =>
  ∃ (h4 : World → Prop),
  h4 w43 ∧
  ∃ (n56 : Int),
  (∀ (w44 : World), h4 w44 → World.cell? w44 (Addr.add a1 (2 : Nat)) = some (Value.int IntKind.i64 n56)) ∧
  Rets Try.prog (22 : Nat) { toList := [Value.pointer q1] } w43 fun (v127 : Value) (w45 : World) =>
  ∃ (n57 : Int),
  v127 = Value.int IntKind.i64 n57 ∧
  h4 w45 ∧
  ((n57 != n56) = false →
  ∃ (n58 : Int),
  (∀ (w46 : World), h4 w46 → World.cell? w46 (Addr.add a1 (3 : Nat)) = some (Value.int IntKind.i64 n58)) ∧
  Rets Try.prog (23 : Nat) { toList := [Value.pointer q1] } w45 fun (v128 : Value) (w47 : World) =>
  ∃ (n59 : Int),
  v128 = Value.int IntKind.i64 n59 ∧
  h4 w47 ∧
  ((n59 != n58) = false →
  ∃ (n60 : Int),
  (∀ (w48 : World), h4 w48 → World.cell? w48 (Addr.add a1 (0 : Nat)) = some (Value.int IntKind.i64 n60)) ∧
  Rets Try.prog (24 : Nat) { toList := [Value.pointer q1] } w47 fun (v129 : Value) (w49 : World) =>
  ∃ (n61 : Int),
  v129 = Value.int IntKind.i64 n61 ∧
  h4 w49 ∧
  ((n61 != n60) = true → K (Value.bool false) w49) ∧
  ((n61 != n60) = false →
  ∃ (k19 : Nat),
  k19 < k2 ∧ h1 k19 [Value.slice q8 k17 k18, Value.int IntKind.i64 (IntKind.wrap IntKind.i64 (n5 + (1 : Int)))] w49)) ∧
  ((n59 != n58) = true → K (Value.bool false) w47)) ∧
  ((n57 != n56) = true → K (Value.bool false) w45))))) ∧
  (decide (n6 < (0 : Int)) = true →
  Rets Try.prog (18 : Nat) { toList := [Value.pointer q1] } w6 fun (v130 : Value) (w50 : World) =>
  ∃ (q9 : Option Addr),
  ∃ (k20 : Nat),
  ∃ (k21 : Nat),
  v130 = Value.slice q9 k20 k21 ∧
  ∃ (n62 : Int),
  ∃ (n63 : Int),
  ∃ (n64 : Int),
  ∃ (n65 : Int),
  (cellAt w50 (Addr.add a1 (0 : Nat)) (Value.int IntKind.i64 n62) ∧
  cellAt w50 (Addr.add a1 (1 : Nat)) (Value.int IntKind.i64 n63) ∧
  cellAt w50 (Addr.add a1 (2 : Nat)) (Value.int IntKind.i64 n64) ∧
  cellAt w50 (Addr.add a1 (3 : Nat)) (Value.int IntKind.i64 n65)) ∧
  Rets Try.prog (19 : Nat)
  {
  toList :=
  [Value.agg
  {
  toList :=
  [Value.int IntKind.i64 n62, Value.int IntKind.i64 n63, Value.int IntKind.i64 n64, Value.int IntKind.i64 n65] }] }
  w50 fun (v131 : Value) (w51 : World) =>
  ∃ (n66 : Int),
  ∃ (n67 : Int),
  ∃ (n68 : Int),
  ∃ (n69 : Int),
  v131 =
  Value.agg
  {
  toList :=
  [Value.int IntKind.i64 n66, Value.int IntKind.i64 n67, Value.int IntKind.i64 n68, Value.int IntKind.i64 n69] } ∧
  StoreR a1 [Value.int IntKind.i64 n66, Value.int IntKind.i64 n67, Value.int IntKind.i64 n68, Value.int IntKind.i64 n69]
  w51 fun (w52 : World) =>
  (((↑k20 : Int) != (0 : Int)) = true → K (Value.bool false) w52) ∧
  (((↑k20 : Int) != (0 : Int)) = false →
  (0 : Int) ≤ n5 ∧
  n5 < (↑l : Int) ∧
  someR q fun (a13 : Addr) =>
  ∃ (n70 : Int),
  cellAt w52 (Addr.add a13 (Int.toNat n5 * (1 : Nat))) (Value.int IntKind.i64 n70) ∧
  NewR (3 : Nat) [Value.int IntKind.i64 n70] w52 fun (a14 : Addr) (w53 : World) =>
  RunR Try.prog
  (builtinV Builtin.append { toList := [(26 : Nat), (26 : Nat)] } (nat_lit 26)
  { toList := [Value.slice q9 k20 k21, Value.slice (some a14) (1 : Nat) (1 : Nat)] })
  w53 fun (v132 : Value) (w54 : World) =>
  ∃ (q10 : Option Addr),
  ∃ (k22 : Nat),
  ∃ (k23 : Nat),
  v132 = Value.slice q10 k22 k23 ∧
  NewR (26 : Nat) [Value.slice q10 k22 k23] w54 fun (a15 : Addr) (w55 : World) =>
  RunR Try.prog
  (builtinV Builtin.append { toList := [(32 : Nat), (32 : Nat)] } (nat_lit 32)
  { toList := [Value.slice q2 k3 k4, Value.slice (some a15) (1 : Nat) (1 : Nat)] })
  w55 fun (v133 : Value) (w56 : World) =>
  ∃ (q11 : Option Addr),
  ∃ (k24 : Nat),
  ∃ (k25 : Nat),
  v133 = Value.slice q11 k24 k25 ∧
  Drw w56 fun (w57 : World) =>
  ∃ (h5 : World → Prop),
  h5 w57 ∧
  ∃ (n71 : Int),
  (∀ (w58 : World), h5 w58 → World.cell? w58 (Addr.add a1 (2 : Nat)) = some (Value.int IntKind.i64 n71)) ∧
  Rets Try.prog (22 : Nat) { toList := [Value.pointer q1] } w57 fun (v134 : Value) (w59 : World) =>
  ∃ (n72 : Int),
  v134 = Value.int IntKind.i64 n72 ∧
  h5 w59 ∧
  ((n72 != n71) = false →
  ∃ (n73 : Int),
  (∀ (w60 : World), h5 w60 → World.cell? w60 (Addr.add a1 (3 : Nat)) = some (Value.int IntKind.i64 n73)) ∧
  Rets Try.prog (23 : Nat) { toList := [Value.pointer q1] } w59 fun (v135 : Value) (w61 : World) =>
  ∃ (n74 : Int),
  v135 = Value.int IntKind.i64 n74 ∧
  h5 w61 ∧
  ((n74 != n73) = false →
  ∃ (n75 : Int),
  (∀ (w62 : World), h5 w62 → World.cell? w62 (Addr.add a1 (0 : Nat)) = some (Value.int IntKind.i64 n75)) ∧
  Rets Try.prog (24 : Nat) { toList := [Value.pointer q1] } w61 fun (v136 : Value) (w63 : World) =>
  ∃ (n76 : Int),
  v136 = Value.int IntKind.i64 n76 ∧
  h5 w63 ∧
  ((n76 != n75) = true → K (Value.bool false) w63) ∧
  ((n76 != n75) = false →
  ∃ (k26 : Nat),
  k26 < k2 ∧ h1 k26 [Value.slice q11 k24 k25, Value.int IntKind.i64 (IntKind.wrap IntKind.i64 (n5 + (1 : Int)))] w63)) ∧
  ((n74 != n73) = true → K (Value.bool false) w61)) ∧
  ((n72 != n71) = true → K (Value.bool false) w59)))) ∧
  (decide (n5 < (↑l : Int)) = false →
  Rets Try.prog (15 : Nat) { toList := [] } w6 fun (v137 : Value) (w64 : World) =>
  ∃ (b6 : Bool), v137 = Value.bool b6 ∧ K (Value.bool b6) w64))
theorem cortadolaw09_PoolPlays_eq (room spare : Int) (q : Option Addr) (l c : Nat) (w : World) (K : Value → World → Prop) : fw Try.prog Try.f4 (annL [(2, [(6, none), (9, some 32), (10, some 3), (11, none), (12, none), (13, none), (14, none), (15, none), (16, none), (29, none), (30, none), (31, none), (32, none), (33, none), (34, none), (35, none), (36, none), (37, none), (38, none), (39, none), (40, none), (41, none), (42, none), (43, none), (44, none), (45, none), (46, none), (47, none), (48, none), (49, none), (50, none), (51, none), (52, none), (53, none), (54, none), (55, none), (56, none), (57, none), (58, none), (59, none), (60, none), (61, none), (62, none), (63, none), (64, none), (65, none), (66, none), (67, none), (68, none), (69, none), (70, none), (71, none), (72, none), (73, none), (74, none), (75, none), (76, none), (77, none), (78, none), (79, none), (80, none), (81, none), (82, none), (83, none), (84, none), (85, none), (86, none), (87, none), (88, none), (89, none), (90, none), (91, none), (92, none), (93, none), (94, none), (95, none), (96, none), (97, none), (98, none), (99, none), (100, none), (101, none), (102, none), (103, none), (104, none), (105, none), (106, none), (107, none), (108, none), (109, none), (110, none), (111, none), (112, none), (113, none), (114, none), (115, none), (116, none), (117, none), (118, none), (119, none), (120, none), (121, none), (122, none), (123, none), (124, none), (125, none), (126, none), (127, none), (128, none)])]) (ordL [(21, [(1, 0), (2, 0), (3, 0), (5, 0), (6, 0), (7, 0), (8, 0), (0, 3), (4, 3), (9, 3), (10, 0)]), (26, [(0, 0), (2, 0), (3, 1), (1, 2), (4, 0), (5, 0), (6, 0), (8, 0), (9, 1), (7, 2), (10, 0), (11, 0), (12, 0), (13, 0), (15, 0), (16, 1), (14, 2), (17, 0), (18, 0)])]) [.int .i64 room, .int .i64 spare, .slice q l c] w K = cortadolaw09_PoolPlays_m room spare q l c w K := by kernel_rfl
theorem cortadolaw09_PoolPlays_go (room spare : Int) (q : Option Addr) (l c : Nat) {w : World} {K : Value → World → Prop} (h : cortadolaw09_PoolPlays_m room spare q l c w K) : Rets Try.prog 4 #[.int .i64 room, .int .i64 spare, .slice q l c] w K :=
  calls_of_fw plain mixed Try.func4 (by kernel_rfl) (by rw [cortadolaw09_PoolPlays_eq]; exact h)
def cortadolaw09_PoolApart_m (room spare : Int) (q : Option Addr) (l c : Nat) (w : World) (K : Value → World → Prop) : Prop :=
  (decide ((↑l : Int) > (30 : Int)) = true →
  Rets Try.prog (15 : Nat) { toList := [] } w fun (v1 : Value) (w1 : World) =>
  ∃ (b1 : Bool), v1 = Value.bool b1 ∧ K (Value.bool b1) w1) ∧
  (decide ((↑l : Int) > (30 : Int)) = false →
  Rets Try.prog (25 : Nat) { toList := [Value.int IntKind.i64 (minI room (20 : Int)), Value.int IntKind.i64 spare] } w
  fun (v2 : Value) (w2 : World) =>
  ∃ (q1 : Option Addr),
  v2 = Value.pointer q1 ∧
  ∃ (h1 : Nat → List Value → World → Prop),
  (∃ (k1 : Nat), h1 k1 [Value.slice none (0 : Nat) (0 : Nat), Value.int IntKind.i64 (0 : Int)] w2) ∧
  ∀ (k2 : Nat) (w3 : World) (v3 : Value) (q2 : Option Addr) (k3 k4 : Nat) (n1 : Int)
  (v4 v5 v6 v7 v8 v9 v10 v11 v12 v13 v14 v15 v16 v17 v18 v19 v20 v21 v22 v23 v24 v25 v26 v27 v28 v29 v30 v31 v32 v33 v34
  v35 v36 v37 v38 v39 v40 v41 v42 v43 v44 v45 v46 v47 v48 v49 v50 v51 v52 v53 v54 v55 v56 v57 v58 v59 v60 v61 v62 v63 v64
  v65 v66 v67 v68 v69 v70 v71 v72 v73 v74 v75 v76 v77 v78 v79 v80 v81 v82 v83 v84 v85 v86 v87 v88 v89 v90 v91 v92 v93 v94
  v95 v96 v97 v98 v99 v100 v101 v102 v103 v104 v105 v106 v107 v108 v109 v110 v111 v112 v113 v114 v115 v116 v117 v118 v119
  v120 : Value),
  h1 k2 [Value.slice q2 k3 k4, Value.int IntKind.i64 n1] w3 →
  (decide (n1 < (↑l : Int)) = true →
  Rets Try.prog (26 : Nat) { toList := [Value.pointer q1] } w3 fun (v121 : Value) (w4 : World) =>
  ∃ (q3 : Option Addr),
  ∃ (k5 : Nat),
  ∃ (k6 : Nat),
  v121 = Value.slice q3 k5 k6 ∧
  (((↑k5 : Int) != (0 : Int)) = false →
  Rets Try.prog (27 : Nat) { toList := [Value.pointer q1] } w4 fun (v122 : Value) (w5 : World) =>
  ∃ (n2 : Int),
  v122 = Value.int IntKind.i64 n2 ∧
  (decide (n2 < (1 : Int)) = false →
  Rets Try.prog (27 : Nat) { toList := [Value.pointer q1] } w5 fun (v123 : Value) (w6 : World) =>
  ∃ (n3 : Int),
  v123 = Value.int IntKind.i64 n3 ∧
  (decide (n3 > (20 : Int)) = true → K (Value.bool false) w6) ∧
  (decide (n3 > (20 : Int)) = false →
  ∃ (h2 : Nat → List Value → World → Prop),
  (∃ (k7 : Nat), h2 k7 [Value.slice q3 k5 k6, Value.int IntKind.i64 (0 : Int)] w6) ∧
  ∀ (k8 : Nat) (w7 : World) (q4 : Option Addr) (k9 k10 : Nat) (n4 : Int)
  (v124 v125 v126 v127 v128 v129 v130 v131 v132 v133 v134 v135 v136 : Value),
  h2 k8 [Value.slice q4 k9 k10, Value.int IntKind.i64 n4] w7 →
  Rets Try.prog (27 : Nat) { toList := [Value.pointer q1] } w7 fun (v137 : Value) (w8 : World) =>
  ∃ (n5 : Int),
  v137 = Value.int IntKind.i64 n5 ∧
  (decide (n4 < n5) = true →
  RunR Try.prog
  (convert (21 : Nat) (9 : Nat)
  (Value.int IntKind.i32 (IntKind.wrap IntKind.i32 (IntKind.wrap IntKind.i64 ((97 : Int) + n1)))))
  w8 fun (v138 : Value) (w9 : World) =>
  ∃ (s1 : ByteArray),
  v138 = Value.string s1 ∧
  NewR (9 : Nat) [Value.string s1] w9 fun (a1 : Addr) (w10 : World) =>
  RunR Try.prog
  (builtinV Builtin.append { toList := [(44 : Nat), (44 : Nat)] } (nat_lit 44)
  { toList := [Value.slice q4 k9 k10, Value.slice (some a1) (1 : Nat) (1 : Nat)] })
  w10 fun (v139 : Value) (w11 : World) =>
  ∃ (q5 : Option Addr),
  ∃ (k11 : Nat),
  ∃ (k12 : Nat),
  v139 = Value.slice q5 k11 k12 ∧
  ∃ (k13 : Nat),
  k13 < k8 ∧ h2 k13 [Value.slice q5 k11 k12, Value.int IntKind.i64 (IntKind.wrap IntKind.i64 (n4 + (1 : Int)))] w11) ∧
  (decide (n4 < n5) = false →
  NewR (44 : Nat) [Value.slice q4 k9 k10] w8 fun (a2 : Addr) (w12 : World) =>
  RunR Try.prog
  (builtinV Builtin.append { toList := [(43 : Nat), (43 : Nat)] } (nat_lit 43)
  { toList := [Value.slice q2 k3 k4, Value.slice (some a2) (1 : Nat) (1 : Nat)] })
  w12 fun (v140 : Value) (w13 : World) =>
  ∃ (q6 : Option Addr),
  ∃ (k14 : Nat),
  ∃ (k15 : Nat),
  v140 = Value.slice q6 k14 k15 ∧
  ∃ (h3 : Nat → List Value → World → Prop),
  (∃ (k16 : Nat), h3 k16 [Value.int IntKind.i64 (0 : Int)] w13) ∧
  ∀ (k17 : Nat) (w14 : World) (v141 : Value) (n6 : Int)
  (v142 v143 v144 v145 v146 v147 v148 v149 v150 v151 v152 v153 v154 v155 v156 v157 v158 v159 v160 v161 v162 v163 v164 v165
  v166 v167 v168 v169 v170 v171 v172 v173 v174 v175 v176 v177 v178 v179 v180 v181 v182 v183 v184 v185 : Value),
  h3 k17 [Value.int IntKind.i64 n6] w14 →
  (decide (n6 < (↑k14 : Int)) = true →
  Drw w14 fun (w15 : World) =>
  (0 : Int) ≤ n6 ∧
  n6 < (↑k14 : Int) ∧
  someR q6 fun (a3 : Addr) =>
  (0 : Int) ≤ n6 ∧
  n6 < (↑k14 : Int) ∧
  someR q6 fun (a4 : Addr) =>
  (0 : Int) ≤ n6 ∧
  n6 < (↑k14 : Int) ∧
  someR q6 fun (a5 : Addr) =>
  ∃ (q7 : Option Addr),
  ∃ (k18 : Nat),
  ∃ (k19 : Nat),
  cellAt w15 (Addr.add a3 (Int.toNat n6 * (1 : Nat))) (Value.slice q7 k18 k19) ∧
  (0 : Int) ≤ (0 : Int) ∧
  (0 : Int) < (↑k18 : Int) ∧
  someR q7 fun (a6 : Addr) =>
  ∃ (s2 : ByteArray),
  cellAt w15 (Addr.add a6 (0 : Nat)) (Value.string s2) ∧
  ∃ (q8 : Option Addr),
  ∃ (k20 : Nat),
  ∃ (k21 : Nat),
  cellAt w15 (Addr.add a4 (Int.toNat n6 * (1 : Nat))) (Value.slice q8 k20 k21) ∧
  ∃ (q9 : Option Addr),
  ∃ (k22 : Nat),
  ∃ (k23 : Nat),
  cellAt w15 (Addr.add a5 (Int.toNat n6 * (1 : Nat))) (Value.slice q9 k22 k23) ∧
  (0 : Int) ≤ IntKind.wrap IntKind.i64 ((↑k22 : Int) - (1 : Int)) ∧
  IntKind.wrap IntKind.i64 ((↑k22 : Int) - (1 : Int)) < (↑k20 : Int) ∧
  someR q8 fun (a7 : Addr) =>
  ∃ (s3 : ByteArray),
  cellAt w15 (Addr.add a7 (Int.toNat (IntKind.wrap IntKind.i64 ((↑k22 : Int) - (1 : Int))) * (1 : Nat)))
  (Value.string s3) ∧
  ((!ByteArray.toList s2 == ByteArray.toList s3) = true → K (Value.bool false) w15) ∧
  ((!ByteArray.toList s2 == ByteArray.toList s3) = false →
  ∃ (h4 : Nat → List Value → World → Prop),
  (∃ (k24 : Nat), h4 k24 [Value.int IntKind.i64 (0 : Int)] w15) ∧
  ∀ (k25 : Nat) (w16 : World) (v186 : Value) (n7 : Int)
  (v187 v188 v189 v190 v191 v192 v193 v194 v195 v196 v197 v198 v199 v200 v201 v202 v203 v204 : Value),
  h4 k25 [Value.int IntKind.i64 n7] w16 →
  (decide (n7 < n6) = true →
  Drw w16 fun (w17 : World) =>
  (0 : Int) ≤ n7 ∧
  n7 < (↑k14 : Int) ∧
  someR q6 fun (a8 : Addr) =>
  (0 : Int) ≤ n6 ∧
  n6 < (↑k14 : Int) ∧
  someR q6 fun (a9 : Addr) =>
  ∃ (q10 : Option Addr),
  ∃ (k26 : Nat),
  ∃ (k27 : Nat),
  cellAt w17 (Addr.add a8 (Int.toNat n7 * (1 : Nat))) (Value.slice q10 k26 k27) ∧
  (0 : Int) ≤ (0 : Int) ∧
  (0 : Int) < (↑k26 : Int) ∧
  someR q10 fun (a10 : Addr) =>
  ∃ (s4 : ByteArray),
  cellAt w17 (Addr.add a10 (0 : Nat)) (Value.string s4) ∧
  ∃ (q11 : Option Addr),
  ∃ (k28 : Nat),
  ∃ (k29 : Nat),
  cellAt w17 (Addr.add a9 (Int.toNat n6 * (1 : Nat))) (Value.slice q11 k28 k29) ∧
  (0 : Int) ≤ (0 : Int) ∧
  (0 : Int) < (↑k28 : Int) ∧
  someR q11 fun (a11 : Addr) =>
  ∃ (s5 : ByteArray),
  cellAt w17 (Addr.add a11 (0 : Nat)) (Value.string s5) ∧
  ((ByteArray.toList s4 == ByteArray.toList s5) = true → K (Value.bool false) w17) ∧
  ((ByteArray.toList s4 == ByteArray.toList s5) = false →
  ∃ (k30 : Nat), k30 < k25 ∧ h4 k30 [Value.int IntKind.i64 (IntKind.wrap IntKind.i64 (n7 + (1 : Int)))] w17)) ∧
  (decide (n7 < n6) = false →
  ∃ (k31 : Nat), k31 < k17 ∧ h3 k31 [Value.int IntKind.i64 (IntKind.wrap IntKind.i64 (n6 + (1 : Int)))] w16))) ∧
  (decide (n6 < (↑k14 : Int)) = false →
  (0 : Int) ≤ n1 ∧
  n1 < (↑l : Int) ∧
  someR q fun (a12 : Addr) =>
  ∃ (n8 : Int),
  cellAt w14 (Addr.add a12 (Int.toNat n1 * (1 : Nat))) (Value.int IntKind.u64 n8) ∧
  (2 : Int) ≠ (0 : Int) ∧
  ((Int.tmod n8 (2 : Int) == (0 : Int)) = true →
  (0 : Int) ≤ n1 ∧
  n1 < (↑l : Int) ∧
  someR q fun (a13 : Addr) =>
  ∃ (n9 : Int),
  cellAt w14 (Addr.add a13 (Int.toNat n1 * (1 : Nat))) (Value.int IntKind.u64 n9) ∧
  (2 : Int) ≠ (0 : Int) ∧
  (↑k14 : Int) ≠ (0 : Int) ∧
  (0 : Int) ≤ Int.tmod (IntKind.wrap IntKind.i64 (IntKind.wrap IntKind.u64 (Int.tdiv n9 (2 : Int)))) (↑k14 : Int) ∧
  Int.tmod (IntKind.wrap IntKind.i64 (IntKind.wrap IntKind.u64 (Int.tdiv n9 (2 : Int)))) (↑k14 : Int) < (↑k14 : Int) ∧
  someR q6 fun (a14 : Addr) =>
  ∃ (q12 : Option Addr),
  ∃ (k32 : Nat),
  ∃ (k33 : Nat),
  cellAt w14
  (Addr.add a14
  (Int.toNat (Int.tmod (IntKind.wrap IntKind.i64 (IntKind.wrap IntKind.u64 (Int.tdiv n9 (2 : Int)))) (↑k14 : Int)) *
  (1 : Nat)))
  (Value.slice q12 k32 k33) ∧
  Rets Try.prog (28 : Nat) { toList := [Value.pointer q1, Value.slice q12 k32 k33] } w14
  fun (v205 : Value) (w18 : World) =>
  ∃ (b2 : Bool),
  v205 = Value.bool b2 ∧
  Drw w18 fun (w19 : World) =>
  (0 : Int) ≤ Int.tmod (IntKind.wrap IntKind.i64 (IntKind.wrap IntKind.u64 (Int.tdiv n9 (2 : Int)))) (↑k14 : Int) ∧
  Int.tmod (IntKind.wrap IntKind.i64 (IntKind.wrap IntKind.u64 (Int.tdiv n9 (2 : Int)))) (↑k14 : Int) ≤ (↑k15 : Int) ∧
  (0 : Int) ≤
  IntKind.wrap IntKind.i64
  (Int.tmod (IntKind.wrap IntKind.i64 (IntKind.wrap IntKind.u64 (Int.tdiv n9 (2 : Int)))) (↑k14 : Int) + (1 : Int)) ∧
  IntKind.wrap IntKind.i64
  (Int.tmod (IntKind.wrap IntKind.i64 (IntKind.wrap IntKind.u64 (Int.tdiv n9 (2 : Int)))) (↑k14 : Int) + (1 : Int)) ≤
  (↑k14 : Int) ∧
  NewR (44 : Nat) [] w19 fun (a15 : Addr) (w20 : World) =>
  RunR Try.prog
  (builtinV Builtin.append { toList := [(43 : Nat), (43 : Nat)] } (nat_lit 43)
  {
  toList :=
  [Value.slice (some a15) (0 : Nat) (0 : Nat),
  Value.slice (slcA q6 (0 : Nat) k15 (1 : Nat))
  (Int.toNat (Int.tmod (IntKind.wrap IntKind.i64 (IntKind.wrap IntKind.u64 (Int.tdiv n9 (2 : Int)))) (↑k14 : Int)) -
  (0 : Nat))
  (k15 - (0 : Nat))] })
  w20 fun (v206 : Value) (w21 : World) =>
  ∃ (q13 : Option Addr),
  ∃ (k34 : Nat),
  ∃ (k35 : Nat),
  v206 = Value.slice q13 k34 k35 ∧
  RunR Try.prog
  (builtinV Builtin.append { toList := [(43 : Nat), (43 : Nat)] } (nat_lit 43)
  {
  toList :=
  [Value.slice q13 k34 k35,
  Value.slice
  (slcA q6
  (Int.toNat
  (IntKind.wrap IntKind.i64
  (Int.tmod (IntKind.wrap IntKind.i64 (IntKind.wrap IntKind.u64 (Int.tdiv n9 (2 : Int)))) (↑k14 : Int) + (1 : Int))))
  k15 (1 : Nat))
  (k14 -
  Int.toNat
  (IntKind.wrap IntKind.i64
  (Int.tmod (IntKind.wrap IntKind.i64 (IntKind.wrap IntKind.u64 (Int.tdiv n9 (2 : Int)))) (↑k14 : Int) + (1 : Int))))
  (k15 -
  Int.toNat
  (IntKind.wrap IntKind.i64
  (Int.tmod (IntKind.wrap IntKind.i64 (IntKind.wrap IntKind.u64 (Int.tdiv n9 (2 : Int)))) (↑k14 : Int) + (1 : Int))))] })
  w21 fun (v207 : Value) (w22 : World) =>
  ∃ (q14 : Option Addr),
  ∃ (k36 : Nat),
  ∃ (k37 : Nat),
  v207 = Value.slice q14 k36 k37 ∧
  ∃ (k38 : Nat),
  k38 < k2 ∧ h1 k38 [Value.slice q14 k36 k37, Value.int IntKind.i64 (IntKind.wrap IntKind.i64 (n1 + (1 : Int)))] w22) ∧
  ((Int.tmod n8 (2 : Int) == (0 : Int)) = false →
  ∃ (k39 : Nat),
  k39 < k2 ∧ h1 k39 [Value.slice q6 k14 k15, Value.int IntKind.i64 (IntKind.wrap IntKind.i64 (n1 + (1 : Int)))] w14))))) ∧
  (decide (n2 < (1 : Int)) = true → K (Value.bool false) w5)) ∧
  (((↑k5 : Int) != (0 : Int)) = true → K (Value.bool false) w4)) ∧
  (decide (n1 < (↑l : Int)) = false →
  Rets Try.prog (18 : Nat) { toList := [Value.pointer none] } w3 fun (v208 : Value) (w23 : World) =>
  ∃ (q15 : Option Addr),
  ∃ (k40 : Nat),
  ∃ (k41 : Nat),
  v208 = Value.slice q15 k40 k41 ∧
  (((↑k40 : Int) == (0 : Int)) = true →
  Rets Try.prog (21 : Nat) { toList := [Value.pointer none, Value.slice none (0 : Nat) (0 : Nat)] } w23
  fun (v209 : Value) (w24 : World) =>
  ∃ (b3 : Bool),
  v209 = Value.bool b3 ∧
  ((!b3) = true →
  Rets Try.prog (22 : Nat) { toList := [Value.pointer none] } w24 fun (v210 : Value) (w25 : World) =>
  ∃ (n10 : Int),
  v210 = Value.int IntKind.i64 n10 ∧
  Rets Try.prog (23 : Nat) { toList := [Value.pointer none] } w25 fun (v211 : Value) (w26 : World) =>
  ∃ (n11 : Int),
  v211 = Value.int IntKind.i64 n11 ∧
  Rets Try.prog (24 : Nat) { toList := [Value.pointer none] } w26 fun (v212 : Value) (w27 : World) =>
  ∃ (n12 : Int),
  v212 = Value.int IntKind.i64 n12 ∧
  ((IntKind.wrap IntKind.i64 (IntKind.wrap IntKind.i64 (n10 + n11) + n12) == (0 : Int)) = true →
  Rets Try.prog (15 : Nat) { toList := [] } w27 fun (v213 : Value) (w28 : World) =>
  ∃ (b4 : Bool), v213 = Value.bool b4 ∧ K (Value.bool b4) w28) ∧
  ((IntKind.wrap IntKind.i64 (IntKind.wrap IntKind.i64 (n10 + n11) + n12) == (0 : Int)) = false →
  K (Value.bool false) w27)) ∧
  ((!b3) = false → K (Value.bool false) w24)) ∧
  (((↑k40 : Int) == (0 : Int)) = false → K (Value.bool false) w23)))
theorem cortadolaw09_PoolApart_eq (room spare : Int) (q : Option Addr) (l c : Nat) (w : World) (K : Value → World → Prop) : fw Try.prog Try.f5 (annL [(2, [(6, none), (8, some 43), (9, some 3), (10, none), (11, none), (12, none), (13, none), (14, none), (24, none), (25, none), (26, none), (27, none), (28, none), (29, none), (30, none), (31, none), (32, none), (33, none), (34, none), (35, none), (36, none), (37, none), (38, none), (39, none), (40, none), (41, none), (42, none), (43, none), (44, none), (45, none), (46, none), (47, none), (48, none), (49, none), (50, none), (51, none), (52, none), (53, none), (54, none), (55, none), (56, none), (57, none), (58, none), (59, none), (60, none), (61, none), (62, none), (63, none), (64, none), (65, none), (66, none), (67, none), (68, none), (69, none), (70, none), (71, none), (72, none), (73, none), (74, none), (75, none), (76, none), (77, none), (78, none), (79, none), (80, none), (81, none), (82, none), (83, none), (84, none), (85, none), (86, none), (87, none), (88, none), (89, none), (90, none), (91, none), (92, none), (93, none), (94, none), (95, none), (96, none), (97, none), (98, none), (99, none), (100, none), (101, none), (102, none), (103, none), (104, none), (105, none), (106, none), (107, none), (108, none), (109, none), (110, none), (111, none), (112, none), (113, none), (114, none), (115, none), (116, none), (117, none), (118, none), (119, none), (120, none), (121, none), (122, none), (123, none), (124, none), (125, none), (126, none), (127, none), (128, none), (129, none), (130, none), (131, none), (132, none), (133, none), (134, none), (135, none)]), (7, [(10, some 44), (11, some 3), (45, none), (46, none), (47, none), (48, none), (49, none), (50, none), (51, none), (52, none), (53, none), (54, none), (55, none), (56, none), (57, none)]), (11, [(6, none), (12, some 3), (13, none), (62, none), (63, none), (64, none), (65, none), (66, none), (67, none), (68, none), (69, none), (70, none), (71, none), (72, none), (73, none), (74, none), (75, none), (76, none), (77, none), (78, none), (79, none), (80, none), (81, none), (82, none), (83, none), (84, none), (85, none), (86, none), (87, none), (88, none), (89, none), (90, none), (91, none), (92, none), (93, none), (94, none), (95, none), (96, none), (97, none), (98, none), (99, none), (100, none), (101, none), (102, none), (103, none), (104, none)]), (16, [(6, none), (13, some 3), (87, none), (88, none), (89, none), (90, none), (91, none), (92, none), (93, none), (94, none), (95, none), (96, none), (97, none), (98, none), (99, none), (100, none), (101, none), (102, none), (103, none), (104, none)])]) (ordL [(19, [(0, 0), (1, 0), (2, 0), (6, 0), (7, 0), (8, 0), (10, 0), (11, 0), (12, 0), (3, 1), (4, 0), (5, 1), (9, 1), (13, 1), (14, 0), (15, 0), (16, 0), (17, 1), (18, 0)]), (24, [(0, 0), (1, 0), (2, 0), (6, 0), (7, 0), (8, 0), (3, 1), (4, 0), (5, 1), (9, 1), (10, 0), (11, 1), (12, 0)]), (29, [(1, 0), (2, 0), (3, 0), (5, 0), (6, 0), (7, 0), (8, 0), (0, 3), (4, 3), (9, 3), (10, 0)])]) [.int .i64 room, .int .i64 spare, .slice q l c] w K = cortadolaw09_PoolApart_m room spare q l c w K := by kernel_rfl
theorem cortadolaw09_PoolApart_go (room spare : Int) (q : Option Addr) (l c : Nat) {w : World} {K : Value → World → Prop} (h : cortadolaw09_PoolApart_m room spare q l c w K) : Rets Try.prog 5 #[.int .i64 room, .int .i64 spare, .slice q l c] w K :=
  calls_of_fw plain mixed Try.func5 (by kernel_rfl) (by rw [cortadolaw09_PoolApart_eq]; exact h)
end Go.Proofs.Ytmenjjofmafacaa.Eng
