/- Sketches: what each function does, on. -/
import Derived.Test.YtkhfejnkefgpeaaDoorTskP
namespace Go.Proofs.YtkhfejnkefgpeaaDoor.Eng
open Go Go.RowKit Go.Proofs
set_option linter.unusedVariables false
set_option linter.unusedSimpArgs false
set_option maxRecDepth 1000000
theorem getP4 {a : Nat → Nat} {i : Nat} (h : i < 4) : List.get?Internal (Array.toList #[Value.pointer (some ⟨a 0, 0, none⟩), Value.pointer (some ⟨a 1, 0, none⟩), Value.pointer (some ⟨a 2, 0, none⟩), Value.pointer (some ⟨a 3, 0, none⟩)]) (Int.toNat (i : Int)) = some (Value.pointer (some ⟨a i, 0, none⟩)) := by
  obtain rfl | rfl | rfl | rfl : i = 0 ∨ i = 1 ∨ i = 2 ∨ i = 3 := by omega
  all_goals rfl
theorem Own.take4 {e w : World} {F : List HP} {B : HP} {r : Nat → HP} {i : Nat} (hi : i < 4) (h : Own e w (B :: r 0 :: r 1 :: r 2 :: r 3 :: F)) :
    ∃ G : List HP, Own e w (r i :: G) ∧ ∀ (A : HP) w', Own e w' (A :: G) → Own e w' (B :: (if 0 = i then A else r 0) :: (if 1 = i then A else r 1) :: (if 2 = i then A else r 2) :: (if 3 = i then A else r 3) :: F) := by
  obtain rfl | rfl | rfl | rfl : i = 0 ∨ i = 1 ∨ i = 2 ∨ i = 3 := by omega
  · refine ⟨B :: r 1 :: r 2 :: r 3 :: F, (Own.sub (h) (by repeat (first | with_reducible exact Sub.nil _ | with_reducible exact Sub.rfl _ | (apply Sub.cons; focus ((repeat (first | with_reducible exact Pick.here | apply Pick.there)); done)) | apply Sub.drop))), fun A w' h => ?_⟩
    have h : Own e w' (B :: A :: r 1 :: r 2 :: r 3 :: F) := (Own.sub (h) (by repeat (first | with_reducible exact Sub.nil _ | with_reducible exact Sub.rfl _ | (apply Sub.cons; focus ((repeat (first | with_reducible exact Pick.here | apply Pick.there)); done)) | apply Sub.drop)))
    simpa using h
  · refine ⟨B :: r 0 :: r 2 :: r 3 :: F, (Own.sub (h) (by repeat (first | with_reducible exact Sub.nil _ | with_reducible exact Sub.rfl _ | (apply Sub.cons; focus ((repeat (first | with_reducible exact Pick.here | apply Pick.there)); done)) | apply Sub.drop))), fun A w' h => ?_⟩
    have h : Own e w' (B :: r 0 :: A :: r 2 :: r 3 :: F) := (Own.sub (h) (by repeat (first | with_reducible exact Sub.nil _ | with_reducible exact Sub.rfl _ | (apply Sub.cons; focus ((repeat (first | with_reducible exact Pick.here | apply Pick.there)); done)) | apply Sub.drop)))
    simpa using h
  · refine ⟨B :: r 0 :: r 1 :: r 3 :: F, (Own.sub (h) (by repeat (first | with_reducible exact Sub.nil _ | with_reducible exact Sub.rfl _ | (apply Sub.cons; focus ((repeat (first | with_reducible exact Pick.here | apply Pick.there)); done)) | apply Sub.drop))), fun A w' h => ?_⟩
    have h : Own e w' (B :: r 0 :: r 1 :: A :: r 3 :: F) := (Own.sub (h) (by repeat (first | with_reducible exact Sub.nil _ | with_reducible exact Sub.rfl _ | (apply Sub.cons; focus ((repeat (first | with_reducible exact Pick.here | apply Pick.there)); done)) | apply Sub.drop)))
    simpa using h
  · refine ⟨B :: r 0 :: r 1 :: r 2 :: F, (Own.sub (h) (by repeat (first | with_reducible exact Sub.nil _ | with_reducible exact Sub.rfl _ | (apply Sub.cons; focus ((repeat (first | with_reducible exact Pick.here | apply Pick.there)); done)) | apply Sub.drop))), fun A w' h => ?_⟩
    have h : Own e w' (B :: r 0 :: r 1 :: r 2 :: A :: F) := (Own.sub (h) (by repeat (first | with_reducible exact Sub.nil _ | with_reducible exact Sub.rfl _ | (apply Sub.cons; focus ((repeat (first | with_reducible exact Pick.here | apply Pick.there)); done)) | apply Sub.drop)))
    simpa using h
/-- Rows that are done with, and others. -/
def upR (R R' : Nat → List Nat) (i j : Nat) : List Nat := if j < i then R' j else R j
theorem upR_at (R R' : Nat → List Nat) (i : Nat) : upR R R' i i = R i := by unfold upR; rw [if_neg (by omega)]
theorem upR_step (a : Nat → Nat) (R R' : Nat → List Nat) (i j : Nat) : (if j = i then rowO (a i) (R' i) else rowO (a j) (upR R R' i j)) = rowO (a j) (upR R R' (i + 1) j) := by
  by_cases h : j = i
  · subst h; rw [if_pos rfl]; unfold upR; rw [if_pos (by omega)]
  · rw [if_neg h]; unfold upR
    by_cases h2 : j < i
    · rw [if_pos h2, if_pos (by omega)]
    · rw [if_neg h2, if_neg (by omega)]
def rowsOk (M : Nat) (R : Nat → List Nat) : Prop := ∀ j, nbOk (R j) ∧ (R j).length = M
def skO (g m : Nat) (s : Int) (R : Nat → List Nat) : HP := exH fun (a : Nat → Nat) => puH (m ≤ 12 ∧ rowsOk (2 ^ m) R) (allH [skB g (a 0) (a 1) (a 2) (a 3) s (2 ^ m), rowO (a 0) (R 0), rowO (a 1) (R 1), rowO (a 2) (R 2), rowO (a 3) (R 3)])
section
variable {e w : World} {F : List HP} {s hh : Int} {g m : Nat} {R : Nat → List Nat}
theorem skO.op (h : Own e w (skO g m s R :: F)) : ∃ a : Nat → Nat, (m ≤ 12 ∧ rowsOk (2 ^ m) R) ∧ Own e w (skB g (a 0) (a 1) (a 2) (a 3) s (2 ^ m) :: rowO (a 0) (R 0) :: rowO (a 1) (R 1) :: rowO (a 2) (R 2) :: rowO (a 3) (R 3) :: F) := by
  obtain ⟨a, h⟩ := h.ex
  obtain ⟨h1, h⟩ := h.pu
  exact ⟨a, h1, h.open_⟩
theorem skO.cl {a : Nat → Nat} (h1 : m ≤ 12 ∧ rowsOk (2 ^ m) R) (h : Own e w (skB g (a 0) (a 1) (a 2) (a 3) s (2 ^ m) :: rowO (a 0) (R 0) :: rowO (a 1) (R 1) :: rowO (a 2) (R 2) :: rowO (a 3) (R 3) :: F)) : Own e w (skO g m s R :: F) := by
  have h : Own e w ([skB g (a 0) (a 1) (a 2) (a 3) s (2 ^ m), rowO (a 0) (R 0), rowO (a 1) (R 1), rowO (a 2) (R 2), rowO (a 3) (R 3)] ++ F) := h
  exact Own.mkEx a (Own.mkPu h1 h.close_)
/-- One row is turned. -/
theorem skRow {a : Nat → Nat} {R' : Nat → List Nat} {i : Nat} (hi : i < 4) (h : Own e w (skB g (a 0) (a 1) (a 2) (a 3) s (2 ^ m) :: rowO (a 0) (upR R R' i 0) :: rowO (a 1) (upR R R' i 1) :: rowO (a 2) (upR R R' i 2) :: rowO (a 3) (upR R R' i 3) :: F)) :
    ∃ G, Own e w (rowO (a i) (R i) :: G) ∧ ∀ w', Own e w' (rowO (a i) (R' i) :: G) → Own e w' (skB g (a 0) (a 1) (a 2) (a 3) s (2 ^ m) :: rowO (a 0) (upR R R' (i + 1) 0) :: rowO (a 1) (upR R R' (i + 1) 1) :: rowO (a 2) (upR R R' (i + 1) 2) :: rowO (a 3) (upR R R' (i + 1) 3) :: F) := by
  obtain ⟨G, h1, h2⟩ := Own.take4 (r := fun j => rowO (a j) (upR R R' i j)) hi h
  have h1 : Own e w (rowO (a i) (upR R R' i i) :: G) := h1
  rw [upR_at] at h1
  refine ⟨G, h1, fun w' h' => ?_⟩
  have := h2 _ w' h'
  simp only [upR_step] at this
  exact this
theorem skHalve (h : Own e w (skO g m s R :: F)) : Rets Tryd.prog 48 #[.pointer (some ⟨g, 0, none⟩)] w fun v w' => v = .tuple #[] ∧ Own e w' (skO g m s (fun j => ngHalve (R j)) :: F) := by
  obtain ⟨a, ⟨hm, hR⟩, h⟩ := skO.op h
  obtain ⟨p1, p2⟩ := p12 hm
  refine sketch_Sketch_Halve_go _ ⟨fun hc => (by cases hc), fun _ => ⟨_, _, _, _, ⟨Own.ld (g := g) (k := 0) h (by repeat (first | with_reducible exact Pick.here | apply Pick.there)) rfl, Own.ld (g := g) (k := 1) h (by repeat (first | with_reducible exact Pick.here | apply Pick.there)) rfl, Own.ld (g := g) (k := 2) h (by repeat (first | with_reducible exact Pick.here | apply Pick.there)) rfl, Own.ld (g := g) (k := 3) h (by repeat (first | with_reducible exact Pick.here | apply Pick.there)) rfl⟩, ?_⟩⟩
  obtain ⟨R', hR'⟩ : ∃ R' : Nat → List Nat, R' = fun j => ngHalve (R j) := ⟨_, rfl⟩
  have hok' : rowsOk (2 ^ m) R' := fun j => by
    rw [hR']
    refine ⟨fun x hx => ?_, by simp [ngHalve, (hR j).2]⟩
    obtain ⟨y, hy, rfl⟩ := List.mem_map.1 hx
    have := (hR j).1 y hy
    omega
  rw [← hR']
  refine ⟨fun k vs w => ∃ i : Nat, vs = [.int .i64 (i : Int)] ∧ k + i = 4 ∧ Own e w (skB g (a 0) (a 1) (a 2) (a 3) s (2 ^ m) :: rowO (a 0) (upR R R' i 0) :: rowO (a 1) (upR R R' i 1) :: rowO (a 2) (upR R R' i 2) :: rowO (a 3) (upR R R' i 3) :: F), ⟨4, 0, rfl, rfl, h⟩, ?_⟩
  clear h
  rintro k w v1 n1
  intros
  rename_i hI
  obtain ⟨i, hvs, hk, h⟩ := hI
  obtain rfl : n1 = (i : Int) := by simpa using hvs
  refine ⟨fun hc => ?_, fun hc => ?_⟩
  · have hc := dec_t hc
    have hi : i < 4 := by omega
    obtain ⟨G, h, back⟩ := skRow hi h
    refine ⟨by omega, by omega, _, getP4 hi, ?_⟩
    refine Rets.mono (nHalve_spec h (hR i).1 (by rw [(hR i).2]; omega)) ?_
    clear h
    rintro _ w ⟨rfl, h⟩
    exact ⟨rfl, k - 1, by omega, i + 1, by rw [wI64 (by omega) (by omega)]; rfl, by omega, back w (by rw [hR']; exact h)⟩
  · have hc := dec_f hc
    obtain rfl : i = 4 := by omega
    exact ⟨rfl, skO.cl ⟨hm, hok'⟩ h⟩
theorem skAdd (hm1 : ∀ w, Own e w F → RdC w mixQ mixC) (h : Own e w (skO g m s R :: F)) : Rets Tryd.prog 31 #[.pointer (some ⟨g, 0, none⟩), .int .u64 hh] w fun v w' => v = .tuple #[] ∧ Own e w' (skO g m s (fun j => ngAdd (R j) (plc s (2 ^ m) hh j : Int)) :: F) := by
  obtain ⟨a, ⟨hm, hR⟩, h⟩ := skO.op h
  obtain ⟨p1, p2⟩ := p12 hm
  refine sketch_Sketch_Add_go _ _ ⟨fun hc => (by cases hc), fun _ => ⟨_, _, _, _, ⟨Own.ld (g := g) (k := 0) h (by repeat (first | with_reducible exact Pick.here | apply Pick.there)) rfl, Own.ld (g := g) (k := 1) h (by repeat (first | with_reducible exact Pick.here | apply Pick.there)) rfl, Own.ld (g := g) (k := 2) h (by repeat (first | with_reducible exact Pick.here | apply Pick.there)) rfl, Own.ld (g := g) (k := 3) h (by repeat (first | with_reducible exact Pick.here | apply Pick.there)) rfl⟩, ?_⟩⟩
  obtain ⟨R', hR'⟩ : ∃ R' : Nat → List Nat, R' = fun j => ngAdd (R j) (plc s (2 ^ m) hh j : Int) := ⟨_, rfl⟩
  have hok' : rowsOk (2 ^ m) R' := fun j => by
    rw [hR']
    exact ⟨ngAdd_ok (hR j).1 _, by simp [ngAdd_len, (hR j).2]⟩
  rw [← hR']
  refine ⟨fun k vs w => ∃ i : Nat, vs = [.int .i64 (i : Int)] ∧ k + i = 4 ∧ Own e w (skB g (a 0) (a 1) (a 2) (a 3) s (2 ^ m) :: rowO (a 0) (upR R R' i 0) :: rowO (a 1) (upR R R' i 1) :: rowO (a 2) (upR R R' i 2) :: rowO (a 3) (upR R R' i 3) :: F), ⟨4, 0, rfl, rfl, h⟩, ?_⟩
  clear h
  rintro k w v1 v2 n1
  intros
  rename_i hI
  obtain ⟨i, hvs, hk, h⟩ := hI
  obtain rfl : n1 = (i : Int) := by simpa using hvs
  refine ⟨fun hc => ?_, fun hc => ?_⟩
  · have hc := dec_t hc
    have hi : i < 4 := by omega
    refine ⟨by omega, by omega, _, getP4 hi, ?_⟩
    refine Rets.mono (skPlace hi hm (fun w h => hm1 w h.drop.drop.drop.drop) h) ?_
    clear h
    rintro _ w ⟨rfl, h⟩
    obtain ⟨G, h, back⟩ := skRow hi h
    refine ⟨_, rfl, ?_⟩
    refine Rets.mono (nAdd_spec h (hR i).1 (by rw [(hR i).2]; omega)) ?_
    clear h
    rintro _ w ⟨rfl, h⟩
    exact ⟨_, rfl, k - 1, by omega, i + 1, by rw [wI64 (by omega) (by omega)]; rfl, by omega, back w (by rw [hR']; exact h)⟩
  · have hc := dec_f hc
    obtain rfl : i = 4 := by omega
    exact ⟨rfl, skO.cl ⟨hm, hok'⟩ h⟩
/-- The least of so many rows. -/
def cuN (s : Int) (M : Nat) (hh : Int) (R : Nat → List Nat) : Nat → Nat
  | 0 => 15
  | i + 1 => min (cuN s M hh R i) (ngGet (R i) (plc s M hh i : Int))
theorem cuN_le (s : Int) (M : Nat) (hh : Int) (R : Nat → List Nat) : ∀ i, cuN s M hh R i ≤ 15
  | 0 => Nat.le_refl _
  | i + 1 => Nat.le_trans (Nat.min_le_left _ _) (cuN_le s M hh R i)
theorem minN (a b : Nat) : minI (a : Int) (b : Int) = ((min a b : Nat) : Int) := by unfold minI; split <;> omega
theorem upR_same (R : Nat → List Nat) (i j : Nat) : upR R R i j = R j := by unfold upR; split <;> rfl
theorem skCount (hm1 : ∀ w, Own e w F → RdC w mixQ mixC) (h : Own e w (skO g m s R :: F)) : Rets Tryd.prog 24 #[.pointer (some ⟨g, 0, none⟩), .int .u64 hh] w fun v w' => v = .int .i64 (cuN s (2 ^ m) hh R 4 : Int) ∧ Own e w' (skO g m s R :: F) := by
  obtain ⟨a, ⟨hm, hR⟩, h⟩ := skO.op h
  obtain ⟨p1, p2⟩ := p12 hm
  refine sketch_Sketch_Count_go _ _ ⟨fun hc => (by cases hc), fun _ => ⟨_, _, _, _, ⟨Own.ld (g := g) (k := 0) h (by repeat (first | with_reducible exact Pick.here | apply Pick.there)) rfl, Own.ld (g := g) (k := 1) h (by repeat (first | with_reducible exact Pick.here | apply Pick.there)) rfl, Own.ld (g := g) (k := 2) h (by repeat (first | with_reducible exact Pick.here | apply Pick.there)) rfl, Own.ld (g := g) (k := 3) h (by repeat (first | with_reducible exact Pick.here | apply Pick.there)) rfl⟩, ?_⟩⟩
  refine ⟨fun k vs w => ∃ i : Nat, vs = [.int .i64 (cuN s (2 ^ m) hh R i : Int), .int .i64 (i : Int)] ∧ k + i = 4 ∧ Own e w (skB g (a 0) (a 1) (a 2) (a 3) s (2 ^ m) :: rowO (a 0) (R 0) :: rowO (a 1) (R 1) :: rowO (a 2) (R 2) :: rowO (a 3) (R 3) :: F), ⟨4, 0, rfl, rfl, h⟩, ?_⟩
  clear h
  rintro k w n1 v1 v2 n2
  intros
  rename_i hI
  obtain ⟨i, hvs, hk, h⟩ := hI
  obtain ⟨rfl, rfl⟩ : n1 = (cuN s (2 ^ m) hh R i : Int) ∧ n2 = (i : Int) := by simpa using hvs
  refine ⟨fun hc => ?_, fun hc => ?_⟩
  · have hc := dec_t hc
    have hi : i < 4 := by omega
    refine ⟨by omega, by omega, _, getP4 hi, ?_⟩
    refine Rets.mono (skPlace hi hm (fun w h => hm1 w h.drop.drop.drop.drop) h) ?_
    clear h
    rintro _ w ⟨rfl, h⟩
    have h : Own e w (skB g (a 0) (a 1) (a 2) (a 3) s (2 ^ m) :: rowO (a 0) (upR R R i 0) :: rowO (a 1) (upR R R i 1) :: rowO (a 2) (upR R R i 2) :: rowO (a 3) (upR R R i 3) :: F) := by
      simp only [upR_same]; exact h
    obtain ⟨G, h, back⟩ := skRow hi h
    refine ⟨_, rfl, ?_⟩
    refine Rets.mono (nGet_spec h (hR i).1 (by rw [(hR i).2]; omega)) ?_
    clear h
    rintro _ w ⟨rfl, h⟩
    have h := back w h
    simp only [upR_same] at h
    refine ⟨_, rfl, k - 1, by omega, i + 1, ?_, by omega, h⟩
    rw [wI64 (by omega) (by omega), minN]
    rfl
  · have hc := dec_f hc
    obtain rfl : i = 4 := by omega
    exact ⟨rfl, skO.cl ⟨hm, hR⟩ h⟩
/-! ### A new one -/
def ptN (a : Nat → Nat) (i j : Nat) : Value := if j < i then .pointer (some ⟨a j, 0, none⟩) else .pointer none
def sdN (s : Int) (i j : Nat) : Value := if j < i then .int .u64 (sdI s j) else .int .u64 0
def skC (a : Nat → Nat) (s : Int) (M i : Nat) : List Value := [ptN a i 0, ptN a i 1, ptN a i 2, ptN a i 3, sdN s i 0, sdN s i 1, sdN s i 2, sdN s i 3, .int .i64 (M : Int)]
def rws (a : Nat → Nat) (M : Nat) : Nat → List HP
  | 0 => []
  | i + 1 => rowO (a i) (List.replicate M 0) :: rws a M i
def putA (a : Nat → Nat) (i g : Nat) : Nat → Nat := fun j => if j = i then g else a j
theorem rws_put (a : Nat → Nat) (M g : Nat) (i : Nat) : ∀ k, k ≤ i → rws (putA a i g) M k = rws a M k
  | 0, _ => rfl
  | k + 1, hk => by
    unfold rws
    rw [rws_put a M g i k (by omega)]
    unfold putA
    rw [if_neg (by omega)]
theorem skC_put {a : Nat → Nat} {M g' i : Nat} (hi : i < 4) : setFrom (setFrom (skC a s M i) i [.pointer (some ⟨g', 0, none⟩)]) (4 + i) [.int .u64 (sdI s i)] = skC (putA a i g') s M (i + 1) := by
  obtain rfl | rfl | rfl | rfl : i = 0 ∨ i = 1 ∨ i = 2 ∨ i = 3 := by omega
  all_goals rfl
theorem skC_len (a : Nat → Nat) (M i : Nat) : (skC a s M i).length = 9 := rfl
theorem skNew {n : Int} (hm1 : ∀ w, Own e w F → RdC w mixQ mixC) (h : Own e w F) : Rets Tryd.prog 19 #[.int .i64 n, .int .u64 s] w fun v w' => ∃ g m, v = .pointer (some ⟨g, 0, none⟩) ∧ pwS (maxI 1 (minI n 4096)) m ∧ Own e w' (skO g m s (fun _ => List.replicate (2 ^ m) 0) :: F) := by
  have hn : 1 ≤ maxI 1 (minI n 4096) ∧ maxI 1 (minI n 4096) ≤ 4096 := by unfold maxI minI; split <;> split <;> omega
  refine sketch_New_go _ _ ?_
  refine Rets.mono (wdPowerS hn h) ?_
  clear h
  rintro _ w ⟨⟨m, rfl, hok⟩, h⟩
  have hm := hok.small hn.2
  obtain ⟨p1, p2⟩ := p12 hm
  obtain ⟨M, hM⟩ : ∃ M, M = 2 ^ m := ⟨_, rfl⟩
  refine ⟨_, rfl, h.newR fun g w h => ?_⟩
  rw [← hM] at h p1 p2
  refine ⟨fun k vs w => ∃ (i : Nat) (a : Nat → Nat), vs = [.int .i64 (i : Int)] ∧ k + i = 4 ∧ Own e w (blk g 66 (skC a s M i) :: (rws a M i ++ F)), ⟨4, 0, fun _ => 0, rfl, rfl, h⟩, ?_⟩
  clear h
  rintro k w v2 n2
  intros
  rename_i hI
  obtain ⟨i, a, hvs, hk, h⟩ := hI
  obtain rfl : n2 = (i : Int) := by simpa using hvs
  have dropR : ∀ k w, Own e w (rws a M k ++ F) → Own e w F := fun k => by
    induction k with
    | zero => exact fun w h => h
    | succ k ih => exact fun w h => ih w (Own.drop h)
  refine ⟨fun hc => ?_, fun hc => ?_⟩
  · have hc := dec_t hc
    have hi : i < 4 := by omega
    refine h.drw fun w h => ⟨(M : Int), h.cellAdd 8 rfl, ?_⟩
    refine Rets.mono (nNew_spec (N := M) h (by omega)) ?_
    clear h
    rintro _ w ⟨g', rfl, h⟩
    refine ⟨_, rfl, by omega, by omega, ?_⟩
    rw [Int.toNat_natCast, Nat.mul_one, addr_add_add, Nat.zero_add]
    refine h.swap.store (by rw [skC_len]; simp; omega) (by simp [Value.oneCell']) fun w h => h.drw fun w h => ?_
    refine Rets.mono (mxMix (x := IntKind.wrap .u64 (IntKind.wrap .u64 (s + IntKind.wrap .u64 (i : Int)) + 1)) h (fun w h => hm1 w (dropR i w h.drop.drop))) ?_
    clear h
    rintro _ w ⟨rfl, h⟩
    refine ⟨_, rfl, by omega, by omega, ?_⟩
    rw [addr_add_add]
    refine h.store (by rw [setFrom_length, skC_len]; simp; omega) (by simp [Value.oneCell']) fun w h => ⟨k - 1, by omega, i + 1, putA a i g', by rw [wI64 (by omega) (by omega)]; rfl, by omega, ?_⟩
    have e1 := skC_put (s := s) (a := a) (M := M) (g' := g') hi
    rw [← e1]
    unfold rws
    rw [rws_put a M g' i i (Nat.le_refl _)]
    have e2 : putA a i g' i = g' := by unfold putA; rw [if_pos rfl]
    rw [e2]
    exact h
  · have hc := dec_f hc
    obtain rfl : i = 4 := by omega
    subst hM
    refine ⟨g, m, rfl, hok, skO.cl (a := a) ⟨hm, fun j => ⟨nbOk_zero _, by simp⟩⟩ ?_⟩
    have h : Own e w (skB g (a 0) (a 1) (a 2) (a 3) s (2 ^ m) :: rowO (a 3) (List.replicate (2 ^ m) 0) :: rowO (a 2) (List.replicate (2 ^ m) 0) :: rowO (a 1) (List.replicate (2 ^ m) 0) :: rowO (a 0) (List.replicate (2 ^ m) 0) :: F) := h
    exact (Own.sub (h) (by repeat (first | with_reducible exact Sub.nil _ | with_reducible exact Sub.rfl _ | (apply Sub.cons; focus ((repeat (first | with_reducible exact Pick.here | apply Pick.there)); done)) | apply Sub.drop)))
end
end Go.Proofs.YtkhfejnkefgpeaaDoor.Eng
