/- DoorPlays: counting bits, and what each function does. -/
import Derived.Test.YtfcddffcjmgpkaaDoorDoorQ
import Derived.Test.YtfcddffcjmgpkaaDoorDoorFG
namespace Go.Proofs.YtfcddffcjmgpkaaDoor.Eng
open Go Go.RowKit Go.Proofs
set_option linter.unusedVariables false
set_option linter.unusedSimpArgs false
set_option maxRecDepth 1000000
/-! ### Counting -/
def cntB (f : Nat → Bool) : Nat → Nat
  | 0 => 0
  | n + 1 => cntB f n + (if f n = true then 1 else 0)
theorem cntB_le (f : Nat → Bool) : ∀ n, cntB f n ≤ n
  | 0 => Nat.le_refl _
  | n + 1 => by
    have := cntB_le f n
    unfold cntB; split <;> omega
theorem cntB_add (f : Nat → Bool) (a : Nat) : ∀ b, cntB f (a + b) = cntB f a + cntB (fun i => f (a + i)) b
  | 0 => rfl
  | b + 1 => by
    show cntB f (a + b) + (if f (a + b) = true then 1 else 0) = cntB f a + (cntB (fun i => f (a + i)) b + (if f (a + b) = true then 1 else 0))
    rw [cntB_add f a b]; omega
theorem cntB_cong {f g : Nat → Bool} : ∀ n, (∀ i, i < n → f i = g i) → cntB f n = cntB g n
  | 0, _ => rfl
  | n + 1, h => by
    unfold cntB
    rw [cntB_cong n (fun i hi => h i (by omega)), h n (by omega)]
theorem cntB_no {f : Nat → Bool} : ∀ n, (∀ i, f i = false) → cntB f n = 0
  | 0, _ => rfl
  | n + 1, h => by
    unfold cntB
    rw [cntB_no n h, h n]; rfl
theorem cntB_out {f : Nat → Bool} {M N : Nat} (hMN : M ≤ N) (h : ∀ r, M ≤ r → f r = false) : cntB f N = cntB f M := by
  obtain ⟨b, rfl⟩ := Nat.exists_eq_add_of_le hMN
  rw [cntB_add, cntB_no b (fun i => h _ (by omega)), Nat.add_zero]
theorem bits_cnt (m : Nat) : ∀ x : Nat, (bitsN m x).sum = cntB x.testBit m := by
  induction m with
  | zero => intro x; rfl
  | succ m ih =>
    intro x
    have e : cntB x.testBit (m + 1) = cntB x.testBit 1 + cntB (fun i => x.testBit (1 + i)) m := by rw [Nat.add_comm m 1, cntB_add]
    have e1 : cntB x.testBit 1 = x % 2 := by
      show 0 + (if x.testBit 0 = true then 1 else 0) = _
      rw [Nat.testBit_zero]
      by_cases h : x % 2 = 1
      · rw [if_pos (by simpa using h)]; omega
      · rw [if_neg (by simpa using h)]; omega
    rw [e, e1]
    show x % 2 + (bitsN m (x / 2)).sum = _
    rw [ih]
    congr 1
    refine cntB_cong m fun i _ => ?_
    rw [Nat.add_comm 1 i, Nat.testBit_succ]
def tot (ws : List Nat) : Nat := (ws.map pc).sum
theorem tot_cnt : ∀ ws : List Nat, tot ws = cntB (bitW ws) (64 * ws.length)
  | [] => rfl
  | x :: t => by
    have ih := tot_cnt t
    have e : 64 * (x :: t).length = 64 + 64 * t.length := by rw [List.length_cons]; omega
    rw [e, cntB_add]
    show pc x + tot t = _
    rw [ih]
    unfold pc
    rw [bits_cnt]
    have e1 : cntB (bitW (x :: t)) 64 = cntB x.testBit 64 := cntB_cong 64 fun i hi => by
      unfold bitW
      rw [Nat.div_eq_of_lt hi, Nat.mod_eq_of_lt hi]; rfl
    have e2 : cntB (fun i => bitW (x :: t) (64 + i)) (64 * t.length) = cntB (bitW t) (64 * t.length) := cntB_cong _ fun i hi => by
      unfold bitW
      rw [show (64 + i) / 64 = i / 64 + 1 by omega, show (64 + i) % 64 = i % 64 by omega]; rfl
    rw [e1, e2]
theorem tot_le (ws : List Nat) : tot ws ≤ 64 * ws.length := by rw [tot_cnt]; exact cntB_le _ _
theorem pc_le (x : Nat) : pc x ≤ 64 := sum_le 64 x
theorem pc_zero : pc 0 = 0 := by unfold pc; decide
theorem pc_and {y : Nat} (h0 : y ≠ 0) (hy : y < 18446744073709551616) : pc (y &&& (y - 1)) + 1 = pc y := sum_and 64 y h0 (by rw [pow64]; exact hy)
theorem tot_succ {ws : List Nat} {i : Nat} (hi : i < ws.length) : tot (ws.take (i + 1)) = tot (ws.take i) + pc ws[i] := by
  unfold tot
  rw [List.take_succ_eq_append_getElem hi, List.map_append, List.sum_append]; simp
attribute [local irreducible] pc
/-- No bit beyond. -/
def Zer (M : Nat) (ws : List Nat) : Prop := ∀ r, M ≤ r → bitW ws r = false
theorem Zer.nil (M n : Nat) : Zer M (List.replicate n 0) := fun r _ => by
  have := bitsOf.nil 0 M n r
  rw [Bool.eq_false_iff]; intro h
  obtain ⟨k, hk, _⟩ := this.1 h
  cases hk
theorem Zer.set {M p : Nat} {ws : List Nat} (h : Zer M ws) (hp : p < M) (hl : p / 64 < ws.length) : Zer M (setW ws p) := fun r hr => by
  rw [bitW_set hl, h r hr, Bool.false_or]
  exact decide_eq_false (by omega)
theorem Zer.pt {s h : Int} {M : Nat} {ws : List Nat} (hz : Zer M ws) (hM : 0 < M) (hl : ws.length = (M + 63) / 64) : ∀ i, Zer M (ptW s h M ws i)
  | 0 => hz
  | i + 1 => by
    have := plN_lt (s := s) (h := h) (i := i) hM
    exact (Zer.pt hz hM hl i).set this (by rw [ptW_len, hl]; omega)
theorem Zer.put {s h : Int} {M : Nat} {ws : List Nat} (hz : Zer M ws) (hM : 0 < M) (hl : ws.length = (M + 63) / 64) : Zer M (putB s h M ws) := by
  unfold putB; split
  · exact hz
  · exact hz.pt hM hl 4
theorem tot_eq {M : Nat} {ws : List Nat} (hz : Zer M ws) (hl : ws.length = (M + 63) / 64) : tot ws = cntB (bitW ws) M := by
  rw [tot_cnt, cntB_out (by rw [hl]; omega) hz]
/-- The document's list. -/
def rl (M : Nat) (ws : List Nat) : List Bool := (List.range M).map (bitW ws)
theorem rl_len (M : Nat) (ws : List Nat) : (rl M ws).length = M := by simp [rl]
theorem rl_get {M : Nat} {ws : List Nat} {i : Nat} (hi : i < (rl M ws).length) : (rl M ws)[i] = bitW ws i := by simp [rl]
theorem rl_set {M p : Nat} {ws : List Nat} (hp : p < M) (hl : p / 64 < ws.length) : rl M (setW ws p) = (rl M ws).set p true := by
  apply List.ext_getElem
  · simp [rl]
  · intro j h1 h2
    rw [rl_get, bitW_set hl, List.getElem_set]
    by_cases hj : p = j
    · subst hj; simp
    · rw [if_neg hj, rl_get, decide_eq_false (by omega), Bool.or_false]
theorem rl_zero (M n : Nat) : rl M (List.replicate n 0) = List.replicate M false := by
  apply List.ext_getElem
  · simp [rl]
  · intro j h1 h2
    rw [rl_get, List.getElem_replicate]
    have := bitsOf.nil 0 0 n j
    rw [Bool.eq_false_iff]; intro h
    obtain ⟨k, hk, _⟩ := this.1 h
    cases hk
/-! ### Arrays of four numbers held against each other -/
theorem key1 {P : Program} {d : Nat} {t : TypeId} {a : Int} (hu : P.underlying t = some (.int .i64)) (ha : (Lit.int .i64 a).wf = true) : P.keyLits (d + 1) t [.int .i64 a] = some [.int .i64 a] := by
  unfold Program.keyLits
  rw [hu]
  simp [ha]
theorem key4 {P : Program} {d : Nat} {T t : TypeId} {x0 x1 x2 x3 : Int} (hT : P.underlying T = some (.array 4 t)) (hu : P.underlying t = some (.int .i64)) (c4 : P.cellsOf T = 4) (c1 : P.cellsOf t = 1)
    (h0 : (Lit.int .i64 x0).wf = true) (h1 : (Lit.int .i64 x1).wf = true) (h2 : (Lit.int .i64 x2).wf = true) (h3 : (Lit.int .i64 x3).wf = true) :
    P.keyLits (d + 2) T [.int .i64 x0, .int .i64 x1, .int .i64 x2, .int .i64 x3] = some [.int .i64 x0, .int .i64 x1, .int .i64 x2, .int .i64 x3] := by
  unfold Program.keyLits
  rw [hT]
  simp [c4, c1, show List.range 4 = [0, 1, 2, 3] from rfl, key1 hu h0, key1 hu h1, key1 hu h2, key1 hu h3]
theorem wfSmall {n : Nat} (h : n ≤ 1048576) : (Lit.int .i64 (n : Int)).wf = true := by
  simp [Lit.wf, IntKind.min, IntKind.max, IntKind.signed, IntKind.bits]; omega
section
variable {S : World → Prop} {xo yo : Operand} {a0 a1 a2 a3 b0 b1 b2 b3 : Nat}
def eq4 (a0 a1 a2 a3 b0 b1 b2 b3 : Nat) : Bool := decide (a0 = b0 ∧ a1 = b1 ∧ a2 = b2 ∧ a3 = b3)
theorem lits4 : ([Lit.int .i64 (a0 : Int), Lit.int .i64 (a1 : Int), Lit.int .i64 (a2 : Int), Lit.int .i64 (a3 : Int)] = [Lit.int .i64 (b0 : Int), Lit.int .i64 (b1 : Int), Lit.int .i64 (b2 : Int), Lit.int .i64 (b3 : Int)]) ↔ (a0 = b0 ∧ a1 = b1 ∧ a2 = b2 ∧ a3 = b3) := by
  simp; omega
theorem same4 (ha : a0 ≤ 1048576 ∧ a1 ≤ 1048576 ∧ a2 ≤ 1048576 ∧ a3 ≤ 1048576) (hb : b0 ≤ 1048576 ∧ b1 ≤ 1048576 ∧ b2 ≤ 1048576 ∧ b3 ≤ 1048576) :
    SameRun Tryd.prog S (binV .eql 31 xo yo (.agg #[.int .i64 (a0 : Int), .int .i64 (a1 : Int), .int .i64 (a2 : Int), .int .i64 (a3 : Int)]) (.agg #[.int .i64 (b0 : Int), .int .i64 (b1 : Int), .int .i64 (b2 : Int), .int .i64 (b3 : Int)])) (.bool (eq4 a0 a1 a2 a3 b0 b1 b2 b3)) :=
  aggEql (P := Tryd.prog) (D := 10) (m := 3) (by kernel_rfl) (by kernel_rfl) (by kernel_rfl) (by kernel_rfl) (by kernel_rfl)
    (key4 (d := 8) (t := 3) (by kernel_rfl) (by kernel_rfl) (by kernel_rfl) (by kernel_rfl) (wfSmall ha.1) (wfSmall ha.2.1) (wfSmall ha.2.2.1) (wfSmall ha.2.2.2))
    (key4 (d := 8) (t := 3) (by kernel_rfl) (by kernel_rfl) (by kernel_rfl) (by kernel_rfl) (wfSmall hb.1) (wfSmall hb.2.1) (wfSmall hb.2.2.1) (wfSmall hb.2.2.2)) lits4
theorem notsame4 (ha : a0 ≤ 1048576 ∧ a1 ≤ 1048576 ∧ a2 ≤ 1048576 ∧ a3 ≤ 1048576) (hb : b0 ≤ 1048576 ∧ b1 ≤ 1048576 ∧ b2 ≤ 1048576 ∧ b3 ≤ 1048576) :
    SameRun Tryd.prog S (binV .neq 31 xo yo (.agg #[.int .i64 (a0 : Int), .int .i64 (a1 : Int), .int .i64 (a2 : Int), .int .i64 (a3 : Int)]) (.agg #[.int .i64 (b0 : Int), .int .i64 (b1 : Int), .int .i64 (b2 : Int), .int .i64 (b3 : Int)])) (.bool (!eq4 a0 a1 a2 a3 b0 b1 b2 b3)) :=
  aggNeq (P := Tryd.prog) (D := 10) (m := 3) (by kernel_rfl) (by kernel_rfl) (by kernel_rfl) (by kernel_rfl) (by kernel_rfl)
    (key4 (d := 8) (t := 3) (by kernel_rfl) (by kernel_rfl) (by kernel_rfl) (by kernel_rfl) (wfSmall ha.1) (wfSmall ha.2.1) (wfSmall ha.2.2.1) (wfSmall ha.2.2.2))
    (key4 (d := 8) (t := 3) (by kernel_rfl) (by kernel_rfl) (by kernel_rfl) (by kernel_rfl) (wfSmall hb.1) (wfSmall hb.2.1) (wfSmall hb.2.2.1) (wfSmall hb.2.2.2)) lits4
end
/-! ### What each does -/
section
variable {e w : World} {F : List HP} {s hh : Int} {g m : Nat} {ws : List Nat}
theorem wdOnes {X : Nat} (hX : X < 18446744073709551616) (h : Own e w F) : Rets Tryd.prog 27 #[.int .u64 (X : Int)] w fun v w' => v = .int .i64 (pc X : Int) ∧ Own e w' F := by
  have hle : pc X ≤ 64 := pc_le X
  obtain ⟨P, hP⟩ : ∃ P, P = pc X := ⟨_, rfl⟩
  rw [← hP] at hle ⊢
  refine word_Ones_go _ ⟨fun k vs w => ∃ y n : Nat, vs = [.int .u64 (y : Int), .int .i64 (n : Int)] ∧ k = pc y ∧ n + pc y = P ∧ y < 18446744073709551616 ∧ Own e w F, ⟨pc X, X, 0, rfl, rfl, by rw [Nat.zero_add, hP], hX, h⟩, ?_⟩
  clear h hP
  rintro k w n1 n2
  intros
  rename_i hI
  obtain ⟨y, n, hvs, rfl, hn, hy, h⟩ := hI
  obtain ⟨rfl, rfl⟩ : n1 = (y : Int) ∧ n2 = (n : Int) := by simpa using hvs
  refine ⟨fun hc => ?_, fun hc => ?_⟩
  · have hy0 : y ≠ 0 := fun e => by rw [e] at hc; exact absurd hc (by decide)
    have e1 : IntKind.wrap .u64 ((y : Int) - 1) = ((y - 1 : Nat) : Int) := by rw [wU64' (by omega) (by omega)]; omega
    rw [e1, N_and hy (by omega)]
    have hs : pc (y &&& (y - 1)) + 1 = pc y := pc_and hy0 hy
    have hy2 : y &&& (y - 1) < 18446744073709551616 := Nat.lt_of_le_of_lt Nat.and_le_left hy
    obtain ⟨z, hz⟩ : ∃ z, z = y &&& (y - 1) := ⟨_, rfl⟩
    rw [← hz] at hs hy2 ⊢
    refine ⟨pc z, by omega, z, n + 1, ?_, rfl, by omega, hy2, h⟩
    rw [wI64 (by omega) (by omega)]; rfl
  · have hy0 : y = 0 := Int.ofNat.inj (show ((y : Nat) : Int) = ((0 : Nat) : Int) from bne_eq_false_iff_eq.1 hc)
    subst hy0
    have := pc_zero
    refine ⟨?_, h⟩
    rw [show n = P by omega]
theorem drFull (h : Own e w (dorO g m s ws :: F)) : Rets Tryd.prog 15 #[.pointer (some ⟨g, 0, none⟩)] w fun v w' => v = .int .i64 (tot ws : Int) ∧ Own e w' (dorO g m s ws :: F) := by
  obtain ⟨q, h1, h⟩ := dorO.op h
  obtain ⟨p1, p2⟩ := p20 h1.2.2.1
  obtain ⟨hl, hsm, hm20, hM⟩ := h1
  refine door_Door_Full_go _ ⟨fun hc => (by cases hc), fun _ => ⟨_, _, _, (Own.ld h (by repeat (first | with_reducible exact Pick.here | apply Pick.there)) (by rfl)), ?_⟩⟩
  refine ⟨fun k vs w => ∃ i : Nat, vs = [.int .i64 (tot (ws.take i) : Int), .int .i64 (i : Int)] ∧ k + i = ws.length ∧ Own e w (blk g 47 [.slice q ws.length ws.length, .int .i64 ((2 ^ m : Nat) : Int), .int .u64 s] :: wsB q ws.length ws :: F), ⟨ws.length, 0, rfl, rfl, h⟩, ?_⟩
  clear h
  rintro k w n1 v1 n2
  intros
  rename_i hI
  obtain ⟨i, hvs, hk, h⟩ := hI
  obtain ⟨rfl, rfl⟩ : n1 = (tot (ws.take i) : Int) ∧ n2 = (i : Int) := by simpa using hvs
  refine ⟨fun hc => ?_, fun hc => ?_⟩
  · have hc := dec_t hc
    have hi : i < ws.length := by omega
    have hl2 : i < (ws.map fun (b : Nat) => (b : Int)).length := by simpa using hi
    refine ⟨by omega, by omega, (Own.rdP (T := 22) (q := q) h (by repeat (first | with_reducible exact Pick.here | apply Pick.there))).int (i := i) hl2 fun a ha => ⟨((ws[i] : Nat) : Int), by simpa using ha, ?_⟩⟩
    refine Rets.mono (wdOnes (hsm _ (List.getElem_mem hi)) h) ?_
    clear h
    rintro _ w ⟨rfl, h⟩
    have hle : pc ws[i] ≤ 64 := pc_le _
    have hle2 := tot_le (ws.take i)
    have hlt : (ws.take i).length ≤ i := by simp; omega
    have et : tot (ws.take (i + 1)) = tot (ws.take i) + pc ws[i] := tot_succ hi
    refine ⟨_, rfl, k - 1, by omega, i + 1, ?_, by omega, h⟩
    rw [wI64 (by omega) (by omega), wI64 (by omega) (by omega), et]
    rfl
  · have hc := dec_f hc
    obtain rfl : i = ws.length := by omega
    rw [List.take_length]
    exact ⟨rfl, dorO.cl ⟨hl, hsm, hm20, hM⟩ h⟩
theorem drClear (h : Own e w (dorO g m s ws :: F)) : Rets Tryd.prog 18 #[.pointer (some ⟨g, 0, none⟩)] w fun v w' => v = .tuple #[] ∧ Own e w' (dorO g m s (List.replicate ws.length 0) :: F) := by
  obtain ⟨q, h1, h⟩ := dorO.op h
  obtain ⟨hl, hsm, hm20, hM⟩ := h1
  refine door_Door_Clear_go _ ⟨fun _ => ⟨_, _, _, (Own.ld h (by repeat (first | with_reducible exact Pick.here | apply Pick.there)) (by rfl)), ?_⟩, fun hc => (by cases hc)⟩
  refine Own.clear (z := .int .u64 0) h.swap (by kernel_rfl) (by kernel_rfl) rfl fun w h => ⟨rfl, rfl, ?_⟩
  refine dorO.cl (q := q) ⟨by rw [List.length_replicate]; exact hl, fun x hx => by rw [List.eq_of_mem_replicate hx]; omega, hm20, hM⟩ ?_
  rw [List.length_replicate]
  have e2 : wsC (List.replicate ws.length 0) = List.replicate ws.length (.int .u64 0) := by simp [cs]
  rw [wsB, e2]
  exact h.swap
def alike (s a b : Int) (M : Nat) : Bool := eq4 (plN s a M 0) (plN s a M 1) (plN s a M 2) (plN s a M 3) (plN s b M 0) (plN s b M 1) (plN s b M 2) (plN s b M 3)
theorem plN4 {s a : Int} {M : Nat} (h : 0 < M) (h2 : M ≤ 1048576) : plN s a M 0 ≤ 1048576 ∧ plN s a M 1 ≤ 1048576 ∧ plN s a M 2 ≤ 1048576 ∧ plN s a M 3 ≤ 1048576 := by
  have h0 := plN_lt (s := s) (h := a) (i := 0) h
  have h1 := plN_lt (s := s) (h := a) (i := 1) h
  have h2 := plN_lt (s := s) (h := a) (i := 2) h
  have h3 := plN_lt (s := s) (h := a) (i := 3) h
  omega
theorem drAlike {a b : Int} (hm1 : ∀ w, Own e w F → RdC w mixQ mixC) (hm2 : ∀ w, Own e w F → RdC w twiQ twiC) (h : Own e w (dorO g m s ws :: F)) :
    Rets Tryd.prog 10 #[.pointer (some ⟨g, 0, none⟩), .int .u64 a, .int .u64 b] w fun v w' => v = .bool (alike s a b (2 ^ m)) ∧ Own e w' (dorO g m s ws :: F) := by
  obtain ⟨_, h1, _⟩ := dorO.op h
  obtain ⟨p1, p2⟩ := p20 h1.2.2.1
  refine door_Door_Alike_go _ _ _ ?_
  refine Rets.mono (drPlaces hm1 hm2 h) ?_
  clear h
  rintro _ w ⟨rfl, h⟩
  refine ⟨_, _, _, _, rfl, ?_⟩
  refine Rets.mono (drPlaces hm1 hm2 h) ?_
  clear h
  rintro _ w ⟨rfl, h⟩
  exact ⟨_, _, _, _, rfl, _, _, same4 (S := fun _ => True) (plN4 p1 p2) (plN4 p1 p2) w trivial, _, rfl, rfl, h⟩
end
/-! ### The document's -/
abbrev blB (q : Option Addr) (n c : Nat) (bs : List Bool) : HP := slO 4 1 q n c (bs.map Value.bool)
section
variable {e w : World} {F : List HP} {s hh : Int} {q : Option Addr} {c m : Nat} {ws : List Nat}
theorem rdNewO {k : Int} (h : Own e w F) : Rets Tryd.prog 7 #[.int .i64 k, .int .u64 s] w fun v w' => ∃ q' m, v = .agg #[.slice q' (2 ^ m) (2 ^ m), .int .u64 s] ∧ pwOk (keyN k) m ∧ Own e w' (blB q' (2 ^ m) (2 ^ m) (rl (2 ^ m) (List.replicate ((2 ^ m + 63) / 64) 0)) :: F) := by
  refine cortadoref12_New_go _ _ ?_
  unfold cortadoref12_New_m
  have hk := keyN_bd k
  have e1 : IntKind.wrap .i64 (8 * maxI 1 (minI k 4096)) = keyN k := by
    have : 8 * maxI 1 (minI k 4096) = keyN k := rfl
    rw [this, wI64 (by omega) (by omega)]
  rw [e1]
  refine h.newR fun g w h => ?_
  refine Rets.mono (rfPower ⟨by omega, by omega⟩ h) ?_
  rintro _ w ⟨⟨m, rfl, hok⟩, h⟩
  have hm20 := hok.small (by omega)
  obtain ⟨p1, p2⟩ := p20 hm20
  refine ⟨_, rfl, h.makeR ⟨by omega, by omega, by omega, by omega⟩ fun g2 w h => ?_⟩
  rw [Int.toNat_natCast] at h ⊢
  refine Own.stP' (g := g) h (by repeat (first | with_reducible exact Pick.here | apply Pick.there)) (by simp) (by simp [Value.oneCell']) fun w h => ?_
  simp only [setFrom, List.set_cons_zero, List.set_cons_succ, List.set_nil] at h
  refine ⟨_, _, _, _, ⟨Own.ld (g := g) h (by repeat (first | with_reducible exact Pick.here | apply Pick.there)) rfl, Own.ld (g := g) h (by repeat (first | with_reducible exact Pick.here | apply Pick.there)) rfl⟩, _, m, rfl, hok, ?_⟩
  have h := h.drop
  rw [rl_zero]
  refine Own.slMk (rest := []) (by simp) (Nat.le_refl _) (by unfold maxLen; omega) (by simp) ?_
  rw [List.append_nil]
  rw [zrep_one] at h
  simpa using h
theorem rdHas (hm20 : m ≤ 20) (hs : M64 s) (hr : ∀ w, Own e w F → RdC w q ((rl (2 ^ m) ws).map Value.bool)) (h : Own e w F) : Rets Tryd.prog 12 #[.agg #[.slice q (2 ^ m) c, .int .u64 s], .int .u64 hh] w fun v w' => v = .bool (hasB (mixI s) hh (2 ^ m) ws) ∧ Own e w' F := by
  obtain ⟨p1, p2⟩ := p20 hm20
  refine cortadoref12_Has_go _ _ _ _ _ (h.newR fun g w h => ⟨_, _, _, _, ⟨(Own.ld h (by repeat (first | with_reducible exact Pick.here | apply Pick.there)) (by rfl)), (Own.ld h (by repeat (first | with_reducible exact Pick.here | apply Pick.there)) (by rfl))⟩, ?_⟩)
  refine Rets.mono (rdPlaces hm20 hs h) ?_
  clear h
  rintro _ w ⟨q', c', rfl, h⟩
  have h : Own e w (blk g 29 [.slice q (2 ^ m) c, .int .u64 s] :: inB q' 4 c' (plL (mixI s) hh (2 ^ m) 4) :: F) := h.swap
  obtain ⟨t, ht⟩ : ∃ t, t = mixI s := ⟨_, rfl⟩
  rw [← ht] at h ⊢
  refine ⟨_, _, _, rfl, fun k vs w => ∃ i : Nat, vs = [.int .i64 (i : Int)] ∧ k + i = 4 ∧ (∀ j, j < i → bitW ws (plN t hh (2 ^ m) j) = true) ∧ Own e w (blk g 29 [.slice q (2 ^ m) c, .int .u64 s] :: inB q' 4 c' (plL t hh (2 ^ m) 4) :: F), ⟨4, 0, rfl, rfl, fun j hj => by omega, h⟩, ?_⟩
  clear h
  rintro k w v2 n2
  intros
  rename_i hI
  obtain ⟨i, hvs, hk, hb, h⟩ := hI
  obtain rfl : n2 = (i : Int) := by simpa using hvs
  refine ⟨fun hc => ?_, fun hc => ?_⟩
  · have hc := dec_t hc
    have hi : i < 4 := by omega
    have hpl := plN_lt (s := t) (h := hh) (i := i) p1
    have hlr : plN t hh (2 ^ m) i < (rl (2 ^ m) ws).length := by rw [rl_len]; exact hpl
    refine h.drw fun w h => ⟨by omega, by omega, (Own.rdP (T := 3) (q := q') h (by repeat (first | with_reducible exact Pick.here | apply Pick.there))).int (i := i) (by simp [plL]; exact hi) fun a ha => ⟨_, _, _, Own.ld (g := g) h (by repeat (first | with_reducible exact Pick.here | apply Pick.there)) rfl, (plN t hh (2 ^ m) i : Int), ?_, by omega, by omega, ?_⟩⟩
    · rw [Int.toNat_natCast, ← plL_get hi]; exact ha
    refine (hr w h.drop.drop).mp (i := plN t hh (2 ^ m) i) hlr fun a ha => ⟨bitW ws (plN t hh (2 ^ m) i), ?_, fun hx => ?_, fun hx => ?_⟩
    · rw [Int.toNat_natCast]; rw [rl_get] at ha; exact ha
    · have hx : bitW ws (plN t hh (2 ^ m) i) = false := by simpa using hx
      refine ⟨?_, h.drop.drop⟩
      have : hasB t hh (2 ^ m) ws = false := by
        rw [Bool.eq_false_iff]; intro hh2
        rw [hasB_iff.1 hh2 i hi] at hx; cases hx
      rw [this]
    · have hx : bitW ws (plN t hh (2 ^ m) i) = true := by simpa using hx
      refine ⟨k - 1, by omega, i + 1, by rw [wI64 (by omega) (by omega)]; rfl, by omega, fun j hj => ?_, h⟩
      by_cases hji : j = i
      · subst hji; exact hx
      · exact hb j (by omega)
  · have hc := dec_f hc
    obtain rfl : i = 4 := by omega
    exact ⟨by rw [hasB_iff.2 hb], h.drop.drop⟩
theorem rdFull (hm20 : m ≤ 20) (hz : Zer (2 ^ m) ws) (hl : ws.length = (2 ^ m + 63) / 64) (hr : ∀ w, Own e w F → RdC w q ((rl (2 ^ m) ws).map Value.bool)) (h : Own e w F) : Rets Tryd.prog 16 #[.agg #[.slice q (2 ^ m) c, .int .u64 s]] w fun v w' => v = .int .i64 (tot ws : Int) ∧ Own e w' F := by
  obtain ⟨p1, p2⟩ := p20 hm20
  rw [tot_eq hz hl]
  obtain ⟨M, hM⟩ : ∃ M, M = 2 ^ m := ⟨_, rfl⟩
  rw [← hM] at hr p1 p2 ⊢
  refine cortadoref12_Full_go _ _ _ _ (h.newR fun g w h => ?_)
  refine ⟨fun k vs w => ∃ i : Nat, vs = [.int .i64 (cntB (bitW ws) i : Int), .int .i64 (i : Int)] ∧ k + i = M ∧ Own e w (blk g 29 [.slice q M c, .int .u64 s] :: F), ⟨M, 0, rfl, by omega, h⟩, ?_⟩
  clear h
  rintro k w n1 n2
  intros
  rename_i hI
  obtain ⟨i, hvs, hk, h⟩ := hI
  obtain ⟨rfl, rfl⟩ : n1 = (cntB (bitW ws) i : Int) ∧ n2 = (i : Int) := by simpa using hvs
  refine ⟨_, _, _, (Own.ld h (by repeat (first | with_reducible exact Pick.here | apply Pick.there)) (by rfl)), fun hc => ?_, fun hc => ?_⟩
  · have hc := dec_t hc
    have hi : i < (rl M ws).length := by rw [rl_len]; omega
    have hle := cntB_le (bitW ws) i
    have ei : IntKind.wrap .i64 ((i : Int) + 1) = ((i + 1 : Nat) : Int) := by rw [wI64 (by omega) (by omega)]; rfl
    have ec : IntKind.wrap .i64 ((cntB (bitW ws) i : Int) + 1) = ((cntB (bitW ws) i + 1 : Nat) : Int) := by rw [wI64 (by omega) (by omega)]; rfl
    refine ⟨_, _, _, (Own.ld h (by repeat (first | with_reducible exact Pick.here | apply Pick.there)) (by rfl)), by omega, by omega, (hr w h.drop).mp (i := i) hi fun a ha => ⟨bitW ws i, ?_, fun hx => ?_, fun hx => ?_⟩⟩
    · rw [Int.toNat_natCast]; rw [rl_get] at ha; exact ha
    · refine ⟨k - 1, by omega, i + 1, ?_, by omega, h⟩
      rw [ei, ec]
      show _ = [Value.int .i64 ((cntB (bitW ws) i + (if bitW ws i = true then 1 else 0) : Nat) : Int), _]
      rw [if_pos hx]
    · refine ⟨k - 1, by omega, i + 1, ?_, by omega, h⟩
      rw [ei]
      show _ = [Value.int .i64 ((cntB (bitW ws) i + (if bitW ws i = true then 1 else 0) : Nat) : Int), _]
      rw [if_neg (by rw [hx]; simp)]
      rfl
  · have hc := dec_f hc
    obtain rfl : i = M := by omega
    exact ⟨rfl, h.drop⟩
end
end Go.Proofs.YtfcddffcjmgpkaaDoor.Eng
