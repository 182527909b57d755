/- Joined: FoldP MixP BitW NibP BytP NibQ NibR IntP DoorW DoorP TskP TskQ TinW TinP. -/
import Derived.Test.YtggflkjdgcdcmaaGreatDoorEngW
import Derived.Test.YtggflkjdgcdcmaaGreatDoorFoldG
import Derived.Test.YtggflkjdgcdcmaaGreatDoorMixG
import Derived.Test.YtggflkjdgcdcmaaGreatDoorEngT
import Derived.Test.YtggflkjdgcdcmaaGreatDoorNibG
import Derived.Test.YtggflkjdgcdcmaaGreatDoorBytG
import Derived.Test.YtggflkjdgcdcmaaGreatDoorEngU
import Derived.Test.YtggflkjdgcdcmaaGreatDoorBase
import Derived.Test.YtggflkjdgcdcmaaGreatDoorDoorG
import Derived.Test.YtggflkjdgcdcmaaGreatDoorSkeG
import Derived.Test.YtggflkjdgcdcmaaGreatDoorTinG
namespace Go.Proofs.YtggflkjdgcdcmaaGreatDoor.Eng
open Go Go.RowKit Go.Proofs
set_option linter.unusedVariables false
set_option linter.unusedSimpArgs false
set_option maxRecDepth 1000000
def M64 (x : Int) : Prop := 0 ≤ x ∧ x < 18446744073709551616
theorem M64.w (n : Int) : M64 (IntKind.wrap .u64 n) := by unfold M64; rw [wU64]; omega
/-- A fold. -/
def fI (x k : Int) : Int := Go.bits BinOp.xor IntKind.u64 x (shrI IntKind.u64 x k)
theorem bits_M64 (x y : Int) : M64 (Go.bits BinOp.xor IntKind.u64 x y) := by
  have : Go.bits BinOp.xor IntKind.u64 x y = IntKind.wrap .u64 (((BitVec.ofInt 64 x ^^^ BitVec.ofInt 64 y).toNat : Nat) : Int) := rfl
  rw [this]; exact M64.w _
theorem fI_M64 (x k : Int) : M64 (fI x k) := bits_M64 _ _
theorem shr_nat (X k : Nat) (hk : k ≤ 64) : shrI IntKind.u64 (X : Int) (k : Int) = ((X / 2 ^ k : Nat) : Int) := by
  unfold shrI
  have e1 : min (k : Int).toNat IntKind.u64.bits = k := by
    rw [Int.toNat_natCast]; exact Nat.min_eq_left hk
  rw [e1, Int.fdiv_eq_ediv_of_nonneg _ (by have := Nat.pow_pos (a := 2) (n := k) (by omega); exact Int.le_of_lt (by exact_mod_cast this))]
  rw [Int.natCast_ediv, Int.natCast_pow]; rfl
/-- What is mixed. -/
def mixI (x : Int) : Int := fI (IntKind.wrap .u64 (fI (IntKind.wrap .u64 (fI x 30 * 13787848793156543929)) 27 * 10723151780598845931)) 31
theorem mixI_M64 (x : Int) : M64 (mixI x) := fI_M64 _ _
theorem M64.one {x : Int} (h : M64 x) : IntKind.wrap .u64 (x * 1) = x := by
  obtain ⟨h0, h1⟩ := h
  rw [Int.mul_one, wU64' h0 h1]
def twiI (x : Int) : Int := fI (IntKind.wrap .u64 (fI (IntKind.wrap .u64 (fI x 33 * 18397679294719823053)) 33 * 14181476777654086739)) 33
theorem twiI_M64 (x : Int) : M64 (twiI x) := fI_M64 _ _
section
variable {e w : World} {F : List HP} {x k : Int}
theorem mxFold (hk : 1 ≤ k ∧ k < 64) (h : Own e w F) : Rets Tryz.prog 122 #[.int .u64 x, .int .i64 k] w fun v w' => v = .int .u64 (fI x k) ∧ Own e w' F := by
  refine mix_Fold_go _ _ ⟨fun _ => ⟨fun hc => absurd (dec_t hc) (by omega), fun _ => ?_⟩, fun hc => absurd (dec_t hc) (by omega)⟩
  rw [wU64' (n := k) (by omega) (by omega)]
  exact ⟨by omega, rfl, h⟩
theorem rfFold {K : Nat} (hx : M64 x) (hk : 1 ≤ K ∧ K < 64) (h : Own e w F) : Rets Tryz.prog 118 #[.int .u64 x, .int .i64 (K : Int)] w fun v w' => v = .int .u64 (fI x K) ∧ Own e w' F := by
  obtain ⟨X, rfl⟩ := Int.eq_ofNat_of_zero_le hx.1
  have hX := hx.2
  refine cortadoref03_Fold_go _ _ ⟨fun _ => ⟨fun hc => absurd (dec_t hc) (by omega), fun _ => ?_⟩, fun hc => absurd (dec_t hc) (by omega)⟩
  refine ⟨fun m vs w => ∃ i : Nat, vs = [.int .u64 ((X / 2 ^ i : Nat) : Int), .int .i64 (i : Int)] ∧ m + i = K ∧ Own e w F, ⟨K, 0, by simp, rfl, h⟩, ?_⟩
  rintro m w n1 n2
  intros
  rename_i hI
  obtain ⟨i, hvs, hm, h⟩ := hI
  obtain ⟨rfl, rfl⟩ : n1 = ((X / 2 ^ i : Nat) : Int) ∧ n2 = (i : Int) := by simpa using hvs
  refine ⟨fun hc => ?_, fun hc => ?_⟩
  · have hc := dec_t hc
    refine ⟨by omega, m - 1, by omega, i + 1, ?_, by omega, h⟩
    have hle : X / 2 ^ i ≤ X := Nat.div_le_self _ _
    have e1 : Int.tdiv ((X / 2 ^ i : Nat) : Int) 2 = ((X / 2 ^ i / 2 : Nat) : Int) := rfl
    have e2 : X / 2 ^ i / 2 = X / 2 ^ (i + 1) := Nat.div_div_eq_div_mul _ _ _
    rw [e1, e2]
    have hle2 : X / 2 ^ (i + 1) ≤ X := Nat.div_le_self _ _
    generalize X / 2 ^ (i + 1) = Y at hle2 ⊢
    rw [wU64' (by omega) (by omega), wI64 (by omega) (by omega)]; rfl
  · have hc := dec_f hc
    obtain rfl : i = K := by omega
    refine ⟨?_, h⟩
    unfold fI
    rw [shr_nat X i (by omega)]
end
/-- The table that is laid. -/
def mixC : List Value := [.int .i64 30, .int .u64 13787848793156543929, .int .i64 27, .int .u64 10723151780598845931, .int .i64 31, .int .u64 1]
def twiC : List Value := [.int .i64 33, .int .u64 18397679294719823053, .int .i64 33, .int .u64 14181476777654086739, .int .i64 33, .int .u64 1]
/-- Both tables are laid. -/
def MixLaid (W : World) : Prop := (∃ t fr, W.heap[0]? = some (.cells #[.int .i64 30, .int .u64 13787848793156543929, .int .i64 27, .int .u64 10723151780598845931, .int .i64 31, .int .u64 1] t fr)) ∧ (True → ∃ t fr, W.heap[1]? = some (.cells #[.int .i64 33, .int .u64 18397679294719823053, .int .i64 33, .int .u64 14181476777654086739, .int .i64 33, .int .u64 1] t fr))
abbrev mixQ : Option Addr := some ⟨0, 0, none⟩
abbrev twiQ : Option Addr := some ⟨1, 0, none⟩
theorem rd_laid {W : World} {g : Nat} {T : TypeId} {fr : Nat × Nat} {l : List Value} (h : W.heap[g]? = some (.cells l.toArray T fr)) : RdC W (some ⟨g, 0, none⟩) l := by
  refine .inr ⟨_, rfl, fun j u hj => ?_⟩
  have e0 : (⟨g, 0, none⟩ : Addr).add j = ⟨g, j, none⟩ := add0 g j
  rw [e0]
  simpa [World.cell?, h] using hj
theorem MixLaid.rd {W : World} (h : MixLaid W) : RdC W mixQ mixC := by
  obtain ⟨⟨t, fr, h⟩, _⟩ := h
  exact rd_laid (l := mixC) h
theorem MixLaid.rd2 {W : World} (h : MixLaid W) : RdC W twiQ twiC := by
  obtain ⟨_, h⟩ := h
  obtain ⟨t, fr, h⟩ := h trivial
  exact rd_laid (l := twiC) h
section
variable {e w : World} {F : List HP} {x k : Int}
def alX (x f0 t0 f1 t1 f2 t2 : Int) : Nat → Int
  | 0 => x
  | 1 => IntKind.wrap .u64 (fI x f0 * t0)
  | 2 => IntKind.wrap .u64 (fI (IntKind.wrap .u64 (fI x f0 * t0)) f1 * t1)
  | _ => IntKind.wrap .u64 (fI (IntKind.wrap .u64 (fI (IntKind.wrap .u64 (fI x f0 * t0)) f1 * t1)) f2 * t2)
theorem mxAlong {f0 t0 f1 t1 f2 t2 : Int} (h : Own e w F) (h0 : 1 ≤ f0 ∧ f0 < 64) (h1 : 1 ≤ f1 ∧ f1 < 64) (h2 : 1 ≤ f2 ∧ f2 < 64) : Rets Tryz.prog 99 #[.int .u64 x, .agg #[.int .i64 f0, .int .u64 t0, .int .i64 f1, .int .u64 t1, .int .i64 f2, .int .u64 t2]] w fun v w' => v = .int .u64 (alX x f0 t0 f1 t1 f2 t2 3) ∧ Own e w' F := by
  refine mix_along_go _ _ _ _ _ _ _ (h.newR fun g w h => ?_)
  refine ⟨_, _, _, _, _, _, ⟨(Own.ld h (by repeat (first | with_reducible exact Pick.here | apply Pick.there)) (by rfl)), (Own.ld h (by repeat (first | with_reducible exact Pick.here | apply Pick.there)) (by rfl)), (Own.ld h (by repeat (first | with_reducible exact Pick.here | apply Pick.there)) (by rfl)), (Own.ld h (by repeat (first | with_reducible exact Pick.here | apply Pick.there)) (by rfl)), (Own.ld h (by repeat (first | with_reducible exact Pick.here | apply Pick.there)) (by rfl)), (Own.ld h (by repeat (first | with_reducible exact Pick.here | apply Pick.there)) (by rfl))⟩, ?_⟩
  have h := h.drop
  refine ⟨fun m vs w => ∃ i : Nat, vs = [.int .u64 (alX x f0 t0 f1 t1 f2 t2 i), .int .i64 (i : Int)] ∧ m + i = 3 ∧ Own e w F, ⟨3, 0, rfl, rfl, h⟩, ?_⟩
  rintro m w n7 v1 n8
  intros
  rename_i hI
  obtain ⟨i, hvs, hm, h⟩ := hI
  obtain ⟨rfl, rfl⟩ : n7 = alX x f0 t0 f1 t1 f2 t2 i ∧ n8 = (i : Int) := by simpa using hvs
  refine ⟨fun hx => ?_, fun hx => ?_⟩
  · have hx := dec_t hx
    have ei : IntKind.wrap .i64 ((i : Int) + 1) = ((i + 1 : Nat) : Int) := by rw [wI64 (by omega) (by omega)]; rfl
    rw [ei]
    refine ⟨by omega, by omega, ⟨⟨trivial, fun hi => ?_⟩, fun hi => ?_⟩, fun hi => ?_⟩
    · obtain rfl : i = 0 := by exact_mod_cast hi
      refine h.newR fun g2 w h => Own.stP' h (by repeat (first | with_reducible exact Pick.here | apply Pick.there)) (by simp) (by simp [Value.oneCell']) fun w h => ?_
      simp only [setFrom, List.set_cons_zero, List.set_cons_succ, List.set_nil] at h
      refine h.drw fun w h => ⟨fun w => Own _ w _, h, _, fun w h => Own.ld h (by repeat (first | with_reducible exact Pick.here | apply Pick.there)) (by rfl), _, fun w h => Own.ld h (by repeat (first | with_reducible exact Pick.here | apply Pick.there)) (by rfl), ?_⟩
      refine Rets.mono (mxFold h0 h) ?_
      rintro _ w ⟨rfl, h⟩
      exact ⟨_, rfl, h, m - 1, by omega, 1, rfl, by omega, h.drop⟩
    · obtain rfl : i = 1 := by exact_mod_cast hi
      refine h.newR fun g2 w h => Own.stP' h (by repeat (first | with_reducible exact Pick.here | apply Pick.there)) (by simp) (by simp [Value.oneCell']) fun w h => ?_
      simp only [setFrom, List.set_cons_zero, List.set_cons_succ, List.set_nil] at h
      refine h.drw fun w h => ⟨fun w => Own _ w _, h, _, fun w h => Own.ld h (by repeat (first | with_reducible exact Pick.here | apply Pick.there)) (by rfl), _, fun w h => Own.ld h (by repeat (first | with_reducible exact Pick.here | apply Pick.there)) (by rfl), ?_⟩
      refine Rets.mono (mxFold h1 h) ?_
      rintro _ w ⟨rfl, h⟩
      exact ⟨_, rfl, h, m - 1, by omega, 2, rfl, by omega, h.drop⟩
    · obtain rfl : i = 2 := by exact_mod_cast hi
      refine h.newR fun g2 w h => Own.stP' h (by repeat (first | with_reducible exact Pick.here | apply Pick.there)) (by simp) (by simp [Value.oneCell']) fun w h => ?_
      simp only [setFrom, List.set_cons_zero, List.set_cons_succ, List.set_nil] at h
      refine h.drw fun w h => ⟨fun w => Own _ w _, h, _, fun w h => Own.ld h (by repeat (first | with_reducible exact Pick.here | apply Pick.there)) (by rfl), _, fun w h => Own.ld h (by repeat (first | with_reducible exact Pick.here | apply Pick.there)) (by rfl), ?_⟩
      refine Rets.mono (mxFold h2 h) ?_
      rintro _ w ⟨rfl, h⟩
      exact ⟨_, rfl, h, m - 1, by omega, 3, rfl, by omega, h.drop⟩
  · have hx := dec_f hx
    obtain rfl : i = 3 := by omega
    exact ⟨rfl, h⟩
theorem mxMix (h : Own e w F) (hm : ∀ w, Own e w F → RdC w mixQ mixC) : Rets Tryz.prog 73 #[.int .u64 x] w fun v w' => v = .int .u64 (mixI x) ∧ Own e w' F := by
  refine mix_Mix_go _ ?_
  obtain ⟨a, ha, hc⟩ := (hm w h).addr (j := 0) rfl
  obtain rfl : (⟨0, 0, none⟩ : Addr) = a := by injection ha
  refine ⟨_, _, _, _, _, _, ⟨hc 0 _ rfl, hc 1 _ rfl, hc 2 _ rfl, hc 3 _ rfl, hc 4 _ rfl, hc 5 _ rfl⟩, ?_⟩
  refine Rets.mono (mxAlong h (by omega) (by omega) (by omega)) ?_
  rintro _ w ⟨rfl, h⟩
  refine ⟨_, rfl, ?_, h⟩
  show Value.int .u64 (IntKind.wrap .u64 (fI _ 31 * 1)) = _
  rw [(fI_M64 _ _).one]; rfl
theorem mxTwist (h : Own e w F) (hm : ∀ w, Own e w F → RdC w twiQ twiC) : Rets Tryz.prog 117 #[.int .u64 x] w fun v w' => v = .int .u64 (twiI x) ∧ Own e w' F := by
  refine mix_Twist_go _ ?_
  obtain ⟨a, ha, hc⟩ := (hm w h).addr (j := 0) rfl
  obtain rfl : (⟨1, 0, none⟩ : Addr) = a := by injection ha
  refine ⟨_, _, _, _, _, _, ⟨hc 0 _ rfl, hc 1 _ rfl, hc 2 _ rfl, hc 3 _ rfl, hc 4 _ rfl, hc 5 _ rfl⟩, ?_⟩
  refine Rets.mono (mxAlong h (by omega) (by omega) (by omega)) ?_
  rintro _ w ⟨rfl, h⟩
  refine ⟨_, rfl, ?_, h⟩
  show Value.int .u64 (IntKind.wrap .u64 (fI _ 33 * 1)) = _
  rw [(fI_M64 _ _).one]; rfl
theorem rfMix (hx : M64 x) (h : Own e w F) : Rets Tryz.prog 93 #[.int .u64 x] w fun v w' => v = .int .u64 (mixI x) ∧ Own e w' F := by
  refine cortadoref03_Mix_go _ ?_
  refine Rets.mono (rfFold (K := 30) hx (by omega) h) ?_
  rintro _ w ⟨rfl, h⟩
  refine ⟨_, rfl, ?_⟩
  refine Rets.mono (rfFold (K := 27) (M64.w _) (by omega) h) ?_
  rintro _ w ⟨rfl, h⟩
  refine ⟨_, rfl, ?_⟩
  refine Rets.mono (rfFold (K := 31) (M64.w _) (by omega) h) ?_
  rintro _ w ⟨rfl, h⟩
  exact ⟨_, rfl, rfl, h⟩
theorem rfTwist (hx : M64 x) (h : Own e w F) : Rets Tryz.prog 94 #[.int .u64 x] w fun v w' => v = .int .u64 (twiI x) ∧ Own e w' F := by
  refine cortadoref03_Twist_go _ ?_
  refine Rets.mono (rfFold (K := 33) hx (by omega) h) ?_
  rintro _ w ⟨rfl, h⟩
  refine ⟨_, rfl, ?_⟩
  refine Rets.mono (rfFold (K := 33) (M64.w _) (by omega) h) ?_
  rintro _ w ⟨rfl, h⟩
  refine ⟨_, rfl, ?_⟩
  refine Rets.mono (rfFold (K := 33) (M64.w _) (by omega) h) ?_
  rintro _ w ⟨rfl, h⟩
  exact ⟨_, rfl, rfl, h⟩
end
theorem pow64 : (2 : Nat) ^ 64 = 18446744073709551616 := rfl
def By (l : List Int) : Prop := ∀ x ∈ l, 0 ≤ x ∧ x < 256
theorem By.take {l : List Int} (h : By l) (n : Nat) : By (l.take n) := fun x hx => h x (List.mem_of_mem_take hx)
theorem By.drop {l : List Int} (h : By l) (n : Nat) : By (l.drop n) := fun x hx => h x (List.mem_of_mem_drop hx)
theorem By.append {l r : List Int} (h : By l) (k : By r) : By (l ++ r) := fun x hx => (List.mem_append.1 hx).elim (h x) (k x)
theorem N_or {a b : Nat} (ha : a < 18446744073709551616) (hb : b < 18446744073709551616) : Go.bits BinOp.or IntKind.u64 (a : Int) (b : Int) = ((a ||| b : Nat) : Int) := by
  have e : Go.bits BinOp.or IntKind.u64 (a : Int) (b : Int) = IntKind.wrap .u64 (((BitVec.ofInt 64 a ||| BitVec.ofInt 64 b).toNat : Nat) : Int) := rfl
  have hlt : a ||| b < 2 ^ 64 := Nat.or_lt_two_pow (by rw [pow64]; exact ha) (by rw [pow64]; exact hb)
  rw [pow64] at hlt
  rw [e, BitVec.ofInt_natCast, BitVec.ofInt_natCast, BitVec.toNat_or, BitVec.toNat_ofNat, BitVec.toNat_ofNat, Nat.mod_eq_of_lt (by rw [pow64]; exact ha), Nat.mod_eq_of_lt (by rw [pow64]; exact hb), wU64' (by omega) (by omega)]
theorem N_and {a b : Nat} (ha : a < 18446744073709551616) (hb : b < 18446744073709551616) : Go.bits BinOp.and IntKind.u64 (a : Int) (b : Int) = ((a &&& b : Nat) : Int) := by
  have e : Go.bits BinOp.and IntKind.u64 (a : Int) (b : Int) = IntKind.wrap .u64 (((BitVec.ofInt 64 a &&& BitVec.ofInt 64 b).toNat : Nat) : Int) := rfl
  have hlt : a &&& b ≤ a := Nat.and_le_left
  rw [e, BitVec.ofInt_natCast, BitVec.ofInt_natCast, BitVec.toNat_and, BitVec.toNat_ofNat, BitVec.toNat_ofNat, Nat.mod_eq_of_lt (by rw [pow64]; exact ha), Nat.mod_eq_of_lt (by rw [pow64]; exact hb), wU64' (by omega) (by omega)]
theorem shrN (X k : Nat) (hk : k ≤ 64) : shrI IntKind.u64 (X : Int) (k : Int) = ((X / 2 ^ k : Nat) : Int) := by
  unfold shrI
  have e1 : min (k : Int).toNat IntKind.u64.bits = k := by
    rw [Int.toNat_natCast]; exact Nat.min_eq_left hk
  rw [e1, Int.fdiv_eq_ediv_of_nonneg _ (by have := Nat.pow_pos (a := 2) (n := k) (by omega); exact Int.le_of_lt (by exact_mod_cast this))]
  rw [Int.natCast_ediv, Int.natCast_pow]; rfl
theorem shlN (X k : Nat) (hk : k ≤ 64) : shlI IntKind.u64 (X : Int) (k : Int) = ((X * 2 ^ k % 18446744073709551616 : Nat) : Int) := by
  unfold shlI
  have e1 : min (k : Int).toNat IntKind.u64.bits = k := by
    rw [Int.toNat_natCast]; exact Nat.min_eq_left hk
  rw [e1, wU64, Int.natCast_emod, Int.natCast_mul, Int.natCast_pow]; rfl
/-! ### Bytes of two counters -/
/-- The bytes of counters. -/
def pk (ns : List Nat) : List Int := (List.range ((ns.length + 1) / 2)).map fun j => ((ns.getD (2 * j) 0 + 16 * ns.getD (2 * j + 1) 0 : Nat) : Int)
theorem pk_len (ns : List Nat) : (pk ns).length = (ns.length + 1) / 2 := by simp [pk]
theorem pk_at (ns : List Nat) {j : Nat} (h : j < (pk ns).length) : (pk ns)[j] = ((ns.getD (2 * j) 0 + 16 * ns.getD (2 * j + 1) 0 : Nat) : Int) := by simp [pk]
theorem nb_get : ∀ lo < 16, ∀ hi < 16, Go.bits BinOp.and IntKind.u8 (shrI IntKind.u8 ((lo + 16 * hi : Nat) : Int) 0) 15 = (lo : Int) ∧ Go.bits BinOp.and IntKind.u8 (shrI IntKind.u8 ((lo + 16 * hi : Nat) : Int) 4) 15 = (hi : Int) := by decide +kernel
theorem nb_halve : ∀ lo < 16, ∀ hi < 16, Go.bits BinOp.and IntKind.u8 (shrI IntKind.u8 ((lo + 16 * hi : Nat) : Int) 1) 119 = ((lo / 2 + 16 * (hi / 2) : Nat) : Int) := by decide +kernel
theorem nb_one : shlI IntKind.u8 1 0 = 1 ∧ shlI IntKind.u8 1 4 = 16 := by decide +kernel
/-- All are counters. -/
def nbOk (ns : List Nat) : Prop := ∀ x ∈ ns, x < 16
theorem nbOk.at {ns : List Nat} (h : nbOk ns) (i : Nat) : ns.getD i 0 < 16 := by
  rw [List.getD_eq_getElem?_getD]
  rcases Nat.lt_or_ge i ns.length with hi | hi
  · rw [List.getElem?_eq_getElem hi]; exact h _ (List.getElem_mem hi)
  · rw [List.getElem?_eq_none hi]; simp
theorem nbOk.set {ns : List Nat} (h : nbOk ns) {i x : Nat} (hx : x < 16) : nbOk (ns.set i x) := fun y hy => by
  rcases List.mem_or_eq_of_mem_set hy with hy | rfl
  · exact h y hy
  · exact hx
def ngGet (ns : List Nat) (i : Int) : Nat := if 0 ≤ i ∧ i < ns.length then ns.getD i.toNat 0 else 0
def ngAdd (ns : List Nat) (i : Int) : List Nat := if 0 ≤ i ∧ i < ns.length ∧ ngGet ns i ≠ 15 then ns.set i.toNat (ngGet ns i + 1) else ns
def ngMay (ns : List Nat) (i : Int) : Bool := decide (0 ≤ i ∧ i < ns.length ∧ ngGet ns i ≠ 15)
theorem getD_set (ns : List Nat) (i j x : Nat) (hi : i < ns.length) : (ns.set i x).getD j 0 = if i = j then x else ns.getD j 0 := by
  rw [List.getD_eq_getElem?_getD, List.getD_eq_getElem?_getD, List.getElem?_set]
  by_cases h : i = j
  · subst h; simp [hi]
  · simp [h]
theorem pk_set (ns : List Nat) (i x : Nat) (hi : i < ns.length) : pk (ns.set i x) = (pk ns).set (i / 2) (((ns.set i x).getD (2 * (i / 2)) 0 + 16 * (ns.set i x).getD (2 * (i / 2) + 1) 0 : Nat) : Int) := by
  apply List.ext_getElem?
  intro j
  unfold pk
  rw [List.length_set, List.getElem?_set]
  simp only [List.getElem?_map, List.length_map, List.length_range]
  rcases Nat.lt_or_ge j ((ns.length + 1) / 2) with hj | hj
  · rw [List.getElem?_range hj]
    by_cases hij : i / 2 = j
    · rw [if_pos hij, if_pos (by omega), hij]; rfl
    · rw [if_neg hij]
      simp only [Option.map_some]
      rw [getD_set ns i (2 * j) x hi, getD_set ns i (2 * j + 1) x hi, if_neg (by omega), if_neg (by omega)]
  · rw [List.getElem?_eq_none (l := List.range _) (by simpa using hj), if_neg (by omega)]; simp
/-! ### The program -/
def rowO (g : Nat) (ns : List Nat) : HP := exH fun q => exH fun c => allH [blk g 164 [.slice q ((ns.length + 1) / 2) c, .int .i64 (ns.length : Int)], slO 5 1 q ((ns.length + 1) / 2) c (cs .u8 (pk ns))]
section
variable {e w : World} {F : List HP} {g : Nat} {ns : List Nat}
theorem rowO.op (h : Own e w (rowO g ns :: F)) : ∃ q c, Own e w (blk g 164 [.slice q ((ns.length + 1) / 2) c, .int .i64 (ns.length : Int)] :: slO 5 1 q ((ns.length + 1) / 2) c (cs .u8 (pk ns)) :: F) := by
  obtain ⟨q, h⟩ := h.ex
  obtain ⟨c, h⟩ := h.ex
  exact ⟨q, c, h.open_⟩
theorem rowO.cl {q : Option Addr} {c : Nat} (h : Own e w (blk g 164 [.slice q ((ns.length + 1) / 2) c, .int .i64 (ns.length : Int)] :: slO 5 1 q ((ns.length + 1) / 2) c (cs .u8 (pk ns)) :: F)) : Own e w (rowO g ns :: F) :=
  (Own.close_ (l := [_, _]) h |>.mkEx c).mkEx q
theorem nLen_spec (h : Own e w (rowO g ns :: F)) : Rets Tryz.prog 132 #[.pointer (some ⟨g, 0, none⟩)] w fun v w' => v = .int .i64 (ns.length : Int) ∧ Own e w' (rowO g ns :: F) := by
  obtain ⟨q, c, h⟩ := rowO.op h
  exact nibble_Row_Len_go _ ⟨fun hc => (by cases hc), fun _ => ⟨_, h.cellAdd 1 rfl, rfl, rowO.cl h⟩⟩
theorem nIn_spec {i : Int} (h : Own e w (rowO g ns :: F)) : Rets Tryz.prog 115 #[.pointer (some ⟨g, 0, none⟩), .int .i64 i] w fun v w' => v = .bool (decide (0 ≤ i ∧ i < ns.length)) ∧ Own e w' (rowO g ns :: F) := by
  refine nibble_Row_in_go _ _ ⟨fun hc => ?_, fun hc => ?_⟩
  · refine Rets.mono (nLen_spec h) ?_
    rintro v w1 ⟨rfl, h⟩
    have := dec_t hc
    refine ⟨_, rfl, ?_, h⟩
    congr 1
    exact decide_eq_decide.2 ⟨fun x => ⟨this, x⟩, fun x => x.2⟩
  · have := dec_f hc
    refine ⟨?_, h⟩
    rw [decide_eq_false (fun x => this x.1)]
theorem nBits_spec {i : Int} {F : List HP} (h : Own e w F) (h0 : 0 ≤ i) : Rets Tryz.prog 116 #[.int .i64 i] w fun v w' => v = .int .u64 (if i.toNat % 2 = 0 then 0 else 4) ∧ Own e w' F := by
  refine nibble_bits_go _ ⟨by omega, fun hc => ?_, fun hc => ?_⟩
  · have := beq_t hc
    rw [Int.tmod_eq_emod_of_nonneg h0] at this
    rw [if_pos (by omega)]; exact ⟨rfl, h⟩
  · have := beq_f hc
    rw [Int.tmod_eq_emod_of_nonneg h0] at this
    rw [if_neg (by omega)]; exact ⟨rfl, h⟩
theorem nGet_spec {i : Int} (h : Own e w (rowO g ns :: F)) (hok : nbOk ns) (hl : ns.length ≤ 65536) : Rets Tryz.prog 89 #[.pointer (some ⟨g, 0, none⟩), .int .i64 i] w fun v w' => v = .int .i64 (ngGet ns i : Int) ∧ Own e w' (rowO g ns :: F) := by
  refine nibble_Row_Get_go _ _ ?_
  refine Rets.mono (nIn_spec h) ?_
  rintro v w1 ⟨rfl, h⟩
  refine ⟨_, rfl, fun hc => ?_, fun hc => ?_⟩
  · have hc : ¬ (0 ≤ i ∧ i < ns.length) := by have := hc; simp at this; omega
    unfold ngGet; rw [if_neg hc]; exact ⟨rfl, h⟩
  · have hc : 0 ≤ i ∧ i < ns.length := by simpa using hc
    obtain ⟨k, rfl⟩ := Int.eq_ofNat_of_zero_le hc.1
    have hk : k < ns.length := by omega
    obtain ⟨q, c, h⟩ := rowO.op h
    refine h.drw fun w2 h => ⟨fun w => Own e w (blk g 164 [.slice q ((ns.length + 1) / 2) c, .int .i64 (ns.length : Int)] :: slO 5 1 q ((ns.length + 1) / 2) c (cs .u8 (pk ns)) :: F), h, by omega, _, _, _, fun w hS => Own.cellAdd hS 0 rfl, ?_⟩
    have e1 : IntKind.wrap IntKind.i64 (Int.tdiv (k : Int) 2) = ((k / 2 : Nat) : Int) := by rw [Int.tdiv_eq_ediv_of_nonneg (by omega), wI64 (by omega) (by omega)]; omega
    rw [e1]
    have hj : k / 2 < (pk ns).length := by rw [pk_len]; omega
    obtain ⟨a, rfl, ha⟩ := h.drop.slRd.addr (cs_at hj)
    refine ⟨by omega, by omega, (pk ns)[k / 2], fun w hS => ?_, ?_⟩
    · have := (Own.drop hS).slRd.addr (cs_at hj)
      obtain ⟨a', ha', hc'⟩ := this
      cases ha'
      have := hc' (k / 2) _ (cs_at hj)
      rw [Nat.mul_one]; exact this
    · refine Rets.mono (nBits_spec h (by omega)) ?_
      rintro v w5 ⟨rfl, h⟩
      refine ⟨_, rfl, h, by split <;> omega, ?_, rowO.cl h⟩
      have h1 := nb_get _ (hok.at (2 * (k / 2))) _ (hok.at (2 * (k / 2) + 1))
      rw [pk_at ns hj]
      unfold ngGet
      rw [if_pos hc]
      have hv := hok.at k
      simp only [Int.toNat_natCast]
      by_cases hp : k % 2 = 0
      · rw [if_pos hp, h1.1, show 2 * (k / 2) = k by omega, wI64 (by omega) (by omega)]
      · rw [if_neg hp, h1.2, show 2 * (k / 2) + 1 = k by omega, wI64 (by omega) (by omega)]
theorem nAdd_spec {i : Int} (h : Own e w (rowO g ns :: F)) (hok : nbOk ns) (hl : ns.length ≤ 65536) : Rets Tryz.prog 127 #[.pointer (some ⟨g, 0, none⟩), .int .i64 i] w fun v w' => v = .bool (ngMay ns i) ∧ Own e w' (rowO g (ngAdd ns i) :: F) := by
  refine nibble_Row_Add_go _ _ ?_
  refine Rets.mono (nIn_spec h) ?_
  rintro v w1 ⟨rfl, h⟩
  refine ⟨_, rfl, fun hc => ?_, fun hc => ?_⟩
  · have hc : 0 ≤ i ∧ i < ns.length := by simpa using hc
    refine Rets.mono (nGet_spec h hok hl) ?_
    rintro v w2 ⟨rfl, h⟩
    refine ⟨_, rfl, fun hc2 => ?_, fun hc2 => ?_⟩
    · have hc2 := beq_t hc2
      have hno : ¬ (0 ≤ i ∧ i < ns.length ∧ ngGet ns i ≠ 15) := by omega
      unfold ngMay ngAdd
      rw [if_neg hno, decide_eq_false hno]; exact ⟨rfl, h⟩
    · have hc2 := beq_f hc2
      have hyes : 0 ≤ i ∧ i < ns.length ∧ ngGet ns i ≠ 15 := ⟨hc.1, hc.2, by omega⟩
      obtain ⟨k, rfl⟩ := Int.eq_ofNat_of_zero_le hc.1
      have hk : k < ns.length := by omega
      have ev : ngGet ns (k : Int) = ns.getD k 0 := by unfold ngGet; rw [if_pos hc]; simp
      obtain ⟨q, c, h⟩ := rowO.op h
      refine h.drw fun w2 h => ⟨fun w => Own e w (blk g 164 [.slice q ((ns.length + 1) / 2) c, .int .i64 (ns.length : Int)] :: slO 5 1 q ((ns.length + 1) / 2) c (cs .u8 (pk ns)) :: F), h, by omega, _, _, _, fun w hS => Own.cellAdd hS 0 rfl, ?_⟩
      have e1 : IntKind.wrap IntKind.i64 (Int.tdiv (k : Int) 2) = ((k / 2 : Nat) : Int) := by rw [Int.tdiv_eq_ediv_of_nonneg (by omega), wI64 (by omega) (by omega)]; omega
      rw [e1]
      have hj : k / 2 < (pk ns).length := by rw [pk_len]; omega
      obtain ⟨a, rfl, ha⟩ := h.drop.slRd.addr (cs_at hj)
      refine ⟨by omega, by omega, (pk ns)[k / 2], fun w hS => ?_, ?_⟩
      · have := (Own.drop hS).slRd.addr (cs_at hj)
        obtain ⟨a', ha', hc'⟩ := this
        cases ha'
        have := hc' (k / 2) _ (cs_at hj)
        rw [Nat.mul_one]; exact this
      · refine Rets.mono (nBits_spec h (by omega)) ?_
        rintro v w5 ⟨rfl, h⟩
        refine ⟨_, rfl, h, by split <;> omega, by omega, by omega, ?_⟩
        have hlo := hok.at (2 * (k / 2))
        have hhi := hok.at (2 * (k / 2) + 1)
        have enew : IntKind.wrap IntKind.u8 ((pk ns)[k / 2] + shlI IntKind.u8 1 (if (k : Int).toNat % 2 = 0 then 0 else 4)) = (((ns.set k (ngGet ns k + 1)).getD (2 * (k / 2)) 0 + 16 * (ns.set k (ngGet ns k + 1)).getD (2 * (k / 2) + 1) 0 : Nat) : Int) := by
          rw [pk_at ns hj, getD_set _ _ _ _ hk, getD_set _ _ _ _ hk, ev]
          rw [ev] at hyes
          simp only [Int.toNat_natCast]
          by_cases hp : k % 2 = 0
          · rw [if_pos hp, nb_one.1, if_pos (by omega), if_neg (by omega)]
            rw [show 2 * (k / 2) = k by omega] at hlo hhi ⊢
            have := hyes.2.2
            rw [wU8' (by omega) (by omega)]; omega
          · rw [if_neg hp, nb_one.2, if_neg (by omega), if_pos (by omega)]
            rw [show 2 * (k / 2) + 1 = k by omega] at hhi ⊢
            have := hyes.2.2
            rw [wU8' (by omega) (by omega)]; omega
        rw [enew]
        have hst := h.swap.slStore (i := k / 2) (us := [.int .u8 (((ns.set k (ngGet ns k + 1)).getD (2 * (k / 2)) 0 + 16 * (ns.set k (ngGet ns k + 1)).getD (2 * (k / 2) + 1) 0 : Nat) : Int)]) (K := fun w7 => Value.bool true = .bool (ngMay ns k) ∧ Own e w7 (rowO g (ngAdd ns k) :: F))
          (by rw [cs_len]; simp; omega) (by simp) (by simp [Value.oneCell']) (fun w7 h => by
            rw [cs_set, ← pk_set ns k _ hk] at h
            refine ⟨by unfold ngMay; rw [decide_eq_true hyes], ?_⟩
            unfold ngAdd
            rw [if_pos hyes]
            refine rowO.cl (q := some a) (c := c) ?_
            simp only [Int.toNat_natCast, List.length_set]
            exact h.swap)
        rw [Int.toNat_natCast, Nat.mul_one]
        exact hst
  · have hc : ¬ (0 ≤ i ∧ i < ns.length) := by have := hc; simp at this; omega
    have hno : ¬ (0 ≤ i ∧ i < ns.length ∧ ngGet ns i ≠ 15) := fun x => hc ⟨x.1, x.2.1⟩
    unfold ngMay ngAdd
    rw [if_neg hno, decide_eq_false hno]; exact ⟨rfl, h⟩
end
section
variable {e w : World} {F : List HP} {q q2 : Option Addr} {n c m c2 : Nat} {xs ys bs : List Int}
end
/-! ### Lists that are turned from the front -/
def upto {α : Type} (f : α → α) (l : List α) (i : Nat) : List α := (l.take i).map f ++ l.drop i
theorem upto_len {α : Type} (f : α → α) (l : List α) (i : Nat) : (upto f l i).length = l.length := by simp [upto]; omega
theorem upto_zero {α : Type} (f : α → α) (l : List α) : upto f l 0 = l := by simp [upto]
theorem upto_all {α : Type} (f : α → α) (l : List α) : upto f l l.length = l.map f := by simp [upto]
theorem upto_at {α : Type} (f : α → α) (l : List α) (i : Nat) (h : i < l.length) : (upto f l i)[i]'(by rw [upto_len]; exact h) = l[i] := by
  unfold upto
  rw [List.getElem_append_right (by simp; omega)]
  simp [Nat.min_eq_left (Nat.le_of_lt h)]
theorem upto_set {α : Type} (f : α → α) (l : List α) (i : Nat) (h : i < l.length) : (upto f l i).set i (f l[i]) = upto f l (i + 1) := by
  unfold upto
  have e : i - ((l.take i).map f).length = 0 := by simp; omega
  rw [List.set_append_right _ _ (by simp; omega), e, List.drop_eq_getElem_cons h, List.set_cons_zero, List.take_succ_eq_append_getElem h, List.map_append, List.append_assoc]
  rfl
def nbHv (b : Int) : Int := Go.bits BinOp.and IntKind.u8 (shrI IntKind.u8 b 1) 119
def ngHalve (ns : List Nat) : List Nat := ns.map (· / 2)
theorem getD_map_half (ns : List Nat) (i : Nat) : (ngHalve ns).getD i 0 = ns.getD i 0 / 2 := by
  unfold ngHalve
  rw [List.getD_eq_getElem?_getD, List.getD_eq_getElem?_getD, List.getElem?_map]
  cases ns[i]? <;> simp
theorem pk_halve {ns : List Nat} (h : nbOk ns) : (pk ns).map nbHv = pk (ngHalve ns) := by
  unfold pk
  rw [List.map_map, show (ngHalve ns).length = ns.length by simp [ngHalve]]
  refine List.map_congr_left fun j _ => ?_
  rw [getD_map_half, getD_map_half]
  exact nb_halve _ (h.at _) _ (h.at _)
theorem pk_zero (n : Nat) : pk (List.replicate n 0) = List.replicate ((n + 1) / 2) 0 := by
  have hz : ∀ i, (List.replicate n 0).getD i 0 = 0 := fun i => by
    rw [List.getD_eq_getElem?_getD]
    rcases Nat.lt_or_ge i n with h | h
    · rw [List.getElem?_replicate, if_pos h]; rfl
    · rw [List.getElem?_replicate, if_neg (by omega)]; rfl
  unfold pk
  simp only [hz, List.length_replicate]
  rw [List.map_const']
  simp
theorem cs_rep (kd : IntKind) (n : Nat) (x : Int) : cs kd (List.replicate n x) = List.replicate n (.int kd x) := by simp [cs]
section
variable {e w : World} {F : List HP} {g : Nat} {ns : List Nat}
theorem nHalve_spec (h : Own e w (rowO g ns :: F)) (hok : nbOk ns) (hl : ns.length ≤ 65536) : Rets Tryz.prog 138 #[.pointer (some ⟨g, 0, none⟩)] w fun v w' => v = .tuple #[] ∧ Own e w' (rowO g (ngHalve ns) :: F) := by
  refine nibble_Row_Halve_go _ ⟨fun hc => (by cases hc), fun _ => ?_⟩
  obtain ⟨q, c, h⟩ := rowO.op h
  have ell : (pk ns).length = (ns.length + 1) / 2 := pk_len ns
  refine ⟨_, _, _, h.cellAdd 0 rfl, fun m vs w => ∃ i : Nat, vs = [.int .i64 (i : Int)] ∧ m + i = (pk ns).length ∧ Own e w (blk g 164 [.slice q ((ns.length + 1) / 2) c, .int .i64 (ns.length : Int)] :: slO 5 1 q ((ns.length + 1) / 2) c (cs .u8 (upto nbHv (pk ns) i)) :: F), ⟨(pk ns).length, 0, rfl, rfl, by rw [upto_zero]; exact h⟩, ?_⟩
  rintro m w1 v1 v2 n1
  intros
  rename_i hI
  obtain ⟨i, hvs, hm, h⟩ := hI
  obtain rfl : n1 = (i : Int) := by simpa using hvs
  refine ⟨fun hc => ?_, fun hc => ?_⟩
  · have hc := dec_t hc
    have hi : i < (pk ns).length := by omega
    have hi' : i < (upto nbHv (pk ns) i).length := by rw [upto_len]; exact hi
    obtain ⟨a, rfl, ha⟩ := h.drop.slRd.addr (cs_at hi')
    refine ⟨by omega, by omega, (pk ns)[i], ?_, _, _, _, h.cellAdd 0 rfl, by omega, by omega, by omega, ?_⟩
    · have := ha i _ (cs_at hi')
      rw [upto_at _ _ _ hi] at this
      rw [Int.toNat_natCast, Nat.mul_one]; exact this
    · have hst := h.swap.slStore (i := i) (us := [.int .u8 (nbHv (pk ns)[i])]) (K := fun w2 => ∃ k7 : Nat, k7 < m ∧ ∃ i' : Nat, [Value.int .i64 (IntKind.wrap IntKind.i64 ((i : Int) + 1))] = [.int .i64 (i' : Int)] ∧ k7 + i' = (pk ns).length ∧ Own e w2 (blk g 164 [.slice (some a) ((ns.length + 1) / 2) c, .int .i64 (ns.length : Int)] :: slO 5 1 (some a) ((ns.length + 1) / 2) c (cs .u8 (upto nbHv (pk ns) i')) :: F))
        (by rw [cs_len, upto_len]; simp; omega) (by simp) (by simp [Value.oneCell']) (fun w2 h => by
          rw [cs_set, upto_set _ _ _ hi] at h
          refine ⟨m - 1, by omega, i + 1, ?_, by omega, h.swap⟩
          rw [wI64 (by omega) (by omega)]; simp)
      rw [Int.toNat_natCast, Nat.mul_one]
      exact hst
  · have hc := dec_f hc
    obtain rfl : i = (pk ns).length := by omega
    rw [upto_all, pk_halve hok] at h
    refine ⟨rfl, rowO.cl (q := q) (c := c) ?_⟩
    rw [show (ngHalve ns).length = ns.length by simp [ngHalve]]
    exact h
theorem nClear_spec (h : Own e w (rowO g ns :: F)) : Rets Tryz.prog 114 #[.pointer (some ⟨g, 0, none⟩)] w fun v w' => v = .tuple #[] ∧ Own e w' (rowO g (List.replicate ns.length 0) :: F) := by
  refine nibble_Row_Clear_go _ ⟨fun _ => ?_, fun hc => (by cases hc)⟩
  obtain ⟨q, c, h⟩ := rowO.op h
  refine ⟨_, _, _, h.cellAdd 0 rfl, ?_⟩
  refine h.swap.clear (z := .int .u8 0) (by kernel_rfl) (by kernel_rfl) (by rfl) fun w1 h => ⟨rfl, rfl, rowO.cl (q := q) (c := c) ?_⟩
  rw [pk_zero, cs_rep, List.length_replicate]
  exact h.swap
/-! ### What is not 0, in order -/
end
theorem ngAdd_len (ns : List Nat) (i : Int) : (ngAdd ns i).length = ns.length := by unfold ngAdd; split <;> simp
theorem ngGet_lt {ns : List Nat} (h : nbOk ns) (i : Int) : ngGet ns i < 16 := by
  unfold ngGet
  split
  · exact h.at _
  · omega
theorem ngAdd_ok {ns : List Nat} (h : nbOk ns) (i : Int) : nbOk (ngAdd ns i) := by
  unfold ngAdd
  split
  · rename_i hc
    have := ngGet_lt h i
    exact h.set (by omega)
  · exact h
theorem nbOk_zero (n : Nat) : nbOk (List.replicate n 0) := fun x hx => by rw [List.eq_of_mem_replicate hx]; omega
theorem ngGet_zero (n : Nat) (i : Int) : ngGet (List.replicate n 0) i = 0 := by
  unfold ngGet
  split
  · rw [List.getD_eq_getElem?_getD, List.getElem?_replicate]; split <;> rfl
  · rfl
theorem maxmin {n : Int} : maxI (0 : Int) (minI n (65536 : Int)) = ((max 0 (min n 65536)).toNat : Int) := by
  unfold maxI minI
  split <;> split <;> omega
section
variable {e w : World} {F : List HP} {g : Nat} {ns : List Nat}
theorem nNew_spec {n : Int} {N : Nat} (h : Own e w F) (hN : (max 0 (min n 65536)).toNat = N) : Rets Tryz.prog 72 #[.int .i64 n] w fun v w' => ∃ g, v = .pointer (some ⟨g, 0, none⟩) ∧ Own e w' (rowO g (List.replicate N 0) :: F) := by
  refine nibble_New_go _ ⟨by omega, ?_⟩
  rw [maxmin, hN]
  have hN2 : N ≤ 65536 := by omega
  have e1 : IntKind.wrap IntKind.i64 (Int.tdiv (IntKind.wrap IntKind.i64 ((N : Int) + 1)) 2) = (((N + 1) / 2 : Nat) : Int) := by
    rw [wI64 (n := (N : Int) + 1) (by omega) (by omega), Int.tdiv_eq_ediv_of_nonneg (by omega), wI64 (by omega) (by omega)]; omega
  rw [e1]
  refine h.makeR ⟨by omega, by omega, by omega, by omega⟩ fun g w1 h => h.newR fun g2 w2 h => ⟨g2, rfl, ?_⟩
  simp only [Int.toNat_natCast] at h ⊢
  rw [zrep_one, ← cs_rep, ← pk_zero] at h
  refine rowO.cl (q := some ⟨g, 0, none⟩) (c := (N + 1) / 2) ?_
  rw [List.length_replicate]
  refine Own.swap (Own.slMk (rest := []) ?_ (Nat.le_refl _) (by unfold maxLen; omega) ?_ ?_)
  · rw [cs_len, pk_len]; simp
  · rw [List.append_nil, cs_len, pk_len]; simp
  · rw [List.append_nil]; exact h.swap
end
abbrev inB (q : Option Addr) (n c : Nat) (xs : List Int) : HP := slO 3 1 q n c (cs .i64 xs)
section
variable {e w : World} {F : List HP} {q q2 : Option Addr} {n c m c2 : Nat} {xs ys : List Int}
theorem app64 {k : Value → World → Prop} (h : Own e w (inB q n c xs :: F)) (hr : RdC w q2 (cs .i64 ys)) (hl : ys.length = m) (hn : (n + m) * 8 ≤ 140737488355328)
    (hk : ∀ q' c' w', Own e w' (inB q' (n + m) c' (xs ++ ys) :: F) → k (.slice q' (n + m) c') w') :
    RunR Tryz.prog (builtinV .append #[22, 22] 22 #[.slice q n c, .slice q2 m c2]) w k := by
  refine Own.append (z := [.int .i64 0]) (b := 8) (news := cs .i64 ys) h (by kernel_rfl) (by kernel_rfl) (by kernel_rfl) (by kernel_rfl) (by kernel_rfl) (by omega) hr ?_ (cs_one _ _) ?_ (by omega) ?_
  · rw [cs_len, hl]; omega
  · unfold maxLen; omega
  · intro q' c' w' h _
    rw [← cs_app] at h
    exact hk q' c' w' h
theorem put64 {k : Value → World → Prop} {g : Nat} (h : Own e w (blk g 3 (cs .i64 ys) :: inB q n c xs :: F)) (hl : ys.length = m) (hn : n + m ≤ 1000000)
    (hk : ∀ q' c' w', Own e w' (inB q' (n + m) c' (xs ++ ys) :: F) → k (.slice q' (n + m) c') w') :
    RunR Tryz.prog (builtinV .append #[22, 22] 22 #[.slice q n c, .slice (some ⟨g, 0, none⟩) m c2]) w k :=
  app64 h.swap h.blkRd hl (by omega) fun q' c' w' h => hk q' c' w' h.swap.drop
/-- An empty one. -/
theorem empty64 {g : Nat} (h : Own e w (blk g 3 [] :: F)) : Own e w (inB (some ⟨g, 0, none⟩) 0 0 [] :: F) := Own.slMk (rest := []) (by rfl) (by omega) (by omega) (by rfl) h
end
/-! ### Powers -/
def pwOk (n : Int) (m : Nat) : Prop := n ≤ ((2 ^ m : Nat) : Int) ∧ ((2 ^ m : Nat) : Int) < 2 * n
theorem pwOk.le {n : Int} {a b : Nat} (h1 : pwOk n a) (h2 : pwOk n b) : b ≤ a := by
  refine Nat.le_of_not_lt fun hlt => ?_
  have : 2 ^ (a + 1) ≤ 2 ^ b := Nat.pow_le_pow_right (by omega) hlt
  rw [Nat.pow_succ] at this
  obtain ⟨h1, _⟩ := h1
  obtain ⟨_, h2⟩ := h2
  omega
theorem pwOk.uniq {n : Int} {a b : Nat} (h1 : pwOk n a) (h2 : pwOk n b) : a = b := Nat.le_antisymm (h2.le h1) (h1.le h2)
theorem pwOk.small {n : Int} {m : Nat} (h : pwOk n m) (hn : n ≤ 1000000) : m ≤ 20 := by
  refine Nat.le_of_not_lt fun hlt => ?_
  have : 2 ^ 21 ≤ 2 ^ m := Nat.pow_le_pow_right (by omega) hlt
  obtain ⟨_, h⟩ := h
  have e : (2 : Nat) ^ 21 = 2097152 := rfl
  omega
/-! ### Places -/
def odN (X : Nat) : Nat := X ||| 1
theorem odN_eq (X : Nat) : odN X = if X % 2 = 0 then X + 1 else X := by
  have e1 : X = 2 ^ 1 * (X / 2) + X % 2 := by omega
  unfold odN
  by_cases h : X % 2 = 0
  · rw [if_pos h]
    have e2 : X = 2 ^ 1 * (X / 2) := by omega
    have e3 := Nat.two_pow_add_eq_or_of_lt (i := 1) (b := 1) (by omega) (X / 2)
    rw [← e2] at e3
    exact e3.symm
  · rw [if_neg h]
    have e3 := Nat.two_pow_add_eq_or_of_lt (i := 1) (b := 1) (by omega) (X / 2)
    have e4 : 2 ^ 1 * (X / 2) + 1 = X := by omega
    rw [e4] at e3
    conv => lhs; rw [e3]
    rw [Nat.or_assoc, Nat.or_self, ← e3]
def xrI (a b : Int) : Int := Go.bits BinOp.xor IntKind.u64 a b
def dA (s h : Int) : Nat := (mixI (xrI h s)).toNat
def dB (s h : Int) : Nat := odN (twiI (xrI h s)).toNat
/-- A key's places (by the mixed seed). -/
def plN (s h : Int) (M i : Nat) : Nat := (dA s h + i * dB s h) % 18446744073709551616 % M
theorem plN_lt {s h : Int} {M i : Nat} (hM : 0 < M) : plN s h M i < M := Nat.mod_lt _ hM
/-! ### Bits -/
def bitW (ws : List Nat) (p : Nat) : Bool := (ws.getD (p / 64) 0).testBit (p % 64)
def setW (ws : List Nat) (p : Nat) : List Nat := ws.set (p / 64) (ws.getD (p / 64) 0 ||| 2 ^ (p % 64))
theorem setW_len (ws : List Nat) (p : Nat) : (setW ws p).length = ws.length := by simp [setW]
theorem bitW_set {ws : List Nat} {p : Nat} (hp : p / 64 < ws.length) (r : Nat) : bitW (setW ws p) r = (bitW ws r || decide (r = p)) := by
  unfold bitW setW
  rw [List.getD_eq_getElem?_getD, List.getElem?_set]
  by_cases h : p / 64 = r / 64
  · rw [if_pos h, if_pos hp, Option.getD_some, Nat.testBit_or, Nat.testBit_two_pow, h]
    congr 1
    rw [decide_eq_decide]
    omega
  · rw [if_neg h, ← List.getD_eq_getElem?_getD, decide_eq_false (by intro e; subst e; exact h rfl), Bool.or_false]
def Small (ws : List Nat) : Prop := ∀ x ∈ ws, x < 18446744073709551616
theorem Small.get {ws : List Nat} (h : Small ws) (j : Nat) : ws.getD j 0 < 18446744073709551616 := by
  rw [List.getD_eq_getElem?_getD]
  cases hj : ws[j]? with
  | none => simp
  | some x => exact h x (List.mem_of_getElem? hj)
theorem pow_small {k : Nat} (h : k < 64) : 2 ^ k < 18446744073709551616 := by
  have : 2 ^ k ≤ 2 ^ 63 := Nat.pow_le_pow_right (by omega) (by omega)
  have e : (2 : Nat) ^ 63 = 9223372036854775808 := rfl
  omega
theorem Small.set {ws : List Nat} (h : Small ws) (p : Nat) : Small (setW ws p) := by
  intro x hx
  rcases List.mem_or_eq_of_mem_set hx with hx | rfl
  · exact h x hx
  · have h1 := h.get (p / 64)
    have h2 := pow_small (k := p % 64) (Nat.mod_lt _ (by omega))
    have := Nat.or_lt_two_pow (n := 64) (by rw [pow64]; exact h1) (by rw [pow64]; exact h2)
    rwa [pow64] at this
/-- A key is put: so many of its places. -/
def ptW (s h : Int) (M : Nat) (ws : List Nat) : Nat → List Nat
  | 0 => ws
  | i + 1 => setW (ptW s h M ws i) (plN s h M i)
theorem ptW_len (s h : Int) (M : Nat) (ws : List Nat) : ∀ i, (ptW s h M ws i).length = ws.length
  | 0 => rfl
  | i + 1 => by unfold ptW; rw [setW_len, ptW_len s h M ws i]
theorem ptW_bit {s h : Int} {M : Nat} {ws : List Nat} (hM : 0 < M) (hl : ws.length = (M + 63) / 64) (r : Nat) : ∀ i, bitW (ptW s h M ws i) r = true ↔ (bitW ws r = true ∨ ∃ j, j < i ∧ r = plN s h M j)
  | 0 => by simp [ptW]
  | i + 1 => by
    have hlt := plN_lt (s := s) (h := h) (i := i) hM
    unfold ptW
    rw [bitW_set (by rw [ptW_len, hl]; omega), Bool.or_eq_true, ptW_bit hM hl r i, decide_eq_true_eq]
    constructor
    · rintro ((h | ⟨j, hj, e⟩) | e)
      · exact .inl h
      · exact .inr ⟨j, by omega, e⟩
      · exact .inr ⟨i, by omega, e⟩
    · rintro (h | ⟨j, hj, e⟩)
      · exact .inl (.inl h)
      · by_cases hji : j = i
        · subst hji; exact .inr e
        · exact .inl (.inr ⟨j, by omega, e⟩)
def hasB (s h : Int) (M : Nat) (ws : List Nat) : Bool := (List.range 4).all fun i => bitW ws (plN s h M i)
theorem hasB_iff {s h : Int} {M : Nat} {ws : List Nat} : hasB s h M ws = true ↔ ∀ i, i < 4 → bitW ws (plN s h M i) = true := by
  unfold hasB; simp
def putB (s h : Int) (M : Nat) (ws : List Nat) : List Nat := if hasB s h M ws = true then ws else ptW s h M ws 4
theorem putB_len (s h : Int) (M : Nat) (ws : List Nat) : (putB s h M ws).length = ws.length := by unfold putB; split; rfl; exact ptW_len _ _ _ _ _
/-- The bits are those of these keys' places. -/
def bitsOf (s : Int) (M : Nat) (ws : List Nat) (K : List Int) : Prop := ∀ r, bitW ws r = true ↔ ∃ k ∈ K, ∃ j, j < 4 ∧ r = plN s k M j
theorem bitsOf.nil (s : Int) (M n : Nat) : bitsOf s M (List.replicate n 0) [] := by
  intro r
  constructor
  · intro h
    exfalso
    unfold bitW at h
    rw [List.getD_eq_getElem?_getD, List.getElem?_replicate] at h
    split at h <;> simp at h
  · rintro ⟨k, hk, _⟩; cases hk
theorem bitsOf.put {s : Int} {M : Nat} {ws : List Nat} {K : List Int} (hM : 0 < M) (hl : ws.length = (M + 63) / 64) (h : bitsOf s M ws K) (x : Int) : bitsOf s M (putB s x M ws) (K ++ [x]) := by
  intro r
  unfold putB
  split
  · rename_i hh
    rw [h r]
    constructor
    · rintro ⟨k, hk, j⟩; exact ⟨k, List.mem_append_left _ hk, j⟩
    · rintro ⟨k, hk, j, hj, e⟩
      rcases List.mem_append.1 hk with hk | hk
      · exact ⟨k, hk, j, hj, e⟩
      · rw [List.mem_singleton.1 hk] at e
        have := hasB_iff.1 hh j hj
        rw [← e, h r] at this
        exact this
  · rw [ptW_bit hM hl, h r]
    constructor
    · rintro (⟨k, hk, j⟩ | ⟨j, hj, e⟩)
      · exact ⟨k, List.mem_append_left _ hk, j⟩
      · exact ⟨x, by simp, j, hj, e⟩
    · rintro ⟨k, hk, j, hj, e⟩
      rcases List.mem_append.1 hk with hk | hk
      · exact .inl ⟨k, hk, j, hj, e⟩
      · rw [List.mem_singleton.1 hk] at e; exact .inr ⟨j, hj, e⟩
section
variable {e w : World} {F : List HP} {x n s hh : Int}
theorem wdLog {X : Nat} (hX : X < 18446744073709551616) (h : Own e w F) : Rets Tryz.prog 98 #[.int .u64 (X : Int)] w fun v w' => (∃ i : Nat, v = .int .i64 ((i : Int) - 1) ∧ i ≤ 64 ∧ X / 2 ^ i = 0 ∧ (i = 0 ∨ X / 2 ^ (i - 1) ≠ 0)) ∧ Own e w' F := by
  refine word_Log_go _ ⟨fun m vs w => ∃ i : Nat, vs = [.int .u64 ((X / 2 ^ i : Nat) : Int), .int .i64 ((i : Int) - 1)] ∧ m = X / 2 ^ i ∧ i ≤ 64 ∧ (i = 0 ∨ X / 2 ^ (i - 1) ≠ 0) ∧ Own e w F, ⟨X, 0, by simp, by simp, by omega, .inl rfl, h⟩, ?_⟩
  clear h
  rintro m w n1 n2
  intros
  rename_i hI
  obtain ⟨i, hvs, rfl, hi, h0, h⟩ := hI
  obtain ⟨rfl, rfl⟩ : n1 = ((X / 2 ^ i : Nat) : Int) ∧ n2 = (i : Int) - 1 := by simpa using hvs
  refine ⟨fun hc => ?_, fun hc => ?_⟩
  · have hc : ¬ X / 2 ^ i = 0 := fun e => by rw [e] at hc; exact absurd hc (by decide)
    have hi64 : i < 64 := by
      refine Nat.lt_of_not_le fun hge => hc (Nat.div_eq_of_lt ?_)
      have : 2 ^ 64 ≤ 2 ^ i := Nat.pow_le_pow_right (by omega) hge
      rw [pow64] at this
      omega
    rw [show shrI IntKind.u64 ((X / 2 ^ i : Nat) : Int) 1 = ((X / 2 ^ i / 2 ^ 1 : Nat) : Int) from shrN _ 1 (by omega), Nat.div_div_eq_div_mul, ← Nat.pow_succ]
    refine ⟨by omega, X / 2 ^ (i + 1), ?_, i + 1, ?_, rfl, by omega, .inr (by rw [Nat.add_sub_cancel]; exact hc), h⟩
    · rw [Nat.pow_succ, ← Nat.div_div_eq_div_mul]
      exact Nat.div_lt_self (Nat.pos_of_ne_zero hc) (by omega)
    · rw [wI64 (by omega) (by omega)]
      congr 3
      omega
  · have hc : X / 2 ^ i = 0 := Int.ofNat.inj (show ((X / 2 ^ i : Nat) : Int) = ((0 : Nat) : Int) from bne_eq_false_iff_eq.1 hc)
    exact ⟨⟨i, rfl, hi, hc, h0⟩, h⟩
theorem wdPower (hn : 2 ≤ n ∧ n ≤ 1000000) (h : Own e w F) : Rets Tryz.prog 71 #[.int .i64 n] w fun v w' => (∃ m : Nat, v = .int .i64 ((2 ^ m : Nat) : Int) ∧ pwOk n m) ∧ Own e w' F := by
  obtain ⟨X, hX⟩ : ∃ X : Nat, n = (X : Int) + 1 := ⟨(n - 1).toNat, by omega⟩
  subst hX
  refine word_Power_go _ ?_
  unfold word_Power_m
  have e1 : maxI 1 (minI ((X : Int) + 1) 4611686018427387904) = (X : Int) + 1 := by unfold minI maxI; split <;> split <;> omega
  rw [e1, wI64 (n := (X : Int) + 1 - 1) (by omega) (by omega), wU64' (n := (X : Int) + 1 - 1) (by omega) (by omega), show (X : Int) + 1 - 1 = (X : Int) by omega]
  refine Rets.mono (wdLog (X := X) (by omega) h) ?_
  rintro _ w ⟨⟨i, rfl, hi, h0, h1⟩, h⟩
  refine ⟨_, rfl, ?_⟩
  rw [wI64 (n := (i : Int) - 1 + 1) (by omega) (by omega), show (i : Int) - 1 + 1 = (i : Int) by omega]
  have hi0 : i ≠ 0 := by
    intro e; subst e
    simp at h0; omega
  have h1 : X / 2 ^ (i - 1) ≠ 0 := by rcases h1 with h1 | h1; exact absurd h1 hi0; exact h1
  have hp : 0 < 2 ^ (i - 1) := Nat.pow_pos (by omega)
  have l1 : X < 2 ^ i := Nat.lt_of_div_eq_zero (Nat.pow_pos (by omega)) h0
  have l2 : 2 ^ (i - 1) ≤ X := by
    refine Nat.le_of_not_lt fun hlt => h1 (Nat.div_eq_of_lt hlt)
  have e2 : 2 ^ i = 2 ^ (i - 1) * 2 := by rw [← Nat.pow_succ]; congr 1; omega
  have hok : pwOk ((X : Int) + 1) i := ⟨by omega, by omega⟩
  have hs := hok.small hn.2
  refine ⟨by omega, ⟨i, ?_, hok⟩, h⟩
  have e3 : shlI IntKind.i64 1 (i : Int) = ((2 ^ i : Nat) : Int) := by
    unfold shlI
    have e4 : min (i : Int).toNat IntKind.i64.bits = i := by
      rw [Int.toNat_natCast]; exact Nat.min_eq_left (by show i ≤ 64; omega)
    rw [e4, Int.one_mul, show (2 : Int) ^ i = ((2 ^ i : Nat) : Int) from by rw [Int.natCast_pow]; rfl]
    exact wI64 (by omega) (by omega)
  rw [e3]
theorem rfPower (hn : 2 ≤ n ∧ n ≤ 1000000) (h : Own e w F) : Rets Tryz.prog 76 #[.int .i64 n] w fun v w' => (∃ m : Nat, v = .int .i64 ((2 ^ m : Nat) : Int) ∧ pwOk n m) ∧ Own e w' F := by
  refine cortadoref01_Power_go _ ⟨fun m vs w => ∃ i : Nat, vs = [.int .i64 ((2 ^ i : Nat) : Int), .int .i64 (i : Int)] ∧ m + i = 62 ∧ (i = 0 ∨ ((2 ^ (i - 1) : Nat) : Int) < n) ∧ Own e w F, ⟨62, 0, rfl, rfl, .inl rfl, h⟩, ?_⟩
  clear h
  rintro m w n1 n2
  intros
  rename_i hI
  obtain ⟨i, hvs, hm, h0, h⟩ := hI
  obtain ⟨rfl, rfl⟩ : n1 = ((2 ^ i : Nat) : Int) ∧ n2 = (i : Int) := by simpa using hvs
  have hi20 : i ≤ 21 := by
    rcases h0 with h0 | h0
    · omega
    · refine Nat.le_of_not_lt fun hlt => ?_
      have : 2 ^ 21 ≤ 2 ^ (i - 1) := Nat.pow_le_pow_right (by omega) (by omega)
      have e : (2 : Nat) ^ 21 = 2097152 := rfl
      omega
  refine ⟨fun hc => ⟨fun hx => ?_, fun hx => ?_⟩, fun hc => ?_⟩
  · have hx := dec_t hx
    have e2 : 2 ^ (i + 1) = 2 ^ i * 2 := Nat.pow_succ _ _
    refine ⟨m - 1, by omega, i + 1, ?_, by omega, .inr (by simpa using hx), h⟩
    rw [wI64 (n := 2 * _) (by omega) (by omega), wI64 (n := (i : Int) + 1) (by omega) (by omega), e2]
    congr 2
    · congr 1; omega
  · have hx := dec_f hx
    refine ⟨⟨i, rfl, by omega, ?_⟩, h⟩
    rcases h0 with h0 | h0
    · subst h0; simp at hx; omega
    · have e2 : 2 ^ i = 2 ^ (i - 1) * 2 := by
        by_cases hi0 : i = 0
        · subst hi0; simp at hx; omega
        · rw [← Nat.pow_succ]; congr 1; omega
      omega
  · have hc := dec_f hc; omega
end
abbrev wsC (ws : List Nat) : List Value := cs .u64 (ws.map fun (b : Nat) => (b : Int))
abbrev wsB (q : Option Addr) (n : Nat) (ws : List Nat) : HP := slO 30 1 q n n (wsC ws)
/-- A door: its words. -/
def dorO (g m : Nat) (s : Int) (ws : List Nat) : HP := exH fun q => puH (ws.length = (2 ^ m + 63) / 64 ∧ Small ws ∧ m ≤ 20 ∧ M64 s) (allH [blk g 141 [.slice q ws.length ws.length, .int .i64 ((2 ^ m : Nat) : Int), .int .u64 s], wsB q ws.length ws])
section
variable {e w : World} {F : List HP} {n s hh : Int} {g m : Nat} {ws : List Nat}
theorem dorO.op (h : Own e w (dorO g m s ws :: F)) : ∃ q, (ws.length = (2 ^ m + 63) / 64 ∧ Small ws ∧ m ≤ 20 ∧ M64 s) ∧ Own e w (blk g 141 [.slice q ws.length ws.length, .int .i64 ((2 ^ m : Nat) : Int), .int .u64 s] :: wsB q ws.length ws :: F) := by
  obtain ⟨q, h⟩ := h.ex
  obtain ⟨h1, h⟩ := h.pu
  exact ⟨q, h1, h.open_⟩
theorem dorO.cl {q : Option Addr} (h1 : ws.length = (2 ^ m + 63) / 64 ∧ Small ws ∧ m ≤ 20 ∧ M64 s) (h : Own e w (blk g 141 [.slice q ws.length ws.length, .int .i64 ((2 ^ m : Nat) : Int), .int .u64 s] :: wsB q ws.length ws :: F)) : Own e w (dorO g m s ws :: F) := by
  have h : Own e w ([blk g 141 [.slice q ws.length ws.length, .int .i64 ((2 ^ m : Nat) : Int), .int .u64 s], wsB q ws.length ws] ++ F) := h
  exact Own.mkEx q (Own.mkPu h1 h.close_)
theorem p20 {m : Nat} (h : m ≤ 20) : 0 < 2 ^ m ∧ 2 ^ m ≤ 1048576 := by
  refine ⟨Nat.pow_pos (by omega), ?_⟩
  have : 2 ^ m ≤ 2 ^ 20 := Nat.pow_le_pow_right (by omega) h
  exact this
def keyN (k : Int) : Int := 8 * maxI 1 (minI k 4096)
theorem keyN_bd (k : Int) : 8 ≤ keyN k ∧ keyN k ≤ 32768 := by unfold keyN maxI minI; split <;> split <;> omega
theorem drNew {k : Int} (hm1 : ∀ w, Own e w F → RdC w mixQ mixC) (h : Own e w F) : Rets Tryz.prog 47 #[.int .i64 k, .int .u64 s] w fun v w' => ∃ g m, v = .pointer (some ⟨g, 0, none⟩) ∧ pwOk (keyN k) m ∧ Own e w' (dorO g m (mixI s) (List.replicate ((2 ^ m + 63) / 64) 0) :: F) := by
  refine door_New_go _ _ ?_
  unfold door_New_m
  have hk := keyN_bd k
  have e1 : IntKind.wrap .i64 (8 * maxI 1 (minI k 4096)) = keyN k := by
    have : 8 * maxI 1 (minI k 4096) = keyN k := rfl
    rw [this, wI64 (by omega) (by omega)]
  rw [e1]
  refine Rets.mono (wdPower ⟨by omega, by omega⟩ h) ?_
  rintro _ w ⟨⟨m, rfl, hok⟩, h⟩
  have hm20 := hok.small (by omega)
  obtain ⟨p1, p2⟩ := p20 hm20
  obtain ⟨N, hN⟩ : ∃ N : Nat, N = (2 ^ m + 63) / 64 := ⟨_, rfl⟩
  have eN : IntKind.wrap .i64 (Int.tdiv (IntKind.wrap .i64 (IntKind.wrap .i64 (((2 ^ m : Nat) : Int) + 64) - 1)) 64) = (N : Int) := by
    rw [wI64 (n := ((2 ^ m : Nat) : Int) + 64) (by omega) (by omega), wI64 (n := ((2 ^ m : Nat) : Int) + 64 - 1) (by omega) (by omega), Int.tdiv_eq_ediv_of_nonneg (by omega), wI64 (by omega) (by omega)]
    omega
  have fin : ∀ (g1 g2 : Nat) (w : World), Own e w (blk g2 141 [.slice (some ⟨g1, 0, none⟩) N N, .int .i64 ((2 ^ m : Nat) : Int), .int .u64 (mixI s)] :: blk g1 30 (zrep [.int .u64 0] N) :: F) → Own e w (dorO g2 m (mixI s) (List.replicate ((2 ^ m + 63) / 64) 0) :: F) := fun g1 g2 w h => by
    rw [← hN]
    refine dorO.cl (q := some ⟨g1, 0, none⟩) ⟨by simp [hN], fun x hx => by rw [List.eq_of_mem_replicate hx]; omega, hm20, mixI_M64 _⟩ ?_
    rw [List.length_replicate]
    rw [zrep_one] at h
    refine Own.swap (Own.slMk (rest := []) (by simp [cs]) (Nat.le_refl _) (by unfold maxLen; omega) (by simp [cs]) ?_)
    rw [List.append_nil]
    have e2 : wsC (List.replicate N 0) = List.replicate N (.int .u64 0) := by simp [cs]
    rw [e2]
    exact h.swap
  refine ⟨_, rfl, ?_⟩
  rw [eN, Int.toNat_natCast]
  refine h.drw fun w h => ⟨by omega, ?_, ?_⟩
  · refine h.makeR ⟨by omega, by omega, by omega, by omega⟩ fun g1 w h => ?_
    rw [Int.toNat_natCast] at h
    refine Rets.mono (mxMix h (fun w h => hm1 w h.drop)) ?_
    rintro _ w ⟨rfl, h⟩
    exact ⟨_, rfl, h.newR fun g2 w h => ⟨g2, m, rfl, hok, fin g1 g2 w h⟩⟩
  · refine Rets.mono (mxMix h hm1) ?_
    rintro _ w ⟨rfl, h⟩
    refine ⟨_, rfl, h.makeR ⟨by omega, by omega, by omega, by omega⟩ fun g1 w h => h.newR fun g2 w h => ⟨g2, m, rfl, hok, ?_⟩⟩
    rw [Int.toNat_natCast] at h
    exact fin g1 g2 w h
/-- The places, so many of them. -/
def plL (s h : Int) (M i : Nat) : List Int := (List.range 4).map fun j => if j < i then (plN s h M j : Int) else 0
theorem plL_set {s h : Int} {M i : Nat} (hi : i < 4) : setFrom (cs .i64 (plL s h M i)) i [.int .i64 (plN s h M i : Int)] = cs .i64 (plL s h M (i + 1)) := by
  rw [cs_set]
  congr 1
  apply List.ext_getElem
  · simp [plL]
  · intro j h1 h2
    rw [List.getElem_set]
    simp only [plL, List.getElem_map, List.getElem_range]
    by_cases hj : i = j
    · subst hj; rw [if_pos rfl, if_pos (by omega)]
    · rw [if_neg hj]
      by_cases hj2 : j < i
      · rw [if_pos hj2, if_pos (by omega)]
      · rw [if_neg hj2, if_neg (by omega)]
def atI (s h : Int) (i : Nat) : Nat := (dA s h + i * dB s h) % 18446744073709551616
theorem dA_lt (s h : Int) : (dA s h : Int) = mixI (xrI h s) ∧ dA s h < 18446744073709551616 := by
  have := mixI_M64 (xrI h s)
  obtain ⟨h0, h1⟩ := this
  unfold dA; omega
theorem orOne {x : Int} (hx : M64 x) : Go.bits BinOp.or IntKind.u64 x 1 = ((odN x.toNat : Nat) : Int) ∧ odN x.toNat < 18446744073709551616 := by
  obtain ⟨h0, h1⟩ := hx
  obtain ⟨T, rfl⟩ := Int.eq_ofNat_of_zero_le h0
  have hlt : T ||| 1 < 2 ^ 64 := Nat.or_lt_two_pow (by rw [pow64]; omega) (by rw [pow64]; omega)
  rw [pow64] at hlt
  have h2 := N_or (a := T) (b := 1) (by omega) (by omega)
  rw [Int.natCast_one] at h2
  rw [Int.toNat_natCast]
  exact ⟨h2, hlt⟩
theorem dB_lt (s h : Int) : Go.bits BinOp.or IntKind.u64 (twiI (xrI h s)) 1 = (dB s h : Int) ∧ dB s h < 18446744073709551616 := orOne (twiI_M64 _)
theorem atI_succ (s h : Int) (i : Nat) : IntKind.wrap .u64 ((atI s h i : Int) + (dB s h : Int)) = (atI s h (i + 1) : Int) := by
  unfold atI
  rw [wU64, Nat.add_mul, Nat.one_mul]
  omega
theorem drPlaces (hm1 : ∀ w, Own e w F → RdC w mixQ mixC) (hm2 : ∀ w, Own e w F → RdC w twiQ twiC) (h : Own e w (dorO g m s ws :: F)) :
    Rets Tryz.prog 91 #[.pointer (some ⟨g, 0, none⟩), .int .u64 hh] w fun v w' => v = .agg #[.int .i64 (plN s hh (2 ^ m) 0 : Int), .int .i64 (plN s hh (2 ^ m) 1 : Int), .int .i64 (plN s hh (2 ^ m) 2 : Int), .int .i64 (plN s hh (2 ^ m) 3 : Int)] ∧ Own e w' (dorO g m s ws :: F) := by
  refine door_Door_Places_go _ _ (h.newR fun g1 w h => ⟨fun hc => (by cases hc), fun _ => ?_⟩)
  have h : Own e w (dorO g m s ws :: blk g1 157 (cs .i64 (plL s hh (2 ^ m) 0)) :: F) := h.swap
  obtain ⟨q, h1, h⟩ := dorO.op h
  obtain ⟨p1, p2⟩ := p20 h1.2.2.1
  refine ⟨s, Own.ld (g := g) h (by repeat (first | with_reducible exact Pick.here | apply Pick.there)) rfl, ?_⟩
  refine Rets.mono (mxMix (x := xrI hh s) h (fun w h => hm1 w h.drop.drop.drop)) ?_
  rintro _ w ⟨rfl, h⟩
  refine ⟨_, rfl, ?_⟩
  refine Rets.mono (mxTwist (x := xrI hh s) h (fun w h => hm2 w h.drop.drop.drop)) ?_
  rintro _ w ⟨rfl, h⟩
  obtain ⟨d1, d2⟩ := dA_lt s hh
  obtain ⟨d3, d4⟩ := dB_lt s hh
  have e0 : mixI (xrI hh s) = (atI s hh 0 : Int) := by
    rw [← d1]; unfold atI
    rw [Nat.zero_mul, Nat.add_zero, Nat.mod_eq_of_lt d2]
  rw [e0]
  refine ⟨_, rfl, ?_⟩
  rw [show Go.bits BinOp.or IntKind.u64 (twiI (xrI hh s)) 1 = (dB s hh : Int) from d3]
  refine ⟨fun k vs w => ∃ i : Nat, vs = [.int .u64 (atI s hh i : Int), .int .i64 (i : Int)] ∧ k + i = 4 ∧ Own e w (blk g 141 [.slice q ws.length ws.length, .int .i64 ((2 ^ m : Nat) : Int), .int .u64 s] :: wsB q ws.length ws :: blk g1 157 (cs .i64 (plL s hh (2 ^ m) i)) :: F), ⟨4, 0, rfl, rfl, h⟩, ?_⟩
  clear h
  rintro k w n12 v3 n13
  intros
  rename_i hI
  obtain ⟨i, hvs, hm, h⟩ := hI
  obtain ⟨rfl, rfl⟩ : n12 = (atI s hh i : Int) ∧ n13 = (i : Int) := by simpa using hvs
  refine ⟨fun hc => ?_, fun hc => ?_⟩
  · have hc := dec_t hc
    have hi : i < 4 := by omega
    have hlt : atI s hh i < 18446744073709551616 := Nat.mod_lt _ (by omega)
    have e1 : IntKind.wrap .u64 (IntKind.wrap .i64 (((2 ^ m : Nat) : Int) - 1)) = ((2 ^ m - 1 : Nat) : Int) := by
      rw [wI64 (by omega) (by omega), wU64' (by omega) (by omega)]; omega
    have e2 : IntKind.wrap .i64 (Go.bits BinOp.and IntKind.u64 (atI s hh i : Int) ((2 ^ m - 1 : Nat) : Int)) = (plN s hh (2 ^ m) i : Int) := by
      have := plN_lt (s := s) (h := hh) (i := i) p1
      rw [N_and hlt (by omega), Nat.and_two_pow_sub_one_eq_mod]
      show IntKind.wrap .i64 ((plN s hh (2 ^ m) i : Nat) : Int) = _
      rw [wI64 (by omega) (by omega)]
    refine ⟨_, Own.ld (g := g) h (by repeat (first | with_reducible exact Pick.here | apply Pick.there)) rfl, by omega, by omega, ?_⟩
    rw [e1, e2, Int.toNat_natCast, Nat.mul_one]
    refine Own.stP (g := g1) h (by repeat (first | with_reducible exact Pick.here | apply Pick.there)) (by simp [plL, cs]; omega) (by simp [Value.oneCell']) fun w h => ⟨k - 1, by omega, i + 1, ?_, by omega, ?_⟩
    · rw [atI_succ, wI64 (by omega) (by omega)]; rfl
    · rw [plL_set hi] at h
      exact (Own.sub (h) (by repeat (first | exact Sub.nil _ | exact Sub.rfl _ | (apply Sub.cons; focus ((repeat (first | with_reducible exact Pick.here | apply Pick.there)); done)) | apply Sub.drop)))
  · have hc := dec_f hc
    obtain rfl : i = 4 := by omega
    have h : Own e w (blk g 141 [.slice q ws.length ws.length, .int .i64 ((2 ^ m : Nat) : Int), .int .u64 s] :: wsB q ws.length ws :: blk g1 157 [.int .i64 (plN s hh (2 ^ m) 0 : Int), .int .i64 (plN s hh (2 ^ m) 1 : Int), .int .i64 (plN s hh (2 ^ m) 2 : Int), .int .i64 (plN s hh (2 ^ m) 3 : Int)] :: F) := h
    refine ⟨_, _, _, _, ⟨Own.ld (g := g1) h (by repeat (first | with_reducible exact Pick.here | apply Pick.there)) rfl, Own.ld (g := g1) h (by repeat (first | with_reducible exact Pick.here | apply Pick.there)) rfl, Own.ld (g := g1) h (by repeat (first | with_reducible exact Pick.here | apply Pick.there)) rfl, Own.ld (g := g1) h (by repeat (first | with_reducible exact Pick.here | apply Pick.there)) rfl⟩, Own.stP' (g := g1) h (by repeat (first | with_reducible exact Pick.here | apply Pick.there)) (by simp) (by simp [Value.oneCell']) fun w h => ?_⟩
    simp only [setFrom, List.set_cons_zero, List.set_cons_succ, List.set_nil] at h
    refine ⟨_, _, _, _, ⟨Own.ld (g := g1) h (by repeat (first | with_reducible exact Pick.here | apply Pick.there)) rfl, Own.ld (g := g1) h (by repeat (first | with_reducible exact Pick.here | apply Pick.there)) rfl, Own.ld (g := g1) h (by repeat (first | with_reducible exact Pick.here | apply Pick.there)) rfl, Own.ld (g := g1) h (by repeat (first | with_reducible exact Pick.here | apply Pick.there)) rfl⟩, rfl, dorO.cl h1 (Own.sub (h) (by repeat (first | exact Sub.nil _ | exact Sub.rfl _ | (apply Sub.cons; focus ((repeat (first | with_reducible exact Pick.here | apply Pick.there)); done)) | apply Sub.drop)))⟩
theorem drIs {p : Nat} (hp : p < 2 ^ m) (h : Own e w (dorO g m s ws :: F)) : Rets Tryz.prog 92 #[.pointer (some ⟨g, 0, none⟩), .int .i64 (p : Int)] w fun v w' => v = .bool (bitW ws p) ∧ Own e w' (dorO g m s ws :: F) := by
  obtain ⟨q, h1, h⟩ := dorO.op h
  obtain ⟨p1, p2⟩ := p20 h1.2.2.1
  obtain ⟨hl, hsm, _⟩ := h1
  have hlt : p / 64 < ws.length := by rw [hl]; omega
  have e1 : IntKind.wrap .i64 (Int.tdiv (p : Int) 64) = ((p / 64 : Nat) : Int) := by rw [Int.tdiv_eq_ediv_of_nonneg (by omega), wI64 (by omega) (by omega)]; omega
  have e2 : IntKind.wrap .u64 (Int.tmod (p : Int) 64) = ((p % 64 : Nat) : Int) := by rw [Int.tmod_eq_emod_of_nonneg (by omega), wU64' (by omega) (by omega)]; omega
  refine door_Door_is_go _ _ ?_
  unfold door_Door_is_m
  rw [e1, e2]
  refine ⟨_, _, _, Own.ld (g := g) h (by repeat (first | with_reducible exact Pick.here | apply Pick.there)) rfl, by omega, by omega, by omega, ?_⟩
  have hl2 : p / 64 < (ws.map fun (b : Nat) => (b : Int)).length := by simpa using hlt
  refine (Own.rdP (T := 30) (q := q) h (by repeat (first | with_reducible exact Pick.here | apply Pick.there))).int (i := p / 64) hl2 fun a ha => ⟨((ws[p / 64] : Nat) : Int), ?_, by omega, by omega, ?_, dorO.cl ⟨hl, hsm, by assumption⟩ h⟩
  · rw [Int.toNat_natCast]; simpa using ha
  have hX : ws[p / 64] < 18446744073709551616 := hsm _ (List.getElem_mem hlt)
  have hd : ws[p / 64] / 2 ^ (p % 64) ≤ ws[p / 64] := Nat.div_le_self _ _
  have e3 := N_and (a := ws[p / 64] / 2 ^ (p % 64)) (b := 1) (by omega) (by omega)
  rw [Int.natCast_one, Nat.and_one_is_mod] at e3
  rw [shrN _ _ (by omega), e3]
  congr 1
  unfold bitW
  rw [List.getD_eq_getElem?_getD, List.getElem?_eq_getElem hlt, Option.getD_some, Nat.testBit_eq_decide_div_mod_eq, Bool.eq_iff_iff, beq_iff_eq, decide_eq_true_eq]
  omega
theorem get4 {a b c d : Int} {i : Nat} (hi : i < 4) (f : Nat → Int) (h0 : f 0 = a) (h1 : f 1 = b) (h2 : f 2 = c) (h3 : f 3 = d) : List.get?Internal (Array.toList #[Value.int .i64 a, Value.int .i64 b, Value.int .i64 c, Value.int .i64 d]) (Int.toNat (i : Int)) = some (Value.int .i64 (f i)) := by
  obtain h | h | h | h : i = 0 ∨ i = 1 ∨ i = 2 ∨ i = 3 := by omega
  all_goals (subst h; first | (rw [h0]; rfl) | (rw [h1]; rfl) | (rw [h2]; rfl) | (rw [h3]; rfl))
theorem drHas (hm1 : ∀ w, Own e w F → RdC w mixQ mixC) (hm2 : ∀ w, Own e w F → RdC w twiQ twiC) (h : Own e w (dorO g m s ws :: F)) : Rets Tryz.prog 63 #[.pointer (some ⟨g, 0, none⟩), .int .u64 hh] w fun v w' => v = .bool (hasB s hh (2 ^ m) ws) ∧ Own e w' (dorO g m s ws :: F) := by
  refine door_Door_Has_go _ _ ⟨fun hc => (by cases hc), fun _ => ?_⟩
  obtain ⟨q, hq, _⟩ := dorO.op h
  obtain ⟨p1, p2⟩ := p20 hq.2.2.1
  refine Rets.mono (drPlaces hm1 hm2 h) ?_
  clear h
  rintro _ w ⟨rfl, h⟩
  refine ⟨_, _, _, _, rfl, fun k vs w => ∃ i : Nat, vs = [.int .i64 (i : Int)] ∧ k + i = 4 ∧ (∀ j, j < i → bitW ws (plN s hh (2 ^ m) j) = true) ∧ Own e w (dorO g m s ws :: F), ⟨4, 0, rfl, rfl, fun j hj => by omega, h⟩, ?_⟩
  clear h
  rintro k w v2 v3 n5
  intros
  rename_i hI
  obtain ⟨i, hvs, hm, hb, h⟩ := hI
  obtain rfl : n5 = (i : Int) := by simpa using hvs
  refine ⟨fun hc => ?_, fun hc => ?_⟩
  · have hc := dec_t hc
    have hi : i < 4 := by omega
    refine ⟨by omega, by omega, _, get4 hi (fun i => (plN s hh (2 ^ m) i : Int)) rfl rfl rfl rfl, ?_⟩
    refine Rets.mono (drIs (plN_lt p1) h) ?_
    rintro _ w ⟨rfl, h⟩
    refine ⟨_, rfl, fun hx => ?_, fun hx => ?_⟩
    · have hx : bitW ws (plN s hh (2 ^ m) i) = false := by simpa using hx
      refine ⟨?_, h⟩
      have : hasB s hh (2 ^ m) ws = false := by
        rw [Bool.eq_false_iff]; intro hh2
        rw [hasB_iff.1 hh2 i hi] at hx; cases hx
      rw [this]
    · have hx : bitW ws (plN s hh (2 ^ m) i) = true := by simpa using hx
      refine ⟨k - 1, by omega, i + 1, by rw [wI64 (by omega) (by omega)]; rfl, by omega, fun j hj => ?_, h⟩
      by_cases hji : j = i
      · subst hji; exact hx
      · exact hb j (by omega)
  · have hc := dec_f hc
    obtain rfl : i = 4 := by omega
    exact ⟨by rw [hasB_iff.2 hb], h⟩
theorem drPut (hm1 : ∀ w, Own e w F → RdC w mixQ mixC) (hm2 : ∀ w, Own e w F → RdC w twiQ twiC) (h : Own e w (dorO g m s ws :: F)) : Rets Tryz.prog 105 #[.pointer (some ⟨g, 0, none⟩), .int .u64 hh] w fun v w' => v = .bool (!hasB s hh (2 ^ m) ws) ∧ Own e w' (dorO g m s (putB s hh (2 ^ m) ws) :: F) := by
  refine door_Door_Put_go _ _ ⟨fun _ => ?_, fun hc => (by cases hc)⟩
  refine Rets.mono (drHas hm1 hm2 h) ?_
  clear h
  rintro _ w ⟨rfl, h⟩
  refine ⟨_, rfl, fun hx => ?_, fun hx => ?_⟩
  · unfold putB; rw [if_pos hx, hx]; exact ⟨rfl, h⟩
  have hput : putB s hh (2 ^ m) ws = ptW s hh (2 ^ m) ws 4 := by unfold putB; rw [if_neg (by rw [hx]; simp)]
  rw [hx, hput]
  refine Rets.mono (drPlaces hm1 hm2 h) ?_
  clear h
  rintro _ w ⟨rfl, h⟩
  refine ⟨_, _, _, _, rfl, fun k vs w => ∃ i : Nat, vs = [.int .i64 (i : Int)] ∧ k + i = 4 ∧ Own e w (dorO g m s (ptW s hh (2 ^ m) ws i) :: F), ⟨4, 0, rfl, rfl, h⟩, ?_⟩
  clear h
  rintro k w v3 n5
  intros
  rename_i hI
  obtain ⟨i, hvs, hm, h⟩ := hI
  obtain rfl : n5 = (i : Int) := by simpa using hvs
  refine ⟨fun hc => ?_, fun hc => ?_⟩
  · have hc := dec_t hc
    have hi : i < 4 := by omega
    obtain ⟨W, hW⟩ : ∃ W, W = ptW s hh (2 ^ m) ws i := ⟨_, rfl⟩
    have hnext : ptW s hh (2 ^ m) ws (i + 1) = setW W (plN s hh (2 ^ m) i) := by rw [hW]; rfl
    rw [← hW] at h
    obtain ⟨q, h1, h⟩ := dorO.op h
    obtain ⟨p1, p2⟩ := p20 h1.2.2.1
    obtain ⟨hl, hsm, hm20, hM⟩ := h1
    have hpl := plN_lt (s := s) (h := hh) (i := i) p1
    refine ⟨by omega, by omega, _, get4 hi (fun i => (plN s hh (2 ^ m) i : Int)) rfl rfl rfl rfl, ?_⟩
    obtain ⟨p, hp⟩ : ∃ p, p = plN s hh (2 ^ m) i := ⟨_, rfl⟩
    show ∃ (q1 : Option Addr), _
    simp only [← hp] at hpl hnext ⊢
    have hlt : p / 64 < W.length := by rw [hl]; omega
    have e1 : IntKind.wrap .i64 (Int.tdiv (p : Int) 64) = ((p / 64 : Nat) : Int) := by rw [Int.tdiv_eq_ediv_of_nonneg (by omega), wI64 (by omega) (by omega)]; omega
    have e2 : IntKind.wrap .u64 (Int.tmod (p : Int) 64) = ((p % 64 : Nat) : Int) := by rw [Int.tmod_eq_emod_of_nonneg (by omega), wU64' (by omega) (by omega)]; omega
    rw [e1, e2, Int.toNat_natCast]
    refine ⟨_, _, _, Own.ld (g := g) h (by repeat (first | with_reducible exact Pick.here | apply Pick.there)) rfl, by omega, by omega, by omega, ?_⟩
    have hl2 : p / 64 < (W.map fun (b : Nat) => (b : Int)).length := by simpa using hlt
    refine (Own.rdP (T := 30) (q := q) h (by repeat (first | with_reducible exact Pick.here | apply Pick.there))).int (i := p / 64) hl2 fun a ha => ⟨((W[p / 64] : Nat) : Int), by simpa using ha, by omega, by omega, by omega, by omega, ?_⟩
    have hX : W[p / 64] < 18446744073709551616 := hsm _ (List.getElem_mem hlt)
    have h2 := pow_small (k := p % 64) (Nat.mod_lt _ (by omega))
    have e3 : shlI IntKind.u64 1 ((p % 64 : Nat) : Int) = ((2 ^ (p % 64) : Nat) : Int) := by
      have := shlN 1 (p % 64) (by omega)
      rw [Nat.one_mul, Nat.mod_eq_of_lt h2] at this
      exact this
    rw [e3, N_or hX h2]
    have h : Own e w (wsB q W.length W :: _) := (Own.pk h (by repeat (first | with_reducible exact Pick.here | apply Pick.there)))
    have hstore := h.slStore (i := p / 64) (us := [.int .u64 ((W[p / 64] ||| 2 ^ (p % 64) : Nat) : Int)]) (K := fun w' => ∃ k5, k5 < k ∧ ∃ i : Nat, [Value.int .i64 (IntKind.wrap .i64 (((4 - k : Nat) : Int) + 1))] = [.int .i64 (i : Int)] ∧ k5 + i = 4 ∧ Own e w' (dorO g m s (ptW s hh (2 ^ m) ws i) :: F)) (by simp [cs]; omega) (by simp) (by simp [Value.oneCell']) (fun w' h => ?_)
    · have e4 : 4 - k = i := by omega
      rw [e4] at hstore
      simp only [Nat.mul_one]
      exact hstore
    · have e4 : 4 - k = i := by omega
      rw [e4]
      refine ⟨k - 1, by omega, i + 1, by rw [wI64 (by omega) (by omega)]; rfl, by omega, ?_⟩
      rw [hnext]
      have e5 : setFrom (wsC W) (p / 64) [.int .u64 ((W[p / 64] ||| 2 ^ (p % 64) : Nat) : Int)] = wsC (setW W p) := by
        show setFrom (cs .u64 _) _ _ = _
        rw [cs_set]
        unfold setW
        rw [List.getD_eq_getElem?_getD, List.getElem?_eq_getElem hlt, Option.getD_some]
        show _ = cs .u64 ((W.set (p / 64) (W[p / 64] ||| 2 ^ (p % 64))).map fun (b : Nat) => (b : Int))
        rw [List.map_set]
      rw [e5] at h
      refine dorO.cl (q := q) ⟨by rw [setW_len]; exact hl, hsm.set _, hm20, hM⟩ ?_
      rw [setW_len]
      exact h.swap
  · have hc := dec_f hc
    obtain rfl : i = 4 := by omega
    exact ⟨rfl, h⟩
end
/-- One table is laid. -/
def MixOne (W : World) : Prop := (∃ t fr, W.heap[0]? = some (.cells #[.int .i64 30, .int .u64 13787848793156543929, .int .i64 27, .int .u64 10723151780598845931, .int .i64 31, .int .u64 1] t fr)) ∧ (False → True)
theorem MixOne.rd {W : World} (h : MixOne W) : RdC W mixQ mixC := by
  obtain ⟨⟨t, fr, h⟩, _⟩ := h
  exact rd_laid (l := mixC) h
/-! ### Powers -/
def pwS (n : Int) (m : Nat) : Prop := n ≤ ((2 ^ m : Nat) : Int) ∧ ((2 ^ m : Nat) : Int) < 2 * n
theorem pwS.le {n : Int} {a b : Nat} (h1 : pwS n a) (h2 : pwS n b) : b ≤ a := by
  refine Nat.le_of_not_lt fun hlt => ?_
  have : 2 ^ (a + 1) ≤ 2 ^ b := Nat.pow_le_pow_right (by omega) hlt
  rw [Nat.pow_succ] at this
  obtain ⟨h1, _⟩ := h1
  obtain ⟨_, h2⟩ := h2
  omega
theorem pwS.uniq {n : Int} {a b : Nat} (h1 : pwS n a) (h2 : pwS n b) : a = b := Nat.le_antisymm (h2.le h1) (h1.le h2)
theorem pwS.small {n : Int} {m : Nat} (h : pwS n m) (hn : n ≤ 4096) : m ≤ 12 := by
  refine Nat.le_of_not_lt fun hlt => ?_
  have : 2 ^ 13 ≤ 2 ^ m := Nat.pow_le_pow_right (by omega) hlt
  obtain ⟨_, h⟩ := h
  have e : (2 : Nat) ^ 13 = 8192 := rfl
  omega
theorem p12 {m : Nat} (h : m ≤ 12) : 0 < 2 ^ m ∧ 2 ^ m ≤ 4096 := by
  refine ⟨Nat.pow_pos (by omega), ?_⟩
  have : 2 ^ m ≤ 2 ^ 12 := Nat.pow_le_pow_right (by omega) h
  exact this
section
variable {e w : World} {F : List HP} {x n s hh : Int}
theorem wdLogS {X : Nat} (hX : X < 18446744073709551616) (h : Own e w F) : Rets Tryz.prog 98 #[.int .u64 (X : Int)] w fun v w' => (∃ i : Nat, v = .int .i64 ((i : Int) - 1) ∧ i ≤ 64 ∧ X / 2 ^ i = 0 ∧ (i = 0 ∨ X / 2 ^ (i - 1) ≠ 0)) ∧ Own e w' F := by
  refine word_Log_go _ ⟨fun m vs w => ∃ i : Nat, vs = [.int .u64 ((X / 2 ^ i : Nat) : Int), .int .i64 ((i : Int) - 1)] ∧ m = X / 2 ^ i ∧ i ≤ 64 ∧ (i = 0 ∨ X / 2 ^ (i - 1) ≠ 0) ∧ Own e w F, ⟨X, 0, by simp, by simp, by omega, .inl rfl, h⟩, ?_⟩
  clear h
  rintro m w n1 n2
  intros
  rename_i hI
  obtain ⟨i, hvs, rfl, hi, h0, h⟩ := hI
  obtain ⟨rfl, rfl⟩ : n1 = ((X / 2 ^ i : Nat) : Int) ∧ n2 = (i : Int) - 1 := by simpa using hvs
  refine ⟨fun hc => ?_, fun hc => ?_⟩
  · have hc : ¬ X / 2 ^ i = 0 := fun e => by rw [e] at hc; exact absurd hc (by decide)
    have hi64 : i < 64 := by
      refine Nat.lt_of_not_le fun hge => hc (Nat.div_eq_of_lt ?_)
      have : 2 ^ 64 ≤ 2 ^ i := Nat.pow_le_pow_right (by omega) hge
      rw [pow64] at this
      omega
    rw [show shrI IntKind.u64 ((X / 2 ^ i : Nat) : Int) 1 = ((X / 2 ^ i / 2 ^ 1 : Nat) : Int) from shrN _ 1 (by omega), Nat.div_div_eq_div_mul, ← Nat.pow_succ]
    refine ⟨by omega, X / 2 ^ (i + 1), ?_, i + 1, ?_, rfl, by omega, .inr (by rw [Nat.add_sub_cancel]; exact hc), h⟩
    · rw [Nat.pow_succ, ← Nat.div_div_eq_div_mul]
      exact Nat.div_lt_self (Nat.pos_of_ne_zero hc) (by omega)
    · rw [wI64 (by omega) (by omega)]
      congr 3
      omega
  · have hc : X / 2 ^ i = 0 := Int.ofNat.inj (show ((X / 2 ^ i : Nat) : Int) = ((0 : Nat) : Int) from bne_eq_false_iff_eq.1 hc)
    exact ⟨⟨i, rfl, hi, hc, h0⟩, h⟩
theorem wdPowerS (hn : 1 ≤ n ∧ n ≤ 4096) (h : Own e w F) : Rets Tryz.prog 71 #[.int .i64 n] w fun v w' => (∃ m : Nat, v = .int .i64 ((2 ^ m : Nat) : Int) ∧ pwS n m) ∧ Own e w' F := by
  obtain ⟨X, hX⟩ : ∃ X : Nat, n = (X : Int) + 1 := ⟨(n - 1).toNat, by omega⟩
  subst hX
  refine word_Power_go _ ?_
  unfold word_Power_m
  have e1 : maxI 1 (minI ((X : Int) + 1) 4611686018427387904) = (X : Int) + 1 := by unfold minI maxI; split <;> split <;> omega
  rw [e1, wI64 (n := (X : Int) + 1 - 1) (by omega) (by omega), wU64' (n := (X : Int) + 1 - 1) (by omega) (by omega), show (X : Int) + 1 - 1 = (X : Int) by omega]
  refine Rets.mono (wdLogS (X := X) (by omega) h) ?_
  rintro _ w ⟨⟨i, rfl, hi, h0, h1⟩, h⟩
  refine ⟨_, rfl, ?_⟩
  rw [wI64 (n := (i : Int) - 1 + 1) (by omega) (by omega), show (i : Int) - 1 + 1 = (i : Int) by omega]
  have hok : pwS ((X : Int) + 1) i := by
    have l1 : X < 2 ^ i := Nat.lt_of_div_eq_zero (Nat.pow_pos (by omega)) h0
    by_cases hi0 : i = 0
    · subst hi0
      simp at l1; subst l1
      exact ⟨by decide, by decide⟩
    · have h1 : X / 2 ^ (i - 1) ≠ 0 := by rcases h1 with h1 | h1; exact absurd h1 hi0; exact h1
      have l2 : 2 ^ (i - 1) ≤ X := by
        refine Nat.le_of_not_lt fun hlt => h1 (Nat.div_eq_of_lt hlt)
      have e2 : 2 ^ i = 2 ^ (i - 1) * 2 := by rw [← Nat.pow_succ]; congr 1; omega
      exact ⟨by omega, by omega⟩
  have hs := hok.small (by omega)
  obtain ⟨q1, q2⟩ := p12 hs
  refine ⟨by omega, ⟨i, ?_, hok⟩, h⟩
  have e3 : shlI IntKind.i64 1 (i : Int) = ((2 ^ i : Nat) : Int) := by
    unfold shlI
    have e4 : min (i : Int).toNat IntKind.i64.bits = i := by
      rw [Int.toNat_natCast]; exact Nat.min_eq_left (by show i ≤ 64; omega)
    rw [e4, Int.one_mul, show (2 : Int) ^ i = ((2 ^ i : Nat) : Int) from by rw [Int.natCast_pow]; rfl]
    exact wI64 (by omega) (by omega)
  rw [e3]
theorem rfPowerS (hn : 1 ≤ n ∧ n ≤ 4096) (h : Own e w F) : Rets Tryz.prog 76 #[.int .i64 n] w fun v w' => (∃ m : Nat, v = .int .i64 ((2 ^ m : Nat) : Int) ∧ pwS n m) ∧ Own e w' F := by
  refine cortadoref01_Power_go _ ⟨fun m vs w => ∃ i : Nat, vs = [.int .i64 ((2 ^ i : Nat) : Int), .int .i64 (i : Int)] ∧ m + i = 62 ∧ (i = 0 ∨ ((2 ^ (i - 1) : Nat) : Int) < n) ∧ Own e w F, ⟨62, 0, rfl, rfl, .inl rfl, h⟩, ?_⟩
  clear h
  rintro m w n1 n2
  intros
  rename_i hI
  obtain ⟨i, hvs, hm, h0, h⟩ := hI
  obtain ⟨rfl, rfl⟩ : n1 = ((2 ^ i : Nat) : Int) ∧ n2 = (i : Int) := by simpa using hvs
  have hi20 : i ≤ 21 := by
    rcases h0 with h0 | h0
    · omega
    · refine Nat.le_of_not_lt fun hlt => ?_
      have : 2 ^ 21 ≤ 2 ^ (i - 1) := Nat.pow_le_pow_right (by omega) (by omega)
      have e : (2 : Nat) ^ 21 = 2097152 := rfl
      omega
  refine ⟨fun hc => ⟨fun hx => ?_, fun hx => ?_⟩, fun hc => ?_⟩
  · have hx := dec_t hx
    have e2 : 2 ^ (i + 1) = 2 ^ i * 2 := Nat.pow_succ _ _
    refine ⟨m - 1, by omega, i + 1, ?_, by omega, .inr (by simpa using hx), h⟩
    rw [wI64 (n := 2 * _) (by omega) (by omega), wI64 (n := (i : Int) + 1) (by omega) (by omega), e2]
    congr 2
    · congr 1; omega
  · have hx := dec_f hx
    refine ⟨⟨i, rfl, by omega, ?_⟩, h⟩
    rcases h0 with h0 | h0
    · subst h0; simp at hx; omega
    · have e2 : 2 ^ i = 2 ^ (i - 1) * 2 := by
        by_cases hi0 : i = 0
        · subst hi0; simp at hx; omega
        · rw [← Nat.pow_succ]; congr 1; omega
      omega
  · have hc := dec_f hc; omega
end
/-! ### Places -/
def skX (a b : Int) : Int := Go.bits BinOp.xor IntKind.u64 a b
def sdI (s : Int) (i : Nat) : Int := mixI (IntKind.wrap .u64 (IntKind.wrap .u64 (s + IntKind.wrap .u64 (i : Int)) + 1))
def plc (s : Int) (M : Nat) (h : Int) (i : Nat) : Nat := (mixI (skX h (sdI s i))).toNat % M
theorem plc_lt {s h : Int} {M i : Nat} (hM : 0 < M) : plc s M h i < M := Nat.mod_lt _ hM
abbrev skB (g a0 a1 a2 a3 : Nat) (s : Int) (M : Nat) : HP := blk g 137 [.pointer (some ⟨a0, 0, none⟩), .pointer (some ⟨a1, 0, none⟩), .pointer (some ⟨a2, 0, none⟩), .pointer (some ⟨a3, 0, none⟩), .int .u64 (sdI s 0), .int .u64 (sdI s 1), .int .u64 (sdI s 2), .int .u64 (sdI s 3), .int .i64 (M : Int)]
section
variable {e w : World} {F : List HP} {s hh : Int} {g a0 a1 a2 a3 m : Nat}
theorem skPlace {i : Nat} (hi : i < 4) (hm12 : m ≤ 12) (hm1 : ∀ w, Own e w F → RdC w mixQ mixC) (h : Own e w (skB g a0 a1 a2 a3 s (2 ^ m) :: F)) :
    Rets Tryz.prog 90 #[.pointer (some ⟨g, 0, none⟩), .int .u64 hh, .int .i64 (i : Int)] w fun v w' => v = .int .i64 (plc s (2 ^ m) hh i : Int) ∧ Own e w' (skB g a0 a1 a2 a3 s (2 ^ m) :: F) := by
  obtain ⟨p1, p2⟩ := p12 hm12
  have hpl := plc_lt (s := s) (h := hh) (i := i) p1
  have ea : plc s (2 ^ m) hh i = (mixI (skX hh (sdI s i))).toNat % 2 ^ m := rfl
  have rd : ∀ w, Own e w (skB g a0 a1 a2 a3 s (2 ^ m) :: F) → World.cell? w (((⟨g, 0, none⟩ : Addr).add 4).add (Int.toNat (i : Int) * 1)) = some (.int .u64 (sdI s i)) := fun w h => by
    obtain rfl | rfl | rfl | rfl : i = 0 ∨ i = 1 ∨ i = 2 ∨ i = 3 := by omega
    · exact Own.ld (g := g) (k := 4) h (by repeat (first | with_reducible exact Pick.here | apply Pick.there)) rfl
    · exact Own.ld (g := g) (k := 5) h (by repeat (first | with_reducible exact Pick.here | apply Pick.there)) rfl
    · exact Own.ld (g := g) (k := 6) h (by repeat (first | with_reducible exact Pick.here | apply Pick.there)) rfl
    · exact Own.ld (g := g) (k := 7) h (by repeat (first | with_reducible exact Pick.here | apply Pick.there)) rfl
  refine sketch_Sketch_Place_go _ _ _ ⟨fun _ => ⟨fun _ => ⟨fun hc => ?_, fun _ => ?_⟩, fun hc => ?_⟩, fun hc => (by cases hc)⟩
  · have := dec_t hc; omega
  · refine h.drw fun w h => ⟨fun w => Own e w (skB g a0 a1 a2 a3 s (2 ^ m) :: F), h, by omega, by omega, _, rd, _, fun w h => Own.ld (g := g) (k := 8) h (by repeat (first | with_reducible exact Pick.here | apply Pick.there)) rfl, ?_⟩
    refine Rets.mono (mxMix (x := skX hh (sdI s i)) h (fun w h => hm1 w h.drop)) ?_
    clear h rd
    rintro _ w ⟨rfl, h⟩
    refine ⟨_, rfl, h, ?_, h⟩
    obtain ⟨X, hX⟩ := Int.eq_ofNat_of_zero_le (mixI_M64 (skX hh (sdI s i))).1
    have hXl := (mixI_M64 (skX hh (sdI s i))).2
    rw [hX] at hXl ea ⊢
    rw [Int.toNat_natCast] at ea
    obtain ⟨M, hM⟩ : ∃ M, M = 2 ^ m := ⟨_, rfl⟩
    have e1 : IntKind.wrap .u64 (IntKind.wrap .i64 (((2 ^ m : Nat) : Int) - 1)) = ((2 ^ m - 1 : Nat) : Int) := by
      rw [← hM] at p1 p2 ⊢
      rw [wI64 (by omega) (by omega), wU64' (by omega) (by omega)]; omega
    rw [e1, N_and (by omega) (by omega), Nat.and_two_pow_sub_one_eq_mod, ← ea, wI64 (by omega) (by omega)]
  · have := dec_t hc; omega
end
theorem getP4 {a : Nat → Nat} {i : Nat} (h : i < 4) : List.get?Internal (Array.toList #[Value.pointer (some ⟨a 0, 0, none⟩), Value.pointer (some ⟨a 1, 0, none⟩), Value.pointer (some ⟨a 2, 0, none⟩), Value.pointer (some ⟨a 3, 0, none⟩)]) (Int.toNat (i : Int)) = some (Value.pointer (some ⟨a i, 0, none⟩)) := by
  obtain rfl | rfl | rfl | rfl : i = 0 ∨ i = 1 ∨ i = 2 ∨ i = 3 := by omega
  all_goals rfl
theorem Own.take4 {e w : World} {F : List HP} {B : HP} {r : Nat → HP} {i : Nat} (hi : i < 4) (h : Own e w (B :: r 0 :: r 1 :: r 2 :: r 3 :: F)) :
    ∃ G : List HP, Own e w (r i :: G) ∧ ∀ (A : HP) w', Own e w' (A :: G) → Own e w' (B :: (if 0 = i then A else r 0) :: (if 1 = i then A else r 1) :: (if 2 = i then A else r 2) :: (if 3 = i then A else r 3) :: F) := by
  obtain rfl | rfl | rfl | rfl : i = 0 ∨ i = 1 ∨ i = 2 ∨ i = 3 := by omega
  · refine ⟨B :: r 1 :: r 2 :: r 3 :: F, (Own.sub (h) (by repeat (first | with_reducible exact Sub.nil _ | with_reducible exact Sub.rfl _ | (apply Sub.cons; focus ((repeat (first | with_reducible exact Pick.here | apply Pick.there)); done)) | apply Sub.drop))), fun A w' h => ?_⟩
    have h : Own e w' (B :: A :: r 1 :: r 2 :: r 3 :: F) := (Own.sub (h) (by repeat (first | with_reducible exact Sub.nil _ | with_reducible exact Sub.rfl _ | (apply Sub.cons; focus ((repeat (first | with_reducible exact Pick.here | apply Pick.there)); done)) | apply Sub.drop)))
    simpa using h
  · refine ⟨B :: r 0 :: r 2 :: r 3 :: F, (Own.sub (h) (by repeat (first | with_reducible exact Sub.nil _ | with_reducible exact Sub.rfl _ | (apply Sub.cons; focus ((repeat (first | with_reducible exact Pick.here | apply Pick.there)); done)) | apply Sub.drop))), fun A w' h => ?_⟩
    have h : Own e w' (B :: r 0 :: A :: r 2 :: r 3 :: F) := (Own.sub (h) (by repeat (first | with_reducible exact Sub.nil _ | with_reducible exact Sub.rfl _ | (apply Sub.cons; focus ((repeat (first | with_reducible exact Pick.here | apply Pick.there)); done)) | apply Sub.drop)))
    simpa using h
  · refine ⟨B :: r 0 :: r 1 :: r 3 :: F, (Own.sub (h) (by repeat (first | with_reducible exact Sub.nil _ | with_reducible exact Sub.rfl _ | (apply Sub.cons; focus ((repeat (first | with_reducible exact Pick.here | apply Pick.there)); done)) | apply Sub.drop))), fun A w' h => ?_⟩
    have h : Own e w' (B :: r 0 :: r 1 :: A :: r 3 :: F) := (Own.sub (h) (by repeat (first | with_reducible exact Sub.nil _ | with_reducible exact Sub.rfl _ | (apply Sub.cons; focus ((repeat (first | with_reducible exact Pick.here | apply Pick.there)); done)) | apply Sub.drop)))
    simpa using h
  · refine ⟨B :: r 0 :: r 1 :: r 2 :: F, (Own.sub (h) (by repeat (first | with_reducible exact Sub.nil _ | with_reducible exact Sub.rfl _ | (apply Sub.cons; focus ((repeat (first | with_reducible exact Pick.here | apply Pick.there)); done)) | apply Sub.drop))), fun A w' h => ?_⟩
    have h : Own e w' (B :: r 0 :: r 1 :: r 2 :: A :: F) := (Own.sub (h) (by repeat (first | with_reducible exact Sub.nil _ | with_reducible exact Sub.rfl _ | (apply Sub.cons; focus ((repeat (first | with_reducible exact Pick.here | apply Pick.there)); done)) | apply Sub.drop)))
    simpa using h
/-- Rows that are done with, and others. -/
def upR (R R' : Nat → List Nat) (i j : Nat) : List Nat := if j < i then R' j else R j
theorem upR_at (R R' : Nat → List Nat) (i : Nat) : upR R R' i i = R i := by unfold upR; rw [if_neg (by omega)]
theorem upR_step (a : Nat → Nat) (R R' : Nat → List Nat) (i j : Nat) : (if j = i then rowO (a i) (R' i) else rowO (a j) (upR R R' i j)) = rowO (a j) (upR R R' (i + 1) j) := by
  by_cases h : j = i
  · subst h; rw [if_pos rfl]; unfold upR; rw [if_pos (by omega)]
  · rw [if_neg h]; unfold upR
    by_cases h2 : j < i
    · rw [if_pos h2, if_pos (by omega)]
    · rw [if_neg h2, if_neg (by omega)]
def rowsOk (M : Nat) (R : Nat → List Nat) : Prop := ∀ j, nbOk (R j) ∧ (R j).length = M
def skO (g m : Nat) (s : Int) (R : Nat → List Nat) : HP := exH fun (a : Nat → Nat) => puH (m ≤ 12 ∧ rowsOk (2 ^ m) R) (allH [skB g (a 0) (a 1) (a 2) (a 3) s (2 ^ m), rowO (a 0) (R 0), rowO (a 1) (R 1), rowO (a 2) (R 2), rowO (a 3) (R 3)])
section
variable {e w : World} {F : List HP} {s hh : Int} {g m : Nat} {R : Nat → List Nat}
theorem skO.op (h : Own e w (skO g m s R :: F)) : ∃ a : Nat → Nat, (m ≤ 12 ∧ rowsOk (2 ^ m) R) ∧ Own e w (skB g (a 0) (a 1) (a 2) (a 3) s (2 ^ m) :: rowO (a 0) (R 0) :: rowO (a 1) (R 1) :: rowO (a 2) (R 2) :: rowO (a 3) (R 3) :: F) := by
  obtain ⟨a, h⟩ := h.ex
  obtain ⟨h1, h⟩ := h.pu
  exact ⟨a, h1, h.open_⟩
theorem skO.cl {a : Nat → Nat} (h1 : m ≤ 12 ∧ rowsOk (2 ^ m) R) (h : Own e w (skB g (a 0) (a 1) (a 2) (a 3) s (2 ^ m) :: rowO (a 0) (R 0) :: rowO (a 1) (R 1) :: rowO (a 2) (R 2) :: rowO (a 3) (R 3) :: F)) : Own e w (skO g m s R :: F) := by
  have h : Own e w ([skB g (a 0) (a 1) (a 2) (a 3) s (2 ^ m), rowO (a 0) (R 0), rowO (a 1) (R 1), rowO (a 2) (R 2), rowO (a 3) (R 3)] ++ F) := h
  exact Own.mkEx a (Own.mkPu h1 h.close_)
/-- One row is turned. -/
theorem skRow {a : Nat → Nat} {R' : Nat → List Nat} {i : Nat} (hi : i < 4) (h : Own e w (skB g (a 0) (a 1) (a 2) (a 3) s (2 ^ m) :: rowO (a 0) (upR R R' i 0) :: rowO (a 1) (upR R R' i 1) :: rowO (a 2) (upR R R' i 2) :: rowO (a 3) (upR R R' i 3) :: F)) :
    ∃ G, Own e w (rowO (a i) (R i) :: G) ∧ ∀ w', Own e w' (rowO (a i) (R' i) :: G) → Own e w' (skB g (a 0) (a 1) (a 2) (a 3) s (2 ^ m) :: rowO (a 0) (upR R R' (i + 1) 0) :: rowO (a 1) (upR R R' (i + 1) 1) :: rowO (a 2) (upR R R' (i + 1) 2) :: rowO (a 3) (upR R R' (i + 1) 3) :: F) := by
  obtain ⟨G, h1, h2⟩ := Own.take4 (r := fun j => rowO (a j) (upR R R' i j)) hi h
  have h1 : Own e w (rowO (a i) (upR R R' i i) :: G) := h1
  rw [upR_at] at h1
  refine ⟨G, h1, fun w' h' => ?_⟩
  have := h2 _ w' h'
  simp only [upR_step] at this
  exact this
theorem skHalve (h : Own e w (skO g m s R :: F)) : Rets Tryz.prog 128 #[.pointer (some ⟨g, 0, none⟩)] w fun v w' => v = .tuple #[] ∧ Own e w' (skO g m s (fun j => ngHalve (R j)) :: F) := by
  obtain ⟨a, ⟨hm, hR⟩, h⟩ := skO.op h
  obtain ⟨p1, p2⟩ := p12 hm
  refine sketch_Sketch_Halve_go _ ⟨fun hc => (by cases hc), fun _ => ⟨_, _, _, _, ⟨Own.ld (g := g) (k := 0) h (by repeat (first | with_reducible exact Pick.here | apply Pick.there)) rfl, Own.ld (g := g) (k := 1) h (by repeat (first | with_reducible exact Pick.here | apply Pick.there)) rfl, Own.ld (g := g) (k := 2) h (by repeat (first | with_reducible exact Pick.here | apply Pick.there)) rfl, Own.ld (g := g) (k := 3) h (by repeat (first | with_reducible exact Pick.here | apply Pick.there)) rfl⟩, ?_⟩⟩
  obtain ⟨R', hR'⟩ : ∃ R' : Nat → List Nat, R' = fun j => ngHalve (R j) := ⟨_, rfl⟩
  have hok' : rowsOk (2 ^ m) R' := fun j => by
    rw [hR']
    refine ⟨fun x hx => ?_, by simp [ngHalve, (hR j).2]⟩
    obtain ⟨y, hy, rfl⟩ := List.mem_map.1 hx
    have := (hR j).1 y hy
    omega
  rw [← hR']
  refine ⟨fun k vs w => ∃ i : Nat, vs = [.int .i64 (i : Int)] ∧ k + i = 4 ∧ Own e w (skB g (a 0) (a 1) (a 2) (a 3) s (2 ^ m) :: rowO (a 0) (upR R R' i 0) :: rowO (a 1) (upR R R' i 1) :: rowO (a 2) (upR R R' i 2) :: rowO (a 3) (upR R R' i 3) :: F), ⟨4, 0, rfl, rfl, h⟩, ?_⟩
  clear h
  rintro k w v1 n1
  intros
  rename_i hI
  obtain ⟨i, hvs, hk, h⟩ := hI
  obtain rfl : n1 = (i : Int) := by simpa using hvs
  refine ⟨fun hc => ?_, fun hc => ?_⟩
  · have hc := dec_t hc
    have hi : i < 4 := by omega
    obtain ⟨G, h, back⟩ := skRow hi h
    refine ⟨by omega, by omega, _, getP4 hi, ?_⟩
    refine Rets.mono (nHalve_spec h (hR i).1 (by rw [(hR i).2]; omega)) ?_
    clear h
    rintro _ w ⟨rfl, h⟩
    exact ⟨rfl, k - 1, by omega, i + 1, by rw [wI64 (by omega) (by omega)]; rfl, by omega, back w (by rw [hR']; exact h)⟩
  · have hc := dec_f hc
    obtain rfl : i = 4 := by omega
    exact ⟨rfl, skO.cl ⟨hm, hok'⟩ h⟩
theorem skAdd (hm1 : ∀ w, Own e w F → RdC w mixQ mixC) (h : Own e w (skO g m s R :: F)) : Rets Tryz.prog 107 #[.pointer (some ⟨g, 0, none⟩), .int .u64 hh] w fun v w' => v = .tuple #[] ∧ Own e w' (skO g m s (fun j => ngAdd (R j) (plc s (2 ^ m) hh j : Int)) :: F) := by
  obtain ⟨a, ⟨hm, hR⟩, h⟩ := skO.op h
  obtain ⟨p1, p2⟩ := p12 hm
  refine sketch_Sketch_Add_go _ _ ⟨fun hc => (by cases hc), fun _ => ⟨_, _, _, _, ⟨Own.ld (g := g) (k := 0) h (by repeat (first | with_reducible exact Pick.here | apply Pick.there)) rfl, Own.ld (g := g) (k := 1) h (by repeat (first | with_reducible exact Pick.here | apply Pick.there)) rfl, Own.ld (g := g) (k := 2) h (by repeat (first | with_reducible exact Pick.here | apply Pick.there)) rfl, Own.ld (g := g) (k := 3) h (by repeat (first | with_reducible exact Pick.here | apply Pick.there)) rfl⟩, ?_⟩⟩
  obtain ⟨R', hR'⟩ : ∃ R' : Nat → List Nat, R' = fun j => ngAdd (R j) (plc s (2 ^ m) hh j : Int) := ⟨_, rfl⟩
  have hok' : rowsOk (2 ^ m) R' := fun j => by
    rw [hR']
    exact ⟨ngAdd_ok (hR j).1 _, by simp [ngAdd_len, (hR j).2]⟩
  rw [← hR']
  refine ⟨fun k vs w => ∃ i : Nat, vs = [.int .i64 (i : Int)] ∧ k + i = 4 ∧ Own e w (skB g (a 0) (a 1) (a 2) (a 3) s (2 ^ m) :: rowO (a 0) (upR R R' i 0) :: rowO (a 1) (upR R R' i 1) :: rowO (a 2) (upR R R' i 2) :: rowO (a 3) (upR R R' i 3) :: F), ⟨4, 0, rfl, rfl, h⟩, ?_⟩
  clear h
  rintro k w v1 v2 n1
  intros
  rename_i hI
  obtain ⟨i, hvs, hk, h⟩ := hI
  obtain rfl : n1 = (i : Int) := by simpa using hvs
  refine ⟨fun hc => ?_, fun hc => ?_⟩
  · have hc := dec_t hc
    have hi : i < 4 := by omega
    refine ⟨by omega, by omega, _, getP4 hi, ?_⟩
    refine Rets.mono (skPlace hi hm (fun w h => hm1 w h.drop.drop.drop.drop) h) ?_
    clear h
    rintro _ w ⟨rfl, h⟩
    obtain ⟨G, h, back⟩ := skRow hi h
    refine ⟨_, rfl, ?_⟩
    refine Rets.mono (nAdd_spec h (hR i).1 (by rw [(hR i).2]; omega)) ?_
    clear h
    rintro _ w ⟨rfl, h⟩
    exact ⟨_, rfl, k - 1, by omega, i + 1, by rw [wI64 (by omega) (by omega)]; rfl, by omega, back w (by rw [hR']; exact h)⟩
  · have hc := dec_f hc
    obtain rfl : i = 4 := by omega
    exact ⟨rfl, skO.cl ⟨hm, hok'⟩ h⟩
/-- The least of so many rows. -/
def cuN (s : Int) (M : Nat) (hh : Int) (R : Nat → List Nat) : Nat → Nat
  | 0 => 15
  | i + 1 => min (cuN s M hh R i) (ngGet (R i) (plc s M hh i : Int))
theorem minN (a b : Nat) : minI (a : Int) (b : Int) = ((min a b : Nat) : Int) := by unfold minI; split <;> omega
theorem upR_same (R : Nat → List Nat) (i j : Nat) : upR R R i j = R j := by unfold upR; split <;> rfl
theorem skCount (hm1 : ∀ w, Own e w F → RdC w mixQ mixC) (h : Own e w (skO g m s R :: F)) : Rets Tryz.prog 62 #[.pointer (some ⟨g, 0, none⟩), .int .u64 hh] w fun v w' => v = .int .i64 (cuN s (2 ^ m) hh R 4 : Int) ∧ Own e w' (skO g m s R :: F) := by
  obtain ⟨a, ⟨hm, hR⟩, h⟩ := skO.op h
  obtain ⟨p1, p2⟩ := p12 hm
  refine sketch_Sketch_Count_go _ _ ⟨fun hc => (by cases hc), fun _ => ⟨_, _, _, _, ⟨Own.ld (g := g) (k := 0) h (by repeat (first | with_reducible exact Pick.here | apply Pick.there)) rfl, Own.ld (g := g) (k := 1) h (by repeat (first | with_reducible exact Pick.here | apply Pick.there)) rfl, Own.ld (g := g) (k := 2) h (by repeat (first | with_reducible exact Pick.here | apply Pick.there)) rfl, Own.ld (g := g) (k := 3) h (by repeat (first | with_reducible exact Pick.here | apply Pick.there)) rfl⟩, ?_⟩⟩
  refine ⟨fun k vs w => ∃ i : Nat, vs = [.int .i64 (cuN s (2 ^ m) hh R i : Int), .int .i64 (i : Int)] ∧ k + i = 4 ∧ Own e w (skB g (a 0) (a 1) (a 2) (a 3) s (2 ^ m) :: rowO (a 0) (R 0) :: rowO (a 1) (R 1) :: rowO (a 2) (R 2) :: rowO (a 3) (R 3) :: F), ⟨4, 0, rfl, rfl, h⟩, ?_⟩
  clear h
  rintro k w n1 v1 v2 n2
  intros
  rename_i hI
  obtain ⟨i, hvs, hk, h⟩ := hI
  obtain ⟨rfl, rfl⟩ : n1 = (cuN s (2 ^ m) hh R i : Int) ∧ n2 = (i : Int) := by simpa using hvs
  refine ⟨fun hc => ?_, fun hc => ?_⟩
  · have hc := dec_t hc
    have hi : i < 4 := by omega
    refine ⟨by omega, by omega, _, getP4 hi, ?_⟩
    refine Rets.mono (skPlace hi hm (fun w h => hm1 w h.drop.drop.drop.drop) h) ?_
    clear h
    rintro _ w ⟨rfl, h⟩
    have h : Own e w (skB g (a 0) (a 1) (a 2) (a 3) s (2 ^ m) :: rowO (a 0) (upR R R i 0) :: rowO (a 1) (upR R R i 1) :: rowO (a 2) (upR R R i 2) :: rowO (a 3) (upR R R i 3) :: F) := by
      simp only [upR_same]; exact h
    obtain ⟨G, h, back⟩ := skRow hi h
    refine ⟨_, rfl, ?_⟩
    refine Rets.mono (nGet_spec h (hR i).1 (by rw [(hR i).2]; omega)) ?_
    clear h
    rintro _ w ⟨rfl, h⟩
    have h := back w h
    simp only [upR_same] at h
    refine ⟨_, rfl, k - 1, by omega, i + 1, ?_, by omega, h⟩
    rw [wI64 (by omega) (by omega), minN]
    rfl
  · have hc := dec_f hc
    obtain rfl : i = 4 := by omega
    exact ⟨rfl, skO.cl ⟨hm, hR⟩ h⟩
/-! ### A new one -/
def ptN (a : Nat → Nat) (i j : Nat) : Value := if j < i then .pointer (some ⟨a j, 0, none⟩) else .pointer none
def sdN (s : Int) (i j : Nat) : Value := if j < i then .int .u64 (sdI s j) else .int .u64 0
def skC (a : Nat → Nat) (s : Int) (M i : Nat) : List Value := [ptN a i 0, ptN a i 1, ptN a i 2, ptN a i 3, sdN s i 0, sdN s i 1, sdN s i 2, sdN s i 3, .int .i64 (M : Int)]
def rws (a : Nat → Nat) (M : Nat) : Nat → List HP
  | 0 => []
  | i + 1 => rowO (a i) (List.replicate M 0) :: rws a M i
def putA (a : Nat → Nat) (i g : Nat) : Nat → Nat := fun j => if j = i then g else a j
theorem rws_put (a : Nat → Nat) (M g : Nat) (i : Nat) : ∀ k, k ≤ i → rws (putA a i g) M k = rws a M k
  | 0, _ => rfl
  | k + 1, hk => by
    unfold rws
    rw [rws_put a M g i k (by omega)]
    unfold putA
    rw [if_neg (by omega)]
theorem skC_put {a : Nat → Nat} {M g' i : Nat} (hi : i < 4) : setFrom (setFrom (skC a s M i) i [.pointer (some ⟨g', 0, none⟩)]) (4 + i) [.int .u64 (sdI s i)] = skC (putA a i g') s M (i + 1) := by
  obtain rfl | rfl | rfl | rfl : i = 0 ∨ i = 1 ∨ i = 2 ∨ i = 3 := by omega
  all_goals rfl
theorem skC_len (a : Nat → Nat) (M i : Nat) : (skC a s M i).length = 9 := rfl
theorem skNew {n : Int} (hm1 : ∀ w, Own e w F → RdC w mixQ mixC) (h : Own e w F) : Rets Tryz.prog 46 #[.int .i64 n, .int .u64 s] w fun v w' => ∃ g m, v = .pointer (some ⟨g, 0, none⟩) ∧ pwS (maxI 1 (minI n 4096)) m ∧ Own e w' (skO g m s (fun _ => List.replicate (2 ^ m) 0) :: F) := by
  have hn : 1 ≤ maxI 1 (minI n 4096) ∧ maxI 1 (minI n 4096) ≤ 4096 := by unfold maxI minI; split <;> split <;> omega
  refine sketch_New_go _ _ ?_
  refine Rets.mono (wdPowerS hn h) ?_
  clear h
  rintro _ w ⟨⟨m, rfl, hok⟩, h⟩
  have hm := hok.small hn.2
  obtain ⟨p1, p2⟩ := p12 hm
  obtain ⟨M, hM⟩ : ∃ M, M = 2 ^ m := ⟨_, rfl⟩
  refine ⟨_, rfl, h.newR fun g w h => ?_⟩
  rw [← hM] at h p1 p2
  refine ⟨fun k vs w => ∃ (i : Nat) (a : Nat → Nat), vs = [.int .i64 (i : Int)] ∧ k + i = 4 ∧ Own e w (blk g 137 (skC a s M i) :: (rws a M i ++ F)), ⟨4, 0, fun _ => 0, rfl, rfl, h⟩, ?_⟩
  clear h
  rintro k w v2 n2
  intros
  rename_i hI
  obtain ⟨i, a, hvs, hk, h⟩ := hI
  obtain rfl : n2 = (i : Int) := by simpa using hvs
  have dropR : ∀ k w, Own e w (rws a M k ++ F) → Own e w F := fun k => by
    induction k with
    | zero => exact fun w h => h
    | succ k ih => exact fun w h => ih w (Own.drop h)
  refine ⟨fun hc => ?_, fun hc => ?_⟩
  · have hc := dec_t hc
    have hi : i < 4 := by omega
    refine h.drw fun w h => ⟨(M : Int), h.cellAdd 8 rfl, ?_⟩
    refine Rets.mono (nNew_spec (N := M) h (by omega)) ?_
    clear h
    rintro _ w ⟨g', rfl, h⟩
    refine ⟨_, rfl, by omega, by omega, ?_⟩
    rw [Int.toNat_natCast, Nat.mul_one, addr_add_add, Nat.zero_add]
    refine h.swap.store (by rw [skC_len]; simp; omega) (by simp [Value.oneCell']) fun w h => h.drw fun w h => ?_
    refine Rets.mono (mxMix (x := IntKind.wrap .u64 (IntKind.wrap .u64 (s + IntKind.wrap .u64 (i : Int)) + 1)) h (fun w h => hm1 w (dropR i w h.drop.drop))) ?_
    clear h
    rintro _ w ⟨rfl, h⟩
    refine ⟨_, rfl, by omega, by omega, ?_⟩
    rw [addr_add_add]
    refine h.store (by rw [setFrom_length, skC_len]; simp; omega) (by simp [Value.oneCell']) fun w h => ⟨k - 1, by omega, i + 1, putA a i g', by rw [wI64 (by omega) (by omega)]; rfl, by omega, ?_⟩
    have e1 := skC_put (s := s) (a := a) (M := M) (g' := g') hi
    rw [← e1]
    unfold rws
    rw [rws_put a M g' i i (Nat.le_refl _)]
    have e2 : putA a i g' i = g' := by unfold putA; rw [if_pos rfl]
    rw [e2]
    exact h
  · have hc := dec_f hc
    obtain rfl : i = 4 := by omega
    subst hM
    refine ⟨g, m, rfl, hok, skO.cl (a := a) ⟨hm, fun j => ⟨nbOk_zero _, by simp⟩⟩ ?_⟩
    have h : Own e w (skB g (a 0) (a 1) (a 2) (a 3) s (2 ^ m) :: rowO (a 3) (List.replicate (2 ^ m) 0) :: rowO (a 2) (List.replicate (2 ^ m) 0) :: rowO (a 1) (List.replicate (2 ^ m) 0) :: rowO (a 0) (List.replicate (2 ^ m) 0) :: F) := h
    exact (Own.sub (h) (by repeat (first | with_reducible exact Sub.nil _ | with_reducible exact Sub.rfl _ | (apply Sub.cons; focus ((repeat (first | with_reducible exact Pick.here | apply Pick.there)); done)) | apply Sub.drop)))
end
/-- The least of so many rows, whatever the places. -/
def cuG (P : Nat → Nat) (R : Nat → List Nat) : Nat → Nat
  | 0 => 15
  | i + 1 => min (cuG P R i) (ngGet (R i) (P i : Int))
theorem cuG_le (P : Nat → Nat) (R : Nat → List Nat) : ∀ i, cuG P R i ≤ 15
  | 0 => Nat.le_refl _
  | i + 1 => Nat.le_trans (Nat.min_le_left _ _) (cuG_le P R i)
theorem cuG_zero (P : Nat → Nat) (n : Nat) : cuG P (fun _ => List.replicate n 0) 4 = 0 := by
  simp [cuG, ngGet_zero]
theorem cuN_eq (s : Int) (M : Nat) (x : Int) (R : Nat → List Nat) : ∀ i, cuN s M x R i = cuG (plc s M x) R i
  | 0 => rfl
  | i + 1 => by
    unfold cuN cuG
    rw [cuN_eq s M x R i]
section
variable {s x o : Int} {M : Nat} {ws : List Nat}
theorem has_zero (s x : Int) (M n : Nat) : hasB s x M (List.replicate n 0) = false := by
  have hb := bitsOf.nil s M n
  rw [Bool.eq_false_iff]; intro hh
  have := (hb _).1 (hasB_iff.1 hh 0 (by decide))
  obtain ⟨k, hk, _⟩ := this
  cases hk
end
/-- How often a key is thought to come. -/
def esG (c : Nat) (b : Bool) : Nat := c + if b = true then 1 else 0
theorem esG_le {c : Nat} {b : Bool} (h : c ≤ 15) : esG c b ≤ 16 := by unfold esG; split <;> omega
def esN (s : Int) (M MD : Nat) (R : Nat → List Nat) (ws : List Nat) (x : Int) : Nat := esG (cuG (plc s M x) R 4) (hasB (mixI s) x MD ws)
/-- What adding does to the rows. -/
def adR (s : Int) (M MD : Nat) (R : Nat → List Nat) (ws : List Nat) (x : Int) : Nat → List Nat := if hasB (mixI s) x MD ws = true then fun j => ngAdd (R j) (plc s M x j : Int) else R
section
variable {s x o : Int} {M MD : Nat} {R : Nat → List Nat} {ws : List Nat}
theorem adR_ok (hR : rowsOk M R) : rowsOk M (adR s M MD R ws x) := fun j => by
  unfold adR
  split
  · exact ⟨ngAdd_ok (hR j).1 _, by rw [ngAdd_len]; exact (hR j).2⟩
  · exact hR j
theorem es_le (R : Nat → List Nat) : esN s M MD R ws x ≤ 16 := esG_le (cuG_le _ _ _)
theorem es_zero (s : Int) (M MD n k : Nat) (x : Int) : esN s M MD (fun _ => List.replicate n 0) (List.replicate k 0) x = 0 := by
  unfold esN
  rw [has_zero, cuG_zero]; rfl
end
abbrev tinB (g gs gd : Nat) (ct lim ag : Int) : HP := blk g 111 [.pointer (some ⟨gs, 0, none⟩), .pointer (some ⟨gd, 0, none⟩), .int .i64 ct, .int .i64 lim, .int .i64 ag]
/-- A tiny: its sketch, its door, three numbers. -/
def tinO (g m md : Nat) (s : Int) (R : Nat → List Nat) (ws : List Nat) (ct lim ag : Int) : HP := exH fun (p : Nat × Nat) => puH (ws.length = (2 ^ md + 63) / 64 ∧ md ≤ 20 ∧ m ≤ 12 ∧ rowsOk (2 ^ m) R) (allH [tinB g p.1 p.2 ct lim ag, skO p.1 m s R, dorO p.2 md (mixI s) ws])
section
variable {e w : World} {F : List HP} {n s hh ct lim ag : Int} {g m md : Nat} {R : Nat → List Nat} {ws : List Nat}
theorem tinO.op (h : Own e w (tinO g m md s R ws ct lim ag :: F)) : ∃ gs gd, (ws.length = (2 ^ md + 63) / 64 ∧ md ≤ 20 ∧ m ≤ 12 ∧ rowsOk (2 ^ m) R) ∧ Own e w (tinB g gs gd ct lim ag :: skO gs m s R :: dorO gd md (mixI s) ws :: F) := by
  obtain ⟨⟨gs, gd⟩, h⟩ := h.ex
  obtain ⟨h1, h⟩ := h.pu
  exact ⟨gs, gd, h1, h.open_⟩
theorem tinO.cl {gs gd : Nat} (h : Own e w (tinB g gs gd ct lim ag :: skO gs m s R :: dorO gd md (mixI s) ws :: F)) : Own e w (tinO g m md s R ws ct lim ag :: F) := by
  have h1 : Own e w (skO gs m s R :: tinB g gs gd ct lim ag :: dorO gd md (mixI s) ws :: F) := h.swap
  obtain ⟨_, ⟨hm, hR⟩, _⟩ := skO.op h1
  have h2 : Own e w (dorO gd md (mixI s) ws :: tinB g gs gd ct lim ag :: skO gs m s R :: F) := (Own.sub (h) (by repeat (first | with_reducible exact Sub.nil _ | with_reducible exact Sub.rfl _ | (apply Sub.cons; focus ((repeat (first | with_reducible exact Pick.here | apply Pick.there)); done)) | apply Sub.drop)))
  obtain ⟨_, ⟨hl, _, hmd, _⟩, _⟩ := dorO.op h2
  have h : Own e w ([tinB g gs gd ct lim ag, skO gs m s R, dorO gd md (mixI s) ws] ++ F) := h
  exact Own.mkEx (P := fun (p : Nat × Nat) => puH (ws.length = (2 ^ md + 63) / 64 ∧ md ≤ 20 ∧ m ≤ 12 ∧ rowsOk (2 ^ m) R) (allH [tinB g p.1 p.2 ct lim ag, skO p.1 m s R, dorO p.2 md (mixI s) ws])) (gs, gd) (Own.mkPu ⟨hl, hmd, hm, hR⟩ h.close_)
theorem drClear {gd : Nat} (h : Own e w (dorO gd md s ws :: F)) : Rets Tryz.prog 88 #[.pointer (some ⟨gd, 0, none⟩)] w fun v w' => v = .tuple #[] ∧ Own e w' (dorO gd md s (List.replicate ws.length 0) :: F) := by
  obtain ⟨q, h1, h⟩ := dorO.op h
  obtain ⟨hl, hsm, hm20, hM⟩ := h1
  refine door_Door_Clear_go _ ⟨fun _ => ⟨_, _, _, (Own.ld h (by repeat (first | with_reducible exact Pick.here | apply Pick.there)) (by rfl)), ?_⟩, fun hc => (by cases hc)⟩
  refine Own.clear (z := .int .u64 0) h.swap (by kernel_rfl) (by kernel_rfl) rfl fun w h => ⟨rfl, rfl, ?_⟩
  refine dorO.cl (q := q) ⟨by rw [List.length_replicate]; exact hl, fun x hx => by rw [List.eq_of_mem_replicate hx]; omega, hm20, hM⟩ ?_
  rw [List.length_replicate]
  have e2 : wsC (List.replicate ws.length 0) = List.replicate ws.length (.int .u64 0) := by simp [cs]
  rw [wsB, e2]
  exact h.swap
theorem tAge (h : Own e w (tinO g m md s R ws ct lim ag :: F)) : Rets Tryz.prog 108 #[.pointer (some ⟨g, 0, none⟩)] w fun v w' => v = .tuple #[] ∧ Own e w' (tinO g m md s (fun j => ngHalve (R j)) (List.replicate ws.length 0) 0 lim (IntKind.wrap .i64 (ag + 1)) :: F) := by
  obtain ⟨gs, gd, _, h⟩ := tinO.op h
  refine tiny_Tiny_age_go _ ⟨_, Own.ld (g := g) (k := 0) h (by repeat (first | with_reducible exact Pick.here | apply Pick.there)) rfl, ?_⟩
  have h : Own e w (skO gs m s R :: tinB g gs gd ct lim ag :: dorO gd md (mixI s) ws :: F) := h.swap
  refine Rets.mono (skHalve h) ?_
  clear h
  rintro _ w ⟨rfl, h⟩
  have h : Own e w (tinB g gs gd ct lim ag :: dorO gd md (mixI s) ws :: skO gs m s (fun j => ngHalve (R j)) :: F) := (Own.sub (h) (by repeat (first | with_reducible exact Sub.nil _ | with_reducible exact Sub.rfl _ | (apply Sub.cons; focus ((repeat (first | with_reducible exact Pick.here | apply Pick.there)); done)) | apply Sub.drop)))
  refine ⟨rfl, _, Own.ld (g := g) (k := 1) h (by repeat (first | with_reducible exact Pick.here | apply Pick.there)) rfl, ?_⟩
  refine Rets.mono (drClear h.swap) ?_
  clear h
  rintro _ w ⟨rfl, h⟩
  have h : Own e w (tinB g gs gd ct lim ag :: skO gs m s (fun j => ngHalve (R j)) :: dorO gd md (mixI s) (List.replicate ws.length 0) :: F) := (Own.sub (h) (by repeat (first | with_reducible exact Sub.nil _ | with_reducible exact Sub.rfl _ | (apply Sub.cons; focus ((repeat (first | with_reducible exact Pick.here | apply Pick.there)); done)) | apply Sub.drop)))
  refine ⟨rfl, Own.stP (g := g) (k := 2) h (by repeat (first | with_reducible exact Pick.here | apply Pick.there)) (by simp) (by simp [Value.oneCell']) fun w h => ?_⟩
  simp only [setFrom, List.set_cons_zero, List.set_cons_succ, List.set_nil] at h
  refine ⟨_, Own.ld (g := g) (k := 4) h (by repeat (first | with_reducible exact Pick.here | apply Pick.there)) rfl, Own.stP (g := g) (k := 4) h (by repeat (first | with_reducible exact Pick.here | apply Pick.there)) (by simp) (by simp [Value.oneCell']) fun w h => ⟨rfl, ?_⟩⟩
  simp only [setFrom, List.set_cons_zero, List.set_cons_succ, List.set_nil] at h
  exact tinO.cl h
theorem tEst (hm1 : ∀ w, Own e w F → RdC w mixQ mixC) (hm2 : ∀ w, Own e w F → RdC w twiQ twiC) (h : Own e w (tinO g m md s R ws ct lim ag :: F)) : Rets Tryz.prog 38 #[.pointer (some ⟨g, 0, none⟩), .int .u64 hh] w fun v w' => v = .int .i64 (esN s (2 ^ m) (2 ^ md) R ws hh : Int) ∧ Own e w' (tinO g m md s R ws ct lim ag :: F) := by
  obtain ⟨gs, gd, _, h⟩ := tinO.op h
  refine tiny_Tiny_Estimate_go _ _ ⟨fun hc => (by cases hc), fun _ => ⟨_, Own.ld (g := g) (k := 0) h (by repeat (first | with_reducible exact Pick.here | apply Pick.there)) rfl, ?_⟩⟩
  have h : Own e w (skO gs m s R :: tinB g gs gd ct lim ag :: dorO gd md (mixI s) ws :: F) := h.swap
  refine Rets.mono (skCount (hh := hh) (fun w h => hm1 w h.drop.drop) h) ?_
  clear h
  rintro _ w ⟨rfl, h⟩
  have h : Own e w (tinB g gs gd ct lim ag :: dorO gd md (mixI s) ws :: skO gs m s R :: F) := (Own.sub (h) (by repeat (first | with_reducible exact Sub.nil _ | with_reducible exact Sub.rfl _ | (apply Sub.cons; focus ((repeat (first | with_reducible exact Pick.here | apply Pick.there)); done)) | apply Sub.drop)))
  refine ⟨_, rfl, _, Own.ld (g := g) (k := 1) h (by repeat (first | with_reducible exact Pick.here | apply Pick.there)) rfl, ?_⟩
  refine Rets.mono (drHas (hh := hh) (fun w h => hm1 w h.drop.drop) (fun w h => hm2 w h.drop.drop) h.swap) ?_
  clear h
  rintro _ w ⟨rfl, h⟩
  have h : Own e w (tinB g gs gd ct lim ag :: skO gs m s R :: dorO gd md (mixI s) ws :: F) := (Own.sub (h) (by repeat (first | with_reducible exact Sub.nil _ | with_reducible exact Sub.rfl _ | (apply Sub.cons; focus ((repeat (first | with_reducible exact Pick.here | apply Pick.there)); done)) | apply Sub.drop)))
  have h := tinO.cl h
  have hle := cuG_le (plc s (2 ^ m) hh) R 4
  have ee : esN s (2 ^ m) (2 ^ md) R ws hh = esG (cuG (plc s (2 ^ m) hh) R 4) (hasB (mixI s) hh (2 ^ md) ws) := rfl
  rw [ee, cuN_eq]
  obtain ⟨c, hc⟩ : ∃ c, c = cuG (plc s (2 ^ m) hh) R 4 := ⟨_, rfl⟩
  rw [← hc] at hle ⊢
  refine ⟨_, rfl, fun hb => ⟨?_, h⟩, fun hb => ⟨?_, h⟩⟩
  · rw [hb, wI64 (by omega) (by omega)]; rfl
  · rw [hb]; rfl
theorem tSketchP {gs gd : Nat} (h : Own e w (tinB g gs gd ct lim ag :: F)) : Rets Tryz.prog 106 #[.pointer (some ⟨g, 0, none⟩)] w fun v w' => v = .pointer (some ⟨gs, 0, none⟩) ∧ Own e w' (tinB g gs gd ct lim ag :: F) := by
  exact tiny_Tiny_Sketch_go _ ⟨fun hc => (by cases hc), fun _ => ⟨_, Own.ld (g := g) (k := 0) h (by repeat (first | with_reducible exact Pick.here | apply Pick.there)) rfl, rfl, h⟩⟩
theorem tAdd (hm1 : ∀ w, Own e w F → RdC w mixQ mixC) (hm2 : ∀ w, Own e w F → RdC w twiQ twiC) (hct : 0 ≤ ct ∧ ct < lim ∧ lim ≤ 4096) (h : Own e w (tinO g m md s R ws ct lim ag :: F)) : Rets Tryz.prog 80 #[.pointer (some ⟨g, 0, none⟩), .int .u64 hh] w fun v w' => v = .tuple #[] ∧
    ((lim ≤ ct + 1 ∧ Own e w' (tinO g m md s (fun j => ngHalve (adR s (2 ^ m) (2 ^ md) R ws hh j)) (List.replicate ws.length 0) 0 lim (IntKind.wrap .i64 (ag + 1)) :: F)) ∨
     (ct + 1 < lim ∧ Own e w' (tinO g m md s (adR s (2 ^ m) (2 ^ md) R ws hh) (putB (mixI s) hh (2 ^ md) ws) (ct + 1) lim ag :: F))) := by
  obtain ⟨gs, gd, ⟨hl, hmd, _, _⟩, h⟩ := tinO.op h
  have hpl : (putB (mixI s) hh (2 ^ md) ws).length = ws.length := putB_len _ _ _ _
  refine tiny_Tiny_Add_go _ _ ⟨fun hc => (by cases hc), fun _ => ⟨_, Own.ld (g := g) (k := 1) h (by repeat (first | with_reducible exact Pick.here | apply Pick.there)) rfl, ?_⟩⟩
  have h : Own e w (dorO gd md (mixI s) ws :: tinB g gs gd ct lim ag :: skO gs m s R :: F) := (Own.sub (h) (by repeat (first | with_reducible exact Sub.nil _ | with_reducible exact Sub.rfl _ | (apply Sub.cons; focus ((repeat (first | with_reducible exact Pick.here | apply Pick.there)); done)) | apply Sub.drop)))
  refine Rets.mono (drPut (hh := hh) (fun w h => hm1 w h.drop.drop) (fun w h => hm2 w h.drop.drop) h) ?_
  clear h
  rintro _ w ⟨rfl, h⟩
  have h : Own e w (tinB g gs gd ct lim ag :: skO gs m s R :: dorO gd md (mixI s) (putB (mixI s) hh (2 ^ md) ws) :: F) := (Own.sub (h) (by repeat (first | with_reducible exact Sub.nil _ | with_reducible exact Sub.rfl _ | (apply Sub.cons; focus ((repeat (first | with_reducible exact Pick.here | apply Pick.there)); done)) | apply Sub.drop)))
  obtain ⟨R', hR'⟩ : ∃ R', R' = adR s (2 ^ m) (2 ^ md) R ws hh := ⟨_, rfl⟩
  obtain ⟨ws', hws⟩ : ∃ ws', ws' = putB (mixI s) hh (2 ^ md) ws := ⟨_, rfl⟩
  obtain ⟨b, hb⟩ : ∃ b, b = hasB (mixI s) hh (2 ^ md) ws := ⟨_, rfl⟩
  rw [← hws] at h hpl
  rw [← hR', ← hws, ← hb, ← hpl]
  have e1 : IntKind.wrap .i64 (ct + 1) = ct + 1 := wI64 (by omega) (by omega)
  refine ⟨_, rfl, fun hn => ?_, fun hn => ?_⟩
  · have hbt : b = true := by simpa using hn
    have eR : R' = fun j => ngAdd (R j) (plc s (2 ^ m) hh j : Int) := by rw [hR']; unfold adR; rw [← hb, if_pos hbt]
    refine Rets.mono (tSketchP h) ?_
    rintro _ w ⟨rfl, h⟩
    refine ⟨_, rfl, ?_⟩
    refine Rets.mono (skAdd (hh := hh) (fun w h => hm1 w h.drop.drop) h.swap) ?_
    clear h
    rintro _ w ⟨rfl, h⟩
    rw [← eR] at h
    have h := h.swap
    refine ⟨rfl, _, Own.ld (g := g) (k := 2) h (by repeat (first | with_reducible exact Pick.here | apply Pick.there)) rfl, Own.stP (g := g) (k := 2) h (by repeat (first | with_reducible exact Pick.here | apply Pick.there)) (by simp) (by simp [Value.oneCell']) fun w h => ?_⟩
    simp only [setFrom, List.set_cons_zero, List.set_cons_succ, List.set_nil] at h
    rw [e1] at h
    refine h.drw fun w h => ⟨_, Own.ld (g := g) (k := 2) h (by repeat (first | with_reducible exact Pick.here | apply Pick.there)) rfl, _, Own.ld (g := g) (k := 3) h (by repeat (first | with_reducible exact Pick.here | apply Pick.there)) rfl, fun hc => ?_, fun hc => ⟨rfl, .inr ⟨?_, tinO.cl h⟩⟩⟩
    · have hc := dec_t hc
      refine Rets.mono (tAge (tinO.cl h)) ?_
      rintro _ w ⟨rfl, h⟩
      exact ⟨rfl, rfl, .inl ⟨by omega, h⟩⟩
    · have hc := dec_f hc; omega
  · have hbf : b = false := by simpa using hn
    have eR : R' = R := by rw [hR']; unfold adR; rw [← hb, hbf]; rfl
    rw [eR]
    refine ⟨_, Own.ld (g := g) (k := 2) h (by repeat (first | with_reducible exact Pick.here | apply Pick.there)) rfl, Own.stP (g := g) (k := 2) h (by repeat (first | with_reducible exact Pick.here | apply Pick.there)) (by simp) (by simp [Value.oneCell']) fun w h => ?_⟩
    simp only [setFrom, List.set_cons_zero, List.set_cons_succ, List.set_nil] at h
    rw [e1] at h
    refine h.drw fun w h => ⟨_, Own.ld (g := g) (k := 2) h (by repeat (first | with_reducible exact Pick.here | apply Pick.there)) rfl, _, Own.ld (g := g) (k := 3) h (by repeat (first | with_reducible exact Pick.here | apply Pick.there)) rfl, fun hc => ?_, fun hc => ⟨rfl, .inr ⟨?_, tinO.cl h⟩⟩⟩
    · have hc := dec_t hc
      refine Rets.mono (tAge (tinO.cl h)) ?_
      rintro _ w ⟨rfl, h⟩
      exact ⟨rfl, rfl, .inl ⟨by omega, h⟩⟩
    · have hc := dec_f hc; omega
/-- Keys one after another. -/
theorem tPush {L : List Int} {q : Option Addr} {c : Nat} (S : Nat → World → Prop) (hL : L.length ≤ 1000) (hr : ∀ i w, S i w → RdC w q (cs .u64 L)) (ha : ∀ i w (hi : i < L.length), S i w → Rets Tryz.prog 80 #[.pointer (some ⟨g, 0, none⟩), .int .u64 L[i]] w fun v w' => v = .tuple #[] ∧ S (i + 1) w') (h : S 0 w) : Rets Tryz.prog 56 #[.pointer (some ⟨g, 0, none⟩), .slice q L.length c] w fun v w' => v = .tuple #[] ∧ S L.length w' := by
  refine tiny_Tiny_Push_go _ _ _ _ ⟨fun k vs w => ∃ i : Nat, vs = [.int .i64 (i : Int)] ∧ k + i = L.length ∧ S i w, ⟨L.length, 0, rfl, rfl, h⟩, ?_⟩
  clear h
  rintro k w v1 n1
  intros
  rename_i hI
  obtain ⟨i, hvs, hk, h⟩ := hI
  obtain rfl : n1 = (i : Int) := by simpa using hvs
  refine ⟨fun hc => ?_, fun hc => ?_⟩
  · have hc := dec_t hc
    have hi : i < L.length := by omega
    refine ⟨by omega, by omega, (hr i w h).int hi fun a ha2 => ⟨_, by rw [Int.toNat_natCast]; exact ha2, ?_⟩⟩
    refine Rets.mono (ha i w hi h) ?_
    rintro _ w ⟨rfl, h⟩
    exact ⟨rfl, k - 1, by omega, i + 1, by rw [wI64 (by omega) (by omega)]; rfl, by omega, h⟩
  · have hc := dec_f hc
    obtain rfl : i = L.length := by omega
    exact ⟨rfl, h⟩
end
end Go.Proofs.YtggflkjdgcdcmaaGreatDoor.Eng
