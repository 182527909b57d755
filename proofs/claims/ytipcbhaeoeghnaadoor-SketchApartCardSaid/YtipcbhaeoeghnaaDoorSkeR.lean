/- Sketches: the document's functions; counting (plain). -/
import Derived.Test.YtipcbhaeoeghnaaDoorSkeQ
namespace Go.Proofs.YtipcbhaeoeghnaaDoor.Eng
open Go Go.RowKit Go.Proofs
set_option linter.unusedVariables false
set_option linter.unusedSimpArgs false
set_option maxRecDepth 1000000
/-! ### Counting -/
/-- How often a step that meets f came: halved between. -/
def cst (f : Int → Bool) (l : List (Bool × Int)) : Nat := l.foldl (fun x t => if t.1 = true then x / 2 else if f t.2 = true then min 15 (x + 1) else x) 0
theorem cst_snoc (f : Int → Bool) (l : List (Bool × Int)) (t : Bool × Int) : cst f (l ++ [t]) = if t.1 = true then cst f l / 2 else if f t.2 = true then min 15 (cst f l + 1) else cst f l := by
  unfold cst; rw [List.foldl_append]; rfl
theorem cst_ind {P : List (Bool × Int) → Prop} (h0 : P []) (hs : ∀ l t, P l → P (l ++ [t])) (l : List (Bool × Int)) : P l := by
  have : ∀ n (l : List (Bool × Int)), l.length = n → P l := by
    intro n
    induction n with
    | zero => intro l hl; rw [List.eq_nil_of_length_eq_zero hl]; exact h0
    | succ n ih =>
      intro l hl
      have hne : l ≠ [] := by intro e; rw [e] at hl; cases hl
      rw [← List.dropLast_concat_getLast hne]
      exact hs _ _ (ih _ (by simp; omega))
  exact this _ l rfl
theorem cst_le (f : Int → Bool) (l : List (Bool × Int)) : cst f l ≤ 15 := by
  refine cst_ind (P := fun l => cst f l ≤ 15) (Nat.zero_le _) (fun l t h => ?_) l
  rw [cst_snoc]
  split
  · omega
  · split <;> omega
theorem cst_mono {f g : Int → Bool} (h : ∀ x, f x = true → g x = true) (l : List (Bool × Int)) : cst f l ≤ cst g l := by
  refine cst_ind (P := fun l => cst f l ≤ cst g l) (Nat.le_refl _) (fun l t ih => ?_) l
  have hg := cst_le g l
  rw [cst_snoc, cst_snoc]
  split
  · omega
  · by_cases hf : f t.2 = true
    · rw [if_pos hf, if_pos (h _ hf)]; omega
    · rw [if_neg hf]; split <;> omega
theorem cst_cong {f g : Int → Bool} (l : List (Bool × Int)) : (∀ t ∈ l, t.1 = false → f t.2 = g t.2) → cst f l = cst g l := by
  refine cst_ind (P := fun l => (∀ t ∈ l, t.1 = false → f t.2 = g t.2) → cst f l = cst g l) (fun _ => rfl) (fun l t ih h => ?_) l
  have ih := ih (fun t ht => h t (List.mem_append_left _ ht))
  have ht := h t (by simp)
  rw [cst_snoc, cst_snoc, ih]
  cases h1 : t.1 with
  | true => rfl
  | false => rw [ht h1]
/-- A row's counters, behind these steps. -/
def rwG (P : Int → Nat) (M : Nat) (l : List (Bool × Int)) : List Nat := (List.range M).map fun p => cst (fun k => decide (P k = p)) l
section
variable {P : Int → Nat} {M : Nat} {l : List (Bool × Int)} {p : Nat}
theorem rwG_len : (rwG P M l).length = M := by simp [rwG]
theorem rwG_at {i : Nat} (h : i < (rwG P M l).length) : (rwG P M l)[i] = cst (fun k => decide (P k = i)) l := by simp [rwG]
theorem rwG_nil : rwG P M [] = List.replicate M 0 := by
  apply List.ext_getElem
  · simp [rwG]
  · intro i h1 h2; simp [rwG, cst]
theorem rwG_get (hp : p < M) : ngGet (rwG P M l) (p : Int) = cst (fun k => decide (P k = p)) l := by
  unfold ngGet
  rw [if_pos ⟨by omega, by rw [rwG_len]; omega⟩, Int.toNat_natCast, List.getD_eq_getElem?_getD, List.getElem?_eq_getElem (by rw [rwG_len]; exact hp), Option.getD_some, rwG_at]
theorem rwG_half (x : Int) : ngHalve (rwG P M l) = rwG P M (l ++ [(true, x)]) := by
  unfold ngHalve rwG
  rw [List.map_map]
  refine List.map_congr_left fun p _ => ?_
  rw [cst_snoc]; rfl
theorem rwG_add (x : Int) (hp : P x < M) : ngAdd (rwG P M l) ((P x : Nat) : Int) = rwG P M (l ++ [(false, x)]) := by
  have hg := rwG_get (P := P) (l := l) hp
  have hle := cst_le (fun k => decide (P k = P x)) l
  apply List.ext_getElem
  · rw [ngAdd_len, rwG_len, rwG_len]
  · intro i h1 h2
    have hi : i < M := by rw [rwG_len] at h2; exact h2
    have e2 : (rwG P M (l ++ [(false, x)]))[i] = if P x = i then min 15 (cst (fun k => decide (P k = i)) l + 1) else cst (fun k => decide (P k = i)) l := by
      rw [rwG_at, cst_snoc]
      by_cases h : P x = i
      · simp [h]
      · simp [h]
    rw [e2]
    unfold ngAdd
    simp only [hg, Int.toNat_natCast]
    by_cases h15 : cst (fun k => decide (P k = P x)) l = 15
    · simp only [if_neg (show ¬ (0 ≤ ((P x : Nat) : Int) ∧ ((P x : Nat) : Int) < (rwG P M l).length ∧ cst (fun k => decide (P k = P x)) l ≠ 15) from fun q => q.2.2 h15), rwG_at]
      by_cases h : P x = i
      · rw [if_pos h]; subst h; omega
      · rw [if_neg h]
    · simp only [if_pos (show (0 ≤ ((P x : Nat) : Int) ∧ ((P x : Nat) : Int) < (rwG P M l).length ∧ cst (fun k => decide (P k = P x)) l ≠ 15) from ⟨by omega, by rw [rwG_len]; omega, h15⟩)]
      rw [List.getElem_set]
      by_cases h : P x = i
      · rw [if_pos h, if_pos h]; subst h; omega
      · rw [if_neg h, if_neg h, rwG_at]
end
def rwS (s : Int) (M : Nat) (l : List (Bool × Int)) (j : Nat) : List Nat := rwG (fun k => plc s M k j) M l
theorem rwS_nil (s : Int) (M : Nat) : rwS s M [] = fun _ => List.replicate M 0 := funext fun j => rwG_nil
theorem rwS_get {s : Int} {M : Nat} {l : List (Bool × Int)} {j p : Nat} (hp : p < M) : ngGet (rwS s M l j) (p : Int) = cst (fun k => decide (plc s M k j = p)) l := rwG_get (P := fun k => plc s M k j) hp
theorem rwS_half (s : Int) (M : Nat) (l : List (Bool × Int)) (x : Int) : (fun j => ngHalve (rwS s M l j)) = rwS s M (l ++ [(true, x)]) := funext fun j => rwG_half (P := fun k => plc s M k j) x
theorem rwS_add {s : Int} {M : Nat} (hM : 0 < M) (l : List (Bool × Int)) (x : Int) : (fun j => ngAdd (rwS s M l j) (plc s M x j : Int)) = rwS s M (l ++ [(false, x)]) := funext fun j => rwG_add (P := fun k => plc s M k j) x (plc_lt hM)
/-- What a count is. -/
theorem cu_ge {s : Int} {M : Nat} (hM : 0 < M) (l : List (Bool × Int)) (x : Int) : ∀ i, cst (fun k => decide (k = x)) l ≤ cuN s M x (rwS s M l) i
  | 0 => cst_le _ _
  | i + 1 => by
    have ih := cu_ge (s := s) hM l x i
    unfold cuN
    rw [rwS_get (plc_lt hM)]
    have := cst_mono (f := fun k => decide (k = x)) (g := fun k => decide (plc s M k i = plc s M x i)) (fun k hk => by
      have : k = x := by simpa using hk
      subst this; simp) l
    omega
theorem cu_le {s : Int} {M : Nat} (hM : 0 < M) (l : List (Bool × Int)) (x : Int) {i0 : Nat} (hx : ∀ t ∈ l, t.1 = false → t.2 ≠ x → plc s M t.2 i0 ≠ plc s M x i0) : ∀ i, i0 < i → cuN s M x (rwS s M l) i ≤ cst (fun k => decide (k = x)) l
  | 0, h => by omega
  | i + 1, h => by
    unfold cuN
    by_cases hi : i0 = i
    · subst hi
      rw [rwS_get (plc_lt hM)]
      have := cst_cong (f := fun k => decide (plc s M k i0 = plc s M x i0)) (g := fun k => decide (k = x)) l (fun t ht h1 => by
        rw [decide_eq_decide]
        constructor
        · intro e
          refine Decidable.byContradiction fun hne => hx t ht h1 hne e
        · intro e; rw [e])
      omega
    · have := cu_le hM l x hx i (by omega)
      omega
/-! ### The document's -/
section
variable {e w : World} {F : List HP} {s hh : Int} {q q2 : Option Addr} {l c c2 m : Nat} {K : List Int}
theorem rdPlc {i : Nat} (hi : i < 4) (hm12 : m ≤ 12) (hs : M64 s) (h : Own e w F) : Rets Tryd.prog 59 #[.agg #[.slice q l c, .int .i64 ((2 ^ m : Nat) : Int), .int .u64 s], .int .u64 hh, .int .i64 (i : Int)] w fun v w' => v = .int .i64 (plc s (2 ^ m) hh i : Int) ∧ Own e w' F := by
  obtain ⟨p1, p2⟩ := p12 hm12
  have hpl := plc_lt (s := s) (h := hh) (i := i) p1
  have ea : plc s (2 ^ m) hh i = (mixI (skX hh (sdI s i))).toNat % 2 ^ m := rfl
  refine cortadoref11_Place_go _ _ _ _ _ _ _ (h.newR fun g w h => ⟨fun _ => ⟨fun hc => ?_, fun _ => ?_⟩, fun hc => ?_⟩)
  · have := dec_t hc; omega
  · refine ⟨_, Own.ld (g := g) h (by repeat (first | with_reducible exact Pick.here | apply Pick.there)) rfl, ?_⟩
    refine Rets.mono (rfMix (x := IntKind.wrap .u64 (IntKind.wrap .u64 (s + IntKind.wrap .u64 (i : Int)) + 1)) (M64.w _) h) ?_
    clear h
    rintro _ w ⟨rfl, h⟩
    refine ⟨_, rfl, h.drw fun w h => ⟨fun w => Own e w (blk g 48 [.slice q l c, .int .i64 ((2 ^ m : Nat) : Int), .int .u64 s] :: F), h, _, fun w h => Own.ld (g := g) h (by repeat (first | with_reducible exact Pick.here | apply Pick.there)) rfl, ?_⟩⟩
    refine Rets.mono (rfMix (x := skX hh (sdI s i)) (bits_M64 _ _) h) ?_
    clear h
    rintro _ w ⟨rfl, h⟩
    obtain ⟨X, hX⟩ := Int.eq_ofNat_of_zero_le (mixI_M64 (skX hh (sdI s i))).1
    have hXl := (mixI_M64 (skX hh (sdI s i))).2
    rw [hX] at hXl ea ⊢
    rw [Int.toNat_natCast] at ea
    obtain ⟨M, hM⟩ : ∃ M, M = 2 ^ m := ⟨_, rfl⟩
    refine ⟨_, rfl, h, ?_, ?_, h.drop⟩
    · rw [← hM] at p1 p2 ⊢
      rw [wU64' (by omega) (by omega)]; omega
    · rw [← hM] at p1 p2 ea hpl ⊢
      rw [wU64' (n := (M : Int)) (by omega) (by omega), Int.tmod_eq_emod_of_nonneg (by omega), ← Int.natCast_emod, ← ea, wI64 (by omega) (by omega)]
  · have := dec_t hc; omega
theorem rdNewS {n : Int} (h : Own e w F) : Rets Tryd.prog 28 #[.int .i64 n, .int .u64 s] w fun v w' => (∃ q l c m, v = .agg #[.slice q l c, .int .i64 ((2 ^ m : Nat) : Int), .int .u64 s] ∧ pwOk (maxI 1 (minI n 4096)) m) ∧ Own e w' F := by
  have hn : 1 ≤ maxI 1 (minI n 4096) ∧ maxI 1 (minI n 4096) ≤ 4096 := by unfold maxI minI; split <;> split <;> omega
  refine cortadoref11_New_go _ _ (h.newR fun g1 w h => ?_)
  refine Rets.mono (rfPower hn h) ?_
  clear h
  rintro _ w ⟨⟨m, rfl, hok⟩, h⟩
  have hm := hok.small hn.2
  obtain ⟨p1, p2⟩ := p12 hm
  refine ⟨_, rfl, h.newR fun g2 w h => Own.stP' (g := g2) h (by repeat (first | with_reducible exact Pick.here | apply Pick.there)) (by simp) (by simp [Value.oneCell']) fun w h => ?_⟩
  simp only [setFrom, List.set_cons_zero, List.set_cons_succ, List.set_nil] at h
  refine ⟨fun k vs w => ∃ (i : Nat) (q' : Option Addr) (c' : Nat) (xs : List Value), vs = [.int .i64 (i : Int)] ∧ k + i = 4 ∧ Own e w (blk g2 48 [.slice q' i c', .int .i64 ((2 ^ m : Nat) : Int), .int .u64 s] :: slO 67 1 q' i c' xs :: blk g1 48 [.slice none 0 0, .int .i64 0, .int .u64 0] :: F), ⟨4, 0, none, 0, [], rfl, rfl, (h.slNil).swap⟩, ?_⟩
  clear h
  rintro k w n2
  intros
  rename_i hI
  obtain ⟨i, q', c', xs, hvs, hk, h⟩ := hI
  obtain rfl : n2 = (i : Int) := by simpa using hvs
  refine ⟨fun hc => ?_, fun hc => ?_⟩
  · have hc := dec_t hc
    refine h.drw fun w h => ⟨fun w => Own e w (blk g2 48 [.slice q' i c', .int .i64 ((2 ^ m : Nat) : Int), .int .u64 s] :: slO 67 1 q' i c' xs :: blk g1 48 [.slice none 0 0, .int .i64 0, .int .u64 0] :: F), h, _, _, _, fun w h => Own.ld (g := g2) h (by repeat (first | with_reducible exact Pick.here | apply Pick.there)) rfl, ?_⟩
    refine h.makeR ⟨by omega, by omega, by omega, by omega⟩ fun g3 w h => ⟨h.drop, h.newR fun g4 w h => ⟨h.drop.drop, ?_⟩⟩
    obtain ⟨u, hu, hu1⟩ : ∃ u, u = Value.slice (some ⟨g3, 0, none⟩) (Int.toNat ((2 ^ m : Nat) : Int)) (Int.toNat ((2 ^ m : Nat) : Int)) ∧ u.oneCell' = true := ⟨_, rfl, rfl⟩
    rw [← hu] at h
    have hsrc : RdC w (some ⟨g4, 0, none⟩) [u] := h.blkRd
    have h : Own e w (slO 67 1 q' i c' xs :: blk g2 48 [.slice q' i c', .int .i64 ((2 ^ m : Nat) : Int), .int .u64 s] :: blk g1 48 [.slice none 0 0, .int .i64 0, .int .u64 0] :: F) := (Own.sub (h) (by repeat (first | with_reducible exact Sub.nil _ | with_reducible exact Sub.rfl _ | (apply Sub.cons; focus ((repeat (first | with_reducible exact Pick.here | apply Pick.there)); done)) | apply Sub.drop)))
    refine Own.append (z := [.slice none 0 0]) (b := 24) (m := 1) h (by kernel_rfl) (by kernel_rfl) (by kernel_rfl) (by kernel_rfl) (by kernel_rfl) (by omega) hsrc rfl (fun v hv => by rw [List.mem_singleton.1 hv]; exact hu1) (by unfold maxLen; omega) (by omega) fun q3 c3 w h _ => ⟨_, _, _, rfl, ?_⟩
    refine Own.stP (g := g2) (k := 0) h (by repeat (first | with_reducible exact Pick.here | apply Pick.there)) (by simp) (by simp [Value.oneCell']) fun w h => ?_
    simp only [setFrom, List.set_cons_zero, List.set_cons_succ, List.set_nil] at h
    exact ⟨k - 1, by omega, i + 1, q3, c3, xs ++ [u], by rw [wI64 (by omega) (by omega)]; rfl, by omega, (Own.sub (h) (by repeat (first | with_reducible exact Sub.nil _ | with_reducible exact Sub.rfl _ | (apply Sub.cons; focus ((repeat (first | with_reducible exact Pick.here | apply Pick.there)); done)) | apply Sub.drop)))⟩
  · have hc := dec_f hc
    obtain rfl : i = 4 := by omega
    refine ⟨_, _, _, _, _, ⟨Own.ld (g := g2) h (by repeat (first | with_reducible exact Pick.here | apply Pick.there)) rfl, Own.ld (g := g2) h (by repeat (first | with_reducible exact Pick.here | apply Pick.there)) rfl, Own.ld (g := g2) h (by repeat (first | with_reducible exact Pick.here | apply Pick.there)) rfl⟩, Own.stP' (g := g1) h (by repeat (first | with_reducible exact Pick.here | apply Pick.there)) (by simp) (by simp [Value.oneCell']) fun w h => ?_⟩
    simp only [setFrom, List.set_cons_zero, List.set_cons_succ, List.set_nil] at h
    exact ⟨_, _, _, _, _, ⟨Own.ld (g := g1) h (by repeat (first | with_reducible exact Pick.here | apply Pick.there)) rfl, Own.ld (g := g1) h (by repeat (first | with_reducible exact Pick.here | apply Pick.there)) rfl, Own.ld (g := g1) h (by repeat (first | with_reducible exact Pick.here | apply Pick.there)) rfl⟩, ⟨_, _, _, m, rfl, hok⟩, h.drop.drop.drop⟩
theorem rdLone (hm12 : m ≤ 12) (hs : M64 s) (hr : ∀ w, Own e w F → RdC w q2 (cs .u64 K)) (hK : K.length ≤ 1000) (h : Own e w F) : Rets Tryd.prog 31 #[.agg #[.slice q l c, .int .i64 ((2 ^ m : Nat) : Int), .int .u64 s], .int .u64 hh, .slice q2 K.length c2] w fun v w' => (∃ b, v = .bool b ∧ (b = true → ∃ i, i < 4 ∧ ∀ k ∈ K, k ≠ hh → plc s (2 ^ m) k i ≠ plc s (2 ^ m) hh i)) ∧ Own e w' F := by
  refine cortadoref11_Lonely_go _ _ _ _ _ _ _ _ _ (h.newR fun g w h => ?_)
  refine ⟨fun z vs w => ∃ i : Nat, vs = [.int .i64 (i : Int)] ∧ z + i = 4 ∧ Own e w (blk g 48 [.slice q l c, .int .i64 ((2 ^ m : Nat) : Int), .int .u64 s] :: F), ⟨4, 0, rfl, rfl, h⟩, ?_⟩
  clear h
  rintro z w v1 n1
  intros
  rename_i hI
  obtain ⟨i, hvs, hz, h⟩ := hI
  obtain rfl : n1 = (i : Int) := by simpa using hvs
  refine ⟨fun hc => ?_, fun hc => ⟨⟨false, rfl, fun hx => by cases hx⟩, h.drop⟩⟩
  have hc := dec_t hc
  have hi : i < 4 := by omega
  refine ⟨fun z vs w => ∃ (n : Nat) (b : Bool), vs = [.bool b, .int .i64 (n : Int)] ∧ z + n = K.length ∧ (b = true → ∀ k ∈ K.take n, k ≠ hh → plc s (2 ^ m) k i ≠ plc s (2 ^ m) hh i) ∧ Own e w (blk g 48 [.slice q l c, .int .i64 ((2 ^ m : Nat) : Int), .int .u64 s] :: F), ⟨K.length, 0, true, rfl, rfl, fun _ k hk => (by cases hk), h⟩, ?_⟩
  clear h
  rintro z2 w b1 n2
  intros
  rename_i hI
  obtain ⟨n, b, hvs, hz2, hb, h⟩ := hI
  obtain ⟨rfl, rfl⟩ : b1 = b ∧ n2 = (n : Int) := by simpa using hvs
  refine ⟨fun hc2 => ?_, fun hc2 => ⟨fun hb1 => ?_, fun hb1 => ?_⟩⟩
  · have hc2 := dec_t hc2
    have hn : n < K.length := by omega
    obtain ⟨x, hx⟩ : ∃ x, x = K[n] := ⟨_, rfl⟩
    have et : K.take (n + 1) = K.take n ++ [x] := by rw [hx]; exact List.take_succ_eq_append_getElem hn
    have ei : IntKind.wrap .i64 ((n : Int) + 1) = ((n + 1 : Nat) : Int) := by rw [wI64 (by omega) (by omega)]; rfl
    rw [ei]
    obtain ⟨ad, rfl, _⟩ := (hr w h.drop).addr (cs_at hn)
    have rdx : ∀ w, Own e w (blk g 48 [.slice q l c, .int .i64 ((2 ^ m : Nat) : Int), .int .u64 s] :: F) → World.cell? w (ad.add (Int.toNat (n : Int) * 1)) = some (.int .u64 x) := fun w h => by
      obtain ⟨ad', ead, hcell⟩ := (hr w h.drop).addr (cs_at hn)
      cases ead
      rw [Int.toNat_natCast, Nat.mul_one, hx]; exact hcell _ _ (cs_at hn)
    refine h.drw fun w h => ⟨fun w => Own e w (blk g 48 [.slice q l c, .int .i64 ((2 ^ m : Nat) : Int), .int .u64 s] :: F), h, by omega, by omega, smR ⟨x, rdx, fun he => ?_, fun he => ?_⟩⟩
    · have he := bool_ne he
      refine ⟨by omega, by omega, smR ⟨_, _, _, _, _, ⟨fun w h => Own.ld (g := g) h (by repeat (first | with_reducible exact Pick.here | apply Pick.there)) rfl, fun w h => Own.ld (g := g) h (by repeat (first | with_reducible exact Pick.here | apply Pick.there)) rfl, fun w h => Own.ld (g := g) h (by repeat (first | with_reducible exact Pick.here | apply Pick.there)) rfl⟩, x, rdx, _, _, _, _, _, ⟨fun w h => Own.ld (g := g) h (by repeat (first | with_reducible exact Pick.here | apply Pick.there)) rfl, fun w h => Own.ld (g := g) h (by repeat (first | with_reducible exact Pick.here | apply Pick.there)) rfl, fun w h => Own.ld (g := g) h (by repeat (first | with_reducible exact Pick.here | apply Pick.there)) rfl⟩, ?_⟩⟩
      refine Rets.mono (rdPlc (hh := x) hi hm12 hs h) ?_
      clear h
      rintro _ w ⟨rfl, h⟩
      refine ⟨_, rfl, h, ?_⟩
      refine Rets.mono (rdPlc (hh := hh) hi hm12 hs h) ?_
      clear h
      rintro _ w ⟨rfl, h⟩
      refine ⟨_, rfl, fun hq => ?_, fun hq => ?_⟩
      · exact ⟨z2 - 1, by omega, n + 1, false, rfl, by omega, fun hx => (by cases hx), h⟩
      · have hq := beq_f hq
        refine ⟨z2 - 1, by omega, n + 1, b1, rfl, by omega, fun hb1 k hk hne => ?_, h⟩
        rw [et] at hk
        rcases List.mem_append.1 hk with hk | hk
        · exact hb hb1 k hk hne
        · rw [List.mem_singleton.1 hk]; omega
    · have he := bool_eq he
      refine ⟨z2 - 1, by omega, n + 1, b1, rfl, by omega, fun hb1 k hk hne => ?_, h⟩
      rw [et] at hk
      rcases List.mem_append.1 hk with hk | hk
      · exact hb hb1 k hk hne
      · rw [List.mem_singleton.1 hk] at hne; exact absurd he hne
  · have hc2 := dec_f hc2
    obtain rfl : n = K.length := by omega
    rw [List.take_length] at hb
    exact ⟨⟨true, rfl, fun _ => ⟨i, hi, hb hb1⟩⟩, h.drop⟩
  · exact ⟨z - 1, by omega, i + 1, by rw [wI64 (by omega) (by omega)]; rfl, by omega, h⟩
end
end Go.Proofs.YtipcbhaeoeghnaaDoor.Eng
