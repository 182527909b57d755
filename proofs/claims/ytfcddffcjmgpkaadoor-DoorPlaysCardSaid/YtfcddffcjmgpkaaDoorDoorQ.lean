/- DoorKeeps. -/
import Derived.Test.YtfcddffcjmgpkaaDoorDoorP
namespace Go.Proofs.YtfcddffcjmgpkaaDoor.Eng
open Go Go.RowKit Go.Proofs
set_option linter.unusedVariables false
set_option linter.unusedSimpArgs false
set_option maxRecDepth 1000000
section
variable {e w : World} {F : List HP} {s hh : Int} {q q2 : Option Addr} {c c2 L : Nat} {K : List Int}
theorem rdNew {k : Int} (h : Own e w F) : Rets Tryd.prog 7 #[.int .i64 k, .int .u64 s] w fun v w' => (∃ q' m, v = .agg #[.slice q' (2 ^ m) (2 ^ m), .int .u64 s] ∧ pwOk (keyN k) m) ∧ Own e w' F := by
  refine cortadoref12_New_go _ _ ?_
  unfold cortadoref12_New_m
  have hk := keyN_bd k
  have e1 : IntKind.wrap .i64 (8 * maxI 1 (minI k 4096)) = keyN k := by
    have : 8 * maxI 1 (minI k 4096) = keyN k := rfl
    rw [this, wI64 (by omega) (by omega)]
  rw [e1]
  refine h.newR fun g w h => ?_
  refine Rets.mono (rfPower ⟨by omega, by omega⟩ h) ?_
  rintro _ w ⟨⟨m, rfl, hok⟩, h⟩
  have hm20 := hok.small (by omega)
  obtain ⟨p1, p2⟩ := p20 hm20
  refine ⟨_, rfl, h.makeR ⟨by omega, by omega, by omega, by omega⟩ fun g2 w h => ?_⟩
  rw [Int.toNat_natCast]
  refine Own.stP' (g := g) h (by repeat (first | with_reducible exact Pick.here | apply Pick.there)) (by simp) (by simp [Value.oneCell']) fun w h => ?_
  simp only [setFrom, List.set_cons_zero, List.set_cons_succ, List.set_nil] at h
  exact ⟨_, _, _, _, ⟨Own.ld (g := g) h (by repeat (first | with_reducible exact Pick.here | apply Pick.there)) rfl, Own.ld (g := g) h (by repeat (first | with_reducible exact Pick.here | apply Pick.there)) rfl⟩, ⟨_, m, rfl, hok⟩, h.drop.drop⟩
theorem dnHas (h : Own e w F) : Rets Tryd.prog 11 #[.pointer none, .int .u64 hh] w fun v w' => v = .bool false ∧ Own e w' F :=
  door_nil_Has_go _ ⟨fun _ => ⟨rfl, h⟩, fun hc => (by cases hc)⟩
theorem dnPlaces (h : Own e w F) : Rets Tryd.prog 8 #[.pointer none, .int .u64 hh] w fun v w' => v = .agg #[.int .i64 0, .int .i64 0, .int .i64 0, .int .i64 0] ∧ Own e w' F := by
  refine door_nil_Places_go _ (h.newR fun g w h => ⟨fun _ => ?_, fun hc => (by cases hc)⟩)
  refine ⟨_, _, _, _, ⟨(Own.ld h (by repeat (first | with_reducible exact Pick.here | apply Pick.there)) (by rfl)), (Own.ld h (by repeat (first | with_reducible exact Pick.here | apply Pick.there)) (by rfl)), (Own.ld h (by repeat (first | with_reducible exact Pick.here | apply Pick.there)) (by rfl)), (Own.ld h (by repeat (first | with_reducible exact Pick.here | apply Pick.there)) (by rfl))⟩, Own.stP' h (by repeat (first | with_reducible exact Pick.here | apply Pick.there)) (by simp) (by simp [Value.oneCell']) fun w h => ?_⟩
  simp only [setFrom, List.set_cons_zero, List.set_cons_succ, List.set_nil] at h
  exact ⟨_, _, _, _, ⟨(Own.ld h (by repeat (first | with_reducible exact Pick.here | apply Pick.there)) (by rfl)), (Own.ld h (by repeat (first | with_reducible exact Pick.here | apply Pick.there)) (by rfl)), (Own.ld h (by repeat (first | with_reducible exact Pick.here | apply Pick.there)) (by rfl)), (Own.ld h (by repeat (first | with_reducible exact Pick.here | apply Pick.there)) (by rfl))⟩, rfl, h.drop⟩
theorem drAwake (hm1 : ∀ w, Own e w F → RdC w mixQ mixC) (hm2 : ∀ w, Own e w F → RdC w twiQ twiC) (h : Own e w F) : Rets Tryd.prog 5 #[] w fun v w' => v = .bool true ∧ Own e w' F := by
  refine cortadolaw12_awake_go ?_
  refine Rets.mono (drNew (k := 4) (s := 0) hm1 h) ?_
  clear h
  rintro _ w ⟨g, m, rfl, hok, h⟩
  have e5 : m = 5 := hok.uniq (b := 5) ⟨by decide, by decide⟩
  subst e5
  refine ⟨_, rfl, ?_⟩
  have hb0 : bitsOf (mixI 0) (2 ^ 5) (List.replicate ((2 ^ 5 + 63) / 64) 0) [] := bitsOf.nil _ _ _
  have hf : hasB (mixI 0) 3 (2 ^ 5) (List.replicate ((2 ^ 5 + 63) / 64) 0) = false := by
    rw [Bool.eq_false_iff]; intro hh
    obtain ⟨k, hk, _⟩ := (hb0 _).1 (hasB_iff.1 hh 0 (by omega))
    cases hk
  refine Rets.mono (drPut (hh := 3) hm1 hm2 h) ?_
  clear h
  rintro _ w ⟨rfl, h⟩
  rw [hf]
  have hb1 := hb0.put (by decide) rfl 3
  have ht := hb1.has (x := 3) (by simp)
  refine ⟨_, rfl, fun _ => ?_, fun hc => absurd hc (by simp)⟩
  refine Rets.mono (drPut (hh := 3) hm1 hm2 h) ?_
  clear h
  rintro _ w ⟨rfl, h⟩
  rw [ht]
  refine ⟨_, rfl, fun _ => ?_, fun hc => absurd hc (by simp)⟩
  refine Rets.mono (drBits h) ?_
  clear h
  rintro _ w ⟨rfl, h⟩
  exact ⟨_, rfl, rfl, h.drop⟩
theorem rdPlaces {m : Nat} (hm20 : m ≤ 20) (hs : M64 s) (h : Own e w F) : Rets Tryd.prog 9 #[.agg #[.slice q (2 ^ m) c, .int .u64 s], .int .u64 hh] w fun v w' => ∃ q' c', v = .slice q' 4 c' ∧ Own e w' (inB q' 4 c' (plL (mixI s) hh (2 ^ m) 4) :: F) := by
  obtain ⟨p1, p2⟩ := p20 hm20
  refine cortadoref12_Places_go _ _ _ _ _ (h.newR fun g w h => ⟨_, (Own.ld h (by repeat (first | with_reducible exact Pick.here | apply Pick.there)) (by rfl)), ?_⟩)
  refine Rets.mono (rfMix hs h) ?_
  rintro _ w ⟨rfl, h⟩
  refine ⟨_, rfl, ?_⟩
  refine Rets.mono (rfMix (x := xrI hh (mixI s)) (bits_M64 _ _) h) ?_
  rintro _ w ⟨rfl, h⟩
  refine ⟨_, rfl, ?_⟩
  refine Rets.mono (rfTwist (x := xrI hh (mixI s)) (bits_M64 _ _) h) ?_
  rintro _ w ⟨rfl, h⟩
  obtain ⟨d1, d2⟩ := dA_lt (mixI s) hh
  obtain ⟨a, ha⟩ : ∃ a, a = dA (mixI s) hh := ⟨_, rfl⟩
  obtain ⟨X, hX⟩ := Int.eq_ofNat_of_zero_le (twiI_M64 (xrI hh (mixI s))).1
  have hXl : X < 18446744073709551616 := by have h2 := (twiI_M64 (xrI hh (mixI s))).2; rw [hX] at h2; omega
  have eB : dB (mixI s) hh = odN X := by unfold dB; rw [hX, Int.toNat_natCast]
  obtain ⟨bb, hbb⟩ : ∃ b, b = dB (mixI s) hh := ⟨_, rfl⟩
  have hodd := odN_eq X
  rw [← hbb] at eB
  rw [← eB] at hodd
  have em : Int.tmod (X : Int) 2 = ((X % 2 : Nat) : Int) := by rw [Int.tmod_eq_emod_of_nonneg (by omega)]; omega
  have ea : ∀ i, plN (mixI s) hh (2 ^ m) i = (a + i * bb) % 18446744073709551616 % 2 ^ m := fun i => by rw [ha, hbb]; rfl
  rw [hX, ← d1, ← ha]
  rw [← ha] at d2
  clear d1 eB
  refine ⟨_, rfl, by omega, fun vs w => vs = [.int .u64 (bb : Int)] ∧ Own e w (blk g 29 [.slice q (2 ^ m) c, .int .u64 s] :: F), ⟨fun hx => ⟨?_, h⟩, fun hx => ⟨?_, h⟩⟩, ?_⟩
  · have hx := beq_t hx
    rw [em] at hx
    rw [hodd, if_pos (by omega), wU64' (by omega) (by omega)]; rfl
  · have hx := beq_f hx
    rw [em] at hx
    rw [hodd, if_neg (by omega)]
  clear h
  rintro w n5
  intros
  rename_i hI
  obtain ⟨hvs, h⟩ := hI
  obtain rfl : n5 = (bb : Int) := by simpa using hvs
  have hlen : ∀ i, (plL (mixI s) hh (2 ^ m) i).length = 4 := fun i => by simp [plL]
  refine ⟨fun k vs w => ∃ (i : Nat) (q' : Option Addr) (c' : Nat), vs = [.slice q' i c', .int .i64 (i : Int)] ∧ k + i = 4 ∧ Own e w (inB q' i c' ((plL (mixI s) hh (2 ^ m) 4).take i) :: blk g 29 [.slice q (2 ^ m) c, .int .u64 s] :: F), ⟨4, 0, none, 0, rfl, rfl, h.slNil⟩, ?_⟩
  clear h
  rintro k w q1 k3 k4 n6
  intros
  rename_i hI
  obtain ⟨i, q', c', hvs, hk, h⟩ := hI
  obtain ⟨⟨rfl, rfl, rfl⟩, rfl⟩ : (q1 = q' ∧ k3 = i ∧ k4 = c') ∧ n6 = (i : Int) := by simpa using hvs
  refine ⟨fun hc => ?_, fun hc => ?_⟩
  · have hc := dec_t hc
    have hi : k3 < 4 := by omega
    have hpl := plN_lt (s := mixI s) (h := hh) (i := k3) p1
    obtain ⟨M, hM⟩ : ∃ M, M = 2 ^ m := ⟨_, rfl⟩
    have ev : IntKind.wrap .i64 (Int.tmod (IntKind.wrap .u64 ((a : Int) + IntKind.wrap .u64 (IntKind.wrap .u64 (k3 : Int) * (bb : Int)))) (IntKind.wrap .u64 ((2 ^ m : Nat) : Int))) = (plN (mixI s) hh (2 ^ m) k3 : Int) := by
      rw [ea k3] at hpl ⊢
      rw [← hM] at hpl p1 p2 ⊢
      rw [wU64' (n := (k3 : Int)) (by omega) (by omega), wU64' (n := (M : Int)) (by omega) (by omega), show (k3 : Int) * (bb : Int) = ((k3 * bb : Nat) : Int) from (Int.natCast_mul _ _).symm]
      generalize k3 * bb = t at *
      have e2 : IntKind.wrap .u64 ((a : Int) + IntKind.wrap .u64 (t : Int)) = (((a + t) % 18446744073709551616 : Nat) : Int) := by
        rw [wU64, wU64]; omega
      rw [e2, Int.tmod_eq_emod_of_nonneg (by omega), ← Int.natCast_emod, wI64 (by omega) (by omega)]
    refine ⟨_, _, _, Own.ld (g := g) h (by repeat (first | with_reducible exact Pick.here | apply Pick.there)) rfl, ?_, ?_⟩
    · rw [wU64' (by omega) (by omega)]; omega
    rw [ev]
    refine h.newR fun g2 w h => ?_
    have h : Own e w (blk g2 3 (cs .i64 [(plN (mixI s) hh (2 ^ m) k3 : Int)]) :: inB q1 k3 k4 ((plL (mixI s) hh (2 ^ m) 4).take k3) :: blk g 29 [.slice q (2 ^ m) c, .int .u64 s] :: F) := h
    refine put64 (ys := [(plN (mixI s) hh (2 ^ m) k3 : Int)]) h rfl (by omega) fun q3 c3 w h => ⟨_, _, _, rfl, k - 1, by omega, k3 + 1, q3, c3, ?_, by omega, ?_⟩
    · rw [wI64 (by omega) (by omega)]; rfl
    · have e1 : (plL (mixI s) hh (2 ^ m) 4).take (k3 + 1) = (plL (mixI s) hh (2 ^ m) 4).take k3 ++ [(plN (mixI s) hh (2 ^ m) k3 : Int)] := by
        rw [List.take_succ_eq_append_getElem (by rw [hlen]; exact hi)]
        simp [plL, hi]
      rw [e1]; exact h
  · have hc := dec_f hc
    obtain rfl : k3 = 4 := by omega
    rw [List.take_of_length_le (by rw [hlen]; omega)] at h
    exact ⟨_, _, rfl, (Own.sub (h) (by repeat (first | exact Sub.nil _ | exact Sub.rfl _ | (apply Sub.cons; focus ((repeat (first | with_reducible exact Pick.here | apply Pick.there)); done)) | apply Sub.drop)))⟩
theorem plL_get {s h : Int} {M j : Nat} (hj : j < 4) : (plL s h M 4)[j]'(by simp [plL]; exact hj) = (plN s h M j : Int) := by
  simp [plL, hj]
theorem rdLonely {m : Nat} (hm20 : m ≤ 20) (hs : M64 s) (hr : ∀ w, Own e w F → RdC w q2 (cs .u64 K)) (hK : K.length ≤ 1000) (h : Own e w F) : Rets Tryd.prog 19 #[.agg #[.slice q (2 ^ m) c, .int .u64 s], .int .u64 hh, .slice q2 K.length c2] w fun v w' => (∃ b, v = .bool b ∧ (b = true → ∃ i, i < 4 ∧ ∀ k ∈ K, k ≠ hh → ∀ j, j < 4 → plN (mixI s) k (2 ^ m) j ≠ plN (mixI s) hh (2 ^ m) i)) ∧ Own e w' F := by
  have hlen : ∀ k, (plL (mixI s) k (2 ^ m) 4).length = 4 := fun k => by simp [plL]
  refine cortadoref12_Lonely_go _ _ _ _ _ _ _ _ (h.newR fun g w h => ⟨_, _, _, _, ⟨(Own.ld h (by repeat (first | with_reducible exact Pick.here | apply Pick.there)) (by rfl)), (Own.ld h (by repeat (first | with_reducible exact Pick.here | apply Pick.there)) (by rfl))⟩, ?_⟩)
  refine Rets.mono (rdPlaces hm20 hs h) ?_
  clear h
  rintro _ w ⟨qo, co, rfl, h⟩
  have h : Own e w (blk g 29 [.slice q (2 ^ m) c, .int .u64 s] :: inB qo 4 co (plL (mixI s) hh (2 ^ m) 4) :: F) := h.swap
  refine ⟨_, _, _, rfl, fun z vs w => ∃ i : Nat, vs = [.int .i64 (i : Int)] ∧ z + i = 4 ∧ Own e w (blk g 29 [.slice q (2 ^ m) c, .int .u64 s] :: inB qo 4 co (plL (mixI s) hh (2 ^ m) 4) :: F), ⟨4, 0, rfl, rfl, h⟩, ?_⟩
  clear h
  rintro z w v2 n2
  intros
  rename_i hI
  obtain ⟨i, hvs, hz, h⟩ := hI
  obtain rfl : n2 = (i : Int) := by simpa using hvs
  refine ⟨fun hc => ?_, fun hc => ⟨⟨false, rfl, fun hx => by cases hx⟩, h.drop.drop⟩⟩
  have hc := dec_t hc
  have hi : i < 4 := by omega
  refine ⟨fun z vs w => ∃ (n : Nat) (b : Bool), vs = [.bool b, .int .i64 (n : Int)] ∧ z + n = K.length ∧ (b = true → ∀ k ∈ K.take n, k ≠ hh → ∀ j, j < 4 → plN (mixI s) k (2 ^ m) j ≠ plN (mixI s) hh (2 ^ m) i) ∧ Own e w (blk g 29 [.slice q (2 ^ m) c, .int .u64 s] :: inB qo 4 co (plL (mixI s) hh (2 ^ m) 4) :: F), ⟨K.length, 0, true, rfl, rfl, fun _ k hk => (by cases hk), h⟩, ?_⟩
  clear h
  rintro z2 w b1 n3
  intros
  rename_i hI
  obtain ⟨n, b, hvs, hz2, hb, h⟩ := hI
  obtain ⟨rfl, rfl⟩ : b1 = b ∧ n3 = (n : Int) := by simpa using hvs
  refine ⟨fun hc2 => ?_, fun hc2 => ⟨fun hb1 => ?_, fun hb1 => ?_⟩⟩
  · have hc2 := dec_t hc2
    have hn : n < K.length := by omega
    obtain ⟨x, hx⟩ : ∃ x, x = K[n] := ⟨_, rfl⟩
    have et : K.take (n + 1) = K.take n ++ [x] := by rw [hx]; exact List.take_succ_eq_append_getElem hn
    have ei : IntKind.wrap .i64 ((n : Int) + 1) = ((n + 1 : Nat) : Int) := by rw [wI64 (by omega) (by omega)]; rfl
    rw [ei]
    refine ⟨by omega, by omega, (hr w h.drop.drop).int (i := n) hn fun a ha => ⟨x, by rw [Int.toNat_natCast, hx]; exact ha, fun he => ?_, fun he => ?_⟩⟩
    · have he := beq_t he
      refine ⟨z2 - 1, by omega, n + 1, b1, rfl, by omega, fun hb1 k hk hne => ?_, h⟩
      rw [et] at hk
      rcases List.mem_append.1 hk with hk | hk
      · exact hb hb1 k hk hne
      · rw [List.mem_singleton.1 hk] at hne; exact absurd he hne
    · have he := beq_f he
      refine h.drw fun w h => ⟨by omega, by omega, (hr w h.drop.drop).int (i := n) hn fun a ha => ⟨_, _, _, _, ⟨(Own.ld h (by repeat (first | with_reducible exact Pick.here | apply Pick.there)) (by rfl)), (Own.ld h (by repeat (first | with_reducible exact Pick.here | apply Pick.there)) (by rfl))⟩, x, by rw [Int.toNat_natCast, hx]; exact ha, ?_⟩⟩
      refine Rets.mono (rdPlaces (hh := x) hm20 hs h) ?_
      clear h
      rintro _ w ⟨qx, cx, rfl, h⟩
      refine ⟨_, _, _, rfl, fun z vs w => ∃ (j : Nat) (b : Bool), vs = [.bool b, .int .i64 (j : Int)] ∧ z + j = 4 ∧ (b = true → b1 = true ∧ ∀ y, y < j → plN (mixI s) x (2 ^ m) y ≠ plN (mixI s) hh (2 ^ m) i) ∧ Own e w (inB qx 4 cx (plL (mixI s) x (2 ^ m) 4) :: blk g 29 [.slice q (2 ^ m) c, .int .u64 s] :: inB qo 4 co (plL (mixI s) hh (2 ^ m) 4) :: F), ⟨4, 0, b1, rfl, rfl, fun hb => ⟨hb, fun y hy => (by omega)⟩, h⟩, ?_⟩
      clear h
      rintro z3 w b2 n7
      intros
      rename_i hI
      obtain ⟨j, b', hvs, hz3, hb', h⟩ := hI
      obtain ⟨rfl, rfl⟩ : b2 = b' ∧ n7 = (j : Int) := by simpa using hvs
      refine ⟨fun hc3 => ?_, fun hc3 => ?_⟩
      · have hc3 := dec_t hc3
        have hj : j < 4 := by omega
        have ej : IntKind.wrap .i64 ((j : Int) + 1) = ((j + 1 : Nat) : Int) := by rw [wI64 (by omega) (by omega)]; rfl
        rw [ej]
        refine h.drw fun w h => ⟨by omega, by omega, (Own.rdP (T := 3) (q := qx) h (by repeat (first | with_reducible exact Pick.here | apply Pick.there))).int (i := j) (by rw [hlen]; exact hj) fun a ha => ⟨by omega, by omega, (Own.rdP (T := 3) (q := qo) h (by repeat (first | with_reducible exact Pick.here | apply Pick.there))).int (i := i) (by rw [hlen]; exact hi) fun a2 ha2 => ⟨(plN (mixI s) x (2 ^ m) j : Int), ?_, (plN (mixI s) hh (2 ^ m) i : Int), ?_, fun hq => ?_, fun hq => ?_⟩⟩⟩
        · rw [Int.toNat_natCast, ← plL_get hj]; exact ha
        · rw [Int.toNat_natCast, ← plL_get hi]; exact ha2
        · exact ⟨z3 - 1, by omega, j + 1, false, rfl, by omega, fun hx => (by cases hx), h⟩
        · have hq := beq_f hq
          refine ⟨z3 - 1, by omega, j + 1, b2, rfl, by omega, fun hb2 => ⟨(hb' hb2).1, fun y hy => ?_⟩, h⟩
          by_cases hyj : y = j
          · subst hyj; omega
          · exact (hb' hb2).2 y (by omega)
      · have hc3 := dec_f hc3
        obtain rfl : j = 4 := by omega
        refine ⟨z2 - 1, by omega, n + 1, b2, rfl, by omega, fun hb2 k hk hne => ?_, h.drop⟩
        rw [et] at hk
        rcases List.mem_append.1 hk with hk | hk
        · exact hb (hb' hb2).1 k hk hne
        · rw [List.mem_singleton.1 hk]; exact (hb' hb2).2
  · have hc2 := dec_f hc2
    obtain rfl : n = K.length := by omega
    rw [List.take_length] at hb
    exact ⟨⟨true, rfl, fun _ => ⟨i, hi, hb hb1⟩⟩, h.drop.drop⟩
  · exact ⟨z - 1, by omega, i + 1, by rw [wI64 (by omega) (by omega)]; rfl, by omega, h⟩
theorem dnPut (h : Own e w F) : Rets Tryd.prog 14 #[.pointer none, .int .u64 hh] w fun v w' => v = .bool false ∧ Own e w' F :=
  door_nil_Put_go _ ⟨fun hc => (by cases hc), fun _ => ⟨rfl, h⟩⟩
theorem dnClear (h : Own e w F) : Rets Tryd.prog 18 #[.pointer none] w fun v w' => v = .tuple #[] ∧ Own e w' F :=
  door_nil_Clear_go ⟨fun hc => (by cases hc), fun _ => ⟨rfl, h⟩⟩
theorem dnFull (h : Own e w F) : Rets Tryd.prog 15 #[.pointer none] w fun v w' => v = .int .i64 0 ∧ Own e w' F :=
  door_nil_Full_go ⟨fun _ => ⟨rfl, h⟩, fun hc => (by cases hc)⟩
theorem dnBits (h : Own e w F) : Rets Tryd.prog 17 #[.pointer none] w fun v w' => v = .int .i64 0 ∧ Own e w' F :=
  door_nil_Bits_go ⟨fun _ => ⟨rfl, h⟩, fun hc => (by cases hc)⟩
end
end Go.Proofs.YtfcddffcjmgpkaaDoor.Eng
