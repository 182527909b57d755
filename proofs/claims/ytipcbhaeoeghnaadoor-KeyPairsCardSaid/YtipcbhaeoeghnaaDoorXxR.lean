/- Digests of bytes: the sums, and the document's. -/
import Derived.Test.YtipcbhaeoeghnaaDoorXxQ
namespace Go.Proofs.YtipcbhaeoeghnaaDoor.Eng
open Go Go.RowKit Go.Proofs
set_option linter.unusedVariables false
set_option linter.unusedSimpArgs false
set_option maxRecDepth 1000000
section
variable {e w : World} {F : List HP} {g c : Nat} {q : Option Addr} {s x hh : Int} {all bs : List Int}
theorem smL_M64 (hs : M64 s) (bs : List Int) : ∀ (k j : Nat), M64 ((smL s bs k).getD j 0)
  | 0, 0 => M64.w _
  | 0, 1 => M64.w _
  | 0, 2 => hs
  | 0, 3 => M64.w _
  | 0, j + 4 => by unfold smL sm0; simp; exact ⟨by omega, by omega⟩
  | k + 1, j => by
    unfold smL tkP
    rw [List.getD_eq_getElem?_getD]
    by_cases hj : j < 4
    · simp [hj]; exact rdI_M64 _ _
    · simp [hj]; exact ⟨by omega, by omega⟩
theorem xxBegun (hs : M64 s) (hn : all.length ≤ 1000000) (h : Own e w (xxO g s all :: F)) : Rets Tryd.prog 92 #[.pointer (some ⟨g, 0, none⟩)] w fun v w' => v = .int .u64 (xbI s all) ∧ Own e w' (xxO g s all :: F) := by
  obtain ⟨wt, hwt, h⟩ := xxO.op h
  have hs4 := smL_len s all (all.length / 32)
  refine xx_Digest_begun_go _ ⟨_, Own.ld (g := g) h (by repeat (first | with_reducible exact Pick.here | apply Pick.there)) (dgV_n hs4 hwt.1), fun hc => ?_, fun hc => ?_⟩
  · have hc := dec_t hc
    refine ⟨s, Own.ld (g := g) h (by repeat (first | with_reducible exact Pick.here | apply Pick.there)) rfl, ?_, xxO.cl hwt h⟩
    unfold xbI; rw [if_pos (by omega)]; rfl
  have hc := dec_f hc
  obtain ⟨ss, hss⟩ : ∃ ss, ss = smL s all (all.length / 32) := ⟨_, rfl⟩
  have hM : ∀ j, M64 (ss.getD j 0) := fun j => by rw [hss]; exact smL_M64 hs _ _ _
  rw [← hss] at h hs4
  have ea : ∀ i, ((⟨g, 0, none⟩ : Addr).add 1).add i = (⟨g, 0, none⟩ : Addr).add (1 + i) := fun i => addr_add_add _ _ _
  simp only [ea]
  have rd : ∀ j, j < 4 → ∀ w, Own e w (blk g 119 (dgV s ss wt (all.length : Nat)) :: F) → cellAt w ((⟨g, 0, none⟩ : Addr).add (1 + j)) (.int .u64 (ss.getD j 0)) := fun j hj w h => Own.ld (g := g) h (by repeat (first | with_reducible exact Pick.here | apply Pick.there)) (dgV_s hs4 hj)
  refine h.drw fun w h => ⟨fun w => Own e w (blk g 119 (dgV s ss wt (all.length : Nat)) :: F), h, by omega, by omega, by omega, by omega, by omega, by omega, by omega, by omega, _, rd 0 (by omega), _, rd 1 (by omega), _, rd 2 (by omega), _, rd 3 (by omega), ?_⟩
  refine Rets.mono (wdTurn (K := 1) (hM 0) (by omega) h) ?_
  rintro _ w ⟨rfl, h⟩
  refine ⟨_, rfl, h, ?_⟩
  refine Rets.mono (wdTurn (K := 7) (hM 1) (by omega) h) ?_
  rintro _ w ⟨rfl, h⟩
  refine ⟨_, rfl, h, ?_⟩
  refine Rets.mono (wdTurn (K := 12) (hM 2) (by omega) h) ?_
  rintro _ w ⟨rfl, h⟩
  refine ⟨_, rfl, h, ?_⟩
  refine Rets.mono (wdTurn (K := 18) (hM 3) (by omega) h) ?_
  rintro _ w ⟨rfl, h⟩
  refine ⟨_, rfl, _, _, _, _, ⟨rd 0 (by omega) w h, rd 1 (by omega) w h, rd 2 (by omega) w h, rd 3 (by omega) w h⟩, fun m vs w => ∃ i : Nat, vs = [.int .u64 (bgI ss i), .int .i64 (i : Int)] ∧ m + i = 4 ∧ Own e w (blk g 119 (dgV s ss wt (all.length : Nat)) :: F), ⟨4, 0, rfl, rfl, h⟩, ?_⟩
  clear h
  rintro m w n15 v5 n16
  intros
  rename_i hI
  obtain ⟨i, hvs, hm, h⟩ := hI
  obtain ⟨rfl, rfl⟩ : n15 = bgI ss i ∧ n16 = (i : Int) := by simpa using hvs
  refine ⟨fun hx => ?_, fun hx => ?_⟩
  · have hx := dec_t hx
    refine ⟨by omega, by omega, ss.getD i 0, ?_, ?_⟩
    · obtain h | h | h | h : i = 0 ∨ i = 1 ∨ i = 2 ∨ i = 3 := by omega
      all_goals (subst h; rfl)
    refine Rets.mono (xxRound h) ?_
    rintro _ w ⟨rfl, h⟩
    exact ⟨_, rfl, m - 1, by omega, i + 1, by rw [wI64 (by omega) (by omega)]; rfl, by omega, h⟩
  · have hx := dec_f hx
    obtain rfl : i = 4 := by omega
    refine ⟨?_, xxO.cl hwt (by rw [← hss]; exact h)⟩
    unfold xbI; rw [if_neg (by omega), hss]
theorem l8I_M64 {h : Int} (hh : M64 h) (bs : List Int) : ∀ j, M64 (l8I h bs j)
  | 0 => hh
  | j + 1 => w64_M64 _
theorem l1I_M64 : ∀ (l : List Int) {h : Int}, M64 h → M64 (l1I h l)
  | [], h, hh => hh
  | x :: r, h, hh => l1I_M64 r (w64_M64 _)
theorem lfI_M64 {h : Int} (hh : M64 h) (bs : List Int) : M64 (lfI h bs) := by
  unfold lfI
  simp only
  split
  · exact l1I_M64 _ (w64_M64 _)
  · exact l1I_M64 _ (l8I_M64 hh _ _)
theorem l1I_take (h : Int) (l : List Int) {i : Nat} (hi : i < l.length) : l1I h (l.take (i + 1)) = w64 (trI (xorI (l1I h (l.take i)) (w64 (l[i] * xP5))) 11 * xP1) := by
  rw [List.take_succ_eq_append_getElem hi, l1I_snoc]
theorem xxLeft (hb : By bs) (hr : ∀ w, Own e w F → RdC w q (cs .u8 bs)) (hc : bs.length ≤ c) (h : Own e w F) : Rets Tryd.prog 91 #[.int .u64 hh, .slice q bs.length c] w fun v w' => v = .int .u64 (lfI hh bs) ∧ Own e w' F := by
  refine xx_left_go _ _ _ _ ⟨fun m vs w => ∃ (j : Nat) (q' : Option Addr) (c' : Nat), vs = [.int .u64 (l8I hh bs j), .slice q' (bs.drop (8 * j)).length c'] ∧ m = (bs.drop (8 * j)).length ∧ 8 * j ≤ bs.length ∧ (bs.drop (8 * j)).length ≤ c' ∧ (∀ w, Own e w F → RdC w q' (cs .u8 (bs.drop (8 * j)))) ∧ Own e w F, ⟨bs.length, 0, q, c, rfl, rfl, Nat.zero_le _, hc, hr, h⟩, ?_⟩
  clear h
  rintro m w n1 q1 k3 k4
  intros
  rename_i hI
  obtain ⟨j, q', c', hvs, rfl, hj, hcl, hrd, h⟩ := hI
  obtain ⟨rfl, rfl, rfl, rfl⟩ : n1 = l8I hh bs j ∧ q1 = q' ∧ k3 = (bs.drop (8 * j)).length ∧ k4 = c' := by simpa using hvs
  obtain ⟨r, hr'⟩ : ∃ r, r = bs.drop (8 * j) := ⟨_, rfl⟩
  have hbr : By r := by rw [hr']; exact hb.drop _
  have hrl : r.length = bs.length - 8 * j := by rw [hr']; simp
  have hnm : nmI bs (8 * j) = (numN (r.take 8) : Int) := by unfold nmI; rw [hr']
  rw [← hr'] at hcl hrd ⊢
  have tk : ∀ n, n ≤ r.length → ∀ w, Own e w F → RdC w (slcA q1 0 k4 1) (cs .u8 (r.take n)) := fun n hn w h => by
    have h1 := (hrd w h).cut (l := 0) (c := k4) (by omega) (by rw [cs_len]; omega)
    rw [List.drop_zero] at h1
    have h2 := h1.take n
    rwa [show (cs .u8 r).take n = cs .u8 (r.take n) by simp [cs]] at h2
  refine ⟨fun hx => ?_, fun hx => ?_⟩
  · have hx := dec_t hx
    refine ⟨by omega, by omega, ?_⟩
    have e8 : (r.take 8).length = 8 := by rw [List.length_take]; omega
    have h1 := xxNumber (q := slcA q1 0 k4 1) (c := k4 - 0) (hbr.take 8) (by omega) (tk 8 (by omega)) h
    rw [e8] at h1
    refine Rets.mono h1 ?_
    rintro _ w ⟨rfl, h⟩
    refine ⟨_, rfl, ?_⟩
    refine Rets.mono (xxRound h) ?_
    rintro _ w ⟨rfl, h⟩
    refine ⟨_, rfl, ?_⟩
    refine Rets.mono (wdTurn (K := 27) (bits_M64 _ _) (by omega) h) ?_
    rintro _ w ⟨rfl, h⟩
    have ed : bs.drop (8 * (j + 1)) = r.drop 8 := by rw [hr', List.drop_drop, Nat.mul_add]
    refine ⟨_, rfl, by omega, by omega, r.length - 8, by omega, j + 1, slcA q1 8 k4 1, k4 - 8, ?_, ?_, by omega, ?_, fun w h => ?_, h⟩
    · rw [ed, List.length_drop]
      show _ = [Value.int .u64 (w64 (w64 (trI (xorI (l8I hh bs j) (rdI 0 (nmI bs (8 * j)))) 27 * xP1) + xP4)), _]
      rw [hnm]; rfl
    · rw [ed, List.length_drop]
    · rw [ed, List.length_drop]; omega
    · rw [ed, cs_drop]
      exact (hrd w h).cut (by rw [cs_len]; omega) (by rw [cs_len]; omega)
  · have hx := dec_f hx
    have hj8 : bs.length / 8 = j := by omega
    have elf : lfI hh bs = if 4 ≤ r.length then l1I (l4I (l8I hh bs j) (numN (r.take 4) : Int)) (r.drop 4) else l1I (l8I hh bs j) r := by
      unfold lfI; simp only [hj8]; rw [← hr']
    refine ⟨fun vs w => ∃ (y : Int) (r2 : List Int) (q' : Option Addr) (c' : Nat), vs = [.int .u64 y, .slice q' r2.length c'] ∧ By r2 ∧ l1I y r2 = lfI hh bs ∧ r2.length ≤ 1000 ∧ (∀ w, Own e w F → RdC w q' (cs .u8 r2)) ∧ Own e w F, ⟨fun h4 => ?_, fun h4 => ?_⟩, ?_⟩
    · have h4 := dec_t h4
      have e4 : (r.take 4).length = 4 := by rw [List.length_take]; omega
      have h1 := xxNumber (q := slcA q1 0 k4 1) (c := k4 - 0) (hbr.take 4) (by omega) (tk 4 (by omega)) h
      rw [e4] at h1
      refine ⟨by omega, by omega, ?_⟩
      refine Rets.mono h1 ?_
      rintro _ w ⟨rfl, h⟩
      refine ⟨_, rfl, ?_⟩
      refine Rets.mono (wdTurn (K := 23) (bits_M64 _ _) (by omega) h) ?_
      rintro _ w ⟨rfl, h⟩
      refine ⟨_, rfl, by omega, by omega, l4I (l8I hh bs j) (numN (r.take 4) : Int), r.drop 4, slcA q1 4 k4 1, k4 - 4, ?_, hbr.drop 4, ?_, by rw [List.length_drop]; omega, fun w h => ?_, h⟩
      · rw [List.length_drop]; rfl
      · rw [elf, if_pos (by omega)]
      · rw [cs_drop]
        exact (hrd w h).cut (by rw [cs_len]; omega) (by rw [cs_len]; omega)
    · have h4 := dec_f h4
      exact ⟨_, r, q1, k4, rfl, hbr, by rw [elf, if_neg (by omega)], by omega, hrd, h⟩
    clear h
    rintro w n7 q2 k6 k7
    intros
    rename_i hI
    obtain ⟨y, r2, q', c', hvs, hb2, hl1, hl2, hr2, h⟩ := hI
    obtain ⟨rfl, rfl, rfl, rfl⟩ : n7 = y ∧ q2 = q' ∧ k6 = r2.length ∧ k7 = c' := by simpa using hvs
    refine ⟨fun m vs w => ∃ i : Nat, vs = [.int .u64 (l1I n7 (r2.take i)), .int .i64 (i : Int)] ∧ m + i = r2.length ∧ Own e w F, ⟨r2.length, 0, rfl, rfl, h⟩, ?_⟩
    clear h
    rintro m w n8 v31 n9
    intros
    rename_i hI
    obtain ⟨i, hvs, hm, h⟩ := hI
    obtain ⟨rfl, rfl⟩ : n8 = l1I n7 (r2.take i) ∧ n9 = (i : Int) := by simpa using hvs
    refine ⟨fun hc => ?_, fun hc => ?_⟩
    · have hc := dec_t hc
      have hi : i < r2.length := by omega
      have hx := hb2 r2[i] (List.getElem_mem hi)
      refine ⟨by omega, by omega, (hr2 w h).int (i := i) hi fun a ha => ⟨_, by rw [Int.toNat_natCast]; exact ha, ?_⟩⟩
      rw [wU64' (n := r2[i]) (by omega) (by omega)]
      refine Rets.mono (wdTurn (K := 11) (bits_M64 _ _) (by omega) h) ?_
      rintro _ w ⟨rfl, h⟩
      refine ⟨_, rfl, m - 1, by omega, i + 1, ?_, by omega, h⟩
      rw [l1I_take _ _ hi, wI64 (by omega) (by omega)]; rfl
    · have hc := dec_f hc
      obtain rfl : i = r2.length := by omega
      rw [List.take_length]
      exact ⟨by rw [hl1], h⟩
theorem xxDSum (hs : M64 s) (hn : all.length ≤ 1000000) (h : Own e w (xxO g s all :: F)) : Rets Tryd.prog 73 #[.pointer (some ⟨g, 0, none⟩)] w fun v w' => v = .int .u64 (xxI s all) ∧ Own e w' (xxO g s all :: F) := by
  refine xx_Digest_Sum_go _ ⟨fun hc => (by cases hc), fun _ => h.drw fun w h => ⟨fun w => Own e w (xxO g s all :: F), h, ?_⟩⟩
  have rd : ∀ w, Own e w (xxO g s all :: F) → cellAt w ((⟨g, 0, none⟩ : Addr).add 37) (.int .i64 (all.length : Nat)) := fun w h => by
    obtain ⟨wt, hwt, h⟩ := xxO.op h
    exact Own.ld (g := g) h (by repeat (first | with_reducible exact Pick.here | apply Pick.there)) (dgV_n (smL_len _ _ _) hwt.1)
  have en : Int.tmod (all.length : Int) 32 = ((all.length % 32 : Nat) : Int) := by rw [Int.tmod_eq_emod_of_nonneg (by omega)]; omega
  refine ⟨_, rd, _, rd, by omega, ?_⟩
  rw [en]
  refine ⟨by omega, by omega, ?_⟩
  refine Rets.mono (xxBegun hs hn h) ?_
  clear h
  rintro _ w ⟨rfl, h⟩
  refine ⟨_, rfl, h, ?_⟩
  obtain ⟨wt, hwt, h⟩ := xxO.op h
  have hs4 := smL_len s all (all.length / 32)
  have eq : slcA (some ((⟨g, 0, none⟩ : Addr).add 5)) 0 32 1 = some ((⟨g, 0, none⟩ : Addr).add (5 + 0)) := by
    unfold slcA; rw [if_neg (by omega)]
    simp only [Option.map_some, addr_add_add, Nat.mul_one]
  have elen : Int.toNat ((all.length % 32 : Nat) : Int) - 0 = (wt.take (all.length % 32)).length := by rw [Int.toNat_natCast, List.length_take]; omega
  rw [eq, elen]
  refine Rets.mono (xxLeft (hwt.2.1.take _) (fun w h => ?_) (by rw [List.length_take]; omega) h) ?_
  · have h1 := h.rdAt (5 + 0)
    rw [dgV_w hs4 hwt.1 (by omega), List.drop_zero] at h1
    have h2 := h1.pre.take (all.length % 32)
    rwa [show (cs .u8 wt).take (all.length % 32) = cs .u8 (wt.take (all.length % 32)) by simp [cs]] at h2
  rintro _ w ⟨rfl, h⟩
  refine ⟨_, rfl, by omega, by omega, by omega, ?_, xxO.cl hwt h⟩
  rw [hwt.2.2]; rfl
theorem xxSum (hs : M64 s) (hb : By bs) (hr : ∀ w, Own e w F → RdC w q (cs .u8 bs)) (hc : bs.length ≤ c) (hn : bs.length ≤ 1000000) (h : Own e w F) : Rets Tryd.prog 44 #[.slice q bs.length c, .int .u64 s] w fun v w' => v = .int .u64 (xxI s bs) ∧ Own e w' F := by
  refine xx_Sum_go _ _ _ _ ?_
  refine Rets.mono (xxNew h) ?_
  rintro _ w ⟨g, rfl, h⟩
  refine ⟨_, rfl, ?_⟩
  refine Rets.mono (xxWrite hb hr hc (by simp; omega) h) ?_
  rintro _ w ⟨rfl, h⟩
  rw [List.nil_append] at h
  refine ⟨rfl, ?_⟩
  refine Rets.mono (xxDSum hs hn h) ?_
  rintro _ w ⟨rfl, h⟩
  exact ⟨_, rfl, rfl, h.drop⟩
/-! ### The document's -/
theorem rfSums (hs : M64 s) (hb : By bs) (hr : ∀ w, Own e w F → RdC w q (cs .u8 bs)) (hc : bs.length ≤ c) (hn : bs.length ≤ 1000000) (h : Own e w F) : Rets Tryd.prog 77 #[.slice q bs.length c, .int .u64 s] w fun v w' => ∃ g, v = .slice (some ⟨g, 0, none⟩) 4 4 ∧ Own e w' (blk g 33 (cs .u64 (smL s bs (bs.length / 32))) :: F) := by
  refine cortadoref04_sums_go _ _ _ _ ?_
  refine Rets.mono (rfP (i := 1) (by omega) h) ?_
  rintro _ w ⟨rfl, h⟩
  refine ⟨_, rfl, ?_⟩
  refine Rets.mono (rfP (i := 2) (by omega) h) ?_
  rintro _ w ⟨rfl, h⟩
  refine ⟨_, rfl, ?_⟩
  refine Rets.mono (rfP (i := 2) (by omega) h) ?_
  rintro _ w ⟨rfl, h⟩
  refine ⟨_, rfl, ?_⟩
  refine Rets.mono (rfP (i := 1) (by omega) h) ?_
  rintro _ w ⟨rfl, h⟩
  refine ⟨_, rfl, h.newR fun g w h => ?_⟩
  have h : Own e w (blk g 33 (cs .u64 (smL s bs 0)) :: F) := h
  refine ⟨fun m vs w => ∃ k : Nat, vs = [.int .i64 ((32 * k : Nat) : Int)] ∧ m + 32 * k = bs.length ∧ Own e w (blk g 33 (cs .u64 (smL s bs k)) :: F), ⟨bs.length, 0, rfl, rfl, h⟩, ?_⟩
  clear h
  rintro m w n5
  intros
  rename_i hI
  obtain ⟨k, hvs, hm, h⟩ := hI
  obtain rfl : n5 = ((32 * k : Nat) : Int) := by simpa using hvs
  have e32 : IntKind.wrap .i64 (((32 * k : Nat) : Int) + 32) = ((32 * (k + 1) : Nat) : Int) := by rw [wI64 (by omega) (by omega)]; omega
  rw [e32]
  refine ⟨fun hx => ?_, fun hx => ?_⟩
  · have hx := dec_t hx
    have hs4 := smL_len s bs k
    obtain ⟨bl, hbl⟩ : ∃ bl, bl = bs.drop (32 * k) := ⟨_, rfl⟩
    obtain ⟨ss, hss⟩ : ∃ ss, ss = smL s bs k := ⟨_, rfl⟩
    have hbll : 32 ≤ bl.length := by rw [hbl, List.length_drop]; omega
    rw [← hss] at h hs4
    refine ⟨fun m vs w => ∃ i : Nat, vs = [.int .i64 (i : Int)] ∧ m + i = 4 ∧ Own e w (blk g 33 (cs .u64 (tkP ss bl i)) :: F), ⟨4, 0, rfl, rfl, by rw [tkP_zero bl hs4]; exact h⟩, ?_⟩
    clear h
    rintro m2 w n6
    intros
    rename_i hI
    obtain ⟨i, hvs, hm2, h⟩ := hI
    obtain rfl : n6 = (i : Int) := by simpa using hvs
    have hl4 := tkP_len ss bl i
    refine ⟨fun hx => ?_, fun hx => ?_⟩
    · have hx := dec_t hx
      have hi : i < 4 := by omega
      have e8 : IntKind.wrap .i64 (((32 * k : Nat) : Int) + IntKind.wrap .i64 (8 * (i : Int))) = ((32 * k + 8 * i : Nat) : Int) := by rw [wI64 (n := 8 * (i : Int)) (by omega) (by omega), wI64 (by omega) (by omega)]; omega
      have e16 : IntKind.wrap .i64 (((32 * k + 8 * i : Nat) : Int) + 8) = ((32 * k + 8 * i + 8 : Nat) : Int) := by rw [wI64 (by omega) (by omega)]; omega
      have eb : (bl.drop (8 * i)).take 8 = (bs.drop (32 * k + 8 * i)).take 8 := by rw [hbl, List.drop_drop]
      have el : 32 * k + 8 * i + 8 - (32 * k + 8 * i) = ((bl.drop (8 * i)).take 8).length := by rw [List.length_take, List.length_drop]; omega
      simp only [e8, e16, Int.toNat_natCast, el, Nat.mul_one]
      refine h.drw fun w h => ⟨fun w => Own e w (blk g 33 (cs .u64 (tkP ss bl i)) :: F), h, by omega, by omega, by omega, by omega, by omega, by omega, (tkP ss bl i)[i], fun w h => Own.ld (g := g) h (by repeat (first | with_reducible exact Pick.here | apply Pick.there)) (cs_at (by omega)), ?_⟩
      refine Rets.mono (rfNumber (bs := (bl.drop (8 * i)).take 8) ((show By bl by rw [hbl]; exact hb.drop _).drop _ |>.take _) (by rw [List.length_take]; omega) (fun w h => ?_) h) ?_
      · have h1 := (hr w h.drop).cut (l := 32 * k + 8 * i) (c := c) (by rw [cs_len]; omega) (by rw [cs_len]; omega)
        have h2 := h1.take 8
        rw [eb]
        rwa [show ((cs .u8 bs).drop (32 * k + 8 * i)).take 8 = cs .u8 ((bs.drop (32 * k + 8 * i)).take 8) by simp [cs]] at h2
      rintro _ w ⟨rfl, h⟩
      refine ⟨_, rfl, h, ?_⟩
      refine Rets.mono (rfRound h) ?_
      rintro _ w ⟨rfl, h⟩
      refine ⟨_, rfl, by omega, by omega, ?_⟩
      refine Own.store h (by rw [cs_len, hl4]; simp; omega) (by simp [Value.oneCell']) fun w h => ⟨m2 - 1, by omega, i + 1, by rw [wI64 (by omega) (by omega)]; rfl, by omega, ?_⟩
      have e1 : (tkP ss bl i)[i] = ss.getD i 0 := tkP_get hi
      rw [e1, cs_set] at h
      have e2 := tkP_set (ss := ss) (bl := bl) hi
      rw [← e2]; exact h
    · have hx := dec_f hx
      obtain rfl : i = 4 := by omega
      refine ⟨m - 32, by omega, k + 1, rfl, by omega, ?_⟩
      show Own e w (blk g 33 (cs .u64 (tkP (smL s bs k) (bs.drop (32 * k)) 4)) :: F)
      rw [← hss, ← hbl]; exact h
  · have hx := dec_f hx
    have : bs.length / 32 = k := by omega
    rw [this]
    exact ⟨g, rfl, h⟩
theorem rfSum (hs : M64 s) (hb : By bs) (hr : ∀ w, Own e w F → RdC w q (cs .u8 bs)) (hc : bs.length ≤ c) (hn : bs.length ≤ 1000000) (h : Own e w F) : Rets Tryd.prog 48 #[.slice q bs.length c, .int .u64 s] w fun v w' => v = .int .u64 (xxI s bs) ∧ Own e w' F := by
  refine cortadoref04_Sum_go _ _ _ _ ?_
  refine Rets.mono (rfP (i := 5) (by omega) h) ?_
  clear h
  rintro _ w ⟨rfl, h⟩
  refine ⟨_, rfl, fun vs w => vs = [.int .u64 (xbI s bs)] ∧ Own e w F, ⟨fun hx => ?_, fun hx => ⟨?_, h⟩⟩, ?_⟩
  · have hx := dec_t hx
    refine Rets.mono (rfSums hs hb hr hc hn h) ?_
    clear h
    rintro _ w ⟨g, rfl, h⟩
    obtain ⟨ss, hss⟩ : ∃ ss, ss = smL s bs (bs.length / 32) := ⟨_, rfl⟩
    have hs4 : ss.length = 4 := by rw [hss]; exact smL_len _ _ _
    have hM : ∀ j, M64 (ss.getD j 0) := fun j => by rw [hss]; exact smL_M64 hs _ _ _
    rw [← hss] at h
    have rd : ∀ j, j < 4 → ∀ w, Own e w (blk g 33 (cs .u64 ss) :: F) → cellAt w ((⟨g, 0, none⟩ : Addr).add j) (.int .u64 (ss.getD j 0)) := fun j hj w h => Own.ld (g := g) h (by repeat (first | with_reducible exact Pick.here | apply Pick.there)) (by rw [cs_at (by omega), List.getD_eq_getElem?_getD, List.getElem?_eq_getElem (by omega)]; rfl)
    refine ⟨_, _, _, rfl, h.drw fun w h => ⟨fun w => Own e w (blk g 33 (cs .u64 ss) :: F), h, by omega, by omega, smR ⟨by omega, by omega, smR ⟨by omega, by omega, smR ⟨by omega, by omega, smR ⟨_, rd 0 (by omega), _, rd 1 (by omega), _, rd 2 (by omega), _, rd 3 (by omega), ?_⟩⟩⟩⟩⟩⟩
    refine Rets.mono (rfTurn (K := 1) (hM 0) (by omega) h) ?_
    rintro _ w ⟨rfl, h⟩
    refine ⟨_, rfl, h, ?_⟩
    refine Rets.mono (rfTurn (K := 7) (hM 1) (by omega) h) ?_
    rintro _ w ⟨rfl, h⟩
    refine ⟨_, rfl, h, ?_⟩
    refine Rets.mono (rfTurn (K := 12) (hM 2) (by omega) h) ?_
    rintro _ w ⟨rfl, h⟩
    refine ⟨_, rfl, h, ?_⟩
    refine Rets.mono (rfTurn (K := 18) (hM 3) (by omega) h) ?_
    rintro _ w ⟨rfl, h⟩
    refine ⟨_, rfl, fun m vs w => ∃ i : Nat, vs = [.int .u64 (bgI ss i), .int .i64 (i : Int)] ∧ m + i = 4 ∧ Own e w (blk g 33 (cs .u64 ss) :: F), ⟨4, 0, rfl, rfl, h⟩, ?_⟩
    clear h
    rintro m w n10 n11
    intros
    rename_i hI
    obtain ⟨i, hvs, hm, h⟩ := hI
    obtain ⟨rfl, rfl⟩ : n10 = bgI ss i ∧ n11 = (i : Int) := by simpa using hvs
    refine ⟨fun hx => ?_, fun hx => ?_⟩
    · have hx := dec_t hx
      refine ⟨by omega, by omega, smR ⟨_, by rw [Int.toNat_natCast, Nat.mul_one]; exact rd i (by omega) w h, ?_⟩⟩
      refine Rets.mono (rfRound h) ?_
      rintro _ w ⟨rfl, h⟩
      refine ⟨_, rfl, ?_⟩
      refine Rets.mono (rfP (i := 1) (by omega) h) ?_
      rintro _ w ⟨rfl, h⟩
      refine ⟨_, rfl, ?_⟩
      refine Rets.mono (rfP (i := 4) (by omega) h) ?_
      rintro _ w ⟨rfl, h⟩
      exact ⟨_, rfl, m - 1, by omega, i + 1, by rw [wI64 (by omega) (by omega)]; rfl, by omega, h⟩
    · have hx := dec_f hx
      obtain rfl : i = 4 := by omega
      refine ⟨?_, h.drop⟩
      unfold xbI; rw [if_neg (by omega), hss]
  · have hx := dec_f hx
    unfold xbI; rw [if_pos (by omega)]; rfl
  clear h
  rintro w n16
  intros
  rename_i hI
  obtain ⟨hvs, h⟩ := hI
  obtain rfl : n16 = xbI s bs := by simpa using hvs
  obtain ⟨H, hH⟩ : ∃ H, H = w64 (xbI s bs + w64 (bs.length : Nat)) := ⟨_, rfl⟩
  have eH : IntKind.wrap .u64 (xbI s bs + IntKind.wrap .u64 (bs.length : Int)) = H := by rw [hH]; rfl
  obtain ⟨a0, ha0⟩ : ∃ a0, a0 = 32 * (bs.length / 32) := ⟨_, rfl⟩
  have ea : IntKind.wrap .i64 ((bs.length : Int) - Int.tmod (bs.length : Int) 32) = (a0 : Int) := by
    have e1 : Int.tmod (bs.length : Int) 32 = ((bs.length % 32 : Nat) : Int) := by rw [Int.tmod_eq_emod_of_nonneg (by omega)]; omega
    rw [e1, wI64 (by omega) (by omega)]; omega
  obtain ⟨rest, hrest⟩ : ∃ rest, rest = bs.drop a0 := ⟨_, rfl⟩
  have hrl : rest.length = bs.length - a0 := by rw [hrest, List.length_drop]
  have exx : xxI s bs = enI (lfI H rest) := by rw [hH, hrest, ha0]; rfl
  rw [exx, eH, ea]
  have cut : ∀ p n, p + n ≤ bs.length → ∀ w, Own e w F → RdC w (slcA q p c 1) (cs .u8 ((bs.drop p).take n)) := fun p n hp w h => by
    have h1 := (hr w h).cut (l := p) (c := c) (by rw [cs_len]; omega) (by rw [cs_len]; omega)
    have h2 := h1.take n
    rwa [show ((cs .u8 bs).drop p).take n = cs .u8 ((bs.drop p).take n) by simp [cs]] at h2
  refine ⟨by omega, fun m vs w => ∃ j : Nat, vs = [.int .u64 (l8I H rest j), .int .i64 ((a0 + 8 * j : Nat) : Int)] ∧ m + (a0 + 8 * j) = bs.length ∧ Own e w F, ⟨bs.length - a0, 0, rfl, by omega, h⟩, ?_⟩
  clear h
  rintro m w n17 n18
  intros
  rename_i hI
  obtain ⟨j, hvs, hm, h⟩ := hI
  obtain ⟨rfl, rfl⟩ : n17 = l8I H rest j ∧ n18 = ((a0 + 8 * j : Nat) : Int) := by simpa using hvs
  have e8 : IntKind.wrap .i64 (((a0 + 8 * j : Nat) : Int) + 8) = ((a0 + 8 * j + 8 : Nat) : Int) := by rw [wI64 (by omega) (by omega)]; omega
  have e4 : IntKind.wrap .i64 (((a0 + 8 * j : Nat) : Int) + 4) = ((a0 + 8 * j + 4 : Nat) : Int) := by rw [wI64 (by omega) (by omega)]; omega
  rw [e8, e4]
  simp only [Int.toNat_natCast]
  obtain ⟨p, hp⟩ : ∃ p, p = a0 + 8 * j := ⟨_, rfl⟩
  have hpd : rest.drop (8 * j) = bs.drop p := by rw [hrest, List.drop_drop, hp]
  have hpl : (bs.drop p).length = bs.length - p := by rw [List.length_drop]
  rw [← hp]
  refine ⟨fun hx => ?_, fun hx => ?_⟩
  · have hx := dec_t hx
    have el : ((bs.drop p).take 8).length = 8 := by rw [List.length_take]; omega
    have h1 := rfNumber (bs := (bs.drop p).take 8) (q := slcA q p c 1) (c := c - p) ((hb.drop _).take _) (by omega) (cut p 8 (by omega)) h
    rw [el] at h1
    refine ⟨by omega, by omega, by omega, by omega, ?_⟩
    rw [show p + 8 - p = 8 by omega]
    refine Rets.mono h1 ?_
    rintro _ w ⟨rfl, h⟩
    refine ⟨_, rfl, ?_⟩
    refine Rets.mono (rfRound h) ?_
    rintro _ w ⟨rfl, h⟩
    refine ⟨_, rfl, ?_⟩
    refine Rets.mono (rfTurn (K := 27) (bits_M64 _ _) (by omega) h) ?_
    rintro _ w ⟨rfl, h⟩
    refine ⟨_, rfl, ?_⟩
    refine Rets.mono (rfP (i := 1) (by omega) h) ?_
    rintro _ w ⟨rfl, h⟩
    refine ⟨_, rfl, ?_⟩
    refine Rets.mono (rfP (i := 4) (by omega) h) ?_
    rintro _ w ⟨rfl, h⟩
    refine ⟨_, rfl, m - 8, by omega, j + 1, ?_, by omega, h⟩
    have : l8I H rest (j + 1) = w64 (w64 (trI (xorI (l8I H rest j) (rdI 0 (numN ((bs.drop p).take 8) : Int))) 27 * xP1) + xP4) := by
      show w64 (w64 (trI (xorI (l8I H rest j) (rdI 0 (nmI rest (8 * j)))) 27 * xP1) + xP4) = _
      unfold nmI; rw [hpd]
    rw [this, show p + 8 = a0 + 8 * (j + 1) by omega]; rfl
  · have hx := dec_f hx
    have hj8 : rest.length / 8 = j := by omega
    have elf : lfI H rest = if 4 ≤ (bs.drop p).length then l1I (l4I (l8I H rest j) (numN ((bs.drop p).take 4) : Int)) ((bs.drop p).drop 4) else l1I (l8I H rest j) (bs.drop p) := by
      unfold lfI; simp only [hj8, hpd]
    refine ⟨fun vs w => ∃ (y : Int) (p2 : Nat), vs = [.int .u64 y, .int .i64 (p2 : Int)] ∧ p2 ≤ bs.length ∧ l1I y (bs.drop p2) = lfI H rest ∧ Own e w F, ⟨fun h4 => ?_, fun h4 => ?_⟩, ?_⟩
    · have h4 := dec_t h4
      have el : ((bs.drop p).take 4).length = 4 := by rw [List.length_take]; omega
      have h1 := rfNumber (bs := (bs.drop p).take 4) (q := slcA q p c 1) (c := c - p) ((hb.drop _).take _) (by omega) (cut p 4 (by omega)) h
      rw [el] at h1
      refine ⟨by omega, by omega, by omega, by omega, ?_⟩
      rw [show p + 4 - p = 4 by omega]
      refine Rets.mono h1 ?_
      rintro _ w ⟨rfl, h⟩
      refine ⟨_, rfl, ?_⟩
      refine Rets.mono (rfP (i := 1) (by omega) h) ?_
      rintro _ w ⟨rfl, h⟩
      refine ⟨_, rfl, ?_⟩
      refine Rets.mono (rfTurn (K := 23) (bits_M64 _ _) (by omega) h) ?_
      rintro _ w ⟨rfl, h⟩
      refine ⟨_, rfl, ?_⟩
      refine Rets.mono (rfP (i := 2) (by omega) h) ?_
      rintro _ w ⟨rfl, h⟩
      refine ⟨_, rfl, ?_⟩
      refine Rets.mono (rfP (i := 3) (by omega) h) ?_
      rintro _ w ⟨rfl, h⟩
      refine ⟨_, rfl, l4I (l8I H rest j) (numN ((bs.drop p).take 4) : Int), p + 4, rfl, by omega, ?_, h⟩
      rw [elf, if_pos (by omega), List.drop_drop]
    · have h4 := dec_f h4
      exact ⟨_, p, rfl, by omega, by rw [elf, if_neg (by omega)], h⟩
    clear h
    rintro w n29 n30
    intros
    rename_i hI
    obtain ⟨y, p2, hvs, hp2, hl1, h⟩ := hI
    obtain ⟨rfl, rfl⟩ : n29 = y ∧ n30 = (p2 : Int) := by simpa using hvs
    have hdl : (bs.drop p2).length = bs.length - p2 := by rw [List.length_drop]
    refine ⟨fun m vs w => ∃ i : Nat, vs = [.int .u64 (l1I n29 ((bs.drop p2).take i)), .int .i64 ((p2 + i : Nat) : Int)] ∧ m + (p2 + i) = bs.length ∧ Own e w F, ⟨bs.length - p2, 0, rfl, by omega, h⟩, ?_⟩
    clear h
    rintro m2 w n31 n32
    intros
    rename_i hI
    obtain ⟨i, hvs, hm2, h⟩ := hI
    obtain ⟨rfl, rfl⟩ : n31 = l1I n29 ((bs.drop p2).take i) ∧ n32 = ((p2 + i : Nat) : Int) := by simpa using hvs
    refine ⟨fun hc2 => ?_, fun hc2 => ?_⟩
    · have hc2 := dec_t hc2
      have hi : p2 + i < bs.length := by omega
      have hx := hb bs[p2 + i] (List.getElem_mem hi)
      refine h.drw fun w h => ?_
      obtain ⟨ad, rfl, _⟩ := (hr w h).addr (cs_at hi)
      refine ⟨fun w => Own e w F, h, by omega, by omega, smR ⟨bs[p2 + i], fun w h => ?_, ?_⟩⟩
      · obtain ⟨ad', ead, hcell⟩ := (hr w h).addr (cs_at hi)
        cases ead
        rw [Int.toNat_natCast, Nat.mul_one]; exact hcell _ _ (cs_at hi)
      rw [wU64' (n := bs[p2 + i]) (by omega) (by omega)]
      refine Rets.mono (rfP (i := 5) (by omega) h) ?_
      rintro _ w ⟨rfl, h⟩
      refine ⟨_, rfl, h, ?_⟩
      refine Rets.mono (rfTurn (K := 11) (bits_M64 _ _) (by omega) h) ?_
      rintro _ w ⟨rfl, h⟩
      refine ⟨_, rfl, ?_⟩
      refine Rets.mono (rfP (i := 1) (by omega) h) ?_
      rintro _ w ⟨rfl, h⟩
      refine ⟨_, rfl, m2 - 1, by omega, i + 1, ?_, by omega, h⟩
      have hi2 : i < (bs.drop p2).length := by omega
      rw [l1I_take _ _ hi2, wI64 (by omega) (by omega), List.getElem_drop]; rfl
    · have hc2 := dec_f hc2
      have : i = (bs.drop p2).length := by omega
      rw [this, List.take_length, hl1]
      refine Rets.mono (rfFold (K := 33) (x := lfI H rest) (lfI_M64 (by rw [hH]; exact w64_M64 _) rest) (by omega) h) ?_
      rintro _ w ⟨rfl, h⟩
      refine ⟨_, rfl, ?_⟩
      refine Rets.mono (rfP (i := 2) (by omega) h) ?_
      rintro _ w ⟨rfl, h⟩
      refine ⟨_, rfl, ?_⟩
      refine Rets.mono (rfFold (K := 29) (M64.w _) (by omega) h) ?_
      rintro _ w ⟨rfl, h⟩
      refine ⟨_, rfl, ?_⟩
      refine Rets.mono (rfP (i := 3) (by omega) h) ?_
      rintro _ w ⟨rfl, h⟩
      refine ⟨_, rfl, ?_⟩
      refine Rets.mono (rfFold (K := 32) (M64.w _) (by omega) h) ?_
      rintro _ w ⟨rfl, h⟩
      exact ⟨_, rfl, rfl, h⟩
end
end Go.Proofs.YtipcbhaeoeghnaaDoor.Eng
