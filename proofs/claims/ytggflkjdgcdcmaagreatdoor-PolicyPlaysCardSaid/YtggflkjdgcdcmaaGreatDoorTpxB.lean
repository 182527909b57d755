/- Joined: TpxA. -/
import Derived.Test.YtggflkjdgcdcmaaGreatDoorTinB
import Derived.Test.YtggflkjdgcdcmaaGreatDoorLegA
import Derived.Test.YtggflkjdgcdcmaaGreatDoorTpaG
namespace Go.Proofs.YtggflkjdgcdcmaaGreatDoor.Eng
open Go Go.RowKit Go.Proofs
set_option linter.unusedVariables false
set_option linter.unusedSimpArgs false
set_option maxRecDepth 1000000
def toI (ns : List Nat) : List Int := ns.map Int.ofNat
theorem toI_len (ns : List Nat) : (toI ns).length = ns.length := by simp [toI]
theorem toI_at (ns : List Nat) {i : Nat} (h : i < (toI ns).length) : (toI ns)[i] = ((ns.getD i 0 : Nat) : Int) := by
  have h' : i < ns.length := by rw [toI_len] at h; exact h
  simp [toI, List.getD_eq_getElem?_getD, List.getElem?_eq_getElem h']
abbrev rfO (q : Option Addr) (c : Nat) (ns : List Nat) : HP := inB q ns.length c (toI ns)
theorem make64 {e w : World} {F : List HP} {g N : Nat} (h : Own e w (blk g 3 (zrep [.int .i64 0] N) :: F)) (hN : N ≤ 1000000) : Own e w (rfO (some ⟨g, 0, none⟩) N (List.replicate N 0) :: F) := by
  have e1 : cs .i64 (toI (List.replicate N 0)) = List.replicate N (.int .i64 0) := by simp [cs, toI]
  show Own e w (slO 3 1 _ (List.replicate N 0).length N (cs .i64 (toI (List.replicate N 0))) :: F)
  rw [List.length_replicate, e1]
  refine Own.slMk (rest := []) (by simp) (Nat.le_refl _) (by unfold maxLen; omega) (by simp) ?_
  rw [zrep_one] at h
  rw [List.append_nil]; exact h
section
variable {e w : World} {F : List HP} {q : Option Addr} {c : Nat} {ns : List Nat}
theorem rfAddI {i : Int} {h0 : Nat → Option Obj} (hI : ImR h0 q (cs .i64 (toI ns))) (h : Own e w (imm h0 :: F)) (hok : nbOk ns) (hl : ns.length ≤ 1000) : Rets Tryz.prog 109 #[.slice q ns.length c, .int .i64 i] w fun v w' => ∃ h1 q' c', v = .tuple #[.slice q' (ngAdd ns i).length c', .bool (ngMay ns i)] ∧ LeH h0 h1 ∧ ImR h1 q' (cs .i64 (toI (ngAdd ns i))) ∧ Own e w' (imm h1 :: F) := by
  have no : ¬ (0 ≤ i ∧ i < ns.length ∧ ngGet ns i ≠ 15) → ngAdd ns i = ns ∧ ngMay ns i = false := fun hx => ⟨by unfold ngAdd; rw [if_neg hx], by unfold ngMay; exact decide_eq_false hx⟩
  refine cortadoref10_Add_go _ _ _ _ ⟨fun hh0 => ⟨fun hh1 => ?_, fun hh1 => ?_⟩, fun hh0 => ?_⟩
  · have hh0 := dec_f hh0; have hh1 := dec_f hh1
    obtain ⟨k, rfl⟩ := Int.eq_ofNat_of_zero_le (show 0 ≤ i by omega)
    have hk : k < (toI ns).length := by rw [toI_len]; omega
    have eg : ngGet ns (k : Int) = ns.getD k 0 := by unfold ngGet; rw [if_pos (by omega)]; simp
    refine ⟨by omega, by omega, (hI _ _ _ h).int hk fun a ha => ⟨_, ha, fun h2 => ?_, fun h2 => ?_⟩⟩
    · have h2 := dec_t h2
      rw [toI_at ns hk] at h2
      have hlt := hok.at k
      obtain ⟨e1, e2⟩ := no (by rw [eg]; omega)
      rw [e1, e2]; exact ⟨h0, _, _, rfl, LeH.refl _, hI, h⟩
    · have h2 := dec_f h2
      rw [toI_at ns hk] at h2
      have hlt := hok.at k
      refine h.newR fun g w1 h => ?_
      refine app64 (empty64 h) (hI _ _ _ h.drop) (toI_len ns) (by omega) fun q' c' w2 h => ?_
      rw [List.nil_append] at h
      simp only [Nat.zero_add] at h ⊢
      have h : Own e w2 (inB q' ns.length c' (toI ns) :: imm h0 :: F) := h
      obtain ⟨a', rfl, hcell⟩ := h.slRd.addr (cs_at hk)
      refine ⟨_, _, _, rfl, by omega, by omega, (toI ns)[k], ?_, by omega, by omega, ?_⟩
      · rw [Int.toNat_natCast, Nat.mul_one]; exact hcell _ _ (cs_at hk)
      · have yes : 0 ≤ (k : Int) ∧ (k : Int) < ns.length ∧ ngGet ns (k : Int) ≠ 15 := by rw [eg]; omega
        have eadd : ngAdd ns (k : Int) = ns.set k (ngGet ns k + 1) := by unfold ngAdd; rw [if_pos yes]; simp
        have emay : ngMay ns (k : Int) = true := by unfold ngMay; exact decide_eq_true yes
        rw [Int.toNat_natCast, Nat.mul_one]
        refine h.slStore (i := k) (us := [.int .i64 (IntKind.wrap IntKind.i64 ((toI ns)[k] + 1))]) (by rw [cs_len]; simp; omega) (by simp) (by simp [Value.oneCell']) fun w3 h => ?_
        rw [cs_set] at h
        have e3 : (toI ns).set k (IntKind.wrap IntKind.i64 ((toI ns)[k] + 1)) = toI (ngAdd ns (k : Int)) := by
          rw [toI_at ns hk, wI64 (by omega) (by omega), eadd, eg]
          unfold toI
          rw [List.map_set]
          rfl
        rw [e3] at h
        obtain ⟨h1, le1, hR, _, h⟩ := h.slImm
        exact ⟨h1, some a', c', by rw [ngAdd_len, emay], le1, hR, h⟩
  · have hh0 := dec_f hh0; have hh1 := dec_t hh1
    obtain ⟨e1, e2⟩ := no (by omega)
    rw [e1, e2]; exact ⟨h0, _, _, rfl, LeH.refl _, hI, h⟩
  · have hh0 := dec_t hh0
    obtain ⟨e1, e2⟩ := no (by omega)
    rw [e1, e2]; exact ⟨h0, _, _, rfl, LeH.refl _, hI, h⟩
theorem rfHalve_spec (h : Own e w F) (hr : ∀ w, Own e w F → RdC w q (cs .i64 (toI ns))) (hok : nbOk ns) (hl : ns.length ≤ 1000) : Rets Tryz.prog 110 #[.slice q ns.length c] w fun v w' => ∃ q' c', v = .slice q' (ngHalve ns).length c' ∧ Own e w' (rfO q' c' (ngHalve ns) :: F) := by
  refine cortadoref10_Halve_go _ _ _ ?_
  refine ⟨fun m vs w => ∃ (i : Nat) (q' : Option Addr) (c' : Nat), vs = [.slice q' i c', .int .i64 (i : Int)] ∧ m + i = ns.length ∧ Own e w (inB q' i c' (toI (ngHalve (ns.take i))) :: F), ⟨ns.length, 0, none, 0, rfl, rfl, h.slNil⟩, ?_⟩
  rintro m w1 q1 k3 k4 n1
  intros
  rename_i hI
  obtain ⟨i, q', c', hvs, hm, h⟩ := hI
  obtain ⟨⟨rfl, rfl, rfl⟩, rfl⟩ : (q1 = q' ∧ k3 = i ∧ k4 = c') ∧ n1 = (i : Int) := by simpa using hvs
  refine ⟨fun hc => ?_, fun hc => ?_⟩
  · have hc := dec_t hc
    have hi : k3 < ns.length := by omega
    have hi' : k3 < (toI ns).length := by rw [toI_len]; exact hi
    refine ⟨by omega, by omega, (hr _ h.drop).int hi' fun a ha => ⟨_, ha, by omega, h.newR fun g w2 h => ?_⟩⟩
    have hlt := hok.at k3
    rw [toI_at ns hi', Int.tdiv_eq_ediv_of_nonneg (by omega), wI64 (by omega) (by omega)] at h
    refine put64 (ys := [((ns.getD k3 0 : Nat) : Int) / 2]) h rfl (by omega) fun q' c' w3 h => ⟨_, _, _, rfl, m - 1, by omega, k3 + 1, q', c', ?_, by omega, ?_⟩
    · rw [wI64 (by omega) (by omega)]; rfl
    · have e1 : toI (ngHalve (ns.take (k3 + 1))) = toI (ngHalve (ns.take k3)) ++ [((ns.getD k3 0 : Nat) : Int) / 2] := by
        rw [List.take_succ_eq_append_getElem hi, List.getD_eq_getElem?_getD, List.getElem?_eq_getElem hi]
        unfold toI ngHalve
        rw [List.map_append, List.map_append]
        rfl
      rw [e1]; exact h
  · have hc := dec_f hc
    obtain rfl : k3 = ns.length := by omega
    rw [List.take_length] at h
    have e1 : (ngHalve ns).length = ns.length := by simp [ngHalve]
    refine ⟨_, _, by rw [e1], ?_⟩
    show Own e w1 (inB q1 (ngHalve ns).length k4 (toI (ngHalve ns)) :: F)
    rw [e1]; exact h
theorem rfHalveI {h0 : Nat → Option Obj} (hI : ImR h0 q (cs .i64 (toI ns))) (h : Own e w (imm h0 :: F)) (hok : nbOk ns) (hl : ns.length ≤ 1000) : Rets Tryz.prog 110 #[.slice q ns.length c] w fun v w' => ∃ h1 q' c', v = .slice q' (ngHalve ns).length c' ∧ LeH h0 h1 ∧ ImR h1 q' (cs .i64 (toI (ngHalve ns))) ∧ Own e w' (imm h1 :: F) := by
  refine Rets.mono (rfHalve_spec (c := c) h (fun w h => hI _ _ _ h) hok hl) ?_
  rintro _ w ⟨q', c', rfl, h⟩
  obtain ⟨h1, le1, hR, _, h⟩ := Own.slImm h
  exact ⟨h1, q', c', rfl, le1, hR, h⟩
end
def hdL (Q : Nat → Option Addr) (C : Nat → Nat) (M i : Nat) : List Value := (List.range i).map fun j => .slice (Q j) M (C j)
theorem hdL_at {Q : Nat → Option Addr} {C : Nat → Nat} {M n i : Nat} (h : i < n) : (hdL Q C M n)[i]? = some (.slice (Q i) M (C i)) := by
  unfold hdL
  rw [List.getElem?_map, List.getElem?_range h]; rfl
theorem hdL_succ (Q : Nat → Option Addr) (C : Nat → Nat) (M i : Nat) : hdL Q C M (i + 1) = hdL Q C M i ++ [.slice (Q i) M (C i)] := by simp [hdL, List.range_succ]
def upQ {α : Type} (Q : Nat → α) (i : Nat) (x : α) : Nat → α := fun j => if j = i then x else Q j
theorem upQ_at {α : Type} (Q : Nat → α) (i : Nat) (x : α) : upQ Q i x i = x := by unfold upQ; rw [if_pos rfl]
theorem upQ_ne {α : Type} (Q : Nat → α) {i j : Nat} (x : α) (h : j ≠ i) : upQ Q i x j = Q j := by unfold upQ; rw [if_neg h]
theorem hdL_up (Q : Nat → Option Addr) (C : Nat → Nat) (M i : Nat) (x : Option Addr) (y : Nat) : hdL (upQ Q i x) (upQ C i y) M i = hdL Q C M i := by
  unfold hdL
  refine List.map_congr_left fun j hj => ?_
  have := List.mem_range.1 hj
  rw [upQ_ne Q x (by omega), upQ_ne C y (by omega)]
theorem hdL_snoc (Q : Nat → Option Addr) (C : Nat → Nat) (M i : Nat) (x : Option Addr) (y : Nat) : hdL (upQ Q i x) (upQ C i y) M (i + 1) = hdL Q C M i ++ [.slice x M y] := by
  rw [hdL_succ, hdL_up, upQ_at, upQ_at]
/-- Rows that may be read for ever. -/
def RsR (h0 : Nat → Option Obj) (q : Option Addr) (M : Nat) (R : Nat → List Nat) : Prop := ∃ (Q : Nat → Option Addr) (C : Nat → Nat), ImR h0 q (hdL Q C M 4) ∧ ∀ j, j < 4 → ImR h0 (Q j) (cs .i64 (toI (R j)))
theorem RsR.mono {h0 h1 : Nat → Option Obj} {q : Option Addr} {M : Nat} {R : Nat → List Nat} (hle : LeH h0 h1) (h : RsR h0 q M R) : RsR h1 q M R := by
  obtain ⟨Q, C, h1, h2⟩ := h
  exact ⟨Q, C, h1.mono hle, fun j hj => (h2 j hj).mono hle⟩
theorem upI {h1 h2 : Nat → Option Obj} {Q : Nat → Option Addr} {R : Nat → List Nat} {i : Nat} {x : Option Addr} (hle : LeH h1 h2) (h : ∀ j, j < i → ImR h1 (Q j) (cs .i64 (toI (R j)))) (hx : ImR h2 x (cs .i64 (toI (R i)))) : ∀ j, j < i + 1 → ImR h2 (upQ Q i x j) (cs .i64 (toI (R j))) := fun j hj => by
  by_cases e : j = i
  · subst e; rw [upQ_at]; exact hx
  · rw [upQ_ne Q x e]; exact (h j (by omega)).mono hle
section
variable {e w : World} {F : List HP} {s hh : Int} {q : Option Addr} {l c m : Nat}
theorem rdPlc {i : Nat} (hi : i < 4) (hm12 : m ≤ 12) (hs : M64 s) (h : Own e w F) : Rets Tryz.prog 64 #[.agg #[.slice q l c, .int .i64 ((2 ^ m : Nat) : Int), .int .u64 s], .int .u64 hh, .int .i64 (i : Int)] w fun v w' => v = .int .i64 (plc s (2 ^ m) hh i : Int) ∧ Own e w' F := by
  obtain ⟨p1, p2⟩ := p12 hm12
  have hpl := plc_lt (s := s) (h := hh) (i := i) p1
  have ea : plc s (2 ^ m) hh i = (mixI (skX hh (sdI s i))).toNat % 2 ^ m := rfl
  refine cortadoref11_Place_go _ _ _ _ _ _ _ (h.newR fun g w h => ⟨fun _ => ⟨fun hc => ?_, fun _ => ?_⟩, fun hc => ?_⟩)
  · have := dec_t hc; omega
  · refine ⟨_, Own.ld (g := g) h (by repeat (first | with_reducible exact Pick.here | apply Pick.there)) rfl, ?_⟩
    refine Rets.mono (rfMix (x := IntKind.wrap .u64 (IntKind.wrap .u64 (s + IntKind.wrap .u64 (i : Int)) + 1)) (M64.w _) h) ?_
    clear h
    rintro _ w ⟨rfl, h⟩
    refine ⟨_, rfl, h.drw fun w h => ⟨fun w => Own e w (blk g 33 [.slice q l c, .int .i64 ((2 ^ m : Nat) : Int), .int .u64 s] :: F), h, _, fun w h => Own.ld (g := g) h (by repeat (first | with_reducible exact Pick.here | apply Pick.there)) rfl, ?_⟩⟩
    refine Rets.mono (rfMix (x := skX hh (sdI s i)) (bits_M64 _ _) h) ?_
    clear h
    rintro _ w ⟨rfl, h⟩
    obtain ⟨X, hX⟩ := Int.eq_ofNat_of_zero_le (mixI_M64 (skX hh (sdI s i))).1
    have hXl := (mixI_M64 (skX hh (sdI s i))).2
    rw [hX] at hXl ea ⊢
    rw [Int.toNat_natCast] at ea
    obtain ⟨M, hM⟩ : ∃ M, M = 2 ^ m := ⟨_, rfl⟩
    refine ⟨_, rfl, h, ?_, ?_, h.drop⟩
    · rw [← hM] at p1 p2 ⊢
      rw [wU64' (by omega) (by omega)]; omega
    · rw [← hM] at p1 p2 ea hpl ⊢
      rw [wU64' (n := (M : Int)) (by omega) (by omega), Int.tmod_eq_emod_of_nonneg (by omega), ← Int.natCast_emod, ← ea, wI64 (by omega) (by omega)]
  · have := dec_t hc; omega
end
section
variable {e w : World} {F : List HP} {s hh : Int} {q : Option Addr} {c m : Nat} {R : Nat → List Nat} {h0 : Nat → Option Obj}
abbrev rsV (q : Option Addr) (c m : Nat) (s : Int) : Value := .agg #[.slice q 4 c, .int .i64 ((2 ^ m : Nat) : Int), .int .u64 s]
theorem rsNew {n : Int} (h : Own e w (imm h0 :: F)) : Rets Tryz.prog 50 #[.int .i64 n, .int .u64 s] w fun v w' => ∃ h1 q c m, v = rsV q c m s ∧ pwOk (maxI 1 (minI n 4096)) m ∧ LeH h0 h1 ∧ RsR h1 q (2 ^ m) (fun _ => List.replicate (2 ^ m) 0) ∧ Own e w' (imm h1 :: F) := by
  have hn : 1 ≤ maxI 1 (minI n 4096) ∧ maxI 1 (minI n 4096) ≤ 4096 := by unfold maxI minI; split <;> split <;> omega
  refine cortadoref11_New_go _ _ (h.newR fun g1 w h => ?_)
  refine Rets.mono (rfPowerS hn h) ?_
  clear h
  rintro _ w ⟨⟨m, rfl, hok⟩, h⟩
  have hm := pwS.small hok hn.2
  obtain ⟨p1, p2⟩ := p12 hm
  have hok : pwOk (maxI 1 (minI n 4096)) m := hok
  refine ⟨_, rfl, h.newR fun g2 w h => Own.stP' (g := g2) h (by repeat (first | with_reducible exact Pick.here | apply Pick.there)) (by simp) (by simp [Value.oneCell']) fun w h => ?_⟩
  simp only [setFrom, List.set_cons_zero, List.set_cons_succ, List.set_nil] at h
  refine ⟨fun k vs w => ∃ (i : Nat) (Q : Nat → Option Addr) (C : Nat → Nat) (q' : Option Addr) (c' : Nat) (h1 : Nat → Option Obj), vs = [.int .i64 (i : Int)] ∧ k + i = 4 ∧ LeH h0 h1 ∧ (∀ j, j < i → ImR h1 (Q j) (cs .i64 (toI (List.replicate (2 ^ m) 0)))) ∧ Own e w (imm h1 :: blk g2 33 [.slice q' i c', .int .i64 ((2 ^ m : Nat) : Int), .int .u64 s] :: slO 22 1 q' i c' (hdL Q C (2 ^ m) i) :: blk g1 33 [.slice none 0 0, .int .i64 0, .int .u64 0] :: F), ⟨4, 0, fun _ => none, fun _ => 0, none, 0, h0, rfl, rfl, LeH.refl _, fun j hj => by omega, ?_⟩, ?_⟩
  · have h : Own e w (slO 22 1 none 0 0 (hdL (fun _ => none) (fun _ => 0) (2 ^ m) 0) :: blk g2 33 [.slice none 0 0, .int .i64 ((2 ^ m : Nat) : Int), .int .u64 s] :: blk g1 33 [.slice none 0 0, .int .i64 0, .int .u64 0] :: imm h0 :: F) := h.slNil
    exact (Own.sub (h) (by repeat (first | with_reducible exact Sub.nil _ | with_reducible exact Sub.rfl _ | (apply Sub.cons; focus ((repeat (first | with_reducible exact Pick.here | apply Pick.there)); done)) | apply Sub.drop)))
  clear h
  rintro k w n2
  intros
  rename_i hI
  obtain ⟨i, Q, C, q', c', h1, hvs, hk, le1, hrows, h⟩ := hI
  obtain rfl : n2 = (i : Int) := by simpa using hvs
  refine ⟨fun hc => ?_, fun hc => ?_⟩
  · have hc := dec_t hc
    have hi : i < 4 := by omega
    let S : World → Prop := fun w => Own e w (imm h1 :: blk g2 33 [.slice q' i c', .int .i64 ((2 ^ m : Nat) : Int), .int .u64 s] :: slO 22 1 q' i c' (hdL Q C (2 ^ m) i) :: blk g1 33 [.slice none 0 0, .int .i64 0, .int .u64 0] :: F)
    refine h.drw fun w h => ⟨S, h, _, _, _, fun w h => Own.ld (g := g2) h (by repeat (first | with_reducible exact Pick.here | apply Pick.there)) rfl, ?_⟩
    refine h.makeR ⟨by omega, by omega, by omega, by omega⟩ fun g3 w h => ⟨h.drop, h.newR fun g4 w h => ⟨h.drop.drop, ?_⟩⟩
    rw [Int.toNat_natCast] at h
    have h := make64 h.swap (by omega)
    have h : Own e w (rfO (some ⟨g3, 0, none⟩) (2 ^ m) (List.replicate (2 ^ m) 0) :: imm h1 :: blk g4 22 [.slice (some ⟨g3, 0, none⟩) (2 ^ m) (2 ^ m)] :: slO 22 1 q' i c' (hdL Q C (2 ^ m) i) :: blk g2 33 [.slice q' i c', .int .i64 ((2 ^ m : Nat) : Int), .int .u64 s] :: blk g1 33 [.slice none 0 0, .int .i64 0, .int .u64 0] :: F) := (Own.sub (h) (by repeat (first | with_reducible exact Sub.nil _ | with_reducible exact Sub.rfl _ | (apply Sub.cons; focus ((repeat (first | with_reducible exact Pick.here | apply Pick.there)); done)) | apply Sub.drop)))
    obtain ⟨h2, le2, hR, _, h⟩ := Own.slImm h
    have hsrc : RdC w (some ⟨g4, 0, none⟩) [.slice (some ⟨g3, 0, none⟩) (2 ^ m) (2 ^ m)] := h.drop.blkRd
    have h : Own e w (slO 22 1 q' i c' (hdL Q C (2 ^ m) i) :: imm h2 :: blk g2 33 [.slice q' i c', .int .i64 ((2 ^ m : Nat) : Int), .int .u64 s] :: blk g1 33 [.slice none 0 0, .int .i64 0, .int .u64 0] :: F) := (Own.sub (h) (by repeat (first | exact Sub.nil _ | exact Sub.rfl _ | (apply Sub.cons; focus ((repeat (first | with_reducible exact Pick.here | apply Pick.there)); done)) | apply Sub.drop)))
    refine Own.append (z := [.slice none 0 0]) (b := 24) (m := 1) h (by kernel_rfl) (by kernel_rfl) (by kernel_rfl) (by kernel_rfl) (by kernel_rfl) (by omega) hsrc rfl (fun v hv => by rw [List.mem_singleton.1 hv]; rfl) (by unfold maxLen; omega) (by omega) fun q3 c3 w h _ => ⟨_, _, _, rfl, ?_⟩
    rw [← hdL_snoc] at h
    refine Own.stP (g := g2) (k := 0) h (by repeat (first | with_reducible exact Pick.here | apply Pick.there)) (by simp) (by simp [Value.oneCell']) fun w h => ?_
    simp only [setFrom, List.set_cons_zero, List.set_cons_succ, List.set_nil] at h
    exact ⟨k - 1, by omega, i + 1, _, _, q3, c3, h2, by rw [wI64 (by omega) (by omega)]; rfl, by omega, LeH.trans le1 le2, upI (R := fun _ => List.replicate (2 ^ m) 0) le2 hrows hR, (Own.sub (h) (by repeat (first | with_reducible exact Sub.nil _ | with_reducible exact Sub.rfl _ | (apply Sub.cons; focus ((repeat (first | with_reducible exact Pick.here | apply Pick.there)); done)) | apply Sub.drop)))⟩
  · have hc := dec_f hc
    obtain rfl : i = 4 := by omega
    refine ⟨_, _, _, _, _, ⟨Own.ld (g := g2) h (by repeat (first | with_reducible exact Pick.here | apply Pick.there)) rfl, Own.ld (g := g2) h (by repeat (first | with_reducible exact Pick.here | apply Pick.there)) rfl, Own.ld (g := g2) h (by repeat (first | with_reducible exact Pick.here | apply Pick.there)) rfl⟩, Own.stP' (g := g1) h (by repeat (first | with_reducible exact Pick.here | apply Pick.there)) (by simp) (by simp [Value.oneCell']) fun w h => ?_⟩
    simp only [setFrom, List.set_cons_zero, List.set_cons_succ, List.set_nil] at h
    refine ⟨_, _, _, _, _, ⟨Own.ld (g := g1) h (by repeat (first | with_reducible exact Pick.here | apply Pick.there)) rfl, Own.ld (g := g1) h (by repeat (first | with_reducible exact Pick.here | apply Pick.there)) rfl, Own.ld (g := g1) h (by repeat (first | with_reducible exact Pick.here | apply Pick.there)) rfl⟩, ?_⟩
    have h : Own e w (slO 22 1 q' 4 c' (hdL Q C (2 ^ m) 4) :: imm h1 :: F) := (Own.sub (h) (by repeat (first | exact Sub.nil _ | exact Sub.rfl _ | (apply Sub.cons; focus ((repeat (first | with_reducible exact Pick.here | apply Pick.there)); done)) | apply Sub.drop)))
    obtain ⟨h2, le2, hH, _, h⟩ := Own.slImm h
    exact ⟨h2, q', c', m, rfl, hok, LeH.trans le1 le2, ⟨Q, C, hH, fun j hj => (hrows j hj).mono le2⟩, h⟩
end
section
variable {e w : World} {F : List HP} {s hh : Int} {q : Option Addr} {c m : Nat} {R : Nat → List Nat} {h0 : Nat → Option Obj}
theorem p9 {m : Nat} (h : m ≤ 9) : 0 < 2 ^ m ∧ 2 ^ m ≤ 512 := by
  refine ⟨Nat.pow_pos (by omega), ?_⟩
  have : 2 ^ m ≤ 2 ^ 9 := Nat.pow_le_pow_right (by omega) h
  exact this
theorem hdAdr {Q : Nat → Option Addr} {C : Nat → Nat} {M : Nat} (hH : ImR h0 q (hdL Q C M 4)) (h : Own e w (imm h0 :: F)) : ∃ ad, q = some ad ∧ ∀ i : Nat, i < 4 → ∀ e w F, Own e w (imm h0 :: F) → cellAt w (ad.add (Int.toNat (i : Int) * 1)) (.slice (Q i) M (C i)) := by
  obtain ⟨ad, rfl, _⟩ := (hH e w F h).addr (hdL_at (i := 0) (by omega))
  refine ⟨ad, rfl, fun i hi e w F h => ?_⟩
  obtain ⟨ad', ead, hcell⟩ := (hH e w F h).addr (hdL_at (i := 0) (by omega))
  cases ead
  rw [Int.toNat_natCast, Nat.mul_one]
  exact hcell _ _ (hdL_at hi)
theorem rsAdd (hm9 : m ≤ 9) (hs : M64 s) (hR : rowsOk (2 ^ m) R) (hS : RsR h0 q (2 ^ m) R) (h : Own e w (imm h0 :: F)) : Rets Tryz.prog 82 #[rsV q c m s, .int .u64 hh] w fun v w' => ∃ h1 q' c', v = rsV q' c' m s ∧ LeH h0 h1 ∧ RsR h1 q' (2 ^ m) (fun j => ngAdd (R j) (plc s (2 ^ m) hh j : Int)) ∧ Own e w' (imm h1 :: F) := by
  obtain ⟨p1, p2⟩ := p9 hm9
  obtain ⟨Q0, C0, hH, hrow⟩ := hS
  obtain ⟨ad, rfl, hAd⟩ := hdAdr hH h
  obtain ⟨R', hR'⟩ : ∃ R' : Nat → List Nat, R' = fun j => ngAdd (R j) (plc s (2 ^ m) hh j : Int) := ⟨_, rfl⟩
  rw [← hR']
  refine cortadoref11_Add_go _ _ _ _ _ _ (h.newR fun g1 w h => h.newR fun g2 w h => ⟨_, Own.ld (g := g1) (k := 1) h (by repeat (first | with_reducible exact Pick.here | apply Pick.there)) rfl, _, Own.ld (g := g1) (k := 2) h (by repeat (first | with_reducible exact Pick.here | apply Pick.there)) rfl, h.newR fun g3 w h => Own.stP' (g := g3) h (by repeat (first | with_reducible exact Pick.here | apply Pick.there)) (by simp) (by simp [Value.oneCell']) fun w h => ?_⟩)
  simp only [setFrom, List.set_cons_zero, List.set_cons_succ, List.set_nil] at h
  refine ⟨fun k vs w => ∃ (i : Nat) (Q : Nat → Option Addr) (C : Nat → Nat) (q' : Option Addr) (c' : Nat) (h1 : Nat → Option Obj), vs = [.int .i64 (i : Int)] ∧ k + i = 4 ∧ LeH h0 h1 ∧ (∀ j, j < i → ImR h1 (Q j) (cs .i64 (toI (R' j)))) ∧ Own e w (imm h1 :: blk g1 33 [.slice (some ad) 4 c, .int .i64 ((2 ^ m : Nat) : Int), .int .u64 s] :: blk g3 33 [.slice q' i c', .int .i64 ((2 ^ m : Nat) : Int), .int .u64 s] :: slO 22 1 q' i c' (hdL Q C (2 ^ m) i) :: blk g2 33 [.slice none 0 0, .int .i64 0, .int .u64 0] :: F), ⟨4, 0, fun _ => none, fun _ => 0, none, 0, h0, rfl, rfl, LeH.refl _, fun j hj => by omega, ?_⟩, ?_⟩
  · have h : Own e w (slO 22 1 none 0 0 (hdL (fun _ => none) (fun _ => 0) (2 ^ m) 0) :: blk g3 33 [.slice none 0 0, .int .i64 ((2 ^ m : Nat) : Int), .int .u64 s] :: blk g2 33 [.slice none 0 0, .int .i64 0, .int .u64 0] :: blk g1 33 [.slice (some ad) 4 c, .int .i64 ((2 ^ m : Nat) : Int), .int .u64 s] :: imm h0 :: F) := h.slNil
    exact (Own.sub (h) (by repeat (first | with_reducible exact Sub.nil _ | with_reducible exact Sub.rfl _ | (apply Sub.cons; focus ((repeat (first | with_reducible exact Pick.here | apply Pick.there)); done)) | apply Sub.drop)))
  clear h
  rintro k w n3
  intros
  rename_i hI
  obtain ⟨i, Q, C, q', c', h1, hvs, hk, le1, hrows, h⟩ := hI
  obtain rfl : n3 = (i : Int) := by simpa using hvs
  refine ⟨_, _, _, Own.ld (g := g1) (k := 0) h (by repeat (first | with_reducible exact Pick.here | apply Pick.there)) rfl, fun hc => ?_, fun hc => ?_⟩
  · have hc := dec_t hc
    have hi : i < 4 := by omega
    let S : World → Prop := fun w => Own e w (imm h1 :: blk g1 33 [.slice (some ad) 4 c, .int .i64 ((2 ^ m : Nat) : Int), .int .u64 s] :: blk g3 33 [.slice q' i c', .int .i64 ((2 ^ m : Nat) : Int), .int .u64 s] :: slO 22 1 q' i c' (hdL Q C (2 ^ m) i) :: blk g2 33 [.slice none 0 0, .int .i64 0, .int .u64 0] :: F)
    refine h.drw fun w h => ⟨S, h, _, _, _, fun w h => Own.ld (g := g1) (k := 0) h (by repeat (first | with_reducible exact Pick.here | apply Pick.there)) rfl, by omega, by omega, smR ⟨_, _, _, fun w h => hAd i hi _ _ _ (h.immLe le1), _, _, _, _, _, ⟨fun w h => Own.ld (g := g1) (k := 0) h (by repeat (first | with_reducible exact Pick.here | apply Pick.there)) rfl, fun w h => Own.ld (g := g1) (k := 1) h (by repeat (first | with_reducible exact Pick.here | apply Pick.there)) rfl, fun w h => Own.ld (g := g1) (k := 2) h (by repeat (first | with_reducible exact Pick.here | apply Pick.there)) rfl⟩, ?_⟩⟩
    refine Rets.mono (rdPlc (hh := hh) hi (by omega) hs h) ?_
    clear h
    rintro _ w ⟨rfl, h⟩
    refine ⟨_, rfl, h, ?_⟩
    have hri := (hrow i hi).mono le1
    have el := (hR i).2
    have hadd := rfAddI (c := C0 i) (i := (plc s (2 ^ m) hh i : Int)) hri h (hR i).1 (by rw [el]; omega)
    rw [el] at hadd
    refine Rets.mono hadd ?_
    clear h hadd
    rintro _ w ⟨h2, q5, c5, rfl, le2, hR2, h⟩
    rw [ngAdd_len, el]
    refine ⟨_, _, _, _, rfl, _, _, _, Own.ld (g := g3) (k := 0) h (by repeat (first | with_reducible exact Pick.here | apply Pick.there)) rfl, h.newR fun g4 w h => ?_⟩
    have hsrc : RdC w (some ⟨g4, 0, none⟩) [.slice q5 (2 ^ m) c5] := h.blkRd
    have h : Own e w (slO 22 1 q' i c' (hdL Q C (2 ^ m) i) :: imm h2 :: blk g1 33 [.slice (some ad) 4 c, .int .i64 ((2 ^ m : Nat) : Int), .int .u64 s] :: blk g3 33 [.slice q' i c', .int .i64 ((2 ^ m : Nat) : Int), .int .u64 s] :: blk g2 33 [.slice none 0 0, .int .i64 0, .int .u64 0] :: F) := (Own.sub (h) (by repeat (first | exact Sub.nil _ | exact Sub.rfl _ | (apply Sub.cons; focus ((repeat (first | with_reducible exact Pick.here | apply Pick.there)); done)) | apply Sub.drop)))
    refine Own.append (z := [.slice none 0 0]) (b := 24) (m := 1) h (by kernel_rfl) (by kernel_rfl) (by kernel_rfl) (by kernel_rfl) (by kernel_rfl) (by omega) hsrc rfl (fun v hv => by rw [List.mem_singleton.1 hv]; rfl) (by unfold maxLen; omega) (by omega) fun q3 c3 w h _ => ⟨_, _, _, rfl, ?_⟩
    rw [← hdL_snoc] at h
    refine Own.stP (g := g3) (k := 0) h (by repeat (first | with_reducible exact Pick.here | apply Pick.there)) (by simp) (by simp [Value.oneCell']) fun w h => ?_
    simp only [setFrom, List.set_cons_zero, List.set_cons_succ, List.set_nil] at h
    have hR2 : ImR h2 q5 (cs .i64 (toI (R' i))) := by rw [hR']; exact hR2
    exact ⟨k - 1, by omega, i + 1, _, _, q3, c3, h2, by rw [wI64 (by omega) (by omega)]; rfl, by omega, LeH.trans le1 le2, upI (R := R') le2 hrows hR2, (Own.sub (h) (by repeat (first | with_reducible exact Sub.nil _ | with_reducible exact Sub.rfl _ | (apply Sub.cons; focus ((repeat (first | with_reducible exact Pick.here | apply Pick.there)); done)) | apply Sub.drop)))⟩
  · have hc := dec_f hc
    obtain rfl : i = 4 := by omega
    refine ⟨_, _, _, _, _, ⟨Own.ld (g := g3) h (by repeat (first | with_reducible exact Pick.here | apply Pick.there)) rfl, Own.ld (g := g3) h (by repeat (first | with_reducible exact Pick.here | apply Pick.there)) rfl, Own.ld (g := g3) h (by repeat (first | with_reducible exact Pick.here | apply Pick.there)) rfl⟩, Own.stP' (g := g2) h (by repeat (first | with_reducible exact Pick.here | apply Pick.there)) (by simp) (by simp [Value.oneCell']) fun w h => ?_⟩
    simp only [setFrom, List.set_cons_zero, List.set_cons_succ, List.set_nil] at h
    refine ⟨_, _, _, _, _, ⟨Own.ld (g := g2) h (by repeat (first | with_reducible exact Pick.here | apply Pick.there)) rfl, Own.ld (g := g2) h (by repeat (first | with_reducible exact Pick.here | apply Pick.there)) rfl, Own.ld (g := g2) h (by repeat (first | with_reducible exact Pick.here | apply Pick.there)) rfl⟩, ?_⟩
    have h : Own e w (slO 22 1 q' 4 c' (hdL Q C (2 ^ m) 4) :: imm h1 :: F) := (Own.sub (h) (by repeat (first | exact Sub.nil _ | exact Sub.rfl _ | (apply Sub.cons; focus ((repeat (first | with_reducible exact Pick.here | apply Pick.there)); done)) | apply Sub.drop)))
    obtain ⟨h2, le2, hH2, _, h⟩ := Own.slImm h
    exact ⟨h2, q', c', rfl, LeH.trans le1 le2, ⟨Q, C, hH2, fun j hj => (hrows j hj).mono le2⟩, h⟩
theorem rsHalve (hm9 : m ≤ 9) (hR : rowsOk (2 ^ m) R) (hS : RsR h0 q (2 ^ m) R) (h : Own e w (imm h0 :: F)) : Rets Tryz.prog 83 #[rsV q c m s] w fun v w' => ∃ h1 q' c', v = rsV q' c' m s ∧ LeH h0 h1 ∧ RsR h1 q' (2 ^ m) (fun j => ngHalve (R j)) ∧ Own e w' (imm h1 :: F) := by
  obtain ⟨p1, p2⟩ := p9 hm9
  obtain ⟨Q0, C0, hH, hrow⟩ := hS
  obtain ⟨ad, rfl, hAd⟩ := hdAdr hH h
  obtain ⟨R', hR'⟩ : ∃ R' : Nat → List Nat, R' = fun j => ngHalve (R j) := ⟨_, rfl⟩
  rw [← hR']
  refine cortadoref11_Halve_go _ _ _ _ _ (h.newR fun g1 w h => h.newR fun g2 w h => ⟨_, Own.ld (g := g1) (k := 1) h (by repeat (first | with_reducible exact Pick.here | apply Pick.there)) rfl, _, Own.ld (g := g1) (k := 2) h (by repeat (first | with_reducible exact Pick.here | apply Pick.there)) rfl, h.newR fun g3 w h => Own.stP' (g := g3) h (by repeat (first | with_reducible exact Pick.here | apply Pick.there)) (by simp) (by simp [Value.oneCell']) fun w h => ?_⟩)
  simp only [setFrom, List.set_cons_zero, List.set_cons_succ, List.set_nil] at h
  refine ⟨fun k vs w => ∃ (i : Nat) (Q : Nat → Option Addr) (C : Nat → Nat) (q' : Option Addr) (c' : Nat) (h1 : Nat → Option Obj), vs = [.int .i64 (i : Int)] ∧ k + i = 4 ∧ LeH h0 h1 ∧ (∀ j, j < i → ImR h1 (Q j) (cs .i64 (toI (R' j)))) ∧ Own e w (imm h1 :: blk g1 33 [.slice (some ad) 4 c, .int .i64 ((2 ^ m : Nat) : Int), .int .u64 s] :: blk g3 33 [.slice q' i c', .int .i64 ((2 ^ m : Nat) : Int), .int .u64 s] :: slO 22 1 q' i c' (hdL Q C (2 ^ m) i) :: blk g2 33 [.slice none 0 0, .int .i64 0, .int .u64 0] :: F), ⟨4, 0, fun _ => none, fun _ => 0, none, 0, h0, rfl, rfl, LeH.refl _, fun j hj => by omega, ?_⟩, ?_⟩
  · have h : Own e w (slO 22 1 none 0 0 (hdL (fun _ => none) (fun _ => 0) (2 ^ m) 0) :: blk g3 33 [.slice none 0 0, .int .i64 ((2 ^ m : Nat) : Int), .int .u64 s] :: blk g2 33 [.slice none 0 0, .int .i64 0, .int .u64 0] :: blk g1 33 [.slice (some ad) 4 c, .int .i64 ((2 ^ m : Nat) : Int), .int .u64 s] :: imm h0 :: F) := h.slNil
    exact (Own.sub (h) (by repeat (first | with_reducible exact Sub.nil _ | with_reducible exact Sub.rfl _ | (apply Sub.cons; focus ((repeat (first | with_reducible exact Pick.here | apply Pick.there)); done)) | apply Sub.drop)))
  clear h
  rintro k w n3
  intros
  rename_i hI
  obtain ⟨i, Q, C, q', c', h1, hvs, hk, le1, hrows, h⟩ := hI
  obtain rfl : n3 = (i : Int) := by simpa using hvs
  refine ⟨_, _, _, Own.ld (g := g1) (k := 0) h (by repeat (first | with_reducible exact Pick.here | apply Pick.there)) rfl, fun hc => ?_, fun hc => ?_⟩
  · have hc := dec_t hc
    have hi : i < 4 := by omega
    let S : World → Prop := fun w => Own e w (imm h1 :: blk g1 33 [.slice (some ad) 4 c, .int .i64 ((2 ^ m : Nat) : Int), .int .u64 s] :: blk g3 33 [.slice q' i c', .int .i64 ((2 ^ m : Nat) : Int), .int .u64 s] :: slO 22 1 q' i c' (hdL Q C (2 ^ m) i) :: blk g2 33 [.slice none 0 0, .int .i64 0, .int .u64 0] :: F)
    refine h.drw fun w h => ⟨S, h, _, _, _, fun w h => Own.ld (g := g3) (k := 0) h (by repeat (first | with_reducible exact Pick.here | apply Pick.there)) rfl, _, _, _, fun w h => Own.ld (g := g1) (k := 0) h (by repeat (first | with_reducible exact Pick.here | apply Pick.there)) rfl, by omega, by omega, smR ⟨_, _, _, fun w h => hAd i hi _ _ _ (h.immLe le1), ?_⟩⟩
    have hri := (hrow i hi).mono le1
    have el := (hR i).2
    have hel : (ngHalve (R i)).length = 2 ^ m := by simp [ngHalve, el]
    have hadd := rfHalveI (c := C0 i) hri h (hR i).1 (by rw [el]; omega)
    rw [el] at hadd
    refine Rets.mono hadd ?_
    clear h hadd
    rintro _ w ⟨h2, q5, c5, rfl, le2, hR2, h⟩
    rw [hel]
    refine ⟨_, _, _, rfl, h.immLe le2, h.newR fun g4 w h => ⟨h.drop.immLe le2, ?_⟩⟩
    have hsrc : RdC w (some ⟨g4, 0, none⟩) [.slice q5 (2 ^ m) c5] := h.blkRd
    have h : Own e w (slO 22 1 q' i c' (hdL Q C (2 ^ m) i) :: imm h2 :: blk g1 33 [.slice (some ad) 4 c, .int .i64 ((2 ^ m : Nat) : Int), .int .u64 s] :: blk g3 33 [.slice q' i c', .int .i64 ((2 ^ m : Nat) : Int), .int .u64 s] :: blk g2 33 [.slice none 0 0, .int .i64 0, .int .u64 0] :: F) := (Own.sub (h) (by repeat (first | exact Sub.nil _ | exact Sub.rfl _ | (apply Sub.cons; focus ((repeat (first | with_reducible exact Pick.here | apply Pick.there)); done)) | apply Sub.drop)))
    refine Own.append (z := [.slice none 0 0]) (b := 24) (m := 1) h (by kernel_rfl) (by kernel_rfl) (by kernel_rfl) (by kernel_rfl) (by kernel_rfl) (by omega) hsrc rfl (fun v hv => by rw [List.mem_singleton.1 hv]; rfl) (by unfold maxLen; omega) (by omega) fun q3 c3 w h _ => ⟨_, _, _, rfl, ?_⟩
    rw [← hdL_snoc] at h
    refine Own.stP (g := g3) (k := 0) h (by repeat (first | with_reducible exact Pick.here | apply Pick.there)) (by simp) (by simp [Value.oneCell']) fun w h => ?_
    simp only [setFrom, List.set_cons_zero, List.set_cons_succ, List.set_nil] at h
    have hR2 : ImR h2 q5 (cs .i64 (toI (R' i))) := by rw [hR']; exact hR2
    exact ⟨k - 1, by omega, i + 1, _, _, q3, c3, h2, by rw [wI64 (by omega) (by omega)]; rfl, by omega, LeH.trans le1 le2, upI (R := R') le2 hrows hR2, (Own.sub (h) (by repeat (first | with_reducible exact Sub.nil _ | with_reducible exact Sub.rfl _ | (apply Sub.cons; focus ((repeat (first | with_reducible exact Pick.here | apply Pick.there)); done)) | apply Sub.drop)))⟩
  · have hc := dec_f hc
    obtain rfl : i = 4 := by omega
    refine ⟨_, _, _, _, _, ⟨Own.ld (g := g3) h (by repeat (first | with_reducible exact Pick.here | apply Pick.there)) rfl, Own.ld (g := g3) h (by repeat (first | with_reducible exact Pick.here | apply Pick.there)) rfl, Own.ld (g := g3) h (by repeat (first | with_reducible exact Pick.here | apply Pick.there)) rfl⟩, Own.stP' (g := g2) h (by repeat (first | with_reducible exact Pick.here | apply Pick.there)) (by simp) (by simp [Value.oneCell']) fun w h => ?_⟩
    simp only [setFrom, List.set_cons_zero, List.set_cons_succ, List.set_nil] at h
    refine ⟨_, _, _, _, _, ⟨Own.ld (g := g2) h (by repeat (first | with_reducible exact Pick.here | apply Pick.there)) rfl, Own.ld (g := g2) h (by repeat (first | with_reducible exact Pick.here | apply Pick.there)) rfl, Own.ld (g := g2) h (by repeat (first | with_reducible exact Pick.here | apply Pick.there)) rfl⟩, ?_⟩
    have h : Own e w (slO 22 1 q' 4 c' (hdL Q C (2 ^ m) 4) :: imm h1 :: F) := (Own.sub (h) (by repeat (first | exact Sub.nil _ | exact Sub.rfl _ | (apply Sub.cons; focus ((repeat (first | with_reducible exact Pick.here | apply Pick.there)); done)) | apply Sub.drop)))
    obtain ⟨h2, le2, hH2, _, h⟩ := Own.slImm h
    exact ⟨h2, q', c', rfl, LeH.trans le1 le2, ⟨Q, C, hH2, fun j hj => (hrows j hj).mono le2⟩, h⟩
theorem cuN_succ (s : Int) (M : Nat) (hh : Int) (R : Nat → List Nat) (i : Nat) : cuN s M hh R (i + 1) = min (cuN s M hh R i) (ngGet (R i) (plc s M hh i : Int)) := rfl
theorem rsCount (hm9 : m ≤ 9) (hs : M64 s) (hR : rowsOk (2 ^ m) R) (hS : RsR h0 q (2 ^ m) R) (h : Own e w (imm h0 :: F)) : Rets Tryz.prog 39 #[rsV q c m s, .int .u64 hh] w fun v w' => v = .int .i64 (cuN s (2 ^ m) hh R 4 : Int) ∧ Own e w' (imm h0 :: F) := by
  obtain ⟨p1, p2⟩ := p9 hm9
  obtain ⟨Q0, C0, hH, hrow⟩ := hS
  obtain ⟨ad, rfl, hAd⟩ := hdAdr hH h
  refine cortadoref11_Count_go _ _ _ _ _ _ (h.newR fun g1 w h => ?_)
  let S : World → Prop := fun w => Own e w (imm h0 :: blk g1 33 [.slice (some ad) 4 c, .int .i64 ((2 ^ m : Nat) : Int), .int .u64 s] :: F)
  refine ⟨fun k vs w => ∃ (i : Nat), vs = [.int .i64 (cuN s (2 ^ m) hh R i : Int), .int .i64 (i : Int)] ∧ k + i = 4 ∧ S w, ⟨4, 0, rfl, rfl, h.swap⟩, ?_⟩
  clear h
  rintro k w n1 n2
  intros
  rename_i hI
  obtain ⟨i, hvs, hk, h⟩ := hI
  obtain ⟨rfl, rfl⟩ : n1 = (cuN s (2 ^ m) hh R i : Int) ∧ n2 = (i : Int) := by simpa using hvs
  refine ⟨_, _, _, Own.ld (g := g1) (k := 0) h (by repeat (first | with_reducible exact Pick.here | apply Pick.there)) rfl, fun hc => ?_, fun hc => ?_⟩
  · have hc := dec_t hc
    have hi : i < 4 := by omega
    refine h.drw fun w h => ⟨S, h, _, _, _, fun w h => Own.ld (g := g1) (k := 0) h (by repeat (first | with_reducible exact Pick.here | apply Pick.there)) rfl, by omega, by omega, smR ⟨_, _, _, fun w h => hAd i hi _ _ _ h, _, _, _, _, _, ⟨fun w h => Own.ld (g := g1) (k := 0) h (by repeat (first | with_reducible exact Pick.here | apply Pick.there)) rfl, fun w h => Own.ld (g := g1) (k := 1) h (by repeat (first | with_reducible exact Pick.here | apply Pick.there)) rfl, fun w h => Own.ld (g := g1) (k := 2) h (by repeat (first | with_reducible exact Pick.here | apply Pick.there)) rfl⟩, ?_⟩⟩
    refine Rets.mono (rdPlc (hh := hh) hi (by omega) hs h) ?_
    clear h
    rintro _ w ⟨rfl, h⟩
    have hpl := plc_lt (s := s) (h := hh) (i := i) p1
    have el := (hR i).2
    have ecu := cuN_succ s (2 ^ m) hh R i
    obtain ⟨P, hP⟩ : ∃ P, P = plc s (2 ^ m) hh i := ⟨_, rfl⟩
    obtain ⟨f, hf⟩ : ∃ f, f = cuN s (2 ^ m) hh R := ⟨_, rfl⟩
    rw [← hP] at hpl ecu ⊢
    rw [← hf] at ecu ⊢
    clear hP hf
    have hk2 : P < (toI (R i)).length := by rw [toI_len, el]; exact hpl
    obtain ⟨ar, ear, _⟩ := (hrow i hi e w _ h).addr (cs_at hk2)
    have egt : ngGet (R i) (P : Int) = (R i).getD P 0 := by unfold ngGet; rw [if_pos (by omega)]; simp
    have hv : ∀ w, S w → cellAt w (ar.add (Int.toNat (P : Int) * 1)) (.int .i64 ((ngGet (R i) (P : Int) : Nat) : Int)) := fun w h => by
      obtain ⟨ar', ear', hcell⟩ := (hrow i hi e w _ h).addr (cs_at hk2)
      rw [ear] at ear'; cases ear'
      have := hcell _ _ (cs_at hk2)
      rw [toI_at _ hk2] at this
      rw [Int.toNat_natCast, Nat.mul_one, egt]; exact this
    rw [ear]
    refine ⟨_, rfl, S, fun _ h => h, h, by omega, by omega, smR ⟨_, hv, k - 1, by omega, i + 1, ?_, by omega, h⟩⟩
    rw [ecu, wI64 (by omega) (by omega), minN]; rfl
  · have hc := dec_f hc
    obtain rfl : i = 4 := by omega
    exact ⟨rfl, (Own.sub (h) (by repeat (first | exact Sub.nil _ | exact Sub.rfl _ | (apply Sub.cons; focus ((repeat (first | with_reducible exact Pick.here | apply Pick.there)); done)) | apply Sub.drop)))⟩
end
section
variable {e w : World} {F : List HP} {s hh : Int} {q q2 : Option Addr} {c c2 L : Nat} {K : List Int}
theorem rdPlaces {m : Nat} (hm20 : m ≤ 20) (hs : M64 s) (h : Own e w F) : Rets Tryz.prog 65 #[.agg #[.slice q (2 ^ m) c, .int .u64 s], .int .u64 hh] w fun v w' => ∃ q' c', v = .slice q' 4 c' ∧ Own e w' (inB q' 4 c' (plL (mixI s) hh (2 ^ m) 4) :: F) := by
  obtain ⟨p1, p2⟩ := p20 hm20
  refine cortadoref12_Places_go _ _ _ _ _ (h.newR fun g w h => ⟨_, (Own.ld h (by repeat (first | with_reducible exact Pick.here | apply Pick.there)) (by rfl)), ?_⟩)
  refine Rets.mono (rfMix hs h) ?_
  rintro _ w ⟨rfl, h⟩
  refine ⟨_, rfl, ?_⟩
  refine Rets.mono (rfMix (x := xrI hh (mixI s)) (bits_M64 _ _) h) ?_
  rintro _ w ⟨rfl, h⟩
  refine ⟨_, rfl, ?_⟩
  refine Rets.mono (rfTwist (x := xrI hh (mixI s)) (bits_M64 _ _) h) ?_
  rintro _ w ⟨rfl, h⟩
  obtain ⟨d1, d2⟩ := dA_lt (mixI s) hh
  obtain ⟨a, ha⟩ : ∃ a, a = dA (mixI s) hh := ⟨_, rfl⟩
  obtain ⟨X, hX⟩ := Int.eq_ofNat_of_zero_le (twiI_M64 (xrI hh (mixI s))).1
  have hXl : X < 18446744073709551616 := by have h2 := (twiI_M64 (xrI hh (mixI s))).2; rw [hX] at h2; omega
  have eB : dB (mixI s) hh = odN X := by unfold dB; rw [hX, Int.toNat_natCast]
  obtain ⟨bb, hbb⟩ : ∃ b, b = dB (mixI s) hh := ⟨_, rfl⟩
  have hodd := odN_eq X
  rw [← hbb] at eB
  rw [← eB] at hodd
  have em : Int.tmod (X : Int) 2 = ((X % 2 : Nat) : Int) := by rw [Int.tmod_eq_emod_of_nonneg (by omega)]; omega
  have ea : ∀ i, plN (mixI s) hh (2 ^ m) i = (a + i * bb) % 18446744073709551616 % 2 ^ m := fun i => by rw [ha, hbb]; rfl
  rw [hX, ← d1, ← ha]
  rw [← ha] at d2
  clear d1 eB
  refine ⟨_, rfl, by omega, fun vs w => vs = [.int .u64 (bb : Int)] ∧ Own e w (blk g 36 [.slice q (2 ^ m) c, .int .u64 s] :: F), ⟨fun hx => ⟨?_, h⟩, fun hx => ⟨?_, h⟩⟩, ?_⟩
  · have hx := beq_t hx
    rw [em] at hx
    rw [hodd, if_pos (by omega), wU64' (by omega) (by omega)]; rfl
  · have hx := beq_f hx
    rw [em] at hx
    rw [hodd, if_neg (by omega)]
  clear h
  rintro w n5
  intros
  rename_i hI
  obtain ⟨hvs, h⟩ := hI
  obtain rfl : n5 = (bb : Int) := by simpa using hvs
  have hlen : ∀ i, (plL (mixI s) hh (2 ^ m) i).length = 4 := fun i => by simp [plL]
  refine ⟨fun k vs w => ∃ (i : Nat) (q' : Option Addr) (c' : Nat), vs = [.slice q' i c', .int .i64 (i : Int)] ∧ k + i = 4 ∧ Own e w (inB q' i c' ((plL (mixI s) hh (2 ^ m) 4).take i) :: blk g 36 [.slice q (2 ^ m) c, .int .u64 s] :: F), ⟨4, 0, none, 0, rfl, rfl, h.slNil⟩, ?_⟩
  clear h
  rintro k w q1 k3 k4 n6
  intros
  rename_i hI
  obtain ⟨i, q', c', hvs, hk, h⟩ := hI
  obtain ⟨⟨rfl, rfl, rfl⟩, rfl⟩ : (q1 = q' ∧ k3 = i ∧ k4 = c') ∧ n6 = (i : Int) := by simpa using hvs
  refine ⟨fun hc => ?_, fun hc => ?_⟩
  · have hc := dec_t hc
    have hi : k3 < 4 := by omega
    have hpl := plN_lt (s := mixI s) (h := hh) (i := k3) p1
    obtain ⟨M, hM⟩ : ∃ M, M = 2 ^ m := ⟨_, rfl⟩
    have ev : IntKind.wrap .i64 (Int.tmod (IntKind.wrap .u64 ((a : Int) + IntKind.wrap .u64 (IntKind.wrap .u64 (k3 : Int) * (bb : Int)))) (IntKind.wrap .u64 ((2 ^ m : Nat) : Int))) = (plN (mixI s) hh (2 ^ m) k3 : Int) := by
      rw [ea k3] at hpl ⊢
      rw [← hM] at hpl p1 p2 ⊢
      rw [wU64' (n := (k3 : Int)) (by omega) (by omega), wU64' (n := (M : Int)) (by omega) (by omega), show (k3 : Int) * (bb : Int) = ((k3 * bb : Nat) : Int) from (Int.natCast_mul _ _).symm]
      generalize k3 * bb = t at *
      have e2 : IntKind.wrap .u64 ((a : Int) + IntKind.wrap .u64 (t : Int)) = (((a + t) % 18446744073709551616 : Nat) : Int) := by
        rw [wU64, wU64]; omega
      rw [e2, Int.tmod_eq_emod_of_nonneg (by omega), ← Int.natCast_emod, wI64 (by omega) (by omega)]
    refine ⟨_, _, _, Own.ld (g := g) h (by repeat (first | with_reducible exact Pick.here | apply Pick.there)) rfl, ?_, ?_⟩
    · rw [wU64' (by omega) (by omega)]; omega
    rw [ev]
    refine h.newR fun g2 w h => ?_
    have h : Own e w (blk g2 3 (cs .i64 [(plN (mixI s) hh (2 ^ m) k3 : Int)]) :: inB q1 k3 k4 ((plL (mixI s) hh (2 ^ m) 4).take k3) :: blk g 36 [.slice q (2 ^ m) c, .int .u64 s] :: F) := h
    refine put64 (ys := [(plN (mixI s) hh (2 ^ m) k3 : Int)]) h rfl (by omega) fun q3 c3 w h => ⟨_, _, _, rfl, k - 1, by omega, k3 + 1, q3, c3, ?_, by omega, ?_⟩
    · rw [wI64 (by omega) (by omega)]; rfl
    · have e1 : (plL (mixI s) hh (2 ^ m) 4).take (k3 + 1) = (plL (mixI s) hh (2 ^ m) 4).take k3 ++ [(plN (mixI s) hh (2 ^ m) k3 : Int)] := by
        rw [List.take_succ_eq_append_getElem (by rw [hlen]; exact hi)]
        simp [plL, hi]
      rw [e1]; exact h
  · have hc := dec_f hc
    obtain rfl : k3 = 4 := by omega
    rw [List.take_of_length_le (by rw [hlen]; omega)] at h
    exact ⟨_, _, rfl, (Own.sub (h) (by repeat (first | exact Sub.nil _ | exact Sub.rfl _ | (apply Sub.cons; focus ((repeat (first | with_reducible exact Pick.here | apply Pick.there)); done)) | apply Sub.drop)))⟩
theorem plL_get {s h : Int} {M j : Nat} (hj : j < 4) : (plL s h M 4)[j]'(by simp [plL]; exact hj) = (plN s h M j : Int) := by
  simp [plL, hj]
end
/-- The document's list. -/
def rl (M : Nat) (ws : List Nat) : List Bool := (List.range M).map (bitW ws)
theorem rl_len (M : Nat) (ws : List Nat) : (rl M ws).length = M := by simp [rl]
theorem rl_get {M : Nat} {ws : List Nat} {i : Nat} (hi : i < (rl M ws).length) : (rl M ws)[i] = bitW ws i := by simp [rl]
theorem rl_set {M p : Nat} {ws : List Nat} (hp : p < M) (hl : p / 64 < ws.length) : rl M (setW ws p) = (rl M ws).set p true := by
  apply List.ext_getElem
  · simp [rl]
  · intro j h1 h2
    rw [rl_get, bitW_set hl, List.getElem_set]
    by_cases hj : p = j
    · subst hj; simp
    · rw [if_neg hj, rl_get, decide_eq_false (by omega), Bool.or_false]
theorem rl_zero (M n : Nat) : rl M (List.replicate n 0) = List.replicate M false := by
  apply List.ext_getElem
  · simp [rl]
  · intro j h1 h2
    rw [rl_get, List.getElem_replicate]
    have := bitsOf.nil 0 0 n j
    rw [Bool.eq_false_iff]; intro h
    obtain ⟨k, hk, _⟩ := this.1 h
    cases hk
/-! ### The document's -/
abbrev blB (q : Option Addr) (n c : Nat) (bs : List Bool) : HP := slO 4 1 q n c (bs.map Value.bool)
section
variable {e w : World} {F : List HP} {s hh : Int} {q : Option Addr} {c m : Nat} {ws : List Nat}
theorem rdNewO {k : Int} (h : Own e w F) : Rets Tryz.prog 51 #[.int .i64 k, .int .u64 s] w fun v w' => ∃ q' m, v = .agg #[.slice q' (2 ^ m) (2 ^ m), .int .u64 s] ∧ pwOk (keyN k) m ∧ Own e w' (blB q' (2 ^ m) (2 ^ m) (rl (2 ^ m) (List.replicate ((2 ^ m + 63) / 64) 0)) :: F) := by
  refine cortadoref12_New_go _ _ ?_
  unfold cortadoref12_New_m
  have hk := keyN_bd k
  have e1 : IntKind.wrap .i64 (8 * maxI 1 (minI k 4096)) = keyN k := by
    have : 8 * maxI 1 (minI k 4096) = keyN k := rfl
    rw [this, wI64 (by omega) (by omega)]
  rw [e1]
  refine h.newR fun g w h => ?_
  refine Rets.mono (rfPower ⟨by omega, by omega⟩ h) ?_
  rintro _ w ⟨⟨m, rfl, hok⟩, h⟩
  have hm20 := hok.small (by omega)
  obtain ⟨p1, p2⟩ := p20 hm20
  refine ⟨_, rfl, h.makeR ⟨by omega, by omega, by omega, by omega⟩ fun g2 w h => ?_⟩
  rw [Int.toNat_natCast] at h ⊢
  refine Own.stP' (g := g) h (by repeat (first | with_reducible exact Pick.here | apply Pick.there)) (by simp) (by simp [Value.oneCell']) fun w h => ?_
  simp only [setFrom, List.set_cons_zero, List.set_cons_succ, List.set_nil] at h
  refine ⟨_, _, _, _, ⟨Own.ld (g := g) h (by repeat (first | with_reducible exact Pick.here | apply Pick.there)) rfl, Own.ld (g := g) h (by repeat (first | with_reducible exact Pick.here | apply Pick.there)) rfl⟩, _, m, rfl, hok, ?_⟩
  have h := h.drop
  rw [rl_zero]
  refine Own.slMk (rest := []) (by simp) (Nat.le_refl _) (by unfold maxLen; omega) (by simp) ?_
  rw [List.append_nil]
  rw [zrep_one] at h
  simpa using h
theorem rdHas (hm20 : m ≤ 20) (hs : M64 s) (hr : ∀ w, Own e w F → RdC w q ((rl (2 ^ m) ws).map Value.bool)) (h : Own e w F) : Rets Tryz.prog 40 #[.agg #[.slice q (2 ^ m) c, .int .u64 s], .int .u64 hh] w fun v w' => v = .bool (hasB (mixI s) hh (2 ^ m) ws) ∧ Own e w' F := by
  obtain ⟨p1, p2⟩ := p20 hm20
  refine cortadoref12_Has_go _ _ _ _ _ (h.newR fun g w h => ⟨_, _, _, _, ⟨(Own.ld h (by repeat (first | with_reducible exact Pick.here | apply Pick.there)) (by rfl)), (Own.ld h (by repeat (first | with_reducible exact Pick.here | apply Pick.there)) (by rfl))⟩, ?_⟩)
  refine Rets.mono (rdPlaces hm20 hs h) ?_
  clear h
  rintro _ w ⟨q', c', rfl, h⟩
  have h : Own e w (blk g 36 [.slice q (2 ^ m) c, .int .u64 s] :: inB q' 4 c' (plL (mixI s) hh (2 ^ m) 4) :: F) := h.swap
  obtain ⟨t, ht⟩ : ∃ t, t = mixI s := ⟨_, rfl⟩
  rw [← ht] at h ⊢
  refine ⟨_, _, _, rfl, fun k vs w => ∃ i : Nat, vs = [.int .i64 (i : Int)] ∧ k + i = 4 ∧ (∀ j, j < i → bitW ws (plN t hh (2 ^ m) j) = true) ∧ Own e w (blk g 36 [.slice q (2 ^ m) c, .int .u64 s] :: inB q' 4 c' (plL t hh (2 ^ m) 4) :: F), ⟨4, 0, rfl, rfl, fun j hj => by omega, h⟩, ?_⟩
  clear h
  rintro k w v2 n2
  intros
  rename_i hI
  obtain ⟨i, hvs, hk, hb, h⟩ := hI
  obtain rfl : n2 = (i : Int) := by simpa using hvs
  refine ⟨fun hc => ?_, fun hc => ?_⟩
  · have hc := dec_t hc
    have hi : i < 4 := by omega
    have hpl := plN_lt (s := t) (h := hh) (i := i) p1
    have hlr : plN t hh (2 ^ m) i < (rl (2 ^ m) ws).length := by rw [rl_len]; exact hpl
    refine h.drw fun w h => ⟨by omega, by omega, (Own.rdP (T := 3) (q := q') h (by repeat (first | with_reducible exact Pick.here | apply Pick.there))).int (i := i) (by simp [plL]; exact hi) fun a ha => ⟨_, _, _, Own.ld (g := g) h (by repeat (first | with_reducible exact Pick.here | apply Pick.there)) rfl, (plN t hh (2 ^ m) i : Int), ?_, by omega, by omega, ?_⟩⟩
    · rw [Int.toNat_natCast, ← plL_get hi]; exact ha
    refine (hr w h.drop.drop).mp (i := plN t hh (2 ^ m) i) hlr fun a ha => ⟨bitW ws (plN t hh (2 ^ m) i), ?_, fun hx => ?_, fun hx => ?_⟩
    · rw [Int.toNat_natCast]; rw [rl_get] at ha; exact ha
    · have hx : bitW ws (plN t hh (2 ^ m) i) = false := by simpa using hx
      refine ⟨?_, h.drop.drop⟩
      have : hasB t hh (2 ^ m) ws = false := by
        rw [Bool.eq_false_iff]; intro hh2
        rw [hasB_iff.1 hh2 i hi] at hx; cases hx
      rw [this]
    · have hx : bitW ws (plN t hh (2 ^ m) i) = true := by simpa using hx
      refine ⟨k - 1, by omega, i + 1, by rw [wI64 (by omega) (by omega)]; rfl, by omega, fun j hj => ?_, h⟩
      by_cases hji : j = i
      · subst hji; exact hx
      · exact hb j (by omega)
  · have hc := dec_f hc
    obtain rfl : i = 4 := by omega
    exact ⟨by rw [hasB_iff.2 hb], h.drop.drop⟩
end
section
variable {e w : World} {F : List HP} {s hh : Int} {q q2 : Option Addr} {n c c2 m : Nat} {ws : List Nat} {xs ys : List Bool}
theorem appBl {k : Value → World → Prop} (h : Own e w (blB q n c xs :: F)) (hr : RdC w q2 (ys.map Value.bool)) (hl : ys.length = m) (hn : n + m ≤ 2000000)
    (hk : ∀ q' c' w', Own e w' (blB q' (n + m) c' (xs ++ ys) :: F) → k (.slice q' (n + m) c') w') :
    RunR Tryz.prog (builtinV .append #[34, 34] 34 #[.slice q n c, .slice q2 m c2]) w k := by
  refine Own.append (z := [.bool false]) (b := 1) (news := ys.map Value.bool) h (by kernel_rfl) (by kernel_rfl) (by kernel_rfl) (by kernel_rfl) (by kernel_rfl) (by omega) hr ?_ ?_ ?_ (by omega) ?_
  · simp; omega
  · intro u hu
    obtain ⟨b, _, rfl⟩ := List.mem_map.1 hu
    rfl
  · unfold maxLen; omega
  · intro q' c' w' h _
    rw [← List.map_append] at h
    exact hk q' c' w' h
theorem clBl {k : Value → World → Prop} {g : Nat} (h : Own e w (blk g 4 [] :: F)) (hr : RdC w q2 (ys.map Value.bool)) (hl : ys.length = m) (hn : m ≤ 2000000)
    (hk : ∀ q' c' w', Own e w' (blB q' m c' ys :: F) → k (.slice q' m c') w') :
    RunR Tryz.prog (builtinV .append #[34, 34] 34 #[.slice (some ⟨g, 0, none⟩) 0 0, .slice q2 m c2]) w k := by
  have h0 : Own e w (blB (some ⟨g, 0, none⟩) 0 0 [] :: F) := Own.slMk (rest := []) (by rfl) (by omega) (by omega) (by rfl) h
  refine appBl h0 hr hl (by omega) fun q' c' w' h => ?_
  rw [List.nil_append] at h
  simp only [Nat.zero_add] at h ⊢
  exact hk q' c' w' h
theorem rdPut (hm20 : m ≤ 20) (hs : M64 s) (hl : ws.length = (2 ^ m + 63) / 64) (h : Own e w (blB q (2 ^ m) c (rl (2 ^ m) ws) :: F)) :
    Rets Tryz.prog 81 #[.agg #[.slice q (2 ^ m) c, .int .u64 s], .int .u64 hh] w fun v w' => ∃ q' c', v = .tuple #[.agg #[.slice q' (2 ^ m) c', .int .u64 s], .bool (!hasB (mixI s) hh (2 ^ m) ws)] ∧ Own e w' (blB q' (2 ^ m) c' (rl (2 ^ m) (putB (mixI s) hh (2 ^ m) ws)) :: F) := by
  obtain ⟨p1, p2⟩ := p20 hm20
  refine cortadoref12_Put_go _ _ _ _ _ (h.newR fun g1 w h => h.newR fun g2 w h => ⟨_, _, _, _, ⟨Own.ld (g := g1) h (by repeat (first | with_reducible exact Pick.here | apply Pick.there)) rfl, Own.ld (g := g1) h (by repeat (first | with_reducible exact Pick.here | apply Pick.there)) rfl⟩, ?_⟩)
  refine Rets.mono (rdHas (ws := ws) hm20 hs (fun w h => Own.rdP (T := 4) (q := q) h (by repeat (first | with_reducible exact Pick.here | apply Pick.there))) h) ?_
  clear h
  rintro _ w ⟨rfl, h⟩
  obtain ⟨t, ht⟩ : ∃ t, t = mixI s := ⟨_, rfl⟩
  rw [← ht]
  refine ⟨_, rfl, fun hx => ?_, fun hx => ?_⟩
  · refine ⟨_, _, _, _, ⟨Own.ld (g := g1) h (by repeat (first | with_reducible exact Pick.here | apply Pick.there)) rfl, Own.ld (g := g1) h (by repeat (first | with_reducible exact Pick.here | apply Pick.there)) rfl⟩, Own.stP' (g := g2) h (by repeat (first | with_reducible exact Pick.here | apply Pick.there)) (by simp) (by simp [Value.oneCell']) fun w h => ?_⟩
    simp only [setFrom, List.set_cons_zero, List.set_cons_succ, List.set_nil] at h
    have e1 : putB t hh (2 ^ m) ws = ws := by unfold putB; rw [if_pos hx]
    rw [e1, hx]
    exact ⟨_, _, _, _, ⟨Own.ld (g := g2) h (by repeat (first | with_reducible exact Pick.here | apply Pick.there)) rfl, Own.ld (g := g2) h (by repeat (first | with_reducible exact Pick.here | apply Pick.there)) rfl⟩, _, _, rfl, h.drop.drop⟩
  have e1 : putB t hh (2 ^ m) ws = ptW t hh (2 ^ m) ws 4 := by unfold putB; rw [if_neg (by rw [hx]; simp)]
  rw [e1, hx]
  let R : List HP := blk g2 36 [.slice none 0 0, .int .u64 0] :: blk g1 36 [.slice q (2 ^ m) c, .int .u64 s] :: blB q (2 ^ m) c (rl (2 ^ m) ws) :: F
  have h : Own e w R := h
  have hrd : ∀ w, Own e w R → RdC w q ((rl (2 ^ m) ws).map Value.bool) := fun w h => Own.rdP (T := 4) (q := q) h (by repeat (first | with_reducible exact Pick.here | apply Pick.there))
  have hll := rl_len (2 ^ m) ws
  refine ⟨fun vs w => ∃ g3 q' c', vs = [.pointer (some ⟨g3, 0, none⟩)] ∧ Own e w (blk g3 36 [.slice q' (2 ^ m) c', .int .u64 s] :: blB q' (2 ^ m) c' (rl (2 ^ m) ws) :: R), ?_, ?_⟩
  · refine h.drw fun w h => ⟨fun w => Own e w R, h, _, _, _, fun w h => Own.ld (g := g1) h (by repeat (first | with_reducible exact Pick.here | apply Pick.there)) rfl, _, fun w h => Own.ld (g := g1) h (by repeat (first | with_reducible exact Pick.here | apply Pick.there)) rfl, h.newR fun g3 w h => ⟨h.drop, ?_, ?_⟩, h.newR fun g3 w h => ⟨h.drop, h.newR fun g4 w h => ⟨h.drop.drop, ?_⟩⟩⟩
    · refine clBl h (hrd _ h.drop) hll (by omega) fun q' c' w h => ⟨_, _, _, rfl, h.drop, h.newR fun g4 w h => ⟨h.drop.drop, Own.stP' (g := g4) h (by repeat (first | with_reducible exact Pick.here | apply Pick.there)) (by simp) (by simp [Value.oneCell']) fun w h => ?_⟩⟩
      simp only [setFrom, List.set_cons_zero, List.set_cons_succ, List.set_nil] at h
      exact ⟨_, _, _, rfl, h⟩
    · refine h.newR fun g4 w h => ⟨h.drop.drop, clBl h.swap (hrd _ h.drop.drop) hll (by omega) fun q' c' w h => ⟨_, _, _, rfl, h.drop.drop, Own.stP' (g := g4) h (by repeat (first | with_reducible exact Pick.here | apply Pick.there)) (by simp) (by simp [Value.oneCell']) fun w h => ?_⟩⟩
      simp only [setFrom, List.set_cons_zero, List.set_cons_succ, List.set_nil] at h
      exact ⟨_, _, _, rfl, h⟩
    · refine clBl h (hrd _ h.drop.drop) hll (by omega) fun q' c' w h => ⟨_, _, _, rfl, h.drop.drop, Own.stP' (g := g3) h (by repeat (first | with_reducible exact Pick.here | apply Pick.there)) (by simp) (by simp [Value.oneCell']) fun w h => ?_⟩
      simp only [setFrom, List.set_cons_zero, List.set_cons_succ, List.set_nil] at h
      exact ⟨_, _, _, rfl, h⟩
  clear h
  rintro w q8
  intros
  rename_i hI
  obtain ⟨g3, q', c', hvs, h⟩ := hI
  obtain rfl : q8 = some ⟨g3, 0, none⟩ := by simpa using hvs
  refine ⟨_, _, _, _, ⟨Own.ld (g := g1) h (by repeat (first | with_reducible exact Pick.here | apply Pick.there)) rfl, Own.ld (g := g1) h (by repeat (first | with_reducible exact Pick.here | apply Pick.there)) rfl⟩, ?_⟩
  refine Rets.mono (rdPlaces (hh := hh) hm20 hs h) ?_
  clear h
  rintro _ w ⟨qp, cp, rfl, h⟩
  rw [← ht] at h
  have h : Own e w (blB q' (2 ^ m) c' (rl (2 ^ m) ws) :: inB qp 4 cp (plL t hh (2 ^ m) 4) :: blk g3 36 [.slice q' (2 ^ m) c', .int .u64 s] :: blk g2 36 [.slice none 0 0, .int .u64 0] :: F) := (Own.sub (h) (by repeat (first | exact Sub.nil _ | exact Sub.rfl _ | (apply Sub.cons; focus ((repeat (first | with_reducible exact Pick.here | apply Pick.there)); done)) | apply Sub.drop)))
  refine ⟨_, _, _, rfl, fun k vs w => ∃ i : Nat, vs = [.int .i64 (i : Int)] ∧ k + i = 4 ∧ Own e w (blB q' (2 ^ m) c' (rl (2 ^ m) (ptW t hh (2 ^ m) ws i)) :: inB qp 4 cp (plL t hh (2 ^ m) 4) :: blk g3 36 [.slice q' (2 ^ m) c', .int .u64 s] :: blk g2 36 [.slice none 0 0, .int .u64 0] :: F), ⟨4, 0, rfl, rfl, h⟩, ?_⟩
  clear h hrd
  rintro k w n6
  intros
  rename_i hI
  obtain ⟨i, hvs, hk, h⟩ := hI
  obtain rfl : n6 = (i : Int) := by simpa using hvs
  refine ⟨fun hc => ?_, fun hc => ?_⟩
  · have hc := dec_t hc
    have hi : i < 4 := by omega
    have hpl := plN_lt (s := t) (h := hh) (i := i) p1
    have hnext : rl (2 ^ m) (ptW t hh (2 ^ m) ws (i + 1)) = (rl (2 ^ m) (ptW t hh (2 ^ m) ws i)).set (plN t hh (2 ^ m) i) true := rl_set hpl (by rw [ptW_len, hl]; omega)
    obtain ⟨W, hW⟩ : ∃ W, W = rl (2 ^ m) (ptW t hh (2 ^ m) ws i) := ⟨_, rfl⟩
    have hWl : W.length = 2 ^ m := by rw [hW, rl_len]
    rw [← hW] at h hnext
    refine h.drw fun w h => smR ⟨by omega, by omega, (Own.rdP (T := 3) (q := qp) h (by repeat (first | with_reducible exact Pick.here | apply Pick.there))).int (i := i) (by simp [plL]; exact hi) fun a ha => ⟨_, _, _, Own.ld (g := g3) h (by repeat (first | with_reducible exact Pick.here | apply Pick.there)) rfl, (plN t hh (2 ^ m) i : Int), ?_, by omega, by omega, ?_⟩⟩
    · rw [Int.toNat_natCast, ← plL_get hi]; exact ha
    rw [Int.toNat_natCast, Nat.mul_one]
    refine h.slStore (i := plN t hh (2 ^ m) i) (us := [.bool true]) (by simp; omega) (by simp) (by simp [Value.oneCell']) fun w h => ⟨k - 1, by omega, i + 1, by rw [wI64 (by omega) (by omega)]; rfl, by omega, ?_⟩
    have e5 : setFrom (W.map Value.bool) (plN t hh (2 ^ m) i) [.bool true] = (W.set (plN t hh (2 ^ m) i) true).map Value.bool := by simp [setFrom]
    rw [e5, ← hnext] at h
    exact h
  · have hc := dec_f hc
    obtain rfl : i = 4 := by omega
    refine smR ⟨_, _, _, _, ⟨Own.ld (g := g3) h (by repeat (first | with_reducible exact Pick.here | apply Pick.there)) rfl, Own.ld (g := g3) h (by repeat (first | with_reducible exact Pick.here | apply Pick.there)) rfl⟩, Own.stP' (g := g2) h (by repeat (first | with_reducible exact Pick.here | apply Pick.there)) (by simp) (by simp [Value.oneCell']) fun w h => ?_⟩
    simp only [setFrom, List.set_cons_zero, List.set_cons_succ, List.set_nil] at h
    exact ⟨_, _, _, _, ⟨Own.ld (g := g2) h (by repeat (first | with_reducible exact Pick.here | apply Pick.there)) rfl, Own.ld (g := g2) h (by repeat (first | with_reducible exact Pick.here | apply Pick.there)) rfl⟩, _, _, rfl, (Own.sub (h) (by repeat (first | exact Sub.nil _ | exact Sub.rfl _ | (apply Sub.cons; focus ((repeat (first | with_reducible exact Pick.here | apply Pick.there)); done)) | apply Sub.drop)))⟩
end
/-- What a tiny knows. -/
structure Ts where
  R : Nat → List Nat
  ws : List Nat
  ct : Int
  ag : Int
def nxT (s : Int) (m md : Nat) (lim : Int) (t : Ts) (x : Int) : Ts :=
  if lim ≤ t.ct + 1 then ⟨fun j => ngHalve (adR s (2 ^ m) (2 ^ md) t.R t.ws x j), List.replicate t.ws.length 0, 0, IntKind.wrap .i64 (t.ag + 1)⟩
  else ⟨adR s (2 ^ m) (2 ^ md) t.R t.ws x, putB (mixI s) x (2 ^ md) t.ws, t.ct + 1, t.ag⟩
def okT (m md : Nat) (lim : Int) (t : Ts) : Prop := rowsOk (2 ^ m) t.R ∧ t.ws.length = (2 ^ md + 63) / 64 ∧ 0 ≤ t.ct ∧ t.ct < lim
def t0 (m md : Nat) : Ts := ⟨fun _ => List.replicate (2 ^ m) 0, List.replicate ((2 ^ md + 63) / 64) 0, 0, 0⟩
theorem rows_half {M : Nat} {R : Nat → List Nat} (h : rowsOk M R) : rowsOk M (fun j => ngHalve (R j)) := fun j => by
  refine ⟨fun x hx => ?_, by simp [ngHalve, (h j).2]⟩
  obtain ⟨y, hy, rfl⟩ := List.mem_map.1 hx
  have := (h j).1 y hy
  omega
theorem okT0 {m md : Nat} {lim : Int} (h : 1 ≤ lim) : okT m md lim (t0 m md) := ⟨fun j => ⟨nbOk_zero _, by simp [t0]⟩, by simp [t0], Int.le_refl _, by show (0 : Int) < lim; omega⟩
theorem okT_nx {s : Int} {m md : Nat} {lim : Int} {t : Ts} (hl : 1 ≤ lim) (h : okT m md lim t) (x : Int) : okT m md lim (nxT s m md lim t x) := by
  obtain ⟨h1, h2, h3, h4⟩ := h
  unfold nxT
  split
  · exact ⟨rows_half (adR_ok h1), by show (List.replicate t.ws.length 0).length = _; rw [List.length_replicate]; exact h2, Int.le_refl _, by show (0 : Int) < lim; omega⟩
  · rename_i hn
    exact ⟨adR_ok h1, by show (putB (mixI s) x (2 ^ md) t.ws).length = _; rw [putB_len]; exact h2, by show 0 ≤ t.ct + 1; omega, by show t.ct + 1 < lim; omega⟩
def nxL (s : Int) (m md : Nat) (lim : Int) (t : Ts) (l : List Int) : Ts := l.foldl (nxT s m md lim) t
theorem nxL_snoc (s : Int) (m md : Nat) (lim : Int) (t : Ts) (l : List Int) (x : Int) : nxL s m md lim t (l ++ [x]) = nxT s m md lim (nxL s m md lim t l) x := by unfold nxL; rw [List.foldl_append]; rfl
theorem nxL_take {s : Int} {m md : Nat} {lim : Int} {t : Ts} {l : List Int} {i : Nat} (h : i < l.length) : nxL s m md lim t (l.take (i + 1)) = nxT s m md lim (nxL s m md lim t (l.take i)) l[i] := by
  rw [List.take_succ_eq_append_getElem h, nxL_snoc]
theorem okT_nxL {s : Int} {m md : Nat} {lim : Int} {t : Ts} (hl : 1 ≤ lim) (h : okT m md lim t) (l : List Int) : okT m md lim (nxL s m md lim t l) := by
  induction l generalizing t with
  | nil => exact h
  | cons x l ih => exact ih (okT_nx hl h x)
abbrev tinT (g m md : Nat) (s lim : Int) (t : Ts) : HP := tinO g m md s t.R t.ws t.ct lim t.ag
section
variable {e w : World} {F : List HP} {n s hh lim : Int} {g m md : Nat} {t : Ts}
theorem tAddT (hm1 : ∀ w, Own e w F → RdC w mixQ mixC) (hm2 : ∀ w, Own e w F → RdC w twiQ twiC) (hlim : lim ≤ 4096) (ok : okT m md lim t) (h : Own e w (tinT g m md s lim t :: F)) : Rets Tryz.prog 80 #[.pointer (some ⟨g, 0, none⟩), .int .u64 hh] w fun v w' => v = .tuple #[] ∧ Own e w' (tinT g m md s lim (nxT s m md lim t hh) :: F) := by
  obtain ⟨_, _, h3, h4⟩ := ok
  refine Rets.mono (tAdd (hh := hh) hm1 hm2 ⟨h3, h4, hlim⟩ h) ?_
  clear h
  rintro _ w ⟨rfl, ⟨hc, h⟩ | ⟨hc, h⟩⟩
  · unfold nxT; rw [if_pos hc]; exact ⟨rfl, h⟩
  · unfold nxT; rw [if_neg (by omega)]; exact ⟨rfl, h⟩
theorem tPushT {L : List Int} {q : Option Addr} {c : Nat} (hm1 : ∀ w, Own e w F → RdC w mixQ mixC) (hm2 : ∀ w, Own e w F → RdC w twiQ twiC) (hlim : 1 ≤ lim ∧ lim ≤ 4096) (ok : okT m md lim t) (hL : L.length ≤ 1000) (hr : ∀ w, Own e w F → RdC w q (cs .u64 L)) (h : Own e w (tinT g m md s lim t :: F)) : Rets Tryz.prog 56 #[.pointer (some ⟨g, 0, none⟩), .slice q L.length c] w fun v w' => v = .tuple #[] ∧ Own e w' (tinT g m md s lim (nxL s m md lim t L) :: F) := by
  have hp := tPush (g := g) (L := L) (q := q) (c := c) (fun i w => Own e w (tinT g m md s lim (nxL s m md lim t (L.take i)) :: F)) hL (fun i w h => hr w h.drop) (fun i w hi h => by rw [nxL_take hi]; exact tAddT hm1 hm2 hlim.2 (okT_nxL hlim.1 ok _) h) h
  rw [List.take_length] at hp
  exact hp
theorem tNewT (hm1 : ∀ w, Own e w F → RdC w mixQ mixC) (h : Own e w F) : Rets Tryz.prog 21 #[.int .i64 n, .int .u64 s] w fun v w' => ∃ g m md, v = .pointer (some ⟨g, 0, none⟩) ∧ pwOk (maxI 1 (minI (maxI 1 (minI n 4096)) 4096)) m ∧ pwOk (keyN (maxI 1 (minI n 4096))) md ∧ Own e w' (tinT g m md s (maxI 1 (minI n 4096)) (t0 m md) :: F) := by
  refine tiny_New_go _ _ ?_
  refine Rets.mono (skNew hm1 h) ?_
  clear h
  rintro _ w ⟨gs, m, rfl, hok, h⟩
  refine ⟨_, rfl, ?_⟩
  refine Rets.mono (drNew (fun w h => hm1 w h.drop) h) ?_
  clear h
  rintro _ w ⟨gd, md, rfl, hok2, h⟩
  refine ⟨_, rfl, h.newR fun g w h => ⟨g, m, md, rfl, hok, hok2, ?_⟩⟩
  have h : Own e w (tinB g gs gd 0 (maxI 1 (minI n 4096)) 0 :: skO gs m s (fun _ => List.replicate (2 ^ m) 0) :: dorO gd md (mixI s) (List.replicate ((2 ^ md + 63) / 64) 0) :: F) := (Own.sub (h) (by repeat (first | with_reducible exact Sub.nil _ | with_reducible exact Sub.rfl _ | (apply Sub.cons; focus ((repeat (first | with_reducible exact Pick.here | apply Pick.there)); done)) | apply Sub.drop)))
  exact tinO.cl h
end
abbrev trC (q : Option Addr) (c m : Nat) (s : Int) (q2 : Option Addr) (md c2 : Nat) (lim ct ag : Int) : List Value := [.slice q 4 c, .int .i64 ((2 ^ m : Nat) : Int), .int .u64 s, .slice q2 (2 ^ md) c2, .int .u64 s, .int .i64 ct, .int .i64 lim, .int .i64 ag, .int .i64 0, .int .u64 s]
abbrev trV (q : Option Addr) (c m : Nat) (s : Int) (q2 : Option Addr) (md c2 : Nat) (lim ct ag : Int) : Value := .agg #[.slice q 4 c, .int .i64 ((2 ^ m : Nat) : Int), .int .u64 s, .slice q2 (2 ^ md) c2, .int .u64 s, .int .i64 ct, .int .i64 lim, .int .i64 ag, .int .i64 0, .int .u64 s]
abbrev zT (g : Nat) : HP := blk g 38 [.slice none 0 0, .int .i64 0, .int .u64 0, .slice none 0 0, .int .u64 0, .int .i64 0, .int .i64 0, .int .i64 0, .int .i64 0, .int .u64 0]
abbrev dlO (q2 : Option Addr) (md c2 : Nat) (ws : List Nat) : HP := blB q2 (2 ^ md) c2 (rl (2 ^ md) ws)
section
variable {e w : World} {F : List HP} {n s hh lim : Int} {m md c c2 : Nat} {q q2 : Option Addr} {t : Ts} {h0 : Nat → Option Obj}
theorem trNew (hs : M64 s) (h : Own e w (imm h0 :: F)) : Rets Tryz.prog 23 #[.int .i64 n, .int .u64 s] w fun v w' => ∃ h1 q c m q2 md c2, v = trV q c m s q2 md c2 (maxI 1 (minI n 4096)) 0 0 ∧ pwOk (maxI 1 (minI (maxI 1 (minI n 4096)) 4096)) m ∧ pwOk (keyN (maxI 1 (minI n 4096))) md ∧ LeH h0 h1 ∧ RsR h1 q (2 ^ m) (t0 m md).R ∧ Own e w' (imm h1 :: dlO q2 md c2 (t0 m md).ws :: F) := by
  refine cortadoref13_New_go _ _ (h.newR fun g1 w h => ?_)
  refine Rets.mono (rsNew (s := s) h.swap) ?_
  clear h
  rintro _ w ⟨h1, q, c, m, rfl, hok, le1, hR, h⟩
  refine ⟨_, _, _, _, _, rfl, ?_⟩
  refine Rets.mono (rdNewO (s := s) h) ?_
  clear h
  rintro _ w ⟨q2, md, rfl, hok2, h⟩
  refine ⟨_, _, _, _, rfl, Own.stP' (g := g1) h (by repeat (first | with_reducible exact Pick.here | apply Pick.there)) (by simp) (by simp [Value.oneCell']) fun w h => ?_⟩
  simp only [setFrom, List.set_cons_zero, List.set_cons_succ, List.set_nil] at h
  refine ⟨_, _, _, _, _, _, _, _, _, _, _, _, _, _, ⟨Own.ld (g := g1) h (by repeat (first | with_reducible exact Pick.here | apply Pick.there)) rfl, Own.ld (g := g1) h (by repeat (first | with_reducible exact Pick.here | apply Pick.there)) rfl, Own.ld (g := g1) h (by repeat (first | with_reducible exact Pick.here | apply Pick.there)) rfl, Own.ld (g := g1) h (by repeat (first | with_reducible exact Pick.here | apply Pick.there)) rfl, Own.ld (g := g1) h (by repeat (first | with_reducible exact Pick.here | apply Pick.there)) rfl, Own.ld (g := g1) h (by repeat (first | with_reducible exact Pick.here | apply Pick.there)) rfl, Own.ld (g := g1) h (by repeat (first | with_reducible exact Pick.here | apply Pick.there)) rfl, Own.ld (g := g1) h (by repeat (first | with_reducible exact Pick.here | apply Pick.there)) rfl, Own.ld (g := g1) h (by repeat (first | with_reducible exact Pick.here | apply Pick.there)) rfl, Own.ld (g := g1) h (by repeat (first | with_reducible exact Pick.here | apply Pick.there)) rfl⟩, h1, q, c, m, q2, md, _, rfl, hok, hok2, le1, hR, ?_⟩
  exact h.drop.swap
theorem trAdd (hm9 : m ≤ 9) (hmd : md ≤ 20) (hs : M64 s) (hlim : lim ≤ 4096) (hkd : pwOk (keyN lim) md) (ok : okT m md lim t) (hS : RsR h0 q (2 ^ m) t.R) (h : Own e w (imm h0 :: dlO q2 md c2 t.ws :: F)) : Rets Tryz.prog 57 #[trV q c m s q2 md c2 lim t.ct t.ag, .int .u64 hh] w fun v w' => ∃ h1 q' c' q2' c2', v = trV q' c' m s q2' md c2' lim (nxT s m md lim t hh).ct (nxT s m md lim t hh).ag ∧ LeH h0 h1 ∧ RsR h1 q' (2 ^ m) (nxT s m md lim t hh).R ∧ Own e w' (imm h1 :: dlO q2' md c2' (nxT s m md lim t hh).ws :: F) := by
  obtain ⟨hR, hl, hct0, hct1⟩ := ok
  obtain ⟨R, ws, ct, ag⟩ := t
  have hR : rowsOk (2 ^ m) R := hR
  have hl : ws.length = (2 ^ md + 63) / 64 := hl
  have hct0 : 0 ≤ ct := hct0
  have hct1 : ct < lim := hct1
  have hS : RsR h0 q (2 ^ m) R := hS
  have h : Own e w (imm h0 :: dlO q2 md c2 ws :: F) := h
  have e1 : IntKind.wrap .i64 (ct + 1) = ct + 1 := wI64 (by omega) (by omega)
  have hlp : (putB (mixI s) hh (2 ^ md) ws).length = ws.length := putB_len _ _ _ _
  show Rets Tryz.prog 57 #[trV q c m s q2 md c2 lim ct ag, .int .u64 hh] w _
  obtain ⟨nx, hnx⟩ : ∃ nx, nx = nxT s m md lim ⟨R, ws, ct, ag⟩ hh := ⟨_, rfl⟩
  rw [← hnx]
  have nxT1 : lim ≤ ct + 1 → nx = ⟨fun j => ngHalve (adR s (2 ^ m) (2 ^ md) R ws hh j), List.replicate ws.length 0, 0, IntKind.wrap .i64 (ag + 1)⟩ := fun hc => by rw [hnx]; unfold nxT; rw [if_pos hc]
  have nxT2 : ¬ lim ≤ ct + 1 → nx = ⟨adR s (2 ^ m) (2 ^ md) R ws hh, putB (mixI s) hh (2 ^ md) ws, ct + 1, ag⟩ := fun hc => by rw [hnx]; unfold nxT; rw [if_neg hc]
  clear hnx
  refine cortadoref13_Add_go _ _ _ _ _ _ _ _ _ _ _ _ _ _ _ (h.newR fun g1 w h => h.newR fun g2 w h => ⟨_, _, _, _, ⟨Own.ld (g := g1) (k := 3) h (by repeat (first | with_reducible exact Pick.here | apply Pick.there)) rfl, Own.ld (g := g1) (k := 4) h (by repeat (first | with_reducible exact Pick.here | apply Pick.there)) rfl⟩, ?_⟩)
  have h : Own e w (dlO q2 md c2 ws :: imm h0 :: blk g1 38 (trC q c m s q2 md c2 lim ct ag) :: zT g2 :: F) := (Own.sub (h) (by repeat (first | with_reducible exact Sub.nil _ | with_reducible exact Sub.rfl _ | (apply Sub.cons; focus ((repeat (first | with_reducible exact Pick.here | apply Pick.there)); done)) | apply Sub.drop)))
  refine Rets.mono (rdPut (hh := hh) hmd hs hl h) ?_
  clear h
  rintro _ w ⟨q3, c3, rfl, h⟩
  obtain ⟨b, hb⟩ : ∃ b, b = hasB (mixI s) hh (2 ^ md) ws := ⟨_, rfl⟩
  obtain ⟨R', hR'⟩ : ∃ R', R' = adR s (2 ^ m) (2 ^ md) R ws hh := ⟨_, rfl⟩
  obtain ⟨ws', hws⟩ : ∃ ws', ws' = putB (mixI s) hh (2 ^ md) ws := ⟨_, rfl⟩
  have hok' : rowsOk (2 ^ m) R' := by rw [hR']; exact adR_ok hR
  rw [← hws] at h hlp nxT2
  rw [← hR'] at nxT1 nxT2
  rw [← hb]
  refine ⟨_, _, _, _, _, rfl, h.newR fun g3 w h => Own.stP' (g := g3) h (by repeat (first | with_reducible exact Pick.here | apply Pick.there)) (by simp) (by simp [Value.oneCell']) fun w h => ?_⟩
  simp only [setFrom, List.set_cons_zero, List.set_cons_succ, List.set_nil] at h
  refine ⟨_, _, _, _, ⟨Own.ld (g := g3) h (by repeat (first | with_reducible exact Pick.here | apply Pick.there)) rfl, Own.ld (g := g3) h (by repeat (first | with_reducible exact Pick.here | apply Pick.there)) rfl⟩, Own.stP (g := g1) (k := 3) h (by repeat (first | with_reducible exact Pick.here | apply Pick.there)) (by simp) (by simp [Value.oneCell']) fun w h => ?_⟩
  simp only [setFrom, List.set_cons_zero, List.set_cons_succ, List.set_nil] at h
  have h : Own e w (imm h0 :: blk g1 38 (trC q c m s q3 md c3 lim ct ag) :: dlO q3 md c3 ws' :: zT g2 :: F) := (Own.sub (h) (by repeat (first | exact Sub.nil _ | exact Sub.rfl _ | (apply Sub.cons; focus ((repeat (first | with_reducible exact Pick.here | apply Pick.there)); done)) | apply Sub.drop)))
  refine ⟨fun vs w => vs = [] ∧ ∃ h1 q' c', LeH h0 h1 ∧ RsR h1 q' (2 ^ m) R' ∧ Own e w (imm h1 :: blk g1 38 (trC q' c' m s q3 md c3 lim ct ag) :: dlO q3 md c3 ws' :: zT g2 :: F), ⟨fun hbb => ?_, fun hbb => ?_⟩, ?_⟩
  · have hbt : b = true := by simpa using hbb
    have eR : R' = fun j => ngAdd (R j) (plc s (2 ^ m) hh j : Int) := by rw [hR']; unfold adR; rw [← hb, if_pos hbt]
    refine ⟨_, _, _, _, _, ⟨Own.ld (g := g1) (k := 0) h (by repeat (first | with_reducible exact Pick.here | apply Pick.there)) rfl, Own.ld (g := g1) (k := 1) h (by repeat (first | with_reducible exact Pick.here | apply Pick.there)) rfl, Own.ld (g := g1) (k := 2) h (by repeat (first | with_reducible exact Pick.here | apply Pick.there)) rfl⟩, ?_⟩
    refine Rets.mono (rsAdd (hh := hh) hm9 hs hR hS h) ?_
    clear h
    rintro _ w ⟨h1, q', c', rfl, le1, hR1, h⟩
    rw [← eR] at hR1
    refine ⟨_, _, _, _, _, rfl, Own.stP (g := g1) (k := 0) h (by repeat (first | with_reducible exact Pick.here | apply Pick.there)) (by simp) (by simp [Value.oneCell']) fun w h => ⟨rfl, h1, q', c', le1, hR1, ?_⟩⟩
    simp only [setFrom, List.set_cons_zero, List.set_cons_succ, List.set_nil] at h
    exact (Own.sub (h) (by repeat (first | with_reducible exact Sub.nil _ | with_reducible exact Sub.rfl _ | (apply Sub.cons; focus ((repeat (first | with_reducible exact Pick.here | apply Pick.there)); done)) | apply Sub.drop)))
  · have hbf : b = false := by simpa using hbb
    have eR : R' = R := by rw [hR']; unfold adR; rw [← hb, hbf]; rfl
    rw [eR]
    exact ⟨rfl, h0, q, c, LeH.refl _, hS, h⟩
  clear h
  rintro w
  intros
  rename_i hI
  obtain ⟨_, h1, q', c', le1, hS1, h⟩ := hI
  refine ⟨_, Own.ld (g := g1) (k := 5) h (by repeat (first | with_reducible exact Pick.here | apply Pick.there)) rfl, Own.stP (g := g1) (k := 5) h (by repeat (first | with_reducible exact Pick.here | apply Pick.there)) (by simp) (by simp [Value.oneCell']) fun w h => ?_⟩
  simp only [setFrom, List.set_cons_zero, List.set_cons_succ, List.set_nil] at h
  rw [e1] at h
  have h : Own e w (imm h1 :: blk g1 38 (trC q' c' m s q3 md c3 lim (ct + 1) ag) :: dlO q3 md c3 ws' :: zT g2 :: F) := (Own.sub (h) (by repeat (first | with_reducible exact Sub.nil _ | with_reducible exact Sub.rfl _ | (apply Sub.cons; focus ((repeat (first | with_reducible exact Pick.here | apply Pick.there)); done)) | apply Sub.drop)))
  refine ⟨_, Own.ld (g := g1) (k := 5) h (by repeat (first | with_reducible exact Pick.here | apply Pick.there)) rfl, _, Own.ld (g := g1) (k := 6) h (by repeat (first | with_reducible exact Pick.here | apply Pick.there)) rfl, ?_⟩
  refine ⟨fun vs w => vs = [] ∧ ∃ h2 q' c' q3 c3, LeH h0 h2 ∧ RsR h2 q' (2 ^ m) nx.R ∧ Own e w (imm h2 :: blk g1 38 (trC q' c' m s q3 md c3 lim nx.ct nx.ag) :: dlO q3 md c3 nx.ws :: zT g2 :: F), ⟨fun hc => ?_, fun hc => ?_⟩, ?_⟩
  · have hc := dec_t hc
    rw [nxT1 (by omega)]
    refine ⟨_, _, _, _, _, ⟨Own.ld (g := g1) (k := 0) h (by repeat (first | with_reducible exact Pick.here | apply Pick.there)) rfl, Own.ld (g := g1) (k := 1) h (by repeat (first | with_reducible exact Pick.here | apply Pick.there)) rfl, Own.ld (g := g1) (k := 2) h (by repeat (first | with_reducible exact Pick.here | apply Pick.there)) rfl⟩, ?_⟩
    refine Rets.mono (rsHalve hm9 hok' hS1 h) ?_
    clear h
    rintro _ w ⟨h2, q4, c4, rfl, le2, hS2, h⟩
    refine ⟨_, _, _, _, _, rfl, Own.stP (g := g1) (k := 0) h (by repeat (first | with_reducible exact Pick.here | apply Pick.there)) (by simp) (by simp [Value.oneCell']) fun w h => ?_⟩
    simp only [setFrom, List.set_cons_zero, List.set_cons_succ, List.set_nil] at h
    refine ⟨_, Own.ld (g := g1) (k := 6) h (by repeat (first | with_reducible exact Pick.here | apply Pick.there)) rfl, _, Own.ld (g := g1) (k := 9) h (by repeat (first | with_reducible exact Pick.here | apply Pick.there)) rfl, ?_⟩
    refine Rets.mono (rdNewO (s := s) h) ?_
    clear h
    rintro _ w ⟨q5, md5, rfl, hok5, h⟩
    obtain rfl : md5 = md := hok5.uniq hkd
    refine ⟨_, _, _, _, rfl, Own.stP (g := g1) (k := 3) h (by repeat (first | with_reducible exact Pick.here | apply Pick.there)) (by simp) (by simp [Value.oneCell']) fun w h => ?_⟩
    simp only [setFrom, List.set_cons_zero, List.set_cons_succ, List.set_nil] at h
    refine Own.stP (g := g1) (k := 5) h (by repeat (first | with_reducible exact Pick.here | apply Pick.there)) (by simp) (by simp [Value.oneCell']) fun w h => ?_
    simp only [setFrom, List.set_cons_zero, List.set_cons_succ, List.set_nil] at h
    refine ⟨_, Own.ld (g := g1) (k := 7) h (by repeat (first | with_reducible exact Pick.here | apply Pick.there)) rfl, Own.stP (g := g1) (k := 7) h (by repeat (first | with_reducible exact Pick.here | apply Pick.there)) (by simp) (by simp [Value.oneCell']) fun w h => ⟨rfl, h2, q4, c4, q5, 2 ^ md5, LeH.trans le1 le2, hS2, ?_⟩⟩
    simp only [setFrom, List.set_cons_zero, List.set_cons_succ, List.set_nil] at h
    rw [hl]
    exact (Own.sub (h) (by repeat (first | exact Sub.nil _ | exact Sub.rfl _ | (apply Sub.cons; focus ((repeat (first | with_reducible exact Pick.here | apply Pick.there)); done)) | apply Sub.drop)))
  · have hc := dec_f hc
    rw [nxT2 (by omega)]
    exact ⟨rfl, h1, q', c', q3, c3, le1, hS1, h⟩
  clear h
  rintro w
  intros
  rename_i hI
  obtain ⟨_, h2, q4, c4, q5, c5, le2, hS2, h⟩ := hI
  refine ⟨_, _, _, _, _, _, _, _, _, _, _, _, _, _, ⟨Own.ld (g := g1) h (by repeat (first | with_reducible exact Pick.here | apply Pick.there)) rfl, Own.ld (g := g1) h (by repeat (first | with_reducible exact Pick.here | apply Pick.there)) rfl, Own.ld (g := g1) h (by repeat (first | with_reducible exact Pick.here | apply Pick.there)) rfl, Own.ld (g := g1) h (by repeat (first | with_reducible exact Pick.here | apply Pick.there)) rfl, Own.ld (g := g1) h (by repeat (first | with_reducible exact Pick.here | apply Pick.there)) rfl, Own.ld (g := g1) h (by repeat (first | with_reducible exact Pick.here | apply Pick.there)) rfl, Own.ld (g := g1) h (by repeat (first | with_reducible exact Pick.here | apply Pick.there)) rfl, Own.ld (g := g1) h (by repeat (first | with_reducible exact Pick.here | apply Pick.there)) rfl, Own.ld (g := g1) h (by repeat (first | with_reducible exact Pick.here | apply Pick.there)) rfl, Own.ld (g := g1) h (by repeat (first | with_reducible exact Pick.here | apply Pick.there)) rfl⟩, Own.stP' (g := g2) h (by repeat (first | with_reducible exact Pick.here | apply Pick.there)) (by simp) (by simp [Value.oneCell']) fun w h => ?_⟩
  simp only [setFrom, List.set_cons_zero, List.set_cons_succ, List.set_nil] at h
  refine ⟨_, _, _, _, _, _, _, _, _, _, _, _, _, _, ⟨Own.ld (g := g2) h (by repeat (first | with_reducible exact Pick.here | apply Pick.there)) rfl, Own.ld (g := g2) h (by repeat (first | with_reducible exact Pick.here | apply Pick.there)) rfl, Own.ld (g := g2) h (by repeat (first | with_reducible exact Pick.here | apply Pick.there)) rfl, Own.ld (g := g2) h (by repeat (first | with_reducible exact Pick.here | apply Pick.there)) rfl, Own.ld (g := g2) h (by repeat (first | with_reducible exact Pick.here | apply Pick.there)) rfl, Own.ld (g := g2) h (by repeat (first | with_reducible exact Pick.here | apply Pick.there)) rfl, Own.ld (g := g2) h (by repeat (first | with_reducible exact Pick.here | apply Pick.there)) rfl, Own.ld (g := g2) h (by repeat (first | with_reducible exact Pick.here | apply Pick.there)) rfl, Own.ld (g := g2) h (by repeat (first | with_reducible exact Pick.here | apply Pick.there)) rfl, Own.ld (g := g2) h (by repeat (first | with_reducible exact Pick.here | apply Pick.there)) rfl⟩, h2, q4, c4, q5, c5, rfl, le2, hS2, ?_⟩
  exact (Own.sub (h) (by repeat (first | exact Sub.nil _ | exact Sub.rfl _ | (apply Sub.cons; focus ((repeat (first | with_reducible exact Pick.here | apply Pick.there)); done)) | apply Sub.drop)))
theorem trEst (hm9 : m ≤ 9) (hmd : md ≤ 20) (hs : M64 s) (ok : okT m md lim t) (hS : RsR h0 q (2 ^ m) t.R) (hr : ∀ w, Own e w F → RdC w q2 ((rl (2 ^ md) t.ws).map Value.bool)) {ct ag : Int} (h : Own e w (imm h0 :: F)) : Rets Tryz.prog 13 #[trV q c m s q2 md c2 lim ct ag, .int .u64 hh] w fun v w' => v = .int .i64 (esN s (2 ^ m) (2 ^ md) t.R t.ws hh : Int) ∧ Own e w' (imm h0 :: F) := by
  refine cortadoref13_Estimate_go _ _ _ _ _ _ _ _ _ _ _ _ _ _ _ (h.newR fun g1 w h => ⟨_, _, _, _, _, ⟨Own.ld (g := g1) (k := 0) h (by repeat (first | with_reducible exact Pick.here | apply Pick.there)) rfl, Own.ld (g := g1) (k := 1) h (by repeat (first | with_reducible exact Pick.here | apply Pick.there)) rfl, Own.ld (g := g1) (k := 2) h (by repeat (first | with_reducible exact Pick.here | apply Pick.there)) rfl⟩, ?_⟩)
  refine Rets.mono (rsCount (hh := hh) hm9 hs ok.1 hS h.swap) ?_
  clear h
  rintro _ w ⟨rfl, h⟩
  refine ⟨_, rfl, _, _, _, _, ⟨Own.ld (g := g1) (k := 3) h (by repeat (first | with_reducible exact Pick.here | apply Pick.there)) rfl, Own.ld (g := g1) (k := 4) h (by repeat (first | with_reducible exact Pick.here | apply Pick.there)) rfl⟩, ?_⟩
  refine Rets.mono (rdHas (ws := t.ws) hmd hs (fun w h => hr w h.drop.drop) h) ?_
  clear h
  rintro _ w ⟨rfl, h⟩
  have h : Own e w (imm h0 :: F) := h.swap.drop
  have hle := cuG_le (plc s (2 ^ m) hh) t.R 4
  have ee : esN s (2 ^ m) (2 ^ md) t.R t.ws hh = esG (cuG (plc s (2 ^ m) hh) t.R 4) (hasB (mixI s) hh (2 ^ md) t.ws) := rfl
  rw [ee, cuN_eq]
  obtain ⟨c, hc⟩ : ∃ c, c = cuG (plc s (2 ^ m) hh) t.R 4 := ⟨_, rfl⟩
  rw [← hc] at hle ⊢
  refine ⟨_, rfl, fun hb => ⟨?_, h⟩, fun hb => ⟨?_, h⟩⟩
  · rw [hb, wI64 (by omega) (by omega)]; rfl
  · rw [hb]; rfl
end
end Go.Proofs.YtggflkjdgcdcmaaGreatDoor.Eng
