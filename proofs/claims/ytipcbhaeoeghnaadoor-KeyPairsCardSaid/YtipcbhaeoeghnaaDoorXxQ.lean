/- Digests of bytes that come part by part. -/
import Derived.Test.YtipcbhaeoeghnaaDoorXxP
namespace Go.Proofs.YtipcbhaeoeghnaaDoor.Eng
open Go Go.RowKit Go.Proofs
set_option linter.unusedVariables false
set_option linter.unusedSimpArgs false
set_option maxRecDepth 1000000
def dgV (s : Int) (ss wt : List Int) (n : Int) : List Value := .int .u64 s :: (cs .u64 ss ++ (cs .u8 wt ++ [.int .i64 n]))
section
variable {s n : Int} {ss wt : List Int}
theorem dgV_len (hs : ss.length = 4) (hw : wt.length = 32) : (dgV s ss wt n).length = 38 := by simp [dgV, cs, hs, hw]
theorem dgV_n (hs : ss.length = 4) (hw : wt.length = 32) : (dgV s ss wt n)[37]? = some (.int .i64 n) := by
  show (cs .u64 ss ++ (cs .u8 wt ++ [Value.int .i64 n]))[36]? = _
  rw [List.getElem?_append_right (by rw [cs_len, hs]; omega), cs_len, hs, List.getElem?_append_right (by rw [cs_len, hw]; omega), cs_len, hw]; rfl
theorem dgV_s (hs : ss.length = 4) {j : Nat} (hj : j < 4) : (dgV s ss wt n)[1 + j]? = some (.int .u64 (ss.getD j 0)) := by
  rw [Nat.add_comm]
  show (cs .u64 ss ++ (cs .u8 wt ++ [Value.int .i64 n]))[j]? = _
  rw [List.getElem?_append_left (by rw [cs_len, hs]; exact hj), cs_at (by omega), List.getD_eq_getElem?_getD, List.getElem?_eq_getElem (by omega)]; rfl
theorem dgV_w (hs : ss.length = 4) (hw : wt.length = 32) {i : Nat} (hi : i ≤ 32) : (dgV s ss wt n).drop (5 + i) = cs .u8 (wt.drop i) ++ [.int .i64 n] := by
  rw [show 5 + i = (4 + i) + 1 by omega]
  show (cs .u64 ss ++ (cs .u8 wt ++ [Value.int .i64 n])).drop (4 + i) = _
  rw [List.drop_append, List.drop_eq_nil_of_le (by rw [cs_len, hs]; omega), cs_len, hs, List.nil_append, show 4 + i - 4 = i by omega, List.drop_append_of_le_length (by rw [cs_len, hw]; exact hi), cs_drop]
theorem dgV_setS (hs : ss.length = 4) {j : Nat} (hj : j < 4) (x : Int) : setFrom (dgV s ss wt n) (1 + j) [.int .u64 x] = dgV s (ss.set j x) wt n := by
  rw [Nat.add_comm]
  show Value.int .u64 s :: (cs .u64 ss ++ (cs .u8 wt ++ [Value.int .i64 n])).set j (Value.int .u64 x) = _
  rw [List.set_append_left _ _ (by rw [cs_len, hs]; exact hj)]
  simp [dgV, cs]
theorem dgV_setN (hs : ss.length = 4) (hw : wt.length = 32) (m : Int) : setFrom (dgV s ss wt n) 37 [.int .i64 m] = dgV s ss wt m := by
  show Value.int .u64 s :: (cs .u64 ss ++ (cs .u8 wt ++ [Value.int .i64 n])).set 36 (Value.int .i64 m) = _
  rw [List.set_append_right _ _ (by rw [cs_len, hs]; omega), cs_len, hs, List.set_append_right _ _ (by rw [cs_len, hw]; omega), cs_len, hw]; rfl
theorem dgV_copy (hs : ss.length = 4) (hw : wt.length = 32) {o : Nat} {ns : List Int} (ho : o + ns.length ≤ 32) : (dgV s ss wt n).take (5 + o) ++ cs .u8 ns ++ (dgV s ss wt n).drop (5 + o + (cs .u8 ns).length) = dgV s ss (wt.take o ++ ns ++ wt.drop (o + ns.length)) n := by
  rw [show 5 + o + (cs .u8 ns).length = 5 + (o + ns.length) by rw [cs_len]; omega, dgV_w hs hw ho, show 5 + o = (4 + o) + 1 by omega]
  show Value.int .u64 s :: (cs .u64 ss ++ (cs .u8 wt ++ [Value.int .i64 n])).take (4 + o) ++ cs .u8 ns ++ _ = _
  rw [List.take_append, List.take_of_length_le (by rw [cs_len, hs]; omega), cs_len, hs, show 4 + o - 4 = o by omega, List.take_append_of_le_length (by rw [cs_len, hw]; omega)]
  simp [dgV, cs]
end
/-- A digest that has got these bytes. -/
def xxO (g : Nat) (s : Int) (all : List Int) : HP := exH fun wt => puH (wt.length = 32 ∧ By wt ∧ wt.take (all.length % 32) = all.drop (32 * (all.length / 32))) (blk g 119 (dgV s (smL s all (all.length / 32)) wt (all.length : Nat)))
section
variable {e w : World} {F : List HP} {g c : Nat} {q : Option Addr} {s x : Int} {all bs : List Int}
theorem xxO.op (h : Own e w (xxO g s all :: F)) : ∃ wt, (wt.length = 32 ∧ By wt ∧ wt.take (all.length % 32) = all.drop (32 * (all.length / 32))) ∧ Own e w (blk g 119 (dgV s (smL s all (all.length / 32)) wt (all.length : Nat)) :: F) := by
  obtain ⟨wt, h⟩ := h.ex
  exact ⟨wt, h.pu⟩
theorem xxO.cl {wt : List Int} (h1 : wt.length = 32 ∧ By wt ∧ wt.take (all.length % 32) = all.drop (32 * (all.length / 32))) (h : Own e w (blk g 119 (dgV s (smL s all (all.length / 32)) wt (all.length : Nat)) :: F)) : Own e w (xxO g s all :: F) := Own.mkEx wt (Own.mkPu h1 h)
theorem xxNew (h : Own e w F) : Rets Tryd.prog 71 #[.int .u64 s] w fun v w' => ∃ g, v = .pointer (some ⟨g, 0, none⟩) ∧ Own e w' (xxO g s [] :: F) := by
  refine xx_New_go _ (h.newR fun g w h => ⟨g, rfl, xxO.cl (wt := List.replicate 32 0) ⟨rfl, fun x hx => ?_, rfl⟩ h⟩)
  rw [List.eq_of_mem_replicate hx]; omega
theorem xxTake {ss wt : List Int} {n : Int} (hs : ss.length = 4) (hw : wt.length = 32) (hb : By wt) (h : Own e w (blk g 119 (dgV s ss wt n) :: F)) :
    Rets Tryd.prog 90 #[.pointer (some ⟨g, 0, none⟩), .slice (slcA (some ((⟨g, 0, none⟩ : Addr).add 5)) 0 32 1) 32 32] w fun v w' => v = .tuple #[] ∧ Own e w' (blk g 119 (dgV s (tkP ss wt 4) wt n) :: F) := by
  refine xx_Digest_take_go _ _ _ _ ⟨fun m vs w => ∃ i : Nat, vs = [.int .i64 (i : Int)] ∧ m + i = 4 ∧ Own e w (blk g 119 (dgV s (tkP ss wt i) wt n) :: F), ⟨4, 0, rfl, rfl, by rw [tkP_zero wt hs]; exact h⟩, ?_⟩
  clear h
  rintro m w v1 n1
  intros
  rename_i hI
  obtain ⟨i, hvs, hm, h⟩ := hI
  obtain rfl : n1 = (i : Int) := by simpa using hvs
  have hl4 := tkP_len ss wt i
  refine ⟨fun hc => ?_, fun hc => ?_⟩
  · have hc := dec_t hc
    have hi : i < 4 := by omega
    have e8 : IntKind.wrap .i64 (8 * (i : Int)) = ((8 * i : Nat) : Int) := by rw [wI64 (by omega) (by omega)]; omega
    have e16 : IntKind.wrap .i64 (((8 * i : Nat) : Int) + 8) = ((8 * i + 8 : Nat) : Int) := by rw [wI64 (by omega) (by omega)]; omega
    have eq : slcA (slcA (some ((⟨g, 0, none⟩ : Addr).add 5)) 0 32 1) (8 * i) 32 1 = some ((⟨g, 0, none⟩ : Addr).add (5 + 8 * i)) := by
      unfold slcA; rw [if_neg (by omega), if_neg (by omega)]
      simp only [Option.map_some, addr_add_add]
      congr 2; omega
    have ea : ((⟨g, 0, none⟩ : Addr).add 1).add (i * 1) = (⟨g, 0, none⟩ : Addr).add (1 + i) := by rw [addr_add_add, Nat.mul_one]
    have el : 8 * i + 8 - 8 * i = ((wt.drop (8 * i)).take 8).length := by rw [List.length_take, List.length_drop]; omega
    simp only [e8, e16, Int.toNat_natCast, eq, ea, el]
    refine h.drw fun w h => ⟨fun w => Own e w (blk g 119 (dgV s (tkP ss wt i) wt n) :: F), h, by omega, by omega, by omega, by omega, by omega, by omega, (tkP ss wt i).getD i 0, fun w h => Own.ld (g := g) h (by repeat (first | with_reducible exact Pick.here | apply Pick.there)) (dgV_s hl4 hi), ?_⟩
    refine Rets.mono (xxNumber (bs := (wt.drop (8 * i)).take 8) ((hb.drop _).take _) (by rw [List.length_take]; omega) (fun w h => ?_) h) ?_
    · have h1 := h.rdAt (5 + 8 * i)
      rw [dgV_w hl4 hw (by omega)] at h1
      have h2 := h1.pre.take 8
      rwa [show (cs .u8 (wt.drop (8 * i))).take 8 = cs .u8 ((wt.drop (8 * i)).take 8) by simp [cs]] at h2
    rintro _ w ⟨rfl, h⟩
    refine ⟨_, rfl, h, ?_⟩
    refine Rets.mono (xxRound h) ?_
    rintro _ w ⟨rfl, h⟩
    refine ⟨_, rfl, by omega, by omega, ?_⟩
    refine Own.store h (by rw [dgV_len hl4 hw]; simp; omega) (by simp [Value.oneCell']) fun w h => ⟨m - 1, by omega, i + 1, by rw [wI64 (by omega) (by omega)]; rfl, by omega, ?_⟩
    rw [dgV_setS hl4 hi] at h
    have e1 : (tkP ss wt i).getD i 0 = ss.getD i 0 := by
      rw [List.getD_eq_getElem?_getD, List.getElem?_eq_getElem (by omega), tkP_get hi]; rfl
    have e2 := tkP_set (ss := ss) (bl := wt) hi
    rw [e1] at h
    rw [← e2]; exact h
  · have hc := dec_f hc
    obtain rfl : i = 4 := by omega
    exact ⟨rfl, h⟩
/-! What is written: the places then. -/
theorem xx_full {cur rem : List Int} {wt : List Int} {k : Nat} (hw : wt.length = 32) (ht : wt.take (cur.length % 32) = cur.drop (32 * (cur.length / 32))) (hk : k ≤ rem.length) (h32 : cur.length % 32 + k = 32) :
    smL s (cur ++ rem.take k) ((cur ++ rem.take k).length / 32) = tkP (smL s cur (cur.length / 32)) (wt.take (cur.length % 32) ++ rem.take k ++ wt.drop (cur.length % 32 + k)) 4 ∧ (cur ++ rem.take k).length % 32 = 0 ∧ (cur ++ rem.take k).drop (32 * ((cur ++ rem.take k).length / 32)) = [] := by
  have hl : (cur ++ rem.take k).length = 32 * (cur.length / 32) + 32 := by simp; omega
  have e1 : (32 * (cur.length / 32) + 32) / 32 = cur.length / 32 + 1 := by omega
  refine ⟨?_, by omega, by rw [List.drop_eq_nil_iff, hl]; omega⟩
  rw [hl, e1]
  show tkP (smL s (cur ++ rem.take k) (cur.length / 32)) ((cur ++ rem.take k).drop (32 * (cur.length / 32))) 4 = _
  rw [smL_app s cur _ _ (by omega), List.drop_append_of_le_length (by omega), ← ht, List.drop_eq_nil_of_le (by omega : wt.length ≤ cur.length % 32 + k), List.append_nil]
theorem xx_part {cur rem : List Int} {wt : List Int} {k : Nat} (hw : wt.length = 32) (ht : wt.take (cur.length % 32) = cur.drop (32 * (cur.length / 32))) (hk : k ≤ rem.length) (h32 : cur.length % 32 + k < 32) :
    smL s (cur ++ rem.take k) ((cur ++ rem.take k).length / 32) = smL s cur (cur.length / 32) ∧ (wt.take (cur.length % 32) ++ rem.take k ++ wt.drop (cur.length % 32 + k)).take ((cur ++ rem.take k).length % 32) = (cur ++ rem.take k).drop (32 * ((cur ++ rem.take k).length / 32)) := by
  have hl : (cur ++ rem.take k).length = cur.length + k := by simp; omega
  have e1 : (cur.length + k) / 32 = cur.length / 32 := by omega
  have e2 : (cur.length + k) % 32 = cur.length % 32 + k := by omega
  rw [hl, e1, e2]
  refine ⟨smL_app s cur _ _ (by omega), ?_⟩
  rw [List.drop_append_of_le_length (by omega), ← ht, List.take_left']
  simp; omega
theorem xxWrite (hb : By bs) (hr : ∀ w, Own e w F → RdC w q (cs .u8 bs)) (hc : bs.length ≤ c) (hn : all.length + bs.length ≤ 1000000) (h : Own e w (xxO g s all :: F)) :
    Rets Tryd.prog 72 #[.pointer (some ⟨g, 0, none⟩), .slice q bs.length c] w fun v w' => v = .tuple #[] ∧ Own e w' (xxO g s (all ++ bs) :: F) := by
  refine xx_Digest_Write_go _ _ _ _ ⟨fun hc => (by cases hc), fun _ => ⟨fun m vs w => ∃ (j : Nat) (q' : Option Addr) (c' : Nat), vs = [.slice q' (bs.drop j).length c'] ∧ m = (bs.drop j).length ∧ j ≤ bs.length ∧ (bs.drop j).length ≤ c' ∧ (∀ w, Own e w F → RdC w q' (cs .u8 (bs.drop j))) ∧ Own e w (xxO g s (all ++ bs.take j) :: F), ⟨bs.length, 0, q, c, rfl, rfl, Nat.zero_le _, hc, hr, by simpa using h⟩, ?_⟩⟩
  clear h
  rintro m w q1 k3 k4
  intros
  rename_i hI
  obtain ⟨j, q', c', hvs, rfl, hj, hcl, hrd, h⟩ := hI
  obtain ⟨rfl, rfl, rfl⟩ : q1 = q' ∧ k3 = (bs.drop j).length ∧ k4 = c' := by simpa using hvs
  refine ⟨fun hx => ?_, fun hx => ?_⟩
  · have hx := dec_t hx
    obtain ⟨rem, hrem⟩ : ∃ rem, rem = bs.drop j := ⟨_, rfl⟩
    obtain ⟨cur, hcur⟩ : ∃ cur, cur = all ++ bs.take j := ⟨_, rfl⟩
    have hbr : By rem := by rw [hrem]; exact hb.drop j
    have hcl' : cur.length = all.length + j := by rw [hcur]; simp; omega
    have hrl : rem.length = bs.length - j := by rw [hrem]; simp
    rw [← hrem] at hx hcl hrd ⊢
    rw [← hcur] at h
    obtain ⟨wt, ⟨hw, hbw, ht⟩, h⟩ := xxO.op h
    have hs4 := smL_len s cur (cur.length / 32)
    have en : Int.tmod (cur.length : Int) 32 = ((cur.length % 32 : Nat) : Int) := by rw [Int.tmod_eq_emod_of_nonneg (by omega)]; omega
    have hat : cur.length % 32 < 32 := Nat.mod_lt _ (by omega)
    obtain ⟨at_, hate⟩ : ∃ a, a = cur.length % 32 := ⟨_, rfl⟩
    rw [← hate] at en hat
    have eq : slcA (some ((⟨g, 0, none⟩ : Addr).add 5)) at_ 32 1 = some ((⟨g, 0, none⟩ : Addr).add (5 + at_)) := by
      unfold slcA; rw [if_neg (by omega)]
      simp only [Option.map_some, addr_add_add, Nat.mul_one]
    refine ⟨_, Own.ld (g := g) h (by repeat (first | with_reducible exact Pick.here | apply Pick.there)) (dgV_n hs4 hw), by omega, ?_⟩
    simp only [en, Int.toNat_natCast, eq]
    obtain ⟨k, hk⟩ : ∃ k, k = Nat.min rem.length (32 - at_) := ⟨_, rfl⟩
    have hk1 : k ≤ rem.length := by rw [hk]; exact Nat.min_le_left _ _
    have hk2 : k ≤ 32 - at_ := by rw [hk]; exact Nat.min_le_right _ _
    have hk3 : 0 < k := by rw [hk]; exact Nat.lt_min.2 ⟨by omega, by omega⟩
    have hkl : (rem.take k).length = k := by simp; omega
    refine ⟨by omega, by omega, ?_⟩
    obtain ⟨ad, rfl, hcell⟩ := (hrd w h.drop).addr (cs_at (i := 0) (by omega))
    refine Own.copyAt (elem := 5) (news := cs .u8 (rem.take k)) h (by kernel_rfl) (by kernel_rfl) ⟨ad, rfl, fun i v hv => ?_⟩ (by rw [cs_len, hkl, hk]) (by rw [cs_len, hkl, dgV_len hs4 hw]; omega) (cs_one _ _) fun w h => ?_
    · have hlt := (List.getElem?_eq_some_iff.1 hv).1
      rw [cs_len, hkl] at hlt
      refine hcell i v ?_
      rw [← hv]
      simp only [cs, List.map_take]
      rw [List.getElem?_take_of_lt hlt]
    rw [dgV_copy hs4 hw (by rw [hkl]; omega), hkl] at h
    rw [cs_len, hkl]
    obtain ⟨wt', hwt'⟩ : ∃ wt', wt' = wt.take at_ ++ rem.take k ++ wt.drop (at_ + k) := ⟨_, rfl⟩
    have hw' : wt'.length = 32 := by rw [hwt']; simp; omega
    have hbw' : By wt' := by rw [hwt']; exact ((hbw.take _).append (hbr.take _)).append (hbw.drop _)
    rw [← hwt'] at h
    refine ⟨_, rfl, _, Own.ld (g := g) h (by repeat (first | with_reducible exact Pick.here | apply Pick.there)) (dgV_n hs4 hw'), ?_⟩
    refine Own.stP (g := g) h (by repeat (first | with_reducible exact Pick.here | apply Pick.there)) (by rw [dgV_len hs4 hw']; simp) (by simp [Value.oneCell']) fun w h => ?_
    rw [dgV_setN hs4 hw', wI64 (by omega) (by omega)] at h
    have ek : IntKind.wrap .i64 ((at_ : Int) + (k : Int)) = ((at_ + k : Nat) : Int) := by rw [wI64 (by omega) (by omega)]; omega
    rw [ek, Int.toNat_natCast]
    have ecur : all ++ bs.take (j + k) = cur ++ rem.take k := by
      rw [hcur, hrem, List.append_assoc, ← List.take_add]
    have edrop : bs.drop (j + k) = rem.drop k := by rw [hrem, List.drop_drop]
    have elen : (cur ++ rem.take k).length = cur.length + k := by rw [List.length_append, hkl]
    have next : ∀ w, Own e w (xxO g s (cur ++ rem.take k) :: F) → ∃ k5, k5 < rem.length ∧ ∃ (j : Nat) (q' : Option Addr) (c' : Nat), [Value.slice (slcA (some ad) k k4 1) (rem.length - k) (k4 - k)] = [.slice q' (bs.drop j).length c'] ∧ k5 = (bs.drop j).length ∧ j ≤ bs.length ∧ (bs.drop j).length ≤ c' ∧ (∀ w, Own e w F → RdC w q' (cs .u8 (bs.drop j))) ∧ Own e w (xxO g s (all ++ bs.take j) :: F) := fun w h => by
      refine ⟨rem.length - k, by omega, j + k, slcA (some ad) k k4 1, k4 - k, ?_, ?_, by omega, ?_, fun w h => ?_, by rw [ecur]; exact h⟩
      · rw [edrop, List.length_drop]
      · rw [edrop, List.length_drop]
      · rw [edrop, List.length_drop]; omega
      · rw [edrop, cs_drop]
        exact (hrd w h).cut (by rw [cs_len]; omega) (by rw [cs_len]; omega)
    refine ⟨by omega, by omega, fun hy => ?_, fun hy => ?_⟩
    · have hy := beq_t hy
      have hfull : cur.length % 32 + k = 32 := by omega
      obtain ⟨f1, f2, f3⟩ := xx_full (s := s) hw ht hk1 hfull
      refine Rets.mono (xxTake hs4 hw' hbw' h) ?_
      rintro _ w ⟨rfl, h⟩
      refine ⟨rfl, next w (xxO.cl (wt := wt') ⟨hw', hbw', ?_⟩ ?_)⟩
      · rw [f2, f3]; rfl
      · rw [f1, ← hate, ← hwt', elen]
        have : ((cur.length + k : Nat) : Int) = (cur.length : Int) + (k : Int) := by omega
        rw [this]; exact h
    · have hy := beq_f hy
      have hpart : cur.length % 32 + k < 32 := by omega
      obtain ⟨f1, f2⟩ := xx_part (s := s) hw ht hk1 hpart
      refine next w (xxO.cl (wt := wt') ⟨hw', hbw', ?_⟩ ?_)
      · rw [hwt', hate]; exact f2
      · rw [f1, elen]
        have : ((cur.length + k : Nat) : Int) = (cur.length : Int) + (k : Int) := by omega
        rw [this]; exact h
  · have hx := dec_f hx
    have hjb : j = bs.length := by
      rw [List.length_drop] at hx; omega
    rw [hjb, List.take_length] at h
    exact ⟨rfl, h⟩
end
end Go.Proofs.YtipcbhaeoeghnaaDoor.Eng
