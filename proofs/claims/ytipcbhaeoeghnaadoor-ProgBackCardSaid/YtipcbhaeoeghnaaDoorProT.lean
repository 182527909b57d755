/- ProgRight. -/
import Derived.Test.YtipcbhaeoeghnaaDoorProS
namespace Go.Proofs.YtipcbhaeoeghnaaDoor.Eng
open Go Go.RowKit Go.Proofs
set_option linter.unusedVariables false
set_option linter.unusedSimpArgs false
set_option maxRecDepth 1000000
def NamesLaid (W : World) : Prop := ∃ t fr, W.heap[0]? = some (.cells nmC.toArray t fr)
theorem NamesLaid.rd {W : World} (h : NamesLaid W) : RdC W nmQ nmC := by
  obtain ⟨t, fr, h⟩ := h
  refine .inr ⟨_, rfl, fun j u hj => ?_⟩
  have e0 : (⟨0, 0, none⟩ : Addr).add j = ⟨0, j, none⟩ := add0 0 j
  rw [e0]
  simpa [World.cell?, h] using hj
theorem recS {S : World → Prop} {ad : Addr} {l : List Op5} (hr : ∀ w, S w → RdC w (some ad) (l.flatMap encO)) {i : Nat} (hi : i < l.length) (j : Nat) (u : Value) (hj : (encO l[i])[j]? = some u) : ∀ w, S w → cellAt w ((ad.add (i * 5)).add j) u := fun w hS => by
  obtain ⟨a, ha, hcell⟩ := RdC.rec encO_len (hr w hS) hi (by omega)
  cases ha
  exact hcell i hi j u hj
def wrB (x : Op5) : Bool := x.1 == 2 || (x.1 == 3 || (x.1 == 5 || x.1 == 6))
theorem bare_bare (x : Op5) : rightB ((bareL (opL x)).getD 0 0, (bareL (opL x)).getD 1 0, (bareL (opL x)).getD 2 0, (bareL (opL x)).getD 3 0, (bareL (opL x)).getD 4 0) = true := by
  obtain ⟨k0, k1, k2, k3, k4⟩ := x
  by_cases hk : knownB k0 = true
  · have hk' : 0 ≤ k0 ∧ k0 ≤ 7 := of_decide_eq_true hk
    obtain h | h | h | h | h | h | h | h : k0 = 0 ∨ k0 = 1 ∨ k0 = 2 ∨ k0 = 3 ∨ k0 = 4 ∨ k0 = 5 ∨ k0 = 6 ∨ k0 = 7 := by omega
    all_goals subst h
    all_goals simp [pls, rightB, knownB, bareL, outsL, opL]
  · have e : bareL (opL (k0, k1, k2, k3, k4)) = [0, 0, 0, 0, 0] := by
      unfold bareL opL
      rw [if_neg (by simpa using hk)]
    rw [e]; rfl
theorem prRight_bare {e w : World} {F : List HP} {x : Op5} {k : Value → World → Prop} {n0 n1 n2 n3 n4 : Int} (hz : Value.agg (opV (bareL (opL x))).toArray = .agg #[.int .i64 n0, .int .i64 n1, .int .i64 n2, .int .i64 n3, .int .i64 n4]) (h : Own e w F) (hk : ∀ w', Own e w' F → k (.bool true) w') :
    Rets Tryd.prog 8 #[.agg #[.int .i64 n0, .int .i64 n1, .int .i64 n2, .int .i64 n3, .int .i64 n4]] w k := by
  refine Rets.mono (prRight (x := (n0, n1, n2, n3, n4)) h) ?_
  rintro _ w ⟨rfl, h⟩
  have hb := bare_bare x
  obtain ⟨z0, z1, z2, z3, z4, hzz⟩ := five (bareL_len (opL x))
  rw [hzz] at hz hb
  simp [opV, cs] at hz
  obtain ⟨rfl, rfl, rfl, rfl, rfl⟩ := hz
  have hb : rightB (z0, z1, z2, z3, z4) = true := hb
  rw [hb]
  exact hk w h
section
variable {W : World} {q : Option Addr} {c : Nat} {l : List Op5} {k : Int}
theorem ProgRight_spec (HL : NamesLaid W) (hb : RdC W q (l.flatMap encO)) (hm : l.length ≤ maxLen) (hc : l.length ≤ c) (hw : ∀ s ∈ l, (Lit.int .i64 s.1).wf = true ∧ (Lit.int .i64 s.2.1).wf = true ∧ (Lit.int .i64 s.2.2.1).wf = true ∧ (Lit.int .i64 s.2.2.2.1).wf = true ∧ (Lit.int .i64 s.2.2.2.2).wf = true) (hkw : (Lit.int .i64 k).wf = true) :
    Rets Tryd.prog 3 #[.slice q l.length c, .int .i64 k] W fun v w' => v = .bool true ∧ Below W.heap.size W w' := by
  refine Rets.mono (k := fun v w' => v = .bool true ∧ Own W w' [snap W]) ?_ (fun v w' h => ⟨h.1, h.2.below⟩)
  have h := Own.begin W
  have hn : ∀ w, Own W w [snap W] → RdC w nmQ nmC := fun w h => h.snapRd HL.rd
  have hr : ∀ w, Own W w [snap W] → RdC w q (l.flatMap encO) := fun w h => h.snapRd hb
  have aw : ∀ w, Own W w [snap W] → Rets Tryd.prog 7 #[] w fun v w' => ∃ b, v = Value.bool b ∧ (Value.bool b) = .bool true ∧ Own W w' [snap W] := fun w h => by
    refine Rets.mono (prAwake h hn) ?_
    rintro _ w ⟨rfl, h⟩
    exact ⟨_, rfl, rfl, h⟩
  refine cortadolaw17_ProgRight_go _ _ _ _ ⟨fun hx => aw W h, fun hx => ?_⟩
  have hx := dec_f hx
  refine ⟨fun m vs w => ∃ i : Nat, vs = [.int .i64 (i : Int)] ∧ m + i = l.length ∧ Own W w [snap W], ⟨l.length, 0, rfl, rfl, h⟩, ?_⟩
  clear h
  rintro m w v2 n1
  intros
  rename_i hI
  obtain ⟨i, hvs, hm, h⟩ := hI
  obtain rfl : n1 = (i : Int) := by simpa using hvs
  refine ⟨fun hi => ?_, fun hi => ?_⟩
  · have hi := dec_t hi
    have hi : i < l.length := by omega
    have hin : 0 ≤ (i : Int) := by omega
    have hil : (i : Int) < (l.length : Int) := by omega
    obtain ⟨ad, rfl, hcell⟩ := RdC.rec encO_len (hr w h) hi (by omega)
    obtain ⟨x, hxe⟩ : ∃ x, x = l[i] := ⟨_, rfl⟩
    have hR := fun j u hj => recS (S := fun w => Own W w [snap W]) hr hi j u hj
    have h0 := hcell i hi 0 _ rfl
    rw [← hxe] at h0
    have hR : ∀ j u, (encO x)[j]? = some u → ∀ w, Own W w [snap W] → cellAt w ((ad.add (i * 5)).add j) u := by rw [hxe]; exact hR
    refine ⟨hin, hil, smR ⟨x.1, h0, fun h2 => ⟨hin, hil, smR ⟨x.1, h0, fun h3 => ⟨hin, hil, smR ⟨x.1, h0, fun h5 => ⟨hin, hil, smR ⟨x.1, h0, ?_⟩⟩, fun h5 => ?_⟩⟩, fun h3 => ?_⟩⟩, fun h2 => ?_⟩⟩
    all_goals
      refine h.drw fun w h => ⟨fun w => Own W w [snap W], h, hin, hil, smR ⟨hin, hil, smR ⟨x.1, x.2.1, x.2.2.1, x.2.2.2.1, x.2.2.2.2, ⟨hR 0 _ rfl, hR 1 _ rfl, hR 2 _ rfl, hR 3 _ rfl, hR 4 _ rfl⟩, x.1, x.2.1, x.2.2.1, x.2.2.2.1, x.2.2.2.2, ⟨hR 0 _ rfl, hR 1 _ rfl, hR 2 _ rfl, hR 3 _ rfl, hR 4 _ rfl⟩, ?_⟩⟩⟩
      refine Rets.mono (prRight (x := x) h) ?_
      rintro _ w ⟨rfl, h⟩
      refine ⟨_, rfl, h, ?_⟩
      refine Rets.mono (rfRight (x := x) h) ?_
      rintro _ w ⟨rfl, h⟩
      refine ⟨_, rfl, h, fun _ => ⟨hin, hil, smR ⟨hin, hil, smR ⟨x.1, x.2.1, x.2.2.1, x.2.2.2.1, x.2.2.2.2, ⟨hR 0 _ rfl, hR 1 _ rfl, hR 2 _ rfl, hR 3 _ rfl, hR 4 _ rfl⟩, x.1, x.2.1, x.2.2.1, x.2.2.2.1, x.2.2.2.2, ⟨hR 0 _ rfl, hR 1 _ rfl, hR 2 _ rfl, hR 3 _ rfl, hR 4 _ rfl⟩, ?_⟩⟩⟩, fun hc => absurd hc (by simp)⟩
      obtain ⟨z0, z1, z2, z3, z4, hz⟩ := five (bareL_len (opL x))
      refine Rets.mono (prBare (k0 := x.1) (k1 := x.2.1) (k2 := x.2.2.1) (k3 := x.2.2.2.1) (k4 := x.2.2.2.2) h) ?_
      rintro _ w ⟨rfl, h⟩
      refine ⟨z0, z1, z2, z3, z4, by show Value.agg (opV (bareL (opL x))).toArray = _; rw [hz]; rfl, h, ?_⟩
      refine Rets.mono (rfBare (x := x) h) ?_
      rintro _ w ⟨rfl, h⟩
      refine ⟨z0, z1, z2, z3, z4, by show Value.agg (opV (bareL (opL x))).toArray = _; rw [hz]; rfl, h, fun _ => ⟨hin, hil, smR ⟨x.1, x.2.1, x.2.2.1, x.2.2.2.1, x.2.2.2.2, ⟨hR 0 _ rfl, hR 1 _ rfl, hR 2 _ rfl, hR 3 _ rfl, hR 4 _ rfl⟩, ?_⟩⟩, fun hc => absurd hc (by simp)⟩
      refine Rets.mono (prWrites (x := x) h) ?_
      rintro _ w ⟨rfl, h⟩
      refine ⟨_, rfl, h, fun _ => ⟨hin, hil, smR ⟨x.1, x.2.1, x.2.2.1, x.2.2.2.1, x.2.2.2.2, ⟨hR 0 _ rfl, hR 1 _ rfl, hR 2 _ rfl, hR 3 _ rfl, hR 4 _ rfl⟩, ?_⟩⟩, fun hc => absurd hc (by first | (rw [h2, h3, h5]; cases (x.1 == 6) <;> simp) | (rw [h2, h3, h5]; simp) | (rw [h2, h3]; simp) | (rw [h2]; simp))⟩
      refine Rets.mono (prBare (k0 := x.1) (k1 := x.2.1) (k2 := x.2.2.1) (k3 := x.2.2.2.1) (k4 := x.2.2.2.2) h) ?_
      rintro _ w ⟨rfl, h⟩
      have hz' : Value.agg (opV (bareL (opL x))).toArray = .agg #[.int .i64 z0, .int .i64 z1, .int .i64 z2, .int .i64 z3, .int .i64 z4] := by rw [hz]; rfl
      refine ⟨z0, z1, z2, z3, z4, hz', ?_⟩
      refine prRight_bare hz' h fun w h => ⟨_, rfl, fun hc => (by cases hc), fun _ => ⟨m - 1, by omega, i + 1, ?_, by omega, h⟩⟩
      rw [wI64 (by omega) (by omega)]; rfl
  · have tail : ∀ (w : World) (s : ByteArray), Own W w [snap W] → s = nameP k →
        Rets Tryd.prog 13 #[.slice q l.length c] w fun v3 w1 => ∃ b1, v3 = Value.bool b1 ∧ Rets Tryd.prog 14 #[.slice q l.length c] w1 fun v4 w2 => ∃ b2, v4 = Value.bool b2 ∧ ((b1 == b2) = true → Rets Tryd.prog 15 #[.int .i64 k] w2 fun v5 w3 => ∃ s3, v5 = Value.string s3 ∧ ((ByteArray.toList s3 == ByteArray.toList s) = true → Rets Tryd.prog 7 #[] w3 fun v6 w4 => ∃ b3, v6 = Value.bool b3 ∧ (Value.bool b3) = .bool true ∧ Own W w4 [snap W]) ∧ ((ByteArray.toList s3 == ByteArray.toList s) = false → (Value.bool false) = .bool true ∧ Own W w3 [snap W])) ∧ ((b1 == b2) = false → (Value.bool false) = .bool true ∧ Own W w2 [snap W]) := by
      rintro w s h rfl
      refine Rets.mono (prFine h hr) ?_
      rintro _ w ⟨rfl, h⟩
      refine ⟨_, rfl, ?_⟩
      refine Rets.mono (rfFine h hr (by omega)) ?_
      rintro _ w ⟨rfl, h⟩
      refine ⟨_, rfl, fun _ => ?_, fun hc => absurd hc (by simp)⟩
      refine Rets.mono (prName h hn) ?_
      rintro _ w ⟨rfl, h⟩
      exact ⟨_, rfl, fun _ => aw w h, fun hc => absurd hc (by simp)⟩
    refine ⟨fun hk => ⟨fun vs w => vs = [.string (nameP k)] ∧ Own W w [snap W], ⟨fun hk7 => ?_, fun hk7 => ?_⟩, ?_⟩, fun hk => ⟨fun vs w => vs = [.string (nameP k)] ∧ Own W w [snap W], ?_, ?_⟩⟩
    · have hk := dec_t hk
      have hk7 := dec_t hk7
      obtain ⟨j, rfl⟩ := Int.eq_ofNat_of_zero_le hk
      have hj : j < nmL.length := by show j < 8; omega
      refine h.newR fun g w h => ⟨by omega, by omega, ?_⟩
      have h : Own W w (blk g 9 nmC :: [snap W]) := h
      have hcell : nmC[j]? = some (.string (nameP (j : Int))) := by
        unfold nmC nameP
        have hkn : knownB (j : Int) = true := decide_eq_true ⟨by omega, by omega⟩
        rw [if_pos hkn, Int.toNat_natCast, List.getElem?_map, List.getElem?_eq_getElem hj]; rfl
      refine ⟨nameP (j : Int), ?_, rfl, h.drop⟩
      have := h.cellAdd j hcell
      rw [Int.toNat_natCast, Nat.mul_one]; exact this
    · have hk7 := dec_f hk7
      refine ⟨?_, h⟩
      have : knownB k = false := decide_eq_false (by omega)
      unfold nameP; rw [this]; rfl
    · intros
      rename_i hI
      obtain ⟨hvs, h⟩ := hI
      exact tail _ _ h (by simpa using hvs)
    · have hk := dec_f hk
      refine ⟨?_, h⟩
      have : knownB k = false := decide_eq_false (by omega)
      unfold nameP; rw [this]; rfl
    · intros
      rename_i hI
      obtain ⟨hvs, h⟩ := hI
      exact tail _ _ h (by simpa using hvs)
end
end Go.Proofs.YtipcbhaeoeghnaaDoor.Eng
