/- DoorKeeps: the law. -/
import Derived.Test.YtfcddffcjmgpkaaDoorDoorQ
namespace Go.Proofs.YtfcddffcjmgpkaaDoor.Eng
open Go Go.RowKit Go.Proofs
set_option linter.unusedVariables false
set_option linter.unusedSimpArgs false
set_option maxRecDepth 1000000
theorem zeros4 {S : World → Prop} {xo yo : Operand} : SameRun Tryd.prog S (binV .eql 31 xo yo (.agg #[.int .i64 0, .int .i64 0, .int .i64 0, .int .i64 0]) (.agg #[.int .i64 0, .int .i64 0, .int .i64 0, .int .i64 0])) (.bool true) := by
  have := aggEql (P := Tryd.prog) (S := S) (T := 31) (xo := xo) (yo := yo) (xs := [.int .i64 0, .int .i64 0, .int .i64 0, .int .i64 0]) (ys := [.int .i64 0, .int .i64 0, .int .i64 0, .int .i64 0]) (p := True) (D := 10) (m := 3) (la := [.int .i64 0, .int .i64 0, .int .i64 0, .int .i64 0]) (lb := [.int .i64 0, .int .i64 0, .int .i64 0, .int .i64 0]) (by kernel_rfl) (by kernel_rfl) (by kernel_rfl) (by kernel_rfl) (by kernel_rfl) (by kernel_rfl) (by kernel_rfl) ⟨fun _ => trivial, fun _ => rfl⟩
  simpa using this
section
variable {e w : World} {F : List HP} {a b : Int}
theorem dnAlike (h : Own e w F) : Rets Tryd.prog 10 #[.pointer none, .int .u64 a, .int .u64 b] w fun v w' => v = .bool true ∧ Own e w' F := by
  refine door_nil_Alike_go _ _ ?_
  refine Rets.mono (dnPlaces h) ?_
  rintro _ w ⟨rfl, h⟩
  refine ⟨_, _, _, _, rfl, ?_⟩
  refine Rets.mono (dnPlaces h) ?_
  rintro _ w ⟨rfl, h⟩
  exact ⟨_, _, _, _, rfl, _, _, zeros4 (S := fun _ => True) w trivial, _, rfl, rfl, h⟩
end
section
variable {W : World} {q : Option Addr} {c : Nat} {L : List Int} {k s : Int}
theorem DoorKeeps_spec (HL : MixLaid W) (hkw : (Lit.int .i64 k).wf = true) (hsw : (Lit.int .u64 s).wf = true) (hb : RdC W q (cs .u64 L)) (hm : L.length ≤ maxLen) (hc : L.length ≤ c) (hw : ∀ x ∈ L, (Lit.int .u64 x).wf = true) :
    Rets Tryd.prog 4 #[.int .i64 k, .int .u64 s, .slice q L.length c] W fun v w' => v = .bool true ∧ Below W.heap.size W w' := by
  refine Rets.mono (k := fun v w' => v = .bool true ∧ Own W w' [snap W]) ?_ (fun v w' h => ⟨h.1, h.2.below⟩)
  have h := Own.begin W
  have hsM : M64 s := wfU64 hsw
  have hm1 : ∀ w, Own W w [snap W] → RdC w mixQ mixC := fun w h => h.snapRd HL.rd
  have hm2 : ∀ w, Own W w [snap W] → RdC w twiQ twiC := fun w h => h.snapRd HL.rd2
  have hr : ∀ w, Own W w [snap W] → RdC w q (cs .u64 L) := fun w h => h.snapRd hb
  have hr0 : ∀ w, Own W w [snap W] → RdC w (slcA q 0 c 1) (cs .u64 L) := fun w h => (hr w h).cut (l := 0) (by omega) (by rw [cs_len]; exact hc)
  have aw : ∀ w, Own W w [snap W] → Rets Tryd.prog 5 #[] w fun v w' => ∃ b, v = Value.bool b ∧ (Value.bool b) = .bool true ∧ Own W w' [snap W] := fun w h => by
    refine Rets.mono (drAwake hm1 hm2 h) ?_
    rintro _ w ⟨rfl, h⟩
    exact ⟨_, rfl, rfl, h⟩
  refine cortadolaw12_DoorKeeps_go _ _ _ _ _ ⟨fun hx => aw W h, fun hx => ?_⟩
  have hx := dec_f hx
  refine Rets.mono (drNew hm1 h) ?_
  clear h
  rintro _ w ⟨g, m, rfl, hok, h⟩
  refine ⟨_, rfl, ?_⟩
  refine Rets.mono (rdNew (k := minI k 1000) (s := s) h) ?_
  clear h
  rintro _ w ⟨⟨q', m2, rfl, hok2⟩, h⟩
  obtain rfl := hok.uniq hok2
  have hk := keyN_bd (minI k 1000)
  have hm20 := hok.small (by omega)
  obtain ⟨p1, p2⟩ := p20 hm20
  obtain ⟨s', hs'⟩ : ∃ s', s' = mixI s := ⟨_, rfl⟩
  rw [← hs'] at h
  obtain ⟨H, hH⟩ : ∃ H, H = L.length / 2 := ⟨_, rfl⟩
  have eH : IntKind.wrap .i64 (Int.tdiv (L.length : Int) 2) = (H : Int) := by rw [Int.tdiv_eq_ediv_of_nonneg (by omega), wI64 (by omega) (by omega)]; omega
  rw [eH]
  simp only [Int.toNat_natCast, Nat.sub_zero]
  refine ⟨_, _, _, _, rfl, h.newR fun g1 w h => Own.stP' (g := g1) h (by repeat (first | with_reducible exact Pick.here | apply Pick.there)) (by simp) (by simp [Value.oneCell']) fun w h => ⟨by omega, by omega, by omega, ?_⟩⟩
  simp only [setFrom, List.set_cons_zero, List.set_cons_succ, List.set_nil] at h
  have hb0 : bitsOf s' (2 ^ m) (List.replicate ((2 ^ m + 63) / 64) 0) (L.take 0) := bitsOf.nil _ _ _
  refine ⟨fun z vs w => ∃ (i : Nat) (ws : List Nat), vs = [.int .i64 (i : Int)] ∧ z + i = H ∧ bitsOf s' (2 ^ m) ws (L.take i) ∧ Own W w (dorO g m s' ws :: blk g1 29 [.slice q' (2 ^ m) (2 ^ m), .int .u64 s] :: [snap W]), ⟨H, 0, _, rfl, rfl, hb0, (Own.sub (h) (by repeat (first | exact Sub.nil _ | exact Sub.rfl _ | (apply Sub.cons; focus ((repeat (first | with_reducible exact Pick.here | apply Pick.there)); done)) | apply Sub.drop)))⟩, ?_⟩
  clear h hb0
  rintro z w n2
  intros
  rename_i hI
  obtain ⟨i, ws, hvs, hz, hbi, h⟩ := hI
  obtain rfl : n2 = (i : Int) := by simpa using hvs
  refine ⟨fun hc1 => ?_, fun hc1 => ?_⟩
  · have hc1 := dec_t hc1
    have hi : i < L.length := by omega
    refine ⟨by omega, by omega, (hr0 w h.drop.drop).int (i := i) hi fun a ha => ⟨_, by rw [Int.toNat_natCast]; exact ha, ?_⟩⟩
    obtain ⟨_, ho, _⟩ := dorO.op h
    refine Rets.mono (drPut (hh := L[i]) (fun w h => hm1 w h.drop) (fun w h => hm2 w h.drop) h) ?_
    clear h
    rintro _ w ⟨rfl, h⟩
    refine ⟨_, rfl, z - 1, by omega, i + 1, _, ?_, by omega, ?_, h⟩
    · rw [wI64 (by omega) (by omega)]; rfl
    · rw [List.take_succ_eq_append_getElem hi]
      exact hbi.put p1 ho.1 _
  have hc1 := dec_f hc1
  obtain rfl : i = H := by omega
  clear hz
  refine ⟨fun z vs w => ∃ n : Nat, vs = [.int .i64 (n : Int)] ∧ z + n = L.length ∧ Own W w (dorO g m s' ws :: blk g1 29 [.slice q' (2 ^ m) (2 ^ m), .int .u64 s] :: [snap W]), ⟨L.length, 0, rfl, rfl, h⟩, ?_⟩
  clear h
  rintro z w v17 n4
  intros
  rename_i hI
  obtain ⟨n, hvs, hz, h⟩ := hI
  obtain rfl : n4 = (n : Int) := by simpa using hvs
  refine ⟨fun hc2 => ?_, fun hc2 => ?_⟩
  · have hc2 := dec_t hc2
    have hn : n < L.length := by omega
    obtain ⟨x, hxe⟩ : ∃ x, x = L[n] := ⟨_, rfl⟩
    have en : IntKind.wrap .i64 ((n : Int) + 1) = ((n + 1 : Nat) : Int) := by rw [wI64 (by omega) (by omega)]; rfl
    rw [en]
    have next : ∀ w, Own W w (dorO g m s' ws :: blk g1 29 [.slice q' (2 ^ m) (2 ^ m), .int .u64 s] :: [snap W]) → ∃ z', z' < z ∧ ∃ n2 : Nat, [Value.int .i64 ((n + 1 : Nat) : Int)] = [.int .i64 (n2 : Int)] ∧ z' + n2 = L.length ∧ Own W w (dorO g m s' ws :: blk g1 29 [.slice q' (2 ^ m) (2 ^ m), .int .u64 s] :: [snap W]) := fun w h => ⟨z - 1, by omega, n + 1, rfl, by omega, h⟩
    refine ⟨fun z vs w => ∃ (j : Nat) (b : Bool), vs = [.bool b, .int .i64 (j : Int)] ∧ z + j = i ∧ (b = true ↔ x ∈ L.take j) ∧ Own W w (dorO g m s' ws :: blk g1 29 [.slice q' (2 ^ m) (2 ^ m), .int .u64 s] :: [snap W]), ⟨i, 0, false, rfl, rfl, by simp, h⟩, ?_⟩
    clear h
    rintro z3 w b3 n5
    intros
    rename_i hI
    obtain ⟨j, b, hvs, hz3, hbj, h⟩ := hI
    obtain ⟨rfl, rfl⟩ : b3 = b ∧ n5 = (j : Int) := by simpa using hvs
    refine ⟨fun hc3 => ?_, fun hc3 => ?_⟩
    · have hc3 := dec_t hc3
      have hj : j < L.length := by omega
      have ej : IntKind.wrap .i64 ((j : Int) + 1) = ((j + 1 : Nat) : Int) := by rw [wI64 (by omega) (by omega)]; rfl
      have et : L.take (j + 1) = L.take j ++ [L[j]] := List.take_succ_eq_append_getElem hj
      rw [ej]
      refine h.drw fun w h => ⟨fun hb3 => ⟨by omega, by omega, (hr0 w h.drop.drop).int (i := j) hj fun a ha => ⟨by omega, by omega, (hr w h.drop.drop).int (i := n) hn fun a2 ha2 => ⟨L[j], by rw [Int.toNat_natCast]; exact ha, x, by rw [Int.toNat_natCast, hxe]; exact ha2, z3 - 1, by omega, j + 1, _, rfl, by omega, ?_, h⟩⟩⟩, fun hb3 => ⟨z3 - 1, by omega, j + 1, true, rfl, by omega, ?_, h⟩⟩
      · rw [et, List.mem_append, List.mem_singleton, ← hbj, hb3, beq_iff_eq]
        constructor
        · intro e; exact .inr e.symm
        · rintro (e | e)
          · cases e
          · exact e.symm
      · rw [et, List.mem_append, ← hbj, hb3]; simp
    have hc3 := dec_f hc3
    obtain rfl : j = i := by omega
    let S : World → Prop := fun w => Own W w (dorO g m s' ws :: blk g1 29 [.slice q' (2 ^ m) (2 ^ m), .int .u64 s] :: [snap W])
    have hM' : Own W w (dorO g m s' ws :: blk g1 29 [.slice q' (2 ^ m) (2 ^ m), .int .u64 s] :: [snap W]) := h
    obtain ⟨ad, rfl, _⟩ := (hr w h.drop.drop).addr (cs_at hn)
    have rdx : ∀ w, S w → World.cell? w (ad.add (Int.toNat (n : Int) * 1)) = some (.int .u64 x) := fun w h => by
      obtain ⟨ad', ead, hcell⟩ := (hr w h.drop.drop).addr (cs_at hn)
      cases ead
      rw [Int.toNat_natCast, Nat.mul_one, hxe]; exact hcell _ _ (cs_at hn)
    have has : ∀ w, S w → Rets Tryd.prog 11 #[.pointer (some ⟨g, 0, none⟩), .int .u64 x] w fun v w' => v = .bool (hasB s' x (2 ^ m) ws) ∧ S w' := fun w h => drHas (fun w h => hm1 w h.drop) (fun w h => hm2 w h.drop) h
    have hKl : (L.take j).length = j := by simp; omega
    have lon : ∀ w, S w → Rets Tryd.prog 19 #[.agg #[.slice q' (2 ^ m) (2 ^ m), .int .u64 s], .int .u64 x, .slice (slcA (some ad) 0 c 1) j (c - 0)] w fun v w' => (∃ b, v = .bool b ∧ (b = true → ∃ i, i < 4 ∧ ∀ k ∈ L.take j, k ≠ x → ∀ y, y < 4 → plN s' k (2 ^ m) y ≠ plN s' x (2 ^ m) i)) ∧ S w' := fun w h => by
      have := rdLonely (K := L.take j) (q := q') (c := 2 ^ m) (q2 := slcA (some ad) 0 c 1) (c2 := c - 0) (hh := x) (F := dorO g m s' ws :: blk g1 29 [.slice q' (2 ^ m) (2 ^ m), .int .u64 s] :: [snap W]) hm20 hsM (fun w h => ?_) (by omega) h
      · rw [hKl, ← hs'] at this; exact this
      · have h1 := (hr0 w h.drop.drop).take j
        rwa [show (cs .u64 L).take j = cs .u64 (L.take j) by simp [cs]] at h1
    refine h.drw fun w h => ⟨S, h, fun hb3 => ?_, fun hb3 => ?_⟩
    · have hin : x ∈ L.take j := hbj.1 hb3
      have ht := hbi.has hin
      refine ⟨by omega, by omega, smR ⟨x, rdx, ?_⟩⟩
      refine Rets.mono (has w h) ?_
      rintro _ w ⟨rfl, h⟩
      rw [ht, hb3]
      exact ⟨_, rfl, h, fun _ => ⟨fun hc => absurd hc (by simp), fun _ => next w h⟩, fun hc => absurd hc (by simp)⟩
    · have hnin : x ∉ L.take j := fun hin => by have := hbj.2 hin; rw [hb3] at this; cases this
      refine ⟨fun _ => ⟨by omega, by omega, smR ⟨_, _, _, _, ⟨fun w h => Own.ld (g := g1) h (by repeat (first | with_reducible exact Pick.here | apply Pick.there)) rfl, fun w h => Own.ld (g := g1) h (by repeat (first | with_reducible exact Pick.here | apply Pick.there)) rfl⟩, x, rdx, ?_⟩⟩, fun hc => absurd hc (by rw [hb3]; simp)⟩
      refine Rets.mono (lon w h) ?_
      rintro _ w ⟨⟨b, rfl, hlon⟩, h⟩
      refine ⟨_, rfl, h, fun hb => ⟨by omega, by omega, smR ⟨x, rdx, ?_⟩⟩, fun hb => next w h⟩
      obtain ⟨i4, hi4, hall⟩ := hlon hb
      have hf := hbi.lonely hi4 (fun k hk => hall k hk (fun e => hnin (e ▸ hk)))
      refine Rets.mono (has w h) ?_
      rintro _ w ⟨rfl, h⟩
      rw [hf]
      exact ⟨_, rfl, fun hc => absurd hc (by simp), fun _ => next w h⟩
  · have h := h.drop.drop
    refine Rets.mono (dnClear h) ?_
    rintro _ w ⟨rfl, h⟩
    refine ⟨rfl, ?_⟩
    refine Rets.mono (dnPut h) ?_
    rintro _ w ⟨rfl, h⟩
    refine ⟨_, rfl, fun _ => ?_, fun hc => absurd hc (by simp)⟩
    refine Rets.mono (dnHas h) ?_
    rintro _ w ⟨rfl, h⟩
    refine ⟨_, rfl, fun _ => ?_, fun hc => absurd hc (by simp)⟩
    refine Rets.mono (dnBits h) ?_
    rintro _ w ⟨rfl, h⟩
    refine ⟨_, rfl, ?_⟩
    refine Rets.mono (dnFull h) ?_
    rintro _ w ⟨rfl, h⟩
    refine ⟨_, rfl, fun _ => ?_, fun hc => absurd hc (by decide)⟩
    refine Rets.mono (dnPlaces h) ?_
    rintro _ w ⟨rfl, h⟩
    refine ⟨_, _, _, _, rfl, _, _, zeros4 (S := fun _ => True) w trivial, _, rfl, fun _ => ?_, fun hc => absurd hc (by simp)⟩
    refine Rets.mono (dnAlike h) ?_
    rintro _ w ⟨rfl, h⟩
    exact ⟨_, rfl, fun _ => aw w h, fun hc => absurd hc (by simp)⟩
end
end Go.Proofs.YtfcddffcjmgpkaaDoor.Eng
