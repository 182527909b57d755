/- KeyPairs. -/
import Derived.Test.YtipcbhaeoeghnaaDoorKeyP
import Derived.Test.YtipcbhaeoeghnaaDoorKeyLG
namespace Go.Proofs.YtipcbhaeoeghnaaDoor.Eng
open Go Go.RowKit Go.Proofs
set_option linter.unusedVariables false
set_option linter.unusedSimpArgs false
set_option maxRecDepth 1000000
def begI : Int := 14695981039346656037
section
variable {e w : World} {F : List HP} {n k : Int} {q : Option Addr} {c A B : Nat} {bs : List Int} {s : ByteArray}
theorem keNumber (hm1 : ∀ w, Own e w F → RdC w mixQ mixC) (hm2 : ∀ w, Own e w F → RdC w twiQ twiC) (h : Own e w F) : Rets Tryd.prog 20 #[.int .u64 n] w fun v w' => v = .agg #[.int .u64 (mixI n), .int .u64 (twiI n)] ∧ Own e w' F := by
  refine key_Number_go _ (h.newR fun g w h => ?_)
  refine Rets.mono (mxMix h (fun w h => hm1 w h.drop)) ?_
  clear h
  rintro _ w ⟨rfl, h⟩
  refine ⟨_, rfl, ?_⟩
  refine Rets.mono (mxTwist h (fun w h => hm2 w h.drop)) ?_
  clear h
  rintro _ w ⟨rfl, h⟩
  refine ⟨_, rfl, Own.stP' h (by repeat (first | with_reducible exact Pick.here | apply Pick.there)) (by simp) (by simp [Value.oneCell']) fun w h => ?_⟩
  simp only [setFrom, List.set_cons_zero, List.set_cons_succ, List.set_nil] at h
  exact ⟨_, _, ⟨(Own.ld h (by repeat (first | with_reducible exact Pick.here | apply Pick.there)) (by rfl)), (Own.ld h (by repeat (first | with_reducible exact Pick.here | apply Pick.there)) (by rfl))⟩, rfl, h.drop⟩
theorem keInt (hm1 : ∀ w, Own e w F → RdC w mixQ mixC) (hm2 : ∀ w, Own e w F → RdC w twiQ twiC) (h : Own e w F) : Rets Tryd.prog 17 #[.int .i64 n] w fun v w' => v = .agg #[.int .u64 (mixI (w64 n)), .int .u64 (twiI (w64 n))] ∧ Own e w' F := by
  refine key_Int_go _ (h.newR fun g w h => ?_)
  refine Rets.mono (keNumber (n := w64 n) (fun w h => hm1 w h.drop) (fun w h => hm2 w h.drop) h) ?_
  clear h
  rintro _ w ⟨rfl, h⟩
  refine ⟨_, _, rfl, Own.stP' h (by repeat (first | with_reducible exact Pick.here | apply Pick.there)) (by simp) (by simp [Value.oneCell']) fun w h => ?_⟩
  simp only [setFrom, List.set_cons_zero, List.set_cons_succ, List.set_nil] at h
  exact ⟨_, _, ⟨(Own.ld h (by repeat (first | with_reducible exact Pick.here | apply Pick.there)) (by rfl)), (Own.ld h (by repeat (first | with_reducible exact Pick.here | apply Pick.there)) (by rfl))⟩, rfl, h.drop⟩
theorem rkNumber (hn : M64 n) (h : Own e w F) : Rets Tryd.prog 43 #[.int .u64 n] w fun v w' => v = .agg #[.int .u64 (mixI n), .int .u64 (twiI n)] ∧ Own e w' F := by
  refine cortadoref06_Number_go _ (h.newR fun g w h => ?_)
  refine Rets.mono (rfMix hn h) ?_
  clear h
  rintro _ w ⟨rfl, h⟩
  refine ⟨_, rfl, ?_⟩
  refine Rets.mono (rfTwist hn h) ?_
  clear h
  rintro _ w ⟨rfl, h⟩
  refine ⟨_, rfl, Own.stP' h (by repeat (first | with_reducible exact Pick.here | apply Pick.there)) (by simp) (by simp [Value.oneCell']) fun w h => ?_⟩
  simp only [setFrom, List.set_cons_zero, List.set_cons_succ, List.set_nil] at h
  exact ⟨_, _, ⟨(Own.ld h (by repeat (first | with_reducible exact Pick.here | apply Pick.there)) (by rfl)), (Own.ld h (by repeat (first | with_reducible exact Pick.here | apply Pick.there)) (by rfl))⟩, rfl, h.drop⟩
theorem rkInt (h : Own e w F) : Rets Tryd.prog 19 #[.int .i64 n] w fun v w' => v = .agg #[.int .u64 (mixI (w64 n)), .int .u64 (twiI (w64 n))] ∧ Own e w' F := by
  refine cortadoref06_Int_go _ (h.newR fun g w h => ?_)
  refine Rets.mono (rkNumber (n := w64 n) (w64_M64 _) h) ?_
  clear h
  rintro _ w ⟨rfl, h⟩
  refine ⟨_, _, rfl, Own.stP' h (by repeat (first | with_reducible exact Pick.here | apply Pick.there)) (by simp) (by simp [Value.oneCell']) fun w h => ?_⟩
  simp only [setFrom, List.set_cons_zero, List.set_cons_succ, List.set_nil] at h
  exact ⟨_, _, ⟨(Own.ld h (by repeat (first | with_reducible exact Pick.here | apply Pick.there)) (by rfl)), (Own.ld h (by repeat (first | with_reducible exact Pick.here | apply Pick.there)) (by rfl))⟩, rfl, h.drop⟩
theorem keBytes (hb : By bs) (hr : ∀ w, Own e w F → RdC w q (cs .u8 bs)) (hc : bs.length ≤ c) (hn : bs.length ≤ 1000000) (h : Own e w F) : Rets Tryd.prog 18 #[.slice q bs.length c] w fun v w' => v = .agg #[.int .u64 (xxI 0 bs), .int .u64 (fnI begI bs)] ∧ Own e w' F := by
  refine key_Bytes_go _ _ _ (h.newR fun g w h => ?_)
  refine Rets.mono (xxSum (s := 0) ⟨by omega, by omega⟩ hb (fun w h => hr w h.drop) hc hn h) ?_
  clear h
  rintro _ w ⟨rfl, h⟩
  refine ⟨_, rfl, ?_⟩
  refine Rets.mono (fnGo (hh := begI) hb hn (fun w h => hr w h.drop) h) ?_
  clear h
  rintro _ w ⟨rfl, h⟩
  refine ⟨_, rfl, Own.stP' h (by repeat (first | with_reducible exact Pick.here | apply Pick.there)) (by simp) (by simp [Value.oneCell']) fun w h => ?_⟩
  simp only [setFrom, List.set_cons_zero, List.set_cons_succ, List.set_nil] at h
  exact ⟨_, _, ⟨(Own.ld h (by repeat (first | with_reducible exact Pick.here | apply Pick.there)) (by rfl)), (Own.ld h (by repeat (first | with_reducible exact Pick.here | apply Pick.there)) (by rfl))⟩, rfl, h.drop⟩
theorem keText (hs : s.size ≤ 1000000) (h : Own e w F) : Rets Tryd.prog 22 #[.string s] w fun v w' => v = .agg #[.int .u64 (xxI 0 (byI s)), .int .u64 (fnI begI (byI s))] ∧ Own e w' F := by
  have hl := byI_len s
  refine key_Text_go _ (h.newR fun g w h => ?_)
  refine Own.ofStr (E := 5) h (by kernel_rfl) (by kernel_rfl) (by kernel_rfl) (by unfold maxLen; omega) fun g2 c2 w H h hc hrd => ⟨_, _, _, rfl, ?_⟩
  rw [← hl] at hc ⊢
  refine Rets.mono (keBytes (byI_By s) (fun w h => hrd w _ h) hc (by omega) h) ?_
  clear h
  rintro _ w ⟨rfl, h⟩
  refine ⟨_, _, rfl, Own.stP' (g := g) h.drop .here (by simp) (by simp [Value.oneCell']) fun w h => ?_⟩
  simp only [setFrom, List.set_cons_zero, List.set_cons_succ, List.set_nil] at h
  exact ⟨_, _, ⟨(Own.ld h (by repeat (first | with_reducible exact Pick.here | apply Pick.there)) (by rfl)), (Own.ld h (by repeat (first | with_reducible exact Pick.here | apply Pick.there)) (by rfl))⟩, rfl, h.drop⟩
theorem rkText (hs : s.size ≤ 1000000) (h : Own e w F) : Rets Tryd.prog 49 #[.string s] w fun v w' => v = .int .u64 (fnI begI (byI s)) ∧ Own e w' F := by
  have hl := byI_len s
  refine cortadoref05_Text_go _ ?_
  refine Own.ofStr (E := 5) h (by kernel_rfl) (by kernel_rfl) (by kernel_rfl) (by unfold maxLen; omega) fun g2 c2 w H h hc hrd => ⟨_, _, _, rfl, ?_⟩
  rw [← hl]
  refine Rets.mono (rfGo (hh := begI) ⟨by decide, by decide⟩ (byI_By s) (by omega) (fun w h => hrd w _ h) h) ?_
  clear h
  rintro _ w ⟨rfl, h⟩
  exact ⟨_, rfl, rfl, h.drop⟩
theorem rkBytes (hb : By bs) (hr : ∀ w, Own e w F → RdC w q (cs .u8 bs)) (hc : bs.length ≤ c) (hn : bs.length ≤ 1000000) (h : Own e w F) : Rets Tryd.prog 21 #[.slice q bs.length c] w fun v w' => v = .agg #[.int .u64 (xxI 0 bs), .int .u64 (fnI begI bs)] ∧ Own e w' F := by
  have hsz : (strOfNums bs).size = bs.length := strOfNums_size bs
  refine cortadoref06_Bytes_go _ _ _ (h.newR fun g w h => h.drw fun w h => ⟨fun w => Own e w (blk g 35 [.int .u64 0, .int .u64 0] :: F), h, _, strSame (ns := bs) (e := 5) (by kernel_rfl) (by kernel_rfl) (by kernel_rfl) rfl (by omega) (fun w h => hr w h.drop), _, rfl, ?_⟩)
  refine Rets.mono (rfSum (s := 0) ⟨by omega, by omega⟩ hb (fun w h => hr w h.drop) hc hn h) ?_
  clear h
  rintro _ w ⟨rfl, h⟩
  refine ⟨_, rfl, h, ?_⟩
  refine Rets.mono (rkText (s := strOfNums bs) (by omega) h) ?_
  clear h
  rintro _ w ⟨rfl, h⟩
  rw [byI_nums hb]
  refine ⟨_, rfl, Own.stP' h (by repeat (first | with_reducible exact Pick.here | apply Pick.there)) (by simp) (by simp [Value.oneCell']) fun w h => ?_⟩
  simp only [setFrom, List.set_cons_zero, List.set_cons_succ, List.set_nil] at h
  exact ⟨_, _, ⟨(Own.ld h (by repeat (first | with_reducible exact Pick.here | apply Pick.there)) (by rfl)), (Own.ld h (by repeat (first | with_reducible exact Pick.here | apply Pick.there)) (by rfl))⟩, rfl, h.drop⟩
theorem keCut {b : Int} (hk : -9223372036854775808 ≤ k ∧ k ≤ 9223372036854775807) (hA : A < 18446744073709551616) (h : Own e w F) : Rets Tryd.prog 23 #[.agg #[.int .u64 (A : Int), .int .u64 b], .int .i64 k] w fun v w' => v = .agg #[.int .u64 (lowN A k : Int), .int .u64 b] ∧ Own e w' F := by
  refine key_Cut_go _ _ _ (h.newR fun g1 w h => h.newR fun g2 w h => ⟨_, Own.ld (g := g1) h (by repeat (first | with_reducible exact Pick.here | apply Pick.there)) rfl, ?_⟩)
  refine Rets.mono (wdLow hk hA h) ?_
  clear h
  rintro _ w ⟨rfl, h⟩
  refine ⟨_, rfl, Own.stP (g := g1) h (by repeat (first | with_reducible exact Pick.here | apply Pick.there)) (by simp) (by simp [Value.oneCell']) fun w h => ?_⟩
  simp only [setFrom, List.set_cons_zero, List.set_cons_succ, List.set_nil] at h
  refine ⟨_, _, ⟨Own.ld (g := g1) h (by repeat (first | with_reducible exact Pick.here | apply Pick.there)) rfl, Own.ld (g := g1) h (by repeat (first | with_reducible exact Pick.here | apply Pick.there)) rfl⟩, Own.stP' (g := g2) h (by repeat (first | with_reducible exact Pick.here | apply Pick.there)) (by simp) (by simp [Value.oneCell']) fun w h => ?_⟩
  simp only [setFrom, List.set_cons_zero, List.set_cons_succ, List.set_nil] at h
  exact ⟨_, _, ⟨Own.ld (g := g2) h (by repeat (first | with_reducible exact Pick.here | apply Pick.there)) rfl, Own.ld (g := g2) h (by repeat (first | with_reducible exact Pick.here | apply Pick.there)) rfl⟩, rfl, h.drop.drop⟩
theorem rkCut {b : Int} (hA : A < 18446744073709551616) (h : Own e w F) : Rets Tryd.prog 24 #[.agg #[.int .u64 (A : Int), .int .u64 b], .int .i64 k] w fun v w' => v = .agg #[.int .u64 (lowN A k : Int), .int .u64 b] ∧ Own e w' F := by
  refine cortadoref06_Cut_go _ _ _ (h.newR fun g1 w h => h.newR fun g2 w h => h.drw fun w h => ⟨fun w => Own e w _, h, _, fun w h => Own.ld (g := g1) h (by repeat (first | with_reducible exact Pick.here | apply Pick.there)) rfl, _, fun w h => Own.ld (g := g1) h (by repeat (first | with_reducible exact Pick.here | apply Pick.there)) rfl, ?_⟩)
  refine Rets.mono (rfLow hA h) ?_
  clear h
  rintro _ w ⟨rfl, h⟩
  refine ⟨_, rfl, h, Own.stP' (g := g2) h (by repeat (first | with_reducible exact Pick.here | apply Pick.there)) (by simp) (by simp [Value.oneCell']) fun w h => ?_⟩
  simp only [setFrom, List.set_cons_zero, List.set_cons_succ, List.set_nil] at h
  exact ⟨_, _, ⟨Own.ld (g := g2) h (by repeat (first | with_reducible exact Pick.here | apply Pick.there)) rfl, Own.ld (g := g2) h (by repeat (first | with_reducible exact Pick.here | apply Pick.there)) rfl⟩, rfl, h.drop.drop⟩
theorem keShard (h : Own e w F) : Rets Tryd.prog 25 #[.int .u64 n] w fun v w' => v = .int .i64 (IntKind.wrap .i64 (Int.tmod n 256)) ∧ Own e w' F := key_Shard_go _ ⟨by omega, rfl, h⟩
theorem keAwake (hm1 : ∀ w, Own e w F → RdC w mixQ mixC) (hm2 : ∀ w, Own e w F → RdC w twiQ twiC) (h : Own e w F) : Rets Tryd.prog 16 #[] w fun v w' => v = .bool true ∧ Own e w' F := by
  refine cortadolaw06_awake_go ?_
  refine Rets.mono (keShard h) ?_
  clear h
  rintro _ w ⟨rfl, h⟩
  refine ⟨_, rfl, fun _ => ?_, fun hc => absurd hc (by decide)⟩
  refine Rets.mono (keNumber hm1 hm2 h) ?_
  clear h
  rintro _ w ⟨rfl, h⟩
  refine ⟨_, _, rfl, ?_⟩
  refine Rets.mono (rkNumber ⟨by omega, by omega⟩ h) ?_
  clear h
  rintro _ w ⟨rfl, h⟩
  exact ⟨_, _, rfl, by simp, h⟩
theorem KeyPairs_spec {W : World} {n : Int} {q : Option Addr} {c : Nat} {bs : List Int} {k : Int} (HL : MixLaid W) (hnw : (Lit.int .i64 n).wf = true) (hb : RdC W q (cs .u8 bs)) (hm : bs.length ≤ maxLen) (hc : bs.length ≤ c) (h8 : ∀ x ∈ bs, (Lit.int .u8 x).wf = true) (hkw : (Lit.int .i64 k).wf = true) :
    Rets Tryd.prog 4 #[.int .i64 n, .slice q bs.length c, .int .i64 k] W fun v w' => v = .bool true ∧ Below W.heap.size W w' := by
  refine Rets.mono (k := fun v w' => v = .bool true ∧ Own W w' [snap W]) ?_ (fun v w' h => ⟨h.1, h.2.below⟩)
  have h := Own.begin W
  have h8 : By bs := fun x hx => wf8 (h8 x hx)
  have hk := wfI64 hkw
  have hm1 : ∀ w, Own W w [snap W] → RdC w mixQ mixC := fun w h => h.snapRd HL.rd
  have hm2 : ∀ w, Own W w [snap W] → RdC w twiQ twiC := fun w h => h.snapRd HL.rd2
  have hr : ∀ w, Own W w [snap W] → RdC w q (cs .u8 bs) := fun w h => h.snapRd hb
  have aw : ∀ w, Own W w [snap W] → Rets Tryd.prog 16 #[] w fun v w' => ∃ b, v = Value.bool b ∧ (Value.bool b) = .bool true ∧ Own W w' [snap W] := fun w h => by
    refine Rets.mono (keAwake hm1 hm2 h) ?_
    rintro _ w ⟨rfl, h⟩
    exact ⟨_, rfl, rfl, h⟩
  refine cortadolaw06_KeyPairs_go _ _ _ _ _ ⟨fun hx => aw W h, fun hx => ?_⟩
  have hx := dec_f hx
  have hsz : (strOfNums bs).size = bs.length := strOfNums_size bs
  refine Rets.mono (keInt hm1 hm2 h) ?_
  clear h
  rintro _ w ⟨rfl, h⟩
  refine ⟨_, _, rfl, ?_⟩
  refine Rets.mono (keBytes h8 hr hc (by omega) h) ?_
  clear h
  rintro _ w ⟨rfl, h⟩
  obtain ⟨P, hP⟩ := Int.eq_ofNat_of_zero_le (mixI_M64 (w64 n)).1
  have hPl := (mixI_M64 (w64 n)).2
  obtain ⟨P2, hP2⟩ : ∃ x, x = twiI (w64 n) := ⟨_, rfl⟩
  obtain ⟨Q1, hQ1⟩ : ∃ x, x = xxI 0 bs := ⟨_, rfl⟩
  obtain ⟨Q2, hQ2⟩ : ∃ x, x = fnI begI bs := ⟨_, rfl⟩
  rw [hP] at hPl
  rw [hP, ← hP2, ← hQ1, ← hQ2]
  refine ⟨_, _, rfl, h.newR fun g1 w h => h.newR fun g2 w h => Own.stP' (g := g1) h (by repeat (first | with_reducible exact Pick.here | apply Pick.there)) (by simp) (by simp [Value.oneCell']) fun w h => ?_⟩
  simp only [setFrom, List.set_cons_zero, List.set_cons_succ, List.set_nil] at h
  refine Own.stP' (g := g2) h (by repeat (first | with_reducible exact Pick.here | apply Pick.there)) (by simp) (by simp [Value.oneCell']) fun w h => ?_
  simp only [setFrom, List.set_cons_zero, List.set_cons_succ, List.set_nil] at h
  refine h.drw fun w h => ⟨fun w => Own W w (blk g2 35 [.int .u64 Q1, .int .u64 Q2] :: blk g1 35 [.int .u64 (P : Int), .int .u64 P2] :: [snap W]), h, _, _, ⟨fun w h => Own.ld (g := g1) h (by repeat (first | with_reducible exact Pick.here | apply Pick.there)) rfl, fun w h => Own.ld (g := g1) h (by repeat (first | with_reducible exact Pick.here | apply Pick.there)) rfl⟩, ?_⟩
  refine Rets.mono (rkInt h) ?_
  clear h
  rintro _ w ⟨rfl, h⟩
  rw [hP, ← hP2]
  refine ⟨_, _, rfl, h, fun _ => ⟨_, _, ⟨fun w h => Own.ld (g := g1) h (by repeat (first | with_reducible exact Pick.here | apply Pick.there)) rfl, fun w h => Own.ld (g := g1) h (by repeat (first | with_reducible exact Pick.here | apply Pick.there)) rfl⟩, ?_⟩, fun hc => absurd hc (by simp)⟩
  refine Rets.mono (keNumber (n := w64 n) (fun w h => hm1 w h.drop.drop) (fun w h => hm2 w h.drop.drop) h) ?_
  clear h
  rintro _ w ⟨rfl, h⟩
  rw [hP, ← hP2]
  refine ⟨_, _, rfl, h, fun _ => ⟨_, _, ⟨fun w h => Own.ld (g := g2) h (by repeat (first | with_reducible exact Pick.here | apply Pick.there)) rfl, fun w h => Own.ld (g := g2) h (by repeat (first | with_reducible exact Pick.here | apply Pick.there)) rfl⟩, ?_⟩, fun hc => absurd hc (by simp)⟩
  refine Rets.mono (rkBytes h8 (fun w h => hr w h.drop.drop) hc (by omega) h) ?_
  clear h
  rintro _ w ⟨rfl, h⟩
  rw [← hQ1, ← hQ2]
  refine ⟨_, _, rfl, h, fun _ => ⟨_, strSame (ns := bs) (e := 5) (by kernel_rfl) (by kernel_rfl) (by kernel_rfl) rfl (by omega) (fun w h => hr w h.drop.drop), _, rfl, _, _, ⟨fun w h => Own.ld (g := g2) h (by repeat (first | with_reducible exact Pick.here | apply Pick.there)) rfl, fun w h => Own.ld (g := g2) h (by repeat (first | with_reducible exact Pick.here | apply Pick.there)) rfl⟩, ?_⟩, fun hc => absurd hc (by simp)⟩
  refine Rets.mono (keText (s := strOfNums bs) (by omega) h) ?_
  clear h
  rintro _ w ⟨rfl, h⟩
  rw [byI_nums h8, ← hQ1, ← hQ2]
  refine ⟨_, _, rfl, h, fun _ => ⟨_, _, ⟨fun w h => Own.ld (g := g1) h (by repeat (first | with_reducible exact Pick.here | apply Pick.there)) rfl, fun w h => Own.ld (g := g1) h (by repeat (first | with_reducible exact Pick.here | apply Pick.there)) rfl⟩, _, _, ⟨fun w h => Own.ld (g := g1) h (by repeat (first | with_reducible exact Pick.here | apply Pick.there)) rfl, fun w h => Own.ld (g := g1) h (by repeat (first | with_reducible exact Pick.here | apply Pick.there)) rfl⟩, ?_⟩, fun hc => absurd hc (by simp)⟩
  refine Rets.mono (keCut hk (by omega) h) ?_
  clear h
  rintro _ w ⟨rfl, h⟩
  refine ⟨_, _, rfl, h, ?_⟩
  refine Rets.mono (rkCut (by omega) h) ?_
  clear h
  rintro _ w ⟨rfl, h⟩
  refine ⟨_, _, rfl, h, fun _ => ⟨_, fun w h => Own.ld (g := g2) h (by repeat (first | with_reducible exact Pick.here | apply Pick.there)) rfl, _, fun w h => Own.ld (g := g2) h (by repeat (first | with_reducible exact Pick.here | apply Pick.there)) rfl, by omega, ?_⟩, fun hc => absurd hc (by simp)⟩
  refine Rets.mono (keShard h) ?_
  clear h
  rintro _ w ⟨rfl, h⟩
  exact ⟨_, rfl, h, fun _ => aw w h.drop.drop, fun hc => absurd hc (by simp)⟩
end
end Go.Proofs.YtipcbhaeoeghnaaDoor.Eng
