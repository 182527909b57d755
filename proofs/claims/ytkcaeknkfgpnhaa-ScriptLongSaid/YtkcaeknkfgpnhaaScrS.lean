/- Scripts: which are right, which are the same; the example. -/
import Derived.Test.YtkcaeknkfgpnhaaScrR
namespace Go.Proofs.Ytkcaeknkfgpnhaa.Eng
open Go Go.RowKit Go.Proofs
set_option linter.unusedVariables false
set_option linter.unusedSimpArgs false
set_option maxRecDepth 1000000
section
variable {e w : World} {F : List HP} {q q2 q3 r r2 r3 : Option Addr} {d d2 d3 p p2 p3 : Nat} {c0 c1 c2 c3 c4 : Int} {ms ns : List (Sl Op5)} {PK DS xs : List Int}
theorem rdNums (h : Own e w F) (hr : ∀ w, Own e w F → RdC w q (cs .i64 xs)) (hr2 : ∀ w, Own e w F → RdC w q2 (cs .i64 xs)) (hl : xs.length ≤ 1000000) : Rets Try.prog 76 #[.slice q xs.length d, .slice q2 xs.length d2] w fun v w' => v = .bool true ∧ Own e w' F := by
  refine cortadoref18_numbers_go _ _ _ _ _ _ ⟨fun hc => absurd hc (by simp), fun _ => ?_⟩
  refine ⟨fun m vs w => ∃ i : Nat, vs = [.int .i64 (i : Int)] ∧ m + i = xs.length ∧ Own e w F, ⟨xs.length, 0, rfl, rfl, h⟩, ?_⟩
  rintro m w v1 n1
  intros
  rename_i hI
  obtain ⟨i, hvs, hm, h⟩ := hI
  obtain rfl : n1 = (i : Int) := by simpa using hvs
  refine ⟨fun hc => ?_, fun hc => ⟨rfl, h⟩⟩
  have hc := dec_t hc
  have hi : i < xs.length := by omega
  refine h.drw fun w h => ⟨by omega, by omega, (hr w h).int (i := i) hi fun a ha => ⟨by omega, by omega, (hr2 w h).int (i := i) hi fun a2 ha2 => ⟨_, by rw [Int.toNat_natCast]; exact ha, _, by rw [Int.toNat_natCast]; exact ha2, fun hc => absurd hc (by simp), fun _ => ⟨m - 1, by omega, i + 1, ?_, by omega, h⟩⟩⟩⟩
  rw [wI64 (by omega) (by omega)]; rfl
theorem rdSame18 (hms : ms.map (fun x => x.2.2) = ns.map (fun x => x.2.2)) (hml : ms.length ≤ 10) (hf : ∀ x ∈ ms, x.2.2.length ≤ 24) (hP : PK.length ≤ 5000) (hD : DS.length ≤ 300) (h : Own e w F)
    (hA : ∀ w, Own e w F → RdC w q (ms.map Sl.v)) (hAi : ∀ w, Own e w F → ∀ x ∈ ms, RdC w x.1 (x.2.2.flatMap encO)) (hB : ∀ w, Own e w F → RdC w r (ns.map Sl.v)) (hBi : ∀ w, Own e w F → ∀ x ∈ ns, RdC w x.1 (x.2.2.flatMap encO))
    (hA2 : ∀ w, Own e w F → RdC w q2 (cs .i64 PK)) (hB2 : ∀ w, Own e w F → RdC w r2 (cs .i64 PK)) (hA3 : ∀ w, Own e w F → RdC w q3 (cs .i64 DS)) (hB3 : ∀ w, Own e w F → RdC w r3 (cs .i64 DS)) :
    Rets Try.prog 13 #[.agg #[.int .i64 c0, .int .i64 c1, .int .i64 c2, .int .i64 c3, .int .i64 c4, .slice q ms.length d, .slice q2 PK.length d2, .slice q3 DS.length d3], .agg #[.int .i64 c0, .int .i64 c1, .int .i64 c2, .int .i64 c3, .int .i64 c4, .slice r ns.length p, .slice r2 PK.length p2, .slice r3 DS.length p3]] w fun v w' => v = .bool true ∧ Own e w' F := by
  have hnl : ns.length = ms.length := by have := congrArg List.length hms; simpa using this.symm
  refine cortadoref18_Same_go _ _ _ _ _ _ _ _ _ _ _ _ _ _ _ _ _ _ _ _ _ _ _ _ _ _ _ _ ?_
  unfold cortadoref18_Same_m
  refine h.newR fun a1 w h => h.newR fun a2 w h => ?_
  simp only [addr_add_add, Nat.zero_add]
  refine ⟨_, _, _, _, _, ⟨Own.ld (g := a1) h (by repeat (first | with_reducible exact Pick.here | apply Pick.there)) rfl, Own.ld (g := a1) h (by repeat (first | with_reducible exact Pick.here | apply Pick.there)) rfl, Own.ld (g := a1) h (by repeat (first | with_reducible exact Pick.here | apply Pick.there)) rfl, Own.ld (g := a1) h (by repeat (first | with_reducible exact Pick.here | apply Pick.there)) rfl, Own.ld (g := a1) h (by repeat (first | with_reducible exact Pick.here | apply Pick.there)) rfl⟩, _, _, _, _, _, ⟨Own.ld (g := a2) h (by repeat (first | with_reducible exact Pick.here | apply Pick.there)) rfl, Own.ld (g := a2) h (by repeat (first | with_reducible exact Pick.here | apply Pick.there)) rfl, Own.ld (g := a2) h (by repeat (first | with_reducible exact Pick.here | apply Pick.there)) rfl, Own.ld (g := a2) h (by repeat (first | with_reducible exact Pick.here | apply Pick.there)) rfl, Own.ld (g := a2) h (by repeat (first | with_reducible exact Pick.here | apply Pick.there)) rfl⟩, fun _ => ⟨_, _, _, Own.ld (g := a1) h (by repeat (first | with_reducible exact Pick.here | apply Pick.there)) rfl, _, _, _, Own.ld (g := a2) h (by repeat (first | with_reducible exact Pick.here | apply Pick.there)) rfl, fun hc => absurd hc (by rw [hnl]; simp), fun _ => ?_⟩, fun hc => absurd hc (by simp)⟩
  refine ⟨fun m vs w => ∃ i : Nat, vs = [.int .i64 (i : Int)] ∧ m + i = ms.length ∧ Own e w (scB a2 c0 c1 c2 c3 c4 (.slice r ns.length p) (.slice r2 PK.length p2) (.slice r3 DS.length p3) :: scB a1 c0 c1 c2 c3 c4 (.slice q ms.length d) (.slice q2 PK.length d2) (.slice q3 DS.length d3) :: F), ⟨ms.length, 0, rfl, rfl, h⟩, ?_⟩
  clear h
  rintro m w v1 n11
  intros
  rename_i hI
  obtain ⟨i, hvs, hm, h⟩ := hI
  obtain rfl : n11 = (i : Int) := by simpa using hvs
  refine ⟨_, _, _, Own.ld (g := a1) h (by repeat (first | with_reducible exact Pick.here | apply Pick.there)) rfl, fun hc => ?_, fun hc => ?_⟩
  · have hc := dec_t hc
    have hi : i < ms.length := by omega
    have hi2 : i < ns.length := by omega
    have el : ns[i].2.2 = ms[i].2.2 := by
      have h1 : (ns.map (fun x => x.2.2))[i]? = (ms.map (fun x => x.2.2))[i]? := by rw [hms]
      simpa [hi, hi2] using h1
    have hfi := hf ms[i] (List.getElem_mem hi)
    have e1 : Sl.v ns[i] = .slice ns[i].1 ms[i].2.2.length ns[i].2.1 := by unfold Sl.v; rw [el]
    refine h.drw fun w h => ⟨_, _, _, Own.ld (g := a1) h (by repeat (first | with_reducible exact Pick.here | apply Pick.there)) rfl, by omega, by omega, RdC.mp (f := Sl.v) (hA w h.drop.drop) hi fun a ha => ⟨ms[i].1, ms[i].2.2.length, ms[i].2.1, by rw [Int.toNat_natCast]; exact ha, _, _, _, Own.ld (g := a2) h (by repeat (first | with_reducible exact Pick.here | apply Pick.there)) rfl, by omega, by omega, RdC.mp (f := Sl.v) (hB w h.drop.drop) hi2 fun a3 ha3 => ⟨ns[i].1, ms[i].2.2.length, ns[i].2.1, by rw [Int.toNat_natCast, ← e1]; exact ha3, ?_⟩⟩⟩
    refine Rets.mono (rfSame (l := ms[i].2.2) h (fun w h => hAi w h.drop.drop _ (List.getElem_mem hi)) (fun w h => ?_) (by omega)) ?_
    · have := hBi w h.drop.drop _ (List.getElem_mem hi2)
      rw [el] at this; exact this
    clear h
    rintro _ w ⟨rfl, h⟩
    refine ⟨_, rfl, fun hc => absurd hc (by simp), fun _ => ⟨m - 1, by omega, i + 1, ?_, by omega, h⟩⟩
    rw [wI64 (by omega) (by omega)]; rfl
  · refine ⟨_, _, _, Own.ld (g := a1) h (by repeat (first | with_reducible exact Pick.here | apply Pick.there)) rfl, _, _, _, Own.ld (g := a2) h (by repeat (first | with_reducible exact Pick.here | apply Pick.there)) rfl, ?_⟩
    refine Rets.mono (rdNums h (fun w h => hA2 w h.drop.drop) (fun w h => hB2 w h.drop.drop) (by omega)) ?_
    clear h
    rintro _ w ⟨rfl, h⟩
    refine ⟨_, rfl, fun _ => ⟨_, _, _, Own.ld (g := a1) h (by repeat (first | with_reducible exact Pick.here | apply Pick.there)) rfl, _, _, _, Own.ld (g := a2) h (by repeat (first | with_reducible exact Pick.here | apply Pick.there)) rfl, ?_⟩, fun hc => absurd hc (by simp)⟩
    refine Rets.mono (rdNums h (fun w h => hA3 w h.drop.drop) (fun w h => hB3 w h.drop.drop) (by omega)) ?_
    clear h
    rintro _ w ⟨rfl, h⟩
    exact ⟨_, rfl, rfl, h.drop.drop⟩
theorem rdRight (hcf : nearP c0 c1 c2 c3 c4) (hml : ms.length ≤ 6) (hf : ∀ x ∈ ms, fineB x.2.2 = true) (hP : PK.length ≤ 4096) (hPb : ∀ x ∈ PK, 0 ≤ x ∧ x < 256) (hD : DS.length ≤ 255) (h : Own e w F)
    (hA : ∀ w, Own e w F → RdC w q (ms.map Sl.v)) (hAi : ∀ w, Own e w F → ∀ x ∈ ms, RdC w x.1 (x.2.2.flatMap encO)) (hA2 : ∀ w, Own e w F → RdC w q2 (cs .i64 PK)) :
    Rets Try.prog 15 #[.agg #[.int .i64 c0, .int .i64 c1, .int .i64 c2, .int .i64 c3, .int .i64 c4, .slice q ms.length d, .slice q2 PK.length d2, .slice q3 DS.length d3]] w fun v w' => v = .bool true ∧ Own e w' F := by
  refine cortadoref18_Right_go _ _ _ _ _ _ _ _ _ _ _ _ _ _ ?_
  unfold cortadoref18_Right_m
  refine h.newR fun a1 w h => ?_
  simp only [addr_add_add, Nat.zero_add]
  refine h.drw fun w h => ⟨fun w => Own e w (scB a1 c0 c1 c2 c3 c4 (.slice q ms.length d) (.slice q2 PK.length d2) (.slice q3 DS.length d3) :: F), h, _, _, _, _, _, ⟨fun w h => Own.ld (g := a1) h (by repeat (first | with_reducible exact Pick.here | apply Pick.there)) rfl, fun w h => Own.ld (g := a1) h (by repeat (first | with_reducible exact Pick.here | apply Pick.there)) rfl, fun w h => Own.ld (g := a1) h (by repeat (first | with_reducible exact Pick.here | apply Pick.there)) rfl, fun w h => Own.ld (g := a1) h (by repeat (first | with_reducible exact Pick.here | apply Pick.there)) rfl, fun w h => Own.ld (g := a1) h (by repeat (first | with_reducible exact Pick.here | apply Pick.there)) rfl⟩, _, _, _, _, _, ⟨fun w h => Own.ld (g := a1) h (by repeat (first | with_reducible exact Pick.here | apply Pick.there)) rfl, fun w h => Own.ld (g := a1) h (by repeat (first | with_reducible exact Pick.here | apply Pick.there)) rfl, fun w h => Own.ld (g := a1) h (by repeat (first | with_reducible exact Pick.here | apply Pick.there)) rfl, fun w h => Own.ld (g := a1) h (by repeat (first | with_reducible exact Pick.here | apply Pick.there)) rfl, fun w h => Own.ld (g := a1) h (by repeat (first | with_reducible exact Pick.here | apply Pick.there)) rfl⟩, ?_⟩
  have h : Own e w (scB a1 c0 c1 c2 c3 c4 (.slice q ms.length d) (.slice q2 PK.length d2) (.slice q3 DS.length d3) :: F) := h
  refine Rets.mono (rdNear h) ?_
  clear h
  rintro _ w ⟨rfl, h⟩
  rw [hcf.v]
  refine ⟨_, _, _, _, _, rfl, h, fun _ => ⟨_, _, _, fun w h => Own.ld (g := a1) h (by repeat (first | with_reducible exact Pick.here | apply Pick.there)) rfl, fun _ => ⟨_, _, _, fun w h => Own.ld (g := a1) h (by repeat (first | with_reducible exact Pick.here | apply Pick.there)) rfl, fun _ => ⟨_, _, _, fun w h => Own.ld (g := a1) h (by repeat (first | with_reducible exact Pick.here | apply Pick.there)) rfl, fun hc => absurd (dec_t hc) (by omega), fun _ => ?_⟩, fun hc => absurd (dec_t hc) (by omega)⟩, fun hc => absurd (dec_t hc) (by omega)⟩, fun hc => absurd hc (by simp)⟩
  refine ⟨fun m vs w => ∃ i : Nat, vs = [.int .i64 (i : Int)] ∧ m + i = ms.length ∧ Own e w (scB a1 c0 c1 c2 c3 c4 (.slice q ms.length d) (.slice q2 PK.length d2) (.slice q3 DS.length d3) :: F), ⟨ms.length, 0, rfl, rfl, h⟩, ?_⟩
  clear h
  rintro m w v2 n16
  intros
  rename_i hI
  obtain ⟨i, hvs, hm, h⟩ := hI
  obtain rfl : n16 = (i : Int) := by simpa using hvs
  refine ⟨_, _, _, Own.ld (g := a1) h (by repeat (first | with_reducible exact Pick.here | apply Pick.there)) rfl, fun hc => ?_, fun hc => ?_⟩
  · have hc := dec_t hc
    have hi : i < ms.length := by omega
    have hfi := hf ms[i] (List.getElem_mem hi)
    have hl := fine_len hfi
    refine ⟨_, _, _, Own.ld (g := a1) h (by repeat (first | with_reducible exact Pick.here | apply Pick.there)) rfl, by omega, by omega, RdC.mp (f := Sl.v) (hA w h.drop) hi fun a ha => ⟨ms[i].1, ms[i].2.2.length, ms[i].2.1, by rw [Int.toNat_natCast]; exact ha, ?_⟩⟩
    refine Rets.mono (rfFine (l := ms[i].2.2) h (fun w h => hAi w h.drop _ (List.getElem_mem hi)) (by omega)) ?_
    clear h
    rintro _ w ⟨rfl, h⟩
    rw [hfi]
    refine ⟨_, rfl, fun hc => absurd hc (by simp), fun _ => ⟨m - 1, by omega, i + 1, ?_, by omega, h⟩⟩
    rw [wI64 (by omega) (by omega)]; rfl
  · refine ⟨fun m vs w => ∃ i : Nat, vs = [.int .i64 (i : Int)] ∧ m + i = PK.length ∧ Own e w (scB a1 c0 c1 c2 c3 c4 (.slice q ms.length d) (.slice q2 PK.length d2) (.slice q3 DS.length d3) :: F), ⟨PK.length, 0, rfl, rfl, h⟩, ?_⟩
    clear h hc hm hvs
    rintro m w v18 n17
    intros
    rename_i hI
    obtain ⟨i, hvs, hm, h⟩ := hI
    obtain rfl : n17 = (i : Int) := by simpa using hvs
    refine ⟨_, _, _, Own.ld (g := a1) h (by repeat (first | with_reducible exact Pick.here | apply Pick.there)) rfl, fun hc => ?_, fun hc => ⟨by first | trivial | rfl, h.drop⟩⟩
    have hc := dec_t hc
    have hi : i < PK.length := by omega
    have hx := hPb PK[i] (List.getElem_mem hi)
    refine ⟨_, _, _, Own.ld (g := a1) h (by repeat (first | with_reducible exact Pick.here | apply Pick.there)) rfl, by omega, by omega, (hA2 w h.drop).int (i := i) hi fun a ha => ⟨PK[i], by rw [Int.toNat_natCast]; exact ha, fun _ => ⟨_, _, _, Own.ld (g := a1) h (by repeat (first | with_reducible exact Pick.here | apply Pick.there)) rfl, by omega, by omega, (hA2 w h.drop).int (i := i) hi fun a4 ha4 => ⟨PK[i], by rw [Int.toNat_natCast]; exact ha4, fun hc => absurd (dec_t hc) (by omega), fun _ => ⟨m - 1, by omega, i + 1, ?_, by omega, h⟩⟩⟩, fun hc => absurd (dec_t hc) (by omega)⟩⟩
    rw [wI64 (by omega) (by omega)]; rfl
theorem prContains (hml : ms.length ≤ 100) (hf : ∀ x ∈ ms, fineB x.2.2 = true) (h : Own e w F) (hA : ∀ w, Own e w F → RdC w q (ms.map Sl.v)) (hAi : ∀ w, Own e w F → ∀ x ∈ ms, RdC w x.1 (x.2.2.flatMap encO)) :
    Rets Try.prog 85 #[.slice q ms.length d, .func (.func 82) #[] #[]] w fun v w' => v = .bool false ∧ Own e w' F := by
  refine pro_Contains_go _ _ _ ?_
  refine pro_Index_go _ _ _ ⟨fun m vs w => ∃ i : Nat, vs = [.int .i64 (i : Int)] ∧ m + i = ms.length ∧ Own e w F, ⟨ms.length, 0, rfl, rfl, h⟩, ?_⟩
  clear h
  rintro m w v1 v2 n1
  intros
  rename_i hI
  obtain ⟨i, hvs, hm, h⟩ := hI
  obtain rfl : n1 = (i : Int) := by simpa using hvs
  refine ⟨fun hc => ?_, fun hc => ⟨_, rfl, rfl, h⟩⟩
  have hc := dec_t hc
  have hi : i < ms.length := by omega
  refine ⟨by omega, by omega, RdC.mp (f := Sl.v) (hA w h) hi fun a ha => ⟨ms[i].1, ms[i].2.2.length, ms[i].2.1, by rw [Int.toNat_natCast]; exact ha, ?_⟩⟩
  refine script_Right_1_go _ _ _ ?_
  refine Rets.mono (prFine (l := ms[i].2.2) h (fun w h => hAi w h _ (List.getElem_mem hi))) ?_
  clear h
  rintro _ w ⟨rfl, h⟩
  rw [hf _ (List.getElem_mem hi)]
  refine ⟨_, rfl, _, rfl, fun hc => absurd hc (by simp), fun _ => ⟨m - 1, by omega, i + 1, ?_, by omega, h⟩⟩
  rw [wI64 (by omega) (by omega)]; rfl
theorem piContains (hP : PK.length ≤ 5000) (hPb : ∀ x ∈ PK, 0 ≤ x ∧ x < 256) (h : Own e w F) (hA2 : ∀ w, Own e w F → RdC w q2 (cs .i64 PK)) :
    Rets Try.prog 86 #[.slice q2 PK.length d2, .func (.func 84) #[] #[]] w fun v w' => v = .bool false ∧ Own e w' F := by
  refine pic_Contains_go _ _ _ ?_
  refine pic_Index_go _ _ _ ⟨fun m vs w => ∃ i : Nat, vs = [.int .i64 (i : Int)] ∧ m + i = PK.length ∧ Own e w F, ⟨PK.length, 0, rfl, rfl, h⟩, ?_⟩
  clear h
  rintro m w v1 v2 n1
  intros
  rename_i hI
  obtain ⟨i, hvs, hm, h⟩ := hI
  obtain rfl : n1 = (i : Int) := by simpa using hvs
  refine ⟨fun hc => ?_, fun hc => ⟨_, rfl, rfl, h⟩⟩
  have hc := dec_t hc
  have hi : i < PK.length := by omega
  have hx := hPb PK[i] (List.getElem_mem hi)
  refine ⟨by omega, by omega, (hA2 w h).int (i := i) hi fun a ha => ⟨PK[i], by rw [Int.toNat_natCast]; exact ha, ?_⟩⟩
  refine script_Right_2_go _ ⟨fun _ => ⟨_, rfl, fun hc => absurd (dec_t hc) (by omega), fun _ => ⟨m - 1, by omega, i + 1, ?_, by omega, h⟩⟩, fun hc => absurd (dec_t hc) (by omega)⟩
  rw [wI64 (by omega) (by omega)]; rfl
theorem scRight (hcf : nearP c0 c1 c2 c3 c4) (hml : ms.length ≤ 6) (hf : ∀ x ∈ ms, fineB x.2.2 = true) (hP : PK.length ≤ 4096) (hPb : ∀ x ∈ PK, 0 ≤ x ∧ x < 256) (hD : DS.length ≤ 255) (h : Own e w F)
    (hA : ∀ w, Own e w F → RdC w q (ms.map Sl.v)) (hAi : ∀ w, Own e w F → ∀ x ∈ ms, RdC w x.1 (x.2.2.flatMap encO)) (hA2 : ∀ w, Own e w F → RdC w q2 (cs .i64 PK)) :
    Rets Try.prog 16 #[.agg #[.int .i64 c0, .int .i64 c1, .int .i64 c2, .int .i64 c3, .int .i64 c4, .slice q ms.length d, .slice q2 PK.length d2, .slice q3 DS.length d3]] w fun v w' => v = .bool true ∧ Own e w' F := by
  refine script_Right_go _ _ _ _ _ _ _ _ _ _ _ _ _ _ ?_
  unfold script_Right_m
  refine h.newR fun a1 w h => ?_
  simp only [addr_add_add, Nat.zero_add]
  refine ⟨_, _, _, _, _, ⟨Own.ld (g := a1) h (by repeat (first | with_reducible exact Pick.here | apply Pick.there)) rfl, Own.ld (g := a1) h (by repeat (first | with_reducible exact Pick.here | apply Pick.there)) rfl, Own.ld (g := a1) h (by repeat (first | with_reducible exact Pick.here | apply Pick.there)) rfl, Own.ld (g := a1) h (by repeat (first | with_reducible exact Pick.here | apply Pick.there)) rfl, Own.ld (g := a1) h (by repeat (first | with_reducible exact Pick.here | apply Pick.there)) rfl⟩, ?_⟩
  refine Rets.mono (scConfig hcf h) ?_
  clear h
  rintro _ w ⟨rfl, h⟩
  refine ⟨_, rfl, fun _ => ⟨_, _, _, Own.ld (g := a1) h (by repeat (first | with_reducible exact Pick.here | apply Pick.there)) rfl, fun _ => ⟨_, _, _, Own.ld (g := a1) h (by repeat (first | with_reducible exact Pick.here | apply Pick.there)) rfl, fun _ => ⟨_, _, _, Own.ld (g := a1) h (by repeat (first | with_reducible exact Pick.here | apply Pick.there)) rfl, fun hc => absurd (dec_t hc) (by omega), fun _ => ⟨_, _, _, Own.ld (g := a1) h (by repeat (first | with_reducible exact Pick.here | apply Pick.there)) rfl, ?_⟩⟩, fun hc => absurd (dec_t hc) (by omega)⟩, fun hc => absurd (dec_t hc) (by omega)⟩, fun hc => absurd hc (by simp)⟩
  refine Rets.mono (prContains (by omega) hf h (fun w h => hA w h.drop) (fun w h => hAi w h.drop)) ?_
  clear h
  rintro _ w ⟨rfl, h⟩
  refine ⟨_, rfl, fun _ => ⟨_, _, _, Own.ld (g := a1) h (by repeat (first | with_reducible exact Pick.here | apply Pick.there)) rfl, ?_⟩, fun hc => absurd hc (by simp)⟩
  refine Rets.mono (piContains (by omega) hPb h (fun w h => hA2 w h.drop)) ?_
  clear h
  rintro _ w ⟨rfl, h⟩
  exact ⟨_, rfl, rfl, h.drop⟩
theorem scAwake (h : Own e w F) : Rets Try.prog 11 #[] w fun v w' => v = .bool true ∧ Own e w' F := by
  refine cortadolaw18_awake_go ?_
  refine Rets.mono (scParse (bs := []) (c := 0) (q := none) (fun x hx => (by cases hx)) (by simp) (by simp) (fun w h => .inl rfl) h) ?_
  clear h
  rintro _ w ⟨q1, d1, q2, d2, q3, d3, ms, rfl, hms, h⟩
  refine ⟨_, _, _, _, _, _, _, _, _, _, _, _, _, _, rfl, congrArg Value.bool (by decide +kernel), (Own.sub (h) (by repeat (first | exact Sub.nil _ | exact Sub.rfl _ | (apply Sub.cons; focus ((repeat (first | with_reducible exact Pick.here | apply Pick.there)); done)) | apply Sub.drop)))⟩
end
end Go.Proofs.Ytkcaeknkfgpnhaa.Eng
