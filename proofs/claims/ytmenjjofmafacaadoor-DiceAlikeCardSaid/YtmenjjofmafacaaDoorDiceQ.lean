/- DiceDraws, DiceAlike. -/
import Derived.Test.YtmenjjofmafacaaDoorDiceP
namespace Go.Proofs.YtmenjjofmafacaaDoor.Eng
open Go Go.RowKit Go.Proofs
set_option linter.unusedVariables false
set_option linter.unusedSimpArgs false
set_option maxRecDepth 1000000
section
variable {e w : World} {F : List HP} {g u : Nat} {L : List Int} {s : Int} {q : Option Addr} {c : Nat}
theorem rfAt {k : Nat} (h : Own e w F) (hr : ∀ w, Own e w F → RdC w q (cs .i64 L)) (hs : M64 s) (hn : L.length * 8 ≤ 140737488351232) (hk : k ≤ 10000000) : Rets Tryd.prog 22 #[.slice q L.length c, .int .u64 s, .int .i64 (k : Int)] w fun v w' => v = .int .u64 (drawI L s k) ∧ Own e w' F := by
  refine cortadoref15_At_go _ _ _ _ _ ⟨fun hx => ?_, fun hx => ?_⟩
  · have hx := dec_t hx
    have hk2 : k < L.length := by omega
    refine ⟨by omega, by omega, RdC.int (hr w h) hk2 fun a ha => ⟨_, by rw [Int.toNat_natCast]; exact ha, ?_, h⟩⟩
    rw [drawI_low hk2]
  · have hx := dec_f hx
    obtain ⟨h0, h1⟩ := hs
    refine ⟨fun m vs w => ∃ i : Nat, vs = [.int .u64 ((s + 11400714819323198485 * (i : Int)) % 18446744073709551616), .int .i64 ((L.length + i : Nat) : Int)] ∧ L.length + i + m = k + 1 ∧ Own e w F, ⟨k + 1 - L.length, 0, ?_, by omega, h⟩, ?_⟩
    · have : (s + 11400714819323198485 * ((0 : Nat) : Int)) % 18446744073709551616 = s := by omega
      rw [this]; rfl
    rintro m w n2 n3
    intros
    rename_i hI
    obtain ⟨i, hvs, hm, h⟩ := hI
    obtain ⟨rfl, rfl⟩ : n2 = (s + 11400714819323198485 * (i : Int)) % 18446744073709551616 ∧ n3 = ((L.length + i : Nat) : Int) := by simpa using hvs
    refine ⟨fun hc => ?_, fun hc => ?_⟩
    · have hc := dec_t hc
      refine ⟨m - 1, by omega, i + 1, ?_, by omega, h⟩
      rw [wU64, wI64 (by omega) (by omega)]
      have e1 : ((s + 11400714819323198485 * (i : Int)) % 18446744073709551616 + 11400714819323198485) % 18446744073709551616 = (s + 11400714819323198485 * ((i + 1 : Nat) : Int)) % 18446744073709551616 := by omega
      rw [e1]; rfl
    · have hc := dec_f hc
      have hik : (i : Int) = (k : Int) - L.length + 1 := by omega
      rw [hik]
      refine Rets.mono (rfMix ?_ h) ?_
      · unfold M64; omega
      rintro _ w ⟨rfl, h⟩
      refine ⟨_, rfl, ?_, h⟩
      unfold drawI; rw [if_neg (by omega)]
theorem diAwake (h : Own e w F) (hm : ∀ w, Own e w F → RdC w mixQ mixC) : Rets Tryd.prog 14 #[] w fun v w' => v = .bool true ∧ Own e w' F := by
  refine cortadolaw15_awake_go (h.newR fun g1 w h => ?_)
  have h : Own e w (slO 3 1 (some ⟨g1, 0, none⟩) 2 2 (cs .i64 [5, 9]) :: F) := Own.slMk (rest := []) (by rfl) (by omega) (by unfold maxLen; omega) (by rfl) h
  refine Rets.mono (dcNew (q := some ⟨g1, 0, none⟩) (c := 2) (L := [5, 9]) (s := 0) h (fun w h => h.slRd) (by simp)) ?_
  rintro _ w ⟨g, rfl, h⟩
  refine ⟨_, rfl, ?_⟩
  refine Rets.mono (dcBelow h (fun w h => hm w h.drop) (by simp) (by omega) (by omega)) ?_
  rintro _ w ⟨rfl, h⟩
  refine ⟨_, rfl, fun _ => ?_, fun hc => absurd hc (by decide)⟩
  have h : Own e w (dicO g [5, 9] 0 1 :: _) := h
  refine Rets.mono (dcBelow h (fun w h => hm w h.drop) (by simp) (by omega) (by omega)) ?_
  rintro _ w ⟨rfl, h⟩
  have h : Own e w (dicO g [5, 9] 0 2 :: _) := h
  refine ⟨_, rfl, fun _ => ?_, fun hc => absurd hc (by decide)⟩
  refine Rets.mono (dcUsed h) ?_
  rintro _ w ⟨rfl, h⟩
  exact ⟨_, rfl, rfl, h.drop.drop⟩
/-- The document's dice. -/
abbrev rdO (g : Nat) (q : Option Addr) (n c : Nat) (s : Int) (u : Nat) : HP := blk g 31 [.slice q n c, .int .u64 s, .int .i64 (u : Int)]
theorem rdNext (h : Own e w (rdO g q L.length c s u :: F)) (hr : ∀ w, Own e w F → RdC w q (cs .i64 L)) (hs : M64 s) (hn : L.length * 8 ≤ 140737488351232) (hu : u ≤ 10000) : Rets Tryd.prog 17 #[.pointer (some ⟨g, 0, none⟩)] w fun v w' => v = .int .u64 (drawI L s u) ∧ Own e w' (rdO g q L.length c s (u + 1) :: F) := by
  refine cortadoref15_D_Next_go _ (h.drw fun w h => ⟨_, _, _, (Own.ld h (by repeat (first | with_reducible exact Pick.here | apply Pick.there)) (by rfl)), _, (Own.ld h (by repeat (first | with_reducible exact Pick.here | apply Pick.there)) (by rfl)), _, (Own.ld h (by repeat (first | with_reducible exact Pick.here | apply Pick.there)) (by rfl)), ?_⟩)
  refine Rets.mono (rfAt h (fun w h => hr w h.drop) hs hn (by omega)) ?_
  rintro _ w ⟨rfl, h⟩
  refine ⟨_, rfl, _, (Own.ld h (by repeat (first | with_reducible exact Pick.here | apply Pick.there)) (by rfl)), Own.stP h (by repeat (first | with_reducible exact Pick.here | apply Pick.there)) (by simp) (by simp [Value.oneCell']) fun w h => ⟨rfl, ?_⟩⟩
  simp only [setFrom, List.set_cons_zero, List.set_cons_succ, List.set_nil] at h
  rw [wI64 (by omega) (by omega)] at h
  exact h
theorem rdBelow {n : Int} (h : Own e w (rdO g q L.length c s u :: F)) (hr : ∀ w, Own e w F → RdC w q (cs .i64 L)) (hs : M64 s) (hn : L.length * 8 ≤ 140737488351232) (hu : u ≤ 10000) (hb : n ≤ 9223372036854775807) : Rets Tryd.prog 19 #[.pointer (some ⟨g, 0, none⟩), .int .i64 n] w fun v w' => v = .int .i64 (belI (drawI L s u) n) ∧ Own e w' (rdO g q L.length c s (if n < 1 then u else u + 1) :: F) := by
  refine cortadoref15_D_Below_go _ _ ⟨fun hx => ?_, fun hx => ?_⟩
  · have hx := dec_t hx
    rw [if_pos hx]
    unfold belI; rw [if_pos hx]; exact ⟨rfl, h⟩
  · have hx := dec_f hx
    rw [if_neg hx]
    refine Rets.mono (rdNext h hr hs hn hu) ?_
    rintro _ w ⟨rfl, h⟩
    refine ⟨_, rfl, by rw [wU64' (by omega) (by omega)]; omega, ?_, h⟩
    rw [belI_wrap (drawI_M64 _ _ _).1 (by omega) hb]
theorem DiceDraws_spec {W : World} {q q2 : Option Addr} {c c2 : Nat} {L bs : List Int} {s : Int} (HL : MixLaid W) (hb : RdC W q (cs .i64 L)) (hm : L.length * 8 ≤ 140737488351232) (hc : L.length ≤ c) (hw : ∀ x ∈ L, (Lit.int .i64 x).wf = true) (hs : (Lit.int .u64 s).wf = true)
    (hb2 : RdC W q2 (cs .i64 bs)) (hm2 : bs.length * 8 ≤ 140737488351232) (hc2 : bs.length ≤ c2) (hw2 : ∀ x ∈ bs, (Lit.int .i64 x).wf = true) :
    Rets Tryd.prog 4 #[.slice q L.length c, .int .u64 s, .slice q2 bs.length c2] W fun v w' => v = .bool true ∧ Below W.heap.size W w' := by
  refine Rets.mono (k := fun v w' => v = .bool true ∧ Own W w' [snap W]) ?_ (fun v w' h => ⟨h.1, h.2.below⟩)
  have h := Own.begin W
  have hs := wfU64 hs
  have hmx : ∀ w, Own W w [snap W] → RdC w mixQ mixC := fun w h => h.snapRd HL.rd
  have hL : ∀ w, Own W w [snap W] → RdC w q (cs .i64 L) := fun w h => h.snapRd hb
  have hB : ∀ w, Own W w [snap W] → RdC w q2 (cs .i64 bs) := fun w h => h.snapRd hb2
  refine cortadolaw15_DiceDraws_go _ _ _ _ _ _ _ ⟨fun hx => ?_, fun hx => ?_⟩
  · refine Rets.mono (diAwake h hmx) ?_
    rintro _ w ⟨rfl, h⟩
    exact ⟨_, rfl, rfl, h⟩
  have hx := dec_f hx
  refine Rets.mono (dcNew h hL hm) ?_
  rintro _ w ⟨g, rfl, h⟩
  refine ⟨_, rfl, h.newR fun g2 w h => ?_⟩
  have h : Own W w (rdO g2 q L.length c s 0 :: dicO g L s 0 :: [snap W]) := h
  refine ⟨fun m vs w => ∃ i u : Nat, vs = [.int .i64 (i : Int)] ∧ m + i = bs.length ∧ u ≤ i ∧ Own W w (dicO g L s u :: rdO g2 q L.length c s u :: [snap W]), ⟨bs.length, 0, 0, rfl, rfl, by omega, h.swap⟩, ?_⟩
  rintro m w v1 n1
  intros
  rename_i hI
  obtain ⟨i, u, hvs, hmi, hui, h⟩ := hI
  obtain rfl : n1 = (i : Int) := by simpa using hvs
  refine ⟨fun hy => ?_, fun hy => ?_⟩
  · have hy := dec_t hy
    have hi : i < bs.length := by omega
    have hwi := wfI64 (hw2 _ (List.getElem_mem hi))
    have fin : ∀ (u' : Nat) w, u' ≤ i + 1 → Own W w (dicO g L s u' :: rdO g2 q L.length c s u' :: [snap W]) →
        Drw w fun w => ∃ h2 : World → Prop, h2 w ∧ ∃ n5 : Int, (∀ w, h2 w → World.cell? w ((⟨g2, 0, none⟩ : Addr).add 2) = some (.int .i64 n5)) ∧ Rets Tryd.prog 20 #[.pointer (some ⟨g, 0, none⟩)] w fun v42 w9 => ∃ n6 : Int, v42 = .int .i64 n6 ∧ h2 w9 ∧ ((n6 != n5) = true → Value.bool false = .bool true ∧ Own W w9 [snap W]) ∧ ((n6 != n5) = false → ∃ k3 : Nat, k3 < m ∧ ∃ i' u : Nat, [Value.int .i64 (IntKind.wrap .i64 ((i : Int) + 1))] = [.int .i64 (i' : Int)] ∧ k3 + i' = bs.length ∧ u ≤ i' ∧ Own W w9 (dicO g L s u :: rdO g2 q L.length c s u :: [snap W])) := by
      intro u' w hu' h
      refine h.drw fun w h => ⟨fun w => Own W w (dicO g L s u' :: rdO g2 q L.length c s u' :: [snap W]), h, _, fun w h => Own.ld h (by repeat (first | with_reducible exact Pick.here | apply Pick.there)) (by rfl), ?_⟩
      refine Rets.mono (dcUsed h) ?_
      rintro _ w ⟨rfl, h⟩
      exact ⟨_, rfl, h, fun hc => absurd rfl (bool_ne hc), fun _ => ⟨m - 1, by omega, i + 1, u', by rw [wI64 (by omega) (by omega)]; rfl, by omega, hu', h⟩⟩
    refine ⟨by omega, by omega, RdC.int (hB _ h.drop.drop) hi fun a ha => ⟨_, by rw [Int.toNat_natCast]; exact ha, fun hz => ?_, fun hz => ?_⟩⟩
    · refine Rets.mono (dcNext h (fun w h => hmx w h.drop) hm (by omega)) ?_
      rintro _ w ⟨rfl, h⟩
      refine ⟨_, rfl, ?_⟩
      refine Rets.mono (rdNext h.swap (fun w h => hL w h.drop) hs hm (by omega)) ?_
      rintro _ w ⟨rfl, h⟩
      exact ⟨_, rfl, fun hc => absurd rfl (bool_ne hc), fun _ => fin (u + 1) w (by omega) h.swap⟩
    · have e1 : ∀ w, Own W w [snap W] → ∃ a, q2 = some a ∧ ∀ j v, (cs .i64 bs)[j]? = some v → cellAt w (a.add j) v := fun w h => (hB w h).addr (cs_at hi)
      obtain ⟨ad, rfl, _⟩ := e1 w h.drop.drop
      have rdi : ∀ w, (∃ u1 u2, Own W w (dicO g L s u1 :: rdO g2 q L.length c s u2 :: [snap W])) → World.cell? w (ad.add ((i : Int).toNat * 1)) = some (.int .i64 bs[i]) := fun w ⟨_, _, h⟩ => by
        obtain ⟨a, ha, hcell⟩ := e1 w h.drop.drop
        obtain rfl : ad = a := by injection ha
        rw [Int.toNat_natCast, Nat.mul_one]
        exact hcell i _ (cs_at hi)
      refine h.drw fun w h => ⟨fun w => ∃ u1 u2, Own W w (dicO g L s u1 :: rdO g2 q L.length c s u2 :: [snap W]), ⟨_, _, h⟩, by omega, by omega, by omega, by omega, _, rdi, _, rdi, ?_⟩
      refine Rets.mono (dcBelow h (fun w h => hmx w h.drop) hm (by omega) hwi.2) ?_
      rintro _ w ⟨rfl, h⟩
      refine ⟨_, rfl, ⟨_, _, h⟩, ?_⟩
      refine Rets.mono (rdBelow h.swap (fun w h => hL w h.drop) hs hm (by omega) hwi.2) ?_
      rintro _ w ⟨rfl, h⟩
      exact ⟨_, rfl, fun hc => absurd rfl (bool_ne hc), fun _ => fin _ w (by split <;> omega) h.swap⟩
  · refine h.drw fun w h => ⟨fun w => Own W w (dicO g L s u :: rdO g2 q L.length c s u :: [snap W]), h, _, fun w h => Own.ld h (by repeat (first | with_reducible exact Pick.here | apply Pick.there)) (by rfl), ?_⟩
    refine Rets.mono (dcPeek (k := 3) h (fun w h => hmx w h.drop) hm (by omega)) ?_
    rintro _ w ⟨rfl, h⟩
    refine ⟨_, rfl, h, ?_⟩
    have e3 : IntKind.wrap .i64 ((u : Int) + 3) = ((u + 3 : Nat) : Int) := by rw [wI64 (by omega) (by omega)]; rfl
    rw [e3]
    refine Rets.mono (rfAt h (fun w h => hL w h.drop.drop) hs hm (by omega)) ?_
    rintro _ w ⟨rfl, h⟩
    refine ⟨_, rfl, h, fun _ => ⟨_, fun w h => Own.ld h (by repeat (first | with_reducible exact Pick.here | apply Pick.there)) (by rfl), ?_⟩, fun hc => absurd rfl (beq_f hc)⟩
    refine Rets.mono (dcPeek (k := -1) h (fun w h => hmx w h.drop) hm (by omega)) ?_
    rintro _ w ⟨rfl, h⟩
    refine ⟨_, rfl, h, ?_⟩
    refine Rets.mono (rfAt h (fun w h => hL w h.drop.drop) hs hm (by omega)) ?_
    rintro _ w ⟨rfl, h⟩
    refine ⟨_, rfl, fun _ => ?_, fun hc => absurd rfl (beq_f hc)⟩
    refine Rets.mono (diAwake h (fun w h => hmx w h.drop.drop)) ?_
    rintro _ w ⟨rfl, h⟩
    exact ⟨_, rfl, rfl, h.drop.drop⟩
theorem DiceAlike_spec {W : World} {q q2 : Option Addr} {c c2 : Nat} {L bs : List Int} {s : Int} (HL : MixLaid W) (hb : RdC W q (cs .i64 L)) (hm : L.length * 8 ≤ 140737488351232) (hc : L.length ≤ c) (hw : ∀ x ∈ L, (Lit.int .i64 x).wf = true) (hs : (Lit.int .u64 s).wf = true)
    (hb2 : RdC W q2 (cs .i64 bs)) (hm2 : bs.length * 8 ≤ 140737488351232) (hc2 : bs.length ≤ c2) (hw2 : ∀ x ∈ bs, (Lit.int .i64 x).wf = true) :
    Rets Tryd.prog 6 #[.slice q L.length c, .int .u64 s, .slice q2 bs.length c2] W fun v w' => v = .bool true ∧ Below W.heap.size W w' := by
  refine Rets.mono (k := fun v w' => v = .bool true ∧ Own W w' [snap W]) ?_ (fun v w' h => ⟨h.1, h.2.below⟩)
  have h := Own.begin W
  have hmx : ∀ w, Own W w [snap W] → RdC w mixQ mixC := fun w h => h.snapRd HL.rd
  have hL : ∀ w, Own W w [snap W] → RdC w q (cs .i64 L) := fun w h => h.snapRd hb
  have hB : ∀ w, Own W w [snap W] → RdC w q2 (cs .i64 bs) := fun w h => h.snapRd hb2
  refine cortadolaw15_DiceAlike_go _ _ _ _ _ _ _ ⟨fun hx => ?_, fun hx => ?_⟩
  · refine Rets.mono (diAwake h hmx) ?_
    rintro _ w ⟨rfl, h⟩
    exact ⟨_, rfl, rfl, h⟩
  have hx := dec_f hx
  refine Rets.mono (dcNew h hL hm) ?_
  rintro _ w ⟨g, rfl, h⟩
  refine ⟨_, rfl, ?_⟩
  refine ⟨fun m vs w => ∃ i u : Nat, vs = [.int .i64 (i : Int)] ∧ m + i = bs.length ∧ u ≤ i ∧ Own W w (dicO g L s u :: [snap W]), ⟨bs.length, 0, 0, rfl, rfl, by omega, h⟩, ?_⟩
  rintro m w v1 v2 n1
  intros
  rename_i hI
  obtain ⟨i, u, hvs, hmi, hui, h⟩ := hI
  obtain rfl : n1 = (i : Int) := by simpa using hvs
  refine ⟨fun hy => ?_, fun hy => ?_⟩
  · have hy := dec_t hy
    have hi : i < bs.length := by omega
    have hwi := wfI64 (hw2 _ (List.getElem_mem hi))
    refine Rets.mono (dcClone h hm) ?_
    rintro _ w ⟨g', rfl, h⟩
    refine ⟨_, rfl, ?_⟩
    refine Rets.mono (dcPeek (k := 0) h (fun w h => hmx w h.drop) hm (by omega)) ?_
    rintro _ w ⟨rfl, h⟩
    have e0 : u + (max 0 (min (0 : Int) 1048576)).toNat = u := by omega
    rw [e0]
    refine ⟨_, rfl, by omega, by omega, RdC.int (hB _ h.drop.drop) hi fun a ha => ⟨_, by rw [Int.toNat_natCast]; exact ha, ?_⟩⟩
    refine Rets.mono (dcBelow h.swap (fun w h => hmx w h.drop) hm (by omega) hwi.2) ?_
    rintro _ w ⟨rfl, h⟩
    refine ⟨_, rfl, by omega, by omega, RdC.int (hB _ h.drop.drop) hi fun a ha => ⟨_, by rw [Int.toNat_natCast]; exact ha, ?_⟩⟩
    refine Rets.mono (dcBelow h.swap (fun w h => hmx w h.drop) hm (by omega) hwi.2) ?_
    rintro _ w ⟨rfl, h⟩
    refine ⟨_, rfl, fun _ => ?_, fun hc => absurd rfl (bool_ne hc)⟩
    refine Rets.mono (dcUsed h.swap) ?_
    rintro _ w ⟨rfl, h⟩
    refine ⟨_, rfl, ?_⟩
    refine Rets.mono (dcUsed h.swap) ?_
    rintro _ w ⟨rfl, h⟩
    have hd := drawI_M64 L s u
    have hbd := belI_bd (n := bs[i]) hd.1
    have rdb : ∀ w, Own W w [snap W] → ∀ {k : Addr → Prop}, (∀ a, cellAt w (a.add ((i : Int).toNat * 1)) (.int .i64 bs[i]) → k a) → someR q2 k := fun w h k hk => RdC.int (hB w h) hi fun a ha => hk a (by rw [Int.toNat_natCast]; exact ha)
    have fin : ∀ (u' : Nat) w, u' ≤ i + 1 → Own W w (dicO g L s u' :: [snap W]) → ∃ k3 : Nat, k3 < m ∧ ∃ i' u : Nat, [Value.int .i64 (IntKind.wrap .i64 ((i : Int) + 1))] = [.int .i64 (i' : Int)] ∧ k3 + i' = bs.length ∧ u ≤ i' ∧ Own W w (dicO g L s u :: [snap W]) := fun u' w hu' h => ⟨m - 1, by omega, i + 1, u', by rw [wI64 (by omega) (by omega)]; rfl, by omega, hu', h⟩
    have h : Own W w (dicO g L s (if bs[i] < 1 then u else u + 1) :: [snap W]) := (Own.sub (h) (by repeat (first | exact Sub.nil _ | exact Sub.rfl _ | (apply Sub.cons; focus ((repeat (first | with_reducible exact Pick.here | apply Pick.there)); done)) | apply Sub.drop)))
    refine ⟨_, rfl, fun _ => ⟨fun _ => ⟨by omega, by omega, rdb w h.drop fun a ha => ⟨_, ha, fun hp => ?_, fun hp => ?_⟩⟩, fun hc => absurd (dec_t hc) (by omega)⟩, fun hc => absurd rfl (bool_ne hc)⟩
    · have hp := dec_t hp
      have hlt := hbd.2 (by omega)
      refine ⟨by omega, by omega, rdb w h.drop fun a ha => ⟨_, ha, fun _ => ?_, fun hc => absurd (dec_t hc) (by omega)⟩⟩
      refine ⟨by omega, by omega, rdb w h.drop fun a ha => ⟨_, ha, by rw [wU64' (by omega) (by omega)]; omega, fun _ => ?_, fun hc => ?_⟩⟩
      · refine ⟨by omega, by omega, rdb w h.drop fun a ha => ⟨_, ha, fun hc => absurd (dec_t hc) (by omega), fun _ => ?_⟩⟩
        exact fin _ w (by split <;> omega) h
      · rw [belI_wrap hd.1 (by omega) hwi.2] at hc
        exact absurd rfl (bool_ne hc)
    · have hp := dec_f hp
      have hl : bs[i] < 1 := by omega
      rw [if_pos hl] at h
      have hb0 : belI (drawI L s u) bs[i] = 0 := by unfold belI; rw [if_pos hl]
      refine ⟨by omega, by omega, rdb w h.drop fun a ha => ⟨_, ha, fun _ => ⟨fun _ => ?_, fun hc => absurd hb0 (bool_ne hc)⟩, fun hc => absurd (dec_f hc) (by omega)⟩⟩
      refine Rets.mono (dcPeek (k := 0) h (fun w h => hmx w h) hm (by omega)) ?_
      rintro _ w ⟨rfl, h⟩
      rw [e0]
      exact ⟨_, rfl, fun hc => absurd rfl (bool_ne hc), fun _ => fin u w (by omega) h⟩
  · refine dice_nil_Next_go ⟨fun _ => ⟨_, rfl, fun _ => ?_, fun hc => (by cases hc)⟩, fun hc => (by cases hc)⟩
    refine dice_Dice_Below_go _ _ ⟨fun hc => (by cases hc), fun _ => dice_nil_Next_go ⟨fun _ => ⟨_, rfl, by decide, ?_⟩, fun hc => (by cases hc)⟩⟩
    refine ⟨_, rfl, fun _ => ?_, fun hc => absurd hc (by decide)⟩
    refine dice_nil_Used_go ⟨fun _ => ⟨_, rfl, fun _ => ?_, fun hc => (by cases hc)⟩, fun hc => (by cases hc)⟩
    refine dice_nil_Peek_go _ ⟨fun _ => ⟨_, rfl, fun _ => ?_, fun hc => (by cases hc)⟩, fun hc => (by cases hc)⟩
    refine dice_nil_Clone_go ⟨fun _ => ⟨_, rfl, fun _ => ?_, fun hc => (by cases hc)⟩, fun hc => (by cases hc)⟩
    refine Rets.mono (diAwake h (fun w h => hmx w h.drop)) ?_
    rintro _ w ⟨rfl, h⟩
    exact ⟨_, rfl, rfl, h.drop⟩
end
end Go.Proofs.YtmenjjofmafacaaDoor.Eng
