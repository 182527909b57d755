/- SketchApart: the law. -/
import Derived.Test.YtipcbhaeoeghnaaDoorSkeR
import Derived.Test.YtipcbhaeoeghnaaDoorEngA
namespace Go.Proofs.YtipcbhaeoeghnaaDoor.Eng
open Go Go.RowKit Go.Proofs
set_option linter.unusedVariables false
set_option linter.unusedSimpArgs false
set_option maxRecDepth 1000000
/-- Steps: a kind, a hash. -/
abbrev encK (s : Int × Int) : List Value := [.int .u64 s.1, .int .u64 s.2]
theorem encK_len (s : Int × Int) : (encK s).length = 2 := rfl
def kd (t : Int × Int) : Bool := decide (Int.tmod t.1 8 ≥ 6)
def stp (L : List (Int × Int)) : List (Bool × Int) := L.map fun t => (kd t, t.2)
def kys (L : List (Int × Int)) : List Int := (L.filter (fun t => !kd t)).map (·.2)
theorem stp_snoc (L : List (Int × Int)) (t : Int × Int) : stp (L ++ [t]) = stp L ++ [(kd t, t.2)] := by simp [stp]
theorem kys_snoc (L : List (Int × Int)) (t : Int × Int) : kys (L ++ [t]) = kys L ++ (if kd t = true then [] else [t.2]) := by
  unfold kys
  rw [List.filter_append, List.map_append]
  congr 1
  cases h : kd t <;> simp [h]
theorem kys_mem {L : List (Int × Int)} {t : Bool × Int} (h : t ∈ stp L) (h1 : t.1 = false) : t.2 ∈ kys L := by
  obtain ⟨a, ha, rfl⟩ := List.mem_map.1 h
  exact List.mem_map.2 ⟨a, List.mem_filter.2 ⟨ha, by simpa using h1⟩, rfl⟩
theorem kys_le (L : List (Int × Int)) : (kys L).length ≤ L.length := by
  unfold kys
  rw [List.length_map]; exact List.length_filter_le _ _
theorem plc_one (s h : Int) (i : Nat) : plc s 1 h i = 0 := Nat.mod_one _
theorem cu_one (s x y : Int) : cuN s 1 x (rwS s 1 [(false, y)]) 4 = 1 := by
  have key : ∀ i, ngGet (rwS s 1 [(false, y)] i) (plc s 1 x i : Int) = 1 := fun i => by
    rw [rwS_get (plc_lt (by omega))]
    have : (fun k => decide (plc s 1 k i = plc s 1 x i)) = fun _ => true := funext fun k => by rw [plc_one, plc_one]; rfl
    rw [this]; rfl
  simp [cuN, key]
section
variable {e w : World} {F : List HP}
theorem skAwake (hm1 : ∀ w, Own e w F → RdC w mixQ mixC) (h : Own e w F) : Rets Tryd.prog 26 #[] w fun v w' => v = .bool true ∧ Own e w' F := by
  refine cortadolaw11_awake_go ?_
  refine Rets.mono (skNew hm1 h) ?_
  clear h
  rintro _ w ⟨g, m, rfl, hok, h⟩
  obtain rfl : m = 0 := by
    refine hok.uniq ⟨?_, ?_⟩
    · decide
    · decide
  rw [← rwS_nil (0 : Int) (2 ^ 0)] at h
  refine ⟨_, rfl, ?_⟩
  refine Rets.mono (skAdd (hh := 5) (fun w h => hm1 w h) h) ?_
  clear h
  rintro _ w ⟨rfl, h⟩
  rw [rwS_add (by decide)] at h
  refine ⟨rfl, ?_⟩
  refine Rets.mono (skCount (hh := 9) (fun w h => hm1 w h) h) ?_
  clear h
  rintro _ w ⟨rfl, h⟩
  rw [show ([] : List (Bool × Int)) ++ [(false, 5)] = [(false, 5)] from rfl, show (2 : Nat) ^ 0 = 1 from rfl, cu_one]
  refine ⟨_, rfl, fun _ => ?_, fun hc => absurd hc (by decide)⟩
  refine Rets.mono (skWidth h) ?_
  clear h
  rintro _ w ⟨rfl, h⟩
  exact ⟨_, rfl, rfl, h.drop⟩
end
section
variable {W : World} {q : Option Addr} {c : Nat} {L : List (Int × Int)} {n s : Int}
theorem SketchApart_spec (HL : MixOne W) (hnw : (Lit.int .i64 n).wf = true) (hsw : (Lit.int .u64 s).wf = true) (hb : RdC W q (L.flatMap encK)) (hm : L.length ≤ maxLen) (hc : L.length ≤ c) (hw : ∀ t ∈ L, (Lit.int .u64 t.1).wf = true ∧ (Lit.int .u64 t.2).wf = true) :
    Rets Tryd.prog 5 #[.int .i64 n, .int .u64 s, .slice q L.length c] W fun v w' => v = .bool true ∧ Below W.heap.size W w' := by
  refine Rets.mono (k := fun v w' => v = .bool true ∧ Own W w' [snap W]) ?_ (fun v w' h => ⟨h.1, h.2.below⟩)
  have h := Own.begin W
  have hsM : M64 s := wfU64 hsw
  have hm1 : ∀ w, Own W w [snap W] → RdC w mixQ mixC := fun w h => h.snapRd HL.rd
  have aw : ∀ w, Own W w [snap W] → Rets Tryd.prog 26 #[] w fun v w' => ∃ b, v = Value.bool b ∧ (Value.bool b) = .bool true ∧ Own W w' [snap W] := fun w h => by
    refine Rets.mono (skAwake hm1 h) ?_
    rintro _ w ⟨rfl, h⟩
    exact ⟨_, rfl, rfl, h⟩
  refine cortadolaw11_SketchApart_go _ _ _ _ _ ⟨fun hx => ⟨fun hx2 => aw W h, fun hx2 => ?_⟩, fun hx => aw W h⟩
  have hx := dec_f hx
  have hx2 := dec_f hx2
  refine Rets.mono (skNew hm1 h) ?_
  clear h
  rintro _ w ⟨g, m, rfl, hok, h⟩
  refine ⟨_, rfl, ?_⟩
  refine Rets.mono (rdNewS (n := n) (s := s) h) ?_
  clear h
  rintro _ w ⟨⟨qr, lr, cr, m2, rfl, hok2⟩, h⟩
  obtain rfl := hok.uniq hok2
  have hm12 := hok.small (by unfold maxI minI; split <;> split <;> omega)
  obtain ⟨p1, p2⟩ := p12 hm12
  rw [← rwS_nil s (2 ^ m)] at h
  refine ⟨_, _, _, _, _, rfl, h.newR fun g1 w h => Own.stP' (g := g1) h (by repeat (first | with_reducible exact Pick.here | apply Pick.there)) (by simp) (by simp [Value.oneCell']) fun w h => ?_⟩
  simp only [setFrom, List.set_cons_zero, List.set_cons_succ, List.set_nil] at h
  refine ⟨fun z vs w => ∃ (i : Nat) (qa : Option Addr) (ca : Nat), vs = [.slice qa (kys (L.take i)).length ca, .int .i64 (i : Int)] ∧ z + i = L.length ∧ Own W w (skO g m s (rwS s (2 ^ m) (stp (L.take i))) :: slO 33 1 qa (kys (L.take i)).length ca (cs .u64 (kys (L.take i))) :: blk g1 48 [.slice qr lr cr, .int .i64 ((2 ^ m : Nat) : Int), .int .u64 s] :: [snap W]), ⟨L.length, 0, none, 0, rfl, rfl, ?_⟩, ?_⟩
  · have h : Own W w (skO g m s (rwS s (2 ^ m) []) :: blk g1 48 [.slice qr lr cr, .int .i64 ((2 ^ m : Nat) : Int), .int .u64 s] :: [snap W]) := (Own.sub (h) (by repeat (first | with_reducible exact Sub.nil _ | with_reducible exact Sub.rfl _ | (apply Sub.cons; focus ((repeat (first | with_reducible exact Pick.here | apply Pick.there)); done)) | apply Sub.drop)))
    have h := (Own.slNil (T := 33) (s := 1) h).swap
    exact h
  clear h
  rintro z w qa0 la0 ca0 n3
  intros
  rename_i hI
  obtain ⟨i, qa, ca, hvs, hz, h⟩ := hI
  obtain ⟨⟨rfl, rfl, rfl⟩, rfl⟩ : (qa0 = qa ∧ la0 = (kys (L.take i)).length ∧ ca0 = ca) ∧ n3 = (i : Int) := by simpa using hvs
  refine ⟨fun hc1 => ?_, fun hc1 => ?_⟩
  · have hc1 := dec_t hc1
    have hi : i < L.length := by omega
    obtain ⟨ad, rfl, hW⟩ := hb.rec encK_len hi (by omega)
    obtain ⟨t, ht⟩ : ∃ t, t = L[i] := ⟨_, rfl⟩
    have et : L.take (i + 1) = L.take i ++ [t] := by rw [ht]; exact List.take_succ_eq_append_getElem hi
    have hk : ∀ w, Own W w [snap W] → cellAt w ((ad.add (i * 2)).add 0) (.int .u64 t.1) := fun w h => h.snapCell (by rw [ht]; exact hW i hi 0 _ rfl)
    have ha : ∀ w, Own W w [snap W] → cellAt w ((ad.add (i * 2)).add 1) (.int .u64 t.2) := fun w h => h.snapCell (by rw [ht]; exact hW i hi 1 _ rfl)
    have ei : IntKind.wrap .i64 ((i : Int) + 1) = ((i + 1 : Nat) : Int) := by rw [wI64 (by omega) (by omega)]; rfl
    have hle := kys_le (L.take i)
    have hl2 : (L.take i).length ≤ i := by rw [List.length_take]; omega
    refine ⟨by omega, by omega, smR ⟨_, hk _ h.drop.drop.drop, by omega, fun h6 => ?_, fun h6 => ?_⟩⟩
    · have ek : kd t = true := h6
      refine Rets.mono (skHalve h) ?_
      clear h
      rintro _ w ⟨rfl, h⟩
      refine ⟨rfl, z - 1, by omega, i + 1, qa0, ca0, ?_, by omega, ?_⟩
      · rw [ei, et, kys_snoc, ek]; simp
      · rw [et, kys_snoc, stp_snoc, ek]
        rw [rwS_half s (2 ^ m) _ t.2] at h
        simpa using h
    · have ek : kd t = false := h6
      refine ⟨by omega, by omega, smR ⟨_, ha _ h.drop.drop.drop, ?_⟩⟩
      refine Rets.mono (skAdd (hh := t.2) (fun w h => hm1 w h.drop.drop) h) ?_
      clear h
      rintro _ w ⟨rfl, h⟩
      rw [rwS_add p1] at h
      refine ⟨rfl, by omega, by omega, smR ⟨_, ha _ h.drop.drop.drop, h.newR fun g3 w h => ?_⟩⟩
      have hsrc : RdC w (some ⟨g3, 0, none⟩) [.int .u64 t.2] := h.blkRd
      have h : Own W w (slO 33 1 qa0 (kys (L.take i)).length ca0 (cs .u64 (kys (L.take i))) :: skO g m s (rwS s (2 ^ m) (stp (L.take i) ++ [(false, t.2)])) :: blk g1 48 [.slice qr lr cr, .int .i64 ((2 ^ m : Nat) : Int), .int .u64 s] :: [snap W]) := (Own.sub (h) (by repeat (first | with_reducible exact Sub.nil _ | with_reducible exact Sub.rfl _ | (apply Sub.cons; focus ((repeat (first | with_reducible exact Pick.here | apply Pick.there)); done)) | apply Sub.drop)))
      refine Own.append (z := [.int .u64 0]) (b := 8) (m := 1) h (by kernel_rfl) (by kernel_rfl) (by kernel_rfl) (by kernel_rfl) (by kernel_rfl) (by omega) hsrc rfl (fun v hv => by rw [List.mem_singleton.1 hv]; rfl) (by unfold maxLen; omega) (by omega) fun q3 c3 w h _ => ⟨_, _, _, rfl, ?_⟩
      have ek2 : kys (L.take (i + 1)) = kys (L.take i) ++ [t.2] := by rw [et, kys_snoc, ek]; simp
      have es2 : stp (L.take (i + 1)) = stp (L.take i) ++ [(false, t.2)] := by rw [et, stp_snoc, ek]
      refine ⟨z - 1, by omega, i + 1, q3, c3, ?_, by omega, ?_⟩
      · rw [ei, ek2, List.length_append]; rfl
      · rw [ek2, es2, List.length_append, cs_app]
        have h : Own W w (slO 33 1 q3 ((kys (L.take i)).length + [t.2].length) c3 (cs .u64 (kys (L.take i)) ++ cs .u64 [t.2]) :: skO g m s (rwS s (2 ^ m) (stp (L.take i) ++ [(false, t.2)])) :: blk g1 48 [.slice qr lr cr, .int .i64 ((2 ^ m : Nat) : Int), .int .u64 s] :: [snap W]) := h
        exact (Own.sub (h) (by repeat (first | with_reducible exact Sub.nil _ | with_reducible exact Sub.rfl _ | (apply Sub.cons; focus ((repeat (first | with_reducible exact Pick.here | apply Pick.there)); done)) | apply Sub.drop)))
  · have hc1 := dec_f hc1
    obtain rfl : i = L.length := by omega
    rw [List.take_length] at h ⊢
    have hle := kys_le L
    obtain ⟨K, hK⟩ : ∃ K, K = kys L := ⟨_, rfl⟩
    obtain ⟨R, hR⟩ : ∃ R, R = rwS s (2 ^ m) (stp L) := ⟨_, rfl⟩
    rw [← hK] at h hle ⊢
    rw [← hR] at h
    let S : World → Prop := fun w => Own W w (skO g m s R :: slO 33 1 qa0 K.length ca0 (cs .u64 K) :: blk g1 48 [.slice qr lr cr, .int .i64 ((2 ^ m : Nat) : Int), .int .u64 s] :: [snap W])
    have hKr : ∀ w, S w → RdC w qa0 (cs .u64 K) := fun w h => Own.rdP (T := 33) (q := qa0) h (by repeat (first | with_reducible exact Pick.here | apply Pick.there))
    refine ⟨fun z vs w => ∃ j : Nat, vs = [.int .i64 (j : Int)] ∧ z + j = K.length ∧ S w, ⟨K.length, 0, rfl, rfl, h⟩, ?_⟩
    clear h
    rintro z w v37 n7
    intros
    rename_i hI
    obtain ⟨j, hvs, hz, h⟩ := hI
    obtain rfl : n7 = (j : Int) := by simpa using hvs
    refine ⟨fun hc2 => ?_, fun hc2 => aw w h.drop.drop.drop⟩
    have hc2 := dec_t hc2
    have hj : j < K.length := by omega
    obtain ⟨x, hx⟩ : ∃ x, x = K[j] := ⟨_, rfl⟩
    have ej : IntKind.wrap .i64 ((j : Int) + 1) = ((j + 1 : Nat) : Int) := by rw [wI64 (by omega) (by omega)]; rfl
    obtain ⟨ax, rfl, _⟩ := (hKr w h).addr (cs_at hj)
    have rdx : ∀ w, S w → World.cell? w (ax.add (Int.toNat (j : Int) * 1)) = some (.int .u64 x) := fun w h => by
      obtain ⟨ad', ead, hcell⟩ := (hKr w h).addr (cs_at hj)
      cases ead
      rw [Int.toNat_natCast, Nat.mul_one, hx]; exact hcell _ _ (cs_at hj)
    refine h.drw fun w h => ⟨by omega, by omega, smR ⟨_, _, _, _, _, ⟨Own.ld (g := g1) h (by repeat (first | with_reducible exact Pick.here | apply Pick.there)) rfl, Own.ld (g := g1) h (by repeat (first | with_reducible exact Pick.here | apply Pick.there)) rfl, Own.ld (g := g1) h (by repeat (first | with_reducible exact Pick.here | apply Pick.there)) rfl⟩, x, rdx w h, ?_⟩⟩
    refine Rets.mono (rdLone (hh := x) (K := K) hm12 hsM hKr (by omega) h) ?_
    clear h
    rintro _ w ⟨⟨b, rfl, hlone⟩, h⟩
    refine ⟨_, rfl, fun hb1 => ⟨z - 1, by omega, j + 1, by rw [ej], by omega, h⟩, fun hb1 => ?_⟩
    have hb1 : b = true := by simpa using hb1
    obtain ⟨i0, hi0, hlone⟩ := hlone hb1
    refine ⟨fun z3 vs w => ∃ t : Nat, vs = [.int .i64 (cst (fun k => decide (k = x)) (stp (L.take t)) : Int), .int .i64 (t : Int)] ∧ z3 + t = L.length ∧ S w, ⟨L.length, 0, rfl, rfl, h⟩, ?_⟩
    clear h
    rintro z3 w n11 n12
    intros
    rename_i hI
    obtain ⟨i, hvs, hz3, h⟩ := hI
    obtain ⟨rfl, rfl⟩ : n11 = (cst (fun k => decide (k = x)) (stp (L.take i)) : Int) ∧ n12 = (i : Int) := by simpa using hvs
    obtain ⟨C, hC⟩ : ∃ C, C = cst (fun k => decide (k = x)) (stp (L.take i)) := ⟨_, rfl⟩
    have hC15 := cst_le (fun k => decide (k = x)) (stp (L.take i))
    rw [← hC] at hC15 ⊢
    refine ⟨fun hc3 => ?_, fun hc3 => ?_⟩
    · have hc3 := dec_t hc3
      have hi : i < L.length := by omega
      obtain ⟨ad, rfl, hW⟩ := hb.rec encK_len hi (by omega)
      obtain ⟨t, ht⟩ : ∃ t, t = L[i] := ⟨_, rfl⟩
      have et : L.take (i + 1) = L.take i ++ [t] := by rw [ht]; exact List.take_succ_eq_append_getElem hi
      have hk : ∀ w, Own W w [snap W] → cellAt w ((ad.add (i * 2)).add 0) (.int .u64 t.1) := fun w h => h.snapCell (by rw [ht]; exact hW i hi 0 _ rfl)
      have ha : ∀ w, Own W w [snap W] → cellAt w ((ad.add (i * 2)).add 1) (.int .u64 t.2) := fun w h => h.snapCell (by rw [ht]; exact hW i hi 1 _ rfl)
      have ei : IntKind.wrap .i64 ((i : Int) + 1) = ((i + 1 : Nat) : Int) := by rw [wI64 (by omega) (by omega)]; rfl
      have ec : cst (fun k => decide (k = x)) (stp (L.take (i + 1))) = if kd t = true then C / 2 else if t.2 = x then min 15 (C + 1) else C := by
        rw [et, stp_snoc, cst_snoc, ← hC]
        simp
      refine ⟨by omega, by omega, smR ⟨_, hk _ h.drop.drop.drop, by omega, fun h6 => ?_, fun h6 => ?_⟩⟩
      · have ek : kd t = true := h6
        refine ⟨by omega, z3 - 1, by omega, i + 1, ?_, by omega, h⟩
        rw [ei, ec, if_pos ek]
        have : Int.tdiv (C : Int) 2 = ((C / 2 : Nat) : Int) := by
          rw [Int.tdiv_eq_ediv_of_nonneg (by omega)]; omega
        rw [this, wI64 (by omega) (by omega)]
      · have ek : kd t = false := h6
        refine h.drw fun w h => ⟨by omega, by omega, smR ⟨by omega, by omega, smR ⟨_, ha _ h.drop.drop.drop, x, rdx w h, fun he => ?_, fun he => ?_⟩⟩⟩
        · have he := beq_t he
          refine ⟨z3 - 1, by omega, i + 1, ?_, by omega, h⟩
          rw [ei, ec, if_neg (by rw [ek]; simp), if_pos he, wI64 (by omega) (by omega)]
          have : minI 15 ((C : Int) + 1) = ((min 15 (C + 1) : Nat) : Int) := by unfold minI; split <;> omega
          rw [this]
        · have he := beq_f he
          refine ⟨z3 - 1, by omega, i + 1, ?_, by omega, h⟩
          rw [ei, ec, if_neg (by rw [ek]; simp), if_neg he]
    · have hc3 := dec_f hc3
      obtain rfl : i = L.length := by omega
      rw [List.take_length] at hC
      refine ⟨by omega, by omega, smR ⟨x, rdx w h, ?_⟩⟩
      refine Rets.mono (skCount (hh := x) (fun w h => hm1 w h.drop.drop) h) ?_
      clear h
      rintro _ w ⟨rfl, h⟩
      have eC : cuN s (2 ^ m) x R 4 = C := by
        have l1 := cu_ge (s := s) p1 (stp L) x 4
        have l2 := cu_le (s := s) p1 (stp L) x (i0 := i0) (fun t ht h1 hne => hlone t.2 (by rw [hK]; exact kys_mem ht h1) hne) 4 hi0
        rw [hR, hC]; omega
      rw [eC]
      exact ⟨_, rfl, fun hq => absurd hq (by simp), fun _ => ⟨z - 1, by omega, j + 1, by rw [ej], by omega, h⟩⟩
end
end Go.Proofs.YtipcbhaeoeghnaaDoor.Eng
