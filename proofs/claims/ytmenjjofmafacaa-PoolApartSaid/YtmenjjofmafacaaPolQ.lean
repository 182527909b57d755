/- PoolPlays. -/
import Derived.Test.YtmenjjofmafacaaPolP
namespace Go.Proofs.Ytmenjjofmafacaa.Eng
open Go Go.RowKit Go.Proofs
set_option linter.unusedVariables false
set_option linter.unusedSimpArgs false
set_option maxRecDepth 1000000
theorem Own.dropL {e w : World} {F : List HP} : ∀ {l : List HP}, Own e w (l ++ F) → Own e w F
  | [], h => h
  | _ :: l, h => Own.dropL (l := l) (Own.drop h)
theorem takeC {qs qs' : List (Option Addr)} {q : Option Addr} {md md' : Nat} (h : (qs = qs' ++ [q] ∧ md' = md) ∨ (qs = [] ∧ qs' = [] ∧ md' = md + 1)) :
    (if ((qs.length : Nat) : Int) > 0 then (md : Int) else (md : Int) + 1) = (md' : Int) ∧ (if ((qs.length : Nat) : Int) > 0 then ((qs.length : Nat) : Int) - 1 else ((qs.length : Nat) : Int)) = ((qs'.length : Nat) : Int) ∧ md' ≤ md + 1 ∧ qs'.length ≤ qs.length := by
  rcases h with ⟨rfl, rfl⟩ | ⟨rfl, rfl, rfl⟩
  · have : (((qs' ++ [q]).length : Nat) : Int) = (qs'.length : Int) + 1 := by simp
    have h2 : (qs' ++ [q]).length = qs'.length + 1 := by simp
    rw [this, if_pos (by omega), if_pos (by omega)]
    exact ⟨rfl, by omega, by omega, by omega⟩
  · exact ⟨by simp, by simp, by omega, by omega⟩
def ful (r : Nat) (q : Option Addr) : HP := exH fun (x : Int) => slO 3 1 q 1 r [.int .i64 x]
def fulV (r : Nat) (os : List (Option Addr)) : List Value := os.map fun q => .slice q 1 r
theorem fulV_snoc (r : Nat) (os : List (Option Addr)) (q : Option Addr) : fulV r (os ++ [q]) = fulV r os ++ [.slice q 1 r] := by simp [fulV]
theorem fulV_one (r : Nat) (os : List (Option Addr)) : ∀ v ∈ fulV r os, v.oneCell' = true := fun v hv => by
  obtain ⟨q, _, rfl⟩ := List.mem_map.1 hv; rfl
theorem fulV_len (r : Nat) (os : List (Option Addr)) : (fulV r os).length = os.length := by simp [fulV]
theorem fulV_at {r : Nat} {os : List (Option Addr)} {j : Nat} (hj : j < os.length) : (fulV r os)[j]? = some (.slice os[j] 1 r) := by simp [fulV, hj]
theorem fulV_cut (r : Nat) (os : List (Option Addr)) (j : Nat) : (fulV r os).take j ++ (fulV r os).drop (j + 1) = fulV r (os.take j ++ os.drop (j + 1)) := by simp [fulV]
theorem emptyS {e w : World} {F : List HP} {g : Nat} {T : TypeId} (h : Own e w (blk g T [] :: F)) : Own e w (slO T 1 (some ⟨g, 0, none⟩) 0 0 [] :: F) := Own.slMk (rest := []) (by rfl) (by omega) (by omega) (by rfl) h
section
variable {W : World} {q : Option Addr} {c : Nat} {L : List Int} {room spare : Int}
theorem PoolPlays_spec (hrw : (Lit.int .i64 room).wf = true) (hsw : (Lit.int .i64 spare).wf = true) (hb : RdC W q (cs .i64 L)) (hm : L.length ≤ maxLen) (hc : L.length ≤ c) (hw : ∀ x ∈ L, (Lit.int .i64 x).wf = true) :
    Rets Try.prog 4 #[.int .i64 room, .int .i64 spare, .slice q L.length c] W fun v w' => v = .bool true ∧ Below W.heap.size W w' := by
  refine Rets.mono (k := fun v w' => v = .bool true ∧ Own W w' [snap W]) ?_ (fun v w' h => ⟨h.1, h.2.below⟩)
  have h := Own.begin W
  have hr : ∀ w, Own W w [snap W] → RdC w q (cs .i64 L) := fun w h => h.snapRd hb
  have aw : ∀ w, Own W w [snap W] → Rets Try.prog 15 #[] w fun v w' => ∃ b, v = Value.bool b ∧ (Value.bool b) = .bool true ∧ Own W w' [snap W] := fun w h => by
    refine Rets.mono (plAwake h) ?_
    rintro _ w ⟨rfl, h⟩
    exact ⟨_, rfl, rfl, h⟩
  refine cortadolaw09_PoolPlays_go _ _ _ _ _ ⟨fun hx => aw W h, fun hx => ?_⟩
  have hx := dec_f hx
  refine Rets.mono (plNew_int h) ?_
  clear h
  rintro _ w ⟨g, rfl, h⟩
  refine ⟨_, rfl, ?_⟩
  refine Rets.mono (rlNew h) ?_
  clear h
  rintro _ w ⟨rfl, h⟩
  have b1 : 1 ≤ maxI 1 (minI (minI room 20) 1024) ∧ maxI 1 (minI (minI room 20) 1024) ≤ 20 := by unfold maxI minI; split <;> split <;> split <;> omega
  have b2 : 0 ≤ maxI 0 (minI spare 1024) ∧ maxI 0 (minI spare 1024) ≤ 1024 := by unfold maxI minI; split <;> split <;> omega
  obtain ⟨r, er⟩ := Int.eq_ofNat_of_zero_le (a := maxI 1 (minI (minI room 20) 1024)) (by omega)
  obtain ⟨sp, es⟩ := Int.eq_ofNat_of_zero_le (a := maxI 0 (minI spare 1024)) (by omega)
  rw [er] at b1 h ⊢
  rw [es] at b2 h ⊢
  rw [Int.toNat_natCast, Int.toNat_natCast] at h
  refine ⟨_, _, _, _, rfl, h.newR fun g1 w h => Own.stP' (g := g1) h (by repeat (first | with_reducible exact Pick.here | apply Pick.there)) (by simp) (by simp [Value.oneCell']) fun w h => ?_⟩
  simp only [setFrom, List.set_cons_zero, List.set_cons_succ, List.set_nil] at h
  refine ⟨fun z vs w => ∃ (i md : Nat) (qs os : List (Option Addr)) (qo : Option Addr) (co : Nat), vs = [.slice qo os.length co, .int .i64 (i : Int)] ∧ z + i = L.length ∧ md ≤ i ∧ qs.length ≤ i ∧ os.length ≤ i ∧ Own W w (pol_int g r sp md qs :: blk g1 30 [.int .i64 (r : Int), .int .i64 (sp : Int), .int .i64 (md : Int), .int .i64 ((qs).length : Int)] :: slO 26 1 qo (os).length co (fulV r (os)) :: ((os).map (ful r) ++ [snap W])), ⟨L.length, 0, 0, [], [], none, 0, rfl, rfl, Nat.le_refl _, Nat.le_refl _, Nat.le_refl _, ?_⟩, ?_⟩
  · have h : Own W w (slO 26 1 none 0 0 [] :: blk g1 30 [.int .i64 (r : Int), .int .i64 (sp : Int), .int .i64 0, .int .i64 0] :: pol_int g r sp 0 [] :: [snap W]) := h.slNil
    have h : Own W w (pol_int g r sp 0 [] :: blk g1 30 [.int .i64 (r : Int), .int .i64 (sp : Int), .int .i64 0, .int .i64 0] :: slO 26 1 none 0 0 [] :: [snap W]) := (Own.sub (h) (by repeat (first | with_reducible exact Sub.nil _ | with_reducible exact Sub.rfl _ | (apply Sub.cons; focus ((repeat (first | with_reducible exact Pick.here | apply Pick.there)); done)) | apply Sub.drop)))
    exact h
  clear h
  rintro z w v4 qo0 k3 co0 n5
  intros
  rename_i hI
  obtain ⟨i, md, qs, os, qo, co, hvs, hz, hmd, hql, hol, h⟩ := hI
  obtain ⟨⟨rfl, rfl, rfl⟩, rfl⟩ : (qo0 = qo ∧ k3 = os.length ∧ co0 = co) ∧ n5 = (i : Int) := by simpa using hvs
  refine ⟨fun hc1 => ?_, fun hc1 => aw w (Own.dropL h.drop.drop.drop)⟩
  have hc1 := dec_t hc1
  have hi : i < L.length := by omega
  have ei : IntKind.wrap .i64 ((i : Int) + 1) = ((i + 1 : Nat) : Int) := by rw [wI64 (by omega) (by omega)]; rfl
  obtain ⟨x, hxe⟩ : ∃ x, x = L[i] := ⟨_, rfl⟩
  have hxw := wfI64 (hw x (by rw [hxe]; exact List.getElem_mem hi))
  obtain ⟨ad, rfl, _⟩ := (hr w (Own.dropL h.drop.drop.drop)).addr (cs_at hi)
  have rdx : ∀ w, Own W w [snap W] → World.cell? w (ad.add (Int.toNat (i : Int) * 1)) = some (.int .i64 x) := fun w h => by
    obtain ⟨ad', ead, hcell⟩ := (hr w h).addr (cs_at hi)
    cases ead
    rw [Int.toNat_natCast, Nat.mul_one, hxe]; exact hcell _ _ (cs_at hi)
  refine ⟨by omega, by omega, smR ⟨x, rdx w (Own.dropL h.drop.drop.drop), fun hn => ⟨fun h0 => ?_, fun h0 => ?_⟩, fun hn => ?_⟩⟩
  · have hcx : True := trivial
    refine Rets.mono (plTake_int (by omega) (by omega) h) ?_
    clear h
    rintro _ w ⟨qb, qs', md', rfl, hcase, h⟩
    refine ⟨_, _, _, rfl, _, _, _, _, ⟨Own.ld (g := g1) h (by repeat (first | with_reducible exact Pick.here | apply Pick.there)) rfl, Own.ld (g := g1) h (by repeat (first | with_reducible exact Pick.here | apply Pick.there)) rfl, Own.ld (g := g1) h (by repeat (first | with_reducible exact Pick.here | apply Pick.there)) rfl, Own.ld (g := g1) h (by repeat (first | with_reducible exact Pick.here | apply Pick.there)) rfl⟩, ?_⟩
    refine Rets.mono (rlTake (by omega) (by omega) h) ?_
    clear h
    rintro _ w ⟨rfl, h⟩
    refine ⟨_, _, _, _, rfl, Own.stP' (g := g1) h (by repeat (first | with_reducible exact Pick.here | apply Pick.there)) (by simp) (by simp [Value.oneCell']) fun w h => ?_⟩
    simp only [setFrom, List.set_cons_zero, List.set_cons_succ, List.set_nil] at h
    obtain ⟨c1, c2, c3, c4⟩ := takeC hcase
    rw [c1, c2] at h
    refine ⟨fun hc => absurd hc (by simp), fun _ => ⟨by omega, by omega, smR ⟨x, rdx w (Own.dropL h.drop.drop.drop.drop), h.newR fun g4 w h => ?_⟩⟩⟩
    have hsrc : RdC w (some ⟨g4, 0, none⟩) [.int .i64 x] := h.blkRd
    have h : Own W w (buf_int r qb :: blk g1 30 [.int .i64 (r : Int), .int .i64 (sp : Int), .int .i64 (md' : Int), .int .i64 (qs'.length : Int)] :: pol_int g r sp md' qs' :: slO 26 1 qo0 os.length co0 (fulV r os) :: (os.map (ful r) ++ [snap W])) := (Own.sub (h) (by repeat (first | with_reducible exact Sub.nil _ | with_reducible exact Sub.rfl _ | (apply Sub.cons; focus ((repeat (first | with_reducible exact Pick.here | apply Pick.there)); done)) | apply Sub.drop)))
    refine Own.appendRoom (z := [.int .i64 0]) (m := 1) h (by kernel_rfl) (by kernel_rfl) (by kernel_rfl) (by omega) hsrc rfl (fun v hv => by rw [List.mem_singleton.1 hv]; rfl) (by omega) (by omega) fun w h => ⟨_, _, _, rfl, h.newR fun g5 w h => ?_⟩
    have hsrc : RdC w (some ⟨g5, 0, none⟩) [.slice qb 1 r] := h.blkRd
    have h : Own W w (slO 3 1 qb 1 r [.int .i64 x] :: blk g1 30 [.int .i64 (r : Int), .int .i64 (sp : Int), .int .i64 (md' : Int), .int .i64 (qs'.length : Int)] :: pol_int g r sp md' qs' :: slO 26 1 qo0 os.length co0 (fulV r os) :: (os.map (ful r) ++ [snap W])) := h.drop
    have h : Own W w (ful r qb :: blk g1 30 [.int .i64 (r : Int), .int .i64 (sp : Int), .int .i64 (md' : Int), .int .i64 (qs'.length : Int)] :: pol_int g r sp md' qs' :: slO 26 1 qo0 os.length co0 (fulV r os) :: (os.map (ful r) ++ [snap W])) := Own.mkEx (P := fun x => slO 3 1 qb 1 r [.int .i64 x]) x h
    have h : Own W w (slO 26 1 qo0 os.length co0 (fulV r os) :: ful r qb :: pol_int g r sp md' qs' :: blk g1 30 [.int .i64 (r : Int), .int .i64 (sp : Int), .int .i64 (md' : Int), .int .i64 (qs'.length : Int)] :: (os.map (ful r) ++ [snap W])) := (Own.sub (h) (by repeat (first | with_reducible exact Sub.nil _ | with_reducible exact Sub.rfl _ | (apply Sub.cons; focus ((repeat (first | with_reducible exact Pick.here | apply Pick.there)); done)) | apply Sub.drop)))
    refine Own.append (z := [.slice none 0 0]) (b := 24) (m := 1) h (by kernel_rfl) (by kernel_rfl) (by kernel_rfl) (by kernel_rfl) (by kernel_rfl) (by omega) hsrc rfl (fun v hv => by rw [List.mem_singleton.1 hv]; rfl) (by unfold maxLen; omega) (by omega) fun q3 c3' w h _ => ⟨_, _, _, rfl, ?_⟩
    have hos : os.length + 1 = (os ++ [qb]).length := by simp
    rw [hos] at h ⊢
    have h : Own W w (pol_int g r sp md' qs' :: blk g1 30 [.int .i64 (r : Int), .int .i64 (sp : Int), .int .i64 (md' : Int), .int .i64 ((qs').length : Int)] :: slO 26 1 q3 (os ++ [qb]).length c3' (fulV r (os ++ [qb])) :: ((os ++ [qb]).map (ful r) ++ [snap W])) := by
      rw [fulV_snoc, List.map_append, List.append_assoc]
      have h : Own W w (ful r qb :: (([pol_int g r sp md' qs', blk g1 30 [.int .i64 (r : Int), .int .i64 (sp : Int), .int .i64 (md' : Int), .int .i64 (qs'.length : Int)], slO 26 1 q3 (os ++ [qb]).length c3' (fulV r os ++ [.slice qb 1 r])] ++ os.map (ful r)) ++ [snap W])) := by
        have h2 : Own W w (ful r qb :: pol_int g r sp md' qs' :: blk g1 30 [.int .i64 (r : Int), .int .i64 (sp : Int), .int .i64 (md' : Int), .int .i64 (qs'.length : Int)] :: slO 26 1 q3 (os ++ [qb]).length c3' (fulV r os ++ [.slice qb 1 r]) :: (os.map (ful r) ++ [snap W])) := (Own.sub (h) (by repeat (first | with_reducible exact Sub.nil _ | with_reducible exact Sub.rfl _ | (apply Sub.cons; focus ((repeat (first | with_reducible exact Pick.here | apply Pick.there)); done)) | apply Sub.drop)))
        exact h2
      exact h.midBack
    have hol : (os ++ [qb]).length ≤ i + 1 := by rw [← hos]; omega
    refine h.drw fun w h => ⟨fun w => Own W w (pol_int g r sp md' qs' :: blk g1 30 [.int .i64 (r : Int), .int .i64 (sp : Int), .int .i64 (md' : Int), .int .i64 ((qs').length : Int)] :: slO 26 1 q3 (os ++ [qb]).length c3' (fulV r (os ++ [qb])) :: ((os ++ [qb]).map (ful r) ++ [snap W])), h, _, fun w h => Own.ld (g := g1) h (by repeat (first | with_reducible exact Pick.here | apply Pick.there)) rfl, ?_⟩
    refine Rets.mono (plMade h) ?_
    clear h
    rintro _ w ⟨rfl, h⟩
    refine ⟨_, rfl, h, fun _ => ⟨_, fun w h => Own.ld (g := g1) h (by repeat (first | with_reducible exact Pick.here | apply Pick.there)) rfl, ?_⟩, fun hc => absurd hc (by simp)⟩
    refine Rets.mono (plSpare h) ?_
    clear h
    rintro _ w ⟨rfl, h⟩
    refine ⟨_, rfl, h, fun _ => ⟨_, fun w h => Own.ld (g := g1) h (by repeat (first | with_reducible exact Pick.here | apply Pick.there)) rfl, ?_⟩, fun hc => absurd hc (by simp)⟩
    refine Rets.mono (plRoom_int h) ?_
    clear h
    rintro _ w ⟨rfl, h⟩
    refine ⟨_, rfl, h, fun hc => absurd hc (by simp), fun _ => ⟨z - 1, by omega, i + 1, md', qs', os ++ [qb], q3, c3', ?_, by omega, by omega, by omega, by omega, h⟩⟩
    rw [ei]
  · have hn := dec_f hn
    have h0 : os.length ≠ 0 := by intro e; rw [e] at h0; simp at h0
    obtain ⟨j, hj⟩ := Int.eq_ofNat_of_zero_le (a := Int.tmod x (os.length : Int)) (Int.tmod_nonneg _ (by omega))
    have hjl : j < os.length := by
      have : Int.tmod x (os.length : Int) < os.length := Int.tmod_lt_of_pos _ (by omega)
      omega
    obtain ⟨ao, rfl, _⟩ := (Own.rdP (T := 26) (q := qo0) h (by repeat (first | with_reducible exact Pick.here | apply Pick.there))).addr (fulV_at (r := r) hjl)
    have rdo := ((Own.rdP (T := 26) (q := some ao) h (by repeat (first | with_reducible exact Pick.here | apply Pick.there))).addr (fulV_at (r := r) hjl))
    obtain ⟨ao', eao, rdo⟩ := rdo
    cases eao
    refine ⟨by omega, by omega, smR ⟨x, rdx w (Own.dropL h.drop.drop.drop), by omega, ?_⟩⟩
    rw [hj]
    refine ⟨by omega, by omega, smR ⟨_, _, _, by rw [Int.toNat_natCast, Nat.mul_one]; exact rdo _ _ (fulV_at (r := r) hjl), _, Own.ld (g := g1) h (by repeat (first | with_reducible exact Pick.here | apply Pick.there)) rfl, by omega, by omega, smR ⟨x, rdx w (Own.dropL h.drop.drop.drop), by omega, fun h7 => ?_, fun h7 => ?_⟩⟩⟩
    · refine ⟨_, Own.ld (g := g1) h (by repeat (first | with_reducible exact Pick.here | apply Pick.there)) rfl, ?_⟩
      have ew : IntKind.wrap .i64 ((r : Int) + 1) = ((r + 1 : Nat) : Int) := by rw [wI64 (by omega) (by omega)]; rfl
      rw [ew]
      refine h.makeR ⟨by omega, by omega, by omega, by omega⟩ fun g9 w h => ?_
      rw [Int.toNat_natCast] at h ⊢
      have h := mk0 (by unfold maxLen; omega) h
      refine ⟨_, _, _, _, ⟨Own.ld (g := g1) h (by repeat (first | with_reducible exact Pick.here | apply Pick.there)) rfl, Own.ld (g := g1) h (by repeat (first | with_reducible exact Pick.here | apply Pick.there)) rfl, Own.ld (g := g1) h (by repeat (first | with_reducible exact Pick.here | apply Pick.there)) rfl, Own.ld (g := g1) h (by repeat (first | with_reducible exact Pick.here | apply Pick.there)) rfl⟩, ?_⟩
      refine Rets.mono (rlGive (by omega) h) ?_
      clear h
      rintro _ w ⟨rfl, h⟩
      have hno : ¬ (((qs.length : Nat) : Int) < (sp : Int) ∧ ((r + 1 : Nat) : Int) = (r : Int)) := by omega
      rw [if_neg hno, decide_eq_false hno]
      refine ⟨_, _, _, _, _, rfl, h.newR fun g10 w h => Own.stP' (g := g10) h (by repeat (first | with_reducible exact Pick.here | apply Pick.there)) (by simp) (by simp [Value.oneCell']) fun w h => ?_⟩
      simp only [setFrom, List.set_cons_zero, List.set_cons_succ, List.set_nil] at h
      have h : Own W w (slO 3 1 (some ⟨g9, 0, none⟩) 0 (r + 1) [] :: pol_int g r sp md qs :: blk g10 30 [.int .i64 (r : Int), .int .i64 (sp : Int), .int .i64 (md : Int), .int .i64 (qs.length : Int)] :: blk g1 30 [.int .i64 (r : Int), .int .i64 (sp : Int), .int .i64 (md : Int), .int .i64 (qs.length : Int)] :: slO 26 1 (some ao) os.length co0 (fulV r os) :: (os.map (ful r) ++ [snap W])) := (Own.sub (h) (by repeat (first | with_reducible exact Sub.nil _ | with_reducible exact Sub.rfl _ | (apply Sub.cons; focus ((repeat (first | with_reducible exact Pick.here | apply Pick.there)); done)) | apply Sub.drop)))
      refine Rets.mono (plGive_int (by omega) (by omega) h) ?_
      clear h
      rintro _ w ⟨rfl, h⟩
      have hno : ¬ (qs.length < sp ∧ r + 1 = r) := by omega
      rw [if_neg hno] at h
      rw [decide_eq_false hno]
      refine ⟨_, rfl, fun hc => absurd hc (by simp), fun _ => ⟨_, _, _, _, ⟨Own.ld (g := g10) h (by repeat (first | with_reducible exact Pick.here | apply Pick.there)) rfl, Own.ld (g := g10) h (by repeat (first | with_reducible exact Pick.here | apply Pick.there)) rfl, Own.ld (g := g10) h (by repeat (first | with_reducible exact Pick.here | apply Pick.there)) rfl, Own.ld (g := g10) h (by repeat (first | with_reducible exact Pick.here | apply Pick.there)) rfl⟩, Own.stP' (g := g1) h (by repeat (first | with_reducible exact Pick.here | apply Pick.there)) (by simp) (by simp [Value.oneCell']) fun w h => ?_⟩⟩
      simp only [setFrom, List.set_cons_zero, List.set_cons_succ, List.set_nil] at h
      have h : Own W w (pol_int g r sp md qs :: blk g1 30 [.int .i64 (r : Int), .int .i64 (sp : Int), .int .i64 (md : Int), .int .i64 ((qs).length : Int)] :: slO 26 1 (some ao) (os).length co0 (fulV r (os)) :: ((os).map (ful r) ++ [snap W])) := (Own.sub (h) (by repeat (first | with_reducible exact Sub.nil _ | with_reducible exact Sub.rfl _ | (apply Sub.cons; focus ((repeat (first | with_reducible exact Pick.here | apply Pick.there)); done)) | apply Sub.drop)))
      refine h.drw fun w h => ⟨fun w => Own W w (pol_int g r sp md qs :: blk g1 30 [.int .i64 (r : Int), .int .i64 (sp : Int), .int .i64 (md : Int), .int .i64 ((qs).length : Int)] :: slO 26 1 (some ao) (os).length co0 (fulV r (os)) :: ((os).map (ful r) ++ [snap W])), h, _, fun w h => Own.ld (g := g1) h (by repeat (first | with_reducible exact Pick.here | apply Pick.there)) rfl, ?_⟩
      refine Rets.mono (plMade h) ?_
      clear h
      rintro _ w ⟨rfl, h⟩
      refine ⟨_, rfl, h, fun _ => ⟨_, fun w h => Own.ld (g := g1) h (by repeat (first | with_reducible exact Pick.here | apply Pick.there)) rfl, ?_⟩, fun hc => absurd hc (by simp)⟩
      refine Rets.mono (plSpare h) ?_
      clear h
      rintro _ w ⟨rfl, h⟩
      refine ⟨_, rfl, h, fun _ => ⟨_, fun w h => Own.ld (g := g1) h (by repeat (first | with_reducible exact Pick.here | apply Pick.there)) rfl, ?_⟩, fun hc => absurd hc (by simp)⟩
      refine Rets.mono (plRoom_int h) ?_
      clear h
      rintro _ w ⟨rfl, h⟩
      refine ⟨_, rfl, h, fun hc => absurd hc (by simp), fun _ => ⟨z - 1, by omega, i + 1, md, qs, os, (some ao), co0, ?_, by omega, by omega, by omega, by omega, h⟩⟩
      rw [ei]
    · have ej : IntKind.wrap .i64 ((j : Int) + 1) = ((j + 1 : Nat) : Int) := by rw [wI64 (by omega) (by omega)]; rfl
      rw [ej]
      obtain ⟨hf1, hf2, hf3⟩ := (Own.pk (A := slO 26 1 (some ao) os.length co0 (fulV r os)) h (by repeat (first | with_reducible exact Pick.here | apply Pick.there))).slFacts
      refine h.drw fun w h => ⟨by omega, by omega, by omega, by omega, h.newR fun g11 w h => ?_⟩
      rw [slcA0, Int.toNat_natCast, Int.toNat_natCast, Nat.sub_zero]
      have h := emptyS h
      have hs1 : RdC w (some ao) ((fulV r os).take j) := (Own.rdP (T := 26) (q := some ao) (n := os.length) h (by repeat (first | with_reducible exact Pick.here | apply Pick.there))).take j
      refine Own.append (z := [.slice none 0 0]) (b := 24) (m := j) h (by kernel_rfl) (by kernel_rfl) (by kernel_rfl) (by kernel_rfl) (by kernel_rfl) (by omega) hs1 (by rw [List.length_take, fulV_len]; omega) (fun v hv => fulV_one r os v (List.mem_of_mem_take hv)) (by unfold maxLen; omega) (by omega) fun q7 c7 w h _ => ⟨_, _, _, rfl, ?_⟩
      have hs2 : RdC w (slcA (some ao) (j + 1) co0 1) ((fulV r os).drop (j + 1)) := RdC.cut (Own.rdP (T := 26) (q := some ao) (n := os.length) h (by repeat (first | with_reducible exact Pick.here | apply Pick.there))) (by rw [fulV_len]; omega) (by rw [fulV_len]; omega)
      refine Own.append (z := [.slice none 0 0]) (b := 24) (m := os.length - (j + 1)) h (by kernel_rfl) (by kernel_rfl) (by kernel_rfl) (by kernel_rfl) (by kernel_rfl) (by omega) hs2 (by rw [List.length_drop, fulV_len]; omega) (fun v hv => fulV_one r os v (List.mem_of_mem_drop hv)) (by unfold maxLen; omega) (by omega) fun q8 c8 w h _ => ⟨_, _, _, rfl, ?_⟩
      rw [List.nil_append, fulV_cut] at h
      obtain ⟨os', hos'⟩ : ∃ os', os' = os.take j ++ os.drop (j + 1) := ⟨_, rfl⟩
      have hlen : 0 + j + (os.length - (j + 1)) = os'.length := by rw [hos']; simp; omega
      have hle' : os'.length ≤ i + 1 := by omega
      rw [hlen, ← hos'] at h
      rw [hlen]
      refine ⟨_, _, _, _, ⟨Own.ld (g := g1) h (by repeat (first | with_reducible exact Pick.here | apply Pick.there)) rfl, Own.ld (g := g1) h (by repeat (first | with_reducible exact Pick.here | apply Pick.there)) rfl, Own.ld (g := g1) h (by repeat (first | with_reducible exact Pick.here | apply Pick.there)) rfl, Own.ld (g := g1) h (by repeat (first | with_reducible exact Pick.here | apply Pick.there)) rfl⟩, ?_⟩
      refine Rets.mono (rlGive (by omega) h) ?_
      clear h
      rintro _ w ⟨rfl, h⟩
      obtain ⟨nn, hnn⟩ : ∃ nn : Int, nn = (if ((qs.length : Nat) : Int) < (sp : Int) ∧ (r : Int) = (r : Int) then ((qs.length : Nat) : Int) + 1 else ((qs.length : Nat) : Int)) := ⟨_, rfl⟩
      rw [← hnn]
      refine ⟨_, _, _, _, _, rfl, h.newR fun g12 w h => Own.stP' (g := g12) h (by repeat (first | with_reducible exact Pick.here | apply Pick.there)) (by simp) (by simp [Value.oneCell']) fun w h => ?_⟩
      simp only [setFrom, List.set_cons_zero, List.set_cons_succ, List.set_nil] at h
      obtain ⟨qb, hqb⟩ : ∃ qb, qb = os[j] := ⟨_, rfl⟩
      rw [← hqb]
      have ecut : os.map (ful r) = (os.take j).map (ful r) ++ ful r qb :: (os.drop (j + 1)).map (ful r) := by
        have : os = os.take j ++ os[j] :: os.drop (j + 1) := by rw [List.getElem_cons_drop, List.take_append_drop]
        conv => lhs; rw [this]
        rw [List.map_append, List.map_cons, hqb]
      obtain ⟨B12, hB12⟩ : ∃ B, B = blk g12 30 [.int .i64 (r : Int), .int .i64 (sp : Int), .int .i64 (md : Int), .int .i64 nn] := ⟨_, rfl⟩
      rw [← hB12] at h
      have h : Own W w (ful r qb :: pol_int g r sp md qs :: B12 :: blk g1 30 [.int .i64 (r : Int), .int .i64 (sp : Int), .int .i64 (md : Int), .int .i64 (qs.length : Int)] :: slO 26 1 q8 os'.length c8 (fulV r os') :: (os'.map (ful r) ++ [snap W])) := by
        have h : Own W w (pol_int g r sp md qs :: B12 :: blk g1 30 [.int .i64 (r : Int), .int .i64 (sp : Int), .int .i64 (md : Int), .int .i64 (qs.length : Int)] :: slO 26 1 q8 os'.length c8 (fulV r os') :: (os.map (ful r) ++ [snap W])) := (Own.sub (h) (by repeat (first | with_reducible exact Sub.nil _ | with_reducible exact Sub.rfl _ | (apply Sub.cons; focus ((repeat (first | with_reducible exact Pick.here | apply Pick.there)); done)) | apply Sub.drop)))
        rw [ecut, List.append_assoc] at h
        have h : Own W w (([pol_int g r sp md qs, B12, blk g1 30 [.int .i64 (r : Int), .int .i64 (sp : Int), .int .i64 (md : Int), .int .i64 (qs.length : Int)], slO 26 1 q8 os'.length c8 (fulV r os')] ++ (os.take j).map (ful r)) ++ ful r qb :: ((os.drop (j + 1)).map (ful r) ++ [snap W])) := h
        have h := h.mid
        rw [hos', List.map_append, List.append_assoc]
        rw [← hos']
        exact h
      obtain ⟨xb, h⟩ := h.ex
      refine Rets.mono (plGive_int (by omega) (by omega) h) ?_
      clear h
      rintro _ w ⟨rfl, h⟩
      have edec : decide (((qs.length : Nat) : Int) < (sp : Int) ∧ (r : Int) = (r : Int)) = decide (qs.length < sp ∧ r = r) := by
        rw [decide_eq_decide]; omega
      obtain ⟨qs2, hqs2⟩ : ∃ qs2, qs2 = (if qs.length < sp ∧ r = r then qs ++ [qb] else qs) := ⟨_, rfl⟩
      have hq2 : nn = (qs2.length : Int) := by
        rw [hqs2, hnn]
        by_cases hlt : qs.length < sp
        · rw [if_pos ⟨by omega, rfl⟩, if_pos ⟨hlt, rfl⟩]; simp
        · rw [if_neg (by omega), if_neg (by omega)]
      have hq3 : qs2.length ≤ i + 1 := by
        rw [hqs2]; split
        · simp; omega
        · omega
      rw [hB12, hq2, ← hqs2] at h
      rw [edec]
      refine ⟨_, rfl, fun hc => absurd hc (by simp), fun _ => ⟨_, _, _, _, ⟨Own.ld (g := g12) h (by repeat (first | with_reducible exact Pick.here | apply Pick.there)) rfl, Own.ld (g := g12) h (by repeat (first | with_reducible exact Pick.here | apply Pick.there)) rfl, Own.ld (g := g12) h (by repeat (first | with_reducible exact Pick.here | apply Pick.there)) rfl, Own.ld (g := g12) h (by repeat (first | with_reducible exact Pick.here | apply Pick.there)) rfl⟩, Own.stP' (g := g1) h (by repeat (first | with_reducible exact Pick.here | apply Pick.there)) (by simp) (by simp [Value.oneCell']) fun w h => ?_⟩⟩
      simp only [setFrom, List.set_cons_zero, List.set_cons_succ, List.set_nil] at h
      have h : Own W w (pol_int g r sp md qs2 :: blk g1 30 [.int .i64 (r : Int), .int .i64 (sp : Int), .int .i64 (md : Int), .int .i64 ((qs2).length : Int)] :: slO 26 1 q8 (os').length c8 (fulV r (os')) :: ((os').map (ful r) ++ [snap W])) := (Own.sub (h) (by repeat (first | with_reducible exact Sub.nil _ | with_reducible exact Sub.rfl _ | (apply Sub.cons; focus ((repeat (first | with_reducible exact Pick.here | apply Pick.there)); done)) | apply Sub.drop)))
      refine h.drw fun w h => ⟨fun w => Own W w (pol_int g r sp md qs2 :: blk g1 30 [.int .i64 (r : Int), .int .i64 (sp : Int), .int .i64 (md : Int), .int .i64 ((qs2).length : Int)] :: slO 26 1 q8 (os').length c8 (fulV r (os')) :: ((os').map (ful r) ++ [snap W])), h, _, fun w h => Own.ld (g := g1) h (by repeat (first | with_reducible exact Pick.here | apply Pick.there)) rfl, ?_⟩
      refine Rets.mono (plMade h) ?_
      clear h
      rintro _ w ⟨rfl, h⟩
      refine ⟨_, rfl, h, fun _ => ⟨_, fun w h => Own.ld (g := g1) h (by repeat (first | with_reducible exact Pick.here | apply Pick.there)) rfl, ?_⟩, fun hc => absurd hc (by simp)⟩
      refine Rets.mono (plSpare h) ?_
      clear h
      rintro _ w ⟨rfl, h⟩
      refine ⟨_, rfl, h, fun _ => ⟨_, fun w h => Own.ld (g := g1) h (by repeat (first | with_reducible exact Pick.here | apply Pick.there)) rfl, ?_⟩, fun hc => absurd hc (by simp)⟩
      refine Rets.mono (plRoom_int h) ?_
      clear h
      rintro _ w ⟨rfl, h⟩
      refine ⟨_, rfl, h, fun hc => absurd hc (by simp), fun _ => ⟨z - 1, by omega, i + 1, md, qs2, os', q8, c8, ?_, by omega, by omega, by omega, by omega, h⟩⟩
      rw [ei]
  · have hcx : True := trivial
    refine Rets.mono (plTake_int (by omega) (by omega) h) ?_
    clear h
    rintro _ w ⟨qb, qs', md', rfl, hcase, h⟩
    refine ⟨_, _, _, rfl, _, _, _, _, ⟨Own.ld (g := g1) h (by repeat (first | with_reducible exact Pick.here | apply Pick.there)) rfl, Own.ld (g := g1) h (by repeat (first | with_reducible exact Pick.here | apply Pick.there)) rfl, Own.ld (g := g1) h (by repeat (first | with_reducible exact Pick.here | apply Pick.there)) rfl, Own.ld (g := g1) h (by repeat (first | with_reducible exact Pick.here | apply Pick.there)) rfl⟩, ?_⟩
    refine Rets.mono (rlTake (by omega) (by omega) h) ?_
    clear h
    rintro _ w ⟨rfl, h⟩
    refine ⟨_, _, _, _, rfl, Own.stP' (g := g1) h (by repeat (first | with_reducible exact Pick.here | apply Pick.there)) (by simp) (by simp [Value.oneCell']) fun w h => ?_⟩
    simp only [setFrom, List.set_cons_zero, List.set_cons_succ, List.set_nil] at h
    obtain ⟨c1, c2, c3, c4⟩ := takeC hcase
    rw [c1, c2] at h
    refine ⟨fun hc => absurd hc (by simp), fun _ => ⟨by omega, by omega, smR ⟨x, rdx w (Own.dropL h.drop.drop.drop.drop), h.newR fun g4 w h => ?_⟩⟩⟩
    have hsrc : RdC w (some ⟨g4, 0, none⟩) [.int .i64 x] := h.blkRd
    have h : Own W w (buf_int r qb :: blk g1 30 [.int .i64 (r : Int), .int .i64 (sp : Int), .int .i64 (md' : Int), .int .i64 (qs'.length : Int)] :: pol_int g r sp md' qs' :: slO 26 1 qo0 os.length co0 (fulV r os) :: (os.map (ful r) ++ [snap W])) := (Own.sub (h) (by repeat (first | with_reducible exact Sub.nil _ | with_reducible exact Sub.rfl _ | (apply Sub.cons; focus ((repeat (first | with_reducible exact Pick.here | apply Pick.there)); done)) | apply Sub.drop)))
    refine Own.appendRoom (z := [.int .i64 0]) (m := 1) h (by kernel_rfl) (by kernel_rfl) (by kernel_rfl) (by omega) hsrc rfl (fun v hv => by rw [List.mem_singleton.1 hv]; rfl) (by omega) (by omega) fun w h => ⟨_, _, _, rfl, h.newR fun g5 w h => ?_⟩
    have hsrc : RdC w (some ⟨g5, 0, none⟩) [.slice qb 1 r] := h.blkRd
    have h : Own W w (slO 3 1 qb 1 r [.int .i64 x] :: blk g1 30 [.int .i64 (r : Int), .int .i64 (sp : Int), .int .i64 (md' : Int), .int .i64 (qs'.length : Int)] :: pol_int g r sp md' qs' :: slO 26 1 qo0 os.length co0 (fulV r os) :: (os.map (ful r) ++ [snap W])) := h.drop
    have h : Own W w (ful r qb :: blk g1 30 [.int .i64 (r : Int), .int .i64 (sp : Int), .int .i64 (md' : Int), .int .i64 (qs'.length : Int)] :: pol_int g r sp md' qs' :: slO 26 1 qo0 os.length co0 (fulV r os) :: (os.map (ful r) ++ [snap W])) := Own.mkEx (P := fun x => slO 3 1 qb 1 r [.int .i64 x]) x h
    have h : Own W w (slO 26 1 qo0 os.length co0 (fulV r os) :: ful r qb :: pol_int g r sp md' qs' :: blk g1 30 [.int .i64 (r : Int), .int .i64 (sp : Int), .int .i64 (md' : Int), .int .i64 (qs'.length : Int)] :: (os.map (ful r) ++ [snap W])) := (Own.sub (h) (by repeat (first | with_reducible exact Sub.nil _ | with_reducible exact Sub.rfl _ | (apply Sub.cons; focus ((repeat (first | with_reducible exact Pick.here | apply Pick.there)); done)) | apply Sub.drop)))
    refine Own.append (z := [.slice none 0 0]) (b := 24) (m := 1) h (by kernel_rfl) (by kernel_rfl) (by kernel_rfl) (by kernel_rfl) (by kernel_rfl) (by omega) hsrc rfl (fun v hv => by rw [List.mem_singleton.1 hv]; rfl) (by unfold maxLen; omega) (by omega) fun q3 c3' w h _ => ⟨_, _, _, rfl, ?_⟩
    have hos : os.length + 1 = (os ++ [qb]).length := by simp
    rw [hos] at h ⊢
    have h : Own W w (pol_int g r sp md' qs' :: blk g1 30 [.int .i64 (r : Int), .int .i64 (sp : Int), .int .i64 (md' : Int), .int .i64 ((qs').length : Int)] :: slO 26 1 q3 (os ++ [qb]).length c3' (fulV r (os ++ [qb])) :: ((os ++ [qb]).map (ful r) ++ [snap W])) := by
      rw [fulV_snoc, List.map_append, List.append_assoc]
      have h : Own W w (ful r qb :: (([pol_int g r sp md' qs', blk g1 30 [.int .i64 (r : Int), .int .i64 (sp : Int), .int .i64 (md' : Int), .int .i64 (qs'.length : Int)], slO 26 1 q3 (os ++ [qb]).length c3' (fulV r os ++ [.slice qb 1 r])] ++ os.map (ful r)) ++ [snap W])) := by
        have h2 : Own W w (ful r qb :: pol_int g r sp md' qs' :: blk g1 30 [.int .i64 (r : Int), .int .i64 (sp : Int), .int .i64 (md' : Int), .int .i64 (qs'.length : Int)] :: slO 26 1 q3 (os ++ [qb]).length c3' (fulV r os ++ [.slice qb 1 r]) :: (os.map (ful r) ++ [snap W])) := (Own.sub (h) (by repeat (first | with_reducible exact Sub.nil _ | with_reducible exact Sub.rfl _ | (apply Sub.cons; focus ((repeat (first | with_reducible exact Pick.here | apply Pick.there)); done)) | apply Sub.drop)))
        exact h2
      exact h.midBack
    have hol : (os ++ [qb]).length ≤ i + 1 := by rw [← hos]; omega
    refine h.drw fun w h => ⟨fun w => Own W w (pol_int g r sp md' qs' :: blk g1 30 [.int .i64 (r : Int), .int .i64 (sp : Int), .int .i64 (md' : Int), .int .i64 ((qs').length : Int)] :: slO 26 1 q3 (os ++ [qb]).length c3' (fulV r (os ++ [qb])) :: ((os ++ [qb]).map (ful r) ++ [snap W])), h, _, fun w h => Own.ld (g := g1) h (by repeat (first | with_reducible exact Pick.here | apply Pick.there)) rfl, ?_⟩
    refine Rets.mono (plMade h) ?_
    clear h
    rintro _ w ⟨rfl, h⟩
    refine ⟨_, rfl, h, fun _ => ⟨_, fun w h => Own.ld (g := g1) h (by repeat (first | with_reducible exact Pick.here | apply Pick.there)) rfl, ?_⟩, fun hc => absurd hc (by simp)⟩
    refine Rets.mono (plSpare h) ?_
    clear h
    rintro _ w ⟨rfl, h⟩
    refine ⟨_, rfl, h, fun _ => ⟨_, fun w h => Own.ld (g := g1) h (by repeat (first | with_reducible exact Pick.here | apply Pick.there)) rfl, ?_⟩, fun hc => absurd hc (by simp)⟩
    refine Rets.mono (plRoom_int h) ?_
    clear h
    rintro _ w ⟨rfl, h⟩
    refine ⟨_, rfl, h, fun hc => absurd hc (by simp), fun _ => ⟨z - 1, by omega, i + 1, md', qs', os ++ [qb], q3, c3', ?_, by omega, by omega, by omega, by omega, h⟩⟩
    rw [ei]
end
end Go.Proofs.Ytmenjjofmafacaa.Eng
