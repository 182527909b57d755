/- Calls: their own numbers, and what of them counts. -/
import Derived.Test.YtppmdifhoejhjaaEngA
import Derived.Test.YtppmdifhoejhjaaEngW
import Derived.Test.YtppmdifhoejhjaaProG
import Derived.Test.YtppmdifhoejhjaaIntP
namespace Go.Proofs.Ytppmdifhoejhjaa.Eng
open Go Go.RowKit Go.Proofs
set_option linter.unusedVariables false
set_option linter.unusedSimpArgs false
set_option maxRecDepth 1000000
/-- The places of a call's own numbers. -/
def pls (k : Int) : List Nat := if k = 1 ∨ k = 3 then [1] else if k = 2 then [1, 2, 3, 4] else if k = 7 then [3] else []
theorem pls_len (k : Int) : (pls k).length ≤ 4 := by unfold pls; repeat' split
                                                     all_goals simp
theorem pls_lt {k : Int} {p : Nat} (h : p ∈ pls k) : p < 5 := by
  unfold pls at h
  repeat' split at h
  all_goals simp at h
  all_goals omega
def valsL (k : Int) (src : List Int) : List Int := (pls k).map fun p => src.getD p 0
def outsL (k : Int) (src : List Int) (i : Nat) : List Int := ((pls k).take i).foldl (fun l p => l.set p (src.getD p 0)) [k, 0, 0, 0, 0]
theorem foldl_set_len (src : List Int) : ∀ (ps : List Nat) (l : List Int), (ps.foldl (fun l p => l.set p (src.getD p 0)) l).length = l.length
  | [], l => rfl
  | p :: r, l => by rw [List.foldl_cons, foldl_set_len src r, List.length_set]
theorem outsL_len (k : Int) (src : List Int) (i : Nat) : (outsL k src i).length = 5 := foldl_set_len src _ _
theorem outsL_succ {k : Int} {src : List Int} {i : Nat} (h : i < (pls k).length) : outsL k src (i + 1) = (outsL k src i).set (pls k)[i] (src.getD (pls k)[i] 0) := by
  unfold outsL
  rw [List.take_succ_eq_append_getElem h, List.foldl_append]; rfl
def knownB (k : Int) : Bool := decide (0 ≤ k ∧ k ≤ 7)
/-- What of a call counts. -/
def bareL (src : List Int) : List Int := if knownB (src.getD 0 0) = true then outsL (src.getD 0 0) src (pls (src.getD 0 0)).length else [0, 0, 0, 0, 0]
theorem bareL_len (src : List Int) : (bareL src).length = 5 := by unfold bareL; split; exact outsL_len _ _ _; rfl
theorem five {α : Type} {l : List α} (h : l.length = 5) : ∃ a b c d e, l = [a, b, c, d, e] := by
  match l, h with
  | [a, b, c, d, e], _ => exact ⟨a, b, c, d, e, rfl⟩
section
variable {e w : World} {F : List HP} {g : Nat} {k : Int}
theorem prKnown (h : Own e w F) : Rets Try.prog 54 #[.int .i64 k] w fun v w' => v = .bool (knownB k) ∧ Own e w' F := by
  refine prog_known_go _ ?_
  unfold knownB
  refine ⟨fun hx => ?_, fun hx => ?_⟩
  all_goals first
    | (have hx := dec_t hx; refine ⟨?_, h⟩; congr 1; exact decide_eq_decide.2 ⟨fun _ => ⟨by omega, by omega⟩, fun _ => by omega⟩)
    | (have hx := dec_f hx; refine ⟨?_, h⟩; rw [decide_eq_false (by omega)])
theorem prOwn (h : Own e w F) : Rets Try.prog 50 #[.pointer (some ⟨g, 0, none⟩)] w fun v w' => ∃ b, v = .func (.func 58) #[] #[.pointer (some ⟨b, 0, none⟩)] ∧ Own e w' (blk b 72 [.pointer (some ⟨g, 0, none⟩)] :: F) :=
  prog_own_go _ (h.newR fun b w h => ⟨b, rfl, h⟩)
theorem ow1 {lp b : Nat} {Fr : Nat → List HP} (hb : ∀ w, Own e w (Fr 0) → cellAt w ⟨b, 0, none⟩ (.pointer (some ⟨g, 0, none⟩))) (hk : ∀ w, Own e w (Fr 0) → cellAt w ((⟨g, 0, none⟩ : Addr).add 0) (.int .i64 k))
    (hround : ∀ (R : HP) i w (hi : i < (pls k).length), Own e w (R :: Fr i) → RoundR Try.prog lp #[.pointer (some ((⟨g, 0, none⟩ : Addr).add (pls k)[i]))] w fun v w' => v = .bool true ∧ Own e w' (R :: Fr (i + 1)))
    (h : Own e w (Fr 0)) : Rets Try.prog 58 #[.func (.yield lp) #[] #[], .pointer (some ⟨b, 0, none⟩)] w fun v w' => Own e w' (Fr (pls k).length) := by
  refine prog_own_1_go _ _ ?_
  let pv : List Value := (pls k).map fun p => Value.pointer (some ((⟨g, 0, none⟩ : Addr).add p))
  have mk : ∀ (a : Nat) (vs : List Value) (n : Nat) w, vs = pv → n = (pls k).length → Own e w (blk a 73 vs :: Fr 0) → Own e w (slO 73 1 (some ⟨a, 0, none⟩) n n pv :: Fr 0) := by
    rintro a vs n w rfl rfl h
    have := pls_len k
    exact Own.slMk (rest := []) (by simp [pv]) (Nat.le_refl _) (by unfold maxLen; omega) (by simp [pv]) (by rw [List.append_nil]; exact h)
  refine ⟨_, hb w h, _, hk w h, fun vs w => ∃ q c, vs = [.slice q (pls k).length c] ∧ Own e w (slO 73 1 q (pls k).length c pv :: Fr 0), ⟨fun h1 => ?_, fun h1 => ⟨fun h3 => ?_, fun h3 => ⟨fun h2 => ?_, fun h2 => ⟨fun h7 => ?_, fun h7 => ?_⟩⟩⟩⟩, ?_⟩
  · have h1 := beq_t h1
    have e1 : pls k = [1] := by unfold pls; rw [if_pos (.inl h1)]
    refine ⟨_, hb w h, smR (h.newR fun a w h => ⟨some ⟨a, 0, none⟩, 1, by rw [e1]; rfl, ?_⟩)⟩
    have := mk a _ 1 w (by simp only [pv, e1]; rfl) (by rw [e1]; rfl) h
    have el : (pls k).length = 1 := by rw [e1]; rfl
    rw [el]; exact this
  · have h3 := beq_t h3
    have e1 : pls k = [1] := by unfold pls; rw [if_pos (.inr h3)]
    refine ⟨_, hb w h, smR (h.newR fun a w h => ⟨some ⟨a, 0, none⟩, 1, by rw [e1]; rfl, ?_⟩)⟩
    have := mk a _ 1 w (by simp only [pv, e1]; rfl) (by rw [e1]; rfl) h
    have el : (pls k).length = 1 := by rw [e1]; rfl
    rw [el]; exact this
  · have h1 := beq_f h1
    have h3 := beq_f h3
    have h2 := beq_t h2
    have e1 : pls k = [1, 2, 3, 4] := by unfold pls; rw [if_neg (by omega), if_pos h2]
    refine h.drw fun w h => ⟨_, hb w h, smR ⟨_, hb w h, smR ⟨_, hb w h, smR ⟨_, hb w h, smR (h.newR fun a w h => ⟨some ⟨a, 0, none⟩, 4, by rw [e1]; rfl, ?_⟩)⟩⟩⟩⟩
    have := mk a _ 4 w (by simp only [pv, e1]; rfl) (by rw [e1]; rfl) h
    have el : (pls k).length = 4 := by rw [e1]; rfl
    rw [el]; exact this
  · have h1 := beq_f h1
    have h3 := beq_f h3
    have h2 := beq_f h2
    have h7 := beq_t h7
    have e1 : pls k = [3] := by unfold pls; rw [if_neg (by omega), if_neg h2, if_pos h7]
    refine ⟨_, hb w h, smR (h.newR fun a w h => ⟨some ⟨a, 0, none⟩, 1, by rw [e1]; rfl, ?_⟩)⟩
    have := mk a _ 1 w (by simp only [pv, e1]; rfl) (by rw [e1]; rfl) h
    have el : (pls k).length = 1 := by rw [e1]; rfl
    rw [el]; exact this
  · have h1 := beq_f h1
    have h3 := beq_f h3
    have h2 := beq_f h2
    have h7 := beq_f h7
    have e1 : pls k = [] := by unfold pls; rw [if_neg (by omega), if_neg h2, if_neg h7]
    refine ⟨none, 0, by rw [e1]; rfl, ?_⟩
    have e2 : pv = [] := by simp only [pv, e1]; rfl
    rw [e2, e1]; exact h.slNil
  rintro w q9 k1 k2
  intros
  rename_i hI
  obtain ⟨q, c, hvs, h⟩ := hI
  obtain ⟨rfl, rfl, rfl⟩ : q9 = q ∧ k1 = (pls k).length ∧ k2 = c := by simpa using hvs
  refine ⟨fun m vs w => ∃ i : Nat, vs = [.int .i64 (i : Int)] ∧ m + i = (pls k).length ∧ Own e w (slO 73 1 q9 (pls k).length k2 pv :: Fr i), ⟨(pls k).length, 0, rfl, by omega, h⟩, ?_⟩
  rintro m w v29 n2
  intros
  rename_i hI
  obtain ⟨i, hvs, hm, h⟩ := hI
  obtain rfl : n2 = (i : Int) := by simpa using hvs
  have hl4 := pls_len k
  refine ⟨fun hx => ?_, fun hx => ?_⟩
  · have hx := dec_t hx
    have hi : i < (pls k).length := by omega
    refine ⟨by omega, by omega, RdC.mp h.slRd hi fun a ha => ⟨_, by rw [Int.toNat_natCast]; exact ha, ?_⟩⟩
    refine RoundR.mono (hround _ i w hi h) ?_
    rintro _ w ⟨rfl, h⟩
    exact ⟨_, rfl, fun hc => (by cases hc), fun _ => ⟨m - 1, by omega, i + 1, by rw [wI64 (by omega) (by omega)]; rfl, by omega, h⟩⟩
  · have hx := dec_f hx
    obtain rfl : i = (pls k).length := by omega
    exact h.drop
/-- What is gathered; what is left of it. -/
def lAcc (g : Nat) (xs : List Int) : HP := exH fun q => exH fun c => allH [blk g 25 [.slice q xs.length c], inB q xs.length c xs]
def lLeft (g : Nat) (xs : List Int) : HP := exH fun q => exH fun c => puH (xs.length ≤ c) (allH [blk g 25 [.slice q xs.length c], roO 3 q c (cs .i64 xs)])
theorem lAcc.op {xs : List Int} (h : Own e w (lAcc g xs :: F)) : ∃ q c, Own e w (blk g 25 [.slice q xs.length c] :: inB q xs.length c xs :: F) := by
  obtain ⟨q, h⟩ := h.ex
  obtain ⟨c, h⟩ := h.ex
  exact ⟨q, c, h.open_⟩
theorem lAcc.cl {q : Option Addr} {c : Nat} {xs : List Int} (h : Own e w (blk g 25 [.slice q xs.length c] :: inB q xs.length c xs :: F)) : Own e w (lAcc g xs :: F) := by
  have h : Own e w ([blk g 25 [.slice q xs.length c], inB q xs.length c xs] ++ F) := h
  exact Own.mkEx q (Own.mkEx c h.close_)
theorem lLeft.op {xs : List Int} (h : Own e w (lLeft g xs :: F)) : ∃ q c, xs.length ≤ c ∧ Own e w (blk g 25 [.slice q xs.length c] :: roO 3 q c (cs .i64 xs) :: F) := by
  obtain ⟨q, h⟩ := h.ex
  obtain ⟨c, h⟩ := h.ex
  obtain ⟨hc, h⟩ := h.pu
  exact ⟨q, c, hc, h.open_⟩
theorem lLeft.cl {q : Option Addr} {c : Nat} {xs : List Int} (hc : xs.length ≤ c) (h : Own e w (blk g 25 [.slice q xs.length c] :: roO 3 q c (cs .i64 xs) :: F)) : Own e w (lLeft g xs :: F) := by
  have h : Own e w ([blk g 25 [.slice q xs.length c], roO 3 q c (cs .i64 xs)] ++ F) := h
  exact Own.mkEx q (Own.mkEx c (Own.mkPu hc h.close_))
theorem lAcc.left {xs : List Int} (h : Own e w (lAcc g xs :: F)) : Own e w (lLeft g xs :: F) := by
  obtain ⟨q, c, h⟩ := lAcc.op h
  have hf := (h.swap).slFacts
  have h := h.swap.toRo
  exact lLeft.cl (q := q) (c := c) (by omega) h.swap
abbrev opV (l : List Int) : List Value := cs .i64 l
theorem valsL_take {k : Int} {src : List Int} {i : Nat} (h : i < (pls k).length) : (valsL k src).take (i + 1) = (valsL k src).take i ++ [src.getD (pls k)[i] 0] := by
  rw [List.take_succ_eq_append_getElem (by simp [valsL]; exact h)]
  simp [valsL]
theorem valsL_drop {k : Int} {src : List Int} {i : Nat} (h : i < (pls k).length) : (valsL k src).drop i = src.getD (pls k)[i] 0 :: (valsL k src).drop (i + 1) := by
  rw [List.drop_eq_getElem_cons (by simp [valsL]; exact h)]
  simp [valsL]
theorem prBare {k0 k1 k2 k3 k4 : Int} (h : Own e w F) : Rets Try.prog 55 #[.agg #[.int .i64 k0, .int .i64 k1, .int .i64 k2, .int .i64 k3, .int .i64 k4]] w fun v w' => v = .agg (opV (bareL [k0, k1, k2, k3, k4])).toArray ∧ Own e w' F := by
  refine prog_Bare_go _ _ _ _ _ ?_
  refine h.newR fun g1 w h => h.newR fun g2 w h => ⟨_, (Own.ld h (by repeat (first | with_reducible exact Pick.here | apply Pick.there)) (by rfl)), ?_⟩
  refine Rets.mono (prKnown h) ?_
  rintro _ w ⟨rfl, h⟩
  refine ⟨_, rfl, fun hx => ?_, fun hx => ?_⟩
  · have hx : knownB k0 = false := by simpa using hx
    refine Own.stP' h (by repeat (first | with_reducible exact Pick.here | apply Pick.there)) (by simp) (by simp [Value.oneCell']) fun w h => ?_
    simp only [setFrom, List.set_cons_zero, List.set_cons_succ, List.set_nil] at h
    refine ⟨_, _, _, _, _, ⟨(Own.ld h (by repeat (first | with_reducible exact Pick.here | apply Pick.there)) (by rfl)), (Own.ld h (by repeat (first | with_reducible exact Pick.here | apply Pick.there)) (by rfl)), (Own.ld h (by repeat (first | with_reducible exact Pick.here | apply Pick.there)) (by rfl)), (Own.ld h (by repeat (first | with_reducible exact Pick.here | apply Pick.there)) (by rfl)), (Own.ld h (by repeat (first | with_reducible exact Pick.here | apply Pick.there)) (by rfl))⟩, ?_, (Own.sub (h) (by repeat (first | exact Sub.nil _ | exact Sub.rfl _ | (apply Sub.cons; focus ((repeat (first | with_reducible exact Pick.here | apply Pick.there)); done)) | apply Sub.drop)))⟩
    have : bareL [k0, k1, k2, k3, k4] = [0, 0, 0, 0, 0] := by unfold bareL; rw [if_neg (by show ¬ knownB k0 = true; rw [hx]; simp)]
    rw [this]; rfl
  have hx : knownB k0 = true := by simpa using hx
  refine ⟨_, (Own.ld h (by repeat (first | with_reducible exact Pick.here | apply Pick.there)) (by rfl)), h.newR fun g3 w h => Own.stP' h (by repeat (first | with_reducible exact Pick.here | apply Pick.there)) (by simp) (by simp [Value.oneCell']) fun w h => ?_⟩
  simp only [setFrom, List.set_cons_zero, List.set_cons_succ, List.set_nil] at h
  refine h.newR fun g4 w h => ?_
  obtain ⟨src, hsrc⟩ : ∃ src, src = [k0, k1, k2, k3, k4] := ⟨_, rfl⟩
  have hsl : src.length = 5 := by rw [hsrc]; rfl
  have h : Own e w (blk g4 25 [.slice none 0 0] :: blk g3 50 (opV (outsL k0 src 0)) :: blk g1 50 (opV src) :: blk g2 50 (opV [0, 0, 0, 0, 0]) :: F) := by
    rw [hsrc]
    have h : Own e w (blk g4 25 [.slice none 0 0] :: blk g3 50 [.int .i64 k0, .int .i64 0, .int .i64 0, .int .i64 0, .int .i64 0] :: blk g1 50 [.int .i64 k0, .int .i64 k1, .int .i64 k2, .int .i64 k3, .int .i64 k4] :: blk g2 50 [.int .i64 0, .int .i64 0, .int .i64 0, .int .i64 0, .int .i64 0] :: F) := (Own.sub (h) (by repeat (first | exact Sub.nil _ | exact Sub.rfl _ | (apply Sub.cons; focus ((repeat (first | with_reducible exact Pick.here | apply Pick.there)); done)) | apply Sub.drop)))
    exact h
  have h := Own.slNil (T := 3) (s := 1) h
  have h : Own e w (lAcc g4 [] :: blk g3 50 (opV (outsL k0 src 0)) :: blk g1 50 (opV src) :: blk g2 50 (opV [0, 0, 0, 0, 0]) :: F) := lAcc.cl (q := none) (c := 0) h.swap
  refine Rets.mono (prOwn (g := g1) h) ?_
  rintro _ w ⟨b1, rfl, h⟩
  refine ⟨_, _, _, rfl, _, rfl, h.loopR fun mk1 lp1 L1 w h hround1 => ?_⟩
  have hs0 : (opV src)[0]? = some (.int .i64 k0) := by rw [hsrc]; rfl
  have ho0 : (opV (outsL k0 src 0))[0]? = some (.int .i64 k0) := rfl
  have h4 := pls_len k0
  let Fr1 : Nat → List HP := fun i => lAcc g4 ((valsL k0 src).take i) :: pt lp1 (LoopObj L1 .ready none) :: blk b1 72 [.pointer (some ⟨g1, 0, none⟩)] :: blk g1 50 (opV src) :: pt mk1 (.deferred (some [])) :: blk g3 50 (opV (outsL k0 src 0)) :: blk g2 50 (opV [0, 0, 0, 0, 0]) :: F
  refine Rets.mono (ow1 (e := e) (g := g1) (k := k0) (lp := lp1) (b := b1) (Fr := Fr1) (fun w h => (Own.ld' h (by repeat (first | with_reducible exact Pick.here | apply Pick.there)) (by rfl))) (fun w h => Own.ld h (by repeat (first | with_reducible exact Pick.here | apply Pick.there)) hs0) (fun R i w hi h => ?_) (show Own e w (lAcc g4 [] :: pt lp1 (LoopObj L1 .ready none) :: blk b1 72 [.pointer (some ⟨g1, 0, none⟩)] :: blk g1 50 (opV src) :: pt mk1 (.deferred (some [])) :: blk g3 50 (opV (outsL k0 src 0)) :: blk g2 50 (opV [0, 0, 0, 0, 0]) :: F) from (Own.sub (h) (by repeat (first | exact Sub.nil _ | exact Sub.rfl _ | (apply Sub.cons; focus ((repeat (first | with_reducible exact Pick.here | apply Pick.there)); done)) | apply Sub.drop))))) ?_
  · refine hround1 _ w _ (Own.recR (l := lp1) (L := L1) (Own.pk h (by repeat (first | with_reducible exact Pick.here | apply Pick.there)))) ?_
    refine Own.begR (l := lp1) (L := L1) (Own.pk h (by repeat (first | with_reducible exact Pick.here | apply Pick.there))) fun w h => ?_
    have hp5 : (pls k0)[i] < src.length := by rw [hsl]; exact pls_lt (List.getElem_mem hi)
    have hpv : (opV src)[(pls k0)[i]]? = some (.int .i64 (src.getD (pls k0)[i] 0)) := by
      simp only [opV, cs, List.getElem?_map, List.getElem?_eq_getElem hp5, List.getD_eq_getElem?_getD, Option.map_some, Option.getD_some]
    have h : Own e w (lAcc g4 ((valsL k0 src).take i) :: pt lp1 (LoopObj L1 .busy none) :: R :: blk b1 72 [.pointer (some ⟨g1, 0, none⟩)] :: blk g1 50 (opV src) :: pt mk1 (.deferred (some [])) :: blk g3 50 (opV (outsL k0 src 0)) :: blk g2 50 (opV [0, 0, 0, 0, 0]) :: F) := (Own.sub (h) (by repeat (first | exact Sub.nil _ | exact Sub.rfl _ | (apply Sub.cons; focus ((repeat (first | with_reducible exact Pick.here | apply Pick.there)); done)) | apply Sub.drop)))
    obtain ⟨q, c, h⟩ := lAcc.op h
    have hti : ((valsL k0 src).take i).length = i := by simp [valsL]; omega
    refine h.drw fun w h => ⟨fun w => Own e w _, h, smR ⟨_, _, _, fun w h => (Own.ld' h (by repeat (first | with_reducible exact Pick.here | apply Pick.there)) (by rfl)), _, fun w h => Own.ld h (by repeat (first | with_reducible exact Pick.here | apply Pick.there)) hpv, h.newR fun g5 w h => ⟨h.drop, ?_⟩⟩⟩
    have h : Own e w (blk g5 3 [.int .i64 (src.getD (pls k0)[i] 0)] :: inB q ((valsL k0 src).take i).length c ((valsL k0 src).take i) :: _) := (Own.pk2 h (by repeat (first | with_reducible exact Pick.here | apply Pick.there)) (by repeat (first | with_reducible exact Pick.here | apply Pick.there)))
    have h : Own e w (blk g5 3 (cs .i64 [src.getD (pls k0)[i] 0]) :: inB q ((valsL k0 src).take i).length c ((valsL k0 src).take i) :: _) := h
    refine put64 (ys := [src.getD (pls k0)[i] 0]) h rfl (by omega) fun q' c' w h => ⟨_, _, _, rfl, Own.stP' h (by repeat (first | with_reducible exact Pick.here | apply Pick.there)) (by simp) (by simp [Value.oneCell']) fun w h => ?_⟩
    simp only [setFrom, List.set_cons_zero, List.set_cons_succ, List.set_nil] at h
    refine Own.finT (l := lp1) (L := L1) (Own.pk h (by repeat (first | with_reducible exact Pick.here | apply Pick.there))) fun w h => ⟨rfl, ?_⟩
    rw [← valsL_take hi] at h
    have hl2 : ((valsL k0 src).take i).length + 1 = ((valsL k0 src).take (i + 1)).length := by rw [hti]; simp [valsL]; omega
    rw [hl2] at h
    have h : Own e w (blk g4 25 _ :: inB q' ((valsL k0 src).take (i + 1)).length c' ((valsL k0 src).take (i + 1)) :: R :: pt lp1 (LoopObj L1 .ready none) :: blk b1 72 [.pointer (some ⟨g1, 0, none⟩)] :: blk g1 50 (opV src) :: pt mk1 (.deferred (some [])) :: blk g3 50 (opV (outsL k0 src 0)) :: blk g2 50 (opV [0, 0, 0, 0, 0]) :: F) := (Own.sub (h) (by repeat (first | exact Sub.nil _ | exact Sub.rfl _ | (apply Sub.cons; focus ((repeat (first | with_reducible exact Pick.here | apply Pick.there)); done)) | apply Sub.drop)))
    exact (lAcc.cl h).swap
  rintro _ w h
  have h : Own e w (lAcc g4 ((valsL k0 src).take (pls k0).length) :: pt lp1 (LoopObj L1 .ready none) :: blk b1 72 [.pointer (some ⟨g1, 0, none⟩)] :: blk g1 50 (opV src) :: pt mk1 (.deferred (some [])) :: blk g3 50 (opV (outsL k0 src 0)) :: blk g2 50 (opV [0, 0, 0, 0, 0]) :: F) := h
  have hvl : (valsL k0 src).length = (pls k0).length := by simp [valsL]
  rw [List.take_of_length_le (by omega)] at h
  refine Own.endR (l := lp1) (L := L1) (Own.pk h (by repeat (first | with_reducible exact Pick.here | apply Pick.there))) (by simp) fun w h => ?_
  refine Rets.mono (prOwn (g := g3) h) ?_
  rintro _ w ⟨b2, rfl, h⟩
  refine ⟨_, _, _, rfl, _, rfl, h.loopR fun mk2 lp2 L2 w h hround2 => ?_⟩
  have h : Own e w (lAcc g4 (valsL k0 src) :: _) := (Own.pk h (by repeat (first | with_reducible exact Pick.here | apply Pick.there)))
  have h := lAcc.left h
  let Fr2 : Nat → List HP := fun i => lLeft g4 ((valsL k0 src).drop i) :: pt lp2 (LoopObj L2 .ready none) :: blk b2 72 [.pointer (some ⟨g3, 0, none⟩)] :: blk g3 50 (opV (outsL k0 src i)) :: pt mk2 (.deferred (some [])) :: pt mk1 (.deferred (some [])) :: blk g2 50 (opV [0, 0, 0, 0, 0]) :: F
  refine Rets.mono (ow1 (e := e) (g := g3) (k := k0) (lp := lp2) (b := b2) (Fr := Fr2) (fun w h => (Own.ld' h (by repeat (first | with_reducible exact Pick.here | apply Pick.there)) (by rfl))) (fun w h => Own.ld h (by repeat (first | with_reducible exact Pick.here | apply Pick.there)) ho0) (fun R i w hi h => ?_) (show Own e w (lLeft g4 (valsL k0 src) :: pt lp2 (LoopObj L2 .ready none) :: blk b2 72 [.pointer (some ⟨g3, 0, none⟩)] :: blk g3 50 (opV (outsL k0 src 0)) :: pt mk2 (.deferred (some [])) :: pt mk1 (.deferred (some [])) :: blk g2 50 (opV [0, 0, 0, 0, 0]) :: F) from (Own.sub (h) (by repeat (first | exact Sub.nil _ | exact Sub.rfl _ | (apply Sub.cons; focus ((repeat (first | with_reducible exact Pick.here | apply Pick.there)); done)) | apply Sub.drop))))) ?_
  · refine hround2 _ w _ (Own.recR (l := lp2) (L := L2) (Own.pk h (by repeat (first | with_reducible exact Pick.here | apply Pick.there)))) ?_
    refine Own.begR (l := lp2) (L := L2) (Own.pk h (by repeat (first | with_reducible exact Pick.here | apply Pick.there))) fun w h => ?_
    have hp := pls_lt (List.getElem_mem hi)
    have ed := valsL_drop (src := src) hi
    obtain ⟨v0, hv0⟩ : ∃ v0, v0 = src.getD (pls k0)[i] 0 := ⟨_, rfl⟩
    obtain ⟨rs, hrs⟩ : ∃ rs, rs = (valsL k0 src).drop (i + 1) := ⟨_, rfl⟩
    have eo := outsL_succ (src := src) hi
    rw [← hv0, ← hrs] at ed
    rw [← hv0] at eo
    have h : Own e w (lLeft g4 ((valsL k0 src).drop i) :: pt lp2 (LoopObj L2 .busy none) :: R :: blk b2 72 [.pointer (some ⟨g3, 0, none⟩)] :: blk g3 50 (opV (outsL k0 src i)) :: pt mk2 (.deferred (some [])) :: pt mk1 (.deferred (some [])) :: blk g2 50 (opV [0, 0, 0, 0, 0]) :: F) := (Own.sub (h) (by repeat (first | exact Sub.nil _ | exact Sub.rfl _ | (apply Sub.cons; focus ((repeat (first | with_reducible exact Pick.here | apply Pick.there)); done)) | apply Sub.drop)))
    rw [ed] at h
    obtain ⟨q, c, hc, h⟩ := lLeft.op h
    obtain ⟨ad, rfl, _⟩ := (Own.roRd (E := 3) (c := c) h.swap).addr (j := 0) (u := .int .i64 v0) rfl
    obtain ⟨n0, hn0⟩ : ∃ n0, n0 = (v0 :: rs).length := ⟨_, rfl⟩
    have hn1 : 1 ≤ n0 := by rw [hn0]; simp
    rw [← hn0] at h hc
    let S : World → Prop := fun w => ∃ vs, Own e w (blk g4 25 [.slice (some ad) n0 c] :: roO 3 (some ad) c (cs .i64 (v0 :: rs)) :: pt lp2 (LoopObj L2 .busy none) :: R :: blk b2 72 [.pointer (some ⟨g3, 0, none⟩)] :: blk g3 50 vs :: pt mk2 (.deferred (some [])) :: pt mk1 (.deferred (some [])) :: blk g2 50 (opV [0, 0, 0, 0, 0]) :: F)
    have rl : ∀ w, S w → World.cell? w ⟨g4, 0, none⟩ = some (.slice (some ad) n0 c) := fun w ⟨_, h⟩ => Own.ld' h (by repeat (first | with_reducible exact Pick.here | apply Pick.there)) (by rfl)
    have rv : ∀ w, S w → World.cell? w (ad.add 0) = some (.int .i64 v0) := fun w ⟨_, h⟩ => by
      obtain ⟨a, ha, hcell⟩ := (Own.roRd (E := 3) (c := c) h.swap).addr (j := 0) (u := .int .i64 v0) rfl
      obtain rfl : ad = a := by injection ha
      exact hcell 0 _ rfl
    refine h.drw fun w h => ⟨S, ⟨_, h⟩, _, _, _, rl, by omega, by omega, smR ⟨_, rv, smR ⟨_, _, _, rl, by omega, by omega, ?_⟩⟩⟩
    refine Own.stP h (by repeat (first | with_reducible exact Pick.here | apply Pick.there)) (by rw [cs_len, outsL_len]; simp; omega) (by simp [Value.oneCell']) fun w h => ⟨⟨setFrom (opV (outsL k0 src i)) (pls k0)[i] [.int .i64 v0], (Own.sub (h) (by repeat (first | exact Sub.nil _ | exact Sub.rfl _ | (apply Sub.cons; focus ((repeat (first | with_reducible exact Pick.here | apply Pick.there)); done)) | apply Sub.drop)))⟩, ?_⟩
    have es : setFrom (opV (outsL k0 src i)) (pls k0)[i] [.int .i64 v0] = opV (outsL k0 src (i + 1)) := by
      rw [eo]
      show (opV (outsL k0 src i)).set _ _ = _
      simp only [opV, cs, List.map_set]
    rw [es] at h
    refine Own.stP' h (by repeat (first | with_reducible exact Pick.here | apply Pick.there)) (by simp) (by simp [Value.oneCell']) fun w h => ?_
    simp only [setFrom, List.set_cons_zero, List.set_cons_succ, List.set_nil] at h
    refine Own.finT (l := lp2) (L := L2) (Own.pk h (by repeat (first | with_reducible exact Pick.here | apply Pick.there))) fun w h => ⟨rfl, ?_⟩
    have h : Own e w (roO 3 (some ad) c (cs .i64 (v0 :: rs)) :: _) := (Own.pk h (by repeat (first | with_reducible exact Pick.here | apply Pick.there)))
    have h := Own.roDrop (k := 1) (by rw [cs_len]; simp) h
    rw [← cs_drop] at h
    have h : Own e w (roO 3 (slcA (some ad) 1 c 1) (c - 1) (cs .i64 rs) :: _) := h
    have h : Own e w (blk g4 25 [.slice (slcA (some ad) 1 c 1) (n0 - 1) (c - 1)] :: roO 3 (slcA (some ad) 1 c 1) (c - 1) (cs .i64 rs) :: _) := (Own.pk2 h (by repeat (first | with_reducible exact Pick.here | apply Pick.there)) (by repeat (first | with_reducible exact Pick.here | apply Pick.there)))
    have en : n0 - 1 = rs.length := by rw [hn0]; simp
    rw [en] at h
    have h := lLeft.cl (by rw [← en]; omega) h
    rw [hrs] at h
    have h : Own e w (R :: lLeft g4 ((valsL k0 src).drop (i + 1)) :: pt lp2 (LoopObj L2 .ready none) :: blk b2 72 [.pointer (some ⟨g3, 0, none⟩)] :: blk g3 50 (opV (outsL k0 src (i + 1))) :: pt mk2 (.deferred (some [])) :: pt mk1 (.deferred (some [])) :: blk g2 50 (opV [0, 0, 0, 0, 0]) :: F) := (Own.sub (h) (by repeat (first | exact Sub.nil _ | exact Sub.rfl _ | (apply Sub.cons; focus ((repeat (first | with_reducible exact Pick.here | apply Pick.there)); done)) | apply Sub.drop)))
    exact h
  rintro _ w h
  have h : Own e w (lLeft g4 ((valsL k0 src).drop (pls k0).length) :: pt lp2 (LoopObj L2 .ready none) :: blk b2 72 [.pointer (some ⟨g3, 0, none⟩)] :: blk g3 50 (opV (outsL k0 src (pls k0).length)) :: pt mk2 (.deferred (some [])) :: pt mk1 (.deferred (some [])) :: blk g2 50 (opV [0, 0, 0, 0, 0]) :: F) := h
  have eb : bareL [k0, k1, k2, k3, k4] = outsL k0 src (pls k0).length := by
    unfold bareL
    rw [← hsrc]
    have : src.getD 0 0 = k0 := by rw [hsrc]; rfl
    rw [this, if_pos hx]
  rw [eb]
  obtain ⟨z0, z1, z2, z3, z4, hz⟩ := five (outsL_len k0 src (pls k0).length)
  rw [hz] at h ⊢
  have h : Own e w (pt lp2 (LoopObj L2 .ready none) :: blk g3 50 [.int .i64 z0, .int .i64 z1, .int .i64 z2, .int .i64 z3, .int .i64 z4] :: pt mk2 (.deferred (some [])) :: pt mk1 (.deferred (some [])) :: blk g2 50 [.int .i64 0, .int .i64 0, .int .i64 0, .int .i64 0, .int .i64 0] :: F) := by
    have h : Own e w (pt lp2 (LoopObj L2 .ready none) :: blk g3 50 (opV [z0, z1, z2, z3, z4]) :: pt mk2 (.deferred (some [])) :: pt mk1 (.deferred (some [])) :: blk g2 50 (opV [0, 0, 0, 0, 0]) :: F) := (Own.sub (h) (by repeat (first | exact Sub.nil _ | exact Sub.rfl _ | (apply Sub.cons; focus ((repeat (first | with_reducible exact Pick.here | apply Pick.there)); done)) | apply Sub.drop)))
    exact h
  refine Own.endR (l := lp2) (L := L2) h (by simp) fun w h => ?_
  refine ⟨_, _, _, _, _, ⟨(Own.ld h (by repeat (first | with_reducible exact Pick.here | apply Pick.there)) (by rfl)), (Own.ld h (by repeat (first | with_reducible exact Pick.here | apply Pick.there)) (by rfl)), (Own.ld h (by repeat (first | with_reducible exact Pick.here | apply Pick.there)) (by rfl)), (Own.ld h (by repeat (first | with_reducible exact Pick.here | apply Pick.there)) (by rfl)), (Own.ld h (by repeat (first | with_reducible exact Pick.here | apply Pick.there)) (by rfl))⟩, Own.stP' h (by repeat (first | with_reducible exact Pick.here | apply Pick.there)) (by simp) (by simp [Value.oneCell']) fun w h => ?_⟩
  simp only [setFrom, List.set_cons_zero, List.set_cons_succ, List.set_nil] at h
  refine Own.markR (g := mk2) (Own.pk h (by repeat (first | with_reducible exact Pick.here | apply Pick.there))) fun w h => Own.markR (g := mk1) (Own.pk h (by repeat (first | with_reducible exact Pick.here | apply Pick.there))) fun w h => ?_
  exact ⟨_, _, _, _, _, ⟨(Own.ld h (by repeat (first | with_reducible exact Pick.here | apply Pick.there)) (by rfl)), (Own.ld h (by repeat (first | with_reducible exact Pick.here | apply Pick.there)) (by rfl)), (Own.ld h (by repeat (first | with_reducible exact Pick.here | apply Pick.there)) (by rfl)), (Own.ld h (by repeat (first | with_reducible exact Pick.here | apply Pick.there)) (by rfl)), (Own.ld h (by repeat (first | with_reducible exact Pick.here | apply Pick.there)) (by rfl))⟩, rfl, (Own.sub (h) (by repeat (first | exact Sub.nil _ | exact Sub.rfl _ | (apply Sub.cons; focus ((repeat (first | with_reducible exact Pick.here | apply Pick.there)); done)) | apply Sub.drop)))⟩
end
end Go.Proofs.Ytppmdifhoejhjaa.Eng
