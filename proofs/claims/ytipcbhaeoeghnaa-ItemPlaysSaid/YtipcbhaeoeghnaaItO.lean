/- ItemOrder. -/
import Derived.Test.YtipcbhaeoeghnaaItP
import Derived.Test.YtipcbhaeoeghnaaItemOG
namespace Go.Proofs.Ytipcbhaeoeghnaa.Eng
open Go Go.RowKit Go.Proofs
set_option linter.unusedVariables false
set_option linter.unusedSimpArgs false
set_option maxRecDepth 1000000
set_option maxHeartbeats 2000000
section
variable {e w : World} {F : List HP} {x : Int}
theorem qn0 {f : FuncId} (h : Own e w F) (hf : ∀ K : Value → World → Prop, K (.int .i64 0) w → Rets Try.prog f #[.pointer none] w K) : Rets Try.prog f #[.pointer none] w fun v w' => v = .int .i64 0 ∧ Own e w' F := hf _ ⟨rfl, h⟩
theorem qnLen (h : Own e w F) : Rets Try.prog 46 #[.pointer none] w fun v w' => v = .int .i64 0 ∧ Own e w' F := iqn_int_Len_go ⟨fun _ => ⟨rfl, h⟩, fun hc => (by cases hc)⟩
theorem qnRoom (h : Own e w F) : Rets Try.prog 47 #[.pointer none] w fun v w' => v = .int .i64 0 ∧ Own e w' F := iqn_int_Room_go ⟨fun _ => ⟨rfl, h⟩, fun hc => (by cases hc)⟩
theorem qnSent (h : Own e w F) : Rets Try.prog 49 #[.pointer none] w fun v w' => v = .int .i64 0 ∧ Own e w' F := iqn_int_Sent_go ⟨fun _ => ⟨rfl, h⟩, fun hc => (by cases hc)⟩
theorem qnFull (h : Own e w F) : Rets Try.prog 50 #[.pointer none] w fun v w' => v = .int .i64 0 ∧ Own e w' F := iqn_int_Full_go ⟨fun _ => ⟨rfl, h⟩, fun hc => (by cases hc)⟩
theorem qnCount (h : Own e w F) : Rets Try.prog 51 #[.pointer none, .int .i64 x] w fun v w' => v = .int .i64 0 ∧ Own e w' F := iqn_int_Count_go _ ⟨fun hc => (by cases hc), fun _ => ⟨rfl, h⟩⟩
theorem qnMay (h : Own e w F) : Rets Try.prog 48 #[.pointer none] w fun v w' => v = .bool false ∧ Own e w' F := by
  refine iqn_int_May_go ?_
  refine Rets.mono (qnLen h) ?_
  clear h
  rintro _ w ⟨rfl, h⟩
  refine ⟨_, rfl, ?_⟩
  refine Rets.mono (qnRoom h) ?_
  clear h
  rintro _ w ⟨rfl, h⟩
  exact ⟨_, rfl, rfl, h⟩
theorem qnOffer {k p c v n e' o u d : Int} (h : Own e w F) : Rets Try.prog 45 #[.pointer none, .agg #[.int .i64 k, .int .u64 p, .int .u64 c, .int .i64 v, .int .i64 n, .int .i64 e', .int .i64 o, .int .i64 u, .int .i64 d]] w fun v w' => v = .bool false ∧ Own e w' F :=
  iqn_int_Offer_go _ _ _ _ _ _ _ _ _ (h.newR fun a w h => ⟨fun hc => (by cases hc), fun _ => ⟨rfl, h.drop⟩⟩)
theorem qnTake (h : Own e w F) : Rets Try.prog 43 #[.pointer none] w fun v w' => v = .tuple #[itV (Value.int .i64) (itZ (0 : Int)), .bool false] ∧ Own e w' F := by
  refine iqn_int_Take_go (h.newR fun a w h => ⟨fun _ => Own.stP' (g := a) h (by repeat (first | with_reducible exact Pick.here | apply Pick.there)) (by simp) (by simp [Value.oneCell']) fun w h => ?_, fun hc => (by cases hc)⟩)
  simp only [setFrom, List.set_cons_zero, List.set_cons_succ, List.set_nil] at h
  exact ⟨_, _, _, _, _, _, _, _, _, ⟨Own.ld (g := a) h (by repeat (first | with_reducible exact Pick.here | apply Pick.there)) rfl, Own.ld (g := a) h (by repeat (first | with_reducible exact Pick.here | apply Pick.there)) rfl, Own.ld (g := a) h (by repeat (first | with_reducible exact Pick.here | apply Pick.there)) rfl, Own.ld (g := a) h (by repeat (first | with_reducible exact Pick.here | apply Pick.there)) rfl, Own.ld (g := a) h (by repeat (first | with_reducible exact Pick.here | apply Pick.there)) rfl, Own.ld (g := a) h (by repeat (first | with_reducible exact Pick.here | apply Pick.there)) rfl, Own.ld (g := a) h (by repeat (first | with_reducible exact Pick.here | apply Pick.there)) rfl, Own.ld (g := a) h (by repeat (first | with_reducible exact Pick.here | apply Pick.there)) rfl, Own.ld (g := a) h (by repeat (first | with_reducible exact Pick.here | apply Pick.there)) rfl⟩, rfl, h.drop⟩
theorem itAwake (h : Own e w F) : Rets Try.prog 39 #[] w fun v w' => v = .bool true ∧ Own e w' F := by
  refine cortadolaw28_awake_go ?_
  refine Rets.mono (quNew_int h) ?_
  clear h
  rintro _ w ⟨g, rfl, h⟩
  have h : Own e w (quO_int g [] 1 0 0 :: F) := h
  refine ⟨_, rfl, h.newR fun a w h => Own.stP' (g := a) h (by repeat (first | with_reducible exact Pick.here | apply Pick.there)) (by simp) (by simp [Value.oneCell']) fun w h => ?_⟩
  have hk : kwn 4 := ⟨by omega, by omega⟩
  have h : Own e w (blk a 83 (itC (Value.int .i64) (⟨4, 0, 0, 0, 0, 0, 0, 0, 0⟩ : Itm Int)) :: quO_int g [] 1 0 0 :: F) := h
  refine h.drw fun w h => ⟨fun w => Own e w (blk a 83 (itC (Value.int .i64) (⟨4, 0, 0, 0, 0, 0, 0, 0, 0⟩ : Itm Int)) :: F), (Own.sub (h) (by repeat (first | with_reducible exact Sub.nil _ | with_reducible exact Sub.rfl _ | (apply Sub.cons; focus ((repeat (first | with_reducible exact Pick.here | apply Pick.there)); done)) | apply Sub.drop))), _, _, _, _, _, _, _, _, _, ⟨fun w h => Own.ld (g := a) h (by repeat (first | with_reducible exact Pick.here | apply Pick.there)) rfl, fun w h => Own.ld (g := a) h (by repeat (first | with_reducible exact Pick.here | apply Pick.there)) rfl, fun w h => Own.ld (g := a) h (by repeat (first | with_reducible exact Pick.here | apply Pick.there)) rfl, fun w h => Own.ld (g := a) h (by repeat (first | with_reducible exact Pick.here | apply Pick.there)) rfl, fun w h => Own.ld (g := a) h (by repeat (first | with_reducible exact Pick.here | apply Pick.there)) rfl, fun w h => Own.ld (g := a) h (by repeat (first | with_reducible exact Pick.here | apply Pick.there)) rfl, fun w h => Own.ld (g := a) h (by repeat (first | with_reducible exact Pick.here | apply Pick.there)) rfl, fun w h => Own.ld (g := a) h (by repeat (first | with_reducible exact Pick.here | apply Pick.there)) rfl, fun w h => Own.ld (g := a) h (by repeat (first | with_reducible exact Pick.here | apply Pick.there)) rfl⟩, _, _, _, _, _, _, _, _, _, ⟨fun w h => Own.ld (g := a) h (by repeat (first | with_reducible exact Pick.here | apply Pick.there)) rfl, fun w h => Own.ld (g := a) h (by repeat (first | with_reducible exact Pick.here | apply Pick.there)) rfl, fun w h => Own.ld (g := a) h (by repeat (first | with_reducible exact Pick.here | apply Pick.there)) rfl, fun w h => Own.ld (g := a) h (by repeat (first | with_reducible exact Pick.here | apply Pick.there)) rfl, fun w h => Own.ld (g := a) h (by repeat (first | with_reducible exact Pick.here | apply Pick.there)) rfl, fun w h => Own.ld (g := a) h (by repeat (first | with_reducible exact Pick.here | apply Pick.there)) rfl, fun w h => Own.ld (g := a) h (by repeat (first | with_reducible exact Pick.here | apply Pick.there)) rfl, fun w h => Own.ld (g := a) h (by repeat (first | with_reducible exact Pick.here | apply Pick.there)) rfl, fun w h => Own.ld (g := a) h (by repeat (first | with_reducible exact Pick.here | apply Pick.there)) rfl⟩, ?_⟩
  refine Rets.mono (quOffer_int (x := ⟨4, 0, 0, 0, 0, 0, 0, 0, 0⟩) (by omega) h.swap) ?_
  clear h
  rintro _ w ⟨rfl, h⟩
  have c1 : kwn (⟨4, 0, 0, 0, 0, 0, 0, 0, 0⟩ : Itm Int).k ∧ ([] : List (Itm Int)).length < 1 := ⟨hk, by decide⟩
  rw [if_pos c1, if_pos c1, if_neg (fun q => q.2 c1.2)] at h
  rw [decide_eq_true c1]
  refine ⟨_, rfl, h.drop, ?_⟩
  refine Rets.mono (quOffer_int (x := ⟨4, 0, 0, 0, 0, 0, 0, 0, 0⟩) (by omega) h) ?_
  clear h
  rintro _ w ⟨rfl, h⟩
  have c2 : ¬ ([] ++ [(⟨4, 0, 0, 0, 0, 0, 0, 0, 0⟩ : Itm Int)]).length < 1 := by decide
  rw [if_neg (fun q => c2 q.2), if_neg (fun q => c2 q.2), if_pos ⟨hk, c2⟩] at h
  rw [decide_eq_false (fun q => c2 q.2)]
  refine ⟨_, rfl, ?_⟩
  refine Rets.mono (quTake_int h) ?_
  clear h
  rintro _ w ⟨rfl, h⟩
  have h : Own e w (quO_int g [] 1 (0 + 1) (0 + 1) :: blk a 83 (itC (Value.int .i64) (⟨4, 0, 0, 0, 0, 0, 0, 0, 0⟩ : Itm Int)) :: F) := h
  refine ⟨_, _, _, _, _, _, _, _, _, _, rfl, h.newR fun a2 w h => Own.stP' (g := a2) h (by repeat (first | with_reducible exact Pick.here | apply Pick.there)) (by simp) (by simp [Value.oneCell']) fun w h => ?_⟩
  have h := h.drop
  refine ⟨fun _ => ⟨fun _ => ⟨fun _ => ⟨_, _, _, _, _, _, _, _, _, ⟨Own.ld (g := a) h (by repeat (first | with_reducible exact Pick.here | apply Pick.there)) rfl, Own.ld (g := a) h (by repeat (first | with_reducible exact Pick.here | apply Pick.there)) rfl, Own.ld (g := a) h (by repeat (first | with_reducible exact Pick.here | apply Pick.there)) rfl, Own.ld (g := a) h (by repeat (first | with_reducible exact Pick.here | apply Pick.there)) rfl, Own.ld (g := a) h (by repeat (first | with_reducible exact Pick.here | apply Pick.there)) rfl, Own.ld (g := a) h (by repeat (first | with_reducible exact Pick.here | apply Pick.there)) rfl, Own.ld (g := a) h (by repeat (first | with_reducible exact Pick.here | apply Pick.there)) rfl, Own.ld (g := a) h (by repeat (first | with_reducible exact Pick.here | apply Pick.there)) rfl, Own.ld (g := a) h (by repeat (first | with_reducible exact Pick.here | apply Pick.there)) rfl⟩, ?_⟩, fun hc => absurd hc (by decide)⟩, fun hc => absurd hc (by decide)⟩, fun hc => absurd hc (by decide)⟩
  refine Rets.mono (quOffer_int (x := ⟨4, 0, 0, 0, 0, 0, 0, 0, 0⟩) (by omega) h) ?_
  clear h
  rintro _ w ⟨rfl, h⟩
  rw [decide_eq_true c1]
  exact ⟨_, rfl, rfl, h.drop.drop⟩
end
/-- Items' numbers, one behind the other. -/
def Ids (got : Nat) (xs : List (Itm ByteArray)) : Prop := ∀ j (hj : j < xs.length), xs[j].d = ((got + j : Nat) : Int)
theorem Ids.put {got : Nat} {xs : List (Itm ByteArray)} {x : Itm ByteArray} (h : Ids got xs) (hx : x.d = ((got + xs.length : Nat) : Int)) : Ids got (xs ++ [x]) := fun j hj => by
  by_cases hlt : j < xs.length
  · rw [List.getElem_append_left hlt]; exact h j hlt
  · have : j = xs.length := by simp at hj; omega
    subst this
    rw [List.getElem_append_right (by omega)]
    simpa using hx
theorem Ids.tail {got : Nat} {x : Itm ByteArray} {xs : List (Itm ByteArray)} (h : Ids got (x :: xs)) : x.d = (got : Int) ∧ Ids (got + 1) xs := by
  refine ⟨h 0 (by simp), fun j hj => ?_⟩
  have := h (j + 1) (by simpa using hj)
  rw [List.getElem_cons_succ] at this
  rw [this]; congr 1; omega
section
variable {W : World} {q q2 : Option Addr} {c c2 : Nat} {L : List Int} {B : List Bool} {r : Int}
theorem ItemOrder_spec (hrw : (Lit.int .i64 r).wf = true) (hb : RdC W q (cs .i64 L)) (hm : L.length ≤ maxLen) (hc : L.length ≤ c) (hw : ∀ x ∈ L, (Lit.int .i64 x).wf = true) (hb2 : RdC W q2 (B.map Value.bool)) (hm2 : B.length ≤ maxLen) (hc2 : B.length ≤ c2) :
    Rets Try.prog 8 #[.int .i64 r, .slice q L.length c, .slice q2 B.length c2] W fun v w' => v = .bool true ∧ Below W.heap.size W w' := by
  refine Rets.mono (k := fun v w' => v = .bool true ∧ Own W w' [snap W]) ?_ (fun v w' h => ⟨h.1, h.2.below⟩)
  have h := Own.begin W
  have aw : ∀ w, Own W w [snap W] → Rets Try.prog 39 #[] w fun v w' => ∃ b, v = Value.bool b ∧ (Value.bool b) = .bool true ∧ Own W w' [snap W] := fun w h => by
    refine Rets.mono (itAwake h) ?_
    rintro _ w ⟨rfl, h⟩
    exact ⟨_, rfl, rfl, h⟩
  refine cortadolaw28_ItemOrder_go _ _ _ _ _ _ _ ⟨fun hx => aw W h, fun hx => ?_⟩
  have hx := dec_f hx
  refine Rets.mono (quNew_string h) ?_
  clear h
  rintro _ w ⟨g, rfl, h⟩
  generalize (maxI 1 (minI r 64)).toNat = room at h
  let St : List (Itm ByteArray) → Nat → Nat → World → Prop := fun xs sent full w => Own W w (quO_string g xs room sent full :: [snap W])
  refine ⟨_, rfl, fun z vs w => ∃ (i put got full : Nat) (xs : List (Itm ByteArray)), vs = [.int .i64 (put : Int), .int .i64 (got : Int), .int .i64 (i : Int)] ∧ z + i = L.length ∧ put ≤ i ∧ full ≤ i ∧ got + xs.length = put ∧ Ids got xs ∧ St xs put full w, ⟨L.length, 0, 0, 0, 0, [], rfl, rfl, Nat.le_refl _, Nat.le_refl _, rfl, fun j hj => (by cases hj), h⟩, ?_⟩
  clear h
  intro z w
  intros
  rename_i hI
  obtain ⟨i, put, got, full, xs, hvs, hz, hput, hfull, hgot, hids, h⟩ := hI
  simp at hvs
  obtain ⟨rfl, rfl, rfl⟩ := hvs
  refine ⟨fun hc1 => ?_, fun hc1 => ?_⟩
  · have hc1 := dec_t hc1
    have hi : i < L.length := by omega
    have ei : IntKind.wrap .i64 ((i : Int) + 1) = ((i + 1 : Nat) : Int) := by rw [wI64 (by omega) (by omega)]; rfl
    rw [ei]
    obtain ⟨x, hxe⟩ : ∃ x, x = L[i] := ⟨_, rfl⟩
    obtain ⟨ad, rfl, hcell⟩ := hb.addr (cs_at hi)
    have rdx : ∀ {F : HP} w, Own W w (F :: [snap W]) → World.cell? w (ad.add (Int.toNat (i : Int) * 1)) = some (.int .i64 x) := fun w h => by
      rw [Int.toNat_natCast, Nat.mul_one, hxe]; exact h.drop.snapCell (hcell _ _ (cs_at hi))
    refine ⟨fun vs w => vs = [.bool (decide (kwn x))] ∧ St xs put full w, ⟨by omega, by omega, smR ⟨x, rdx w h, fun hk => ⟨by omega, by omega, smR ⟨x, rdx w h, ?_, h⟩⟩, fun hk => ⟨?_, h⟩⟩⟩, ?_⟩
    · have hk := dec_t hk
      congr 2; rw [decide_eq_decide]; unfold kwn; omega
    · have hk := dec_f hk
      rw [decide_eq_false (by unfold kwn; omega)]
    clear h
    intro w
    intros
    rename_i hI
    obtain ⟨hvs, h⟩ := hI
    simp at hvs
    subst hvs
    refine ⟨fun vs w => vs = [.bool false] ∧ St xs put full w, ?_, ?_⟩
    · refine h.drw fun w h => ⟨St xs put full, h, by omega, by omega, smR ⟨x, fun w h => rdx w h, ?_⟩⟩
      refine Rets.mono (itKnown h) ?_
      clear h
      rintro _ w ⟨rfl, h⟩
      refine ⟨_, rfl, h, fun _ => ⟨by omega, by omega, smR ⟨by omega, by omega, smR ⟨x, fun w h => rdx w h, x, fun w h => rdx w h, ?_⟩⟩⟩, fun hc => absurd hc (by simp)⟩
      refine Rets.mono (itMarker h) ?_
      clear h
      rintro _ w ⟨rfl, h⟩
      refine ⟨_, rfl, h, fun h4 => ?_, fun h4 => ?_⟩
      · have h4 := dec_t h4
        have e4 : decide (4 ≤ x ∧ x ≤ 6) = decide (x ≤ 6) := by rw [decide_eq_decide]; omega
        rw [e4]
        refine ⟨by omega, by omega, smR ⟨x, fun w h => rdx w h, fun _ => ⟨by omega, by omega, smR ⟨x, fun w h => rdx w h, ?_⟩⟩, fun hc => absurd hc (by simp)⟩⟩
        refine Rets.mono (itName_spec h) ?_
        clear h
        rintro _ w ⟨rfl, h⟩
        refine ⟨_, rfl, ?_, h⟩
        rw [itName_ne]; simp
      · have h4 := dec_f h4
        rw [decide_eq_false (show ¬ (4 ≤ x ∧ x ≤ 6) by omega)]
        refine ⟨fun _ => ⟨by omega, by omega, smR ⟨x, fun w h => rdx w h, ?_⟩⟩, fun hc => absurd hc (by simp)⟩
        refine Rets.mono (itName_spec h) ?_
        clear h
        rintro _ w ⟨rfl, h⟩
        refine ⟨_, rfl, ?_, h⟩
        rw [itName_ne]; simp
    clear h
    intro w
    intros
    rename_i hI
    obtain ⟨hvs, h⟩ := hI
    simp at hvs
    subst hvs
    refine ⟨fun hc => absurd hc (by simp), fun _ => ?_⟩
    refine Rets.mono (quMay_string h) ?_
    clear h
    rintro _ w ⟨rfl, h⟩
    obtain ⟨ok, hok⟩ : ∃ ok : Bool, ok = decide (kwn x ∧ xs.length < room) := ⟨_, rfl⟩
    obtain ⟨xs1, hx1⟩ : ∃ xs1, xs1 = (if kwn x ∧ xs.length < room then xs ++ [(⟨x, 0, 0, ⟨#[]⟩, 0, 0, 0, 0, (put : Int)⟩ : Itm ByteArray)] else xs) := ⟨_, rfl⟩
    obtain ⟨put1, hp1⟩ : ∃ put1, put1 = (if kwn x ∧ xs.length < room then put + 1 else put) := ⟨_, rfl⟩
    obtain ⟨full1, hf1⟩ : ∃ full1, full1 = (if kwn x ∧ ¬ xs.length < room then full + 1 else full) := ⟨_, rfl⟩
    have hput1 : put1 ≤ i + 1 := by rw [hp1]; split <;> omega
    have hfull1 : full1 ≤ i + 1 := by rw [hf1]; split <;> omega
    have hgot1 : got + xs1.length = put1 := by
      rw [hp1, hx1]; split
      · rw [List.length_append]; simp; omega
      · exact hgot
    have hids1 : Ids got xs1 := by
      rw [hx1]; split
      · refine hids.put ?_
        show (put : Int) = _
        omega
      · exact hids
    have hput2 : (if ok = true then put + 1 else put) = put1 := by
      rw [hp1, hok]
      by_cases hq : kwn x ∧ xs.length < room
      · rw [if_pos hq, decide_eq_true hq, if_pos rfl]
      · rw [if_neg hq, decide_eq_false hq, if_neg (by simp)]
    refine ⟨_, rfl, fun vs w => vs = [.bool false] ∧ St xs1 put1 full1 w, ⟨by omega, by omega, smR ⟨x, rdx w h, ?_⟩⟩, ?_⟩
    · refine Rets.mono (quOffer_string (x := ⟨x, 0, 0, ⟨#[]⟩, 0, 0, 0, 0, (put : Int)⟩) (by omega) h) ?_
      clear h
      rintro _ w ⟨rfl, h⟩
      rw [← hx1, ← hp1, ← hf1] at h
      refine ⟨_, rfl, fun h6 => ⟨?_, h⟩, fun h6 => ⟨?_, h⟩⟩
      · have h6 := dec_t h6
        have e6 : decide (kwn x ∧ xs.length < room) = decide (kwn x) := by rw [decide_eq_decide]; exact ⟨fun q => q.1, fun q => ⟨q, h6⟩⟩
        show [Value.bool (!(decide (kwn x ∧ xs.length < room) == decide (kwn x)))] = _
        rw [e6]; simp
      · have h6 := dec_f h6
        show [Value.bool (!(decide (kwn x ∧ xs.length < room) == false))] = _
        rw [decide_eq_false (fun q : kwn x ∧ xs.length < room => h6 q.2)]; rfl
    clear h
    intro w
    intros
    rename_i hI
    obtain ⟨hvs, h⟩ := hI
    simp at hvs
    subst hvs
    refine ⟨fun hc => absurd hc (by simp), fun _ => ?_⟩
    refine ⟨fun vs w => vs = [.bool ok] ∧ St xs1 put1 full1 w, ⟨fun h6 => ⟨?_, h⟩, fun h6 => ⟨?_, h⟩⟩, ?_⟩
    · have h6 := dec_t h6
      rw [hok]; congr 2; rw [decide_eq_decide]; exact ⟨fun q => ⟨q, h6⟩, fun q => q.1⟩
    · have h6 := dec_f h6
      rw [hok, decide_eq_false (fun q : kwn x ∧ xs.length < room => h6 q.2)]
    clear h
    intro w
    intros
    rename_i hI
    obtain ⟨hvs, h⟩ := hI
    simp at hvs
    subst hvs
    refine ⟨fun vs w => vs = [.int .i64 (put1 : Int)] ∧ St xs1 put1 full1 w, ⟨fun h6 => ⟨?_, h⟩, fun h6 => ⟨?_, h⟩⟩, ?_⟩
    · rw [if_pos h6] at hput2
      rw [← hput2, wI64 (by omega) (by omega)]; rfl
    · rw [if_neg (by rw [h6]; simp)] at hput2
      rw [hput2]
    clear h
    intro w
    intros
    rename_i hI
    obtain ⟨hvs, h⟩ := hI
    simp at hvs
    subst hvs
    refine ⟨fun vs w => (∃ b, vs = [.bool b]) ∧ St xs1 put1 full1 w, ⟨fun h7 => ?_, fun h7 => ⟨⟨_, rfl⟩, h⟩⟩, ?_⟩
    · have h7 := dec_t h7
      have hib : i < B.length := by omega
      obtain ⟨ad2, rfl, hcell2⟩ := hb2.addr (j := i) (u := .bool B[i]) (by simp [hib])
      refine ⟨by omega, by omega, smR ⟨B[i], ?_, ⟨_, rfl⟩, h⟩⟩
      rw [Int.toNat_natCast, Nat.mul_one]
      exact (Own.drop h).snapCell (hcell2 _ _ (by simp [hib]))
    clear h
    intro w
    intros
    rename_i b11 hI
    obtain ⟨_, h⟩ := hI
    refine ⟨fun vs w => ∃ (got2 : Nat) (xs2 : List (Itm ByteArray)), vs = [.int .i64 (got2 : Int)] ∧ got2 + xs2.length = put1 ∧ Ids got2 xs2 ∧ St xs2 put1 full1 w, ⟨fun _ => ?_, fun _ => ⟨got, xs1, rfl, hgot1, hids1, h⟩⟩, ?_⟩
    · refine Rets.mono (quTake_string h) ?_
      clear h
      rintro _ w ⟨rfl, h⟩
      obtain ⟨y, hy⟩ : ∃ y, y = xs1.head?.getD (itZ (⟨#[]⟩ : ByteArray)) := ⟨_, rfl⟩
      rw [← hy]
      refine ⟨_, _, _, _, _, _, _, _, _, _, rfl, h.newR fun a w h => Own.stP' (g := a) h (by repeat (first | with_reducible exact Pick.here | apply Pick.there)) (by simp) (by simp [Value.oneCell']) fun w h => ?_⟩
      have h : Own W w (blk a 99 (itC Value.string y) :: quO_string g xs1.tail room put1 full1 :: [snap W]) := h
      have hlen : decide (0 < xs1.length) = decide ((got : Int) < (put1 : Int)) := by rw [decide_eq_decide]; omega
      refine ⟨fun vs w => vs = [.bool false] ∧ Own W w (quO_string g xs1.tail room put1 full1 :: [snap W]), ⟨fun _ => ⟨fun hb => ⟨_, Own.ld (g := a) (k := 8) h (by repeat (first | with_reducible exact Pick.here | apply Pick.there)) rfl, ?_, h.drop⟩, fun hb => ⟨rfl, h.drop⟩⟩, fun hc => ?_⟩, ?_⟩
      · have hb := dec_t hb
        cases xs1 with
        | nil => simp at hb
        | cons x0 r0 =>
          obtain rfl : y = x0 := hy
          rw [hids1.tail.1]; simp
      · rw [hlen] at hc
        simp at hc
      clear h
      intro w
      intros
      rename_i hI
      obtain ⟨hvs, h⟩ := hI
      simp at hvs
      subst hvs
      refine ⟨fun hc => absurd hc (by simp), fun _ => ⟨fun vs w => vs = [.int .i64 ((got + (if 0 < xs1.length then 1 else 0) : Nat) : Int)] ∧ Own W w (quO_string g xs1.tail room put1 full1 :: [snap W]), ⟨fun hb => ⟨?_, h⟩, fun hb => ⟨?_, h⟩⟩, ?_⟩⟩
      · rw [if_pos (dec_t hb), wI64 (by omega) (by omega)]; rfl
      · rw [if_neg (dec_f hb)]; rfl
      clear h
      intro w
      intros
      rename_i hI
      obtain ⟨hvs, h⟩ := hI
      simp only [List.cons.injEq, Value.int.injEq, true_and, and_true] at hvs
      subst hvs
      refine ⟨_, xs1.tail, rfl, ?_, ?_, h⟩
      · cases xs1 with
        | nil => simpa using hgot1
        | cons x0 r0 => simp at hgot1 ⊢; omega
      · cases xs1 with
        | nil => exact fun j hj => by cases hj
        | cons x0 r0 => exact hids1.tail.2
    clear h
    intro w
    intros
    rename_i hI
    obtain ⟨got2, xs2, hvs, hgot2, hids2, h⟩ := hI
    simp at hvs
    subst hvs
    refine ⟨fun vs w => vs = [.bool false] ∧ St xs2 put1 full1 w, ?_, ?_⟩
    · refine Rets.mono (quSent_string h) ?_
      clear h
      rintro _ w ⟨rfl, h⟩
      refine ⟨_, rfl, fun _ => ?_, fun hc => absurd hc (by simp)⟩
      refine Rets.mono (quLen_string h) ?_
      clear h
      rintro _ w ⟨rfl, h⟩
      refine ⟨_, rfl, ?_, h⟩
      have e1 : IntKind.wrap .i64 ((put1 : Int) - (got2 : Int)) = (xs2.length : Int) := by rw [wI64 (by omega) (by omega)]; omega
      rw [e1]; simp
    clear h
    intro w
    intros
    rename_i hI
    obtain ⟨hvs, h⟩ := hI
    simp at hvs
    subst hvs
    exact ⟨fun hc => absurd hc (by simp), fun _ => ⟨z - 1, by omega, i + 1, put1, got2, full1, xs2, rfl, by omega, hput1, hfull1, hgot2, hids2, h⟩⟩
  · refine Rets.mono (qnTake (Own.drop h)) ?_
    clear h
    rintro _ w ⟨rfl, h⟩
    refine ⟨_, _, _, _, _, _, _, _, _, _, rfl, h.newR fun a w h => Own.stP' (g := a) h (by repeat (first | with_reducible exact Pick.here | apply Pick.there)) (by simp) (by simp [Value.oneCell']) fun w h => ?_⟩
    refine Rets.mono (itName_spec (x := 6) h.drop) ?_
    clear h
    rintro _ w ⟨rfl, h⟩
    have e6 : itName 6 = ⟨#[108, 105, 109, 105, 116]⟩ := by
      unfold itName
      rw [if_pos (show kwn 6 from ⟨by omega, by omega⟩)]; rfl
    rw [e6]
    refine ⟨_, rfl, fun _ => ⟨fun _ => ?_, fun hc => absurd hc (by simp)⟩, fun hc => absurd hc (by simp)⟩
    refine Rets.mono (qnOffer h) ?_
    clear h
    rintro _ w ⟨rfl, h⟩
    refine ⟨_, rfl, fun _ => ?_, fun hc => absurd hc (by simp)⟩
    refine Rets.mono (qnMay h) ?_
    clear h
    rintro _ w ⟨rfl, h⟩
    refine ⟨_, rfl, fun _ => ?_, fun hc => absurd hc (by simp)⟩
    refine Rets.mono (qnLen h) ?_
    clear h
    rintro _ w ⟨rfl, h⟩
    refine ⟨_, rfl, ?_⟩
    refine Rets.mono (qnRoom h) ?_
    clear h
    rintro _ w ⟨rfl, h⟩
    refine ⟨_, rfl, ?_⟩
    refine Rets.mono (qnCount h) ?_
    clear h
    rintro _ w ⟨rfl, h⟩
    refine ⟨_, rfl, ?_⟩
    refine Rets.mono (qnSent h) ?_
    clear h
    rintro _ w ⟨rfl, h⟩
    refine ⟨_, rfl, ?_⟩
    refine Rets.mono (qnFull h) ?_
    clear h
    rintro _ w ⟨rfl, h⟩
    exact ⟨_, rfl, fun _ => aw w h, fun hc => absurd hc (by decide)⟩
end
end Go.Proofs.Ytipcbhaeoeghnaa.Eng
