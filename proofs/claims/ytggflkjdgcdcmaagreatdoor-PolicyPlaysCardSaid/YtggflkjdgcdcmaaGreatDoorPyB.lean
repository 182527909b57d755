/- Joined: PyD PyC PyE PyF PyG PyH PyI PyJ. -/
import Derived.Test.YtggflkjdgcdcmaaGreatDoorPyA
import Derived.Test.YtggflkjdgcdcmaaGreatDoorTpxB
import Derived.Test.YtggflkjdgcdcmaaGreatDoorTpbG
import Derived.Test.YtggflkjdgcdcmaaGreatDoorPlrG
import Derived.Test.YtggflkjdgcdcmaaGreatDoorPlxG
import Derived.Test.YtggflkjdgcdcmaaGreatDoorPldG
import Derived.Test.YtggflkjdgcdcmaaGreatDoorPlyG
namespace Go.Proofs.YtggflkjdgcdcmaaGreatDoor.Eng
open Go Go.RowKit Go.Proofs
set_option linter.unusedVariables false
set_option linter.unusedSimpArgs false
set_option maxRecDepth 1000000
section
variable {e w : World} {F : List HP} {g u : Nat} {L : List Int} {s : Int} {q : Option Addr} {c : Nat}
theorem rfAt {k : Nat} (h : Own e w F) (hr : ∀ w, Own e w F → RdC w q (cs .i64 L)) (hs : M64 s) (hn : L.length * 8 ≤ 140737488351232) (hk : k ≤ 10000000) : Rets Tryz.prog 142 #[.slice q L.length c, .int .u64 s, .int .i64 (k : Int)] w fun v w' => v = .int .u64 (drawI L s k) ∧ Own e w' F := by
  refine cortadoref15_At_go _ _ _ _ _ ⟨fun hx => ?_, fun hx => ?_⟩
  · have hx := dec_t hx
    have hk2 : k < L.length := by omega
    refine ⟨by omega, by omega, RdC.int (hr w h) hk2 fun a ha => ⟨_, by rw [Int.toNat_natCast]; exact ha, ?_, h⟩⟩
    rw [drawI_low hk2]
  · have hx := dec_f hx
    obtain ⟨h0, h1⟩ := hs
    refine ⟨fun m vs w => ∃ i : Nat, vs = [.int .u64 ((s + 11400714819323198485 * (i : Int)) % 18446744073709551616), .int .i64 ((L.length + i : Nat) : Int)] ∧ L.length + i + m = k + 1 ∧ Own e w F, ⟨k + 1 - L.length, 0, ?_, by omega, h⟩, ?_⟩
    · have : (s + 11400714819323198485 * ((0 : Nat) : Int)) % 18446744073709551616 = s := by omega
      rw [this]; rfl
    rintro m w n2 n3
    intros
    rename_i hI
    obtain ⟨i, hvs, hm, h⟩ := hI
    obtain ⟨rfl, rfl⟩ : n2 = (s + 11400714819323198485 * (i : Int)) % 18446744073709551616 ∧ n3 = ((L.length + i : Nat) : Int) := by simpa using hvs
    refine ⟨fun hc => ?_, fun hc => ?_⟩
    · have hc := dec_t hc
      refine ⟨m - 1, by omega, i + 1, ?_, by omega, h⟩
      rw [wU64, wI64 (by omega) (by omega)]
      have e1 : ((s + 11400714819323198485 * (i : Int)) % 18446744073709551616 + 11400714819323198485) % 18446744073709551616 = (s + 11400714819323198485 * ((i + 1 : Nat) : Int)) % 18446744073709551616 := by omega
      rw [e1]; rfl
    · have hc := dec_f hc
      have hik : (i : Int) = (k : Int) - L.length + 1 := by omega
      rw [hik]
      refine Rets.mono (rfMix ?_ h) ?_
      · unfold M64; omega
      rintro _ w ⟨rfl, h⟩
      refine ⟨_, rfl, ?_, h⟩
      unfold drawI; rw [if_neg (by omega)]
abbrev rdO (g : Nat) (q : Option Addr) (n c : Nat) (s : Int) (u : Nat) : HP := blk g 49 [.slice q n c, .int .u64 s, .int .i64 (u : Int)]
theorem rdNext (h : Own e w (rdO g q L.length c s u :: F)) (hr : ∀ w, Own e w F → RdC w q (cs .i64 L)) (hs : M64 s) (hn : L.length * 8 ≤ 140737488351232) (hu : u ≤ 10000) : Rets Tryz.prog 137 #[.pointer (some ⟨g, 0, none⟩)] w fun v w' => v = .int .u64 (drawI L s u) ∧ Own e w' (rdO g q L.length c s (u + 1) :: F) := by
  refine cortadoref15_D_Next_go _ (h.drw fun w h => ⟨_, _, _, (Own.ld h (by repeat (first | with_reducible exact Pick.here | apply Pick.there)) (by rfl)), _, (Own.ld h (by repeat (first | with_reducible exact Pick.here | apply Pick.there)) (by rfl)), _, (Own.ld h (by repeat (first | with_reducible exact Pick.here | apply Pick.there)) (by rfl)), ?_⟩)
  refine Rets.mono (rfAt h (fun w h => hr w h.drop) hs hn (by omega)) ?_
  rintro _ w ⟨rfl, h⟩
  refine ⟨_, rfl, _, (Own.ld h (by repeat (first | with_reducible exact Pick.here | apply Pick.there)) (by rfl)), Own.stP h (by repeat (first | with_reducible exact Pick.here | apply Pick.there)) (by simp) (by simp [Value.oneCell']) fun w h => ⟨rfl, ?_⟩⟩
  simp only [setFrom, List.set_cons_zero, List.set_cons_succ, List.set_nil] at h
  rw [wI64 (by omega) (by omega)] at h
  exact h
theorem rdBelow {n : Int} (h : Own e w (rdO g q L.length c s u :: F)) (hr : ∀ w, Own e w F → RdC w q (cs .i64 L)) (hs : M64 s) (hn : L.length * 8 ≤ 140737488351232) (hu : u ≤ 10000) (hb : n ≤ 9223372036854775807) : Rets Tryz.prog 125 #[.pointer (some ⟨g, 0, none⟩), .int .i64 n] w fun v w' => v = .int .i64 (belI (drawI L s u) n) ∧ Own e w' (rdO g q L.length c s (if n < 1 then u else u + 1) :: F) := by
  refine cortadoref15_D_Below_go _ _ ⟨fun hx => ?_, fun hx => ?_⟩
  · have hx := dec_t hx
    rw [if_pos hx]
    unfold belI; rw [if_pos hx]; exact ⟨rfl, h⟩
  · have hx := dec_f hx
    rw [if_neg hx]
    refine Rets.mono (rdNext h hr hs hn hu) ?_
    rintro _ w ⟨rfl, h⟩
    refine ⟨_, rfl, by rw [wU64' (by omega) (by omega)]; omega, ?_, h⟩
    rw [belI_wrap (drawI_M64 _ _ _).1 (by omega) hb]
end
/-- How many aren't among some. -/
def cntK (ks ins : List Int) : Nat := ks.countP (fun x => decide (x ∉ ins))
theorem cntK_pos (ks ins : List Int) : 0 < cntK ks ins ↔ moreK ks ins = true := by
  unfold cntK moreK
  rw [List.countP_pos_iff, List.any_eq_true]
theorem rnd_step {ks : List Int} {B i : Nat} (h : 0 < ks.length) : (if ((B + i) % ks.length + 1 = ks.length) then 0 else (B + i) % ks.length + 1) = (B + (i + 1)) % ks.length := by
  have h1 := Nat.mod_lt (B + i) h
  have key : (B + (i + 1)) % ks.length = ((B + i) % ks.length + 1) % ks.length := by rw [← Nat.add_assoc, Nat.mod_add_mod]
  rw [key]
  generalize (B + i) % ks.length = r at h1
  split
  · rename_i e; rw [e, Nat.mod_self]
  · rename_i e; rw [Nat.mod_eq_of_lt (by omega)]
section
variable {e w : World} {F : List HP} {h0 : Nat → Option Obj} {q q2 qd : Option Addr} {c c2 cd g gt gd u : Nat} {ins D : List Int} {s m : Int} {L : LE2}
theorem uRest (hl : L.length ≤ 700) (hn : ins.length ≤ 1000) (hI : ImR h0 q (E24 L)) (hr : ∀ w, Own e w F → RdC w q2 (cs .u64 ins)) (h : Own e w (imm h0 :: F)) :
    Rets Tryz.prog 124 #[L24 q L.length c m, .slice q2 ins.length c2] w fun v w' => v = .int .i64 (cntK (keysL L) ins : Int) ∧ Own e w' (imm h0 :: F) := by
  refine cortadoref25_rest_go _ _ _ _ _ _ _ (h.newR fun ga w h => ?_)
  obtain ⟨ha0, le0, ha, hh⟩ := Own.absorb h
  clear h
  have h := hh
  clear hh
  have hI := hI.mono le0
  refine ⟨fun z vs w => ∃ i : Nat, vs = [.int .i64 (cntK (keysL (L.take i)) ins : Int), .int .i64 (i : Int)] ∧ z + i = L.length ∧ Own e w (imm ha0 :: F), ⟨L.length, 0, rfl, rfl, h⟩, ?_⟩
  clear h
  rintro z w n1 n2
  intros
  rename_i hI2
  obtain ⟨i, hvs, hz, h⟩ := hI2
  obtain ⟨rfl, rfl⟩ : n1 = (cntK (keysL (L.take i)) ins : Int) ∧ n2 = (i : Int) := by simpa using hvs
  refine ⟨_, _, _, h.immCell ha (i := 0) rfl, fun hc => ?_, fun hc => ?_⟩
  · have hc := dec_t hc
    have hi : i < L.length := by omega
    obtain ⟨ad, eq, rd⟩ := hI.adr24 hi h
    subst eq
    have ek : keysL (L.take (i + 1)) = keysL (L.take i) ++ [L[i].1] := by
      rw [List.take_succ_eq_append_getElem hi, keysL, List.map_append]; rfl
    have ec : cntK (keysL (L.take (i + 1))) ins = cntK (keysL (L.take i)) ins + if L[i].1 ∉ ins then 1 else 0 := by
      unfold cntK; rw [ek, List.countP_append]; simp
    have hb : cntK (keysL (L.take i)) ins ≤ 700 := by
      have := List.countP_le_length (p := fun x : Int => decide (x ∉ ins)) (l := keysL (L.take i))
      unfold cntK
      simp at this ⊢
      omega
    refine ⟨_, _, _, h.immCell ha (i := 0) rfl, by omega, by omega, smR ⟨_, (rd _ _ _ h).1, ?_⟩⟩
    refine Rets.mono (uAmong h (fun w h => hr w h.drop) hn) ?_
    clear h
    rintro _ w ⟨rfl, h⟩
    refine ⟨_, rfl, fun vs w => vs = [.int .i64 (cntK (keysL (L.take (i + 1))) ins : Int)] ∧ Own e w (imm ha0 :: F), ⟨fun hq => ⟨?_, h⟩, fun hq => ⟨?_, h⟩⟩, ?_⟩
    · have hq : L[i].1 ∉ ins := by simpa using hq
      rw [ec, if_pos hq, wI64 (by omega) (by omega)]; rfl
    · have hq : L[i].1 ∈ ins := by simpa using hq
      rw [ec, if_neg (by simpa using hq)]; rfl
    clear h
    rintro w n4
    intros
    rename_i hI3
    obtain ⟨hvs3, h⟩ := hI3
    obtain rfl : n4 = (cntK (keysL (L.take (i + 1))) ins : Int) := by simpa using hvs3
    exact ⟨z - 1, by omega, i + 1, by rw [wI64 (by omega) (by omega)]; rfl, by omega, h⟩
  · have hc := dec_f hc
    obtain rfl : i = L.length := by omega
    rw [List.take_length]
    exact ⟨rfl, h.immLe le0⟩
theorem rFillS (hl : L.length ≤ 700) (hn : ins.length ≤ 900) (hu : u ≤ 9000) (hs : M64 s) (hD : D.length * 8 ≤ 140737488351232) (hI : ImR h0 q (E24 L))
    (hd : ∀ w F, Own e w (imm h0 :: F) → RdC w qd (cs .i64 D)) (hr : ∀ w F, Own e w (imm h0 :: F) → RdC w q2 (cs .u64 ins)) (h : Own e w (imm h0 :: rdO gd qd D.length cd s u :: F)) :
    Rets Tryz.prog 102 #[L24 q L.length c m, .slice q2 ins.length c2, .pointer (some ⟨gd, 0, none⟩)] w fun v w' => ∃ h1 q' c', v = .slice q' (outS D s (keysL L) ins u).1.length c' ∧ LeH h0 h1 ∧ Own e w' (sl64 q' (outS D s (keysL L) ins u).1.length c' (outS D s (keysL L) ins u).1 :: imm h1 :: rdO gd qd D.length cd s (outS D s (keysL L) ins u).2 :: F) := by
  have hkl : (keysL L).length = L.length := List.length_map _
  obtain ⟨R, hR⟩ : ∃ R, R = outS D s (keysL L) ins u := ⟨_, rfl⟩
  rw [← hR]
  refine cortadoref25_Fill_go _ _ _ _ _ _ _ _ (h.newR fun ga w h => ?_)
  obtain ⟨ha0, le0, ha, hh⟩ := Own.absorb h
  clear h
  have h := hh
  clear hh
  have hI := hI.mono le0
  refine h.newR fun ge w h => ?_
  refine uapp (uempty h) (hr w _ (h.drop.immLe le0)) rfl (by omega) fun q' c' w h => ?_
  rw [List.nil_append] at h
  simp only [Nat.zero_add] at h ⊢
  refine ⟨_, _, _, rfl, fun z vs w => ∃ (out : List Int) (v : Nat) (q' : Option Addr) (c' : Nat), vs = [.slice q' out.length c'] ∧ filS (keysL L) (belN D s (keysL L).length) z out v = R ∧ 5 ≤ out.length + z ∧ out.length ≤ 905 ∧ v + z ≤ 9005 ∧ Own e w (sl64 q' out.length c' out :: imm ha0 :: rdO gd qd D.length cd s v :: F), ⟨5, ins, u, q', c', rfl, hR.symm, by omega, by omega, by omega, h⟩, ?_⟩
  clear h
  rintro z w qz k5 k6
  intros
  rename_i hI2
  obtain ⟨out, v, q1, c1, hvs, hfil, h5, hol, hv, h⟩ := hI2
  obtain ⟨rfl, rfl, rfl⟩ : qz = q1 ∧ k5 = out.length ∧ k6 = c1 := by simpa using hvs
  refine ⟨fun vs w => vs = [.bool (decide (out.length < 5) && moreK (keysL L) out)] ∧ Own e w (sl64 qz out.length k6 out :: imm ha0 :: rdO gd qd D.length cd s v :: F), ⟨fun hc => ?_, fun hc => ?_⟩, ?_⟩
  · have hc := dec_t hc
    refine ⟨_, _, _, _, ⟨h.swap.immCell ha (i := 0) rfl, h.swap.immCell ha (i := 1) rfl⟩, ?_⟩
    refine Rets.mono (uRest (q2 := qz) (c2 := k6) hl (show out.length ≤ 1000 by omega) hI (fun w h => Own.rdP (T := 30) h (by repeat (first | with_reducible exact Pick.here | apply Pick.there))) h.swap) ?_
    clear h
    rintro _ w ⟨rfl, h⟩
    refine ⟨_, rfl, ?_, h.swap⟩
    have h1 := cntK_pos (keysL L) out
    rw [decide_eq_true (show out.length < 5 by omega), Bool.true_and]
    cases hm : moreK (keysL L) out with
    | true => rw [decide_eq_true (by have := h1.2 hm; omega)]
    | false => rw [decide_eq_false (fun hh => by have := h1.1 (by omega); rw [hm] at this; cases this)]
  · have hc := dec_f hc
    rw [decide_eq_false (show ¬ out.length < 5 by omega)]
    exact ⟨rfl, h⟩
  clear h
  rintro w
  intros
  rename_i b1 hI3
  obtain ⟨hvs3, h⟩ := hI3
  obtain rfl : b1 = (decide (out.length < 5) && moreK (keysL L) out) := by simpa using hvs3
  refine ⟨fun hb => ?_, fun hb => ?_⟩
  · have hb : out.length < 5 ∧ moreK (keysL L) out = true := by simpa using hb
    obtain ⟨hb5, hm2⟩ := hb
    have hne : 1 ≤ L.length := by
      obtain ⟨x, hx, _⟩ := List.any_eq_true.1 hm2
      have := List.length_pos_of_mem hx
      omega
    refine ⟨_, _, _, h.swap.immCell ha (i := 0) rfl, ?_⟩
    have h : Own e w (rdO gd qd D.length cd s v :: imm ha0 :: sl64 qz out.length k6 out :: F) := (Own.sub (h) (by repeat (first | with_reducible exact Sub.nil _ | with_reducible exact Sub.rfl _ | (apply Sub.cons; focus ((repeat (first | with_reducible exact Pick.here | apply Pick.there)); done)) | apply Sub.drop)))
    refine Rets.mono (rdBelow (n := (L.length : Int)) h (fun w h => hd w _ (h.immLe le0)) hs hD (by omega) (by omega)) ?_
    clear h
    rintro _ w ⟨rfl, h⟩
    rw [if_neg (by omega)] at h
    have eb := belN_int D s L.length v
    have elt := belN_lt D s (n := L.length) v hne
    obtain ⟨B, hB⟩ : ∃ B, B = belN D s L.length v := ⟨_, rfl⟩
    rw [← hB] at eb elt
    rw [← eb]
    have h : Own e w (imm ha0 :: rdO gd qd D.length cd s (v + 1) :: sl64 qz out.length k6 out :: F) := h.swap
    refine ⟨_, rfl, fun z2 vs w => ∃ i : Nat, vs = [.int .i64 (((B + i) % L.length : Nat) : Int)] ∧ z2 + i = L.length ∧ i < L.length ∧ (∀ j, j < i → rndK (keysL L) B j ∈ out) ∧ Own e w (imm ha0 :: rdO gd qd D.length cd s (v + 1) :: sl64 qz out.length k6 out :: F), ⟨L.length, 0, by rw [Nat.add_zero, Nat.mod_eq_of_lt elt], rfl, by omega, fun j hj => absurd hj (by omega), h⟩, ?_⟩
    clear h
    rintro z2 w n4
    intros
    rename_i hI4
    obtain ⟨i, hvs4, hz2, hi, hno, h⟩ := hI4
    obtain rfl : n4 = (((B + i) % L.length : Nat) : Int) := by simpa using hvs4
    have hlt : (B + i) % L.length < L.length := Nat.mod_lt _ (by omega)
    obtain ⟨ad, eq, rd⟩ := hI.adr24 hlt h
    have eK : L[(B + i) % L.length].1 = rndK (keysL L) B i := by
      rw [rndK_at (by omega)]; simp [hkl]
    rw [eK] at rd
    subst eq
    refine ⟨_, _, _, h.immCell ha (i := 0) rfl, by omega, by omega, smR ⟨_, (rd _ _ _ h).1, ?_⟩⟩
    refine Rets.mono (uAmong (q := qz) (c := k6) h (fun w h => Own.rdP (T := 30) h (by repeat (first | with_reducible exact Pick.here | apply Pick.there))) (show out.length ≤ 1000 by omega)) ?_
    clear h
    rintro _ w ⟨rfl, h⟩
    refine ⟨_, rfl, fun hq => ?_, fun hq => ?_⟩
    · have hq : rndK (keysL L) B i ∈ out := by simpa using hq
      have hno2 : ∀ j, j < i + 1 → rndK (keysL L) B j ∈ out := fun j hj => by
        by_cases e1 : j = i
        · rw [e1]; exact hq
        · exact hno j (by omega)
      have hi2 : i + 1 < L.length := by
        refine Decidable.byContradiction fun hh => ?_
        have := moreK_none (nxtK_none (ks := keysL L) (ins := out) (f := B) fun j hj => hno2 j (by omega))
        rw [hm2] at this; cases this
      have hst := rnd_step (ks := keysL L) (B := B) (i := i) (by omega)
      rw [hkl] at hst
      refine ⟨_, _, _, h.immCell ha (i := 0) rfl, fun vs w => vs = [.int .i64 (((B + (i + 1)) % L.length : Nat) : Int)] ∧ Own e w (imm ha0 :: rdO gd qd D.length cd s (v + 1) :: sl64 qz out.length k6 out :: F), ⟨fun hw => ⟨?_, h⟩, fun hw => ⟨?_, h⟩⟩, ?_⟩
      · have hw := beq_t hw
        rw [wI64 (by omega) (by omega)] at hw
        rw [if_pos (by omega)] at hst
        rw [← hst]; rfl
      · have hw := beq_f hw
        rw [wI64 (by omega) (by omega)] at hw ⊢
        rw [if_neg (by omega)] at hst
        rw [← hst]; rfl
      clear h
      rintro w n6
      intros
      rename_i hI5
      obtain ⟨hvs5, h⟩ := hI5
      obtain rfl : n6 = (((B + (i + 1)) % L.length : Nat) : Int) := by simpa using hvs5
      exact ⟨z2 - 1, by omega, i + 1, rfl, by omega, hi2, hno2, h⟩
    · have hq : rndK (keysL L) B i ∉ out := by simpa using hq
      have hnx := nxtK_at (by omega) hq hno
      obtain ⟨z', rfl⟩ : ∃ z', z = z' + 1 := ⟨z - 1, by omega⟩
      rw [filS_step ⟨by omega, hm2⟩, hkl, ← hB, hnx, Option.getD_some] at hfil
      refine ⟨_, _, _, h.immCell ha (i := 0) rfl, by omega, by omega, smR ⟨_, (rd _ _ _ h).1, h.newR fun gf w h => ?_⟩⟩
      have h : Own e w (blk gf 30 [.int .u64 (rndK (keysL L) B i)] :: sl64 qz out.length k6 out :: imm ha0 :: rdO gd qd D.length cd s (v + 1) :: F) := (Own.sub (h) (by repeat (first | with_reducible exact Sub.nil _ | with_reducible exact Sub.rfl _ | (apply Sub.cons; focus ((repeat (first | with_reducible exact Pick.here | apply Pick.there)); done)) | apply Sub.drop)))
      refine uput h (by omega) fun q3 c3 w h => ⟨_, _, _, rfl, z', by omega, out ++ [rndK (keysL L) B i], v + 1, q3, c3, rfl, by rw [hkl]; exact hfil, by simp; omega, by simp; omega, by omega, h⟩
  · have hb : ¬ (out.length < 5 ∧ moreK (keysL L) out = true) := fun hh => by rw [decide_eq_true hh.1, hh.2] at hb; cases hb
    rw [filS_stop hb] at hfil
    rw [← hfil]
    exact ⟨ha0, _, _, rfl, le0, h⟩
end
abbrev lstV (l : List Int) : Value := .tuple #[.int .i64 (amin l l.length : Nat), .int .i64 (l.getD (amin l l.length) 0), .bool (decide (0 < l.length))]
section
variable {e w : World} {F : List HP} {h0 : Nat → Option Obj} {q q2 : Option Addr} {c c2 b : Nat} {ins H : List Int} {i x : Int}
theorem rLeast {l : List Int} (hn : l.length ≤ 1000) (hr : ∀ w, Own e w F → RdC w q (cs .i64 l)) (h : Own e w F) : Rets Tryz.prog 103 #[.slice q l.length c] w fun v w' => v = lstV l ∧ Own e w' F := by
  have hld : ∀ {k : Nat} (hk : k < l.length), l.getD k 0 = l[k] := fun hk => by rw [List.getD_eq_getElem?_getD, List.getElem?_eq_getElem hk]; rfl
  refine cortadoref25_Least_go _ _ _ ⟨fun z vs w => ∃ k : Nat, vs = [.int .i64 (amin l k : Nat), .int .i64 (k : Int)] ∧ z + k = l.length ∧ Own e w F, ⟨l.length, 0, rfl, rfl, h⟩, ?_⟩
  clear h
  rintro z w n1 n2
  intros
  rename_i hI
  obtain ⟨k, hvs, hz, h⟩ := hI
  obtain ⟨rfl, rfl⟩ : n1 = (amin l k : Int) ∧ n2 = (k : Int) := by simpa using hvs
  refine ⟨fun hc => ?_, fun hc => ⟨fun h0 => ?_, fun h0 => ?_⟩⟩
  · have hc := dec_t hc
    have hk : k < l.length := by omega
    have ha := amin_lt l (by omega) k (by omega)
    refine h.drw fun w h => ⟨by omega, by omega, (hr _ h).int hk fun a1 ha1 => ⟨by omega, by omega, (hr _ h).int ha fun a2 ha2 => ⟨_, by rw [Int.toNat_natCast]; exact ha1, _, by rw [Int.toNat_natCast]; exact ha2, fun vs w => vs = [.int .i64 (amin l (k + 1) : Nat)] ∧ Own e w F, ⟨fun hq => ⟨?_, h⟩, fun hq => ⟨?_, h⟩⟩, ?_⟩⟩⟩
    · have hq := dec_t hq
      have : amin l (k + 1) = k := by show (if _ then _ else _) = _; rw [if_pos (by rw [hld hk, hld ha]; exact hq)]
      rw [this]
    · have hq := dec_f hq
      have : amin l (k + 1) = amin l k := by show (if _ then _ else _) = _; rw [if_neg (by rw [hld hk, hld ha]; exact hq)]
      rw [this]
    clear h
    rintro w n5
    intros
    rename_i hI2
    obtain ⟨hvs2, h⟩ := hI2
    obtain rfl : n5 = (amin l (k + 1) : Int) := by simpa using hvs2
    exact ⟨z - 1, by omega, k + 1, by rw [wI64 (by omega) (by omega)]; rfl, by omega, h⟩
  · have h0 : l.length = 0 := by simpa using h0
    have : l = [] := List.eq_nil_of_length_eq_zero h0
    subst this
    exact ⟨rfl, h⟩
  · have hc := dec_f hc
    have h0 : l.length ≠ 0 := by simpa using h0
    obtain rfl : k = l.length := by omega
    have ha := amin_lt l (by omega) l.length (Nat.le_refl _)
    refine h.drw fun w h => ⟨by omega, by omega, (hr _ h).int ha fun a1 ha1 => ⟨_, by rw [Int.toNat_natCast]; exact ha1, ?_, h⟩⟩
    show _ = Value.tuple #[.int .i64 (amin l l.length : Nat), .int .i64 (l.getD (amin l l.length) 0), .bool (decide (0 < l.length))]
    rw [← hld ha, show decide (0 < l.length) = true from decide_eq_true (by omega)]
theorem rWo (hn : ins.length ≤ 900) (hr : ImR h0 q (cs .u64 ins)) (hi : -9223372036854775808 ≤ i ∧ i ≤ 9223372036854775807) (h : Own e w (imm h0 :: F)) : Rets Tryz.prog 104 #[.slice q ins.length c, .int .i64 i] w (WO e F h0 (woZ ins i)) := by
  refine cortadoref25_Without_go _ _ _ _ ⟨fun vs w => vs = [.bool (decide (i < 0 ∨ (ins.length : Int) ≤ i))] ∧ Own e w (imm h0 :: F), ⟨fun hq => ⟨?_, h⟩, fun hq => ⟨?_, h⟩⟩, ?_⟩
  · have hq := dec_f hq
    have : decide (i ≥ (ins.length : Int)) = decide (i < 0 ∨ (ins.length : Int) ≤ i) := by rw [decide_eq_decide]; omega
    rw [this]
  · have hq := dec_t hq
    rw [decide_eq_true (by omega)]
  clear h
  rintro w
  intros
  rename_i b1 hI
  obtain ⟨hvs, h⟩ := hI
  obtain rfl : b1 = decide (i < 0 ∨ (ins.length : Int) ≤ i) := by simpa using hvs
  unfold woZ
  refine ⟨fun hq => ?_, fun hq => ?_⟩
  · have hq := of_decide_eq_true hq
    rw [if_pos hq]
    exact ⟨h0, _, _, rfl, LeH.refl _, hr, h⟩
  · have hq := of_decide_eq_false hq
    rw [if_neg hq]
    have hit : i.toNat < ins.length := by omega
    have hl1 : ins.length - 1 < ins.length := by omega
    have hlast : ins.getD (ins.length - 1) 0 = ins[ins.length - 1] := by rw [List.getD_eq_getElem?_getD, List.getElem?_eq_getElem hl1]; rfl
    have e1 : IntKind.wrap .i64 ((ins.length : Int) - 1) = ((ins.length - 1 : Nat) : Int) := by rw [wI64 (by omega) (by omega)]; omega
    rw [e1]
    obtain ⟨wl, hwl⟩ : ∃ wl, wl = woL ins i.toNat := ⟨_, rfl⟩
    have hwll : wl.length = ins.length - 1 := by rw [hwl, woL_len]
    have hstep : ∀ {k : Nat}, k < ins.length - 1 → wl.take (k + 1) = wl.take k ++ [if k = i.toNat then ins.getD (ins.length - 1) 0 else ins.getD k 0] := fun hk => by rw [hwl, woL_take hk]
    rw [← hwl]
    clear hwl
    refine ⟨fun z vs w => ∃ (k : Nat) (q' : Option Addr) (c' : Nat), vs = [.slice q' (wl.take k).length c', .int .i64 (k : Int)] ∧ z + k = ins.length - 1 ∧ Own e w (sl64 q' (wl.take k).length c' (wl.take k) :: imm h0 :: F), ⟨ins.length - 1, 0, none, 0, rfl, rfl, h.slNil⟩, ?_⟩
    clear h
    rintro z w q1 k3 k4 n1
    intros
    rename_i hI2
    obtain ⟨k, q', c', hvs2, hz, h⟩ := hI2
    obtain ⟨⟨rfl, rfl, rfl⟩, rfl⟩ : (q1 = q' ∧ k3 = (wl.take k).length ∧ k4 = c') ∧ n1 = (k : Int) := by simpa using hvs2
    have htl : (wl.take k).length ≤ 900 := by rw [List.length_take]; omega
    refine ⟨fun hc => ?_, fun hc => ?_⟩
    · have hc := dec_t hc
      have hk : k < ins.length - 1 := by omega
      have hki : k < ins.length := by omega
      have hst := hstep hk
      have hkd : ins.getD k 0 = ins[k] := by rw [List.getD_eq_getElem?_getD, List.getElem?_eq_getElem hki]; rfl
      refine ⟨fun vs w => ∃ (q' : Option Addr) (c' : Nat), vs = [.slice q' (wl.take (k + 1)).length c'] ∧ Own e w (sl64 q' (wl.take (k + 1)).length c' (wl.take (k + 1)) :: imm h0 :: F), ⟨fun hq2 => ?_, fun hq2 => ?_⟩, ?_⟩
      · have hq2 := beq_t hq2
        rw [if_pos (by omega), hlast] at hst
        refine ⟨by omega, by omega, (hr _ _ _ h.drop).int hl1 fun a1 ha1 => ⟨_, by rw [Int.toNat_natCast]; exact ha1, h.newR fun ge w h => ?_⟩⟩
        refine uput h (by omega) fun q3 c3 w h => ⟨_, _, _, rfl, q3, c3, ?_, ?_⟩
        · rw [hst]
        · rw [hst]; exact h
      · have hq2 := beq_f hq2
        rw [if_neg (by omega), hkd] at hst
        refine ⟨by omega, by omega, (hr _ _ _ h.drop).int hki fun a1 ha1 => ⟨_, by rw [Int.toNat_natCast]; exact ha1, h.newR fun ge w h => ?_⟩⟩
        refine uput h (by omega) fun q3 c3 w h => ⟨_, _, _, rfl, q3, c3, ?_, ?_⟩
        · rw [hst]
        · rw [hst]; exact h
      clear h
      rintro w q4 k9 k10
      intros
      rename_i hI3
      obtain ⟨q3, c3, hvs3, h⟩ := hI3
      obtain ⟨rfl, rfl, rfl⟩ : q4 = q3 ∧ k9 = (wl.take (k + 1)).length ∧ k10 = c3 := by simpa using hvs3
      exact ⟨z - 1, by omega, k + 1, q4, k10, by rw [wI64 (by omega) (by omega)]; rfl, by omega, h⟩
    · have hc := dec_f hc
      obtain rfl : k = ins.length - 1 := by omega
      rw [← hwll, List.take_length] at h ⊢
      obtain ⟨h1, le1, hI4, _, h⟩ := h.slImm
      exact ⟨h1, _, _, rfl, le1, hI4, h⟩
end
section
variable {e w : World} {F : List HP} {n s hh lim : Int} {m md c c2 g : Nat} {q q2 q3 : Option Addr} {t : Ts} {h0 : Nat → Option Obj} {L : List Int} {c3 : Nat}
theorem trPush (hm9 : m ≤ 9) (hmd : md ≤ 20) (hs : M64 s) (hlim : 1 ≤ lim ∧ lim ≤ 4096) (hkd : pwOk (keyN lim) md) (ok : okT m md lim t) (hS : RsR h0 q (2 ^ m) t.R) (hL : L.length ≤ 1000) (hI : ImR h0 q3 (cs .u64 L)) (h : Own e w (imm h0 :: dlO q2 md c2 t.ws :: F)) : Rets Tryz.prog 31 #[trV q c m s q2 md c2 lim t.ct t.ag, .slice q3 L.length c3] w fun v w' => ∃ h1 q' c' q2' c2', v = trV q' c' m s q2' md c2' lim (nxL s m md lim t L).ct (nxL s m md lim t L).ag ∧ LeH h0 h1 ∧ RsR h1 q' (2 ^ m) (nxL s m md lim t L).R ∧ Own e w' (imm h1 :: dlO q2' md c2' (nxL s m md lim t L).ws :: F) := by
  refine cortadoref13_Push_go _ _ _ _ _ _ _ _ _ _ _ _ _ _ _ _ _ (h.newR fun g1 w h => h.newR fun g2 w h => ?_)
  refine ⟨fun k vs w => ∃ (i : Nat) (h1 : Nat → Option Obj) (q' : Option Addr) (c' : Nat) (q2' : Option Addr) (c2' : Nat), vs = [.int .i64 (i : Int)] ∧ k + i = L.length ∧ LeH h0 h1 ∧ RsR h1 q' (2 ^ m) (nxL s m md lim t (L.take i)).R ∧ Own e w (imm h1 :: dlO q2' md c2' (nxL s m md lim t (L.take i)).ws :: blk g1 38 (trC q' c' m s q2' md c2' lim (nxL s m md lim t (L.take i)).ct (nxL s m md lim t (L.take i)).ag) :: zT g2 :: F), ⟨L.length, 0, h0, q, c, q2, c2, rfl, rfl, LeH.refl _, hS, ?_⟩, ?_⟩
  · have h : Own e w (zT g2 :: blk g1 38 (trC q c m s q2 md c2 lim (nxL s m md lim t (L.take 0)).ct (nxL s m md lim t (L.take 0)).ag) :: imm h0 :: dlO q2 md c2 (nxL s m md lim t (L.take 0)).ws :: F) := h
    exact (Own.sub (h) (by repeat (first | with_reducible exact Sub.nil _ | with_reducible exact Sub.rfl _ | (apply Sub.cons; focus ((repeat (first | with_reducible exact Pick.here | apply Pick.there)); done)) | apply Sub.drop)))
  clear h
  rintro k w n1
  intros
  rename_i hI2
  obtain ⟨i, h1, q', c', q2', c2', hvs, hk, le1, hS1, h⟩ := hI2
  obtain rfl : n1 = (i : Int) := by simpa using hvs
  refine ⟨fun hc => ?_, fun hc => ?_⟩
  · have hc := dec_t hc
    have hi : i < L.length := by omega
    have ok1 := okT_nxL (s := s) hlim.1 ok (L.take i)
    obtain ⟨t1, ht1⟩ : ∃ t1, t1 = nxL s m md lim t (L.take i) := ⟨_, rfl⟩
    have hnx := nxL_take (s := s) (m := m) (md := md) (lim := lim) (t := t) hi
    rw [← ht1] at h hS1 ok1 hnx
    refine h.drw fun w h => ⟨by omega, by omega, ((hI.mono le1) _ _ _ h).int hi fun a ha => ⟨_, _, _, _, _, _, _, _, _, _, _, _, _, _, ⟨Own.ld (g := g1) h (by repeat (first | with_reducible exact Pick.here | apply Pick.there)) rfl, Own.ld (g := g1) h (by repeat (first | with_reducible exact Pick.here | apply Pick.there)) rfl, Own.ld (g := g1) h (by repeat (first | with_reducible exact Pick.here | apply Pick.there)) rfl, Own.ld (g := g1) h (by repeat (first | with_reducible exact Pick.here | apply Pick.there)) rfl, Own.ld (g := g1) h (by repeat (first | with_reducible exact Pick.here | apply Pick.there)) rfl, Own.ld (g := g1) h (by repeat (first | with_reducible exact Pick.here | apply Pick.there)) rfl, Own.ld (g := g1) h (by repeat (first | with_reducible exact Pick.here | apply Pick.there)) rfl, Own.ld (g := g1) h (by repeat (first | with_reducible exact Pick.here | apply Pick.there)) rfl, Own.ld (g := g1) h (by repeat (first | with_reducible exact Pick.here | apply Pick.there)) rfl, Own.ld (g := g1) h (by repeat (first | with_reducible exact Pick.here | apply Pick.there)) rfl⟩, _, by rw [Int.toNat_natCast]; exact ha, ?_⟩⟩
    refine Rets.mono (trAdd (hh := L[i]) hm9 hmd hs hlim.2 hkd ok1 hS1 h) ?_
    clear h
    rintro _ w ⟨h2, q4, c4, q5, c5, rfl, le2, hS2, h⟩
    refine ⟨_, _, _, _, _, _, _, _, _, _, _, _, _, _, rfl, Own.stP' (g := g1) h (by repeat (first | with_reducible exact Pick.here | apply Pick.there)) (by simp) (by simp [Value.oneCell']) fun w h => ?_⟩
    simp only [setFrom, List.set_cons_zero, List.set_cons_succ, List.set_nil] at h
    refine ⟨k - 1, by omega, i + 1, h2, q4, c4, q5, c5, by rw [wI64 (by omega) (by omega)]; rfl, by omega, LeH.trans le1 le2, ?_, ?_⟩
    · rw [hnx]; exact hS2
    · rw [hnx]
      exact (Own.sub (h) (by repeat (first | with_reducible exact Sub.nil _ | with_reducible exact Sub.rfl _ | (apply Sub.cons; focus ((repeat (first | with_reducible exact Pick.here | apply Pick.there)); done)) | apply Sub.drop)))
  · have hc := dec_f hc
    obtain rfl : i = L.length := by omega
    rw [List.take_length] at h hS1
    obtain ⟨t1, ht1⟩ : ∃ t1, t1 = nxL s m md lim t L := ⟨_, rfl⟩
    rw [← ht1] at h hS1 ⊢
    refine ⟨_, _, _, _, _, _, _, _, _, _, _, _, _, _, ⟨Own.ld (g := g1) h (by repeat (first | with_reducible exact Pick.here | apply Pick.there)) rfl, Own.ld (g := g1) h (by repeat (first | with_reducible exact Pick.here | apply Pick.there)) rfl, Own.ld (g := g1) h (by repeat (first | with_reducible exact Pick.here | apply Pick.there)) rfl, Own.ld (g := g1) h (by repeat (first | with_reducible exact Pick.here | apply Pick.there)) rfl, Own.ld (g := g1) h (by repeat (first | with_reducible exact Pick.here | apply Pick.there)) rfl, Own.ld (g := g1) h (by repeat (first | with_reducible exact Pick.here | apply Pick.there)) rfl, Own.ld (g := g1) h (by repeat (first | with_reducible exact Pick.here | apply Pick.there)) rfl, Own.ld (g := g1) h (by repeat (first | with_reducible exact Pick.here | apply Pick.there)) rfl, Own.ld (g := g1) h (by repeat (first | with_reducible exact Pick.here | apply Pick.there)) rfl, Own.ld (g := g1) h (by repeat (first | with_reducible exact Pick.here | apply Pick.there)) rfl⟩, Own.stP' (g := g2) h (by repeat (first | with_reducible exact Pick.here | apply Pick.there)) (by simp) (by simp [Value.oneCell']) fun w h => ?_⟩
    simp only [setFrom, List.set_cons_zero, List.set_cons_succ, List.set_nil] at h
    refine ⟨_, _, _, _, _, _, _, _, _, _, _, _, _, _, ⟨Own.ld (g := g2) h (by repeat (first | with_reducible exact Pick.here | apply Pick.there)) rfl, Own.ld (g := g2) h (by repeat (first | with_reducible exact Pick.here | apply Pick.there)) rfl, Own.ld (g := g2) h (by repeat (first | with_reducible exact Pick.here | apply Pick.there)) rfl, Own.ld (g := g2) h (by repeat (first | with_reducible exact Pick.here | apply Pick.there)) rfl, Own.ld (g := g2) h (by repeat (first | with_reducible exact Pick.here | apply Pick.there)) rfl, Own.ld (g := g2) h (by repeat (first | with_reducible exact Pick.here | apply Pick.there)) rfl, Own.ld (g := g2) h (by repeat (first | with_reducible exact Pick.here | apply Pick.there)) rfl, Own.ld (g := g2) h (by repeat (first | with_reducible exact Pick.here | apply Pick.there)) rfl, Own.ld (g := g2) h (by repeat (first | with_reducible exact Pick.here | apply Pick.there)) rfl, Own.ld (g := g2) h (by repeat (first | with_reducible exact Pick.here | apply Pick.there)) rfl⟩, h1, q', c', q2', c2', rfl, le1, hS1, ?_⟩
    exact (Own.sub (h) (by repeat (first | exact Sub.nil _ | exact Sub.rfl _ | (apply Sub.cons; focus ((repeat (first | with_reducible exact Pick.here | apply Pick.there)); done)) | apply Sub.drop)))
theorem skClear {R : Nat → List Nat} (h : Own e w (skO g m s R :: F)) : Rets Tryz.prog 87 #[.pointer (some ⟨g, 0, none⟩)] w fun v w' => v = .tuple #[] ∧ Own e w' (skO g m s (fun _ => List.replicate (2 ^ m) 0) :: F) := by
  obtain ⟨a, ⟨hm, hR⟩, h⟩ := skO.op h
  obtain ⟨p1, p2⟩ := p12 hm
  refine sketch_Sketch_Clear_go _ ⟨fun hc => (by cases hc), fun _ => ⟨_, _, _, _, ⟨Own.ld (g := g) (k := 0) h (by repeat (first | with_reducible exact Pick.here | apply Pick.there)) rfl, Own.ld (g := g) (k := 1) h (by repeat (first | with_reducible exact Pick.here | apply Pick.there)) rfl, Own.ld (g := g) (k := 2) h (by repeat (first | with_reducible exact Pick.here | apply Pick.there)) rfl, Own.ld (g := g) (k := 3) h (by repeat (first | with_reducible exact Pick.here | apply Pick.there)) rfl⟩, ?_⟩⟩
  obtain ⟨R', hR'⟩ : ∃ R' : Nat → List Nat, R' = fun _ => List.replicate (2 ^ m) 0 := ⟨_, rfl⟩
  have hok' : rowsOk (2 ^ m) R' := fun j => by rw [hR']; exact ⟨nbOk_zero _, by simp⟩
  rw [← hR']
  refine ⟨fun k vs w => ∃ i : Nat, vs = [.int .i64 (i : Int)] ∧ k + i = 4 ∧ Own e w (skB g (a 0) (a 1) (a 2) (a 3) s (2 ^ m) :: rowO (a 0) (upR R R' i 0) :: rowO (a 1) (upR R R' i 1) :: rowO (a 2) (upR R R' i 2) :: rowO (a 3) (upR R R' i 3) :: F), ⟨4, 0, rfl, rfl, h⟩, ?_⟩
  clear h
  rintro k w v1 n1
  intros
  rename_i hI
  obtain ⟨i, hvs, hk, h⟩ := hI
  obtain rfl : n1 = (i : Int) := by simpa using hvs
  refine ⟨fun hc => ?_, fun hc => ?_⟩
  · have hc := dec_t hc
    have hi : i < 4 := by omega
    obtain ⟨G, h, back⟩ := skRow hi h
    refine ⟨by omega, by omega, _, getP4 hi, ?_⟩
    refine Rets.mono (nClear_spec h) ?_
    clear h
    rintro _ w ⟨rfl, h⟩
    exact ⟨rfl, k - 1, by omega, i + 1, by rw [wI64 (by omega) (by omega)]; rfl, by omega, back w (by rw [hR']; rw [(hR i).2] at h; exact h)⟩
  · have hc := dec_f hc
    obtain rfl : i = 4 := by omega
    exact ⟨rfl, skO.cl ⟨hm, hok'⟩ h⟩
theorem tClear (h : Own e w (tinT g m md s lim t :: F)) : Rets Tryz.prog 61 #[.pointer (some ⟨g, 0, none⟩)] w fun v w' => v = .tuple #[] ∧ Own e w' (tinO g m md s (fun _ => List.replicate (2 ^ m) 0) (List.replicate t.ws.length 0) 0 lim 0 :: F) := by
  obtain ⟨gs, gd, _, h⟩ := tinO.op h
  refine tiny_Tiny_Clear_go _ ⟨fun hc => (by cases hc), fun _ => ⟨_, Own.ld (g := g) (k := 0) h (by repeat (first | with_reducible exact Pick.here | apply Pick.there)) rfl, ?_⟩⟩
  have h : Own e w (skO gs m s t.R :: tinB g gs gd t.ct lim t.ag :: dorO gd md (mixI s) t.ws :: F) := h.swap
  refine Rets.mono (skClear h) ?_
  clear h
  rintro _ w ⟨rfl, h⟩
  have h : Own e w (tinB g gs gd t.ct lim t.ag :: dorO gd md (mixI s) t.ws :: skO gs m s (fun _ => List.replicate (2 ^ m) 0) :: F) := (Own.sub (h) (by repeat (first | with_reducible exact Sub.nil _ | with_reducible exact Sub.rfl _ | (apply Sub.cons; focus ((repeat (first | with_reducible exact Pick.here | apply Pick.there)); done)) | apply Sub.drop)))
  refine ⟨rfl, _, Own.ld (g := g) (k := 1) h (by repeat (first | with_reducible exact Pick.here | apply Pick.there)) rfl, ?_⟩
  refine Rets.mono (drClear h.swap) ?_
  clear h
  rintro _ w ⟨rfl, h⟩
  have h : Own e w (tinB g gs gd t.ct lim t.ag :: skO gs m s (fun _ => List.replicate (2 ^ m) 0) :: dorO gd md (mixI s) (List.replicate t.ws.length 0) :: F) := (Own.sub (h) (by repeat (first | with_reducible exact Sub.nil _ | with_reducible exact Sub.rfl _ | (apply Sub.cons; focus ((repeat (first | with_reducible exact Pick.here | apply Pick.there)); done)) | apply Sub.drop)))
  refine ⟨rfl, Own.stP (g := g) (k := 2) h (by repeat (first | with_reducible exact Pick.here | apply Pick.there)) (by simp) (by simp [Value.oneCell']) fun w h => ?_⟩
  simp only [setFrom, List.set_cons_zero, List.set_cons_succ, List.set_nil] at h
  refine Own.stP (g := g) (k := 4) h (by repeat (first | with_reducible exact Pick.here | apply Pick.there)) (by simp) (by simp [Value.oneCell']) fun w h => ⟨rfl, ?_⟩
  simp only [setFrom, List.set_cons_zero, List.set_cons_succ, List.set_nil] at h
  exact tinO.cl h
end
abbrev pcC (q : Option Addr) (c m : Nat) (sd : Int) (q2 : Option Addr) (md c2 : Nat) (lim ct ag : Int) (ql : Option Addr) (nl cl : Nat) (mo : Int) : List Value := [.slice q 4 c, .int .i64 ((2 ^ m : Nat) : Int), .int .u64 sd, .slice q2 (2 ^ md) c2, .int .u64 sd, .int .i64 ct, .int .i64 lim, .int .i64 ag, .int .i64 0, .int .u64 sd, .slice ql nl cl, .int .i64 mo]
abbrev pcV (q : Option Addr) (c m : Nat) (sd : Int) (q2 : Option Addr) (md c2 : Nat) (lim ct ag : Int) (ql : Option Addr) (nl cl : Nat) (mo : Int) : Value := .agg #[.slice q 4 c, .int .i64 ((2 ^ m : Nat) : Int), .int .u64 sd, .slice q2 (2 ^ md) c2, .int .u64 sd, .int .i64 ct, .int .i64 lim, .int .i64 ag, .int .i64 0, .int .u64 sd, .slice ql nl cl, .int .i64 mo]
section
variable {e w : World} {F : List HP} {h0 : Nat → Option Obj} {q q2 qd ql qi : Option Addr} {c c2 cd cl ci gy m md u : Nat} {D ins : List Int} {sd lim s2 most : Int} {ts : Ts} {s : Lg} {vs : LE2}
theorem rOne (hm9 : m ≤ 9) (hmd : md ≤ 20) (hsd : M64 sd) (okt : okT m md lim ts) (hs2 : M64 s2) (hD : D.length * 8 ≤ 140737488351232) (hd : ImR h0 qd (cs .i64 D)) (hS : RsR h0 q (2 ^ m) ts.R) (ok : LgOk s) (hsz : s.t.size ≤ 100) (hI : ImR h0 ql (E24 s.t.toL)) (hcl : s.t.toL.length ≤ cl) (hii : ImR h0 qi (cs .u64 ins)) (hin : ins.Nodup) (hik : ∀ x ∈ ins, x ∈ keysP s.t.toL) (hil : ins.length ≤ 4) (hu : u ≤ 8000)
    (h : Own e w (imm h0 :: dlO q2 md c2 ts.ws :: rdO gy qd D.length cd s2 u :: F)) :
    Rets Tryz.prog 78 #[pcV q c m sd q2 md c2 lim ts.ct ts.ag ql s.t.toL.length cl s.most, .slice qi ins.length ci, .pointer (some ⟨gy, 0, none⟩), .int .i64 most] w fun v w' => ∃ (b : Bool) (s' : Lg) (ins' : List Int) (vs' : LE2) (u' : Nat) (h1 : Nat → Option Obj) (ql' : Option Addr) (cl' : Nat) (qi' : Option Addr) (ci' : Nat) (vx : Int × Int),
      mst D s2 (esT sd m md ts) most ⟨s, ins, vs, u⟩ = (b, ⟨s', ins', vs', u'⟩) ∧ v = .tuple #[pcV q c m sd q2 md c2 lim ts.ct ts.ag ql' s'.t.toL.length cl' s'.most, .slice qi' ins'.length ci', .agg #[.int .u64 vx.1, .int .i64 vx.2], .bool b] ∧ LeH h0 h1 ∧ ImR h1 ql' (E24 s'.t.toL) ∧ s'.t.toL.length ≤ cl' ∧ ImR h1 qi' (cs .u64 ins') ∧ (b = false → s' = s ∧ vs' = vs) ∧ (b = true → vs' = vs ++ [vx] ∧ ins'.Nodup ∧ (∀ x ∈ ins', x ∈ keysP s'.t.toL) ∧ ins'.length ≤ 4 ∧ LgOk s' ∧ s'.t.size < s.t.size) ∧ u' ≤ u + 5 ∧ Own e w' (imm h1 :: dlO q2 md c2 ts.ws :: rdO gy qd D.length cd s2 u' :: F) := by
  have hkl := Tr.size_toL s.t
  refine cortadoref26_one_go _ _ _ _ _ _ _ _ _ _ _ _ _ _ _ _ _ _ _ _ _ _ _ ?_
  unfold cortadoref26_one_m
  refine h.newR fun a1 w h => h.newR fun a2 w h => h.newR fun a3 w h => ?_
  simp only [addr_add_add, Nat.zero_add]
  have h : Own e w (imm h0 :: rdO gy qd D.length cd s2 u :: blk a1 43 (pcC q c m sd q2 md c2 lim ts.ct ts.ag ql s.t.toL.length cl s.most) :: blk a2 43 ([.slice none 0 0, .int .i64 0, .int .u64 0, .slice none 0 0, .int .u64 0, .int .i64 0, .int .i64 0, .int .i64 0, .int .i64 0, .int .u64 0, .slice none 0 0, .int .i64 0]) :: blk a3 115 [.int .u64 0, .int .i64 0] :: dlO q2 md c2 ts.ws :: F) := (Own.sub (h) (by repeat (first | with_reducible exact Sub.nil _ | with_reducible exact Sub.rfl _ | (apply Sub.cons; focus ((repeat (first | with_reducible exact Pick.here | apply Pick.there)); done)) | apply Sub.drop)))
  refine ⟨_, _, _, _, ⟨Own.ld (g := a1) (k := 10) h (by repeat (first | with_reducible exact Pick.here | apply Pick.there)) rfl, Own.ld (g := a1) (k := 11) h (by repeat (first | with_reducible exact Pick.here | apply Pick.there)) rfl⟩, ?_⟩
  refine Rets.mono (rFillS (ins := ins) (c2 := ci) (L := s.t.toL) (m := s.most) (by omega) (by omega) (by omega) hs2 hD hI (fun w F h => hd e w F h) (fun w F h => hii e w F h) h) ?_
  clear h
  rintro _ w ⟨h1, q9, c9, rfl, le1, h⟩
  obtain ⟨x1, x2, x3, _, x5⟩ := filS_law (ks := keysP s.t.toL) (bel := belN D s2 (keysP s.t.toL).length) (keysP_nodup ok.1) 5 (out := ins) (u := u) hin hik (by omega) (by omega)
  obtain ⟨R, hR⟩ : ∃ R, R = outS D s2 (keysL s.t.toL) ins u := ⟨_, rfl⟩
  have x1 : (outS D s2 (keysL s.t.toL) ins u).1.Nodup := x1
  have x2 : ∀ x ∈ (outS D s2 (keysL s.t.toL) ins u).1, x ∈ keysP s.t.toL := x2
  have x3 : (outS D s2 (keysL s.t.toL) ins u).1.length = min 5 (keysP s.t.toL).length := x3
  have x5 : (outS D s2 (keysL s.t.toL) ins u).2 ≤ u + 5 := x5
  rw [← hR] at h x1 x2 x3 x5 ⊢
  obtain ⟨out, u1⟩ := R
  have x1 : out.Nodup := x1
  have x2 : ∀ x ∈ out, x ∈ keysP s.t.toL := x2
  have x3 : out.length = min 5 (keysP s.t.toL).length := x3
  have x5 : u1 ≤ u + 5 := x5
  have mf := mst_f (vs := vs) (most := most) (est := esT sd m md ts) hR
  have mt := mst_t (vs := vs) (most := most) (est := esT sd m md ts) hR
  clear hR
  obtain ⟨h2, le2, IO, hcO, h⟩ := h.slImm
  have le12 := LeH.trans le1 le2
  have hS2 := hS.mono le12
  have hI2 := hI.mono le12
  let Hs : Nat → List Int := fun i => (out.take i).map (esT sd m md ts)
  have hHs : ∀ i, Hs i = (out.take i).map (esT sd m md ts) := fun i => rfl
  refine ⟨_, _, _, rfl, fun k vs' w => ∃ (i : Nat) (q' : Option Addr) (c' : Nat), vs' = [.slice q' (Hs i).length c', .int .i64 (i : Int)] ∧ k + i = out.length ∧ Own e w (imm h2 :: inB q' (Hs i).length c' (Hs i) :: rdO gy qd D.length cd s2 u1 :: blk a1 43 (pcC q c m sd q2 md c2 lim ts.ct ts.ag ql s.t.toL.length cl s.most) :: blk a2 43 ([.slice none 0 0, .int .i64 0, .int .u64 0, .slice none 0 0, .int .u64 0, .int .i64 0, .int .i64 0, .int .i64 0, .int .i64 0, .int .u64 0, .slice none 0 0, .int .i64 0]) :: blk a3 115 [.int .u64 0, .int .i64 0] :: dlO q2 md c2 ts.ws :: F), ⟨out.length, 0, none, 0, rfl, rfl, ?_⟩, ?_⟩
  · have h : Own e w (inB none 0 0 [] :: imm h2 :: rdO gy qd D.length cd s2 u1 :: blk a1 43 (pcC q c m sd q2 md c2 lim ts.ct ts.ag ql s.t.toL.length cl s.most) :: blk a2 43 ([.slice none 0 0, .int .i64 0, .int .u64 0, .slice none 0 0, .int .u64 0, .int .i64 0, .int .i64 0, .int .i64 0, .int .i64 0, .int .u64 0, .slice none 0 0, .int .i64 0]) :: blk a3 115 [.int .u64 0, .int .i64 0] :: dlO q2 md c2 ts.ws :: F) := h.slNil
    exact h.swap
  clear h
  intro k w q3 k7 k8 n2
  intros
  rename_i hI3
  obtain ⟨i, q', c', hvs, hk, h⟩ := hI3
  obtain ⟨⟨rfl, rfl, rfl⟩, rfl⟩ : (q3 = q' ∧ k7 = (Hs i).length ∧ k8 = c') ∧ n2 = (i : Int) := by simpa using hvs
  have hlo : out.length ≤ 5 := by rw [x3]; exact Nat.min_le_left _ _
  refine ⟨fun hc => ?_, fun hc => ?_⟩
  · have hc := dec_t hc
    have hi : i < out.length := by omega
    refine h.drw fun w h => ⟨by omega, hc, (IO _ _ _ h).int hi fun a ha => ⟨_, _, _, _, _, _, _, _, _, _, _, _, _, _, ⟨Own.ld (g := a1) h (by repeat (first | with_reducible exact Pick.here | apply Pick.there)) rfl, Own.ld (g := a1) h (by repeat (first | with_reducible exact Pick.here | apply Pick.there)) rfl, Own.ld (g := a1) h (by repeat (first | with_reducible exact Pick.here | apply Pick.there)) rfl, Own.ld (g := a1) h (by repeat (first | with_reducible exact Pick.here | apply Pick.there)) rfl, Own.ld (g := a1) h (by repeat (first | with_reducible exact Pick.here | apply Pick.there)) rfl, Own.ld (g := a1) h (by repeat (first | with_reducible exact Pick.here | apply Pick.there)) rfl, Own.ld (g := a1) h (by repeat (first | with_reducible exact Pick.here | apply Pick.there)) rfl, Own.ld (g := a1) h (by repeat (first | with_reducible exact Pick.here | apply Pick.there)) rfl, Own.ld (g := a1) h (by repeat (first | with_reducible exact Pick.here | apply Pick.there)) rfl, Own.ld (g := a1) h (by repeat (first | with_reducible exact Pick.here | apply Pick.there)) rfl⟩, out[i], by rw [Int.toNat_natCast]; exact ha, ?_⟩⟩
    refine Rets.mono (trEst (hh := out[i]) hm9 hmd hsd okt hS2 (fun w h => Own.rdP (T := 4) (q := q2) h (by repeat (first | with_reducible exact Pick.here | apply Pick.there))) h) ?_
    clear h
    rintro _ w ⟨rfl, h⟩
    refine ⟨_, rfl, h.newR fun a5 w h => ?_⟩
    have h : Own e w (blk a5 3 (cs .i64 [esT sd m md ts out[i]]) :: imm h2 :: inB q3 (Hs i).length k8 (Hs i) :: rdO gy qd D.length cd s2 u1 :: blk a1 43 (pcC q c m sd q2 md c2 lim ts.ct ts.ag ql s.t.toL.length cl s.most) :: blk a2 43 ([.slice none 0 0, .int .i64 0, .int .u64 0, .slice none 0 0, .int .u64 0, .int .i64 0, .int .i64 0, .int .i64 0, .int .i64 0, .int .u64 0, .slice none 0 0, .int .i64 0]) :: blk a3 115 [.int .u64 0, .int .i64 0] :: dlO q2 md c2 ts.ws :: F) := h
    have h : Own e w (blk a5 3 (cs .i64 [esT sd m md ts out[i]]) :: inB q3 (Hs i).length k8 (Hs i) :: imm h2 :: rdO gy qd D.length cd s2 u1 :: blk a1 43 (pcC q c m sd q2 md c2 lim ts.ct ts.ag ql s.t.toL.length cl s.most) :: blk a2 43 ([.slice none 0 0, .int .i64 0, .int .u64 0, .slice none 0 0, .int .u64 0, .int .i64 0, .int .i64 0, .int .i64 0, .int .i64 0, .int .u64 0, .slice none 0 0, .int .i64 0]) :: blk a3 115 [.int .u64 0, .int .i64 0] :: dlO q2 md c2 ts.ws :: F) := (Own.sub (h) (by repeat (first | with_reducible exact Sub.nil _ | with_reducible exact Sub.rfl _ | (apply Sub.cons; focus ((repeat (first | with_reducible exact Pick.here | apply Pick.there)); done)) | apply Sub.drop)))
    have lH : (Hs i).length ≤ 5 := by rw [hHs, List.length_map, List.length_take]; omega
    refine put64 (m := 1) h rfl (by omega) fun q' c' w h => ⟨_, _, _, rfl, k - 1, by omega, i + 1, q', c', ?_, by omega, ?_⟩
    · have eH : Hs (i + 1) = Hs i ++ [esT sd m md ts out[i]] := by rw [hHs, hHs, List.take_succ_eq_append_getElem hi, List.map_append]; rfl
      have eL : (Hs i).length + 1 = (Hs (i + 1)).length := by rw [eH]; simp
      rw [wI64 (by omega) (by omega), eL]; rfl
    · have eH : Hs (i + 1) = Hs i ++ [esT sd m md ts out[i]] := by rw [hHs, hHs, List.take_succ_eq_append_getElem hi, List.map_append]; rfl
      have eL : (Hs i).length + 1 = (Hs (i + 1)).length := by rw [eH]; simp
      rw [eL, ← eH] at h
      exact h.swap
  have hc := dec_f hc
  obtain rfl : i = out.length := by omega
  have eH : Hs out.length = out.map (esT sd m md ts) := by rw [hHs, List.take_length]
  rw [eH] at h ⊢
  have hml : (out.map (esT sd m md ts)).length = out.length := by simp
  refine Rets.mono (rLeast (l := out.map (esT sd m md ts)) (c := k8) (by omega) (fun w h => Own.rdP (T := 3) (q := q3) h (by repeat (first | with_reducible exact Pick.here | apply Pick.there))) h) ?_
  clear h
  rintro _ w ⟨rfl, h⟩
  have elv : lstV (out.map (esT sd m md ts)) = .tuple #[.int .i64 ((amin (out.map (esT sd m md ts)) out.length : Nat) : Int), .int .i64 ((out.map (esT sd m md ts)).getD (amin (out.map (esT sd m md ts)) out.length) 0), .bool (decide (0 < out.length))] := by
    show Value.tuple #[.int .i64 ((amin (out.map (esT sd m md ts)) (out.map (esT sd m md ts)).length : Nat) : Int), .int .i64 ((out.map (esT sd m md ts)).getD (amin (out.map (esT sd m md ts)) (out.map (esT sd m md ts)).length) 0), .bool (decide (0 < (out.map (esT sd m md ts)).length))] = _
    rw [hml]
  rw [elv]
  clear elv
  have h : Own e w (imm h2 :: rdO gy qd D.length cd s2 u1 :: blk a1 43 (pcC q c m sd q2 md c2 lim ts.ct ts.ag ql s.t.toL.length cl s.most) :: blk a2 43 ([.slice none 0 0, .int .i64 0, .int .u64 0, .slice none 0 0, .int .u64 0, .int .i64 0, .int .i64 0, .int .i64 0, .int .i64 0, .int .u64 0, .slice none 0 0, .int .i64 0]) :: blk a3 115 [.int .u64 0, .int .i64 0] :: dlO q2 md c2 ts.ws :: F) := (Own.sub (h) (by repeat (first | with_reducible exact Sub.nil _ | with_reducible exact Sub.rfl _ | (apply Sub.cons; focus ((repeat (first | with_reducible exact Pick.here | apply Pick.there)); done)) | apply Sub.drop)))
  have hal : 0 < out.length → amin (out.map (esT sd m md ts)) out.length < out.length := fun h0 => by
    have := amin_lt (out.map (esT sd m md ts)) (by simpa using h0) out.length (by simp)
    simpa using this
  clear hHs eH
  generalize amin (out.map (esT sd m md ts)) out.length = at_ at hal mf mt ⊢
  generalize (out.map (esT sd m md ts)).getD at_ 0 = lv at mf mt ⊢
  refine ⟨_, _, _, rfl, fun vs' w => vs' = [.bool (!decide (0 < out.length) || decide (lv > most))] ∧ Own e w (imm h2 :: rdO gy qd D.length cd s2 u1 :: blk a1 43 (pcC q c m sd q2 md c2 lim ts.ct ts.ag ql s.t.toL.length cl s.most) :: blk a2 43 ([.slice none 0 0, .int .i64 0, .int .u64 0, .slice none 0 0, .int .u64 0, .int .i64 0, .int .i64 0, .int .i64 0, .int .i64 0, .int .u64 0, .slice none 0 0, .int .i64 0]) :: blk a3 115 [.int .u64 0, .int .i64 0] :: dlO q2 md c2 ts.ws :: F), ⟨fun hq => ⟨?_, h⟩, fun hq => ⟨?_, h⟩⟩, ?_⟩
  · rw [hq, Bool.false_or]
  · rw [hq, Bool.true_or]
  clear h
  intro w
  intros
  rename_i b2 hI4
  obtain ⟨hvs2, h⟩ := hI4
  obtain rfl : b2 = (!decide (0 < out.length) || decide (lv > most)) := by simpa using hvs2
  refine ⟨fun hq => ?_, fun hq => ?_⟩
  · have hq : out.length = 0 ∨ most < lv := by
      rcases Bool.or_eq_true _ _ ▸ hq with h1 | h1
      · left; simpa using h1
      · right; simpa using h1
    refine ⟨_, _, _, _, _, _, _, _, _, _, _, _, _, _, _, _, _, _, ⟨Own.ld (g := a1) h (by repeat (first | with_reducible exact Pick.here | apply Pick.there)) rfl, Own.ld (g := a1) h (by repeat (first | with_reducible exact Pick.here | apply Pick.there)) rfl, Own.ld (g := a1) h (by repeat (first | with_reducible exact Pick.here | apply Pick.there)) rfl, Own.ld (g := a1) h (by repeat (first | with_reducible exact Pick.here | apply Pick.there)) rfl, Own.ld (g := a1) h (by repeat (first | with_reducible exact Pick.here | apply Pick.there)) rfl, Own.ld (g := a1) h (by repeat (first | with_reducible exact Pick.here | apply Pick.there)) rfl, Own.ld (g := a1) h (by repeat (first | with_reducible exact Pick.here | apply Pick.there)) rfl, Own.ld (g := a1) h (by repeat (first | with_reducible exact Pick.here | apply Pick.there)) rfl, Own.ld (g := a1) h (by repeat (first | with_reducible exact Pick.here | apply Pick.there)) rfl, Own.ld (g := a1) h (by repeat (first | with_reducible exact Pick.here | apply Pick.there)) rfl, Own.ld (g := a1) h (by repeat (first | with_reducible exact Pick.here | apply Pick.there)) rfl, Own.ld (g := a1) h (by repeat (first | with_reducible exact Pick.here | apply Pick.there)) rfl⟩, ?_⟩
    refine Own.stP' (g := a2) h (by repeat (first | with_reducible exact Pick.here | apply Pick.there)) (by simp) (by simp [Value.oneCell']) fun w h => ?_
    simp only [setFrom, List.set_cons_zero, List.set_cons_succ, List.set_nil] at h
    refine Own.stP' (g := a3) h (by repeat (first | with_reducible exact Pick.here | apply Pick.there)) (by simp) (by simp [Value.oneCell']) fun w h => ?_
    simp only [setFrom, List.set_cons_zero, List.set_cons_succ, List.set_nil] at h
    refine ⟨_, _, _, _, _, _, _, _, _, _, _, _, _, _, _, _, _, _, ⟨Own.ld (g := a2) h (by repeat (first | with_reducible exact Pick.here | apply Pick.there)) rfl, Own.ld (g := a2) h (by repeat (first | with_reducible exact Pick.here | apply Pick.there)) rfl, Own.ld (g := a2) h (by repeat (first | with_reducible exact Pick.here | apply Pick.there)) rfl, Own.ld (g := a2) h (by repeat (first | with_reducible exact Pick.here | apply Pick.there)) rfl, Own.ld (g := a2) h (by repeat (first | with_reducible exact Pick.here | apply Pick.there)) rfl, Own.ld (g := a2) h (by repeat (first | with_reducible exact Pick.here | apply Pick.there)) rfl, Own.ld (g := a2) h (by repeat (first | with_reducible exact Pick.here | apply Pick.there)) rfl, Own.ld (g := a2) h (by repeat (first | with_reducible exact Pick.here | apply Pick.there)) rfl, Own.ld (g := a2) h (by repeat (first | with_reducible exact Pick.here | apply Pick.there)) rfl, Own.ld (g := a2) h (by repeat (first | with_reducible exact Pick.here | apply Pick.there)) rfl, Own.ld (g := a2) h (by repeat (first | with_reducible exact Pick.here | apply Pick.there)) rfl, Own.ld (g := a2) h (by repeat (first | with_reducible exact Pick.here | apply Pick.there)) rfl⟩, _, _, ⟨Own.ld (g := a3) h (by repeat (first | with_reducible exact Pick.here | apply Pick.there)) rfl, Own.ld (g := a3) h (by repeat (first | with_reducible exact Pick.here | apply Pick.there)) rfl⟩, false, s, out, vs, u1, h2, ql, cl, q9, c9, (0, 0), mf hq, (by first | trivial | rfl), le12, hI2, hcl, IO, fun _ => ⟨rfl, rfl⟩, fun hb => (by cases hb), x5, ?_⟩
    exact (Own.sub (h) (by repeat (first | with_reducible exact Sub.nil _ | with_reducible exact Sub.rfl _ | (apply Sub.cons; focus ((repeat (first | with_reducible exact Pick.here | apply Pick.there)); done)) | apply Sub.drop)))
  · have hq : 0 < out.length ∧ lv ≤ most := by
      rw [Bool.or_eq_false_iff] at hq
      obtain ⟨h1, h2⟩ := hq
      refine ⟨by simpa using h1, ?_⟩
      have := of_decide_eq_false h2
      omega
    have hat := hal hq.1
    have mt := mt (by omega)
    rw [show out.getD at_ 0 = out[at_] by rw [List.getD_eq_getElem?_getD, List.getElem?_eq_getElem hat]; rfl] at mt
    obtain ⟨x, hx⟩ : ∃ x, x = out[at_] := ⟨_, rfl⟩
    have hxk : x ∈ keysP s.t.toL := by rw [hx]; exact x2 _ (List.getElem_mem hat)
    obtain ⟨w1, w2⟩ := woL_sub x1 hat
    rw [← hx] at w2 mt
    have rdx : ∀ {w G}, Own e w (imm h2 :: G) → ∀ {k : Addr → Prop}, (∀ a, cellAt w (a.add (Int.toNat (at_ : Int) * 1)) (.int .u64 x) → k a) → someR q9 k := fun {w G} h {k} hk => (IO _ _ _ h).int hat fun a ha => hk a (by rw [Int.toNat_natCast, hx]; exact ha)
    refine ⟨fun vs' w => vs' = [.int .i64 (lval x s.t.toL)] ∧ Own e w (imm h2 :: rdO gy qd D.length cd s2 u1 :: blk a1 43 (pcC q c m sd q2 md c2 lim ts.ct ts.ag ql s.t.toL.length cl s.most) :: blk a2 43 ([.slice none 0 0, .int .i64 0, .int .u64 0, .slice none 0 0, .int .u64 0, .int .i64 0, .int .i64 0, .int .i64 0, .int .i64 0, .int .u64 0, .slice none 0 0, .int .i64 0]) :: blk a3 115 [.int .u64 0, .int .i64 0] :: dlO q2 md c2 ts.ws :: F), h.drw fun w h => ⟨by omega, by omega, rdx h fun a ha => ⟨_, _, _, _, ⟨Own.ld (g := a1) (k := 10) h (by repeat (first | with_reducible exact Pick.here | apply Pick.there)) rfl, Own.ld (g := a1) (k := 11) h (by repeat (first | with_reducible exact Pick.here | apply Pick.there)) rfl⟩, _, ha, ?_⟩⟩, ?_⟩
    · refine Rets.mono (rCost (k := x) (by omega) hI2 h) ?_
      clear h
      rintro _ w ⟨rfl, h⟩
      exact ⟨_, _, rfl, rfl, h⟩
    clear h
    intro w n38
    intros
    rename_i hI5
    obtain ⟨hvs3, h⟩ := hI5
    obtain rfl : n38 = lval x s.t.toL := by simpa using hvs3
    refine ⟨by omega, by omega, rdx h fun a ha => ⟨_, ha, h.newR fun a8 w h => ?_⟩⟩
    refine Own.stP' (g := a8) h (by repeat (first | with_reducible exact Pick.here | apply Pick.there)) (by simp) (by simp [Value.oneCell']) fun w h => ?_
    simp only [setFrom, List.set_cons_zero, List.set_cons_succ, List.set_nil] at h
    have h : Own e w (imm h2 :: blk a8 115 [.int .u64 x, .int .i64 (lval x s.t.toL)] :: rdO gy qd D.length cd s2 u1 :: blk a1 43 (pcC q c m sd q2 md c2 lim ts.ct ts.ag ql s.t.toL.length cl s.most) :: blk a2 43 ([.slice none 0 0, .int .i64 0, .int .u64 0, .slice none 0 0, .int .u64 0, .int .i64 0, .int .i64 0, .int .i64 0, .int .i64 0, .int .u64 0, .slice none 0 0, .int .i64 0]) :: blk a3 115 [.int .u64 0, .int .i64 0] :: dlO q2 md c2 ts.ws :: F) := (Own.sub (h) (by repeat (first | with_reducible exact Sub.nil _ | with_reducible exact Sub.rfl _ | (apply Sub.cons; focus ((repeat (first | with_reducible exact Pick.here | apply Pick.there)); done)) | apply Sub.drop)))
    refine ⟨fun vs' w => ∃ (h3 : Nat → Option Obj) (ql' : Option Addr) (cl' : Nat), LeH h2 h3 ∧ ImR h3 ql' (E24 (lgDrop x s).t.toL) ∧ (lgDrop x s).t.toL.length ≤ cl' ∧ Own e w (imm h3 :: blk a8 115 [.int .u64 x, .int .i64 (lval x s.t.toL)] :: rdO gy qd D.length cd s2 u1 :: blk a1 43 (pcC q c m sd q2 md c2 lim ts.ct ts.ag ql' (lgDrop x s).t.toL.length cl' s.most) :: blk a2 43 ([.slice none 0 0, .int .i64 0, .int .u64 0, .slice none 0 0, .int .u64 0, .int .i64 0, .int .i64 0, .int .i64 0, .int .i64 0, .int .u64 0, .slice none 0 0, .int .i64 0]) :: blk a3 115 [.int .u64 0, .int .i64 0] :: dlO q2 md c2 ts.ws :: F), h.drw fun w h => ⟨by omega, by omega, rdx h fun a ha => ⟨_, _, _, _, ⟨Own.ld (g := a1) (k := 10) h (by repeat (first | with_reducible exact Pick.here | apply Pick.there)) rfl, Own.ld (g := a1) (k := 11) h (by repeat (first | with_reducible exact Pick.here | apply Pick.there)) rfl⟩, _, ha, ?_⟩⟩, ?_⟩
    · refine Rets.mono (rDrop (k := x) (by omega) hI2 h) ?_
      clear h
      rintro _ w ⟨h3, ql3, cl3, rfl, le3, hI3, hcl3, h⟩
      refine ⟨_, _, _, _, rfl, Own.stP (g := a1) (k := 10) h (by repeat (first | with_reducible exact Pick.here | apply Pick.there)) (by simp) (by simp [Value.oneCell']) fun w h => ⟨h3, ql3, cl3, le3, by rw [lgDrop_toLP ok.1]; exact hI3, by rw [lgDrop_toLP ok.1]; exact hcl3, ?_⟩⟩
      simp only [setFrom, List.set_cons_zero, List.set_cons_succ, List.set_nil] at h
      rw [lgDrop_toLP ok.1]
      exact (Own.sub (h) (by repeat (first | with_reducible exact Sub.nil _ | with_reducible exact Sub.rfl _ | (apply Sub.cons; focus ((repeat (first | with_reducible exact Pick.here | apply Pick.there)); done)) | apply Sub.drop)))
    clear h
    intro w
    intros
    rename_i hI6
    obtain ⟨h3, ql3, cl3, le3, hI3, hcl3, h⟩ := hI6
    have IO3 := IO.mono le3
    let S : World → Prop := fun w => ∃ F', Own e w (blk a1 43 (pcC q c m sd q2 md c2 lim ts.ct ts.ag ql3 (lgDrop x s).t.toL.length cl3 s.most) :: blk a8 115 [.int .u64 x, .int .i64 (lval x s.t.toL)] :: F')
    refine ⟨fun vs' w => ∃ (h4 : Nat → Option Obj) (q' : Option Addr) (c' : Nat), vs' = [.slice q' (woL out at_).length c', .bool true] ∧ LeH h3 h4 ∧ ImR h4 q' (cs .u64 (woL out at_)) ∧ Own e w (imm h4 :: rdO gy qd D.length cd s2 u1 :: blk a2 43 (pcC q c m sd q2 md c2 lim ts.ct ts.ag ql3 (lgDrop x s).t.toL.length cl3 s.most) :: blk a3 115 [.int .u64 x, .int .i64 (lval x s.t.toL)] :: dlO q2 md c2 ts.ws :: F), h.drw fun w h => ⟨S, ⟨_, (Own.sub (h) (by repeat (first | with_reducible exact Sub.nil _ | with_reducible exact Sub.rfl _ | (apply Sub.cons; focus ((repeat (first | with_reducible exact Pick.here | apply Pick.there)); done)) | apply Sub.drop)))⟩, _, _, _, _, _, _, _, _, _, _, _, _, _, _, _, _, _, _, ⟨fun w h => h.elim fun F' h => Own.ld (g := a1) h (by repeat (first | with_reducible exact Pick.here | apply Pick.there)) rfl, fun w h => h.elim fun F' h => Own.ld (g := a1) h (by repeat (first | with_reducible exact Pick.here | apply Pick.there)) rfl, fun w h => h.elim fun F' h => Own.ld (g := a1) h (by repeat (first | with_reducible exact Pick.here | apply Pick.there)) rfl, fun w h => h.elim fun F' h => Own.ld (g := a1) h (by repeat (first | with_reducible exact Pick.here | apply Pick.there)) rfl, fun w h => h.elim fun F' h => Own.ld (g := a1) h (by repeat (first | with_reducible exact Pick.here | apply Pick.there)) rfl, fun w h => h.elim fun F' h => Own.ld (g := a1) h (by repeat (first | with_reducible exact Pick.here | apply Pick.there)) rfl, fun w h => h.elim fun F' h => Own.ld (g := a1) h (by repeat (first | with_reducible exact Pick.here | apply Pick.there)) rfl, fun w h => h.elim fun F' h => Own.ld (g := a1) h (by repeat (first | with_reducible exact Pick.here | apply Pick.there)) rfl, fun w h => h.elim fun F' h => Own.ld (g := a1) h (by repeat (first | with_reducible exact Pick.here | apply Pick.there)) rfl, fun w h => h.elim fun F' h => Own.ld (g := a1) h (by repeat (first | with_reducible exact Pick.here | apply Pick.there)) rfl, fun w h => h.elim fun F' h => Own.ld (g := a1) h (by repeat (first | with_reducible exact Pick.here | apply Pick.there)) rfl, fun w h => h.elim fun F' h => Own.ld (g := a1) h (by repeat (first | with_reducible exact Pick.here | apply Pick.there)) rfl⟩, _, _, ⟨fun w h => h.elim fun F' h => Own.ld (g := a8) h (by repeat (first | with_reducible exact Pick.here | apply Pick.there)) rfl, fun w h => h.elim fun F' h => Own.ld (g := a8) h (by repeat (first | with_reducible exact Pick.here | apply Pick.there)) rfl⟩, ?_⟩, ?_⟩
    · refine Rets.mono (rWo (c := c9) (i := (at_ : Int)) (ins := out) (by omega) IO3 (by omega) h) ?_
      clear h
      rintro _ w ⟨h4, q10, c10, rfl, le4, I4, h⟩
      have ewo : woZ out (at_ : Int) = woL out at_ := by unfold woZ; rw [if_neg (by omega), Int.toNat_natCast]
      rw [ewo] at I4 ⊢
      refine ⟨_, _, _, rfl, ⟨_, (Own.sub (h) (by repeat (first | with_reducible exact Sub.nil _ | with_reducible exact Sub.rfl _ | (apply Sub.cons; focus ((repeat (first | with_reducible exact Pick.here | apply Pick.there)); done)) | apply Sub.drop)))⟩, Own.stP' (g := a2) h (by repeat (first | with_reducible exact Pick.here | apply Pick.there)) (by simp) (by simp [Value.oneCell']) fun w h => ?_⟩
      simp only [setFrom, List.set_cons_zero, List.set_cons_succ, List.set_nil] at h
      refine ⟨⟨_, (Own.sub (h) (by repeat (first | with_reducible exact Sub.nil _ | with_reducible exact Sub.rfl _ | (apply Sub.cons; focus ((repeat (first | with_reducible exact Pick.here | apply Pick.there)); done)) | apply Sub.drop)))⟩, Own.stP' (g := a3) h (by repeat (first | with_reducible exact Pick.here | apply Pick.there)) (by simp) (by simp [Value.oneCell']) fun w h => ?_⟩
      simp only [setFrom, List.set_cons_zero, List.set_cons_succ, List.set_nil] at h
      exact ⟨h4, q10, c10, rfl, le4, I4, (Own.sub (h) (by repeat (first | with_reducible exact Sub.nil _ | with_reducible exact Sub.rfl _ | (apply Sub.cons; focus ((repeat (first | with_reducible exact Pick.here | apply Pick.there)); done)) | apply Sub.drop)))⟩
    clear h
    intro w q20 k42 k43 b4
    intros
    rename_i hI7
    obtain ⟨h4, q10, c10, hvs4, le4, I4, h⟩ := hI7
    obtain ⟨⟨rfl, rfl, rfl⟩, rfl⟩ : (q20 = q10 ∧ k42 = (woL out at_).length ∧ k43 = c10) ∧ b4 = true := by simpa using hvs4
    have hdl := drop_less ok.1 hxk
    refine ⟨_, _, _, _, _, _, _, _, _, _, _, _, _, _, _, _, _, _, ⟨Own.ld (g := a2) h (by repeat (first | with_reducible exact Pick.here | apply Pick.there)) rfl, Own.ld (g := a2) h (by repeat (first | with_reducible exact Pick.here | apply Pick.there)) rfl, Own.ld (g := a2) h (by repeat (first | with_reducible exact Pick.here | apply Pick.there)) rfl, Own.ld (g := a2) h (by repeat (first | with_reducible exact Pick.here | apply Pick.there)) rfl, Own.ld (g := a2) h (by repeat (first | with_reducible exact Pick.here | apply Pick.there)) rfl, Own.ld (g := a2) h (by repeat (first | with_reducible exact Pick.here | apply Pick.there)) rfl, Own.ld (g := a2) h (by repeat (first | with_reducible exact Pick.here | apply Pick.there)) rfl, Own.ld (g := a2) h (by repeat (first | with_reducible exact Pick.here | apply Pick.there)) rfl, Own.ld (g := a2) h (by repeat (first | with_reducible exact Pick.here | apply Pick.there)) rfl, Own.ld (g := a2) h (by repeat (first | with_reducible exact Pick.here | apply Pick.there)) rfl, Own.ld (g := a2) h (by repeat (first | with_reducible exact Pick.here | apply Pick.there)) rfl, Own.ld (g := a2) h (by repeat (first | with_reducible exact Pick.here | apply Pick.there)) rfl⟩, _, _, ⟨Own.ld (g := a3) h (by repeat (first | with_reducible exact Pick.here | apply Pick.there)) rfl, Own.ld (g := a3) h (by repeat (first | with_reducible exact Pick.here | apply Pick.there)) rfl⟩, true, lgDrop x s, woL out at_, vs ++ [(x, lval x s.t.toL)], u1, h4, ql3, cl3, q20, k43, (x, lval x s.t.toL), mt, (by first | trivial | rw [lgDrop_mostP]), LeH.trans le12 (LeH.trans le3 le4), hI3.mono le4, hcl3, I4, fun hb => (by cases hb), fun _ => ⟨rfl, w1, fun y hy => ?_, ?_, ok.drop, hdl⟩, x5, (Own.sub (h) (by repeat (first | with_reducible exact Sub.nil _ | with_reducible exact Sub.rfl _ | (apply Sub.cons; focus ((repeat (first | with_reducible exact Pick.here | apply Pick.there)); done)) | apply Sub.drop)))⟩
    · obtain ⟨y1, y2⟩ := w2 y hy
      exact (keys_drop ok.1 x y).2 ⟨x2 y y1, y2⟩
    · rw [woL_len]; omega
end
theorem rvapp {e w : World} {F : List HP} {K : Value → World → Prop} {g c2 cg : Nat} {qg : Option Addr} {vs : LE2} {x : Int × Int} (hn : vs.length ≤ 100000) (h : Own e w (blk g 115 [.int .u64 x.1, .int .i64 x.2] :: slO 115 2 qg vs.length cg (E24 vs) :: F))
    (hk : ∀ q' c' w', Own e w' (slO 115 2 q' (vs ++ [x]).length c' (E24 (vs ++ [x])) :: F) → K (.slice q' (vs ++ [x]).length c') w') :
    RunR Tryz.prog (builtinV .append #[81, 81] 81 #[.slice qg vs.length cg, .slice (some ⟨g, 0, none⟩) 1 c2]) w K := by
  have hsrc : RdC w (some ⟨g, 0, none⟩) [.int .u64 x.1, .int .i64 x.2] := h.blkRd
  refine Own.append (z := [.int .u64 0, .int .i64 0]) (b := 16) (m := 1) h.drop (by kernel_rfl) (by kernel_rfl) (by kernel_rfl) (by kernel_rfl) (by kernel_rfl) (by omega) hsrc rfl (fun u hu => ?_) (by unfold maxLen; omega) (by omega) fun q' c' w h _ => ?_
  · simp at hu; rcases hu with rfl | rfl <;> rfl
  · have e1 : vs.length + 1 = (vs ++ [x]).length := by simp
    rw [e1, ← E24_snoc] at h
    rw [e1]
    exact hk q' c' w h
theorem used_eq {s : Lg} (ok : LgOk s) : sumV s.t.toL = s.used := ok.2.1
section
variable {e w : World} {F : List HP} {h0 : Nat → Option Obj} {q q2 qd ql qi : Option Addr} {c c2 cd cl ci gy m md u : Nat} {D ins : List Int} {sd lim s2 most : Int} {ts : Ts} {s : Lg} {vs : LE2}
theorem rUntil {us : Int} (hm9 : m ≤ 9) (hmd : md ≤ 20) (hsd : M64 sd) (okt : okT m md lim ts) (hs2 : M64 s2) (hD : D.length * 8 ≤ 140737488351232) (hd : ImR h0 qd (cs .i64 D)) (hS : RsR h0 q (2 ^ m) ts.R) (ok : LgOk s) (hsz : s.t.size ≤ 100) (hI : ImR h0 ql (E24 s.t.toL)) (hcl : s.t.toL.length ≤ cl) (hu : u ≤ 7000) (h : Own e w (imm h0 :: dlO q2 md c2 ts.ws :: rdO gy qd D.length cd s2 u :: F)) :
    Rets Tryz.prog 54 #[pcV q c m sd q2 md c2 lim ts.ct ts.ag ql s.t.toL.length cl s.most, .int .i64 us, .pointer (some ⟨gy, 0, none⟩), .int .i64 most] w fun v w' => ∃ (b : Bool) (s' : Lg) (ins' : List Int) (vs' : LE2) (u' : Nat) (h1 : Nat → Option Obj) (ql' : Option Addr) (cl' : Nat) (qv : Option Addr) (cv : Nat),
      GoP D s2 (esT sd m md ts) most us ⟨s, [], [], u⟩ b ⟨s', ins', vs', u'⟩ ∧ v = .tuple #[pcV q c m sd q2 md c2 lim ts.ct ts.ag ql' s'.t.toL.length cl' s'.most, .slice qv vs'.length cv, .bool b] ∧ LeH h0 h1 ∧ ImR h1 ql' (E24 s'.t.toL) ∧ s'.t.toL.length ≤ cl' ∧ ImR h1 qv (E24 vs') ∧ LgOk s' ∧ s'.t.size + vs'.length ≤ s.t.size ∧ u' ≤ u + 5 * (vs'.length + 1) ∧ Own e w' (imm h1 :: dlO q2 md c2 ts.ws :: rdO gy qd D.length cd s2 u' :: F) := by
  refine cortadoref26_until_go _ _ _ _ _ _ _ _ _ _ _ _ _ _ _ _ _ _ _ _ _ ?_
  unfold cortadoref26_until_m
  refine h.newR fun a1 w h => h.newR fun a2 w h => ?_
  simp only [addr_add_add, Nat.zero_add]
  refine ⟨fun z vs w => ∃ (s1 : Lg) (ins1 : List Int) (vs1 : LE2) (u1 : Nat) (h1 : Nat → Option Obj) (ql1 : Option Addr) (cl1 : Nat) (qi1 : Option Addr) (ci1 : Nat) (qv : Option Addr) (cv : Nat), vs = [.slice qi1 ins1.length ci1, .slice qv vs1.length cv] ∧ z = s1.t.size ∧ LeH h0 h1 ∧ ImR h1 ql1 (E24 s1.t.toL) ∧ s1.t.toL.length ≤ cl1 ∧ ImR h1 qi1 (cs .u64 ins1) ∧ (ins1.Nodup ∧ (∀ x ∈ ins1, x ∈ keysP s1.t.toL) ∧ ins1.length ≤ 4) ∧ LgOk s1 ∧ s1.t.size + vs1.length ≤ s.t.size ∧ u1 ≤ u + 5 * vs1.length ∧ (∀ b t, GoP D s2 (esT sd m md ts) most us ⟨s1, ins1, vs1, u1⟩ b t → GoP D s2 (esT sd m md ts) most us ⟨s, [], [], u⟩ b t) ∧ Own e w (imm h1 :: slO 115 2 qv vs1.length cv (E24 vs1) :: blk a1 43 (pcC q c m sd q2 md c2 lim ts.ct ts.ag ql1 s1.t.toL.length cl1 s1.most) :: blk a2 43 ([.slice none 0 0, .int .i64 0, .int .u64 0, .slice none 0 0, .int .u64 0, .int .i64 0, .int .i64 0, .int .i64 0, .int .i64 0, .int .u64 0, .slice none 0 0, .int .i64 0]) :: dlO q2 md c2 ts.ws :: rdO gy qd D.length cd s2 u1 :: F), ⟨s.t.size, s, [], [], u, h0, ql, cl, none, 0, none, 0, rfl, rfl, LeH.refl _, hI, hcl, fun e w F h => .inl rfl, ⟨List.nodup_nil, fun x hx => (by cases hx), by simp⟩, ok, by simp, by simp, fun b t ht => ht, ?_⟩, ?_⟩
  · have h : Own e w (slO 115 2 none 0 0 [] :: blk a2 43 ([.slice none 0 0, .int .i64 0, .int .u64 0, .slice none 0 0, .int .u64 0, .int .i64 0, .int .i64 0, .int .i64 0, .int .i64 0, .int .u64 0, .slice none 0 0, .int .i64 0]) :: blk a1 43 (pcC q c m sd q2 md c2 lim ts.ct ts.ag ql s.t.toL.length cl s.most) :: imm h0 :: dlO q2 md c2 ts.ws :: rdO gy qd D.length cd s2 u :: F) := h.slNil
    have h : Own e w (slO 115 2 none ([] : LE2).length 0 (E24 []) :: blk a2 43 ([.slice none 0 0, .int .i64 0, .int .u64 0, .slice none 0 0, .int .u64 0, .int .i64 0, .int .i64 0, .int .i64 0, .int .i64 0, .int .u64 0, .slice none 0 0, .int .i64 0]) :: blk a1 43 (pcC q c m sd q2 md c2 lim ts.ct ts.ag ql s.t.toL.length cl s.most) :: imm h0 :: dlO q2 md c2 ts.ws :: rdO gy qd D.length cd s2 u :: F) := h
    exact (Own.sub (h) (by repeat (first | with_reducible exact Sub.nil _ | with_reducible exact Sub.rfl _ | (apply Sub.cons; focus ((repeat (first | with_reducible exact Pick.here | apply Pick.there)); done)) | apply Sub.drop)))
  clear h
  intro z w v1 v2 qx k3 k4 qy k5 k6
  intros
  rename_i hI0
  obtain ⟨s1, ins1, vs1, u1, h1, ql1, cl1, qi1, ci1, qv, cv, hvs, hz, le1, I1, hc1, Ii, ⟨n1, n2, n3⟩, ok1, hsz1, hu1, hGo, h⟩ := hI0
  obtain ⟨⟨rfl, rfl, rfl⟩, rfl, rfl, rfl⟩ : (qx = qi1 ∧ k3 = ins1.length ∧ k4 = ci1) ∧ qy = qv ∧ k5 = vs1.length ∧ k6 = cv := by simpa using hvs
  have hkl := Tr.size_toL s1.t
  refine ⟨_, _, _, _, ⟨Own.ld (g := a1) (k := 10) h (by repeat (first | with_reducible exact Pick.here | apply Pick.there)) rfl, Own.ld (g := a1) (k := 11) h (by repeat (first | with_reducible exact Pick.here | apply Pick.there)) rfl⟩, ?_⟩
  refine Rets.mono (rUsed ok1.2.2.1 (by rw [used_eq ok1]; have := ok1.2.2.2.1; have := ok1.2.2.2.2; omega) (by omega) I1 h) ?_
  clear h
  rintro _ w ⟨rfl, h⟩
  rw [used_eq ok1]
  refine ⟨_, rfl, fun hc => ?_, fun hc => ?_⟩
  · have hc := dec_t hc
    refine ⟨_, _, _, _, _, _, _, _, _, _, _, _, _, _, _, _, _, _, ⟨Own.ld (g := a1) h (by repeat (first | with_reducible exact Pick.here | apply Pick.there)) rfl, Own.ld (g := a1) h (by repeat (first | with_reducible exact Pick.here | apply Pick.there)) rfl, Own.ld (g := a1) h (by repeat (first | with_reducible exact Pick.here | apply Pick.there)) rfl, Own.ld (g := a1) h (by repeat (first | with_reducible exact Pick.here | apply Pick.there)) rfl, Own.ld (g := a1) h (by repeat (first | with_reducible exact Pick.here | apply Pick.there)) rfl, Own.ld (g := a1) h (by repeat (first | with_reducible exact Pick.here | apply Pick.there)) rfl, Own.ld (g := a1) h (by repeat (first | with_reducible exact Pick.here | apply Pick.there)) rfl, Own.ld (g := a1) h (by repeat (first | with_reducible exact Pick.here | apply Pick.there)) rfl, Own.ld (g := a1) h (by repeat (first | with_reducible exact Pick.here | apply Pick.there)) rfl, Own.ld (g := a1) h (by repeat (first | with_reducible exact Pick.here | apply Pick.there)) rfl, Own.ld (g := a1) h (by repeat (first | with_reducible exact Pick.here | apply Pick.there)) rfl, Own.ld (g := a1) h (by repeat (first | with_reducible exact Pick.here | apply Pick.there)) rfl⟩, ?_⟩
    have h : Own e w (imm h1 :: dlO q2 md c2 ts.ws :: rdO gy qd D.length cd s2 u1 :: slO 115 2 qy vs1.length k6 (E24 vs1) :: blk a1 43 (pcC q c m sd q2 md c2 lim ts.ct ts.ag ql1 s1.t.toL.length cl1 s1.most) :: blk a2 43 ([.slice none 0 0, .int .i64 0, .int .u64 0, .slice none 0 0, .int .u64 0, .int .i64 0, .int .i64 0, .int .i64 0, .int .i64 0, .int .u64 0, .slice none 0 0, .int .i64 0]) :: F) := (Own.sub (h) (by repeat (first | with_reducible exact Sub.nil _ | with_reducible exact Sub.rfl _ | (apply Sub.cons; focus ((repeat (first | with_reducible exact Pick.here | apply Pick.there)); done)) | apply Sub.drop)))
    refine Rets.mono (rOne (vs := vs1) (ci := k4) (most := most) hm9 hmd hsd okt hs2 hD (hd.mono le1) (hS.mono le1) ok1 (by omega) I1 hc1 Ii n1 n2 n3 (by omega) h) ?_
    clear h
    rintro _ w ⟨b, s2', ins2, vs2, u2, h2, ql2, cl2, qi2, ci2, vx, hst, rfl, le2, I2, hc2, Ii2, hbf, hbt, hu2, h⟩
    refine ⟨_, _, _, _, _, _, _, _, _, _, _, _, _, _, _, _, _, _, _, _, _, _, _, _, rfl, h.newR fun a3 w h => h.newR fun a4 w h => ?_⟩
    refine Own.stP' (g := a3) h (by repeat (first | with_reducible exact Pick.here | apply Pick.there)) (by simp) (by simp [Value.oneCell']) fun w h => ?_
    simp only [setFrom, List.set_cons_zero, List.set_cons_succ, List.set_nil] at h
    refine Own.stP' (g := a4) h (by repeat (first | with_reducible exact Pick.here | apply Pick.there)) (by simp) (by simp [Value.oneCell']) fun w h => ⟨fun hb => ?_, fun hb => ?_⟩
    · simp only [setFrom, List.set_cons_zero, List.set_cons_succ, List.set_nil] at h
      have hb : b = false := by simpa using hb
      obtain ⟨es, ev⟩ := hbf hb
      have es := es.symm
      have ev := ev.symm
      subst es
      subst ev
      refine ⟨_, _, _, _, _, _, _, _, _, _, _, _, _, _, _, _, _, _, ⟨Own.ld (g := a1) h (by repeat (first | with_reducible exact Pick.here | apply Pick.there)) rfl, Own.ld (g := a1) h (by repeat (first | with_reducible exact Pick.here | apply Pick.there)) rfl, Own.ld (g := a1) h (by repeat (first | with_reducible exact Pick.here | apply Pick.there)) rfl, Own.ld (g := a1) h (by repeat (first | with_reducible exact Pick.here | apply Pick.there)) rfl, Own.ld (g := a1) h (by repeat (first | with_reducible exact Pick.here | apply Pick.there)) rfl, Own.ld (g := a1) h (by repeat (first | with_reducible exact Pick.here | apply Pick.there)) rfl, Own.ld (g := a1) h (by repeat (first | with_reducible exact Pick.here | apply Pick.there)) rfl, Own.ld (g := a1) h (by repeat (first | with_reducible exact Pick.here | apply Pick.there)) rfl, Own.ld (g := a1) h (by repeat (first | with_reducible exact Pick.here | apply Pick.there)) rfl, Own.ld (g := a1) h (by repeat (first | with_reducible exact Pick.here | apply Pick.there)) rfl, Own.ld (g := a1) h (by repeat (first | with_reducible exact Pick.here | apply Pick.there)) rfl, Own.ld (g := a1) h (by repeat (first | with_reducible exact Pick.here | apply Pick.there)) rfl⟩, Own.stP' (g := a2) h (by repeat (first | with_reducible exact Pick.here | apply Pick.there)) (by simp) (by simp [Value.oneCell']) fun w h => ?_⟩
      simp only [setFrom, List.set_cons_zero, List.set_cons_succ, List.set_nil] at h
      have h : Own e w (slO 115 2 qy vs1.length k6 (E24 vs1) :: imm h2 :: blk a2 43 (pcC q c m sd q2 md c2 lim ts.ct ts.ag ql1 s1.t.toL.length cl1 s1.most) :: dlO q2 md c2 ts.ws :: rdO gy qd D.length cd s2 u2 :: F) := (Own.sub (h) (by repeat (first | with_reducible exact Sub.nil _ | with_reducible exact Sub.rfl _ | (apply Sub.cons; focus ((repeat (first | with_reducible exact Pick.here | apply Pick.there)); done)) | apply Sub.drop)))
      have hL := Own.ld (g := a2) (k := 0) h (by repeat (first | with_reducible exact Pick.here | apply Pick.there)) rfl
      refine ⟨_, _, _, _, _, _, _, _, _, _, _, _, _, _, _, _, _, _, ⟨Own.ld (g := a2) h (by repeat (first | with_reducible exact Pick.here | apply Pick.there)) rfl, Own.ld (g := a2) h (by repeat (first | with_reducible exact Pick.here | apply Pick.there)) rfl, Own.ld (g := a2) h (by repeat (first | with_reducible exact Pick.here | apply Pick.there)) rfl, Own.ld (g := a2) h (by repeat (first | with_reducible exact Pick.here | apply Pick.there)) rfl, Own.ld (g := a2) h (by repeat (first | with_reducible exact Pick.here | apply Pick.there)) rfl, Own.ld (g := a2) h (by repeat (first | with_reducible exact Pick.here | apply Pick.there)) rfl, Own.ld (g := a2) h (by repeat (first | with_reducible exact Pick.here | apply Pick.there)) rfl, Own.ld (g := a2) h (by repeat (first | with_reducible exact Pick.here | apply Pick.there)) rfl, Own.ld (g := a2) h (by repeat (first | with_reducible exact Pick.here | apply Pick.there)) rfl, Own.ld (g := a2) h (by repeat (first | with_reducible exact Pick.here | apply Pick.there)) rfl, Own.ld (g := a2) h (by repeat (first | with_reducible exact Pick.here | apply Pick.there)) rfl, Own.ld (g := a2) h (by repeat (first | with_reducible exact Pick.here | apply Pick.there)) rfl⟩, ?_⟩
      obtain ⟨h3, le3, Iv, _, h⟩ := h.slImm
      exact ⟨false, s1, ins2, vs1, u2, h3, ql1, cl1, qy, k6, hGo _ _ (.fail _ _ (by show us < s1.used; omega) (by rw [← hb]; exact hst)), (by first | trivial | rfl), LeH.trans le1 (LeH.trans le2 le3), I1.mono (LeH.trans le2 le3), hc1, Iv, ok1, by omega, by omega, (Own.sub (h) (by repeat (first | with_reducible exact Sub.nil _ | with_reducible exact Sub.rfl _ | (apply Sub.cons; focus ((repeat (first | with_reducible exact Pick.here | apply Pick.there)); done)) | apply Sub.drop)))⟩
    · simp only [setFrom, List.set_cons_zero, List.set_cons_succ, List.set_nil] at h
      have hb : b = true := by simpa using hb
      obtain ⟨rfl, m1, m2, m3, ok2, hlt⟩ := hbt hb
      refine ⟨_, _, _, _, _, _, _, _, _, _, _, _, _, _, _, _, _, _, ⟨Own.ld (g := a3) h (by repeat (first | with_reducible exact Pick.here | apply Pick.there)) rfl, Own.ld (g := a3) h (by repeat (first | with_reducible exact Pick.here | apply Pick.there)) rfl, Own.ld (g := a3) h (by repeat (first | with_reducible exact Pick.here | apply Pick.there)) rfl, Own.ld (g := a3) h (by repeat (first | with_reducible exact Pick.here | apply Pick.there)) rfl, Own.ld (g := a3) h (by repeat (first | with_reducible exact Pick.here | apply Pick.there)) rfl, Own.ld (g := a3) h (by repeat (first | with_reducible exact Pick.here | apply Pick.there)) rfl, Own.ld (g := a3) h (by repeat (first | with_reducible exact Pick.here | apply Pick.there)) rfl, Own.ld (g := a3) h (by repeat (first | with_reducible exact Pick.here | apply Pick.there)) rfl, Own.ld (g := a3) h (by repeat (first | with_reducible exact Pick.here | apply Pick.there)) rfl, Own.ld (g := a3) h (by repeat (first | with_reducible exact Pick.here | apply Pick.there)) rfl, Own.ld (g := a3) h (by repeat (first | with_reducible exact Pick.here | apply Pick.there)) rfl, Own.ld (g := a3) h (by repeat (first | with_reducible exact Pick.here | apply Pick.there)) rfl⟩, Own.stP' (g := a1) h (by repeat (first | with_reducible exact Pick.here | apply Pick.there)) (by simp) (by simp [Value.oneCell']) fun w h => ?_⟩
      simp only [setFrom, List.set_cons_zero, List.set_cons_succ, List.set_nil] at h
      refine ⟨_, _, ⟨Own.ld (g := a4) h (by repeat (first | with_reducible exact Pick.here | apply Pick.there)) rfl, Own.ld (g := a4) h (by repeat (first | with_reducible exact Pick.here | apply Pick.there)) rfl⟩, h.newR fun a5 w h => ?_⟩
      have h : Own e w (blk a5 115 [.int .u64 vx.1, .int .i64 vx.2] :: slO 115 2 qy vs1.length k6 (E24 vs1) :: imm h2 :: blk a1 43 (pcC q c m sd q2 md c2 lim ts.ct ts.ag ql2 s2'.t.toL.length cl2 s2'.most) :: blk a2 43 ([.slice none 0 0, .int .i64 0, .int .u64 0, .slice none 0 0, .int .u64 0, .int .i64 0, .int .i64 0, .int .i64 0, .int .i64 0, .int .u64 0, .slice none 0 0, .int .i64 0]) :: dlO q2 md c2 ts.ws :: rdO gy qd D.length cd s2 u2 :: F) := (Own.sub (h) (by repeat (first | with_reducible exact Sub.nil _ | with_reducible exact Sub.rfl _ | (apply Sub.cons; focus ((repeat (first | with_reducible exact Pick.here | apply Pick.there)); done)) | apply Sub.drop)))
      refine rvapp (x := vx) (by omega) h fun q' c' w h => ⟨_, _, _, rfl, s2'.t.size, by omega, s2', ins2, vs1 ++ [vx], u2, h2, ql2, cl2, qi2, ci2, q', c', rfl, rfl, LeH.trans le1 le2, I2, hc2, Ii2, ⟨m1, m2, m3⟩, ok2, by simp; omega, by simp; omega, fun b' t' ht => hGo _ _ (.next _ _ _ _ (by show us < s1.used; omega) (by rw [← hb]; exact hst) ht), (Own.sub (h) (by repeat (first | with_reducible exact Sub.nil _ | with_reducible exact Sub.rfl _ | (apply Sub.cons; focus ((repeat (first | with_reducible exact Pick.here | apply Pick.there)); done)) | apply Sub.drop)))⟩
  · have hc := dec_f hc
    refine ⟨_, _, _, _, _, _, _, _, _, _, _, _, _, _, _, _, _, _, ⟨Own.ld (g := a1) h (by repeat (first | with_reducible exact Pick.here | apply Pick.there)) rfl, Own.ld (g := a1) h (by repeat (first | with_reducible exact Pick.here | apply Pick.there)) rfl, Own.ld (g := a1) h (by repeat (first | with_reducible exact Pick.here | apply Pick.there)) rfl, Own.ld (g := a1) h (by repeat (first | with_reducible exact Pick.here | apply Pick.there)) rfl, Own.ld (g := a1) h (by repeat (first | with_reducible exact Pick.here | apply Pick.there)) rfl, Own.ld (g := a1) h (by repeat (first | with_reducible exact Pick.here | apply Pick.there)) rfl, Own.ld (g := a1) h (by repeat (first | with_reducible exact Pick.here | apply Pick.there)) rfl, Own.ld (g := a1) h (by repeat (first | with_reducible exact Pick.here | apply Pick.there)) rfl, Own.ld (g := a1) h (by repeat (first | with_reducible exact Pick.here | apply Pick.there)) rfl, Own.ld (g := a1) h (by repeat (first | with_reducible exact Pick.here | apply Pick.there)) rfl, Own.ld (g := a1) h (by repeat (first | with_reducible exact Pick.here | apply Pick.there)) rfl, Own.ld (g := a1) h (by repeat (first | with_reducible exact Pick.here | apply Pick.there)) rfl⟩, Own.stP' (g := a2) h (by repeat (first | with_reducible exact Pick.here | apply Pick.there)) (by simp) (by simp [Value.oneCell']) fun w h => ?_⟩
    simp only [setFrom, List.set_cons_zero, List.set_cons_succ, List.set_nil] at h
    have h : Own e w (slO 115 2 qy vs1.length k6 (E24 vs1) :: imm h1 :: blk a2 43 (pcC q c m sd q2 md c2 lim ts.ct ts.ag ql1 s1.t.toL.length cl1 s1.most) :: dlO q2 md c2 ts.ws :: rdO gy qd D.length cd s2 u1 :: F) := (Own.sub (h) (by repeat (first | with_reducible exact Sub.nil _ | with_reducible exact Sub.rfl _ | (apply Sub.cons; focus ((repeat (first | with_reducible exact Pick.here | apply Pick.there)); done)) | apply Sub.drop)))
    refine ⟨_, _, _, _, _, _, _, _, _, _, _, _, _, _, _, _, _, _, ⟨Own.ld (g := a2) h (by repeat (first | with_reducible exact Pick.here | apply Pick.there)) rfl, Own.ld (g := a2) h (by repeat (first | with_reducible exact Pick.here | apply Pick.there)) rfl, Own.ld (g := a2) h (by repeat (first | with_reducible exact Pick.here | apply Pick.there)) rfl, Own.ld (g := a2) h (by repeat (first | with_reducible exact Pick.here | apply Pick.there)) rfl, Own.ld (g := a2) h (by repeat (first | with_reducible exact Pick.here | apply Pick.there)) rfl, Own.ld (g := a2) h (by repeat (first | with_reducible exact Pick.here | apply Pick.there)) rfl, Own.ld (g := a2) h (by repeat (first | with_reducible exact Pick.here | apply Pick.there)) rfl, Own.ld (g := a2) h (by repeat (first | with_reducible exact Pick.here | apply Pick.there)) rfl, Own.ld (g := a2) h (by repeat (first | with_reducible exact Pick.here | apply Pick.there)) rfl, Own.ld (g := a2) h (by repeat (first | with_reducible exact Pick.here | apply Pick.there)) rfl, Own.ld (g := a2) h (by repeat (first | with_reducible exact Pick.here | apply Pick.there)) rfl, Own.ld (g := a2) h (by repeat (first | with_reducible exact Pick.here | apply Pick.there)) rfl⟩, ?_⟩
    obtain ⟨h3, le3, Iv, _, h⟩ := h.slImm
    exact ⟨true, s1, ins1, vs1, u1, h3, ql1, cl1, qy, k6, hGo _ _ (.stop _ (by show s1.used ≤ us; omega)), (by first | trivial | rfl), LeH.trans le1 le3, I1.mono le3, hc1, Iv, ok1, by omega, by omega, (Own.sub (h) (by repeat (first | with_reducible exact Sub.nil _ | with_reducible exact Sub.rfl _ | (apply Sub.cons; focus ((repeat (first | with_reducible exact Pick.here | apply Pick.there)); done)) | apply Sub.drop)))⟩
end
theorem getD_big {est : Int → Int} {most : Int} (h : ∀ x, est x ≤ most) (h0 : 0 ≤ most) (l : List Int) (a : Nat) : (l.map est).getD a 0 ≤ most := by
  rw [List.getD_eq_getElem?_getD, List.getElem?_map]
  cases l[a]? with
  | none => exact h0
  | some x => exact h x
theorem mst_big {D : List Int} {s2 most most' : Int} {est : Int → Int} (h : ∀ x, est x ≤ most) (h0 : 0 ≤ most) (h' : ∀ x, est x ≤ most') (h0' : 0 ≤ most') (t : PSt) : mst D s2 est most t = mst D s2 est most' t := by
  unfold mst
  have e1 := getD_big h h0 (outS D s2 (keysL t.s.t.toL) t.ins t.u).1 (amin ((outS D s2 (keysL t.s.t.toL) t.ins t.u).1.map est) (outS D s2 (keysL t.s.t.toL) t.ins t.u).1.length)
  have e2 := getD_big h' h0' (outS D s2 (keysL t.s.t.toL) t.ins t.u).1 (amin ((outS D s2 (keysL t.s.t.toL) t.ins t.u).1.map est) (outS D s2 (keysL t.s.t.toL) t.ins t.u).1.length)
  by_cases hz : (outS D s2 (keysL t.s.t.toL) t.ins t.u).1.length = 0
  · rw [if_pos (.inl hz), if_pos (.inl hz)]
  · rw [if_neg (fun hh => hh.elim hz (fun hh => by omega)), if_neg (fun hh => hh.elim hz (fun hh => by omega))]
theorem GoP.big {D : List Int} {s2 most most' bd : Int} {est : Int → Int} {t t1 : PSt} {b : Bool} (h : ∀ x, est x ≤ most) (h0 : 0 ≤ most) (h' : ∀ x, est x ≤ most') (h0' : 0 ≤ most') (hg : GoP D s2 est most bd t b t1) : GoP D s2 est most' bd t b t1 := by
  induction hg with
  | stop t hb => exact .stop t hb
  | fail t t' hb hm => exact .fail t t' hb (by rw [← mst_big h h0 h' h0']; exact hm)
  | next t t' t2 b hb hm _ ih => exact .next t t' t2 b hb (by rw [← mst_big h h0 h' h0']; exact hm) ih
section
variable {e w : World} {F : List HP} {h0 : Nat → Option Obj} {q q2 qd ql qi : Option Addr} {c c2 cd cl ci gy m md u : Nat} {D ins : List Int} {sd lim s2 most : Int} {ts : Ts} {s : Lg} {vs : LE2}
theorem rLimP {n : Int} (hm9 : m ≤ 9) (hmd : md ≤ 20) (hsd : M64 sd) (okt : okT m md lim ts) (hs2 : M64 s2) (hD : D.length * 8 ≤ 140737488351232) (hd : ImR h0 qd (cs .i64 D)) (hS : RsR h0 q (2 ^ m) ts.R) (ok : LgOk s) (hsz : s.t.size ≤ 100) (hI : ImR h0 ql (E24 s.t.toL)) (hcl : s.t.toL.length ≤ cl) (hu : u ≤ 7000) (h : Own e w (imm h0 :: dlO q2 md c2 ts.ws :: rdO gy qd D.length cd s2 u :: F)) :
    Rets Tryz.prog 33 #[pcV q c m sd q2 md c2 lim ts.ct ts.ag ql s.t.toL.length cl s.most, .int .i64 n, .pointer (some ⟨gy, 0, none⟩)] w fun v w' =>
      (¬ (0 ≤ n ∧ n ≤ 4611686018427387904) ∧ v = .tuple #[pcV q c m sd q2 md c2 lim ts.ct ts.ag ql s.t.toL.length cl s.most, .slice none 0 0, .bool false] ∧ Own e w' (imm h0 :: dlO q2 md c2 ts.ws :: rdO gy qd D.length cd s2 u :: F)) ∨
      ((0 ≤ n ∧ n ≤ 4611686018427387904) ∧ (∃ (b : Bool) (s1 : Lg) (ins' : List Int) (vs' : LE2) (u' : Nat) (h1 : Nat → Option Obj) (ql' : Option Addr) (cl' : Nat) (qv : Option Addr) (cv : Nat), GoP D s2 (esT sd m md ts) 1000 n ⟨s, [], [], u⟩ b ⟨s1, ins', vs', u'⟩ ∧ v = .tuple #[pcV q c m sd q2 md c2 lim ts.ct ts.ag ql' s1.t.toL.length cl' n, .slice qv vs'.length cv, .bool true] ∧ LeH h0 h1 ∧ ImR h1 ql' (E24 s1.t.toL) ∧ s1.t.toL.length ≤ cl' ∧ ImR h1 qv (E24 vs') ∧ LgOk s1 ∧ s1.t.size + vs'.length ≤ s.t.size ∧ u' ≤ u + 5 * (vs'.length + 1) ∧ Own e w' (imm h1 :: dlO q2 md c2 ts.ws :: rdO gy qd D.length cd s2 u' :: F))) := by
  refine cortadoref26_Limit_go _ _ _ _ _ _ _ _ _ _ _ _ _ _ _ _ _ _ _ _ ?_
  unfold cortadoref26_Limit_m
  refine h.newR fun a1 w h => h.newR fun a2 w h => ?_
  simp only [addr_add_add, Nat.zero_add]
  have h : Own e w (imm h0 :: dlO q2 md c2 ts.ws :: rdO gy qd D.length cd s2 u :: blk a1 43 (pcC q c m sd q2 md c2 lim ts.ct ts.ag ql s.t.toL.length cl s.most) :: blk a2 43 ([.slice none 0 0, .int .i64 0, .int .u64 0, .slice none 0 0, .int .u64 0, .int .i64 0, .int .i64 0, .int .i64 0, .int .i64 0, .int .u64 0, .slice none 0 0, .int .i64 0]) :: F) := (Own.sub (h) (by repeat (first | with_reducible exact Sub.nil _ | with_reducible exact Sub.rfl _ | (apply Sub.cons; focus ((repeat (first | with_reducible exact Pick.here | apply Pick.there)); done)) | apply Sub.drop)))
  refine Rets.mono (rRight h) ?_
  clear h
  rintro _ w ⟨rfl, h⟩
  refine ⟨_, rfl, fun hb => ?_, fun hb => ?_⟩
  · have hb := rightB_f.1 (by simpa using hb)
    refine ⟨_, _, _, _, _, _, _, _, _, _, _, _, _, _, _, _, _, _, ⟨Own.ld (g := a1) h (by repeat (first | with_reducible exact Pick.here | apply Pick.there)) rfl, Own.ld (g := a1) h (by repeat (first | with_reducible exact Pick.here | apply Pick.there)) rfl, Own.ld (g := a1) h (by repeat (first | with_reducible exact Pick.here | apply Pick.there)) rfl, Own.ld (g := a1) h (by repeat (first | with_reducible exact Pick.here | apply Pick.there)) rfl, Own.ld (g := a1) h (by repeat (first | with_reducible exact Pick.here | apply Pick.there)) rfl, Own.ld (g := a1) h (by repeat (first | with_reducible exact Pick.here | apply Pick.there)) rfl, Own.ld (g := a1) h (by repeat (first | with_reducible exact Pick.here | apply Pick.there)) rfl, Own.ld (g := a1) h (by repeat (first | with_reducible exact Pick.here | apply Pick.there)) rfl, Own.ld (g := a1) h (by repeat (first | with_reducible exact Pick.here | apply Pick.there)) rfl, Own.ld (g := a1) h (by repeat (first | with_reducible exact Pick.here | apply Pick.there)) rfl, Own.ld (g := a1) h (by repeat (first | with_reducible exact Pick.here | apply Pick.there)) rfl, Own.ld (g := a1) h (by repeat (first | with_reducible exact Pick.here | apply Pick.there)) rfl⟩, Own.stP' (g := a2) h (by repeat (first | with_reducible exact Pick.here | apply Pick.there)) (by simp) (by simp [Value.oneCell']) fun w h => ?_⟩
    simp only [setFrom, List.set_cons_zero, List.set_cons_succ, List.set_nil] at h
    refine ⟨_, _, _, _, _, _, _, _, _, _, _, _, _, _, _, _, _, _, ⟨Own.ld (g := a2) h (by repeat (first | with_reducible exact Pick.here | apply Pick.there)) rfl, Own.ld (g := a2) h (by repeat (first | with_reducible exact Pick.here | apply Pick.there)) rfl, Own.ld (g := a2) h (by repeat (first | with_reducible exact Pick.here | apply Pick.there)) rfl, Own.ld (g := a2) h (by repeat (first | with_reducible exact Pick.here | apply Pick.there)) rfl, Own.ld (g := a2) h (by repeat (first | with_reducible exact Pick.here | apply Pick.there)) rfl, Own.ld (g := a2) h (by repeat (first | with_reducible exact Pick.here | apply Pick.there)) rfl, Own.ld (g := a2) h (by repeat (first | with_reducible exact Pick.here | apply Pick.there)) rfl, Own.ld (g := a2) h (by repeat (first | with_reducible exact Pick.here | apply Pick.there)) rfl, Own.ld (g := a2) h (by repeat (first | with_reducible exact Pick.here | apply Pick.there)) rfl, Own.ld (g := a2) h (by repeat (first | with_reducible exact Pick.here | apply Pick.there)) rfl, Own.ld (g := a2) h (by repeat (first | with_reducible exact Pick.here | apply Pick.there)) rfl, Own.ld (g := a2) h (by repeat (first | with_reducible exact Pick.here | apply Pick.there)) rfl⟩, .inl ⟨hb, (by first | trivial | rfl), (Own.sub (h) (by repeat (first | with_reducible exact Sub.nil _ | with_reducible exact Sub.rfl _ | (apply Sub.cons; focus ((repeat (first | with_reducible exact Pick.here | apply Pick.there)); done)) | apply Sub.drop)))⟩⟩
  · have hb := rightB_t.1 (by simpa using hb)
    refine ⟨_, _, _, _, _, _, _, _, _, _, _, _, _, _, _, _, _, _, ⟨Own.ld (g := a1) h (by repeat (first | with_reducible exact Pick.here | apply Pick.there)) rfl, Own.ld (g := a1) h (by repeat (first | with_reducible exact Pick.here | apply Pick.there)) rfl, Own.ld (g := a1) h (by repeat (first | with_reducible exact Pick.here | apply Pick.there)) rfl, Own.ld (g := a1) h (by repeat (first | with_reducible exact Pick.here | apply Pick.there)) rfl, Own.ld (g := a1) h (by repeat (first | with_reducible exact Pick.here | apply Pick.there)) rfl, Own.ld (g := a1) h (by repeat (first | with_reducible exact Pick.here | apply Pick.there)) rfl, Own.ld (g := a1) h (by repeat (first | with_reducible exact Pick.here | apply Pick.there)) rfl, Own.ld (g := a1) h (by repeat (first | with_reducible exact Pick.here | apply Pick.there)) rfl, Own.ld (g := a1) h (by repeat (first | with_reducible exact Pick.here | apply Pick.there)) rfl, Own.ld (g := a1) h (by repeat (first | with_reducible exact Pick.here | apply Pick.there)) rfl, Own.ld (g := a1) h (by repeat (first | with_reducible exact Pick.here | apply Pick.there)) rfl, Own.ld (g := a1) h (by repeat (first | with_reducible exact Pick.here | apply Pick.there)) rfl⟩, ?_⟩
    refine Rets.mono (rUntil (us := n) (most := 1000) hm9 hmd hsd okt hs2 hD hd hS ok hsz hI hcl hu h) ?_
    clear h
    rintro _ w ⟨b, s1, ins1, vs1, u1, h1, ql1, cl1, qv, cv, hgo, rfl, le1, I1, hc1, Iv, ok1, hsz1, hu1, h⟩
    refine ⟨_, _, _, _, _, _, _, _, _, _, _, _, _, _, _, _, _, _, _, _, _, _, rfl, Own.stP' (g := a1) h (by repeat (first | with_reducible exact Pick.here | apply Pick.there)) (by simp) (by simp [Value.oneCell']) fun w h => ?_⟩
    simp only [setFrom, List.set_cons_zero, List.set_cons_succ, List.set_nil] at h
    refine Own.stP (g := a1) (k := 11) h (by repeat (first | with_reducible exact Pick.here | apply Pick.there)) (by simp) (by simp [Value.oneCell']) fun w h => ?_
    simp only [setFrom, List.set_cons_zero, List.set_cons_succ, List.set_nil] at h
    refine ⟨_, _, _, _, _, _, _, _, _, _, _, _, _, _, _, _, _, _, ⟨Own.ld (g := a1) h (by repeat (first | with_reducible exact Pick.here | apply Pick.there)) rfl, Own.ld (g := a1) h (by repeat (first | with_reducible exact Pick.here | apply Pick.there)) rfl, Own.ld (g := a1) h (by repeat (first | with_reducible exact Pick.here | apply Pick.there)) rfl, Own.ld (g := a1) h (by repeat (first | with_reducible exact Pick.here | apply Pick.there)) rfl, Own.ld (g := a1) h (by repeat (first | with_reducible exact Pick.here | apply Pick.there)) rfl, Own.ld (g := a1) h (by repeat (first | with_reducible exact Pick.here | apply Pick.there)) rfl, Own.ld (g := a1) h (by repeat (first | with_reducible exact Pick.here | apply Pick.there)) rfl, Own.ld (g := a1) h (by repeat (first | with_reducible exact Pick.here | apply Pick.there)) rfl, Own.ld (g := a1) h (by repeat (first | with_reducible exact Pick.here | apply Pick.there)) rfl, Own.ld (g := a1) h (by repeat (first | with_reducible exact Pick.here | apply Pick.there)) rfl, Own.ld (g := a1) h (by repeat (first | with_reducible exact Pick.here | apply Pick.there)) rfl, Own.ld (g := a1) h (by repeat (first | with_reducible exact Pick.here | apply Pick.there)) rfl⟩, Own.stP' (g := a2) h (by repeat (first | with_reducible exact Pick.here | apply Pick.there)) (by simp) (by simp [Value.oneCell']) fun w h => ?_⟩
    simp only [setFrom, List.set_cons_zero, List.set_cons_succ, List.set_nil] at h
    exact ⟨_, _, _, _, _, _, _, _, _, _, _, _, _, _, _, _, _, _, ⟨Own.ld (g := a2) h (by repeat (first | with_reducible exact Pick.here | apply Pick.there)) rfl, Own.ld (g := a2) h (by repeat (first | with_reducible exact Pick.here | apply Pick.there)) rfl, Own.ld (g := a2) h (by repeat (first | with_reducible exact Pick.here | apply Pick.there)) rfl, Own.ld (g := a2) h (by repeat (first | with_reducible exact Pick.here | apply Pick.there)) rfl, Own.ld (g := a2) h (by repeat (first | with_reducible exact Pick.here | apply Pick.there)) rfl, Own.ld (g := a2) h (by repeat (first | with_reducible exact Pick.here | apply Pick.there)) rfl, Own.ld (g := a2) h (by repeat (first | with_reducible exact Pick.here | apply Pick.there)) rfl, Own.ld (g := a2) h (by repeat (first | with_reducible exact Pick.here | apply Pick.there)) rfl, Own.ld (g := a2) h (by repeat (first | with_reducible exact Pick.here | apply Pick.there)) rfl, Own.ld (g := a2) h (by repeat (first | with_reducible exact Pick.here | apply Pick.there)) rfl, Own.ld (g := a2) h (by repeat (first | with_reducible exact Pick.here | apply Pick.there)) rfl, Own.ld (g := a2) h (by repeat (first | with_reducible exact Pick.here | apply Pick.there)) rfl⟩, .inr ⟨hb, b, s1, ins1, vs1, u1, h1, ql1, cl1, qv, cv, hgo, (by first | trivial | rfl), le1, I1, hc1, Iv, ok1, hsz1, hu1, (Own.sub (h) (by repeat (first | with_reducible exact Sub.nil _ | with_reducible exact Sub.rfl _ | (apply Sub.cons; focus ((repeat (first | with_reducible exact Pick.here | apply Pick.there)); done)) | apply Sub.drop)))⟩⟩
theorem rAddP {k n : Int} (hm9 : m ≤ 9) (hmd : md ≤ 20) (hsd : M64 sd) (okt : okT m md lim ts) (hs2 : M64 s2) (hD : D.length * 8 ≤ 140737488351232) (hd : ImR h0 qd (cs .i64 D)) (hS : RsR h0 q (2 ^ m) ts.R) (ok : LgOk s) (hsz : s.t.size ≤ 100) (hI : ImR h0 ql (E24 s.t.toL)) (hcl : s.t.toL.length ≤ cl) (hu : u ≤ 7000) (h : Own e w (imm h0 :: dlO q2 md c2 ts.ws :: rdO gy qd D.length cd s2 u :: F)) :
    Rets Tryz.prog 35 #[pcV q c m sd q2 md c2 lim ts.ct ts.ag ql s.t.toL.length cl s.most, .int .u64 k, .int .i64 n, .pointer (some ⟨gy, 0, none⟩)] w fun v w' =>
      (¬ askOk k n s ∧ v = .tuple #[pcV q c m sd q2 md c2 lim ts.ct ts.ag ql s.t.toL.length cl s.most, .slice none 0 0, .bool false] ∧ Own e w' (imm h0 :: dlO q2 md c2 ts.ws :: rdO gy qd D.length cd s2 u :: F)) ∨
      (askOk k n s ∧ (∃ (b : Bool) (s1 : Lg) (ins' : List Int) (vs' : LE2) (u' : Nat) (h1 : Nat → Option Obj) (ql' : Option Addr) (cl' : Nat) (qv : Option Addr) (cv : Nat), GoP D s2 (esT sd m md ts) (esT sd m md ts k) (s.most - n) ⟨s, [], [], u⟩ b ⟨s1, ins', vs', u'⟩ ∧ v = .tuple #[pcV q c m sd q2 md c2 lim ts.ct ts.ag ql' (adS b k n s1).t.toL.length cl' (adS b k n s1).most, .slice qv vs'.length cv, .bool b] ∧ LeH h0 h1 ∧ ImR h1 ql' (E24 (adS b k n s1).t.toL) ∧ (adS b k n s1).t.toL.length ≤ cl' ∧ ImR h1 qv (E24 vs') ∧ s1.t.size + vs'.length ≤ s.t.size ∧ u' ≤ u + 5 * (vs'.length + 1) ∧ Own e w' (imm h1 :: dlO q2 md c2 ts.ws :: rdO gy qd D.length cd s2 u' :: F))) := by
  have hkl := Tr.size_toL s.t
  have h5 := ok.2.2.2.2
  have h4 := ok.2.2.2.1
  have hnn := ok.nn
  refine cortadoref26_Add_go _ _ _ _ _ _ _ _ _ _ _ _ _ _ _ _ _ _ _ _ _ ?_
  unfold cortadoref26_Add_m
  refine h.newR fun a1 w h => h.newR fun a2 w h => ?_
  simp only [addr_add_add, Nat.zero_add]
  have h : Own e w (imm h0 :: dlO q2 md c2 ts.ws :: rdO gy qd D.length cd s2 u :: blk a1 43 (pcC q c m sd q2 md c2 lim ts.ct ts.ag ql s.t.toL.length cl s.most) :: blk a2 43 ([.slice none 0 0, .int .i64 0, .int .u64 0, .slice none 0 0, .int .u64 0, .int .i64 0, .int .i64 0, .int .i64 0, .int .i64 0, .int .u64 0, .slice none 0 0, .int .i64 0]) :: F) := (Own.sub (h) (by repeat (first | with_reducible exact Sub.nil _ | with_reducible exact Sub.rfl _ | (apply Sub.cons; focus ((repeat (first | with_reducible exact Pick.here | apply Pick.there)); done)) | apply Sub.drop)))
  refine ⟨_, _, _, _, ⟨Own.ld (g := a1) (k := 10) h (by repeat (first | with_reducible exact Pick.here | apply Pick.there)) rfl, Own.ld (g := a1) (k := 11) h (by repeat (first | with_reducible exact Pick.here | apply Pick.there)) rfl⟩, ?_⟩
  refine Rets.mono (rCost (k := k) (by omega) hI h) ?_
  clear h
  rintro _ w ⟨rfl, h⟩
  refine ⟨_, _, rfl, fun vs' w => ∃ b, vs' = [.bool b] ∧ (b = true ↔ ¬ askOk k n s) ∧ Own e w (imm h0 :: dlO q2 md c2 ts.ws :: rdO gy qd D.length cd s2 u :: blk a1 43 (pcC q c m sd q2 md c2 lim ts.ct ts.ag ql s.t.toL.length cl s.most) :: blk a2 43 ([.slice none 0 0, .int .i64 0, .int .u64 0, .slice none 0 0, .int .u64 0, .int .i64 0, .int .i64 0, .int .i64 0, .int .i64 0, .int .u64 0, .slice none 0 0, .int .i64 0]) :: F), ?_, ?_⟩
  · refine Rets.mono (rRight h) ?_
    clear h
    rintro _ w ⟨rfl, h⟩
    refine ⟨_, rfl, fun hb => ?_, fun hb => ⟨true, rfl, ⟨fun _ ha => ?_, fun _ => rfl⟩, h⟩⟩
    · have hb := rightB_t.1 (by simpa using hb)
      refine ⟨_, Own.ld (g := a1) (k := 11) h (by repeat (first | with_reducible exact Pick.here | apply Pick.there)) rfl, fun hc => ⟨_, rfl, ⟨fun hf ha => ha.2.2 (lfind_keyP.1 hf), fun hna => ?_⟩, h⟩, fun hc => ⟨true, rfl, ⟨fun _ ha => ?_, fun _ => rfl⟩, h⟩⟩
      · by_cases hf : (lfind k s.t.toL).isSome = true
        · exact hf
        · exact absurd ⟨hb.1, by have := dec_f hc; omega, fun hk => hf (lfind_keyP.2 hk)⟩ hna
      · have := dec_t hc
        have := ha.2.1
        omega
    · have hb := rightB_f.1 (by simpa using hb)
      have := ha.1
      have := ha.2.1
      omega
  clear h
  intro w
  intros
  rename_i b3 hI3
  obtain ⟨b, hvs, hb, h⟩ := hI3
  obtain rfl : b3 = b := by simpa using hvs
  refine ⟨fun hq => ?_, fun hq => ?_⟩
  · refine ⟨_, _, _, _, _, _, _, _, _, _, _, _, _, _, _, _, _, _, ⟨Own.ld (g := a1) h (by repeat (first | with_reducible exact Pick.here | apply Pick.there)) rfl, Own.ld (g := a1) h (by repeat (first | with_reducible exact Pick.here | apply Pick.there)) rfl, Own.ld (g := a1) h (by repeat (first | with_reducible exact Pick.here | apply Pick.there)) rfl, Own.ld (g := a1) h (by repeat (first | with_reducible exact Pick.here | apply Pick.there)) rfl, Own.ld (g := a1) h (by repeat (first | with_reducible exact Pick.here | apply Pick.there)) rfl, Own.ld (g := a1) h (by repeat (first | with_reducible exact Pick.here | apply Pick.there)) rfl, Own.ld (g := a1) h (by repeat (first | with_reducible exact Pick.here | apply Pick.there)) rfl, Own.ld (g := a1) h (by repeat (first | with_reducible exact Pick.here | apply Pick.there)) rfl, Own.ld (g := a1) h (by repeat (first | with_reducible exact Pick.here | apply Pick.there)) rfl, Own.ld (g := a1) h (by repeat (first | with_reducible exact Pick.here | apply Pick.there)) rfl, Own.ld (g := a1) h (by repeat (first | with_reducible exact Pick.here | apply Pick.there)) rfl, Own.ld (g := a1) h (by repeat (first | with_reducible exact Pick.here | apply Pick.there)) rfl⟩, Own.stP' (g := a2) h (by repeat (first | with_reducible exact Pick.here | apply Pick.there)) (by simp) (by simp [Value.oneCell']) fun w h => ?_⟩
    simp only [setFrom, List.set_cons_zero, List.set_cons_succ, List.set_nil] at h
    exact ⟨_, _, _, _, _, _, _, _, _, _, _, _, _, _, _, _, _, _, ⟨Own.ld (g := a2) h (by repeat (first | with_reducible exact Pick.here | apply Pick.there)) rfl, Own.ld (g := a2) h (by repeat (first | with_reducible exact Pick.here | apply Pick.there)) rfl, Own.ld (g := a2) h (by repeat (first | with_reducible exact Pick.here | apply Pick.there)) rfl, Own.ld (g := a2) h (by repeat (first | with_reducible exact Pick.here | apply Pick.there)) rfl, Own.ld (g := a2) h (by repeat (first | with_reducible exact Pick.here | apply Pick.there)) rfl, Own.ld (g := a2) h (by repeat (first | with_reducible exact Pick.here | apply Pick.there)) rfl, Own.ld (g := a2) h (by repeat (first | with_reducible exact Pick.here | apply Pick.there)) rfl, Own.ld (g := a2) h (by repeat (first | with_reducible exact Pick.here | apply Pick.there)) rfl, Own.ld (g := a2) h (by repeat (first | with_reducible exact Pick.here | apply Pick.there)) rfl, Own.ld (g := a2) h (by repeat (first | with_reducible exact Pick.here | apply Pick.there)) rfl, Own.ld (g := a2) h (by repeat (first | with_reducible exact Pick.here | apply Pick.there)) rfl, Own.ld (g := a2) h (by repeat (first | with_reducible exact Pick.here | apply Pick.there)) rfl⟩, .inl ⟨hb.1 hq, (by first | trivial | rfl), (Own.sub (h) (by repeat (first | with_reducible exact Sub.nil _ | with_reducible exact Sub.rfl _ | (apply Sub.cons; focus ((repeat (first | with_reducible exact Pick.here | apply Pick.there)); done)) | apply Sub.drop)))⟩⟩
  have ha : askOk k n s := by
    by_cases hh : askOk k n s
    · exact hh
    · rw [hb.2 hh] at hq; cases hq
  clear hb hvs
  refine ⟨fun vs' w => ∃ (b : Bool) (s1 : Lg) (ins' : List Int) (vs1 : LE2) (u1 : Nat) (h1 : Nat → Option Obj) (ql1 : Option Addr) (cl1 : Nat) (qv : Option Addr) (cv : Nat), vs' = [.slice qv vs1.length cv, .bool b] ∧ GoP D s2 (esT sd m md ts) (esT sd m md ts k) (s.most - n) ⟨s, [], [], u⟩ b ⟨s1, ins', vs1, u1⟩ ∧ LeH h0 h1 ∧ ImR h1 ql1 (E24 s1.t.toL) ∧ s1.t.toL.length ≤ cl1 ∧ ImR h1 qv (E24 vs1) ∧ LgOk s1 ∧ s1.t.size + vs1.length ≤ s.t.size ∧ u1 ≤ u + 5 * (vs1.length + 1) ∧ Own e w (imm h1 :: dlO q2 md c2 ts.ws :: rdO gy qd D.length cd s2 u1 :: blk a1 43 (pcC q c m sd q2 md c2 lim ts.ct ts.ag ql1 s1.t.toL.length cl1 s1.most) :: blk a2 43 ([.slice none 0 0, .int .i64 0, .int .u64 0, .slice none 0 0, .int .u64 0, .int .i64 0, .int .i64 0, .int .i64 0, .int .i64 0, .int .u64 0, .slice none 0 0, .int .i64 0]) :: F), ?_, ?_⟩
  · let S : World → Prop := fun w => ∃ F', Own e w (blk a1 43 (pcC q c m sd q2 md c2 lim ts.ct ts.ag ql s.t.toL.length cl s.most) :: F')
    refine h.drw fun w h => ⟨S, ⟨_, (Own.sub (h) (by repeat (first | with_reducible exact Sub.nil _ | with_reducible exact Sub.rfl _ | (apply Sub.cons; focus ((repeat (first | with_reducible exact Pick.here | apply Pick.there)); done)) | apply Sub.drop)))⟩, _, _, _, _, _, _, _, _, _, _, _, _, _, _, _, _, _, _, ⟨fun w h => h.elim fun F' h => Own.ld (g := a1) h (by repeat (first | with_reducible exact Pick.here | apply Pick.there)) rfl, fun w h => h.elim fun F' h => Own.ld (g := a1) h (by repeat (first | with_reducible exact Pick.here | apply Pick.there)) rfl, fun w h => h.elim fun F' h => Own.ld (g := a1) h (by repeat (first | with_reducible exact Pick.here | apply Pick.there)) rfl, fun w h => h.elim fun F' h => Own.ld (g := a1) h (by repeat (first | with_reducible exact Pick.here | apply Pick.there)) rfl, fun w h => h.elim fun F' h => Own.ld (g := a1) h (by repeat (first | with_reducible exact Pick.here | apply Pick.there)) rfl, fun w h => h.elim fun F' h => Own.ld (g := a1) h (by repeat (first | with_reducible exact Pick.here | apply Pick.there)) rfl, fun w h => h.elim fun F' h => Own.ld (g := a1) h (by repeat (first | with_reducible exact Pick.here | apply Pick.there)) rfl, fun w h => h.elim fun F' h => Own.ld (g := a1) h (by repeat (first | with_reducible exact Pick.here | apply Pick.there)) rfl, fun w h => h.elim fun F' h => Own.ld (g := a1) h (by repeat (first | with_reducible exact Pick.here | apply Pick.there)) rfl, fun w h => h.elim fun F' h => Own.ld (g := a1) h (by repeat (first | with_reducible exact Pick.here | apply Pick.there)) rfl, fun w h => h.elim fun F' h => Own.ld (g := a1) h (by repeat (first | with_reducible exact Pick.here | apply Pick.there)) rfl, fun w h => h.elim fun F' h => Own.ld (g := a1) h (by repeat (first | with_reducible exact Pick.here | apply Pick.there)) rfl⟩, _, fun w h => h.elim fun F' h => Own.ld (g := a1) (k := 11) h (by repeat (first | with_reducible exact Pick.here | apply Pick.there)) rfl, _, _, _, _, _, _, _, _, _, _, _, _, _, _, ⟨fun w h => h.elim fun F' h => Own.ld (g := a1) h (by repeat (first | with_reducible exact Pick.here | apply Pick.there)) rfl, fun w h => h.elim fun F' h => Own.ld (g := a1) h (by repeat (first | with_reducible exact Pick.here | apply Pick.there)) rfl, fun w h => h.elim fun F' h => Own.ld (g := a1) h (by repeat (first | with_reducible exact Pick.here | apply Pick.there)) rfl, fun w h => h.elim fun F' h => Own.ld (g := a1) h (by repeat (first | with_reducible exact Pick.here | apply Pick.there)) rfl, fun w h => h.elim fun F' h => Own.ld (g := a1) h (by repeat (first | with_reducible exact Pick.here | apply Pick.there)) rfl, fun w h => h.elim fun F' h => Own.ld (g := a1) h (by repeat (first | with_reducible exact Pick.here | apply Pick.there)) rfl, fun w h => h.elim fun F' h => Own.ld (g := a1) h (by repeat (first | with_reducible exact Pick.here | apply Pick.there)) rfl, fun w h => h.elim fun F' h => Own.ld (g := a1) h (by repeat (first | with_reducible exact Pick.here | apply Pick.there)) rfl, fun w h => h.elim fun F' h => Own.ld (g := a1) h (by repeat (first | with_reducible exact Pick.here | apply Pick.there)) rfl, fun w h => h.elim fun F' h => Own.ld (g := a1) h (by repeat (first | with_reducible exact Pick.here | apply Pick.there)) rfl⟩, ?_⟩
    refine Rets.mono (trEst (hh := k) hm9 hmd hsd okt hS (fun w h => Own.rdP (T := 4) (q := q2) h (by repeat (first | with_reducible exact Pick.here | apply Pick.there))) h) ?_
    clear h
    rintro _ w ⟨rfl, h⟩
    have en : IntKind.wrap .i64 (s.most - n) = s.most - n := wI64 (by have := ha.2.1; have := ha.1; omega) (by have := ha.2.1; have := ha.1; omega)
    rw [en]
    refine ⟨_, rfl, ⟨_, (Own.sub (h) (by repeat (first | with_reducible exact Sub.nil _ | with_reducible exact Sub.rfl _ | (apply Sub.cons; focus ((repeat (first | with_reducible exact Pick.here | apply Pick.there)); done)) | apply Sub.drop)))⟩, ?_⟩
    refine Rets.mono (rUntil (us := s.most - n) (most := esT sd m md ts k) hm9 hmd hsd okt hs2 hD hd hS ok hsz hI hcl hu h) ?_
    clear h
    rintro _ w ⟨b, s1, ins1, vs1, u1, h1, ql1, cl1, qv, cv, hgo, rfl, le1, I1, hc1, Iv, ok1, hsz1, hu1, h⟩
    refine ⟨_, _, _, _, _, _, _, _, _, _, _, _, _, _, _, _, _, _, _, _, _, _, rfl, Own.stP' (g := a1) h (by repeat (first | with_reducible exact Pick.here | apply Pick.there)) (by simp) (by simp [Value.oneCell']) fun w h => ?_⟩
    simp only [setFrom, List.set_cons_zero, List.set_cons_succ, List.set_nil] at h
    exact ⟨b, s1, ins1, vs1, u1, h1, ql1, cl1, qv, cv, rfl, hgo, le1, I1, hc1, Iv, ok1, hsz1, hu1, (Own.sub (h) (by repeat (first | with_reducible exact Sub.nil _ | with_reducible exact Sub.rfl _ | (apply Sub.cons; focus ((repeat (first | with_reducible exact Pick.here | apply Pick.there)); done)) | apply Sub.drop)))⟩
  clear h
  intro w qx k33 k34 b5
  intros
  rename_i hI4
  obtain ⟨b, s1, ins1, vs1, u1, h1, ql1, cl1, qv, cv, hvs, hgo, le1, I1, hc1, Iv, ok1, hsz1, hu1, h⟩ := hI4
  obtain ⟨⟨rfl, rfl, rfl⟩, rfl⟩ : (qx = qv ∧ k33 = vs1.length ∧ k34 = cv) ∧ b5 = b := by simpa using hvs
  refine ⟨fun hq2 => ?_, fun hq2 => ?_⟩
  · have hq2 : b5 = false := by simpa using hq2
    subst hq2
    refine ⟨_, _, _, _, _, _, _, _, _, _, _, _, _, _, _, _, _, _, ⟨Own.ld (g := a1) h (by repeat (first | with_reducible exact Pick.here | apply Pick.there)) rfl, Own.ld (g := a1) h (by repeat (first | with_reducible exact Pick.here | apply Pick.there)) rfl, Own.ld (g := a1) h (by repeat (first | with_reducible exact Pick.here | apply Pick.there)) rfl, Own.ld (g := a1) h (by repeat (first | with_reducible exact Pick.here | apply Pick.there)) rfl, Own.ld (g := a1) h (by repeat (first | with_reducible exact Pick.here | apply Pick.there)) rfl, Own.ld (g := a1) h (by repeat (first | with_reducible exact Pick.here | apply Pick.there)) rfl, Own.ld (g := a1) h (by repeat (first | with_reducible exact Pick.here | apply Pick.there)) rfl, Own.ld (g := a1) h (by repeat (first | with_reducible exact Pick.here | apply Pick.there)) rfl, Own.ld (g := a1) h (by repeat (first | with_reducible exact Pick.here | apply Pick.there)) rfl, Own.ld (g := a1) h (by repeat (first | with_reducible exact Pick.here | apply Pick.there)) rfl, Own.ld (g := a1) h (by repeat (first | with_reducible exact Pick.here | apply Pick.there)) rfl, Own.ld (g := a1) h (by repeat (first | with_reducible exact Pick.here | apply Pick.there)) rfl⟩, Own.stP' (g := a2) h (by repeat (first | with_reducible exact Pick.here | apply Pick.there)) (by simp) (by simp [Value.oneCell']) fun w h => ?_⟩
    simp only [setFrom, List.set_cons_zero, List.set_cons_succ, List.set_nil] at h
    exact ⟨_, _, _, _, _, _, _, _, _, _, _, _, _, _, _, _, _, _, ⟨Own.ld (g := a2) h (by repeat (first | with_reducible exact Pick.here | apply Pick.there)) rfl, Own.ld (g := a2) h (by repeat (first | with_reducible exact Pick.here | apply Pick.there)) rfl, Own.ld (g := a2) h (by repeat (first | with_reducible exact Pick.here | apply Pick.there)) rfl, Own.ld (g := a2) h (by repeat (first | with_reducible exact Pick.here | apply Pick.there)) rfl, Own.ld (g := a2) h (by repeat (first | with_reducible exact Pick.here | apply Pick.there)) rfl, Own.ld (g := a2) h (by repeat (first | with_reducible exact Pick.here | apply Pick.there)) rfl, Own.ld (g := a2) h (by repeat (first | with_reducible exact Pick.here | apply Pick.there)) rfl, Own.ld (g := a2) h (by repeat (first | with_reducible exact Pick.here | apply Pick.there)) rfl, Own.ld (g := a2) h (by repeat (first | with_reducible exact Pick.here | apply Pick.there)) rfl, Own.ld (g := a2) h (by repeat (first | with_reducible exact Pick.here | apply Pick.there)) rfl, Own.ld (g := a2) h (by repeat (first | with_reducible exact Pick.here | apply Pick.there)) rfl, Own.ld (g := a2) h (by repeat (first | with_reducible exact Pick.here | apply Pick.there)) rfl⟩, .inr ⟨ha, false, s1, ins1, vs1, u1, h1, ql1, cl1, qx, k34, hgo, (by first | trivial | rfl), le1, I1, hc1, Iv, hsz1, hu1, (Own.sub (h) (by repeat (first | with_reducible exact Sub.nil _ | with_reducible exact Sub.rfl _ | (apply Sub.cons; focus ((repeat (first | with_reducible exact Pick.here | apply Pick.there)); done)) | apply Sub.drop)))⟩⟩
  · have hq2 : b5 = true := by simpa using hq2
    subst hq2
    refine ⟨_, _, _, _, ⟨Own.ld (g := a1) (k := 10) h (by repeat (first | with_reducible exact Pick.here | apply Pick.there)) rfl, Own.ld (g := a1) (k := 11) h (by repeat (first | with_reducible exact Pick.here | apply Pick.there)) rfl⟩, ?_⟩
    refine Rets.mono (rAdd (k := k) (n := n) ok1 (by omega) I1 hc1 h) ?_
    clear h
    rintro _ w ⟨h2, ql2, cl2, rfl, le2, I2, hc2, h⟩
    refine ⟨_, _, _, _, _, rfl, h.newR fun a3 w h => Own.stP' (g := a3) h (by repeat (first | with_reducible exact Pick.here | apply Pick.there)) (by simp) (by simp [Value.oneCell']) fun w h => ?_⟩
    simp only [setFrom, List.set_cons_zero, List.set_cons_succ, List.set_nil] at h
    refine ⟨_, _, _, _, ⟨Own.ld (g := a3) h (by repeat (first | with_reducible exact Pick.here | apply Pick.there)) rfl, Own.ld (g := a3) (k := 1) h (by repeat (first | with_reducible exact Pick.here | apply Pick.there)) rfl⟩, Own.stP (g := a1) (k := 10) h (by repeat (first | with_reducible exact Pick.here | apply Pick.there)) (by simp) (by simp [Value.oneCell']) fun w h => ?_⟩
    simp only [setFrom, List.set_cons_zero, List.set_cons_succ, List.set_nil] at h
    refine ⟨_, _, _, _, _, _, _, _, _, _, _, _, _, _, _, _, _, _, ⟨Own.ld (g := a1) h (by repeat (first | with_reducible exact Pick.here | apply Pick.there)) rfl, Own.ld (g := a1) h (by repeat (first | with_reducible exact Pick.here | apply Pick.there)) rfl, Own.ld (g := a1) h (by repeat (first | with_reducible exact Pick.here | apply Pick.there)) rfl, Own.ld (g := a1) h (by repeat (first | with_reducible exact Pick.here | apply Pick.there)) rfl, Own.ld (g := a1) h (by repeat (first | with_reducible exact Pick.here | apply Pick.there)) rfl, Own.ld (g := a1) h (by repeat (first | with_reducible exact Pick.here | apply Pick.there)) rfl, Own.ld (g := a1) h (by repeat (first | with_reducible exact Pick.here | apply Pick.there)) rfl, Own.ld (g := a1) h (by repeat (first | with_reducible exact Pick.here | apply Pick.there)) rfl, Own.ld (g := a1) h (by repeat (first | with_reducible exact Pick.here | apply Pick.there)) rfl, Own.ld (g := a1) h (by repeat (first | with_reducible exact Pick.here | apply Pick.there)) rfl, Own.ld (g := a1) h (by repeat (first | with_reducible exact Pick.here | apply Pick.there)) rfl, Own.ld (g := a1) h (by repeat (first | with_reducible exact Pick.here | apply Pick.there)) rfl⟩, Own.stP' (g := a2) h (by repeat (first | with_reducible exact Pick.here | apply Pick.there)) (by simp) (by simp [Value.oneCell']) fun w h => ?_⟩
    simp only [setFrom, List.set_cons_zero, List.set_cons_succ, List.set_nil] at h
    exact ⟨_, _, _, _, _, _, _, _, _, _, _, _, _, _, _, _, _, _, ⟨Own.ld (g := a2) h (by repeat (first | with_reducible exact Pick.here | apply Pick.there)) rfl, Own.ld (g := a2) h (by repeat (first | with_reducible exact Pick.here | apply Pick.there)) rfl, Own.ld (g := a2) h (by repeat (first | with_reducible exact Pick.here | apply Pick.there)) rfl, Own.ld (g := a2) h (by repeat (first | with_reducible exact Pick.here | apply Pick.there)) rfl, Own.ld (g := a2) h (by repeat (first | with_reducible exact Pick.here | apply Pick.there)) rfl, Own.ld (g := a2) h (by repeat (first | with_reducible exact Pick.here | apply Pick.there)) rfl, Own.ld (g := a2) h (by repeat (first | with_reducible exact Pick.here | apply Pick.there)) rfl, Own.ld (g := a2) h (by repeat (first | with_reducible exact Pick.here | apply Pick.there)) rfl, Own.ld (g := a2) h (by repeat (first | with_reducible exact Pick.here | apply Pick.there)) rfl, Own.ld (g := a2) h (by repeat (first | with_reducible exact Pick.here | apply Pick.there)) rfl, Own.ld (g := a2) h (by repeat (first | with_reducible exact Pick.here | apply Pick.there)) rfl, Own.ld (g := a2) h (by repeat (first | with_reducible exact Pick.here | apply Pick.there)) rfl⟩, .inr ⟨ha, true, s1, ins1, vs1, u1, h2, ql2, cl2, qx, k34, hgo, (by first | trivial | rfl), LeH.trans le1 le2, I2, hc2, Iv.mono le2, hsz1, hu1, (Own.sub (h) (by repeat (first | with_reducible exact Sub.nil _ | with_reducible exact Sub.rfl _ | (apply Sub.cons; focus ((repeat (first | with_reducible exact Pick.here | apply Pick.there)); done)) | apply Sub.drop)))⟩⟩
theorem rUpdP {k n : Int} (hm9 : m ≤ 9) (hmd : md ≤ 20) (hsd : M64 sd) (okt : okT m md lim ts) (hs2 : M64 s2) (hD : D.length * 8 ≤ 140737488351232) (hd : ImR h0 qd (cs .i64 D)) (hS : RsR h0 q (2 ^ m) ts.R) (ok : LgOk s) (hsz : s.t.size ≤ 100) (hI : ImR h0 ql (E24 s.t.toL)) (hcl : s.t.toL.length ≤ cl) (hu : u ≤ 7000) (h : Own e w (imm h0 :: dlO q2 md c2 ts.ws :: rdO gy qd D.length cd s2 u :: F)) :
    Rets Tryz.prog 26 #[pcV q c m sd q2 md c2 lim ts.ct ts.ag ql s.t.toL.length cl s.most, .int .u64 k, .int .i64 n, .pointer (some ⟨gy, 0, none⟩)] w fun v w' =>
      (¬ (k ∈ keysP s.t.toL ∧ 0 ≤ n ∧ n ≤ 4611686018427387904) ∧ v = .tuple #[pcV q c m sd q2 md c2 lim ts.ct ts.ag ql s.t.toL.length cl s.most, .slice none 0 0, .bool false] ∧ Own e w' (imm h0 :: dlO q2 md c2 ts.ws :: rdO gy qd D.length cd s2 u :: F)) ∨
      ((k ∈ keysP s.t.toL ∧ 0 ≤ n ∧ n ≤ 4611686018427387904 ∧ s.most < n) ∧ ∃ (h1 : Nat → Option Obj) (ql' : Option Addr) (cl' : Nat) (qv : Option Addr) (cv : Nat), v = .tuple #[pcV q c m sd q2 md c2 lim ts.ct ts.ag ql' (lgDrop k s).t.toL.length cl' (lgDrop k s).most, .slice qv 1 cv, .bool false] ∧ LeH h0 h1 ∧ ImR h1 ql' (E24 (lgDrop k s).t.toL) ∧ (lgDrop k s).t.toL.length ≤ cl' ∧ ImR h1 qv (E24 [(k, lval k s.t.toL)]) ∧ Own e w' (imm h1 :: dlO q2 md c2 ts.ws :: rdO gy qd D.length cd s2 u :: F)) ∨
      ((k ∈ keysP s.t.toL ∧ 0 ≤ n ∧ n ≤ s.most) ∧ (∃ (b : Bool) (s1 : Lg) (ins' : List Int) (vs' : LE2) (u' : Nat) (h1 : Nat → Option Obj) (ql' : Option Addr) (cl' : Nat) (qv : Option Addr) (cv : Nat), GoP D s2 (esT sd m md ts) 1000 (s.most - n) ⟨lgDrop k s, [], [], u⟩ b ⟨s1, ins', vs', u'⟩ ∧ v = .tuple #[pcV q c m sd q2 md c2 lim ts.ct ts.ag ql' (lgAdd k n s1).1.t.toL.length cl' (lgAdd k n s1).1.most, .slice qv vs'.length cv, .bool true] ∧ LeH h0 h1 ∧ ImR h1 ql' (E24 (lgAdd k n s1).1.t.toL) ∧ (lgAdd k n s1).1.t.toL.length ≤ cl' ∧ ImR h1 qv (E24 vs') ∧ s1.t.size + vs'.length ≤ s.t.size ∧ u' ≤ u + 5 * (vs'.length + 1) ∧ Own e w' (imm h1 :: dlO q2 md c2 ts.ws :: rdO gy qd D.length cd s2 u' :: F))) := by
  have hkl := Tr.size_toL s.t
  have h5 := ok.2.2.2.2
  have h4 := ok.2.2.2.1
  have hnn := ok.nn
  refine cortadoref26_Update_go _ _ _ _ _ _ _ _ _ _ _ _ _ _ _ _ _ _ _ _ _ ?_
  unfold cortadoref26_Update_m
  refine h.newR fun a1 w h => h.newR fun a2 w h => ?_
  simp only [addr_add_add, Nat.zero_add]
  have h : Own e w (imm h0 :: dlO q2 md c2 ts.ws :: rdO gy qd D.length cd s2 u :: blk a1 43 (pcC q c m sd q2 md c2 lim ts.ct ts.ag ql s.t.toL.length cl s.most) :: blk a2 43 ([.slice none 0 0, .int .i64 0, .int .u64 0, .slice none 0 0, .int .u64 0, .int .i64 0, .int .i64 0, .int .i64 0, .int .i64 0, .int .u64 0, .slice none 0 0, .int .i64 0]) :: F) := (Own.sub (h) (by repeat (first | with_reducible exact Sub.nil _ | with_reducible exact Sub.rfl _ | (apply Sub.cons; focus ((repeat (first | with_reducible exact Pick.here | apply Pick.there)); done)) | apply Sub.drop)))
  refine ⟨_, _, _, _, ⟨Own.ld (g := a1) (k := 10) h (by repeat (first | with_reducible exact Pick.here | apply Pick.there)) rfl, Own.ld (g := a1) (k := 11) h (by repeat (first | with_reducible exact Pick.here | apply Pick.there)) rfl⟩, ?_⟩
  refine Rets.mono (rCost (k := k) (by omega) hI h) ?_
  clear h
  rintro _ w ⟨rfl, h⟩
  refine ⟨_, _, rfl, fun vs' w => ∃ b, vs' = [.bool b] ∧ (b = true ↔ ¬ (k ∈ keysP s.t.toL ∧ 0 ≤ n ∧ n ≤ 4611686018427387904)) ∧ Own e w (imm h0 :: dlO q2 md c2 ts.ws :: rdO gy qd D.length cd s2 u :: blk a1 43 (pcC q c m sd q2 md c2 lim ts.ct ts.ag ql s.t.toL.length cl s.most) :: blk a2 43 ([.slice none 0 0, .int .i64 0, .int .u64 0, .slice none 0 0, .int .u64 0, .int .i64 0, .int .i64 0, .int .i64 0, .int .i64 0, .int .u64 0, .slice none 0 0, .int .i64 0]) :: F), ⟨fun hf => ?_, fun hf => ?_⟩, ?_⟩
  · have hk := lfind_keyP.1 (show (lfind k s.t.toL).isSome = true by simpa using hf)
    refine Rets.mono (rRight h) ?_
    clear h
    rintro _ w ⟨rfl, h⟩
    refine ⟨_, rfl, _, rfl, ?_, h⟩
    constructor
    · intro hb hh
      have := rightB_f.1 (show rightB n = false by simpa using hb)
      exact this hh.2
    · intro hh
      have : rightB n = false := rightB_f.2 (fun hr => hh ⟨hk, hr⟩)
      rw [this]; rfl
  · have hk : k ∉ keysP s.t.toL := fun hk => by rw [lfind_keyP.2 hk] at hf; cases hf
    exact ⟨true, rfl, ⟨fun _ hh => hk hh.1, fun _ => rfl⟩, h⟩
  clear h
  intro w
  intros
  rename_i b3 hI3
  obtain ⟨b, hvs, hb, h⟩ := hI3
  obtain rfl : b3 = b := by simpa using hvs
  refine ⟨fun hq => ?_, fun hq => ?_⟩
  · refine ⟨_, _, _, _, _, _, _, _, _, _, _, _, _, _, _, _, _, _, ⟨Own.ld (g := a1) h (by repeat (first | with_reducible exact Pick.here | apply Pick.there)) rfl, Own.ld (g := a1) h (by repeat (first | with_reducible exact Pick.here | apply Pick.there)) rfl, Own.ld (g := a1) h (by repeat (first | with_reducible exact Pick.here | apply Pick.there)) rfl, Own.ld (g := a1) h (by repeat (first | with_reducible exact Pick.here | apply Pick.there)) rfl, Own.ld (g := a1) h (by repeat (first | with_reducible exact Pick.here | apply Pick.there)) rfl, Own.ld (g := a1) h (by repeat (first | with_reducible exact Pick.here | apply Pick.there)) rfl, Own.ld (g := a1) h (by repeat (first | with_reducible exact Pick.here | apply Pick.there)) rfl, Own.ld (g := a1) h (by repeat (first | with_reducible exact Pick.here | apply Pick.there)) rfl, Own.ld (g := a1) h (by repeat (first | with_reducible exact Pick.here | apply Pick.there)) rfl, Own.ld (g := a1) h (by repeat (first | with_reducible exact Pick.here | apply Pick.there)) rfl, Own.ld (g := a1) h (by repeat (first | with_reducible exact Pick.here | apply Pick.there)) rfl, Own.ld (g := a1) h (by repeat (first | with_reducible exact Pick.here | apply Pick.there)) rfl⟩, Own.stP' (g := a2) h (by repeat (first | with_reducible exact Pick.here | apply Pick.there)) (by simp) (by simp [Value.oneCell']) fun w h => ?_⟩
    simp only [setFrom, List.set_cons_zero, List.set_cons_succ, List.set_nil] at h
    exact ⟨_, _, _, _, _, _, _, _, _, _, _, _, _, _, _, _, _, _, ⟨Own.ld (g := a2) h (by repeat (first | with_reducible exact Pick.here | apply Pick.there)) rfl, Own.ld (g := a2) h (by repeat (first | with_reducible exact Pick.here | apply Pick.there)) rfl, Own.ld (g := a2) h (by repeat (first | with_reducible exact Pick.here | apply Pick.there)) rfl, Own.ld (g := a2) h (by repeat (first | with_reducible exact Pick.here | apply Pick.there)) rfl, Own.ld (g := a2) h (by repeat (first | with_reducible exact Pick.here | apply Pick.there)) rfl, Own.ld (g := a2) h (by repeat (first | with_reducible exact Pick.here | apply Pick.there)) rfl, Own.ld (g := a2) h (by repeat (first | with_reducible exact Pick.here | apply Pick.there)) rfl, Own.ld (g := a2) h (by repeat (first | with_reducible exact Pick.here | apply Pick.there)) rfl, Own.ld (g := a2) h (by repeat (first | with_reducible exact Pick.here | apply Pick.there)) rfl, Own.ld (g := a2) h (by repeat (first | with_reducible exact Pick.here | apply Pick.there)) rfl, Own.ld (g := a2) h (by repeat (first | with_reducible exact Pick.here | apply Pick.there)) rfl, Own.ld (g := a2) h (by repeat (first | with_reducible exact Pick.here | apply Pick.there)) rfl⟩, .inl ⟨hb.1 hq, (by first | trivial | rfl), (Own.sub (h) (by repeat (first | with_reducible exact Sub.nil _ | with_reducible exact Sub.rfl _ | (apply Sub.cons; focus ((repeat (first | with_reducible exact Pick.here | apply Pick.there)); done)) | apply Sub.drop)))⟩⟩
  have ha : k ∈ keysP s.t.toL ∧ 0 ≤ n ∧ n ≤ 4611686018427387904 := by
    by_cases hh : k ∈ keysP s.t.toL ∧ 0 ≤ n ∧ n ≤ 4611686018427387904
    · exact hh
    · rw [hb.2 hh] at hq; cases hq
  clear hb hvs
  have okd : LgOk (lgDrop k s) := ok.drop
  have emd := lgDrop_mostP k s
  have hsdl := drop_less ok.1 ha.1
  refine ⟨_, _, _, _, ⟨Own.ld (g := a1) (k := 10) h (by repeat (first | with_reducible exact Pick.here | apply Pick.there)) rfl, Own.ld (g := a1) (k := 11) h (by repeat (first | with_reducible exact Pick.here | apply Pick.there)) rfl⟩, ?_⟩
  refine Rets.mono (rDrop (k := k) (by omega) hI h) ?_
  clear h
  rintro _ w ⟨h1, ql1, cl1, rfl, le1, I1, hc1, h⟩
  rw [← lgDrop_toLP ok.1] at I1 hc1 ⊢
  obtain ⟨sd', hsd'⟩ : ∃ s' : Lg, s' = lgDrop k s := ⟨_, rfl⟩
  rw [← hsd'] at I1 hc1 okd emd hsdl ⊢
  refine ⟨_, _, _, _, rfl, Own.stP (g := a1) (k := 10) h (by repeat (first | with_reducible exact Pick.here | apply Pick.there)) (by simp) (by simp [Value.oneCell']) fun w h => ?_⟩
  simp only [setFrom, List.set_cons_zero, List.set_cons_succ, List.set_nil] at h
  rw [← emd] at h
  refine ⟨_, Own.ld (g := a1) (k := 11) h (by repeat (first | with_reducible exact Pick.here | apply Pick.there)) rfl, fun hc => ?_, fun hc => ?_⟩
  · have hc := dec_t hc
    refine ⟨_, _, _, _, _, _, _, _, _, _, _, _, _, _, _, _, _, _, ⟨Own.ld (g := a1) h (by repeat (first | with_reducible exact Pick.here | apply Pick.there)) rfl, Own.ld (g := a1) h (by repeat (first | with_reducible exact Pick.here | apply Pick.there)) rfl, Own.ld (g := a1) h (by repeat (first | with_reducible exact Pick.here | apply Pick.there)) rfl, Own.ld (g := a1) h (by repeat (first | with_reducible exact Pick.here | apply Pick.there)) rfl, Own.ld (g := a1) h (by repeat (first | with_reducible exact Pick.here | apply Pick.there)) rfl, Own.ld (g := a1) h (by repeat (first | with_reducible exact Pick.here | apply Pick.there)) rfl, Own.ld (g := a1) h (by repeat (first | with_reducible exact Pick.here | apply Pick.there)) rfl, Own.ld (g := a1) h (by repeat (first | with_reducible exact Pick.here | apply Pick.there)) rfl, Own.ld (g := a1) h (by repeat (first | with_reducible exact Pick.here | apply Pick.there)) rfl, Own.ld (g := a1) h (by repeat (first | with_reducible exact Pick.here | apply Pick.there)) rfl, Own.ld (g := a1) h (by repeat (first | with_reducible exact Pick.here | apply Pick.there)) rfl, Own.ld (g := a1) h (by repeat (first | with_reducible exact Pick.here | apply Pick.there)) rfl⟩, h.newR fun a3 w h => ?_⟩
    refine Own.stP' (g := a2) h (by repeat (first | with_reducible exact Pick.here | apply Pick.there)) (by simp) (by simp [Value.oneCell']) fun w h => ?_
    simp only [setFrom, List.set_cons_zero, List.set_cons_succ, List.set_nil] at h
    have h : Own e w (blk a3 115 [.int .u64 k, .int .i64 (lval k s.t.toL)] :: imm h1 :: blk a2 43 (pcC q c m sd q2 md c2 lim ts.ct ts.ag ql1 sd'.t.toL.length cl1 sd'.most) :: dlO q2 md c2 ts.ws :: rdO gy qd D.length cd s2 u :: F) := (Own.sub (h) (by repeat (first | with_reducible exact Sub.nil _ | with_reducible exact Sub.rfl _ | (apply Sub.cons; focus ((repeat (first | with_reducible exact Pick.here | apply Pick.there)); done)) | apply Sub.drop)))
    refine ⟨_, _, _, _, _, _, _, _, _, _, _, _, _, _, _, _, _, _, ⟨Own.ld (g := a2) h (by repeat (first | with_reducible exact Pick.here | apply Pick.there)) rfl, Own.ld (g := a2) h (by repeat (first | with_reducible exact Pick.here | apply Pick.there)) rfl, Own.ld (g := a2) h (by repeat (first | with_reducible exact Pick.here | apply Pick.there)) rfl, Own.ld (g := a2) h (by repeat (first | with_reducible exact Pick.here | apply Pick.there)) rfl, Own.ld (g := a2) h (by repeat (first | with_reducible exact Pick.here | apply Pick.there)) rfl, Own.ld (g := a2) h (by repeat (first | with_reducible exact Pick.here | apply Pick.there)) rfl, Own.ld (g := a2) h (by repeat (first | with_reducible exact Pick.here | apply Pick.there)) rfl, Own.ld (g := a2) h (by repeat (first | with_reducible exact Pick.here | apply Pick.there)) rfl, Own.ld (g := a2) h (by repeat (first | with_reducible exact Pick.here | apply Pick.there)) rfl, Own.ld (g := a2) h (by repeat (first | with_reducible exact Pick.here | apply Pick.there)) rfl, Own.ld (g := a2) h (by repeat (first | with_reducible exact Pick.here | apply Pick.there)) rfl, Own.ld (g := a2) h (by repeat (first | with_reducible exact Pick.here | apply Pick.there)) rfl⟩, ?_⟩
    obtain ⟨h2, le2, hg, hh⟩ := Own.absorb h
    refine .inr (.inl ⟨⟨ha.1, ha.2.1, ha.2.2, by omega⟩, h2, ql1, cl1, some ⟨a3, 0, none⟩, 1, (by first | trivial | rfl), LeH.trans le1 le2, I1.mono le2, hc1, fun e w F h => .inr ⟨_, rfl, fun j u hj => h.immCell (vs := [.int .u64 k, .int .i64 (lval k s.t.toL)]) hg hj⟩, (Own.sub (hh) (by repeat (first | with_reducible exact Sub.nil _ | with_reducible exact Sub.rfl _ | (apply Sub.cons; focus ((repeat (first | with_reducible exact Pick.here | apply Pick.there)); done)) | apply Sub.drop)))⟩)
  · have hc := dec_f hc
    refine ⟨_, _, _, _, _, _, _, _, _, _, _, _, _, _, _, _, _, _, ⟨Own.ld (g := a1) h (by repeat (first | with_reducible exact Pick.here | apply Pick.there)) rfl, Own.ld (g := a1) h (by repeat (first | with_reducible exact Pick.here | apply Pick.there)) rfl, Own.ld (g := a1) h (by repeat (first | with_reducible exact Pick.here | apply Pick.there)) rfl, Own.ld (g := a1) h (by repeat (first | with_reducible exact Pick.here | apply Pick.there)) rfl, Own.ld (g := a1) h (by repeat (first | with_reducible exact Pick.here | apply Pick.there)) rfl, Own.ld (g := a1) h (by repeat (first | with_reducible exact Pick.here | apply Pick.there)) rfl, Own.ld (g := a1) h (by repeat (first | with_reducible exact Pick.here | apply Pick.there)) rfl, Own.ld (g := a1) h (by repeat (first | with_reducible exact Pick.here | apply Pick.there)) rfl, Own.ld (g := a1) h (by repeat (first | with_reducible exact Pick.here | apply Pick.there)) rfl, Own.ld (g := a1) h (by repeat (first | with_reducible exact Pick.here | apply Pick.there)) rfl, Own.ld (g := a1) h (by repeat (first | with_reducible exact Pick.here | apply Pick.there)) rfl, Own.ld (g := a1) h (by repeat (first | with_reducible exact Pick.here | apply Pick.there)) rfl⟩, _, Own.ld (g := a1) (k := 11) h (by repeat (first | with_reducible exact Pick.here | apply Pick.there)) rfl, ?_⟩
    have en : IntKind.wrap .i64 (sd'.most - n) = s.most - n := by rw [wI64 (by omega) (by omega), emd]
    rw [en]
    have h : Own e w (imm h1 :: dlO q2 md c2 ts.ws :: rdO gy qd D.length cd s2 u :: blk a1 43 (pcC q c m sd q2 md c2 lim ts.ct ts.ag ql1 sd'.t.toL.length cl1 sd'.most) :: blk a2 43 ([.slice none 0 0, .int .i64 0, .int .u64 0, .slice none 0 0, .int .u64 0, .int .i64 0, .int .i64 0, .int .i64 0, .int .i64 0, .int .u64 0, .slice none 0 0, .int .i64 0]) :: F) := (Own.sub (h) (by repeat (first | with_reducible exact Sub.nil _ | with_reducible exact Sub.rfl _ | (apply Sub.cons; focus ((repeat (first | with_reducible exact Pick.here | apply Pick.there)); done)) | apply Sub.drop)))
    refine Rets.mono (rUntil (s := sd') (us := s.most - n) (most := 1000) hm9 hmd hsd okt hs2 hD (hd.mono le1) (hS.mono le1) okd (by omega) I1 hc1 hu h) ?_
    clear h
    rintro _ w ⟨b, s1, ins1, vs1, u1, h2, ql2, cl2, qv, cv, hgo, rfl, le2, I2, hc2, Iv, ok1, hsz1, hu1, h⟩
    refine ⟨_, _, _, _, _, _, _, _, _, _, _, _, _, _, _, _, _, _, _, _, _, _, rfl, Own.stP' (g := a1) h (by repeat (first | with_reducible exact Pick.here | apply Pick.there)) (by simp) (by simp [Value.oneCell']) fun w h => ?_⟩
    simp only [setFrom, List.set_cons_zero, List.set_cons_succ, List.set_nil] at h
    have h : Own e w (imm h2 :: dlO q2 md c2 ts.ws :: rdO gy qd D.length cd s2 u1 :: blk a1 43 (pcC q c m sd q2 md c2 lim ts.ct ts.ag ql2 s1.t.toL.length cl2 s1.most) :: blk a2 43 ([.slice none 0 0, .int .i64 0, .int .u64 0, .slice none 0 0, .int .u64 0, .int .i64 0, .int .i64 0, .int .i64 0, .int .i64 0, .int .u64 0, .slice none 0 0, .int .i64 0]) :: F) := (Own.sub (h) (by repeat (first | with_reducible exact Sub.nil _ | with_reducible exact Sub.rfl _ | (apply Sub.cons; focus ((repeat (first | with_reducible exact Pick.here | apply Pick.there)); done)) | apply Sub.drop)))
    refine ⟨_, _, _, _, ⟨Own.ld (g := a1) (k := 10) h (by repeat (first | with_reducible exact Pick.here | apply Pick.there)) rfl, Own.ld (g := a1) (k := 11) h (by repeat (first | with_reducible exact Pick.here | apply Pick.there)) rfl⟩, ?_⟩
    refine Rets.mono (rAdd (k := k) (n := n) ok1 (by omega) I2 hc2 h) ?_
    clear h
    rintro _ w ⟨h3, ql3, cl3, rfl, le3, I3, hc3, h⟩
    refine ⟨_, _, _, _, _, rfl, h.newR fun a4 w h => Own.stP' (g := a4) h (by repeat (first | with_reducible exact Pick.here | apply Pick.there)) (by simp) (by simp [Value.oneCell']) fun w h => ?_⟩
    simp only [setFrom, List.set_cons_zero, List.set_cons_succ, List.set_nil] at h
    refine ⟨_, _, _, _, ⟨Own.ld (g := a4) h (by repeat (first | with_reducible exact Pick.here | apply Pick.there)) rfl, Own.ld (g := a4) (k := 1) h (by repeat (first | with_reducible exact Pick.here | apply Pick.there)) rfl⟩, Own.stP (g := a1) (k := 10) h (by repeat (first | with_reducible exact Pick.here | apply Pick.there)) (by simp) (by simp [Value.oneCell']) fun w h => ?_⟩
    simp only [setFrom, List.set_cons_zero, List.set_cons_succ, List.set_nil] at h
    refine ⟨_, _, _, _, _, _, _, _, _, _, _, _, _, _, _, _, _, _, ⟨Own.ld (g := a1) h (by repeat (first | with_reducible exact Pick.here | apply Pick.there)) rfl, Own.ld (g := a1) h (by repeat (first | with_reducible exact Pick.here | apply Pick.there)) rfl, Own.ld (g := a1) h (by repeat (first | with_reducible exact Pick.here | apply Pick.there)) rfl, Own.ld (g := a1) h (by repeat (first | with_reducible exact Pick.here | apply Pick.there)) rfl, Own.ld (g := a1) h (by repeat (first | with_reducible exact Pick.here | apply Pick.there)) rfl, Own.ld (g := a1) h (by repeat (first | with_reducible exact Pick.here | apply Pick.there)) rfl, Own.ld (g := a1) h (by repeat (first | with_reducible exact Pick.here | apply Pick.there)) rfl, Own.ld (g := a1) h (by repeat (first | with_reducible exact Pick.here | apply Pick.there)) rfl, Own.ld (g := a1) h (by repeat (first | with_reducible exact Pick.here | apply Pick.there)) rfl, Own.ld (g := a1) h (by repeat (first | with_reducible exact Pick.here | apply Pick.there)) rfl, Own.ld (g := a1) h (by repeat (first | with_reducible exact Pick.here | apply Pick.there)) rfl, Own.ld (g := a1) h (by repeat (first | with_reducible exact Pick.here | apply Pick.there)) rfl⟩, Own.stP' (g := a2) h (by repeat (first | with_reducible exact Pick.here | apply Pick.there)) (by simp) (by simp [Value.oneCell']) fun w h => ?_⟩
    simp only [setFrom, List.set_cons_zero, List.set_cons_succ, List.set_nil] at h
    exact ⟨_, _, _, _, _, _, _, _, _, _, _, _, _, _, _, _, _, _, ⟨Own.ld (g := a2) h (by repeat (first | with_reducible exact Pick.here | apply Pick.there)) rfl, Own.ld (g := a2) h (by repeat (first | with_reducible exact Pick.here | apply Pick.there)) rfl, Own.ld (g := a2) h (by repeat (first | with_reducible exact Pick.here | apply Pick.there)) rfl, Own.ld (g := a2) h (by repeat (first | with_reducible exact Pick.here | apply Pick.there)) rfl, Own.ld (g := a2) h (by repeat (first | with_reducible exact Pick.here | apply Pick.there)) rfl, Own.ld (g := a2) h (by repeat (first | with_reducible exact Pick.here | apply Pick.there)) rfl, Own.ld (g := a2) h (by repeat (first | with_reducible exact Pick.here | apply Pick.there)) rfl, Own.ld (g := a2) h (by repeat (first | with_reducible exact Pick.here | apply Pick.there)) rfl, Own.ld (g := a2) h (by repeat (first | with_reducible exact Pick.here | apply Pick.there)) rfl, Own.ld (g := a2) h (by repeat (first | with_reducible exact Pick.here | apply Pick.there)) rfl, Own.ld (g := a2) h (by repeat (first | with_reducible exact Pick.here | apply Pick.there)) rfl, Own.ld (g := a2) h (by repeat (first | with_reducible exact Pick.here | apply Pick.there)) rfl⟩, .inr (.inr ⟨⟨ha.1, ha.2.1, by omega⟩, b, s1, ins1, vs1, u1, h3, ql3, cl3, qv, cv, hgo, (by first | trivial | rfl), LeH.trans le1 (LeH.trans le2 le3), I3, hc3, Iv.mono le3, by omega, hu1, (Own.sub (h) (by repeat (first | with_reducible exact Sub.nil _ | with_reducible exact Sub.rfl _ | (apply Sub.cons; focus ((repeat (first | with_reducible exact Pick.here | apply Pick.there)); done)) | apply Sub.drop)))⟩)⟩
end
section
variable {e w : World} {F : List HP} {h0 : Nat → Option Obj} {q q2 : Option Addr} {c c2 gp gl gt gtr m md : Nat} {sd lim n k : Int} {ts : Ts} {s : Lg} {vs : LE2}
theorem vBack (hl : vs.length ≤ 1000) (hI : ImR h0 q (E24 vs)) (h : Own e w (imm h0 :: F)) : Rets Tryz.prog 37 #[.slice q vs.length c] w fun v w' => ∃ q' c', v = .slice q' vs.length c' ∧ Own e w' (slO 115 2 q' vs.length c' (E24 vs) :: imm h0 :: F) := by
  refine cortadolaw26_back_go _ _ _ ⟨fun z us w => ∃ (i : Nat) (q' : Option Addr) (c' : Nat), us = [.slice q' (vs.take i).length c', .int .i64 (i : Int)] ∧ z + i = vs.length ∧ Own e w (slO 115 2 q' (vs.take i).length c' (E24 (vs.take i)) :: imm h0 :: F), ⟨vs.length, 0, none, 0, rfl, rfl, ?_⟩, ?_⟩
  · have h : Own e w (slO 115 2 none 0 0 [] :: imm h0 :: F) := h.slNil
    exact h
  clear h
  intro z w q1 k3 k4 n1
  intros
  rename_i hI2
  obtain ⟨i, q', c', hus, hz, h⟩ := hI2
  obtain ⟨⟨rfl, rfl, rfl⟩, rfl⟩ : (q1 = q' ∧ k3 = (vs.take i).length ∧ k4 = c') ∧ n1 = (i : Int) := by simpa using hus
  refine ⟨fun hc => ?_, fun hc => ?_⟩
  · have hc := dec_t hc
    have hi : i < vs.length := by omega
    obtain ⟨ad, rfl, hcell⟩ := RdC.rec (enc := enc24) (c := 2) (fun _ => rfl) (hI _ _ _ h.swap) hi (by omega)
    refine ⟨by omega, by omega, smR ⟨_, _, ⟨hcell i hi 0 _ rfl, hcell i hi 1 _ rfl⟩, h.newR fun a2 w h => ?_⟩⟩
    have h : Own e w (blk a2 115 [.int .u64 vs[i].1, .int .i64 vs[i].2] :: slO 115 2 q1 (vs.take i).length k4 (E24 (vs.take i)) :: imm h0 :: F) := h
    have hti : (vs.take i).length ≤ 1000 := by rw [List.length_take]; omega
    refine rvapp (x := vs[i]) (by omega) h fun q'' c'' w h => ⟨_, _, _, rfl, z - 1, by omega, i + 1, q'', c'', ?_, by omega, ?_⟩
    · rw [List.take_succ_eq_append_getElem hi, wI64 (by omega) (by omega)]; rfl
    · rw [List.take_succ_eq_append_getElem hi]; exact h
  · have hc := dec_f hc
    obtain rfl : i = vs.length := by omega
    rw [List.take_length] at h ⊢
    exact ⟨_, _, rfl, h⟩
theorem vSame (hl : vs.length ≤ 1000) (hr : ∀ w, Own e w F → RdC w q (E24 vs)) (hr2 : ∀ w, Own e w F → RdC w q2 (E24 vs)) (h : Own e w F) : Rets Tryz.prog 36 #[.slice q vs.length c, .slice q2 vs.length c2] w fun v w' => v = .bool true ∧ Own e w' F := by
  refine cortadoref26_Same_go _ _ _ _ _ _ ⟨fun hc => absurd hc (by simp), fun _ => ?_⟩
  refine ⟨fun z us w => ∃ i : Nat, us = [.int .i64 (i : Int)] ∧ z + i = vs.length ∧ Own e w F, ⟨vs.length, 0, rfl, rfl, h⟩, ?_⟩
  clear h
  intro z w v1 n1
  intros
  rename_i hI2
  obtain ⟨i, hus, hz, h⟩ := hI2
  obtain rfl : n1 = (i : Int) := by simpa using hus
  refine ⟨fun hc => ?_, fun hc => ⟨rfl, h⟩⟩
  have hc := dec_t hc
  have hi : i < vs.length := by omega
  refine h.drw fun w h => ?_
  obtain ⟨ad, rfl, hcell⟩ := RdC.rec (enc := enc24) (c := 2) (fun _ => rfl) (hr w h) hi (by omega)
  obtain ⟨ad2, rfl, hcell2⟩ := RdC.rec (enc := enc24) (c := 2) (fun _ => rfl) (hr2 w h) hi (by omega)
  refine ⟨by omega, by omega, smR ⟨by omega, by omega, smR ⟨_, _, ⟨hcell i hi 0 _ rfl, hcell i hi 1 _ rfl⟩, _, _, ⟨hcell2 i hi 0 _ rfl, hcell2 i hi 1 _ rfl⟩, fun hc => absurd hc (by simp), fun _ => ⟨z - 1, by omega, i + 1, ?_, by omega, h⟩⟩⟩⟩
  rw [wI64 (by omega) (by omega)]; rfl
theorem pDel (hp : PolC h0 gp gt gl) (ok : LgOk s) (hs : s.t.size ≤ 100) (hT : TreeA h0 s.t gtr) (h : Own e w (imm h0 :: ldB gl gtr s.used s.most :: F)) : Rets Tryz.prog 27 #[.pointer (some ⟨gp, 0, none⟩), .int .u64 k] w fun v w' => v = .tuple #[.int .i64 (lval k s.t.toL), .bool (lfind k s.t.toL).isSome] ∧ LD e F h0 gl (lgDrop k s) w' := by
  refine policy_Policy_Del_go _ _ ?_
  refine Rets.mono (pLedger hp h) ?_
  clear h
  rintro _ w ⟨rfl, h⟩
  refine ⟨_, rfl, Rets.mono (ldDrop (k := k) ok (by omega) hT h) ?_⟩
  clear h
  rintro _ w ⟨rfl, h⟩
  exact ⟨_, _, rfl, rfl, h⟩
theorem pClear (hp : PolC h0 gp gt gl) (okt : okT m md lim ts) (h : Own e w (imm h0 :: ldB gl gtr s.used s.most :: tinT gt m md sd lim ts :: F)) : Rets Tryz.prog 34 #[.pointer (some ⟨gp, 0, none⟩)] w fun v w' => v = .tuple #[] ∧ ∃ h1 gtr', LeH h0 h1 ∧ TreeA h1 Tr.nil gtr' ∧ Own e w' (imm h1 :: ldB gl gtr' 0 s.most :: tinT gt m md sd lim (t0 m md) :: F) := by
  refine policy_Policy_Clear_go _ ?_
  refine Rets.mono (pLedger hp h) ?_
  clear h
  rintro _ w ⟨rfl, h⟩
  refine ⟨_, rfl, Rets.mono (ldClear h) ?_⟩
  clear h
  rintro _ w ⟨rfl, h1, gtr1, le1, T1, h⟩
  have h : Own e w (imm h1 :: ldB gl gtr1 0 s.most :: tinT gt m md sd lim ts :: F) := h
  refine ⟨rfl, Rets.mono (pTiny (le1 _ _ hp) h) ?_⟩
  clear h
  rintro _ w ⟨rfl, h⟩
  have h : Own e w (tinT gt m md sd lim ts :: imm h1 :: ldB gl gtr1 0 s.most :: F) := (Own.sub (h) (by repeat (first | with_reducible exact Sub.nil _ | with_reducible exact Sub.rfl _ | (apply Sub.cons; focus ((repeat (first | with_reducible exact Pick.here | apply Pick.there)); done)) | apply Sub.drop)))
  refine ⟨_, rfl, Rets.mono (tClear h) ?_⟩
  clear h
  rintro _ w ⟨rfl, h⟩
  rw [okt.2.1] at h
  have h : Own e w (tinT gt m md sd lim (t0 m md) :: imm h1 :: ldB gl gtr1 0 s.most :: F) := h
  exact ⟨rfl, rfl, h1, gtr1, le1, T1, (Own.sub (h) (by repeat (first | with_reducible exact Sub.nil _ | with_reducible exact Sub.rfl _ | (apply Sub.cons; focus ((repeat (first | with_reducible exact Pick.here | apply Pick.there)); done)) | apply Sub.drop)))⟩
theorem pNew2 {a b : Int} (hm1 : ∀ w, Own e w (imm h0 :: F) → RdC w mixQ mixC) (h : Own e w (imm h0 :: F)) : Rets Tryz.prog 6 #[.int .i64 a, .int .i64 b, .int .u64 sd] w fun v w' => ∃ (gp gt gl gtr m md : Nat) (h1 : Nat → Option Obj), v = .pointer (some ⟨gp, 0, none⟩) ∧ pwOk (maxI 1 (minI (maxI 1 (minI b 4096)) 4096)) m ∧ pwOk (keyN (maxI 1 (minI b 4096))) md ∧ LeH h0 h1 ∧ PolC h1 gp gt gl ∧ TreeA h1 Tr.nil gtr ∧ Own e w' (imm h1 :: ldB gl gtr 0 (cutI a) :: tinT gt m md sd (maxI 1 (minI b 4096)) (t0 m md) :: F) := by
  refine policy_New_go _ _ _ ?_
  refine Rets.mono (tNewT (n := b) (s := sd) hm1 h) ?_
  clear h
  rintro _ w ⟨gt, m, md, rfl, hpm, hpd, h⟩
  refine ⟨_, rfl, ?_⟩
  refine Rets.mono (ldNew (n := a) h.swap) ?_
  clear h
  rintro _ w ⟨gl, rfl, h1, gtr, le1, T1, h⟩
  refine ⟨_, rfl, h.newR fun gp w h => ?_⟩
  obtain ⟨h2, le2, hp, hh⟩ := Own.absorb h
  exact ⟨gp, gt, gl, gtr, m, md, h2, rfl, hpm, hpd, LeH.trans le1 le2, hp, T1.mono le2, hh⟩
theorem rNewP {a b : Int} (hsd : M64 sd) (h : Own e w (imm h0 :: F)) : Rets Tryz.prog 7 #[.int .i64 a, .int .i64 b, .int .u64 sd] w fun v w' => ∃ h1 q c m q2 md c2, v = pcV q c m sd q2 md c2 (maxI 1 (minI b 4096)) 0 0 none 0 0 (cutI a) ∧ pwOk (maxI 1 (minI (maxI 1 (minI b 4096)) 4096)) m ∧ pwOk (keyN (maxI 1 (minI b 4096))) md ∧ LeH h0 h1 ∧ RsR h1 q (2 ^ m) (t0 m md).R ∧ Own e w' (imm h1 :: dlO q2 md c2 (t0 m md).ws :: F) := by
  refine cortadoref26_New_go _ _ _ (h.newR fun a1 w h => ?_)
  have h : Own e w (imm h0 :: blk a1 43 [.slice none 0 0, .int .i64 0, .int .u64 0, .slice none 0 0, .int .u64 0, .int .i64 0, .int .i64 0, .int .i64 0, .int .i64 0, .int .u64 0, .slice none 0 0, .int .i64 0] :: F) := (Own.sub (h) (by repeat (first | with_reducible exact Sub.nil _ | with_reducible exact Sub.rfl _ | (apply Sub.cons; focus ((repeat (first | with_reducible exact Pick.here | apply Pick.there)); done)) | apply Sub.drop)))
  refine Rets.mono (trNew (n := b) hsd h) ?_
  clear h
  rintro _ w ⟨h1, q, c, m, q2, md, c2, rfl, hpm, hpd, le1, hS, h⟩
  refine ⟨_, _, _, _, _, _, _, _, _, _, _, _, _, _, rfl, Rets.mono (rCut (n := a) h) ?_⟩
  clear h
  rintro _ w ⟨rfl, h⟩
  refine ⟨_, rfl, Own.stP' (g := a1) h (by repeat (first | with_reducible exact Pick.here | apply Pick.there)) (by simp) (by simp [Value.oneCell']) fun w h => ?_⟩
  simp only [setFrom, List.set_cons_zero, List.set_cons_succ, List.set_nil] at h
  refine ⟨_, _, _, _, _, _, _, _, _, _, _, _, _, _, _, _, _, _, ⟨Own.ld (g := a1) h (by repeat (first | with_reducible exact Pick.here | apply Pick.there)) rfl, Own.ld (g := a1) h (by repeat (first | with_reducible exact Pick.here | apply Pick.there)) rfl, Own.ld (g := a1) h (by repeat (first | with_reducible exact Pick.here | apply Pick.there)) rfl, Own.ld (g := a1) h (by repeat (first | with_reducible exact Pick.here | apply Pick.there)) rfl, Own.ld (g := a1) h (by repeat (first | with_reducible exact Pick.here | apply Pick.there)) rfl, Own.ld (g := a1) h (by repeat (first | with_reducible exact Pick.here | apply Pick.there)) rfl, Own.ld (g := a1) h (by repeat (first | with_reducible exact Pick.here | apply Pick.there)) rfl, Own.ld (g := a1) h (by repeat (first | with_reducible exact Pick.here | apply Pick.there)) rfl, Own.ld (g := a1) h (by repeat (first | with_reducible exact Pick.here | apply Pick.there)) rfl, Own.ld (g := a1) h (by repeat (first | with_reducible exact Pick.here | apply Pick.there)) rfl, Own.ld (g := a1) h (by repeat (first | with_reducible exact Pick.here | apply Pick.there)) rfl, Own.ld (g := a1) h (by repeat (first | with_reducible exact Pick.here | apply Pick.there)) rfl⟩, h1, q, c, m, q2, md, c2, rfl, hpm, hpd, le1, hS, (Own.sub (h) (by repeat (first | with_reducible exact Sub.nil _ | with_reducible exact Sub.rfl _ | (apply Sub.cons; focus ((repeat (first | with_reducible exact Pick.here | apply Pick.there)); done)) | apply Sub.drop)))⟩
end
section
variable {e w : World} {F : List HP} {h0 : Nat → Option Obj} {q q2 qd ql : Option Addr} {c c2 cd cl gy gp gt gl gd gtr m md u : Nat} {D : List Int} {sd lim s2 kd hh nn : Int} {ts : Ts} {s : Lg}
theorem arr2 {h1 : Nat → Option Obj} {g : Nat} {a b : Int} (hg : h1 g = some (.cells #[.int .u64 a, .int .u64 b] 30 (0, 0))) : ImR h1 (some ⟨g, 0, none⟩) (cs .u64 [a, b]) := fun e w F h => .inr ⟨_, rfl, fun j u hj => h.immCell (vs := [.int .u64 a, .int .u64 b]) hg hj⟩
theorem limE (h : 1 ≤ lim ∧ lim ≤ 4096) : maxI 1 (minI lim 4096) = lim := by unfold maxI minI; split <;> split <;> omega
theorem esT16 (x : Int) : esT sd m md ts x ≤ 1000 := by
  have := es_le (s := sd) (x := x) (M := 2 ^ m) (MD := 2 ^ md) (ws := ts.ws) ts.R
  unfold esT
  omega
theorem pdo (hm1 : ∀ {h1 : Nat → Option Obj}, LeH h0 h1 → ∀ w F, Own e w (imm h1 :: F) → RdC w mixQ mixC) (hm2 : ∀ {h1 : Nat → Option Obj}, LeH h0 h1 → ∀ w F, Own e w (imm h1 :: F) → RdC w twiQ twiC)
    (hlim : 1 ≤ lim ∧ lim ≤ 4096) (hpm : pwOk lim m) (hpd : pwOk (keyN lim) md) (hm9 : m ≤ 9) (hmd : md ≤ 20) (hsd : M64 sd) (okt : okT m md lim ts) (hs2 : M64 s2) (hD : D.length * 8 ≤ 140737488351232) (hd : ImR h0 qd (cs .i64 D)) (hS : RsR h0 q (2 ^ m) ts.R) (ok : LgOk s) (hsz : s.t.size ≤ 60) (hI : ImR h0 ql (E24 s.t.toL)) (hcl : s.t.toL.length ≤ cl) (hp : PolC h0 gp gt gl) (hT : TreeA h0 s.t gtr) (hu : u ≤ 6000) (hkd : 0 ≤ kd)
    (h : Own e w (imm h0 :: ldB gl gtr s.used s.most :: tinT gt m md sd lim ts :: dicO gd D s2 u :: dlO q2 md c2 ts.ws :: rdO gy qd D.length cd s2 u :: F)) :
    Rets Tryz.prog 9 #[.pointer (some ⟨gp, 0, none⟩), pcV q c m sd q2 md c2 lim ts.ct ts.ag ql s.t.toL.length cl s.most, .agg #[.int .u64 kd, .int .u64 hh, .int .i64 nn], .pointer (some ⟨gd, 0, none⟩), .pointer (some ⟨gy, 0, none⟩)] w fun v w' => ∃ (s' : Lg) (ts' : Ts) (u' : Nat) (h1 : Nat → Option Obj) (gtr' : Nat) (q' : Option Addr) (c' : Nat) (q2' : Option Addr) (c2' : Nat) (ql' : Option Addr) (cl' : Nat), v = .tuple #[pcV q' c' m sd q2' md c2' lim ts'.ct ts'.ag ql' s'.t.toL.length cl' s'.most, .bool true] ∧ LeH h0 h1 ∧ TreeA h1 s'.t gtr' ∧ RsR h1 q' (2 ^ m) ts'.R ∧ okT m md lim ts' ∧ ImR h1 ql' (E24 s'.t.toL) ∧ s'.t.toL.length ≤ cl' ∧ LgOk s' ∧ s'.t.size ≤ s.t.size + 1 ∧ u' ≤ u + 5 * (s.t.size + 2) ∧ Own e w' (imm h1 :: ldB gl gtr' s'.used s'.most :: tinT gt m md sd lim ts' :: dicO gd D s2 u' :: dlO q2' md c2' ts'.ws :: rdO gy qd D.length cd s2 u' :: F) := by
  have hkl := Tr.size_toL s.t
  refine cortadolaw26_do_go _ _ _ _ _ _ _ _ _ _ _ _ _ _ _ _ _ _ _ _ _ _ _ _ ?_
  unfold cortadolaw26_do_m
  refine h.newR fun a1 w h => h.newR fun a2 w h => h.newR fun a3 w h => ?_
  simp only [addr_add_add, Nat.zero_add]
  have h : Own e w (imm h0 :: ldB gl gtr s.used s.most :: tinT gt m md sd lim ts :: dicO gd D s2 u :: dlO q2 md c2 ts.ws :: rdO gy qd D.length cd s2 u :: blk a1 43 (pcC q c m sd q2 md c2 lim ts.ct ts.ag ql s.t.toL.length cl s.most) :: blk a2 54 [.int .u64 kd, .int .u64 hh, .int .i64 nn] :: blk a3 43 [.slice none 0 0, .int .i64 0, .int .u64 0, .slice none 0 0, .int .u64 0, .int .i64 0, .int .i64 0, .int .i64 0, .int .i64 0, .int .u64 0, .slice none 0 0, .int .i64 0] :: F) := (Own.sub (h) (by repeat (first | with_reducible exact Sub.nil _ | with_reducible exact Sub.rfl _ | (apply Sub.cons; focus ((repeat (first | with_reducible exact Pick.here | apply Pick.there)); done)) | apply Sub.drop)))
  let J : List Value → World → Prop := fun us w => ∃ (s' : Lg) (ts' : Ts) (u' : Nat) (h1 : Nat → Option Obj) (gtr' : Nat) (q' : Option Addr) (c' : Nat) (q2' : Option Addr) (c2' : Nat) (ql' : Option Addr) (cl' : Nat) (vs : LE2) (b : Bool) (qa : Option Addr) (ca : Nat) (qb : Option Addr) (cb : Nat), us = [.slice qa vs.length ca, .slice qb vs.length cb, .bool b, .bool b] ∧ vs.length ≤ 100 ∧ ImR h1 qa (E24 vs) ∧ ImR h1 qb (E24 vs) ∧ LeH h0 h1 ∧ TreeA h1 s'.t gtr' ∧ RsR h1 q' (2 ^ m) ts'.R ∧ okT m md lim ts' ∧ ImR h1 ql' (E24 s'.t.toL) ∧ s'.t.toL.length ≤ cl' ∧ LgOk s' ∧ s'.t.size ≤ s.t.size + 1 ∧ u' ≤ u + 5 * (s.t.size + 2) ∧ Own e w (imm h1 :: ldB gl gtr' s'.used s'.most :: tinT gt m md sd lim ts' :: dicO gd D s2 u' :: dlO q2' md c2' ts'.ws :: rdO gy qd D.length cd s2 u' :: blk a1 43 (pcC q' c' m sd q2' md c2' lim ts'.ct ts'.ag ql' s'.t.toL.length cl' s'.most) :: blk a2 54 [.int .u64 kd, .int .u64 hh, .int .i64 nn] :: blk a3 43 [.slice none 0 0, .int .i64 0, .int .u64 0, .slice none 0 0, .int .u64 0, .int .i64 0, .int .i64 0, .int .i64 0, .int .i64 0, .int .u64 0, .slice none 0 0, .int .i64 0] :: F)
  have h5 := ok.2.2.2.2
  refine ⟨_, Own.ld (g := a2) (k := 0) h (by repeat (first | with_reducible exact Pick.here | apply Pick.there)) rfl, by omega, J, ?_, ?_⟩
  · refine ⟨fun _ => ?_, fun _ => ⟨fun _ => ?_, fun _ => ⟨fun _ => ?_, fun _ => ⟨fun _ => ?_, fun _ => ⟨fun _ => ?_, fun _ => ⟨fun _ => ?_, fun _ => ?_⟩⟩⟩⟩⟩⟩
    · refine ⟨_, Own.ld (g := a2) (k := 1) h (by repeat (first | with_reducible exact Pick.here | apply Pick.there)) rfl, _, Own.ld (g := a2) (k := 2) h (by repeat (first | with_reducible exact Pick.here | apply Pick.there)) rfl, Rets.mono (pUpd (k := hh) (n := nn) hm1 hm2 hp ok (by omega) hT (by omega) hD h) ?_⟩
      clear h
      rintro _ w ⟨b, s', vs, h1, gtr', qa, ca, u', rfl, le1, Ia, hu', T1, hcase, h⟩
      refine ⟨_, _, _, _, rfl, _, _, _, _, _, _, _, _, _, _, _, _, _, _, _, _, _, _, ⟨Own.ld (g := a1) h (by repeat (first | with_reducible exact Pick.here | apply Pick.there)) rfl, Own.ld (g := a1) h (by repeat (first | with_reducible exact Pick.here | apply Pick.there)) rfl, Own.ld (g := a1) h (by repeat (first | with_reducible exact Pick.here | apply Pick.there)) rfl, Own.ld (g := a1) h (by repeat (first | with_reducible exact Pick.here | apply Pick.there)) rfl, Own.ld (g := a1) h (by repeat (first | with_reducible exact Pick.here | apply Pick.there)) rfl, Own.ld (g := a1) h (by repeat (first | with_reducible exact Pick.here | apply Pick.there)) rfl, Own.ld (g := a1) h (by repeat (first | with_reducible exact Pick.here | apply Pick.there)) rfl, Own.ld (g := a1) h (by repeat (first | with_reducible exact Pick.here | apply Pick.there)) rfl, Own.ld (g := a1) h (by repeat (first | with_reducible exact Pick.here | apply Pick.there)) rfl, Own.ld (g := a1) h (by repeat (first | with_reducible exact Pick.here | apply Pick.there)) rfl, Own.ld (g := a1) h (by repeat (first | with_reducible exact Pick.here | apply Pick.there)) rfl, Own.ld (g := a1) h (by repeat (first | with_reducible exact Pick.here | apply Pick.there)) rfl⟩, _, Own.ld (g := a2) (k := 1) h (by repeat (first | with_reducible exact Pick.here | apply Pick.there)) rfl, _, Own.ld (g := a2) (k := 2) h (by repeat (first | with_reducible exact Pick.here | apply Pick.there)) rfl, ?_⟩
      have h : Own e w (imm h1 :: dlO q2 md c2 ts.ws :: rdO gy qd D.length cd s2 u :: ldB gl gtr' s'.used s'.most :: tinT gt m md sd lim ts :: dicO gd D s2 u' :: blk a1 43 (pcC q c m sd q2 md c2 lim ts.ct ts.ag ql s.t.toL.length cl s.most) :: blk a2 54 [.int .u64 kd, .int .u64 hh, .int .i64 nn] :: blk a3 43 [.slice none 0 0, .int .i64 0, .int .u64 0, .slice none 0 0, .int .u64 0, .int .i64 0, .int .i64 0, .int .i64 0, .int .i64 0, .int .u64 0, .slice none 0 0, .int .i64 0] :: F) := (Own.sub (h) (by repeat (first | with_reducible exact Sub.nil _ | with_reducible exact Sub.rfl _ | (apply Sub.cons; focus ((repeat (first | with_reducible exact Pick.here | apply Pick.there)); done)) | apply Sub.drop)))
      refine Rets.mono (rUpdP (k := hh) (n := nn) hm9 hmd hsd okt hs2 hD (hd.mono le1) (hS.mono le1) ok (by omega) (hI.mono le1) hcl (by omega) h) ?_
      clear h
      rintro _ w (⟨hno, rfl, h⟩ | ⟨hy, h2, ql2, cl2, qb, cb, rfl, le2, I2, hc2, Ib, h⟩ | ⟨hy, b2, s1, ins1, vs1, u1, h2, ql2, cl2, qb, cb, hgo, rfl, le2, I2, hc2, Ib, hsz2, hu2, h⟩)
      · rcases hcase with ⟨eb, ev, es, eu, _⟩ | ⟨_, hk, _, _, _, hr, _⟩ | ⟨_, hk, hr, _⟩
        · have es := es.symm
          have eu := eu.symm
          subst eb ev es eu
          refine ⟨_, _, _, _, _, _, _, _, _, _, _, _, _, _, _, _, _, _, _, _, _, _, rfl, Own.stP' (g := a1) h (by repeat (first | with_reducible exact Pick.here | apply Pick.there)) (by simp) (by simp [Value.oneCell']) fun w h => ?_⟩
          simp only [setFrom, List.set_cons_zero, List.set_cons_succ, List.set_nil] at h
          exact ⟨s, ts, u, h1, gtr', q, c, q2, c2, ql, cl, [], false, qa, ca, none, 0, rfl, by simp, Ia, fun e w F h => .inl rfl, le1, T1, hS.mono le1, okt, hI.mono le1, hcl, ok, by omega, by omega, (Own.sub (h) (by repeat (first | with_reducible exact Sub.nil _ | with_reducible exact Sub.rfl _ | (apply Sub.cons; focus ((repeat (first | with_reducible exact Pick.here | apply Pick.there)); done)) | apply Sub.drop)))⟩
        · exact absurd ⟨hk, hr⟩ hno
        · exact absurd ⟨hk, hr.1, by omega⟩ hno
      · rcases hcase with ⟨_, _, _, _, hn1⟩ | ⟨eb, hk, ev, es, eu, hr, hlt⟩ | ⟨_, hk, hr, _⟩
        · exact absurd ⟨hy.1, hy.2.1, hy.2.2.1⟩ hn1
        · have eu := eu.symm
          subst eb ev es eu
          refine ⟨_, _, _, _, _, _, _, _, _, _, _, _, _, _, _, _, _, _, _, _, _, _, rfl, Own.stP' (g := a1) h (by repeat (first | with_reducible exact Pick.here | apply Pick.there)) (by simp) (by simp [Value.oneCell']) fun w h => ?_⟩
          simp only [setFrom, List.set_cons_zero, List.set_cons_succ, List.set_nil] at h
          have hdl := drop_less ok.1 hk
          exact ⟨lgDrop hh s, ts, u, h2, gtr', q, c, q2, c2, ql2, cl2, [(hh, lval hh s.t.toL)], false, qa, ca, qb, cb, rfl, by simp, Ia.mono le2, Ib, LeH.trans le1 le2, T1.mono le2, hS.mono (LeH.trans le1 le2), okt, I2, hc2, ok.drop, by omega, by omega, (Own.sub (h) (by repeat (first | with_reducible exact Sub.nil _ | with_reducible exact Sub.rfl _ | (apply Sub.cons; focus ((repeat (first | with_reducible exact Pick.here | apply Pick.there)); done)) | apply Sub.drop)))⟩
        · have := hy.2.2.2; omega
      · rcases hcase with ⟨_, _, _, _, hn1⟩ | ⟨_, hk, _, _, _, _, hlt⟩ | ⟨eb, hk, hr, s1', hG, hroom, es, b', ins', hgo'⟩
        · exact absurd ⟨hy.1, hy.2.1, by have := hy.2.2; omega⟩ hn1
        · have := hy.2.2; omega
        · obtain ⟨_, e1⟩ := (hgo'.big (most' := 1000) (fun x => esT_le sd m md ts x) (by omega) (fun x => esT16 x) (by omega)).same hgo
          injection e1 with e1 e2 e3 e4
          subst eb e1 e2 e3 e4 es
          refine ⟨_, _, _, _, _, _, _, _, _, _, _, _, _, _, _, _, _, _, _, _, _, _, rfl, Own.stP' (g := a1) h (by repeat (first | with_reducible exact Pick.here | apply Pick.there)) (by simp) (by simp [Value.oneCell']) fun w h => ?_⟩
          simp only [setFrom, List.set_cons_zero, List.set_cons_succ, List.set_nil] at h
          obtain ⟨okg, _, _, _⟩ := hG.facts ok.drop
          have hls := lgAdd_size hh nn s1'
          have hdl := drop_less ok.1 hk
          exact ⟨(lgAdd hh nn s1').1, ts, u', h2, gtr', q, c, q2, c2, ql2, cl2, vs, true, qa, ca, qb, cb, rfl, by omega, Ia.mono le2, Ib, LeH.trans le1 le2, T1.mono le2, hS.mono (LeH.trans le1 le2), okt, I2, hc2, okg.add, by omega, by omega, (Own.sub (h) (by repeat (first | with_reducible exact Sub.nil _ | with_reducible exact Sub.rfl _ | (apply Sub.cons; focus ((repeat (first | with_reducible exact Pick.here | apply Pick.there)); done)) | apply Sub.drop)))⟩
    · refine ⟨_, Own.ld (g := a2) (k := 1) h (by repeat (first | with_reducible exact Pick.here | apply Pick.there)) rfl, Rets.mono (pDel (k := hh) hp ok (by omega) hT h) ?_⟩
      clear h
      rintro _ w ⟨rfl, h1, gtr1, le1, T1, h⟩
      refine ⟨_, _, rfl, _, _, _, _, ⟨Own.ld (g := a1) (k := 10) h (by repeat (first | with_reducible exact Pick.here | apply Pick.there)) rfl, Own.ld (g := a1) (k := 11) h (by repeat (first | with_reducible exact Pick.here | apply Pick.there)) rfl⟩, _, Own.ld (g := a2) (k := 1) h (by repeat (first | with_reducible exact Pick.here | apply Pick.there)) rfl, ?_⟩
      refine Rets.mono (rCost (k := hh) (by omega) (hI.mono le1) h) ?_
      clear h
      rintro _ w ⟨rfl, h⟩
      refine ⟨_, _, rfl, _, _, _, _, ⟨Own.ld (g := a1) (k := 10) h (by repeat (first | with_reducible exact Pick.here | apply Pick.there)) rfl, Own.ld (g := a1) (k := 11) h (by repeat (first | with_reducible exact Pick.here | apply Pick.there)) rfl⟩, _, Own.ld (g := a2) (k := 1) h (by repeat (first | with_reducible exact Pick.here | apply Pick.there)) rfl, ?_⟩
      refine Rets.mono (rDrop (k := hh) (by omega) (hI.mono le1) h) ?_
      clear h
      rintro _ w ⟨h2, ql2, cl2, rfl, le2, I2, hc2, h⟩
      rw [← lgDrop_toLP ok.1] at I2 hc2 ⊢
      refine ⟨_, _, _, _, rfl, Own.stP (g := a1) (k := 10) h (by repeat (first | with_reducible exact Pick.here | apply Pick.there)) (by simp) (by simp [Value.oneCell']) fun w h => ?_⟩
      simp only [setFrom, List.set_cons_zero, List.set_cons_succ, List.set_nil] at h
      rw [← lgDrop_mostP hh s] at h
      have hls := lgDrop_size hh s
      refine ⟨fun us w' => us = [.bool true] ∧ w' = w, ⟨fun _ => ⟨by simp, rfl⟩, fun hc => absurd hc (by simp)⟩, ?_⟩
      intro w' b5
      intros
      rename_i hI5
      obtain ⟨e5, rfl⟩ := hI5
      obtain rfl : b5 = true := by simpa using e5
      exact ⟨lgDrop hh s, ts, u, h2, gtr1, q, c, q2, c2, ql2, cl2, [], true, none, 0, none, 0, rfl, by simp, fun e w F h => .inl rfl, fun e w F h => .inl rfl, LeH.trans le1 le2, T1.mono le2, hS.mono (LeH.trans le1 le2), okt, I2, hc2, ok.drop, hls, by omega, (Own.sub (h) (by repeat (first | with_reducible exact Sub.nil _ | with_reducible exact Sub.rfl _ | (apply Sub.cons; focus ((repeat (first | with_reducible exact Pick.here | apply Pick.there)); done)) | apply Sub.drop)))⟩
    · refine ⟨_, Own.ld (g := a2) (k := 1) h (by repeat (first | with_reducible exact Pick.here | apply Pick.there)) rfl, _, Own.ld (g := a2) (k := 1) h (by repeat (first | with_reducible exact Pick.here | apply Pick.there)) rfl, h.newR fun a4 w h => ?_⟩
      obtain ⟨ha, lea, ga, hh1⟩ := Own.absorb h
      clear h
      have Ia := arr2 ga
      have h : Own e w (imm ha :: tinT gt m md sd lim ts :: ldB gl gtr s.used s.most :: dicO gd D s2 u :: dlO q2 md c2 ts.ws :: rdO gy qd D.length cd s2 u :: blk a1 43 (pcC q c m sd q2 md c2 lim ts.ct ts.ag ql s.t.toL.length cl s.most) :: blk a2 54 [.int .u64 kd, .int .u64 hh, .int .i64 nn] :: blk a3 43 [.slice none 0 0, .int .i64 0, .int .u64 0, .slice none 0 0, .int .u64 0, .int .i64 0, .int .i64 0, .int .i64 0, .int .i64 0, .int .u64 0, .slice none 0 0, .int .i64 0] :: F) := (Own.sub (hh1) (by repeat (first | with_reducible exact Sub.nil _ | with_reducible exact Sub.rfl _ | (apply Sub.cons; focus ((repeat (first | with_reducible exact Pick.here | apply Pick.there)); done)) | apply Sub.drop)))
      clear hh1
      refine Rets.mono (pPush (c := 2) (L := [hh, IntKind.wrap .u64 (hh + 1)]) (hm1 lea) (hm2 lea) (lea _ _ hp) hlim okt (by simp) Ia h) ?_
      clear h
      rintro _ w ⟨rfl, h⟩
      refine ⟨rfl, _, _, _, _, _, _, _, _, _, _, _, _, _, _, ⟨Own.ld (g := a1) h (by repeat (first | with_reducible exact Pick.here | apply Pick.there)) rfl, Own.ld (g := a1) h (by repeat (first | with_reducible exact Pick.here | apply Pick.there)) rfl, Own.ld (g := a1) h (by repeat (first | with_reducible exact Pick.here | apply Pick.there)) rfl, Own.ld (g := a1) h (by repeat (first | with_reducible exact Pick.here | apply Pick.there)) rfl, Own.ld (g := a1) h (by repeat (first | with_reducible exact Pick.here | apply Pick.there)) rfl, Own.ld (g := a1) h (by repeat (first | with_reducible exact Pick.here | apply Pick.there)) rfl, Own.ld (g := a1) h (by repeat (first | with_reducible exact Pick.here | apply Pick.there)) rfl, Own.ld (g := a1) h (by repeat (first | with_reducible exact Pick.here | apply Pick.there)) rfl, Own.ld (g := a1) h (by repeat (first | with_reducible exact Pick.here | apply Pick.there)) rfl, Own.ld (g := a1) h (by repeat (first | with_reducible exact Pick.here | apply Pick.there)) rfl⟩, _, Own.ld (g := a2) (k := 1) h (by repeat (first | with_reducible exact Pick.here | apply Pick.there)) rfl, _, Own.ld (g := a2) (k := 1) h (by repeat (first | with_reducible exact Pick.here | apply Pick.there)) rfl, h.newR fun a5 w h => ?_⟩
      obtain ⟨hb, leb, gb, hh1⟩ := Own.absorb h
      clear h
      have Ib := arr2 gb
      have lab := LeH.trans lea leb
      obtain ⟨ts', hts⟩ : ∃ t, t = nxL sd m md lim ts [hh, IntKind.wrap .u64 (hh + 1)] := ⟨_, rfl⟩
      have okt' : okT m md lim ts' := by rw [hts]; exact okT_nxL hlim.1 okt _
      have h : Own e w (imm hb :: dlO q2 md c2 ts.ws :: tinT gt m md sd lim ts' :: ldB gl gtr s.used s.most :: dicO gd D s2 u :: rdO gy qd D.length cd s2 u :: blk a1 43 (pcC q c m sd q2 md c2 lim ts.ct ts.ag ql s.t.toL.length cl s.most) :: blk a2 54 [.int .u64 kd, .int .u64 hh, .int .i64 nn] :: blk a3 43 [.slice none 0 0, .int .i64 0, .int .u64 0, .slice none 0 0, .int .u64 0, .int .i64 0, .int .i64 0, .int .i64 0, .int .i64 0, .int .u64 0, .slice none 0 0, .int .i64 0] :: F) := by
        rw [hts]
        exact (Own.sub (hh1) (by repeat (first | with_reducible exact Sub.nil _ | with_reducible exact Sub.rfl _ | (apply Sub.cons; focus ((repeat (first | with_reducible exact Pick.here | apply Pick.there)); done)) | apply Sub.drop)))
      clear hh1
      refine Rets.mono (trPush (c3 := 2) (L := [hh, IntKind.wrap .u64 (hh + 1)]) hm9 hmd hsd hlim hpd okt (hS.mono lab) (by simp) Ib h) ?_
      clear h
      rintro _ w ⟨h2, q', c', q2', c2', rfl, le2, hS2, h⟩
      rw [← hts] at h hS2 ⊢
      refine ⟨_, _, _, _, _, _, _, _, _, _, _, _, _, _, rfl, Own.stP (g := a1) (k := 0) h (by repeat (first | with_reducible exact Pick.here | apply Pick.there)) (by simp) (by simp [Value.oneCell']) fun w h => ?_⟩
      simp only [setFrom, List.set_cons_zero, List.set_cons_succ, List.set_nil] at h
      exact ⟨s, ts', u, h2, gtr, q', c', q2', c2', ql, cl, [], true, none, 0, none, 0, rfl, by simp, fun e w F h => .inl rfl, fun e w F h => .inl rfl, LeH.trans lab le2, hT.mono (LeH.trans lab le2), hS2, okt', hI.mono (LeH.trans lab le2), hcl, ok, by omega, by omega, (Own.sub (h) (by repeat (first | with_reducible exact Sub.nil _ | with_reducible exact Sub.rfl _ | (apply Sub.cons; focus ((repeat (first | with_reducible exact Pick.here | apply Pick.there)); done)) | apply Sub.drop)))⟩
    · refine ⟨_, Own.ld (g := a2) (k := 1) h (by repeat (first | with_reducible exact Pick.here | apply Pick.there)) rfl, _, Own.ld (g := a2) (k := 1) h (by repeat (first | with_reducible exact Pick.here | apply Pick.there)) rfl, h.newR fun a4 w h => ?_⟩
      obtain ⟨ha, lea, ga, hh1⟩ := Own.absorb h
      clear h
      have Ia := arr2 ga
      have h : Own e w (imm ha :: tinT gt m md sd lim ts :: ldB gl gtr s.used s.most :: dicO gd D s2 u :: dlO q2 md c2 ts.ws :: rdO gy qd D.length cd s2 u :: blk a1 43 (pcC q c m sd q2 md c2 lim ts.ct ts.ag ql s.t.toL.length cl s.most) :: blk a2 54 [.int .u64 kd, .int .u64 hh, .int .i64 nn] :: blk a3 43 [.slice none 0 0, .int .i64 0, .int .u64 0, .slice none 0 0, .int .u64 0, .int .i64 0, .int .i64 0, .int .i64 0, .int .i64 0, .int .u64 0, .slice none 0 0, .int .i64 0] :: F) := (Own.sub (hh1) (by repeat (first | with_reducible exact Sub.nil _ | with_reducible exact Sub.rfl _ | (apply Sub.cons; focus ((repeat (first | with_reducible exact Pick.here | apply Pick.there)); done)) | apply Sub.drop)))
      clear hh1
      refine Rets.mono (pPush (c := 2) (L := [hh, IntKind.wrap .u64 (hh + 1)]) (hm1 lea) (hm2 lea) (lea _ _ hp) hlim okt (by simp) Ia h) ?_
      clear h
      rintro _ w ⟨rfl, h⟩
      refine ⟨rfl, _, _, _, _, _, _, _, _, _, _, _, _, _, _, ⟨Own.ld (g := a1) h (by repeat (first | with_reducible exact Pick.here | apply Pick.there)) rfl, Own.ld (g := a1) h (by repeat (first | with_reducible exact Pick.here | apply Pick.there)) rfl, Own.ld (g := a1) h (by repeat (first | with_reducible exact Pick.here | apply Pick.there)) rfl, Own.ld (g := a1) h (by repeat (first | with_reducible exact Pick.here | apply Pick.there)) rfl, Own.ld (g := a1) h (by repeat (first | with_reducible exact Pick.here | apply Pick.there)) rfl, Own.ld (g := a1) h (by repeat (first | with_reducible exact Pick.here | apply Pick.there)) rfl, Own.ld (g := a1) h (by repeat (first | with_reducible exact Pick.here | apply Pick.there)) rfl, Own.ld (g := a1) h (by repeat (first | with_reducible exact Pick.here | apply Pick.there)) rfl, Own.ld (g := a1) h (by repeat (first | with_reducible exact Pick.here | apply Pick.there)) rfl, Own.ld (g := a1) h (by repeat (first | with_reducible exact Pick.here | apply Pick.there)) rfl⟩, _, Own.ld (g := a2) (k := 1) h (by repeat (first | with_reducible exact Pick.here | apply Pick.there)) rfl, _, Own.ld (g := a2) (k := 1) h (by repeat (first | with_reducible exact Pick.here | apply Pick.there)) rfl, h.newR fun a5 w h => ?_⟩
      obtain ⟨hb, leb, gb, hh1⟩ := Own.absorb h
      clear h
      have Ib := arr2 gb
      have lab := LeH.trans lea leb
      obtain ⟨ts', hts⟩ : ∃ t, t = nxL sd m md lim ts [hh, IntKind.wrap .u64 (hh + 1)] := ⟨_, rfl⟩
      have okt' : okT m md lim ts' := by rw [hts]; exact okT_nxL hlim.1 okt _
      have h : Own e w (imm hb :: dlO q2 md c2 ts.ws :: tinT gt m md sd lim ts' :: ldB gl gtr s.used s.most :: dicO gd D s2 u :: rdO gy qd D.length cd s2 u :: blk a1 43 (pcC q c m sd q2 md c2 lim ts.ct ts.ag ql s.t.toL.length cl s.most) :: blk a2 54 [.int .u64 kd, .int .u64 hh, .int .i64 nn] :: blk a3 43 [.slice none 0 0, .int .i64 0, .int .u64 0, .slice none 0 0, .int .u64 0, .int .i64 0, .int .i64 0, .int .i64 0, .int .i64 0, .int .u64 0, .slice none 0 0, .int .i64 0] :: F) := by
        rw [hts]
        exact (Own.sub (hh1) (by repeat (first | with_reducible exact Sub.nil _ | with_reducible exact Sub.rfl _ | (apply Sub.cons; focus ((repeat (first | with_reducible exact Pick.here | apply Pick.there)); done)) | apply Sub.drop)))
      clear hh1
      refine Rets.mono (trPush (c3 := 2) (L := [hh, IntKind.wrap .u64 (hh + 1)]) hm9 hmd hsd hlim hpd okt (hS.mono lab) (by simp) Ib h) ?_
      clear h
      rintro _ w ⟨h2, q', c', q2', c2', rfl, le2, hS2, h⟩
      rw [← hts] at h hS2 ⊢
      refine ⟨_, _, _, _, _, _, _, _, _, _, _, _, _, _, rfl, Own.stP (g := a1) (k := 0) h (by repeat (first | with_reducible exact Pick.here | apply Pick.there)) (by simp) (by simp [Value.oneCell']) fun w h => ?_⟩
      simp only [setFrom, List.set_cons_zero, List.set_cons_succ, List.set_nil] at h
      exact ⟨s, ts', u, h2, gtr, q', c', q2', c2', ql, cl, [], true, none, 0, none, 0, rfl, by simp, fun e w F h => .inl rfl, fun e w F h => .inl rfl, LeH.trans lab le2, hT.mono (LeH.trans lab le2), hS2, okt', hI.mono (LeH.trans lab le2), hcl, ok, by omega, by omega, (Own.sub (h) (by repeat (first | with_reducible exact Sub.nil _ | with_reducible exact Sub.rfl _ | (apply Sub.cons; focus ((repeat (first | with_reducible exact Pick.here | apply Pick.there)); done)) | apply Sub.drop)))⟩
    · refine ⟨_, Own.ld (g := a2) (k := 2) h (by repeat (first | with_reducible exact Pick.here | apply Pick.there)) rfl, Rets.mono (pLim (n := nn) hm1 hm2 hp ok (by omega) hT (by omega) hD h) ?_⟩
      clear h
      rintro _ w ⟨b, s', vs, h1, gtr', qa, ca, u', rfl, le1, Ia, hu', T1, hcase, h⟩
      refine ⟨_, _, _, _, rfl, _, _, _, _, _, _, _, _, _, _, _, _, _, _, _, _, _, _, ⟨Own.ld (g := a1) h (by repeat (first | with_reducible exact Pick.here | apply Pick.there)) rfl, Own.ld (g := a1) h (by repeat (first | with_reducible exact Pick.here | apply Pick.there)) rfl, Own.ld (g := a1) h (by repeat (first | with_reducible exact Pick.here | apply Pick.there)) rfl, Own.ld (g := a1) h (by repeat (first | with_reducible exact Pick.here | apply Pick.there)) rfl, Own.ld (g := a1) h (by repeat (first | with_reducible exact Pick.here | apply Pick.there)) rfl, Own.ld (g := a1) h (by repeat (first | with_reducible exact Pick.here | apply Pick.there)) rfl, Own.ld (g := a1) h (by repeat (first | with_reducible exact Pick.here | apply Pick.there)) rfl, Own.ld (g := a1) h (by repeat (first | with_reducible exact Pick.here | apply Pick.there)) rfl, Own.ld (g := a1) h (by repeat (first | with_reducible exact Pick.here | apply Pick.there)) rfl, Own.ld (g := a1) h (by repeat (first | with_reducible exact Pick.here | apply Pick.there)) rfl, Own.ld (g := a1) h (by repeat (first | with_reducible exact Pick.here | apply Pick.there)) rfl, Own.ld (g := a1) h (by repeat (first | with_reducible exact Pick.here | apply Pick.there)) rfl⟩, _, Own.ld (g := a2) (k := 2) h (by repeat (first | with_reducible exact Pick.here | apply Pick.there)) rfl, ?_⟩
      have h : Own e w (imm h1 :: dlO q2 md c2 ts.ws :: rdO gy qd D.length cd s2 u :: ldB gl gtr' s'.used s'.most :: tinT gt m md sd lim ts :: dicO gd D s2 u' :: blk a1 43 (pcC q c m sd q2 md c2 lim ts.ct ts.ag ql s.t.toL.length cl s.most) :: blk a2 54 [.int .u64 kd, .int .u64 hh, .int .i64 nn] :: blk a3 43 [.slice none 0 0, .int .i64 0, .int .u64 0, .slice none 0 0, .int .u64 0, .int .i64 0, .int .i64 0, .int .i64 0, .int .i64 0, .int .u64 0, .slice none 0 0, .int .i64 0] :: F) := (Own.sub (h) (by repeat (first | with_reducible exact Sub.nil _ | with_reducible exact Sub.rfl _ | (apply Sub.cons; focus ((repeat (first | with_reducible exact Pick.here | apply Pick.there)); done)) | apply Sub.drop)))
      refine Rets.mono (rLimP (n := nn) hm9 hmd hsd okt hs2 hD (hd.mono le1) (hS.mono le1) ok (by omega) (hI.mono le1) hcl (by omega) h) ?_
      clear h
      rintro _ w (⟨hno, rfl, h⟩ | ⟨hy, b2, s1, ins1, vs1, u1, h2, ql2, cl2, qb, cb, hgo, rfl, le2, I2, hc2, Ib, ok1, hsz2, hu2, h⟩)
      · rcases hcase with ⟨eb, ev, es, eu, _⟩ | ⟨_, hr, _⟩
        · have es := es.symm
          have eu := eu.symm
          subst eb ev es eu
          refine ⟨_, _, _, _, _, _, _, _, _, _, _, _, _, _, _, _, _, _, _, _, _, _, rfl, Own.stP' (g := a1) h (by repeat (first | with_reducible exact Pick.here | apply Pick.there)) (by simp) (by simp [Value.oneCell']) fun w h => ?_⟩
          simp only [setFrom, List.set_cons_zero, List.set_cons_succ, List.set_nil] at h
          exact ⟨s, ts, u, h1, gtr', q, c, q2, c2, ql, cl, [], false, qa, ca, none, 0, rfl, by simp, Ia, fun e w F h => .inl rfl, le1, T1, hS.mono le1, okt, hI.mono le1, hcl, ok, by omega, by omega, (Own.sub (h) (by repeat (first | with_reducible exact Sub.nil _ | with_reducible exact Sub.rfl _ | (apply Sub.cons; focus ((repeat (first | with_reducible exact Pick.here | apply Pick.there)); done)) | apply Sub.drop)))⟩
        · exact absurd hr hno
      · rcases hcase with ⟨_, _, _, _, hn1⟩ | ⟨eb, hr, s1', hG, hle, es, b', ins', hgo'⟩
        · exact absurd hy hn1
        · obtain ⟨_, e1⟩ := (hgo'.big (most' := 1000) (fun x => esT_le sd m md ts x) (by omega) (fun x => esT16 x) (by omega)).same hgo
          injection e1 with e1 e2 e3 e4
          subst eb e1 e2 e3 e4 es
          refine ⟨_, _, _, _, _, _, _, _, _, _, _, _, _, _, _, _, _, _, _, _, _, _, rfl, Own.stP' (g := a1) h (by repeat (first | with_reducible exact Pick.here | apply Pick.there)) (by simp) (by simp [Value.oneCell']) fun w h => ?_⟩
          simp only [setFrom, List.set_cons_zero, List.set_cons_succ, List.set_nil] at h
          have ey : lgLimit nn s1' = (⟨s1'.t, s1'.used, nn⟩, true) := by unfold lgLimit; rw [if_pos ⟨hr.1, hr.2, hle⟩]
          have okl : LgOk (lgLimit nn s1').1 := ok1.limit
          rw [ey] at h T1 okl
          exact ⟨⟨s1'.t, s1'.used, nn⟩, ts, u', h2, gtr', q, c, q2, c2, ql2, cl2, vs, true, qa, ca, qb, cb, rfl, by omega, Ia.mono le2, Ib, LeH.trans le1 le2, T1.mono le2, hS.mono (LeH.trans le1 le2), okt, I2, hc2, okl, by show s1'.t.size ≤ _; omega, by omega, (Own.sub (h) (by repeat (first | with_reducible exact Sub.nil _ | with_reducible exact Sub.rfl _ | (apply Sub.cons; focus ((repeat (first | with_reducible exact Pick.here | apply Pick.there)); done)) | apply Sub.drop)))⟩
    · refine Rets.mono (pClear hp okt h) ?_
      clear h
      rintro _ w ⟨rfl, h1, gtr1, le1, T1, h⟩
      let S : World → Prop := fun w => ∃ F', Own e w (blk a1 43 (pcC q c m sd q2 md c2 lim ts.ct ts.ag ql s.t.toL.length cl s.most) :: F')
      refine ⟨rfl, fun _ w => J [.slice none 0 0, .slice none 0 0, .bool true, .bool true] w, h.drw fun w h => ⟨S, ⟨_, (Own.sub (h) (by repeat (first | with_reducible exact Sub.nil _ | with_reducible exact Sub.rfl _ | (apply Sub.cons; focus ((repeat (first | with_reducible exact Pick.here | apply Pick.there)); done)) | apply Sub.drop)))⟩, _, fun w h => h.elim fun F' h => Own.ld (g := a1) (k := 6) h (by repeat (first | with_reducible exact Pick.here | apply Pick.there)) rfl, _, fun w h => h.elim fun F' h => Own.ld (g := a1) (k := 9) h (by repeat (first | with_reducible exact Pick.here | apply Pick.there)) rfl, _, fun w h => h.elim fun F' h => Own.ld (g := a1) (k := 11) h (by repeat (first | with_reducible exact Pick.here | apply Pick.there)) rfl, ?_⟩, ?_⟩
      · refine Rets.mono (trNew (n := lim) hsd h) ?_
        clear h
        rintro _ w ⟨h2, q', c', m', q2', md', c2', rfl, hpm', hpd', le2, hS2, h⟩
        rw [limE hlim, limE hlim] at hpm'
        rw [limE hlim] at hpd' ⊢
        obtain rfl : m = m' := Nat.le_antisymm (hpm'.le hpm) (hpm.le hpm')
        obtain rfl : md = md' := Nat.le_antisymm (hpd'.le hpd) (hpd.le hpd')
        refine ⟨_, _, _, _, _, _, _, _, _, _, _, _, _, _, rfl, ⟨_, (Own.sub (h) (by repeat (first | with_reducible exact Sub.nil _ | with_reducible exact Sub.rfl _ | (apply Sub.cons; focus ((repeat (first | with_reducible exact Pick.here | apply Pick.there)); done)) | apply Sub.drop)))⟩, Own.stP' (g := a1) h (by repeat (first | with_reducible exact Pick.here | apply Pick.there)) (by simp) (by simp [Value.oneCell']) fun w h => ?_⟩
        simp only [setFrom, List.set_cons_zero, List.set_cons_succ, List.set_nil] at h
        exact ⟨⟨.nil, 0, s.most⟩, t0 m md, u, h2, gtr1, q', c', q2', c2', none, 0, [], true, none, 0, none, 0, rfl, by simp, fun e w F h => .inl rfl, fun e w F h => .inl rfl, LeH.trans le1 le2, T1.mono le2, hS2, okT0 hlim.1, fun e w F h => .inl rfl, Nat.le_refl _, ok.clear, by show Tr.size .nil ≤ _; simp [Tr.size], by omega, (show Own e w (imm h2 :: ldB gl gtr1 0 s.most :: tinT gt m md sd lim (t0 m md) :: dicO gd D s2 u :: dlO q2' md c2' (t0 m md).ws :: rdO gy qd D.length cd s2 u :: blk a1 43 (pcC q' c' m sd q2' md c2' lim 0 0 none 0 0 s.most) :: blk a2 54 [.int .u64 kd, .int .u64 hh, .int .i64 nn] :: blk a3 43 [.slice none 0 0, .int .i64 0, .int .u64 0, .slice none 0 0, .int .u64 0, .int .i64 0, .int .i64 0, .int .i64 0, .int .i64 0, .int .u64 0, .slice none 0 0, .int .i64 0] :: F) from (Own.sub (h) (by repeat (first | with_reducible exact Sub.nil _ | with_reducible exact Sub.rfl _ | (apply Sub.cons; focus ((repeat (first | with_reducible exact Pick.here | apply Pick.there)); done)) | apply Sub.drop))))⟩
      · intro w
        intros
        rename_i hI5
        exact hI5
    · refine ⟨_, Own.ld (g := a2) (k := 1) h (by repeat (first | with_reducible exact Pick.here | apply Pick.there)) rfl, _, Own.ld (g := a2) (k := 2) h (by repeat (first | with_reducible exact Pick.here | apply Pick.there)) rfl, Rets.mono (pAdd (k := hh) (n := nn) hm1 hm2 hp ok (by omega) hT (by omega) hD h) ?_⟩
      clear h
      have fin : ∀ {w : World} {b : Bool} {s' : Lg} {vs : LE2} {h1 : Nat → Option Obj} {gtr' u' : Nat} {qa : Option Addr} {ca : Nat}, True := trivial
      rintro _ w (⟨hna, rfl, h⟩ | ⟨ha, b, s1, vs, h1, gtr', qa, ca, u', rfl, le1, Ia, ⟨⟨hG, _⟩, insP, hgoP⟩, hu', T1, h⟩)
      · refine ⟨_, _, _, _, rfl, _, _, _, _, _, _, _, _, _, _, _, _, _, _, _, _, _, _, ⟨Own.ld (g := a1) h (by repeat (first | with_reducible exact Pick.here | apply Pick.there)) rfl, Own.ld (g := a1) h (by repeat (first | with_reducible exact Pick.here | apply Pick.there)) rfl, Own.ld (g := a1) h (by repeat (first | with_reducible exact Pick.here | apply Pick.there)) rfl, Own.ld (g := a1) h (by repeat (first | with_reducible exact Pick.here | apply Pick.there)) rfl, Own.ld (g := a1) h (by repeat (first | with_reducible exact Pick.here | apply Pick.there)) rfl, Own.ld (g := a1) h (by repeat (first | with_reducible exact Pick.here | apply Pick.there)) rfl, Own.ld (g := a1) h (by repeat (first | with_reducible exact Pick.here | apply Pick.there)) rfl, Own.ld (g := a1) h (by repeat (first | with_reducible exact Pick.here | apply Pick.there)) rfl, Own.ld (g := a1) h (by repeat (first | with_reducible exact Pick.here | apply Pick.there)) rfl, Own.ld (g := a1) h (by repeat (first | with_reducible exact Pick.here | apply Pick.there)) rfl, Own.ld (g := a1) h (by repeat (first | with_reducible exact Pick.here | apply Pick.there)) rfl, Own.ld (g := a1) h (by repeat (first | with_reducible exact Pick.here | apply Pick.there)) rfl⟩, _, Own.ld (g := a2) (k := 1) h (by repeat (first | with_reducible exact Pick.here | apply Pick.there)) rfl, _, Own.ld (g := a2) (k := 2) h (by repeat (first | with_reducible exact Pick.here | apply Pick.there)) rfl, ?_⟩
        have le1 : LeH h0 h0 := LeH.refl _
        have h : Own e w (imm h0 :: dlO q2 md c2 ts.ws :: rdO gy qd D.length cd s2 u :: ldB gl gtr s.used s.most :: tinT gt m md sd lim ts :: dicO gd D s2 u :: blk a1 43 (pcC q c m sd q2 md c2 lim ts.ct ts.ag ql s.t.toL.length cl s.most) :: blk a2 54 [.int .u64 kd, .int .u64 hh, .int .i64 nn] :: blk a3 43 [.slice none 0 0, .int .i64 0, .int .u64 0, .slice none 0 0, .int .u64 0, .int .i64 0, .int .i64 0, .int .i64 0, .int .i64 0, .int .u64 0, .slice none 0 0, .int .i64 0] :: F) := (Own.sub (h) (by repeat (first | with_reducible exact Sub.nil _ | with_reducible exact Sub.rfl _ | (apply Sub.cons; focus ((repeat (first | with_reducible exact Pick.here | apply Pick.there)); done)) | apply Sub.drop)))
        refine Rets.mono (rAddP (k := hh) (n := nn) hm9 hmd hsd okt hs2 hD (hd.mono le1) (hS.mono le1) ok (by omega) (hI.mono le1) hcl (by omega) h) ?_
        clear h
        rintro _ w (⟨_, rfl, h⟩ | ⟨ha, _⟩)
        · refine ⟨_, _, _, _, _, _, _, _, _, _, _, _, _, _, _, _, _, _, _, _, _, _, rfl, Own.stP' (g := a1) h (by repeat (first | with_reducible exact Pick.here | apply Pick.there)) (by simp) (by simp [Value.oneCell']) fun w h => ?_⟩
          simp only [setFrom, List.set_cons_zero, List.set_cons_succ, List.set_nil] at h
          exact ⟨s, ts, u, h0, gtr, q, c, q2, c2, ql, cl, [], false, none, 0, none, 0, rfl, by simp, fun e w F h => .inl rfl, fun e w F h => .inl rfl, le1, hT, hS, okt, hI, hcl, ok, by omega, by omega, (Own.sub (h) (by repeat (first | with_reducible exact Sub.nil _ | with_reducible exact Sub.rfl _ | (apply Sub.cons; focus ((repeat (first | with_reducible exact Pick.here | apply Pick.there)); done)) | apply Sub.drop)))⟩
        · exact absurd ha hna
      · refine ⟨_, _, _, _, rfl, _, _, _, _, _, _, _, _, _, _, _, _, _, _, _, _, _, _, ⟨Own.ld (g := a1) h (by repeat (first | with_reducible exact Pick.here | apply Pick.there)) rfl, Own.ld (g := a1) h (by repeat (first | with_reducible exact Pick.here | apply Pick.there)) rfl, Own.ld (g := a1) h (by repeat (first | with_reducible exact Pick.here | apply Pick.there)) rfl, Own.ld (g := a1) h (by repeat (first | with_reducible exact Pick.here | apply Pick.there)) rfl, Own.ld (g := a1) h (by repeat (first | with_reducible exact Pick.here | apply Pick.there)) rfl, Own.ld (g := a1) h (by repeat (first | with_reducible exact Pick.here | apply Pick.there)) rfl, Own.ld (g := a1) h (by repeat (first | with_reducible exact Pick.here | apply Pick.there)) rfl, Own.ld (g := a1) h (by repeat (first | with_reducible exact Pick.here | apply Pick.there)) rfl, Own.ld (g := a1) h (by repeat (first | with_reducible exact Pick.here | apply Pick.there)) rfl, Own.ld (g := a1) h (by repeat (first | with_reducible exact Pick.here | apply Pick.there)) rfl, Own.ld (g := a1) h (by repeat (first | with_reducible exact Pick.here | apply Pick.there)) rfl, Own.ld (g := a1) h (by repeat (first | with_reducible exact Pick.here | apply Pick.there)) rfl⟩, _, Own.ld (g := a2) (k := 1) h (by repeat (first | with_reducible exact Pick.here | apply Pick.there)) rfl, _, Own.ld (g := a2) (k := 2) h (by repeat (first | with_reducible exact Pick.here | apply Pick.there)) rfl, ?_⟩
        obtain ⟨sA, hsA⟩ : ∃ x, x = adS b hh nn s1 := ⟨_, rfl⟩
        rw [← hsA] at T1 h
        have h : Own e w (imm h1 :: dlO q2 md c2 ts.ws :: rdO gy qd D.length cd s2 u :: ldB gl gtr' sA.used sA.most :: tinT gt m md sd lim ts :: dicO gd D s2 u' :: blk a1 43 (pcC q c m sd q2 md c2 lim ts.ct ts.ag ql s.t.toL.length cl s.most) :: blk a2 54 [.int .u64 kd, .int .u64 hh, .int .i64 nn] :: blk a3 43 [.slice none 0 0, .int .i64 0, .int .u64 0, .slice none 0 0, .int .u64 0, .int .i64 0, .int .i64 0, .int .i64 0, .int .i64 0, .int .u64 0, .slice none 0 0, .int .i64 0] :: F) := (Own.sub (h) (by repeat (first | with_reducible exact Sub.nil _ | with_reducible exact Sub.rfl _ | (apply Sub.cons; focus ((repeat (first | with_reducible exact Pick.here | apply Pick.there)); done)) | apply Sub.drop)))
        refine Rets.mono (rAddP (k := hh) (n := nn) hm9 hmd hsd okt hs2 hD (hd.mono le1) (hS.mono le1) ok (by omega) (hI.mono le1) hcl (by omega) h) ?_
        clear h
        rintro _ w (⟨hna, _⟩ | ⟨_, b2, s1', ins1, vs1, u1, h2, ql2, cl2, qb, cb, hgo, rfl, le2, I2, hc2, Ib, hsz2, hu2, h⟩)
        · exact absurd ha hna
        · obtain ⟨eb, e1⟩ := hgoP.same hgo
          injection e1 with e1 e2 e3 e4
          subst eb e1 e2 e3 e4
          rw [← hsA] at I2 hc2 ⊢
          refine ⟨_, _, _, _, _, _, _, _, _, _, _, _, _, _, _, _, _, _, _, _, _, _, rfl, Own.stP' (g := a1) h (by repeat (first | with_reducible exact Pick.here | apply Pick.there)) (by simp) (by simp [Value.oneCell']) fun w h => ?_⟩
          simp only [setFrom, List.set_cons_zero, List.set_cons_succ, List.set_nil] at h
          obtain ⟨okg, _, hszg, _⟩ := hG.facts ok
          have hls := lgAdd_size hh nn s1
          have okA : LgOk sA := by
            rw [hsA]; unfold adS; split
            · exact okg.add
            · exact okg
          have hsz3 : sA.t.size ≤ s1.t.size + 1 := by
            rw [hsA]; unfold adS; split
            · exact hls
            · omega
          exact ⟨sA, ts, u', h2, gtr', q, c, q2, c2, ql2, cl2, vs, b, qa, ca, qb, cb, rfl, by omega, Ia.mono le2, Ib, LeH.trans le1 le2, T1.mono le2, hS.mono (LeH.trans le1 le2), okt, I2, hc2, okA, by omega, by omega, (Own.sub (h) (by repeat (first | with_reducible exact Sub.nil _ | with_reducible exact Sub.rfl _ | (apply Sub.cons; focus ((repeat (first | with_reducible exact Pick.here | apply Pick.there)); done)) | apply Sub.drop)))⟩
  clear h
  intro w qx k75 k76 qy k77 k78 b10 b11
  intros
  rename_i hI3
  obtain ⟨s', ts', u', h1, gtr', q', c', q2', c2', ql', cl', vs, b, qa, ca, qb, cb, hus, hvl, Ia, Ib, f1, f2, f3, f4, f5, f6, f7, f8, f9, h⟩ := hI3
  obtain ⟨⟨rfl, rfl, rfl⟩, ⟨rfl, rfl, rfl⟩, rfl, rfl⟩ : (qx = qa ∧ k75 = vs.length ∧ k76 = ca) ∧ (qy = qb ∧ k77 = vs.length ∧ k78 = cb) ∧ b10 = b ∧ b11 = b := by simpa using hus
  let S : World → Prop := fun w => ∃ F', Own e w (blk a1 43 (pcC q' c' m sd q2' md c2' lim ts'.ct ts'.ag ql' s'.t.toL.length cl' s'.most) :: F')
  refine ⟨fun us w => us = [.bool true] ∧ Own e w (imm h1 :: ldB gl gtr' s'.used s'.most :: tinT gt m md sd lim ts' :: dicO gd D s2 u' :: dlO q2' md c2' ts'.ws :: rdO gy qd D.length cd s2 u' :: blk a3 43 (pcC q' c' m sd q2' md c2' lim ts'.ct ts'.ag ql' s'.t.toL.length cl' s'.most) :: F), h.drw fun w h => ⟨S, ⟨_, (Own.sub (h) (by repeat (first | with_reducible exact Sub.nil _ | with_reducible exact Sub.rfl _ | (apply Sub.cons; focus ((repeat (first | with_reducible exact Pick.here | apply Pick.there)); done)) | apply Sub.drop)))⟩, fun _ => ⟨_, _, _, _, _, _, _, _, _, _, _, _, _, _, _, _, _, _, ⟨fun w h => h.elim fun F' h => Own.ld (g := a1) h (by repeat (first | with_reducible exact Pick.here | apply Pick.there)) rfl, fun w h => h.elim fun F' h => Own.ld (g := a1) h (by repeat (first | with_reducible exact Pick.here | apply Pick.there)) rfl, fun w h => h.elim fun F' h => Own.ld (g := a1) h (by repeat (first | with_reducible exact Pick.here | apply Pick.there)) rfl, fun w h => h.elim fun F' h => Own.ld (g := a1) h (by repeat (first | with_reducible exact Pick.here | apply Pick.there)) rfl, fun w h => h.elim fun F' h => Own.ld (g := a1) h (by repeat (first | with_reducible exact Pick.here | apply Pick.there)) rfl, fun w h => h.elim fun F' h => Own.ld (g := a1) h (by repeat (first | with_reducible exact Pick.here | apply Pick.there)) rfl, fun w h => h.elim fun F' h => Own.ld (g := a1) h (by repeat (first | with_reducible exact Pick.here | apply Pick.there)) rfl, fun w h => h.elim fun F' h => Own.ld (g := a1) h (by repeat (first | with_reducible exact Pick.here | apply Pick.there)) rfl, fun w h => h.elim fun F' h => Own.ld (g := a1) h (by repeat (first | with_reducible exact Pick.here | apply Pick.there)) rfl, fun w h => h.elim fun F' h => Own.ld (g := a1) h (by repeat (first | with_reducible exact Pick.here | apply Pick.there)) rfl, fun w h => h.elim fun F' h => Own.ld (g := a1) h (by repeat (first | with_reducible exact Pick.here | apply Pick.there)) rfl, fun w h => h.elim fun F' h => Own.ld (g := a1) h (by repeat (first | with_reducible exact Pick.here | apply Pick.there)) rfl⟩, ?_⟩, fun hc => absurd hc (by simp)⟩, ?_⟩
  · refine Rets.mono (vBack (c := k76) (by omega) Ia h) ?_
    clear h
    rintro _ w ⟨qv, cv, rfl, h⟩
    refine ⟨_, _, _, rfl, ⟨_, (Own.sub (h) (by repeat (first | with_reducible exact Sub.nil _ | with_reducible exact Sub.rfl _ | (apply Sub.cons; focus ((repeat (first | with_reducible exact Pick.here | apply Pick.there)); done)) | apply Sub.drop)))⟩, ?_⟩
    refine Rets.mono (vSame (by omega) (fun w h => Own.slRd h) (fun w h => Ib _ _ _ (show Own e _ (imm h1 :: _) from ((Own.sub (h) (by repeat (first | with_reducible exact Sub.nil _ | with_reducible exact Sub.rfl _ | (apply Sub.cons; focus ((repeat (first | with_reducible exact Pick.here | apply Pick.there)); done)) | apply Sub.drop))) : Own e _ (imm h1 :: ldB gl gtr' s'.used s'.most :: tinT gt m md sd lim ts' :: dicO gd D s2 u' :: dlO q2' md c2' ts'.ws :: rdO gy qd D.length cd s2 u' :: blk a1 43 (pcC q' c' m sd q2' md c2' lim ts'.ct ts'.ag ql' s'.t.toL.length cl' s'.most) :: blk a2 54 [.int .u64 kd, .int .u64 hh, .int .i64 nn] :: blk a3 43 [.slice none 0 0, .int .i64 0, .int .u64 0, .slice none 0 0, .int .u64 0, .int .i64 0, .int .i64 0, .int .i64 0, .int .i64 0, .int .u64 0, .slice none 0 0, .int .i64 0] :: F)))) h) ?_
    clear h
    rintro _ w ⟨rfl, h⟩
    refine ⟨_, rfl, ⟨_, (Own.sub (h) (by repeat (first | with_reducible exact Sub.nil _ | with_reducible exact Sub.rfl _ | (apply Sub.cons; focus ((repeat (first | with_reducible exact Pick.here | apply Pick.there)); done)) | apply Sub.drop)))⟩, Own.stP' (g := a3) h (by repeat (first | with_reducible exact Pick.here | apply Pick.there)) (by simp) (by simp [Value.oneCell']) fun w h => ⟨rfl, ?_⟩⟩
    simp only [setFrom, List.set_cons_zero, List.set_cons_succ, List.set_nil] at h
    exact (Own.sub (h) (by repeat (first | with_reducible exact Sub.nil _ | with_reducible exact Sub.rfl _ | (apply Sub.cons; focus ((repeat (first | with_reducible exact Pick.here | apply Pick.there)); done)) | apply Sub.drop)))
  clear h
  intro w b13
  intros
  rename_i hI4
  obtain ⟨hus4, h⟩ := hI4
  obtain rfl : b13 = true := by simpa using hus4
  exact ⟨_, _, _, _, _, _, _, _, _, _, _, _, _, _, _, _, _, _, ⟨Own.ld (g := a3) h (by repeat (first | with_reducible exact Pick.here | apply Pick.there)) rfl, Own.ld (g := a3) h (by repeat (first | with_reducible exact Pick.here | apply Pick.there)) rfl, Own.ld (g := a3) h (by repeat (first | with_reducible exact Pick.here | apply Pick.there)) rfl, Own.ld (g := a3) h (by repeat (first | with_reducible exact Pick.here | apply Pick.there)) rfl, Own.ld (g := a3) h (by repeat (first | with_reducible exact Pick.here | apply Pick.there)) rfl, Own.ld (g := a3) h (by repeat (first | with_reducible exact Pick.here | apply Pick.there)) rfl, Own.ld (g := a3) h (by repeat (first | with_reducible exact Pick.here | apply Pick.there)) rfl, Own.ld (g := a3) h (by repeat (first | with_reducible exact Pick.here | apply Pick.there)) rfl, Own.ld (g := a3) h (by repeat (first | with_reducible exact Pick.here | apply Pick.there)) rfl, Own.ld (g := a3) h (by repeat (first | with_reducible exact Pick.here | apply Pick.there)) rfl, Own.ld (g := a3) h (by repeat (first | with_reducible exact Pick.here | apply Pick.there)) rfl, Own.ld (g := a3) h (by repeat (first | with_reducible exact Pick.here | apply Pick.there)) rfl⟩, s', ts', u', h1, gtr', q', c', q2', c2', ql', cl', (by first | trivial | rfl), f1, f2, f3, f4, f5, f6, f7, f8, f9, (Own.sub (h) (by repeat (first | with_reducible exact Sub.nil _ | with_reducible exact Sub.rfl _ | (apply Sub.cons; focus ((repeat (first | with_reducible exact Pick.here | apply Pick.there)); done)) | apply Sub.drop)))⟩
end
abbrev encP3 (s : Int × Int × Int) : List Value := [.int .u64 s.1, .int .u64 s.2.1, .int .i64 s.2.2]
theorem encP3_len (s : Int × Int × Int) : (encP3 s).length = 3 := rfl
theorem lfind_ofY {l : LE2} (hn : (keysP l).Nodup) {e : Int × Int} (he : e ∈ l) : lfind e.1 l = some e := by
  induction l with
  | nil => cases he
  | cons y l ih =>
    rw [keysP, List.map_cons, List.nodup_cons] at hn
    rcases List.mem_cons.1 he with rfl | he2
    · unfold lfind; rw [List.find?_cons_of_pos (by simp)]
    · have : y.1 ≠ e.1 := fun hh => hn.1 (by rw [hh]; exact List.mem_map.2 ⟨e, he2, rfl⟩)
      have h2 := ih hn.2 he2
      unfold lfind at h2 ⊢
      rw [List.find?_cons_of_neg (by simpa using this)]
      exact h2
theorem pyFew {e w : World} {F : List HP} {q : Option Addr} {c : Nat} (h : Own e w F) {l : Nat} : Rets Tryz.prog 4 #[.slice q l c] w fun v w' => v = .bool (decide (l ≤ 30)) ∧ Own e w' F := by
  refine cortadolaw26_few_go _ _ _ ⟨?_, h⟩
  have : decide ((l : Int) ≤ 30) = decide (l ≤ 30) := by rw [decide_eq_decide]; omega
  rw [this]
section
variable {W : World} {q q2 : Option Addr} {c c2 : Nat} {L : List (Int × Int × Int)} {D : List Int} {a b : Int}
theorem PolicyPlays_spec (HL : MixLaid W) (haw : (Lit.int .i64 a).wf = true) (hbw : (Lit.int .i64 b).wf = true) (hb1 : RdC W q (cs .i64 D)) (hm1 : D.length * 8 ≤ 140737488351232) (hc1 : D.length ≤ c) (hw1 : ∀ x ∈ D, (Lit.int .i64 x).wf = true)
    (hb2 : RdC W q2 (L.flatMap encP3)) (hm2 : L.length ≤ maxLen) (hc2 : L.length ≤ c2) (hw2 : ∀ s ∈ L, (Lit.int .u64 s.1).wf = true ∧ (Lit.int .u64 s.2.1).wf = true ∧ (Lit.int .i64 s.2.2).wf = true) :
    Rets Tryz.prog 3 #[.agg #[.int .i64 a, .int .i64 b, .slice q D.length c], .slice q2 L.length c2] W fun v w' => v = .bool true ∧ Below W.heap.size W w' := by
  refine Rets.mono (k := fun v w' => v = .bool true ∧ ∃ F, Own W w' (snap W :: F)) ?_ (fun v w' h => ⟨h.1, h.2.elim fun F h => h.below⟩)
  have h := Own.begin W
  rw [snap_imm] at h ⊢
  obtain ⟨hW, ehW⟩ : ∃ hW : Nat → Option Obj, hW = (fun b => W.heap[b]?) := ⟨_, rfl⟩
  have rd1 : ∀ {h1 : Nat → Option Obj}, LeH hW h1 → ∀ w F, Own W w (imm h1 :: F) → RdC w mixQ mixC := fun le w F h => by rw [ehW] at le; exact Own.snapRd (W := W) (h.immLe le) HL.rd
  have rd2 : ∀ {h1 : Nat → Option Obj}, LeH hW h1 → ∀ w F, Own W w (imm h1 :: F) → RdC w twiQ twiC := fun le w F h => by rw [ehW] at le; exact Own.snapRd (W := W) (h.immLe le) HL.rd2
  have rdD : ImR hW q (cs .i64 D) := fun e w F h => by rw [ehW] at h; exact Own.snapRd (W := W) h hb1
  have snp : ∀ {h1 : Nat → Option Obj} {w F}, LeH hW h1 → Own W w (imm h1 :: F) → Own W w (snap W :: F) := fun le h => by rw [ehW] at le; exact h.immLe le
  rw [← ehW] at h ⊢
  clear ehW hb1
  have aw : ∀ {h1 : Nat → Option Obj} {w F}, LeH hW h1 → Own W w (imm h1 :: F) → Rets Tryz.prog 5 #[] w fun v w' => ∃ b, v = Value.bool b ∧ (Value.bool b) = .bool true ∧ ∃ F, Own W w' (imm hW :: F) := fun le h => by
    refine Rets.mono (pcAwake (fun le2 => rd1 (LeH.trans le le2)) (fun le2 => rd2 (LeH.trans le le2)) h) ?_
    rintro _ w ⟨rfl, F, h⟩
    exact ⟨_, rfl, rfl, _, h.immLe le⟩
  refine cortadolaw26_PolicyPlays_go _ _ _ _ _ _ _ _ ?_
  unfold cortadolaw26_PolicyPlays_m
  refine h.newR fun ga w h => ?_
  simp only [addr_add_add, Nat.zero_add]
  obtain ⟨ha0, le0, ha, hh⟩ := Own.absorb h
  clear h
  have h := hh
  clear hh
  refine ⟨fun vs w => vs = [.bool (decide (30 < L.length ∨ 64 < b))] ∧ Own W w (imm ha0 :: []), ?_, ?_⟩
  · refine Rets.mono (pyFew (q := q2) (c := c2) h) ?_
    clear h
    rintro _ w ⟨rfl, h⟩
    refine ⟨_, rfl, fun hq => ⟨_, h.immCell ha (i := 1) rfl, ?_, h⟩, fun hq => ⟨?_, h⟩⟩
    · have hq : L.length ≤ 30 := by simpa using hq
      have : decide (b > 64) = decide (30 < L.length ∨ 64 < b) := by rw [decide_eq_decide]; omega
      rw [this]
    · have hq : 30 < L.length := by simpa using hq
      rw [decide_eq_true (by omega)]
  clear h
  rintro w
  intros
  rename_i bx hI
  obtain ⟨hvs, h⟩ := hI
  obtain rfl : bx = decide (30 < L.length ∨ 64 < b) := by simpa using hvs
  refine ⟨fun hq => aw le0 h, fun hq => ?_⟩
  have hq := of_decide_eq_false hq
  have h5 : M64 5 := ⟨by omega, by omega⟩
  have h9 : M64 9 := ⟨by omega, by omega⟩
  let J : List Value → World → Prop := fun us w => ∃ (gp gt gl gtr m md gx : Nat) (h1 : Nat → Option Obj) (q9 : Option Addr) (c9 : Nat) (q2 : Option Addr) (c2 : Nat), us = [.pointer (some ⟨gp, 0, none⟩), .pointer (some ⟨gx, 0, none⟩)] ∧ pwOk (maxI 1 (minI (maxI 1 (minI b 4096)) 4096)) m ∧ pwOk (keyN (maxI 1 (minI b 4096))) md ∧ LeH ha0 h1 ∧ PolC h1 gp gt gl ∧ TreeA h1 Tr.nil gtr ∧ RsR h1 q9 (2 ^ m) (t0 m md).R ∧ Own W w (imm h1 :: ldB gl gtr 0 (cutI a) :: tinT gt m md 5 (maxI 1 (minI b 4096)) (t0 m md) :: dlO q2 md c2 (t0 m md).ws :: blk gx 43 (pcC q9 c9 m 5 q2 md c2 (maxI 1 (minI b 4096)) 0 0 none 0 0 (cutI a)) :: [])
  let S : World → Prop := fun w => ∃ F', Own W w (imm ha0 :: F')
  refine ⟨J, h.drw fun w h => ⟨S, ⟨_, h⟩, _, fun w ⟨F', h⟩ => h.immCell ha (i := 0) rfl, _, fun w ⟨F', h⟩ => h.immCell ha (i := 1) rfl, _, fun w ⟨F', h⟩ => h.immCell ha (i := 0) rfl, _, fun w ⟨F', h⟩ => h.immCell ha (i := 1) rfl, ?_⟩, ?_⟩
  · refine ⟨?_, h.newR fun gx w h => ⟨⟨_, (Own.sub (h) (by repeat (first | with_reducible exact Sub.nil _ | with_reducible exact Sub.rfl _ | (apply Sub.cons; focus ((repeat (first | with_reducible exact Pick.here | apply Pick.there)); done)) | apply Sub.drop)))⟩, ?_⟩⟩
    · refine Rets.mono (pNew2 (a := a) (b := b) (sd := 5) (fun w h => rd1 le0 w _ h) h) ?_
      clear h
      rintro _ w ⟨gp, gt, gl, gtr, m, md, h1, rfl, pm, pd, le1, hp, T1, h⟩
      refine ⟨_, rfl, ⟨_, h.immLe le1⟩, ?_, h.newR fun gx w h => ⟨⟨_, ((Own.sub ((h.drop.immLe le1)) (by repeat (first | with_reducible exact Sub.nil _ | with_reducible exact Sub.rfl _ | (apply Sub.cons; focus ((repeat (first | with_reducible exact Pick.here | apply Pick.there)); done)) | apply Sub.drop))) : Own W w (imm ha0 :: []))⟩, ?_⟩⟩
      · refine Rets.mono (rNewP (a := a) (b := b) h5 h) ?_
        clear h
        rintro _ w ⟨h2, q9, c9, m2, q2, md2, c2, rfl, pm2, pd2, le2, hS, h⟩
        obtain rfl : m = m2 := Nat.le_antisymm (pm2.le pm) (pm.le pm2)
        obtain rfl : md = md2 := Nat.le_antisymm (pd2.le pd) (pd.le pd2)
        have le3 := LeH.trans le1 le2
        refine ⟨_, _, _, _, _, _, _, _, _, _, _, _, _, _, _, _, _, _, rfl, ⟨_, h.immLe le3⟩, h.newR fun gx w h => ⟨⟨_, ((Own.sub ((h.drop.immLe le3)) (by repeat (first | with_reducible exact Sub.nil _ | with_reducible exact Sub.rfl _ | (apply Sub.cons; focus ((repeat (first | with_reducible exact Pick.here | apply Pick.there)); done)) | apply Sub.drop))) : Own W w (imm ha0 :: []))⟩, Own.stP' (g := gx) h (by repeat (first | with_reducible exact Pick.here | apply Pick.there)) (by simp) (by simp [Value.oneCell']) fun w h => ?_⟩⟩
        simp only [setFrom, List.set_cons_zero, List.set_cons_succ, List.set_nil] at h
        refine ⟨⟨_, ((Own.sub ((h.drop.immLe le3)) (by repeat (first | with_reducible exact Sub.nil _ | with_reducible exact Sub.rfl _ | (apply Sub.cons; focus ((repeat (first | with_reducible exact Pick.here | apply Pick.there)); done)) | apply Sub.drop))) : Own W w (imm ha0 :: []))⟩, ?_⟩
        exact ⟨gp, gt, gl, gtr, m, md, gx, h2, q9, c9, q2, c2, rfl, pm, pd, LeH.trans le1 le2, le2 _ _ hp, T1.mono le2, hS, (Own.sub (h) (by repeat (first | with_reducible exact Sub.nil _ | with_reducible exact Sub.rfl _ | (apply Sub.cons; focus ((repeat (first | with_reducible exact Pick.here | apply Pick.there)); done)) | apply Sub.drop)))⟩
      · have h : Own W w (imm h1 :: blk gx 43 [.slice none 0 0, .int .i64 0, .int .u64 0, .slice none 0 0, .int .u64 0, .int .i64 0, .int .i64 0, .int .i64 0, .int .i64 0, .int .u64 0, .slice none 0 0, .int .i64 0] :: ldB gl gtr 0 (cutI a) :: tinT gt m md 5 (maxI 1 (minI b 4096)) (t0 m md) :: []) := (Own.sub (h) (by repeat (first | with_reducible exact Sub.nil _ | with_reducible exact Sub.rfl _ | (apply Sub.cons; focus ((repeat (first | with_reducible exact Pick.here | apply Pick.there)); done)) | apply Sub.drop)))
        refine Rets.mono (rNewP (a := a) (b := b) h5 h) ?_
        clear h
        rintro _ w ⟨h2, q9, c9, m2, q2, md2, c2, rfl, pm2, pd2, le2, hS, h⟩
        obtain rfl : m = m2 := Nat.le_antisymm (pm2.le pm) (pm.le pm2)
        obtain rfl : md = md2 := Nat.le_antisymm (pd2.le pd) (pd.le pd2)
        have le3 := LeH.trans le1 le2
        refine ⟨_, _, _, _, _, _, _, _, _, _, _, _, _, _, _, _, _, _, rfl, ⟨_, h.immLe le3⟩, Own.stP' (g := gx) h (by repeat (first | with_reducible exact Pick.here | apply Pick.there)) (by simp) (by simp [Value.oneCell']) fun w h => ?_⟩
        simp only [setFrom, List.set_cons_zero, List.set_cons_succ, List.set_nil] at h
        refine ⟨⟨_, ((Own.sub ((h.drop.immLe le3)) (by repeat (first | with_reducible exact Sub.nil _ | with_reducible exact Sub.rfl _ | (apply Sub.cons; focus ((repeat (first | with_reducible exact Pick.here | apply Pick.there)); done)) | apply Sub.drop))) : Own W w (imm ha0 :: []))⟩, ?_⟩
        exact ⟨gp, gt, gl, gtr, m, md, gx, h2, q9, c9, q2, c2, rfl, pm, pd, LeH.trans le1 le2, le2 _ _ hp, T1.mono le2, hS, (Own.sub (h) (by repeat (first | with_reducible exact Sub.nil _ | with_reducible exact Sub.rfl _ | (apply Sub.cons; focus ((repeat (first | with_reducible exact Pick.here | apply Pick.there)); done)) | apply Sub.drop)))⟩
    · have h : Own W w (imm ha0 :: blk gx 43 [.slice none 0 0, .int .i64 0, .int .u64 0, .slice none 0 0, .int .u64 0, .int .i64 0, .int .i64 0, .int .i64 0, .int .i64 0, .int .u64 0, .slice none 0 0, .int .i64 0] :: []) := (Own.sub (h) (by repeat (first | with_reducible exact Sub.nil _ | with_reducible exact Sub.rfl _ | (apply Sub.cons; focus ((repeat (first | with_reducible exact Pick.here | apply Pick.there)); done)) | apply Sub.drop)))
      refine Rets.mono (pNew2 (a := a) (b := b) (sd := 5) (fun w h => rd1 le0 w _ h) h) ?_
      clear h
      rintro _ w ⟨gp, gt, gl, gtr, m, md, h1, rfl, pm, pd, le1, hp, T1, h⟩
      refine ⟨_, rfl, ⟨_, h.immLe le1⟩, ?_⟩
      refine Rets.mono (rNewP (a := a) (b := b) h5 h) ?_
      clear h
      rintro _ w ⟨h2, q9, c9, m2, q2, md2, c2, rfl, pm2, pd2, le2, hS, h⟩
      obtain rfl : m = m2 := Nat.le_antisymm (pm2.le pm) (pm.le pm2)
      obtain rfl : md = md2 := Nat.le_antisymm (pd2.le pd) (pd.le pd2)
      have le3 := LeH.trans le1 le2
      refine ⟨_, _, _, _, _, _, _, _, _, _, _, _, _, _, _, _, _, _, rfl, ⟨_, h.immLe le3⟩, Own.stP' (g := gx) h (by repeat (first | with_reducible exact Pick.here | apply Pick.there)) (by simp) (by simp [Value.oneCell']) fun w h => ?_⟩
      simp only [setFrom, List.set_cons_zero, List.set_cons_succ, List.set_nil] at h
      refine ⟨⟨_, ((Own.sub ((h.drop.immLe le3)) (by repeat (first | with_reducible exact Sub.nil _ | with_reducible exact Sub.rfl _ | (apply Sub.cons; focus ((repeat (first | with_reducible exact Pick.here | apply Pick.there)); done)) | apply Sub.drop))) : Own W w (imm ha0 :: []))⟩, ?_⟩
      exact ⟨gp, gt, gl, gtr, m, md, gx, h2, q9, c9, q2, c2, rfl, pm, pd, LeH.trans le1 le2, le2 _ _ hp, T1.mono le2, hS, (Own.sub (h) (by repeat (first | with_reducible exact Sub.nil _ | with_reducible exact Sub.rfl _ | (apply Sub.cons; focus ((repeat (first | with_reducible exact Pick.here | apply Pick.there)); done)) | apply Sub.drop)))⟩
  clear h
  rintro w
  intros
  rename_i hI
  obtain ⟨gp, gt, gl, gtr, m, md, gx, h1, q9, c9, q8, c8, hvs, pm, pd, le1, hp, T1, hS, h⟩ := hI
  simp only [List.cons.injEq, Value.pointer.injEq, and_true] at hvs
  obtain ⟨rfl, rfl⟩ := hvs
  have hl : 1 ≤ maxI 1 (minI b 4096) ∧ maxI 1 (minI b 4096) ≤ 4096 ∧ maxI 1 (minI b 4096) ≤ 64 := by unfold maxI minI; split <;> split <;> omega
  obtain ⟨lim, hlim⟩ : ∃ lim, lim = maxI 1 (minI b 4096) := ⟨_, rfl⟩
  rw [← hlim] at h pm pd hl
  clear hlim
  rw [limE ⟨hl.1, hl.2.1⟩] at pm
  have hm9 : m ≤ 9 := by
    rcases Nat.lt_or_ge m 10 with h | h
    · omega
    · have : 2 ^ 10 ≤ 2 ^ m := Nat.pow_le_pow_right (by omega) h
      have := pm.2
      omega
  have hmd : md ≤ 20 := by
    rcases Nat.lt_or_ge md 21 with h | h
    · omega
    · have : 2 ^ 21 ≤ 2 ^ md := Nat.pow_le_pow_right (by omega) h
      have h2 := pd.2
      have : keyN lim ≤ 8 * 4096 := by unfold keyN maxI minI; split <;> split <;> omega
      omega
  have okt0 : okT m md lim (t0 m md) := okT0 hl.1
  have le1' := LeH.trans le0 le1
  have ha1 := le1 _ _ ha
  let J2 : List Value → World → Prop := fun us w => ∃ gd gy : Nat, us = [.pointer (some ⟨gd, 0, none⟩), .pointer (some ⟨gy, 0, none⟩)] ∧ Own W w (imm h1 :: ldB gl gtr 0 (cutI a) :: tinT gt m md 5 lim (t0 m md) :: dlO q8 md c8 (t0 m md).ws :: blk gx 43 (pcC q9 c9 m 5 q8 md c8 lim 0 0 none 0 0 (cutI a)) :: dicO gd D 9 0 :: blk gy 49 [.slice q D.length c, .int .u64 9, .int .i64 0] :: [])
  let S : World → Prop := fun w => ∃ F', Own W w (imm h1 :: F')
  refine ⟨J2, h.drw fun w h => ⟨S, ⟨_, h⟩, _, _, _, fun w ⟨F', h⟩ => h.immCell ha1 (i := 2) rfl, _, _, _, fun w ⟨F', h⟩ => h.immCell ha1 (i := 2) rfl, ?_, h.newR fun gy w h => ⟨⟨_, h.drop⟩, ?_⟩⟩, ?_⟩
  · refine Rets.mono (dcNew (L := D) (q := q) (c := c) (s := 9) h (fun w h => rdD.mono le1' _ _ _ h) hm1) ?_
    clear h
    rintro _ w ⟨gd, rfl, h⟩
    exact ⟨_, rfl, ⟨_, h.drop⟩, h.newR fun gy w h => ⟨⟨_, h.drop.drop⟩, gd, gy, rfl, (Own.sub (h) (by repeat (first | with_reducible exact Sub.nil _ | with_reducible exact Sub.rfl _ | (apply Sub.cons; focus ((repeat (first | with_reducible exact Pick.here | apply Pick.there)); done)) | apply Sub.drop)))⟩⟩
  · refine Rets.mono (dcNew (L := D) (q := q) (c := c) (s := 9) h (fun w h => rdD.mono le1' _ _ _ h.drop) hm1) ?_
    clear h
    rintro _ w ⟨gd, rfl, h⟩
    exact ⟨_, rfl, ⟨_, h.drop.drop⟩, gd, gy, rfl, (Own.sub (h) (by repeat (first | with_reducible exact Sub.nil _ | with_reducible exact Sub.rfl _ | (apply Sub.cons; focus ((repeat (first | with_reducible exact Pick.here | apply Pick.there)); done)) | apply Sub.drop)))⟩
  clear h
  rintro w
  intros
  rename_i hI
  obtain ⟨gd, gy, hvs, h⟩ := hI
  simp only [List.cons.injEq, Value.pointer.injEq, and_true] at hvs
  obtain ⟨rfl, rfl⟩ := hvs
  have ok0 : LgOk ⟨.nil, 0, cutI a⟩ := LgOk.nil (cutI_bd a)
  obtain ⟨s0, hs0⟩ : ∃ s, s = (⟨.nil, 0, cutI a⟩ : Lg) := ⟨_, rfl⟩
  obtain ⟨ts, hts⟩ : ∃ ts, ts = t0 m md := ⟨_, rfl⟩
  have e1 : s0.t.toL = [] := by rw [hs0]; rfl
  have h : Own W w (imm h1 :: ldB gl gtr s0.used s0.most :: tinT gt m md 5 lim ts :: dicO gd D 9 0 :: dlO q8 md c8 ts.ws :: rdO gy q D.length c 9 0 :: blk gx 43 (pcC q9 c9 m 5 q8 md c8 lim ts.ct ts.ag none s0.t.toL.length 0 s0.most) :: []) := by
    rw [e1, hs0, hts]
    have h : Own W w (imm h1 :: ldB gl gtr 0 (cutI a) :: tinT gt m md 5 lim (t0 m md) :: dicO gd D 9 0 :: dlO q8 md c8 (t0 m md).ws :: blk gy 49 [.slice q D.length c, .int .u64 9, .int .i64 0] :: blk gx 43 (pcC q9 c9 m 5 q8 md c8 lim 0 0 none 0 0 (cutI a)) :: []) := (Own.sub (h) (by repeat (first | with_reducible exact Sub.nil _ | with_reducible exact Sub.rfl _ | (apply Sub.cons; focus ((repeat (first | with_reducible exact Pick.here | apply Pick.there)); done)) | apply Sub.drop)))
    exact h
  rw [← hs0] at ok0
  rw [← hts] at okt0 hS
  have T1 : TreeA h1 s0.t gtr := by rw [hs0]; exact T1
  have z0 : s0.t.size = 0 := by rw [hs0]; rfl
  clear hs0 hts
  refine ⟨fun z vs w => ∃ (i : Nat) (s : Lg) (ts : Ts) (h1 : Nat → Option Obj) (gtr u : Nat) (q9 : Option Addr) (c9 : Nat) (q8 : Option Addr) (c8 : Nat) (ql : Option Addr) (cl : Nat), vs = [.int .i64 (i : Int)] ∧ z + i = L.length ∧ LgOk s ∧ s.t.size ≤ i ∧ u ≤ 160 * i ∧ LeH hW h1 ∧ PolC h1 gp gt gl ∧ TreeA h1 s.t gtr ∧ RsR h1 q9 (2 ^ m) ts.R ∧ okT m md lim ts ∧ ImR h1 ql (E24 s.t.toL) ∧ s.t.toL.length ≤ cl ∧ Own W w (imm h1 :: ldB gl gtr s.used s.most :: tinT gt m md 5 lim ts :: dicO gd D 9 u :: dlO q8 md c8 ts.ws :: rdO gy q D.length c 9 u :: blk gx 43 (pcC q9 c9 m 5 q8 md c8 lim ts.ct ts.ag ql s.t.toL.length cl s.most) :: []), ⟨L.length, 0, s0, ts, h1, gtr, 0, q9, c9, q8, c8, none, 0, rfl, rfl, ok0, by omega, by omega, le1', hp, T1, hS, okt0, fun e w F h => by rw [e1]; exact .inl rfl, by rw [e1]; exact Nat.le_refl _, h⟩, ?_⟩
  clear h T1 le1 le1' hp ok0 ha1 ha le0 hS okt0 e1 z0
  rintro z w v12 n4
  intros
  rename_i hI2
  obtain ⟨i, s, ts, h1, gtr, u, q9, c9, q8, c8, ql, cl, hvs2, hz, ok, hsz, hu, le1, hp, T1, hS, okt, hI, hcl, h⟩ := hI2
  obtain rfl : n4 = (i : Int) := by simpa using hvs2
  refine ⟨fun hc1 => ?_, fun hc1 => ?_⟩
  · have hc1 := dec_t hc1
    have hi : i < L.length := by omega
    have ei : IntKind.wrap .i64 ((i : Int) + 1) = ((i + 1 : Nat) : Int) := by rw [wI64 (by omega) (by omega)]; rfl
    rw [ei]
    obtain ⟨ad, eq2, hWc⟩ := hb2.rec encP3_len hi (by omega)
    obtain ⟨p, hpe⟩ : ∃ p, p = L[i] := ⟨_, rfl⟩
    have rd : ∀ {hx : Nat → Option Obj} {F w}, LeH hW hx → Own W w (imm hx :: F) → cellAt w ((ad.add (Int.toNat (i : Int) * 3)).add 0) (.int .u64 p.1) ∧ cellAt w ((ad.add (Int.toNat (i : Int) * 3)).add 1) (.int .u64 p.2.1) ∧ cellAt w ((ad.add (Int.toNat (i : Int) * 3)).add 2) (.int .i64 p.2.2) := fun hle h => by
      have h := snp hle h
      rw [Int.toNat_natCast, hpe]
      exact ⟨h.snapCell (hWc i hi 0 _ rfl), h.snapCell (hWc i hi 1 _ rfl), h.snapCell (hWc i hi 2 _ rfl)⟩
    rw [eq2]
    clear eq2 hWc
    have hp1w := wfU64 (hw2 p (by rw [hpe]; exact List.getElem_mem hi)).1
    have hkl := Tr.size_toL s.t
    let S : World → Prop := fun w => ∃ F', Own W w (imm h1 :: blk gx 43 (pcC q9 c9 m 5 q8 md c8 lim ts.ct ts.ag ql s.t.toL.length cl s.most) :: F')
    let J3 : List Value → World → Prop := fun us w => ∃ (s' : Lg) (ts' : Ts) (u' : Nat) (h2 : Nat → Option Obj) (gtr' : Nat) (q' : Option Addr) (c' : Nat) (q2' : Option Addr) (c2' : Nat) (ql' : Option Addr) (cl' gz : Nat), us = [.pointer (some ⟨gz, 0, none⟩), .bool true] ∧ LeH h1 h2 ∧ TreeA h2 s'.t gtr' ∧ RsR h2 q' (2 ^ m) ts'.R ∧ okT m md lim ts' ∧ ImR h2 ql' (E24 s'.t.toL) ∧ s'.t.toL.length ≤ cl' ∧ LgOk s' ∧ s'.t.size ≤ s.t.size + 1 ∧ u' ≤ u + 5 * (s.t.size + 2) ∧ Own W w (imm h2 :: ldB gl gtr' s'.used s'.most :: tinT gt m md 5 lim ts' :: dicO gd D 9 u' :: dlO q2' md c2' ts'.ws :: rdO gy q D.length c 9 u' :: blk gz 43 (pcC q' c' m 5 q2' md c2' lim ts'.ct ts'.ag ql' s'.t.toL.length cl' s'.most) :: blk gx 43 (pcC q9 c9 m 5 q8 md c8 lim ts.ct ts.ag ql s.t.toL.length cl s.most) :: [])
    refine ⟨J3, h.drw fun w h => ⟨S, ⟨_, (Own.sub (h) (by repeat (first | with_reducible exact Sub.nil _ | with_reducible exact Sub.rfl _ | (apply Sub.cons; focus ((repeat (first | with_reducible exact Pick.here | apply Pick.there)); done)) | apply Sub.drop)))⟩, by omega, by omega, smR (smR ⟨_, _, _, _, _, _, _, _, _, _, _, _, _, _, _, _, _, _, ⟨fun w h => h.elim fun F' h => Own.ld (g := gx) (k := 0) h (by repeat (first | with_reducible exact Pick.here | apply Pick.there)) rfl, fun w h => h.elim fun F' h => Own.ld (g := gx) (k := 1) h (by repeat (first | with_reducible exact Pick.here | apply Pick.there)) rfl, fun w h => h.elim fun F' h => Own.ld (g := gx) (k := 2) h (by repeat (first | with_reducible exact Pick.here | apply Pick.there)) rfl, fun w h => h.elim fun F' h => Own.ld (g := gx) (k := 3) h (by repeat (first | with_reducible exact Pick.here | apply Pick.there)) rfl, fun w h => h.elim fun F' h => Own.ld (g := gx) (k := 4) h (by repeat (first | with_reducible exact Pick.here | apply Pick.there)) rfl, fun w h => h.elim fun F' h => Own.ld (g := gx) (k := 5) h (by repeat (first | with_reducible exact Pick.here | apply Pick.there)) rfl, fun w h => h.elim fun F' h => Own.ld (g := gx) (k := 6) h (by repeat (first | with_reducible exact Pick.here | apply Pick.there)) rfl, fun w h => h.elim fun F' h => Own.ld (g := gx) (k := 7) h (by repeat (first | with_reducible exact Pick.here | apply Pick.there)) rfl, fun w h => h.elim fun F' h => Own.ld (g := gx) (k := 8) h (by repeat (first | with_reducible exact Pick.here | apply Pick.there)) rfl, fun w h => h.elim fun F' h => Own.ld (g := gx) (k := 9) h (by repeat (first | with_reducible exact Pick.here | apply Pick.there)) rfl, fun w h => h.elim fun F' h => Own.ld (g := gx) (k := 10) h (by repeat (first | with_reducible exact Pick.here | apply Pick.there)) rfl, fun w h => h.elim fun F' h => Own.ld (g := gx) (k := 11) h (by repeat (first | with_reducible exact Pick.here | apply Pick.there)) rfl⟩, _, _, _, ⟨fun w ⟨F', h⟩ => (rd le1 h).1, fun w ⟨F', h⟩ => (by rw [← addr_add_add]; exact (rd le1 h).2.1), fun w ⟨F', h⟩ => (by rw [← addr_add_add]; exact (rd le1 h).2.2)⟩, ?_, h.newR fun gz w h => ⟨⟨_, (Own.sub (h) (by repeat (first | with_reducible exact Sub.nil _ | with_reducible exact Sub.rfl _ | (apply Sub.cons; focus ((repeat (first | with_reducible exact Pick.here | apply Pick.there)); done)) | apply Sub.drop)))⟩, ?_⟩⟩)⟩, ?_⟩
    · refine Rets.mono (pdo (fun le => rd1 (LeH.trans le1 le)) (fun le => rd2 (LeH.trans le1 le)) ⟨hl.1, hl.2.1⟩ pm pd hm9 hmd h5 okt h9 hm1 (rdD.mono le1) hS ok (by omega) hI hcl hp T1 (by omega) (kd := p.1) (hh := p.2.1) (nn := p.2.2) hp1w.1 h) ?_
      clear h
      rintro _ w ⟨s', ts', u', h2, gtr', q', c', q2', c2', ql', cl', rfl, le2, T2, hS2, okt2, I2, hc2, ok2, hsz2, hu2, h⟩
      refine ⟨_, _, _, _, _, _, _, _, _, _, _, _, _, _, _, _, _, _, _, rfl, ⟨_, ((Own.sub ((h.immLe le2)) (by repeat (first | with_reducible exact Sub.nil _ | with_reducible exact Sub.rfl _ | (apply Sub.cons; focus ((repeat (first | with_reducible exact Pick.here | apply Pick.there)); done)) | apply Sub.drop))) : Own W w (imm h1 :: blk gx 43 (pcC q9 c9 m 5 q8 md c8 lim ts.ct ts.ag ql s.t.toL.length cl s.most) :: []))⟩, h.newR fun gz w h => ⟨⟨_, ((Own.sub ((h.drop.immLe le2)) (by repeat (first | with_reducible exact Sub.nil _ | with_reducible exact Sub.rfl _ | (apply Sub.cons; focus ((repeat (first | with_reducible exact Pick.here | apply Pick.there)); done)) | apply Sub.drop))) : Own W w (imm h1 :: blk gx 43 (pcC q9 c9 m 5 q8 md c8 lim ts.ct ts.ag ql s.t.toL.length cl s.most) :: []))⟩, Own.stP' (g := gz) h (by repeat (first | with_reducible exact Pick.here | apply Pick.there)) (by simp) (by simp [Value.oneCell']) fun w h => ?_⟩⟩
      simp only [setFrom, List.set_cons_zero, List.set_cons_succ, List.set_nil] at h
      refine ⟨⟨_, ((Own.sub ((h.drop.immLe le2)) (by repeat (first | with_reducible exact Sub.nil _ | with_reducible exact Sub.rfl _ | (apply Sub.cons; focus ((repeat (first | with_reducible exact Pick.here | apply Pick.there)); done)) | apply Sub.drop))) : Own W w (imm h1 :: blk gx 43 (pcC q9 c9 m 5 q8 md c8 lim ts.ct ts.ag ql s.t.toL.length cl s.most) :: []))⟩, ?_⟩
      exact ⟨s', ts', u', h2, gtr', q', c', q2', c2', ql', cl', gz, rfl, le2, T2, hS2, okt2, I2, hc2, ok2, hsz2, hu2, (Own.sub (h) (by repeat (first | with_reducible exact Sub.nil _ | with_reducible exact Sub.rfl _ | (apply Sub.cons; focus ((repeat (first | with_reducible exact Pick.here | apply Pick.there)); done)) | apply Sub.drop)))⟩
    · have h : Own W w (imm h1 :: ldB gl gtr s.used s.most :: tinT gt m md 5 lim ts :: dicO gd D 9 u :: dlO q8 md c8 ts.ws :: rdO gy q D.length c 9 u :: blk gz 43 [.slice none 0 0, .int .i64 0, .int .u64 0, .slice none 0 0, .int .u64 0, .int .i64 0, .int .i64 0, .int .i64 0, .int .i64 0, .int .u64 0, .slice none 0 0, .int .i64 0] :: blk gx 43 (pcC q9 c9 m 5 q8 md c8 lim ts.ct ts.ag ql s.t.toL.length cl s.most) :: []) := (Own.sub (h) (by repeat (first | with_reducible exact Sub.nil _ | with_reducible exact Sub.rfl _ | (apply Sub.cons; focus ((repeat (first | with_reducible exact Pick.here | apply Pick.there)); done)) | apply Sub.drop)))
      refine Rets.mono (pdo (fun le => rd1 (LeH.trans le1 le)) (fun le => rd2 (LeH.trans le1 le)) ⟨hl.1, hl.2.1⟩ pm pd hm9 hmd h5 okt h9 hm1 (rdD.mono le1) hS ok (by omega) hI hcl hp T1 (by omega) (kd := p.1) (hh := p.2.1) (nn := p.2.2) hp1w.1 h) ?_
      clear h
      rintro _ w ⟨s', ts', u', h2, gtr', q', c', q2', c2', ql', cl', rfl, le2, T2, hS2, okt2, I2, hc2, ok2, hsz2, hu2, h⟩
      refine ⟨_, _, _, _, _, _, _, _, _, _, _, _, _, _, _, _, _, _, _, rfl, ⟨_, ((Own.sub ((h.immLe le2)) (by repeat (first | with_reducible exact Sub.nil _ | with_reducible exact Sub.rfl _ | (apply Sub.cons; focus ((repeat (first | with_reducible exact Pick.here | apply Pick.there)); done)) | apply Sub.drop))) : Own W w (imm h1 :: blk gx 43 (pcC q9 c9 m 5 q8 md c8 lim ts.ct ts.ag ql s.t.toL.length cl s.most) :: []))⟩, Own.stP' (g := gz) h (by repeat (first | with_reducible exact Pick.here | apply Pick.there)) (by simp) (by simp [Value.oneCell']) fun w h => ?_⟩
      simp only [setFrom, List.set_cons_zero, List.set_cons_succ, List.set_nil] at h
      refine ⟨⟨_, ((Own.sub ((h.drop.immLe le2)) (by repeat (first | with_reducible exact Sub.nil _ | with_reducible exact Sub.rfl _ | (apply Sub.cons; focus ((repeat (first | with_reducible exact Pick.here | apply Pick.there)); done)) | apply Sub.drop))) : Own W w (imm h1 :: blk gx 43 (pcC q9 c9 m 5 q8 md c8 lim ts.ct ts.ag ql s.t.toL.length cl s.most) :: []))⟩, ?_⟩
      exact ⟨s', ts', u', h2, gtr', q', c', q2', c2', ql', cl', gz, rfl, le2, T2, hS2, okt2, I2, hc2, ok2, hsz2, hu2, (Own.sub (h) (by repeat (first | with_reducible exact Sub.nil _ | with_reducible exact Sub.rfl _ | (apply Sub.cons; focus ((repeat (first | with_reducible exact Pick.here | apply Pick.there)); done)) | apply Sub.drop)))⟩
    clear h
    rintro w
    intros
    rename_i hI3
    obtain ⟨s', ts', u', h2, gtr', q', c', q2', c2', ql', cl', gz, hvs, le2, T2, hS2, okt2, I2, hc2, ok2, hsz2, hu2, h⟩ := hI3
    simp only [List.cons.injEq, Value.pointer.injEq, Value.bool.injEq, and_true] at hvs
    obtain ⟨rfl, rfl⟩ := hvs
    have le3 := LeH.trans le1 le2
    have hp2 : PolC h2 gp gt gl := le2 _ _ hp
    have hl2 := Tr.size_toL s'.t
    refine smR ⟨_, _, _, _, _, _, _, _, _, _, _, _, _, _, _, _, _, _, ⟨Own.ld (g := gz) (k := 0) h (by repeat (first | with_reducible exact Pick.here | apply Pick.there)) rfl, Own.ld (g := gz) (k := 1) h (by repeat (first | with_reducible exact Pick.here | apply Pick.there)) rfl, Own.ld (g := gz) (k := 2) h (by repeat (first | with_reducible exact Pick.here | apply Pick.there)) rfl, Own.ld (g := gz) (k := 3) h (by repeat (first | with_reducible exact Pick.here | apply Pick.there)) rfl, Own.ld (g := gz) (k := 4) h (by repeat (first | with_reducible exact Pick.here | apply Pick.there)) rfl, Own.ld (g := gz) (k := 5) h (by repeat (first | with_reducible exact Pick.here | apply Pick.there)) rfl, Own.ld (g := gz) (k := 6) h (by repeat (first | with_reducible exact Pick.here | apply Pick.there)) rfl, Own.ld (g := gz) (k := 7) h (by repeat (first | with_reducible exact Pick.here | apply Pick.there)) rfl, Own.ld (g := gz) (k := 8) h (by repeat (first | with_reducible exact Pick.here | apply Pick.there)) rfl, Own.ld (g := gz) (k := 9) h (by repeat (first | with_reducible exact Pick.here | apply Pick.there)) rfl, Own.ld (g := gz) (k := 10) h (by repeat (first | with_reducible exact Pick.here | apply Pick.there)) rfl, Own.ld (g := gz) (k := 11) h (by repeat (first | with_reducible exact Pick.here | apply Pick.there)) rfl⟩, smR (Own.stP' (g := gx) h (by repeat (first | with_reducible exact Pick.here | apply Pick.there)) (by simp) (by simp [Value.oneCell']) fun w h => ?_)⟩
    simp only [setFrom, List.set_cons_zero, List.set_cons_succ, List.set_nil] at h
    have h : Own W w (imm h2 :: ldB gl gtr' s'.used s'.most :: tinT gt m md 5 lim ts' :: dicO gd D 9 u' :: dlO q2' md c2' ts'.ws :: rdO gy q D.length c 9 u' :: blk gx 43 (pcC q' c' m 5 q2' md c2' lim ts'.ct ts'.ag ql' s'.t.toL.length cl' s'.most) :: []) := (Own.sub (h) (by repeat (first | with_reducible exact Sub.nil _ | with_reducible exact Sub.rfl _ | (apply Sub.cons; focus ((repeat (first | with_reducible exact Pick.here | apply Pick.there)); done)) | apply Sub.drop)))
    refine Rets.mono (pLedger hp2 h) ?_
    clear h
    rintro _ w ⟨rfl, h⟩
    let S9 : World → Prop := fun w => ∃ F', Own W w (imm h2 :: rdO gy q D.length c 9 u' :: blk gx 43 (pcC q' c' m 5 q2' md c2' lim ts'.ct ts'.ag ql' s'.t.toL.length cl' s'.most) :: F')
    have s9 : ∀ {w}, Own W w (imm h2 :: ldB gl gtr' s'.used s'.most :: tinT gt m md 5 lim ts' :: dicO gd D 9 u' :: dlO q2' md c2' ts'.ws :: rdO gy q D.length c 9 u' :: blk gx 43 (pcC q' c' m 5 q2' md c2' lim ts'.ct ts'.ag ql' s'.t.toL.length cl' s'.most) :: []) → S9 w := fun h => ⟨_, (Own.sub (h) (by repeat (first | with_reducible exact Sub.nil _ | with_reducible exact Sub.rfl _ | (apply Sub.cons; focus ((repeat (first | with_reducible exact Pick.here | apply Pick.there)); done)) | apply Sub.drop)))⟩
    refine ⟨_, rfl, fun vs w => vs = [.bool false] ∧ Own W w (imm h2 :: ldB gl gtr' s'.used s'.most :: tinT gt m md 5 lim ts' :: dicO gd D 9 u' :: dlO q2' md c2' ts'.ws :: rdO gy q D.length c 9 u' :: blk gx 43 (pcC q' c' m 5 q2' md c2' lim ts'.ct ts'.ag ql' s'.t.toL.length cl' s'.most) :: []), h.drw fun w h => ⟨S9, s9 h, fun _ => ⟨fun _ => smR ⟨_, fun w h => h.elim fun F' h => Own.ld (g := gy) (k := 2) h (by repeat (first | with_reducible exact Pick.here | apply Pick.there)) rfl, ?_⟩, fun hc => (by cases hc)⟩, fun hc => (by cases hc)⟩, ?_⟩
    · have h : Own W w (dicO gd D 9 u' :: imm h2 :: ldB gl gtr' s'.used s'.most :: tinT gt m md 5 lim ts' :: dlO q2' md c2' ts'.ws :: rdO gy q D.length c 9 u' :: blk gx 43 (pcC q' c' m 5 q2' md c2' lim ts'.ct ts'.ag ql' s'.t.toL.length cl' s'.most) :: []) := (Own.sub (h) (by repeat (first | with_reducible exact Sub.nil _ | with_reducible exact Sub.rfl _ | (apply Sub.cons; focus ((repeat (first | with_reducible exact Pick.here | apply Pick.there)); done)) | apply Sub.drop)))
      refine Rets.mono (dcUsed h) ?_
      clear h
      rintro _ w ⟨rfl, h⟩
      have h : Own W w (imm h2 :: tinT gt m md 5 lim ts' :: ldB gl gtr' s'.used s'.most :: dicO gd D 9 u' :: dlO q2' md c2' ts'.ws :: rdO gy q D.length c 9 u' :: blk gx 43 (pcC q' c' m 5 q2' md c2' lim ts'.ct ts'.ag ql' s'.t.toL.length cl' s'.most) :: []) := (Own.sub (h) (by repeat (first | with_reducible exact Sub.nil _ | with_reducible exact Sub.rfl _ | (apply Sub.cons; focus ((repeat (first | with_reducible exact Pick.here | apply Pick.there)); done)) | apply Sub.drop)))
      refine ⟨_, rfl, ⟨_, (Own.sub (h) (by repeat (first | with_reducible exact Sub.nil _ | with_reducible exact Sub.rfl _ | (apply Sub.cons; focus ((repeat (first | with_reducible exact Pick.here | apply Pick.there)); done)) | apply Sub.drop)))⟩, fun _ => ⟨by omega, by omega, smR (smR ⟨by omega, by omega, smR ⟨_, fun w ⟨F', h⟩ => (by rw [← addr_add_add]; exact (rd le3 h).2.1), _, _, _, _, _, _, _, _, _, _, _, _, _, _, ⟨fun w h => h.elim fun F' h => Own.ld (g := gx) (k := 0) h (by repeat (first | with_reducible exact Pick.here | apply Pick.there)) rfl, fun w h => h.elim fun F' h => Own.ld (g := gx) (k := 1) h (by repeat (first | with_reducible exact Pick.here | apply Pick.there)) rfl, fun w h => h.elim fun F' h => Own.ld (g := gx) (k := 2) h (by repeat (first | with_reducible exact Pick.here | apply Pick.there)) rfl, fun w h => h.elim fun F' h => Own.ld (g := gx) (k := 3) h (by repeat (first | with_reducible exact Pick.here | apply Pick.there)) rfl, fun w h => h.elim fun F' h => Own.ld (g := gx) (k := 4) h (by repeat (first | with_reducible exact Pick.here | apply Pick.there)) rfl, fun w h => h.elim fun F' h => Own.ld (g := gx) (k := 5) h (by repeat (first | with_reducible exact Pick.here | apply Pick.there)) rfl, fun w h => h.elim fun F' h => Own.ld (g := gx) (k := 6) h (by repeat (first | with_reducible exact Pick.here | apply Pick.there)) rfl, fun w h => h.elim fun F' h => Own.ld (g := gx) (k := 7) h (by repeat (first | with_reducible exact Pick.here | apply Pick.there)) rfl, fun w h => h.elim fun F' h => Own.ld (g := gx) (k := 8) h (by repeat (first | with_reducible exact Pick.here | apply Pick.there)) rfl, fun w h => h.elim fun F' h => Own.ld (g := gx) (k := 9) h (by repeat (first | with_reducible exact Pick.here | apply Pick.there)) rfl⟩, _, fun w ⟨F', h⟩ => (by rw [← addr_add_add]; exact (rd le3 h).2.1), ?_⟩⟩)⟩, fun hc => (by simp at hc)⟩
      refine Rets.mono (pEst (k := p.2.1) (rd1 le3) (rd2 le3) hp2 h) ?_
      clear h
      rintro _ w ⟨rfl, h⟩
      refine ⟨_, rfl, ⟨_, (Own.sub (h) (by repeat (first | with_reducible exact Sub.nil _ | with_reducible exact Sub.rfl _ | (apply Sub.cons; focus ((repeat (first | with_reducible exact Pick.here | apply Pick.there)); done)) | apply Sub.drop)))⟩, ?_⟩
      refine Rets.mono (trEst (hh := p.2.1) hm9 hmd h5 okt2 hS2 (fun w h => Own.rdP (T := 4) (q := q2') h (by repeat (first | with_reducible exact Pick.here | apply Pick.there))) h) ?_
      clear h
      rintro _ w ⟨rfl, h⟩
      have h : Own W w (imm h2 :: ldB gl gtr' s'.used s'.most :: tinT gt m md 5 lim ts' :: dicO gd D 9 u' :: dlO q2' md c2' ts'.ws :: rdO gy q D.length c 9 u' :: blk gx 43 (pcC q' c' m 5 q2' md c2' lim ts'.ct ts'.ag ql' s'.t.toL.length cl' s'.most) :: []) := (Own.sub (h) (by repeat (first | with_reducible exact Sub.nil _ | with_reducible exact Sub.rfl _ | (apply Sub.cons; focus ((repeat (first | with_reducible exact Pick.here | apply Pick.there)); done)) | apply Sub.drop)))
      refine ⟨_, rfl, s9 h, fun _ => smR ⟨_, _, _, _, ⟨fun w h => h.elim fun F' h => Own.ld (g := gx) (k := 10) h (by repeat (first | with_reducible exact Pick.here | apply Pick.there)) rfl, fun w h => h.elim fun F' h => Own.ld (g := gx) (k := 11) h (by repeat (first | with_reducible exact Pick.here | apply Pick.there)) rfl⟩, ?_⟩, fun hc => (by simp [esT] at hc)⟩
      refine Rets.mono (ldUsed h) ?_
      clear h
      rintro _ w ⟨rfl, h⟩
      refine ⟨_, rfl, s9 h, ?_⟩
      refine Rets.mono (rUsed (L := s'.t.toL) (m := s'.most) (c := cl') ok2.2.2.1 (by have := ok2.2.1; have := ok2.2.2.2.1; have := ok2.2.2.2.2; omega) (by omega) I2 h) ?_
      clear h
      rintro _ w ⟨rfl, h⟩
      have eu : s'.used = sumV s'.t.toL := ok2.2.1.symm
      refine ⟨_, rfl, s9 h, fun _ => smR ⟨_, fun w h => h.elim fun F' h => Own.ld (g := gx) (k := 11) h (by repeat (first | with_reducible exact Pick.here | apply Pick.there)) rfl, ?_⟩, fun hc => (by rw [eu] at hc; simp at hc)⟩
      refine Rets.mono (ldMost h) ?_
      clear h
      rintro _ w ⟨rfl, h⟩
      refine ⟨_, rfl, s9 h, fun _ => smR ⟨_, _, _, fun w h => h.elim fun F' h => Own.ld (g := gx) (k := 10) h (by repeat (first | with_reducible exact Pick.here | apply Pick.there)) rfl, ?_⟩, fun hc => (by simp at hc)⟩
      refine Rets.mono (ldLen T2 h) ?_
      clear h
      rintro _ w ⟨rfl, h⟩
      refine ⟨_, rfl, s9 h, ?_, h⟩
      rw [hl2]
      simp
    clear h
    rintro w
    intros
    rename_i bz hI4
    obtain ⟨hvs, h⟩ := hI4
    obtain rfl : bz = false := by simpa using hvs
    refine ⟨fun hb => (by cases hb), fun _ => ⟨fun z vs w => ∃ j : Nat, vs = [.int .i64 (j : Int)] ∧ z + j = s'.t.toL.length ∧ Own W w (imm h2 :: ldB gl gtr' s'.used s'.most :: tinT gt m md 5 lim ts' :: dicO gd D 9 u' :: dlO q2' md c2' ts'.ws :: rdO gy q D.length c 9 u' :: blk gx 43 (pcC q' c' m 5 q2' md c2' lim ts'.ct ts'.ag ql' s'.t.toL.length cl' s'.most) :: []), ⟨s'.t.toL.length, 0, rfl, rfl, h⟩, ?_⟩⟩
    clear h
    rintro z2 w v13 n5
    intros
    rename_i hI5
    obtain ⟨j, hvs, hz2, h⟩ := hI5
    obtain rfl : n5 = (j : Int) := by simpa using hvs
    refine smR ⟨_, _, _, Own.ld (g := gx) (k := 10) h (by repeat (first | with_reducible exact Pick.here | apply Pick.there)) rfl, fun hc3 => smR ⟨_, _, _, Own.ld (g := gx) (k := 10) h (by repeat (first | with_reducible exact Pick.here | apply Pick.there)) rfl, by omega, dec_t hc3, ?_⟩, fun hc3 => ?_⟩
    · have hc3 := dec_t hc3
      have hj : j < s'.t.toL.length := by omega
      obtain ⟨ag, eqg, rdg⟩ := I2.adr24 hj h
      have hme := lfind_ofY (keysP_nodup ok2.1) (List.getElem_mem hj)
      have hlv : lval s'.t.toL[j].1 s'.t.toL = s'.t.toL[j].2 := by unfold lval; rw [hme]; rfl
      subst eqg
      refine smR ⟨_, (rdg _ _ _ h).1, ?_⟩
      refine Rets.mono (ldCost (k := s'.t.toL[j].1) T2 (by omega) ok2.1 h) ?_
      clear h
      rintro _ w ⟨rfl, h⟩
      rw [hlv, hme]
      refine ⟨_, _, rfl, fun vs w => vs = [.bool false] ∧ Own W w (imm h2 :: ldB gl gtr' s'.used s'.most :: tinT gt m md 5 lim ts' :: dicO gd D 9 u' :: dlO q2' md c2' ts'.ws :: rdO gy q D.length c 9 u' :: blk gx 43 (pcC q' c' m 5 q2' md c2' lim ts'.ct ts'.ag (some ag) s'.t.toL.length cl' s'.most) :: []), ⟨fun _ => smR ⟨_, _, _, Own.ld (g := gx) (k := 10) h (by repeat (first | with_reducible exact Pick.here | apply Pick.there)) rfl, by omega, by omega, ?_⟩, fun hc => (by cases hc)⟩, ?_⟩
      · exact smR ⟨_, (by rw [← addr_add_add]; exact (rdg _ _ _ h).2), by simp, h⟩
      clear h
      rintro w
      intros
      rename_i b9 hI6
      obtain ⟨hvs, h⟩ := hI6
      obtain rfl : b9 = false := by simpa using hvs
      exact ⟨fun hb => (by cases hb), fun _ => ⟨z2 - 1, by omega, j + 1, by rw [wI64 (by omega) (by omega)]; rfl, by omega, h⟩⟩
    · exact ⟨z - 1, by omega, i + 1, s', ts', h2, gtr', u', q', c', q2', c2', ql', cl', rfl, by omega, ok2, by omega, by omega, le3, hp2, T2, hS2, okt2, I2, hc2, h⟩
  · refine ⟨fun vs w => vs = [.bool true] ∧ ∃ F, Own W w (imm hW :: F), ?_, ?_⟩
    · refine Rets.mono (pTiny hp h) ?_
      clear h
      rintro _ w ⟨rfl, h⟩
      refine ⟨_, rfl, fun _ => ?_, fun hc => (by cases hc)⟩
      refine Rets.mono (aw le1 h) ?_
      rintro _ w ⟨b, rfl, hb, F, h⟩
      exact ⟨_, rfl, by rw [hb], F, h⟩
    clear h
    rintro w b11
    intros
    rename_i hI7
    obtain ⟨hvs, F, h⟩ := hI7
    obtain rfl : b11 = true := by simpa using hvs
    exact ⟨rfl, F, h⟩
end
end Go.Proofs.YtggflkjdgcdcmaaGreatDoor.Eng
