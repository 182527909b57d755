/- Rings: no ring; what is told and drained; the document's answer. -/
import Derived.Test.YtfcddffcjmgpkaaRingP
import Derived.Test.YtfcddffcjmgpkaaRingLG
import Derived.Test.YtfcddffcjmgpkaaEngA
namespace Go.Proofs.Ytfcddffcjmgpkaa.Eng
open Go Go.RowKit Go.Proofs
set_option linter.unusedVariables false
set_option linter.unusedSimpArgs false
set_option maxRecDepth 1000000
/-! ### Things that are only read -/
def roO (E : TypeId) (q : Option Addr) (c : Nat) (xs : List Value) : HP := fun h => xs.length ≤ c ∧ (xs = [] ∨ ∃ g pre post, q = some ⟨g, List.length pre, none⟩ ∧ blk g E (pre ++ xs ++ post) h)
section
variable {e w : World} {F : List HP} {E : TypeId} {q : Option Addr} {n c : Nat} {xs : List Value}
theorem Own.toRo (h : Own e w (slO E 1 q n c xs :: F)) : Own e w (roO E q c xs :: F) := by
  have hf := h.slFacts
  refine h.mono fun k hk => ⟨by omega, ?_⟩
  obtain ⟨_, h1⟩ := hk
  rcases h1 with ⟨_, h0⟩ | ⟨g, rest, rfl, hb, _⟩
  · left; exact List.eq_nil_of_length_eq_zero (by omega)
  · exact .inr ⟨g, [], rest, rfl, by simpa using hb⟩
theorem Own.roLe (h : Own e w (roO E q c xs :: F)) : xs.length ≤ c := by
  obtain ⟨he, k, hk, h1, h2, ha, rfl, hA, hF⟩ := h
  exact hA.1
theorem Own.roRd (h : Own e w (roO E q c xs :: F)) : RdC w q xs := by
  obtain ⟨he, k, hk, h1, h2, ha, rfl, ⟨_, hA⟩, hF⟩ := h
  rcases hA with h | ⟨g, pre, post, rfl, hb⟩
  · exact .inl h
  · refine .inr ⟨_, rfl, fun j u hj => ?_⟩
    have hg := hk g _ (joinH_left hb)
    rw [add_add]
    have hlt := (List.getElem?_eq_some_iff.1 hj).1
    simp only [World.cell?, hg]
    have : ((pre ++ xs ++ post).toArray)[pre.length + j]? = some u := by
      rw [List.getElem?_toArray, List.getElem?_append_left (by simp; omega), List.getElem?_append_right (by omega)]
      simpa using hj
    simpa using this
theorem Own.roDrop {k : Nat} (hk : k ≤ xs.length) (h : Own e w (roO E q c xs :: F)) : Own e w (roO E (slcA q k c 1) (c - k) (xs.drop k) :: F) := by
  have hc := h.roLe
  refine h.mono fun hh hA => ⟨by rw [List.length_drop]; omega, ?_⟩
  obtain ⟨_, hA⟩ := hA
  rcases hA with h | ⟨g, pre, post, rfl, hb⟩
  · left; rw [h]; simp
  · by_cases h0 : c = k
    · left; rw [List.drop_eq_nil_iff]; omega
    · right
      refine ⟨g, pre ++ xs.take k, post, ?_, ?_⟩
      · unfold slcA
        rw [if_neg h0, Nat.mul_one, Option.map_some, add_add]
        simp [Nat.min_eq_left hk]
      · rw [List.append_assoc pre, List.take_append_drop]; exact hb
end
theorem RdC.pre {w : World} {q : Option Addr} {us vs : List Value} (h : RdC w q (us ++ vs)) : RdC w q us := by
  have := h.take us.length
  rwa [List.take_left' rfl] at this
section
variable {e w : World} {F : List HP} {g : Nat} {xs : List Int} {room : Nat} {q q2 : Option Addr} {n c m c2 : Nat}
theorem rgNLen (h : Own e w F) : Rets Try.prog 72 #[.pointer none] w fun v w' => v = .int .i64 0 ∧ Own e w' F := ring_nil_int_Len_go ⟨fun _ => ⟨rfl, h⟩, fun hc => (by cases hc)⟩
theorem rgNRoom (h : Own e w F) : Rets Try.prog 73 #[.pointer none] w fun v w' => v = .int .i64 0 ∧ Own e w' F := ring_nil_int_Room_go ⟨fun _ => ⟨rfl, h⟩, fun hc => (by cases hc)⟩
theorem rgNTake (h : Own e w F) : Rets Try.prog 67 #[.pointer none] w fun v w' => v = .tuple #[.int .i64 0, .bool false] ∧ Own e w' F := ring_nil_int_Take_go ⟨fun hc => (by cases hc), fun _ => ⟨rfl, h⟩⟩
theorem rgNClone (h : Own e w F) : Rets Try.prog 76 #[.pointer none] w fun v w' => v = .pointer none ∧ Own e w' F := ring_nil_int_Clone_go ⟨fun _ => ⟨rfl, h⟩, fun hc => (by cases hc)⟩
theorem rgNSend {x : Int} (h : Own e w F) : Rets Try.prog 65 #[.pointer none, .int .i64 x] w fun v w' => v = .bool false ∧ Own e w' F := ring_nil_int_Send_go _ (h.drw fun w h => ⟨fun hc => (by cases hc), fun _ => ⟨rfl, h⟩⟩)
theorem rgNAt {i : Int} (h : Own e w F) : Rets Try.prog 69 #[.pointer none, .int .i64 i] w fun v w' => v = .tuple #[.int .i64 0, .bool false] ∧ Own e w' F := ring_nil_int_At_go _ ⟨fun hc => (by cases hc), fun _ => ⟨rfl, h⟩⟩
theorem rgAwake (h : Own e w F) : Rets Try.prog 19 #[] w fun v w' => v = .bool true ∧ Own e w' F := by
  refine cortadolaw07_awake_go ?_
  refine Rets.mono (rgNew_int h) ?_
  rintro _ w ⟨g, rfl, h⟩
  have h : Own e w (ring_int g [] 2 :: F) := h
  refine ⟨_, rfl, ?_⟩
  refine Rets.mono (rgSend_int (x := 1) h (by omega)) ?_
  rintro _ w ⟨rfl, h⟩
  have h : Own e w (ring_int g [1] 2 :: F) := h
  refine ⟨_, rfl, ?_⟩
  refine Rets.mono (rgSend_int (x := 2) h (by omega)) ?_
  rintro _ w ⟨rfl, h⟩
  have h : Own e w (ring_int g [1, 2] 2 :: F) := h
  refine ⟨_, rfl, ?_⟩
  refine Rets.mono (rgSend_int (x := 3) h (by omega)) ?_
  rintro _ w ⟨rfl, h⟩
  have h : Own e w (ring_int g [1, 2] 2 :: F) := h
  refine ⟨_, rfl, ?_⟩
  refine Rets.mono (rgTake_int h) ?_
  rintro _ w ⟨rfl, h⟩
  refine ⟨_, _, rfl, fun _ => ⟨fun _ => ⟨fun _ => ⟨fun _ => ⟨rfl, h.drop⟩, fun hc => (by simp at hc)⟩, fun hc => (by simp at hc)⟩, fun hc => (by simp at hc)⟩, fun hc => (by simp at hc)⟩
/-! ### Told, and drained -/
theorem told_spec {most : Int} (h : Own e w (ring_int g xs room :: F)) (hr : room ≤ 65536) (hm : (xs.length : Int) ≤ most) (hb : most ≤ 1000) : Rets Try.prog 75 #[.pointer (some ⟨g, 0, none⟩), .int .i64 most] w fun v w' => ∃ q' c', v = .slice q' xs.length c' ∧ Own e w' (sl_int q' xs.length c' xs :: ring_int g xs room :: F) := by
  refine cortadolaw07_told_go _ _ ?_
  refine h.newR fun g1 w h => h.newR fun g2 w h => ?_
  refine Rets.mono (rgAll_int h) ?_
  rintro _ w ⟨b, rfl, h⟩
  refine ⟨_, _, _, rfl, fun hc => (by cases hc), fun _ => ⟨_, rfl, h.loopR fun mk lp L w h hround => ?_⟩⟩
  let Got : List Int → HP := fun l => exH fun q' => exH fun c' => allH [blk g2 22 [.slice q' l.length c'], sl_int q' l.length c' l]
  have gotOp : ∀ {w} {l : List Int} {R : List HP}, Own e w (Got l :: R) → ∃ q' c', Own e w (blk g2 22 [.slice q' l.length c'] :: sl_int q' l.length c' l :: R) := fun h => by
    obtain ⟨q', h⟩ := h.ex
    obtain ⟨c', h⟩ := h.ex
    exact ⟨q', c', h.open_⟩
  have gotCl : ∀ {w} {l : List Int} {R : List HP} {q' c'}, Own e w (blk g2 22 [.slice q' l.length c'] :: sl_int q' l.length c' l :: R) → Own e w (Got l :: R) := fun {w} {l} {R} {q'} {c'} h => by
    have h : Own e w ([blk g2 22 [.slice q' l.length c'], sl_int q' l.length c' l] ++ R) := h
    exact Own.mkEx q' (Own.mkEx c' h.close_)
  let Fr : Nat → List HP := fun i => Got (xs.take i) :: pt lp (LoopObj L .ready none) :: pt mk (.deferred (some [])) :: blk g1 3 [.int .i64 most] :: F
  have h := Own.slNil (T := 3) (s := 1) h
  have h : Own e w (blk g2 22 [.slice none 0 0] :: slO 3 1 none 0 0 [] :: _) := (Own.pk2 h (by repeat (first | with_reducible exact Pick.here | apply Pick.there)) (by repeat (first | with_reducible exact Pick.here | apply Pick.there)))
  have h : Own e w (Got (xs.take 0) :: _) := gotCl (l := []) h
  refine Rets.mono (rgAll1_int (xs := xs) (Fr := Fr) (Fin := fun _ => False) hr (fun R i w hi h => ?_) (Own.sub (h) (by repeat (first | exact Sub.nil _ | exact Sub.rfl _ | (apply Sub.cons; focus ((repeat (first | with_reducible exact Pick.here | apply Pick.there)); done)) | apply Sub.drop)))) ?_
  · refine hround _ _ w _ (Own.recR (l := lp) (L := L) (Own.pk h (by repeat (first | with_reducible exact Pick.here | apply Pick.there)))) ?_
    refine Own.begR (l := lp) (L := L) (Own.pk h (by repeat (first | with_reducible exact Pick.here | apply Pick.there))) fun w h => ?_
    have h : Own e w (Got (xs.take i) :: _) := (Own.pk h (by repeat (first | with_reducible exact Pick.here | apply Pick.there)))
    obtain ⟨q', c', h⟩ := gotOp h
    have hti : (xs.take i).length = i := by simp; omega
    refine ⟨_, _, _, (Own.ld' h (by repeat (first | with_reducible exact Pick.here | apply Pick.there)) (by rfl)), _, (Own.ld' h (by repeat (first | with_reducible exact Pick.here | apply Pick.there)) (by rfl)), fun _ => ?_, fun hx => absurd (dec_t hx) (by omega)⟩
    refine ⟨_, _, _, (Own.ld' h (by repeat (first | with_reducible exact Pick.here | apply Pick.there)) (by rfl)), fun hx => absurd (by rw [hti]) (bool_ne hx), fun _ => ?_⟩
    refine ⟨_, _, _, (Own.ld' h (by repeat (first | with_reducible exact Pick.here | apply Pick.there)) (by rfl)), h.newR fun g3 w h => ?_⟩
    have h : Own e w (blk g3 3 [.int .i64 xs[i]] :: sl_int q' (xs.take i).length c' (xs.take i) :: _) := (Own.pk2 h (by repeat (first | with_reducible exact Pick.here | apply Pick.there)) (by repeat (first | with_reducible exact Pick.here | apply Pick.there)))
    refine put_int h (by omega) fun q'' c'' w h => ⟨_, _, _, rfl, Own.stP' h (by repeat (first | with_reducible exact Pick.here | apply Pick.there)) (by simp) (by simp [Value.oneCell']) fun w h => ?_⟩
    simp only [setFrom, List.set_cons_zero, List.set_cons_succ, List.set_nil] at h
    refine Own.finT (l := lp) (L := L) (Own.pk h (by repeat (first | with_reducible exact Pick.here | apply Pick.there))) fun w h => .inl ⟨rfl, ?_⟩
    have e1 : xs.take (i + 1) = xs.take i ++ [xs[i]] := List.take_succ_eq_append_getElem hi
    have e2 : (xs.take i).length + 1 = (xs.take (i + 1)).length := by rw [e1, List.length_append]; rfl
    rw [e2, ← e1] at h
    have h := gotCl (l := xs.take (i + 1)) (Own.pk2 h (by repeat (first | with_reducible exact Pick.here | apply Pick.there)) (by repeat (first | with_reducible exact Pick.here | apply Pick.there)))
    exact (Own.sub (h) (by repeat (first | exact Sub.nil _ | exact Sub.rfl _ | (apply Sub.cons; focus ((repeat (first | with_reducible exact Pick.here | apply Pick.there)); done)) | apply Sub.drop)))
  · rintro v w (h | h)
    · left
      refine Own.endR (l := lp) (L := L) (Own.pk h (by repeat (first | with_reducible exact Pick.here | apply Pick.there))) (by simp) fun w h => ?_
      have h : Own e w (Got (xs.take xs.length) :: _) := (Own.pk h (by repeat (first | with_reducible exact Pick.here | apply Pick.there)))
      rw [List.take_length] at h
      obtain ⟨q', c', h⟩ := gotOp h
      exact ⟨_, _, _, (Own.ld' h (by repeat (first | with_reducible exact Pick.here | apply Pick.there)) (by rfl)), Own.markR (g := mk) (Own.pk h (by repeat (first | with_reducible exact Pick.here | apply Pick.there))) fun w h => ⟨_, _, rfl, (Own.sub (h) (by repeat (first | exact Sub.nil _ | exact Sub.rfl _ | (apply Sub.cons; focus ((repeat (first | with_reducible exact Pick.here | apply Pick.there)); done)) | apply Sub.drop)))⟩⟩
    · exact h.elim
theorem toldN_spec {most : Int} (h : Own e w F) : Rets Try.prog 75 #[.pointer none, .int .i64 most] w fun v w' => v = .slice none 0 0 ∧ Own e w' F := by
  refine cortadolaw07_told_go _ _ ?_
  refine h.newR fun g1 w h => h.newR fun g2 w h => ?_
  refine Rets.mono (rgAll_int h) ?_
  rintro _ w ⟨b, rfl, h⟩
  refine ⟨_, _, _, rfl, fun hc => (by cases hc), fun _ => ⟨_, rfl, h.loopR fun mk lp L w h hround => ?_⟩⟩
  refine ring_Ring_int_All_1_go _ _ ?_
  refine ⟨_, (Own.ld' h (by repeat (first | with_reducible exact Pick.here | apply Pick.there)) (by rfl)), ?_⟩
  refine Rets.mono (rgNClone h) ?_
  rintro _ w ⟨rfl, h⟩
  refine ⟨_, rfl, ?_⟩
  refine Rets.mono (rgNLen h) ?_
  rintro _ w ⟨rfl, h⟩
  refine ⟨_, rfl, fun m vs w' => vs = [.int .i64 0] ∧ w' = w, ⟨0, rfl, rfl⟩, ?_⟩
  rintro m w1 v1 v2 v3 n2
  intros
  rename_i hI
  obtain ⟨hvs, rfl⟩ := hI
  obtain rfl : n2 = 0 := by simpa using hvs
  refine ⟨fun hc => (by cases hc), fun _ => .inl ?_⟩
  refine Own.endR (l := lp) (L := L) (Own.pk h (by repeat (first | with_reducible exact Pick.here | apply Pick.there))) (by simp) fun w h => ?_
  exact ⟨_, _, _, (Own.ld' h (by repeat (first | with_reducible exact Pick.here | apply Pick.there)) (by rfl)), Own.markR (g := mk) (Own.pk h (by repeat (first | with_reducible exact Pick.here | apply Pick.there))) fun w h => ⟨rfl, (Own.sub (h) (by repeat (first | exact Sub.nil _ | exact Sub.rfl _ | (apply Sub.cons; focus ((repeat (first | with_reducible exact Pick.here | apply Pick.there)); done)) | apply Sub.drop)))⟩⟩
theorem rgDrain_int {q : Option Addr} (h : Own e w F) : Rets Try.prog 113 #[.pointer q] w fun v w' => ∃ b, v = .func (.func 127) #[] #[.pointer (some ⟨b, 0, none⟩)] ∧ Own e w' (blk b 82 [.pointer q] :: F) :=
  ring_Ring_int_Drain_go _ (h.newR fun b w h => ⟨b, rfl, h⟩)
theorem drained_spec {most : Int} (h : Own e w (ring_int g xs room :: F)) (hl : xs.length ≤ 1000) : Rets Try.prog 71 #[.pointer (some ⟨g, 0, none⟩), .int .i64 most] w fun v w' => ∃ (n : Nat) (q' : Option Addr) (c' : Nat), (n : Int) = maxI 0 (minI most (xs.length : Nat)) ∧ v = .slice q' (xs.take n).length c' ∧ Own e w' (sl_int q' (xs.take n).length c' (xs.take n) :: ring_int g (xs.drop n) room :: F) := by
  refine cortadolaw07_drained_go _ _ ?_
  refine h.newR fun g1 w h => h.newR fun g2 w h => ?_
  refine Rets.mono (rgDrain_int h) ?_
  rintro _ w ⟨b, rfl, h⟩
  refine ⟨_, _, _, rfl, _, (Own.ld' h (by repeat (first | with_reducible exact Pick.here | apply Pick.there)) (by rfl)), fun hm => ⟨fun hc => (by cases hc), fun _ => ?_⟩, fun hm => ?_⟩
  rotate_left
  · have hm := dec_t hm
    have h := Own.slNil (T := 3) (s := 1) h
    refine ⟨_, _, _, (Own.ld' h (by repeat (first | with_reducible exact Pick.here | apply Pick.there)) (by rfl)), 0, none, 0, ?_, rfl, (show Own e w (slO 3 1 none 0 0 [] :: ring_int g xs room :: F) from (Own.sub (h) (by repeat (first | exact Sub.nil _ | exact Sub.rfl _ | (apply Sub.cons; focus ((repeat (first | with_reducible exact Pick.here | apply Pick.there)); done)) | apply Sub.drop))))⟩
    unfold maxI minI; split <;> split <;> omega
  have hm := dec_f hm
  refine ⟨_, rfl, h.loopR fun mk lp L w h hround => ?_⟩
  let Got : List Int → HP := fun l => exH fun q' => exH fun c' => allH [blk g2 22 [.slice q' l.length c'], sl_int q' l.length c' l]
  have gotOp : ∀ {w} {l : List Int} {R : List HP}, Own e w (Got l :: R) → ∃ q' c', Own e w (blk g2 22 [.slice q' l.length c'] :: sl_int q' l.length c' l :: R) := fun h => by
    obtain ⟨q', h⟩ := h.ex
    obtain ⟨c', h⟩ := h.ex
    exact ⟨q', c', h.open_⟩
  have gotCl : ∀ {w} {l : List Int} {R : List HP} {q' c'}, Own e w (blk g2 22 [.slice q' l.length c'] :: sl_int q' l.length c' l :: R) → Own e w (Got l :: R) := fun {w} {l} {R} {q'} {c'} h => by
    have h : Own e w ([blk g2 22 [.slice q' l.length c'], sl_int q' l.length c' l] ++ R) := h
    exact Own.mkEx q' (Own.mkEx c' h.close_)
  have h := Own.slNil (T := 3) (s := 1) h
  have h : Own e w (blk g2 22 [.slice none 0 0] :: slO 3 1 none 0 0 [] :: _) := (Own.pk2 h (by repeat (first | with_reducible exact Pick.here | apply Pick.there)) (by repeat (first | with_reducible exact Pick.here | apply Pick.there)))
  have h : Own e w (Got (xs.take 0) :: _) := gotCl (l := []) h
  let Base : Nat → LoopState → Option Code → List HP := fun i s p => Got (xs.take i) :: ring_int g (xs.drop i) room :: pt lp (LoopObj L s p) :: blk b 82 [.pointer (some ⟨g, 0, none⟩)] :: pt mk (.deferred (some [])) :: blk g1 3 [.int .i64 most] :: F
  have h : Own e w (ring_int g xs room :: _) := (Own.pk h (by repeat (first | with_reducible exact Pick.here | apply Pick.there)))
  have h : Own e w (ring_int g (xs.drop 0) room :: _) := h
  have h : Own e w (Base 0 .ready none) := (Own.sub (h) (by repeat (first | exact Sub.nil _ | exact Sub.rfl _ | (apply Sub.cons; focus ((repeat (first | with_reducible exact Pick.here | apply Pick.there)); done)) | apply Sub.drop)))
  have fin : ∀ (i : Nat) w, i ≤ xs.length → (i : Int) = maxI 0 (minI most (xs.length : Nat)) → ∀ s p, s ≠ .busy → Own e w (Base i s p) → EndR lp L p w fun w16 => ∃ q6 k13 k14, cellAt w16 ⟨g2, 0, none⟩ (.slice q6 k13 k14) ∧ MarkR mk w16 fun w17 => ∃ (n : Nat) (q' : Option Addr) (c' : Nat), (n : Int) = maxI 0 (minI most (xs.length : Nat)) ∧ Value.slice q6 k13 k14 = .slice q' (xs.take n).length c' ∧ Own e w17 (sl_int q' (xs.take n).length c' (xs.take n) :: ring_int g (xs.drop n) room :: F) := by
    intro i w hi he s p hs h
    refine Own.endR (l := lp) (L := L) (Own.pk h (by repeat (first | with_reducible exact Pick.here | apply Pick.there))) hs fun w h => ?_
    have h : Own e w (Got (xs.take i) :: _) := (Own.pk h (by repeat (first | with_reducible exact Pick.here | apply Pick.there)))
    obtain ⟨q', c', h⟩ := gotOp h
    exact ⟨_, _, _, (Own.ld' h (by repeat (first | with_reducible exact Pick.here | apply Pick.there)) (by rfl)), Own.markR (g := mk) (Own.pk h (by repeat (first | with_reducible exact Pick.here | apply Pick.there))) fun w h => ⟨i, q', c', he, rfl, (Own.sub (h) (by repeat (first | exact Sub.nil _ | exact Sub.rfl _ | (apply Sub.cons; focus ((repeat (first | with_reducible exact Pick.here | apply Pick.there)); done)) | apply Sub.drop)))⟩⟩
  refine Rets.mono (k := fun _ w' => (∃ i, i ≤ xs.length ∧ (i : Int) = maxI 0 (minI most (xs.length : Nat)) ∧ Own e w' (Base i .ready none)) ∨ (∃ i, i ≤ xs.length ∧ (i : Int) = maxI 0 (minI most (xs.length : Nat)) ∧ Own e w' (Base i .done (some (Code.exit 0))))) ?_ ?_
  rotate_left
  · rintro v w (⟨i, hi, he, h⟩ | ⟨i, hi, he, h⟩)
    · exact .inl (fin i w hi he _ _ (by simp) h)
    · exact .inr (fin i w hi he _ _ (by simp) h)
  refine ring_Ring_int_Drain_1_go _ _ ⟨fun m vs w => ∃ i : Nat, m + i = xs.length ∧ ((i : Int) < most) ∧ Own e w (Base i .ready none), ⟨xs.length, 0, by omega, by omega, h⟩, ?_⟩
  rintro m w
  intros
  rename_i hI
  obtain ⟨i, hmi, him, h⟩ := hI
  refine ⟨_, (Own.ld' h (by repeat (first | with_reducible exact Pick.here | apply Pick.there)) (by rfl)), ?_⟩
  refine Rets.mono (rgTake_int (xs := xs.drop i) (Own.pk h (by repeat (first | with_reducible exact Pick.here | apply Pick.there)))) ?_
  rintro _ w ⟨rfl, h⟩
  rw [List.tail_drop] at h
  refine ⟨_, _, rfl, fun hx => ?_, fun hx => ?_⟩
  · have hx : i < xs.length := by
      have : 0 < xs.length - i := by simpa using hx
      omega
    have e0 : (xs.drop i).head?.getD 0 = xs[i] := by rw [List.head?_drop, List.getElem?_eq_getElem hx]; rfl
    rw [e0]
    refine RoundR.mono (k := fun v w' => (v = .bool true ∧ ((i + 1 : Nat) : Int) < most ∧ Own e w' (Base (i + 1) .ready none)) ∨ (v = .bool false ∧ ((i + 1 : Nat) : Int) = most ∧ Own e w' (Base (i + 1) .done (some (Code.exit 0))))) ?_ ?_
    · refine hround _ w _ (Own.recR (l := lp) (L := L) (Own.pk h (by repeat (first | with_reducible exact Pick.here | apply Pick.there)))) ?_
      refine Own.begR (l := lp) (L := L) (Own.pk h (by repeat (first | with_reducible exact Pick.here | apply Pick.there))) fun w h => ?_
      have h : Own e w (Got (xs.take i) :: _) := (Own.pk h (by repeat (first | with_reducible exact Pick.here | apply Pick.there)))
      obtain ⟨q', c', h⟩ := gotOp h
      have hti : (xs.take i).length = i := by simp; omega
      refine ⟨_, _, _, (Own.ld' h (by repeat (first | with_reducible exact Pick.here | apply Pick.there)) (by rfl)), h.newR fun g3 w h => ?_⟩
      have h : Own e w (blk g3 3 [.int .i64 xs[i]] :: sl_int q' (xs.take i).length c' (xs.take i) :: _) := (Own.pk2 h (by repeat (first | with_reducible exact Pick.here | apply Pick.there)) (by repeat (first | with_reducible exact Pick.here | apply Pick.there)))
      refine put_int h (by omega) fun q'' c'' w h => ⟨_, _, _, rfl, Own.stP' h (by repeat (first | with_reducible exact Pick.here | apply Pick.there)) (by simp) (by simp [Value.oneCell']) fun w h => ?_⟩
      simp only [setFrom, List.set_cons_zero, List.set_cons_succ, List.set_nil] at h
      refine ⟨_, _, _, (Own.ld' h (by repeat (first | with_reducible exact Pick.here | apply Pick.there)) (by rfl)), _, (Own.ld' h (by repeat (first | with_reducible exact Pick.here | apply Pick.there)) (by rfl)), ?_⟩
      have e1 : xs.take (i + 1) = xs.take i ++ [xs[i]] := List.take_succ_eq_append_getElem hx
      have e2 : (xs.take i).length + 1 = (xs.take (i + 1)).length := by rw [e1, List.length_append]; rfl
      rw [hti]
      have el : (xs.take (i + 1)).length = i + 1 := by simp; omega
      rw [e2, ← e1] at h
      have h := gotCl (l := xs.take (i + 1)) (Own.pk2 h (by repeat (first | with_reducible exact Pick.here | apply Pick.there)) (by repeat (first | with_reducible exact Pick.here | apply Pick.there)))
      refine ⟨fun hy => ?_, fun hy => ?_⟩
      · have hy := dec_t hy
        exact Own.finF (l := lp) (L := L) (Own.pk h (by repeat (first | with_reducible exact Pick.here | apply Pick.there))) fun w h => .inr ⟨rfl, by omega, (Own.sub (h) (by repeat (first | exact Sub.nil _ | exact Sub.rfl _ | (apply Sub.cons; focus ((repeat (first | with_reducible exact Pick.here | apply Pick.there)); done)) | apply Sub.drop)))⟩
      · have hy := dec_f hy
        exact Own.finT (l := lp) (L := L) (Own.pk h (by repeat (first | with_reducible exact Pick.here | apply Pick.there))) fun w h => .inl ⟨rfl, by omega, (Own.sub (h) (by repeat (first | exact Sub.nil _ | exact Sub.rfl _ | (apply Sub.cons; focus ((repeat (first | with_reducible exact Pick.here | apply Pick.there)); done)) | apply Sub.drop)))⟩
    · rintro v w (⟨rfl, hlt, h⟩ | ⟨rfl, hlt, h⟩)
      · exact ⟨_, rfl, fun hy => (by cases hy), fun _ => ⟨m - 1, by omega, i + 1, by omega, hlt, h⟩⟩
      · refine ⟨_, rfl, fun _ => .inr ⟨i + 1, by omega, ?_, h⟩, fun hy => (by cases hy)⟩
        unfold maxI minI; split <;> split <;> omega
  · have hx : xs.length ≤ i := by
      have : xs.length - i = 0 := by simpa using hx
      omega
    have hei : i = xs.length := by omega
    refine .inl ⟨i, by omega, ?_, ?_⟩
    · unfold maxI minI; split <;> split <;> omega
    · have e1 : xs.drop (i + 1) = xs.drop i := by rw [List.drop_eq_nil_of_le (by omega), List.drop_eq_nil_of_le (by omega)]
      rw [e1] at h
      exact (Own.sub (h) (by repeat (first | exact Sub.nil _ | exact Sub.rfl _ | (apply Sub.cons; focus ((repeat (first | with_reducible exact Pick.here | apply Pick.there)); done)) | apply Sub.drop)))
theorem drainedN_spec {most : Int} (h : Own e w F) : Rets Try.prog 71 #[.pointer none, .int .i64 most] w fun v w' => v = .slice none 0 0 ∧ Own e w' F := by
  refine cortadolaw07_drained_go _ _ ?_
  refine h.newR fun g1 w h => h.newR fun g2 w h => ?_
  refine Rets.mono (rgDrain_int h) ?_
  rintro _ w ⟨b, rfl, h⟩
  refine ⟨_, _, _, rfl, _, (Own.ld' h (by repeat (first | with_reducible exact Pick.here | apply Pick.there)) (by rfl)), fun hm => ⟨fun hc => (by cases hc), fun _ => ?_⟩, fun hm => ⟨_, _, _, (Own.ld' h (by repeat (first | with_reducible exact Pick.here | apply Pick.there)) (by rfl)), rfl, (Own.sub (h) (by repeat (first | exact Sub.nil _ | exact Sub.rfl _ | (apply Sub.cons; focus ((repeat (first | with_reducible exact Pick.here | apply Pick.there)); done)) | apply Sub.drop)))⟩⟩
  refine ⟨_, rfl, h.loopR fun mk lp L w h hround => ?_⟩
  refine ring_Ring_int_Drain_1_go _ _ ⟨fun m vs w' => w' = w, ⟨0, rfl⟩, ?_⟩
  rintro m w1
  intros
  rename_i hI
  subst hI
  refine ⟨_, (Own.ld' h (by repeat (first | with_reducible exact Pick.here | apply Pick.there)) (by rfl)), ?_⟩
  refine Rets.mono (rgNTake h) ?_
  rintro _ w ⟨rfl, h⟩
  refine ⟨_, _, rfl, fun hy => (by cases hy), fun _ => .inl ?_⟩
  refine Own.endR (l := lp) (L := L) (Own.pk h (by repeat (first | with_reducible exact Pick.here | apply Pick.there))) (by simp) fun w h => ?_
  exact ⟨_, _, _, (Own.ld' h (by repeat (first | with_reducible exact Pick.here | apply Pick.there)) (by rfl)), Own.markR (g := mk) (Own.pk h (by repeat (first | with_reducible exact Pick.here | apply Pick.there))) fun w h => ⟨rfl, (Own.sub (h) (by repeat (first | exact Sub.nil _ | exact Sub.rfl _ | (apply Sub.cons; focus ((repeat (first | with_reducible exact Pick.here | apply Pick.there)); done)) | apply Sub.drop)))⟩⟩
theorem RingNil_spec {W : World} {x r : Int} (hx : (Lit.int .i64 x).wf = true) (hrw : (Lit.int .i64 r).wf = true) :
    Rets Try.prog 12 #[.int .i64 x, .int .i64 r] W fun v w' => v = .bool true ∧ Below W.heap.size W w' := by
  refine Rets.mono (k := fun v w' => v = .bool true ∧ Own W w' [snap W]) ?_ (fun v w' h => ⟨h.1, h.2.below⟩)
  have h := Own.begin W
  refine cortadolaw07_RingNil_go _ _ ?_
  refine Rets.mono (rgNTake h) ?_
  rintro _ w ⟨rfl, h⟩
  refine ⟨_, _, rfl, ?_⟩
  refine Rets.mono (rgNAt h) ?_
  rintro _ w ⟨rfl, h⟩
  refine ⟨_, _, rfl, ?_⟩
  refine Rets.mono (rgNew_int h) ?_
  rintro _ w ⟨g, rfl, h⟩
  have e0 : (max 0 (min (minI r 0) 65536)).toNat = 0 := by unfold minI; split <;> omega
  rw [e0] at h
  refine ⟨_, rfl, fun _ => ⟨fun _ => ?_, fun hc => (by cases hc)⟩, fun hc => (by cases hc)⟩
  refine Rets.mono (rgNSend h) ?_
  rintro _ w ⟨rfl, h⟩
  refine ⟨_, rfl, fun _ => ?_, fun hc => (by cases hc)⟩
  refine Rets.mono (rgNLen h) ?_
  rintro _ w ⟨rfl, h⟩
  refine ⟨_, rfl, fun _ => ?_, fun hc => (by cases hc)⟩
  refine Rets.mono (rgNRoom h) ?_
  rintro _ w ⟨rfl, h⟩
  refine ⟨_, rfl, fun _ => ?_, fun hc => (by cases hc)⟩
  refine Rets.mono (rgNClone h) ?_
  rintro _ w ⟨rfl, h⟩
  refine ⟨_, rfl, fun _ => ?_, fun hc => (by cases hc)⟩
  refine Rets.mono (toldN_spec h) ?_
  rintro _ w ⟨rfl, h⟩
  refine ⟨_, _, _, rfl, fun _ => ?_, fun hc => (by cases hc)⟩
  refine Rets.mono (drainedN_spec h) ?_
  rintro _ w ⟨rfl, h⟩
  refine ⟨_, _, _, rfl, fun _ => ?_, fun hc => (by cases hc)⟩
  refine Rets.mono (rgSend_int (x := x) h (by omega)) ?_
  rintro _ w ⟨rfl, h⟩
  have h : Own W w (ring_int g [] 0 :: [snap W]) := h
  refine ⟨_, rfl, fun _ => ?_, fun hc => (by cases hc)⟩
  refine Rets.mono (rgLen_int h) ?_
  rintro _ w ⟨rfl, h⟩
  refine ⟨_, rfl, fun _ => ?_, fun hc => (by cases hc)⟩
  refine Rets.mono (rgRoom_int h) ?_
  rintro _ w ⟨rfl, h⟩
  refine ⟨_, rfl, fun _ => ?_, fun hc => (by cases hc)⟩
  refine Rets.mono (rgAwake h) ?_
  rintro _ w ⟨rfl, h⟩
  exact ⟨_, rfl, rfl, h.drop⟩
end
end Go.Proofs.Ytfcddffcjmgpkaa.Eng
