/- Tapes: copies, what is left, what is put behind. -/
import Derived.Test.YtppmdifhoejhjaaTapeP
import Derived.Test.YtppmdifhoejhjaaBytP
namespace Go.Proofs.Ytppmdifhoejhjaa.Eng
open Go Go.RowKit Go.Proofs
set_option linter.unusedVariables false
set_option linter.unusedSimpArgs false
set_option maxRecDepth 1000000

section
variable {e w : World} {F : List HP} {q q2 : Option Addr} {n c m c2 : Nat} {xs ys bs : List Int}
theorem New_spec (h : Own e w F) (hr : ∀ w, Own e w F → RdC w q (cs .u8 bs)) (hn : bs.length ≤ 1000000) :
    Rets Try.prog 36 #[.slice q bs.length c] w fun v w' => ∃ g q' c', v = .pointer (some ⟨g, 0, none⟩) ∧ Own e w' (tapeB 76 g q' bs.length c' 0 :: byB q' bs.length c' bs :: F) := by
  refine tape_New_go _ _ _ ?_
  refine Rets.mono (Clone_spec h hr hn) ?_
  rintro v w1 ⟨q', c', rfl, h⟩
  refine ⟨_, _, _, rfl, h.newR fun g w2 h => ⟨_, _, _, rfl, h⟩⟩
variable {g at_ : Nat}
theorem Rest_spec (h : Own e w (tapeB 76 g q bs.length c at_ :: F)) (hc : bs.length ≤ c) (hrd : ∀ w, Own e w (tapeB 76 g q bs.length c at_ :: F) → RdC w q (cs .u8 bs)) (hat : at_ ≤ bs.length) (hn : bs.length ≤ 1000000) :
    Rets Try.prog 42 #[.pointer (some ⟨g, 0, none⟩)] w fun v w' => ∃ q' c', v = .slice q' (bs.drop at_).length c' ∧ Own e w' (tapeB 76 g q bs.length c bs.length :: byB q' (bs.drop at_).length c' (bs.drop at_) :: F) := by
  refine tape_Tape_Rest_go _ ?_
  refine ⟨fun hc => (by cases hc), fun _ => h.drw fun w1 h => ?_⟩
  refine ⟨_, _, _, h.cellAdd 0 rfl, _, h.cellAdd 1 rfl, by omega, by omega, ?_⟩
  have el : bs.length - (at_ : Int).toNat = (bs.drop at_).length := by simp
  rw [el]
  refine Rets.mono (Clone_spec (bs := bs.drop at_) h (fun w h => ?_) (by simp; omega)) ?_
  · rw [cs_drop]
    exact (hrd w h).cut (by rw [cs_len]; exact hat) (by rw [cs_len]; exact hc)
  · rintro v w2 ⟨q', c', rfl, h⟩
    have h := h.swap
    refine ⟨_, _, _, rfl, _, _, _, h.cellAdd 0 rfl, ?_⟩
    exact h.store (by simp) (by simp [Value.oneCell']) fun w3 h => ⟨_, _, rfl, h⟩
theorem nLeft (h : Own e w F) : Rets Try.prog 53 #[.pointer none] w fun v w' => v = .int .i64 0 ∧ Own e w' F :=
  tape_nil_Left_go ⟨fun _ => ⟨rfl, h⟩, fun hc => (by cases hc)⟩
theorem nRest (h : Own e w F) : Rets Try.prog 42 #[.pointer none] w fun v w' => v = .slice none 0 0 ∧ Own e w' F :=
  tape_nil_Rest_go ⟨fun _ => ⟨rfl, h⟩, fun hc => (by cases hc)⟩
theorem nByte (h : Own e w F) : Rets Try.prog 41 #[.pointer none] w fun v w' => v = .int .i64 0 ∧ Own e w' F := by
  refine tape_nil_Byte_go ?_
  refine Rets.mono (nLeft h) ?_
  rintro v w1 ⟨rfl, h⟩
  exact ⟨_, rfl, fun _ => ⟨rfl, h⟩, fun hc => (by cases hc)⟩
theorem nInt (h : Own e w F) : Rets Try.prog 39 #[.pointer none] w fun v w' => v = .int .i64 0 ∧ Own e w' F := by
  refine tape_Tape_Int_go _ ?_
  refine Rets.mono (nByte h) ?_
  rintro v w1 ⟨rfl, h⟩
  exact ⟨_, rfl, fun _ => ⟨rfl, h⟩, fun hc => (by cases hc)⟩
theorem nBelow {k : Int} (h : Own e w F) : Rets Try.prog 38 #[.pointer none, .int .i64 k] w fun v w' => v = .int .i64 0 ∧ Own e w' F := by
  refine tape_Tape_Below_go _ _ ?_
  refine ⟨fun _ => ⟨rfl, h⟩, fun hc => ?_⟩
  refine Rets.mono (nByte h) ?_
  rintro v w1 ⟨rfl, h⟩
  have hc := dec_f hc
  exact ⟨_, rfl, by omega, by simp, h⟩
end
/-! ### Numbers put behind bytes -/
/-- The byte number i of eight. -/
def by8 (n : Int) (i : Nat) : Int := n % 18446744073709551616 / 2 ^ (56 - 8 * i) % 256
def putN (n : Int) : List Int :=
  if 0 ≤ n ∧ n < 200 then [n] else if 200 ≤ n ∧ n < 14280 then [200 + (n - 200) / 256, (n - 200) % 256] else 255 :: (List.range 8).map (by8 n)
def putL : List Int → List Int
  | [] => []
  | n :: r => putN n ++ putL r
theorem putL_app : ∀ (a b : List Int), putL (a ++ b) = putL a ++ putL b
  | [], b => rfl
  | n :: r, b => by rw [List.cons_append, putL, putL, putL_app r b, List.append_assoc]
theorem putN_len (n : Int) : (putN n).length ≤ 9 := by unfold putN; split <;> (try split) <;> simp
theorem putL_len : ∀ l : List Int, (putL l).length ≤ 9 * l.length
  | [] => by simp [putL]
  | n :: r => by have := putL_len r; have := putN_len n; simp [putL]; omega
theorem shr8 (n : Int) (i : Nat) (hi : i < 8) : IntKind.wrap IntKind.u8 (shrI IntKind.u64 (IntKind.wrap IntKind.u64 n) (IntKind.wrap IntKind.u64 (IntKind.wrap IntKind.i64 (56 - IntKind.wrap IntKind.i64 (8 * (i : Int)))))) = by8 n i := by
  rw [wI64 (n := 8 * (i : Int)) (by omega) (by omega), wI64 (by omega) (by omega), wU64 n, wU64' (by omega) (by omega), wU8]
  unfold shrI by8
  have e1 : min ((56 : Int) - 8 * (i : Int)).toNat IntKind.u64.bits = 56 - 8 * i := by simp [IntKind.bits]; omega
  rw [e1, Int.fdiv_eq_ediv_of_nonneg _ (by exact Int.le_of_lt (Int.pow_pos (by omega)))]
section
variable {e w : World} {F : List HP} {q q2 : Option Addr} {n c m c2 : Nat} {xs ys bs ns : List Int}
theorem Put_spec (h : Own e w F) (hr : ∀ w, Own e w F → RdC w q (cs .u8 bs)) (hr2 : ∀ w, Own e w F → RdC w q2 (cs .i64 ns)) (hn : bs.length ≤ 100000) (hn2 : ns.length ≤ 1000) :
    Rets Try.prog 32 #[.slice q bs.length c, .slice q2 ns.length c2] w fun v w' => ∃ q' c', v = .slice q' (bs ++ putL ns).length c' ∧ Own e w' (byB q' (bs ++ putL ns).length c' (bs ++ putL ns) :: F) := by
  refine tape_Put_go _ _ _ _ _ _ ?_
  unfold tape_Put_m
  refine Rets.mono (Clone_spec h hr (by omega)) ?_
  rintro v w1 ⟨q', c', rfl, h⟩
  refine ⟨_, _, _, rfl, fun m vs w' => ∃ (i : Nat) (q' : Option Addr) (c' : Nat), vs = [.slice q' (bs ++ putL (ns.take i)).length c', .int .i64 (i : Int)] ∧ m + i = ns.length ∧ Own e w' (byB q' (bs ++ putL (ns.take i)).length c' (bs ++ putL (ns.take i)) :: F), ⟨ns.length, 0, q', c', by simp [putL], rfl, by simpa [putL] using h⟩, ?_⟩
  rintro m w2 q3 k5 k6 v2 v3 n1
  intros
  rename_i hI
  obtain ⟨i, q', c', hvs, hm, h⟩ := hI
  obtain ⟨⟨rfl, rfl, rfl⟩, rfl⟩ : (q3 = q' ∧ k5 = (bs ++ putL (ns.take i)).length ∧ k6 = c') ∧ n1 = (i : Int) := by simpa using hvs
  have hpl : (bs ++ putL (ns.take i)).length ≤ 120000 := by
    have h1 := putL_len (ns.take i)
    have h2 : (ns.take i).length ≤ ns.length := by simp; omega
    rw [List.length_append]; omega
  refine ⟨fun hc => ?_, fun hc => ?_⟩
  · have hc := dec_t hc
    have hi : i < ns.length := by omega
    refine ⟨fun vs w' => ∃ q' c', vs = [.slice q' (bs ++ putL (ns.take (i + 1))).length c'] ∧ Own e w' (byB q' (bs ++ putL (ns.take (i + 1))).length c' (bs ++ putL (ns.take (i + 1))) :: F), ?_, ?_⟩
    · refine ⟨by omega, by omega, (hr2 _ h.drop).int hi fun a ha => ⟨_, ha, ?_⟩⟩
      have et : bs ++ putL (ns.take (i + 1)) = (bs ++ putL (ns.take i)) ++ putN ns[i] := by
        rw [List.take_succ_eq_append_getElem hi, putL_app, List.append_assoc]
        simp [putL]
      generalize ns[i] = x at et
      refine ⟨fun vs w' => vs = [.slice q3 (bs ++ putL (ns.take i)).length k6] ∧ (¬ (0 ≤ x ∧ x < 200) ∧ ¬ (200 ≤ x ∧ x < 14280)) ∧ Own e w' (byB q3 (bs ++ putL (ns.take i)).length k6 (bs ++ putL (ns.take i)) :: F), ?_, ?_⟩
      · have two : ∀ k : Value → World → Prop, 200 ≤ x → x < 14280 → (∀ q' c' w', Own e w' (byB q' (bs ++ putL (ns.take (i + 1))).length c' (bs ++ putL (ns.take (i + 1))) :: F) → k (.slice q' (bs ++ putL (ns.take (i + 1))).length c') w') →
            NewR 5 [Value.int IntKind.u8 (IntKind.wrap IntKind.u8 (IntKind.wrap IntKind.i64 ((200 : Int) + IntKind.wrap IntKind.i64 (Int.tdiv (IntKind.wrap IntKind.i64 (x - (200 : Int))) (256 : Int))))), Value.int IntKind.u8 (IntKind.wrap IntKind.u8 (Int.tmod (IntKind.wrap IntKind.i64 (x - (200 : Int))) (256 : Int)))] w2 fun a w' =>
              RunR Try.prog (builtinV .append #[35, 35] 35 #[.slice q3 (bs ++ putL (ns.take i)).length k6, .slice (some a) 2 2]) w' k := by
          intro k h1 h2 hk
          refine h.newR fun g w3 h => ?_
          have e1 : putN x = [200 + (x - 200) / 256, (x - 200) % 256] := by unfold putN; rw [if_neg (by omega), if_pos ⟨h1, h2⟩]
          rw [e1] at et
          rw [wI64 (n := x - 200) (by omega) (by omega), Int.tdiv_eq_ediv_of_nonneg (by omega), Int.tmod_eq_emod_of_nonneg (by omega), wI64 (n := (x - 200) / 256) (by omega) (by omega), wI64 (by omega) (by omega), wU8' (by omega) (by omega), wU8' (by omega) (by omega)] at h
          refine put8 (ys := [200 + (x - 200) / 256, (x - 200) % 256]) (a := ⟨g, 0, none⟩) h rfl (by omega) fun q' c' w' h => ?_
          rw [← et] at h
          have el : (bs ++ putL (ns.take i)).length + 2 = (bs ++ putL (ns.take (i + 1))).length := by rw [et]; simp only [List.length_append, List.length_cons, List.length_nil]
          rw [el] at h ⊢
          exact hk _ _ _ h
        refine ⟨fun h0 => ⟨fun h1 => ?_, fun h1 => ⟨fun h2 => ⟨fun h3 => ⟨by omega, by omega, ?_⟩, fun h3 => ?_⟩, fun h2 => ?_⟩⟩, fun h0 => ⟨fun h2 => ⟨fun h3 => ⟨by omega, by omega, ?_⟩, fun h3 => ?_⟩, fun h2 => ?_⟩⟩
        · have h0 := dec_t h0; have h1 := dec_t h1
          refine h.newR fun g w3 h => ?_
          have e1 : putN x = [x] := by unfold putN; rw [if_pos ⟨h0, h1⟩]
          rw [e1] at et
          rw [wU8' (by omega) (by omega)] at h
          refine put8 (ys := [x]) (a := ⟨g, 0, none⟩) h rfl (by omega) fun q' c' w' h => ?_
          rw [← et] at h
          have el : (bs ++ putL (ns.take i)).length + 1 = (bs ++ putL (ns.take (i + 1))).length := by rw [et]; simp only [List.length_append, List.length_cons, List.length_nil]
          rw [el] at h ⊢
          exact ⟨_, _, _, rfl, _, _, rfl, h⟩
        · exact two _ (dec_t h2) (dec_t h3) fun q' c' w' h => ⟨_, _, _, rfl, _, _, rfl, h⟩
        · have := dec_t h0; have := dec_f h1; have := dec_f h3; exact ⟨rfl, ⟨by omega, by omega⟩, h⟩
        · have := dec_t h0; have := dec_f h1; have := dec_f h2; exact ⟨rfl, ⟨by omega, by omega⟩, h⟩
        · exact two _ (dec_t h2) (dec_t h3) fun q' c' w' h => ⟨_, _, _, rfl, _, _, rfl, h⟩
        · have := dec_f h0; have := dec_f h3; exact ⟨rfl, ⟨by omega, by omega⟩, h⟩
        · have := dec_f h0; have := dec_f h2; exact ⟨rfl, ⟨by omega, by omega⟩, h⟩
      · rintro w9 q6 k13 k14
        intros
        rename_i hJ
        obtain ⟨hvs, hx, h⟩ := hJ
        obtain ⟨rfl, rfl, rfl⟩ : q6 = q3 ∧ k13 = (bs ++ putL (ns.take i)).length ∧ k14 = k6 := by simpa using hvs
        have e1 : putN x = 255 :: (List.range 8).map (by8 x) := by unfold putN; rw [if_neg hx.1, if_neg hx.2]
        rw [e1] at et
        refine h.newR fun g w3 h => ?_
        refine put8 (ys := [255]) (a := ⟨g, 0, none⟩) h rfl (by omega) fun q' c' w' h => ?_
        generalize bs ++ putL (ns.take i) = pre at et hpl h
        have e8 : ∀ j, ((pre ++ [255]) ++ (List.range j).map (by8 x)).length = pre.length + 1 + j := by intro j; simp; omega
        refine ⟨_, _, _, rfl, fun m vs w' => ∃ (j : Nat) (q' : Option Addr) (c' : Nat), vs = [.slice q' (pre.length + 1 + j) c', .int .i64 (j : Int)] ∧ m + j = 8 ∧ Own e w' (byB q' (pre.length + 1 + j) c' ((pre ++ [255]) ++ (List.range j).map (by8 x)) :: F), ⟨8, 0, _, _, rfl, rfl, by simpa using h⟩, ?_⟩
        rintro m2 w12 q8 k19 k20 v92 n3
        intros
        rename_i hJ
        obtain ⟨j, q', c', hvs, hm2, h⟩ := hJ
        obtain ⟨⟨rfl, rfl, rfl⟩, rfl⟩ : (q8 = q' ∧ k19 = pre.length + 1 + j ∧ k20 = c') ∧ n3 = (j : Int) := by simpa using hvs
        refine ⟨fun hc => ?_, fun hc => ?_⟩
        · have hc := dec_t hc
          have hj : j < 8 := by omega
          refine ⟨by rw [wI64 (n := 8 * (j : Int)) (by omega) (by omega), wI64 (by omega) (by omega), wU64' (by omega) (by omega)]; omega, ?_⟩
          refine h.newR fun g w13 h => ?_
          rw [shr8 x j hj] at h
          refine put8 (ys := [by8 x j]) (a := ⟨g, 0, none⟩) h rfl (by omega) fun q' c' w' h => ?_
          refine ⟨_, _, _, rfl, m2 - 1, by omega, j + 1, q', c', ?_, by omega, ?_⟩
          · rw [wI64 (by omega) (by omega)]; rfl
          · rw [List.range_succ, List.map_append, ← List.append_assoc]; exact h
        · have hc := dec_f hc
          obtain rfl : j = 8 := by omega
          refine ⟨q8, k20, ?_, ?_⟩
          · rw [et]; simp
          · rw [et]
            have e9 : pre ++ 255 :: (List.range 8).map (by8 x) = (pre ++ [255]) ++ (List.range 8).map (by8 x) := by simp
            rw [e9, e8]; exact h
    · rintro w15 q10 k24 k25
      intros
      rename_i hJ
      obtain ⟨q', c', hvs, h⟩ := hJ
      obtain ⟨rfl, rfl, rfl⟩ : q10 = q' ∧ k24 = (bs ++ putL (ns.take (i + 1))).length ∧ k25 = c' := by simpa using hvs
      refine ⟨m - 1, by omega, i + 1, _, _, ?_, by omega, h⟩
      rw [wI64 (by omega) (by omega)]; simp
  · have hc := dec_f hc
    obtain rfl : i = ns.length := by omega
    rw [List.take_length] at h ⊢
    exact ⟨_, _, rfl, h⟩
end
end Go.Proofs.Ytppmdifhoejhjaa.Eng
