/- TapeBack: what is put is read, in order. -/
import Derived.Test.YtppmdifhoejhjaaTapeQ
namespace Go.Proofs.Ytppmdifhoejhjaa.Eng
open Go Go.RowKit Go.Proofs
set_option linter.unusedVariables false
set_option linter.unusedSimpArgs false
set_option maxRecDepth 1000000

/-! ### The plain law -/
theorem tbV_app {pre post : List Int} {x : Int} : tbV (pre ++ x :: post) pre.length = x := by
  unfold tbV; rw [List.getD_eq_getElem?_getD, List.getElem?_append_right (Nat.le_refl _)]; simp
theorem tbA_app {pre post : List Int} {x : Int} : tbA (pre ++ x :: post) pre.length = pre.length + 1 := by
  unfold tbA; rw [if_pos (by simp)]
theorem by8_bd (n : Int) (i : Nat) : 0 ≤ by8 n i ∧ by8 n i < 256 := by unfold by8; omega
theorem by8_step (n : Int) (j : Nat) (hj : j < 8) : (256 * (n % 18446744073709551616 / 2 ^ (64 - 8 * j)) + by8 n j) % 18446744073709551616 = n % 18446744073709551616 / 2 ^ (64 - 8 * (j + 1)) := by
  unfold by8
  have h0 : 0 ≤ n % 18446744073709551616 := by omega
  have h1 : n % 18446744073709551616 < 18446744073709551616 := by omega
  generalize n % 18446744073709551616 = X at h0 h1
  match j, hj with
  | 0, _ => simp; omega
  | 1, _ => simp; omega
  | 2, _ => simp; omega
  | 3, _ => simp; omega
  | 4, _ => simp; omega
  | 5, _ => simp; omega
  | 6, _ => simp; omega
  | 7, _ => simp; omega
theorem rd8_put (n : Int) (pre : List Int) : ∀ (k j : Nat) (post : List Int), k + j = 8 → rd8 (pre ++ ((List.range 8).map (by8 n)) ++ post) k (pre.length + j) (n % 18446744073709551616 / 2 ^ (64 - 8 * j)) = (IntKind.wrap IntKind.i64 (n % 18446744073709551616), pre.length + 8)
  | 0, j, post, h => by
    obtain rfl : j = 8 := by omega
    simp [rd8]
  | k + 1, j, post, h => by
    have hj : j < 8 := by omega
    have ec : (pre ++ ((List.range 8).map (by8 n)) ++ post) = (pre ++ (List.range j).map (by8 n)) ++ by8 n j :: ((List.range' (j + 1) (8 - (j + 1))).map (by8 n) ++ post) := by
      match j, hj with
      | 0, _ => simp [List.range_succ, List.range']
      | 1, _ => simp [List.range_succ, List.range']
      | 2, _ => simp [List.range_succ, List.range']
      | 3, _ => simp [List.range_succ, List.range']
      | 4, _ => simp [List.range_succ, List.range']
      | 5, _ => simp [List.range_succ, List.range']
      | 6, _ => simp [List.range_succ, List.range']
      | 7, _ => simp [List.range_succ, List.range']
    have el : pre.length + j = (pre ++ (List.range j).map (by8 n)).length := by simp
    unfold rd8
    rw [show tbV (pre ++ ((List.range 8).map (by8 n)) ++ post) (pre.length + j) = by8 n j by rw [ec, el, tbV_app], show tbA (pre ++ ((List.range 8).map (by8 n)) ++ post) (pre.length + j) = pre.length + (j + 1) by rw [ec, el, tbA_app]; simp; omega, by8_step n j hj]
    exact rd8_put n pre k (j + 1) post (by omega)
theorem wrap_back {n : Int} (h : -9223372036854775808 ≤ n ∧ n ≤ 9223372036854775807) : IntKind.wrap IntKind.i64 (n % 18446744073709551616) = n := by
  unfold IntKind.wrap
  simp [IntKind.signed, IntKind.bits]
  split <;> omega
theorem tInt_put {n : Int} (h : -9223372036854775808 ≤ n ∧ n ≤ 9223372036854775807) (pre post : List Int) : tInt (pre ++ putN n ++ post) pre.length = (n, (pre ++ putN n).length) := by
  unfold putN
  by_cases h1 : 0 ≤ n ∧ n < 200
  · rw [if_pos h1]
    have e : pre ++ [n] ++ post = pre ++ n :: post := by simp
    rw [e]; unfold tInt; rw [tbV_app, if_pos h1.2, tbA_app]; simp
  · rw [if_neg h1]
    by_cases h2 : 200 ≤ n ∧ n < 14280
    · rw [if_pos h2]
      have e : pre ++ [200 + (n - 200) / 256, (n - 200) % 256] ++ post = pre ++ (200 + (n - 200) / 256) :: ((n - 200) % 256 :: post) := by simp
      have e2 : pre ++ (200 + (n - 200) / 256) :: ((n - 200) % 256 :: post) = (pre ++ [200 + (n - 200) / 256]) ++ (n - 200) % 256 :: post := by simp
      have el : pre.length + 1 = (pre ++ [200 + (n - 200) / 256]).length := by simp
      rw [e]; unfold tInt; rw [tbV_app, if_neg (by omega), if_pos (by omega), tbA_app, e2, el, tbV_app, tbA_app]
      simp; omega
    · rw [if_neg h2]
      have e : pre ++ (255 :: (List.range 8).map (by8 n)) ++ post = pre ++ 255 :: ((List.range 8).map (by8 n) ++ post) := by simp
      have e2 : pre ++ 255 :: ((List.range 8).map (by8 n) ++ post) = (pre ++ [255]) ++ ((List.range 8).map (by8 n)) ++ post := by simp
      have el : pre.length + 1 = (pre ++ [255]).length + 0 := by simp
      rw [e]; unfold tInt; rw [tbV_app, if_neg (by omega), if_neg (by omega), tbA_app, e2, el]
      have e0 : (0 : Int) = n % 18446744073709551616 / 2 ^ (64 - 8 * 0) := by simp; omega
      have := rd8_put n (pre ++ [255]) 8 0 post rfl
      rw [← e0] at this
      rw [this, wrap_back h]
      simp
theorem putN_bd (n : Int) : ∀ x ∈ putN n, 0 ≤ x ∧ x < 256 := by
  unfold putN
  intro x hx
  split at hx
  · simp at hx; omega
  · split at hx
    · simp at hx; omega
    · rcases List.mem_cons.1 hx with rfl | hx
      · omega
      · obtain ⟨i, _, rfl⟩ := List.mem_map.1 hx; exact by8_bd n i
theorem putL_bd : ∀ (l : List Int), ∀ x ∈ putL l, 0 ≤ x ∧ x < 256
  | [], x, hx => by cases hx
  | n :: r, x, hx => by
    rcases List.mem_append.1 hx with hx | hx
    · exact putN_bd n x hx
    · exact putL_bd r x hx
/-! ### The document's answer -/
def l8 (X : Int) (j : Nat) : List Int := (List.range j).map fun i => X / 2 ^ (8 * (j - 1 - i)) % 256
theorem l8_succ (X : Int) (j : Nat) : (X / 2 ^ (8 * j) % 256) :: l8 X j = l8 X (j + 1) := by
  unfold l8
  rw [List.range_succ_eq_map, List.map_cons, List.map_map]
  congr 1
  refine List.map_congr_left fun i _ => ?_
  simp only [Function.comp]
  congr 3
  omega
theorem l8_all (n : Int) : l8 (n % 18446744073709551616) 8 = (List.range 8).map (by8 n) := by
  unfold l8
  refine List.map_congr_left fun i hi => ?_
  have : i < 8 := by simpa using hi
  unfold by8
  congr 3
  omega
section
variable {e w : World} {F : List HP} {q q2 : Option Addr} {n c m c2 : Nat} {xs ys bs ns : List Int}
theorem rPut_spec (h : Own e w F) (hr2 : ∀ w, Own e w F → RdC w q2 (cs .i64 ns)) (hn2 : ns.length ≤ 1000) :
    Rets Try.prog 34 #[.slice q2 ns.length c2] w fun v w' => ∃ q' c', v = .slice q' (putL ns).length c' ∧ Own e w' (byB q' (putL ns).length c' (putL ns) :: F) := by
  refine cortadoref16_Put_go _ _ _ ?_
  unfold cortadoref16_Put_m
  refine ⟨fun m vs w' => ∃ (i : Nat) (q' : Option Addr) (c' : Nat), vs = [.slice q' (putL (ns.take i)).length c', .int .i64 (i : Int)] ∧ m + i = ns.length ∧ Own e w' (byB q' (putL (ns.take i)).length c' (putL (ns.take i)) :: F), ⟨ns.length, 0, none, 0, by simp [putL], rfl, h.slNil⟩, ?_⟩
  rintro m w2 q3 k5 k6 n1
  intros
  rename_i hI
  obtain ⟨i, q', c', hvs, hm, h⟩ := hI
  obtain ⟨⟨rfl, rfl, rfl⟩, rfl⟩ : (q3 = q' ∧ k5 = (putL (ns.take i)).length ∧ k6 = c') ∧ n1 = (i : Int) := by simpa using hvs
  have hpl : (putL (ns.take i)).length ≤ 9000 := by
    have h1 := putL_len (ns.take i)
    have h2 : (ns.take i).length ≤ ns.length := by simp; omega
    omega
  refine ⟨fun hc => ?_, fun hc => ?_⟩
  · have hc := dec_t hc
    have hi : i < ns.length := by omega
    refine ⟨fun vs w' => ∃ q' c', vs = [.slice q' (putL (ns.take (i + 1))).length c'] ∧ Own e w' (byB q' (putL (ns.take (i + 1))).length c' (putL (ns.take (i + 1))) :: F), ?_, ?_⟩
    · refine ⟨by omega, by omega, (hr2 _ h.drop).int hi fun a ha => ⟨_, ha, ?_⟩⟩
      have et : putL (ns.take (i + 1)) = putL (ns.take i) ++ putN ns[i] := by
        rw [List.take_succ_eq_append_getElem hi, putL_app]
        simp [putL]
      generalize ns[i] = x at et
      refine ⟨fun h0 => ⟨fun h1 => ?ga, fun h1 => ⟨fun h2 => ⟨fun h3 => ⟨by omega, by omega, ?gb⟩, fun h3 => ?gc⟩, fun h2 => ?gd⟩⟩, fun h0 => ⟨fun h2 => ⟨fun h3 => ⟨by omega, by omega, ?gb2⟩, fun h3 => ?gc2⟩, fun h2 => ?gd2⟩⟩
      case ga =>
        have h0 := dec_t h0; have h1 := dec_t h1
        refine h.newR fun g w3 h => ?_
        have e1 : putN x = [x] := by unfold putN; rw [if_pos ⟨h0, h1⟩]
        rw [e1] at et
        rw [wU8' (by omega) (by omega)] at h
        refine put8 (ys := [x]) (a := ⟨g, 0, none⟩) h rfl (by omega) fun q' c' w' h => ?_
        rw [← et] at h
        have el : (putL (ns.take i)).length + 1 = (putL (ns.take (i + 1))).length := by rw [et]; simp only [List.length_append, List.length_cons, List.length_nil]
        rw [el] at h ⊢
        exact ⟨_, _, _, rfl, _, _, rfl, h⟩
      case gb | gb2 =>
        have h2 := dec_t h2; have h3 := dec_t h3
        refine h.newR fun g w3 h => ?_
        have e1 : putN x = [200 + (x - 200) / 256, (x - 200) % 256] := by unfold putN; rw [if_neg (by omega), if_pos ⟨h2, h3⟩]
        rw [e1] at et
        rw [wI64 (n := x - 200) (by omega) (by omega), Int.tdiv_eq_ediv_of_nonneg (by omega), Int.tmod_eq_emod_of_nonneg (by omega), wI64 (n := (x - 200) / 256) (by omega) (by omega), wI64 (by omega) (by omega), wU8' (by omega) (by omega), wU8' (by omega) (by omega)] at h
        refine put8 (ys := [200 + (x - 200) / 256, (x - 200) % 256]) (a := ⟨g, 0, none⟩) h rfl (by omega) fun q' c' w' h => ?_
        rw [← et] at h
        have el : (putL (ns.take i)).length + 2 = (putL (ns.take (i + 1))).length := by rw [et]; simp only [List.length_append, List.length_cons, List.length_nil]
        rw [el] at h ⊢
        exact ⟨_, _, _, rfl, _, _, rfl, h⟩
      all_goals
        have hx : ¬ (0 ≤ x ∧ x < 200) ∧ ¬ (200 ≤ x ∧ x < 14280) := by
          simp only [decide_eq_true_eq, decide_eq_false_iff_not] at *
          omega
        have e1 : putN x = 255 :: (List.range 8).map (by8 x) := by unfold putN; rw [if_neg hx.1, if_neg hx.2]
        rw [e1] at et
        have h0X : 0 ≤ x % 18446744073709551616 := by omega
        have h1X : x % 18446744073709551616 < 18446744073709551616 := by omega
        have el8 := l8_all x
        generalize hX : x % 18446744073709551616 = X at h0X h1X el8
        have eX : IntKind.wrap IntKind.u64 x = X := by rw [wU64, hX]
        refine ⟨fun vs w' => ∃ (q' : Option Addr) (c' : Nat), vs = [.slice q' 8 c'] ∧ Own e w' (byB q' 8 c' (l8 X 8) :: byB q3 (putL (ns.take i)).length k6 (putL (ns.take i)) :: F), ?_, ?_⟩
        · refine ⟨fun m vs w' => ∃ (j : Nat) (q' : Option Addr) (c' : Nat), vs = [.int .u64 (X / 2 ^ (8 * j)), .slice q' j c', .int .i64 (j : Int)] ∧ m + j = 8 ∧ Own e w' (byB q' j c' (l8 X j) :: byB q3 (putL (ns.take i)).length k6 (putL (ns.take i)) :: F), ⟨8, 0, none, 0, by rw [eX]; simp, rfl, h.slNil⟩, ?_⟩
          rintro m2 w6 n3 q4 k11 k12 n4
          intros
          rename_i hJ
          obtain ⟨j, q', c', hvs, hm2, h⟩ := hJ
          obtain ⟨rfl, ⟨rfl, rfl, rfl⟩, rfl⟩ : n3 = X / 2 ^ (8 * j) ∧ (q4 = q' ∧ k11 = j ∧ k12 = c') ∧ n4 = (j : Int) := by simpa using hvs
          refine ⟨fun hc => ?_, fun hc => ?_⟩
          · have hc := dec_t hc
            have hj : k11 < 8 := by omega
            have hp : 0 ≤ X / 2 ^ (8 * k11) ∧ X / 2 ^ (8 * k11) < 18446744073709551616 := by
              refine ⟨Int.ediv_nonneg h0X (Int.le_of_lt (Int.pow_pos (by omega))), ?_⟩
              exact Int.lt_of_le_of_lt (Int.ediv_le_self _ h0X) h1X
            refine ⟨by omega, h.newR fun g w7 h => ?_⟩
            rw [Int.tmod_eq_emod_of_nonneg hp.1, wU8' (by omega) (by omega)] at h
            have h : Own e w7 (byB (some ⟨g, 0, none⟩) 1 1 [X / 2 ^ (8 * k11) % 256] :: _) := Own.slMk (rest := []) (by rfl) (by omega) (by simp [maxLen]) (by rfl) h
            refine app8 h h.drop.slRd (by simp [l8]) (by omega) fun q' c' w8 h => ?_
            have e2 : [X / 2 ^ (8 * k11) % 256] ++ l8 X k11 = l8 X (k11 + 1) := l8_succ X k11
            rw [e2, Nat.add_comm 1 k11] at h
            rw [Nat.add_comm 1 k11]
            refine ⟨_, _, _, rfl, by omega, m2 - 1, by omega, k11 + 1, q', c', ?_, by omega, (Own.sub (h) (by repeat (first | exact Sub.nil _ | exact Sub.rfl _ | (apply Sub.cons; focus ((repeat (first | with_reducible exact Pick.here | apply Pick.there)); done)) | apply Sub.drop)))⟩
            have e3 : IntKind.wrap IntKind.u64 (Int.tdiv (X / 2 ^ (8 * k11)) 256) = X / 2 ^ (8 * (k11 + 1)) := by
              rw [Int.tdiv_eq_ediv_of_nonneg hp.1, wU64' (by omega) (by omega), Int.ediv_ediv_of_nonneg (Int.le_of_lt (Int.pow_pos (by omega))), Nat.mul_add, Int.pow_add]
              rfl
            rw [e3, wI64 (by omega) (by omega)]; rfl
          · have hc := dec_f hc
            obtain rfl : k11 = 8 := by omega
            exact ⟨_, _, rfl, h⟩
        · rintro w9 v80 q6 k16 k17
          intros
          rename_i hJ
          obtain ⟨q', c', hvs, h⟩ := hJ
          obtain ⟨rfl, rfl, rfl⟩ : q6 = q' ∧ k16 = 8 ∧ k17 = c' := by simpa using hvs
          refine h.newR fun g w10 h => ?_
          have h : Own e w10 (blk g 5 (cs .u8 [255]) :: byB q6 8 k17 (l8 X 8) :: byB q3 (putL (ns.take i)).length k6 (putL (ns.take i)) :: F) := h
          have h : Own e w10 (blk g 5 (cs .u8 [255]) :: byB q3 (putL (ns.take i)).length k6 (putL (ns.take i)) :: byB q6 8 k17 (l8 X 8) :: F) := (Own.sub (h) (by repeat (first | exact Sub.nil _ | exact Sub.rfl _ | (apply Sub.cons; focus ((repeat (first | with_reducible exact Pick.here | apply Pick.there)); done)) | apply Sub.drop)))
          refine put8 (ys := [255]) (a := ⟨g, 0, none⟩) h rfl (by omega) fun q' c' w' h => ?_
          refine ⟨_, _, _, rfl, app8 (ys := l8 X 8) h (h.drop.slRd) (by simp [l8]) (by omega) fun q'' c'' w12 h => ?_⟩
          have e4 : (putL (ns.take i) ++ [255]) ++ l8 X 8 = putL (ns.take (i + 1)) := by rw [et, ← el8]; simp
          rw [e4] at h
          have el : (putL (ns.take i)).length + 1 + 8 = (putL (ns.take (i + 1))).length := by rw [← e4]; simp [l8]
          rw [el] at h ⊢
          exact ⟨_, _, _, rfl, _, _, rfl, (Own.sub (h) (by repeat (first | exact Sub.nil _ | exact Sub.rfl _ | (apply Sub.cons; focus ((repeat (first | with_reducible exact Pick.here | apply Pick.there)); done)) | apply Sub.drop)))⟩
    · rintro w15 q10 k24 k25
      intros
      rename_i hJ
      obtain ⟨q', c', hvs, h⟩ := hJ
      obtain ⟨rfl, rfl, rfl⟩ : q10 = q' ∧ k24 = (putL (ns.take (i + 1))).length ∧ k25 = c' := by simpa using hvs
      refine ⟨m - 1, by omega, i + 1, q10, k25, ?_, by omega, h⟩
      rw [wI64 (by omega) (by omega)]; simp
  · have hc := dec_f hc
    obtain rfl : i = ns.length := by omega
    rw [List.take_length] at h ⊢
    exact ⟨_, _, rfl, h⟩
end
section
variable {W : World} {q q2 : Option Addr} {c c2 : Nat} {bs ns : List Int}
theorem tInt_end (l : List Int) : tInt l l.length = (0, l.length) := by
  have e1 : tbV l l.length = 0 := by unfold tbV; simp
  have e2 : tbA l l.length = l.length := by unfold tbA; simp
  unfold tInt; rw [e1, e2]; rfl
end
end Go.Proofs.Ytppmdifhoejhjaa.Eng
