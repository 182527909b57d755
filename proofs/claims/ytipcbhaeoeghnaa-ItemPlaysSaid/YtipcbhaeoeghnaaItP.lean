/- Queues of items: what each function does. -/
import Derived.Test.YtipcbhaeoeghnaaRgP
import Derived.Test.YtipcbhaeoeghnaaItemQG
namespace Go.Proofs.Ytipcbhaeoeghnaa.Eng
open Go Go.RowKit Go.Proofs
set_option linter.unusedVariables false
set_option linter.unusedSimpArgs false
set_option maxRecDepth 1000000
set_option maxHeartbeats 2000000
def kwn (k : Int) : Prop := 1 ≤ k ∧ k ≤ 6
instance (k : Int) : Decidable (kwn k) := by unfold kwn; infer_instance
section
variable {V : Type}
def icnt (xs : List (Itm V)) (j : Int) : Nat := (xs.filter fun x => decide (x.k = j)).length
theorem icnt_app (xs : List (Itm V)) (x : Itm V) (j : Int) : icnt (xs ++ [x]) j = icnt xs j + if x.k = j then 1 else 0 := by
  unfold icnt
  rw [List.filter_append, List.length_append, List.filter_cons]
  by_cases h : x.k = j <;> simp [h]
theorem icnt_cons (x : Itm V) (r : List (Itm V)) (j : Int) : icnt (x :: r) j = (if x.k = j then 1 else 0) + icnt r j := by
  unfold icnt
  rw [List.filter_cons]
  by_cases h : x.k = j
  · simp [h]; omega
  · simp [h]
theorem icnt_le (xs : List (Itm V)) (j : Int) : icnt xs j ≤ xs.length := List.length_filter_le _ _
def kcs (xs : List (Itm V)) : List Int := (List.range 7).map fun (j : Nat) => ((icnt xs (j : Int) : Nat) : Int)
theorem kcs_len (xs : List (Itm V)) : (kcs xs).length = 7 := rfl
theorem kcs_at (xs : List (Itm V)) {j : Nat} (hj : j < 7) : (kcs xs)[j]'(by rw [kcs_len]; exact hj) = ((icnt xs (j : Int) : Nat) : Int) := by simp [kcs]
theorem kcs_put (xs : List (Itm V)) (x : Itm V) {j : Nat} (hj : x.k = (j : Int)) : (kcs xs).set j (((icnt xs (j : Int) : Nat) : Int) + 1) = kcs (xs ++ [x]) := by
  apply List.ext_getElem
  · simp [kcs_len]
  · intro i h1 h2
    rw [kcs_len] at h2
    rw [List.getElem_set, kcs_at (xs ++ [x]) h2]
    by_cases h : j = i
    · subst h; rw [if_pos rfl, icnt_app, if_pos hj]; rfl
    · rw [if_neg h, kcs_at xs h2, icnt_app, if_neg (by omega)]; rfl
theorem kcs_take (r : List (Itm V)) (x : Itm V) {j : Nat} (hj : x.k = (j : Int)) : (kcs (x :: r)).set j (((icnt (x :: r) (j : Int) : Nat) : Int) - 1) = kcs r := by
  apply List.ext_getElem
  · simp [kcs_len]
  · intro i h1 h2
    rw [kcs_len] at h2
    rw [List.getElem_set, kcs_at r h2]
    by_cases h : j = i
    · subst h; rw [if_pos rfl, icnt_cons, if_pos hj]; omega
    · rw [if_neg h, kcs_at (x :: r) h2, icnt_cons, if_neg (by omega)]; omega
end
def quC (gr : Nat) (kc : List Int) (sent full : Nat) : List Value := .pointer (some ⟨gr, 0, none⟩) :: (cs .i64 kc ++ [.int .i64 (sent : Int), .int .i64 (full : Int)])
section
variable {gr sent full : Nat} {kc : List Int}
theorem quC_sent (h : kc.length = 7) : (quC gr kc sent full)[8]? = some (.int .i64 (sent : Int)) := by simp [quC, cs, h]
theorem quC_full (h : kc.length = 7) : (quC gr kc sent full)[9]? = some (.int .i64 (full : Int)) := by simp [quC, cs, h]
theorem quC_kind {j : Nat} (hj : j < kc.length) : (quC gr kc sent full)[1 + j]? = some (.int .i64 kc[j]) := by
  rw [Nat.add_comm]
  unfold quC
  rw [List.getElem?_cons_succ, List.getElem?_append_left (by rw [cs_len]; exact hj)]
  exact cs_at hj
theorem quC_len (h : kc.length = 7) : (quC gr kc sent full).length = 10 := by simp [quC, cs, h]
theorem quC_sent' (h : kc.length = 7) (s : Nat) : setFrom (quC gr kc sent full) 8 [.int .i64 (s : Int)] = quC gr kc s full := by
  match kc, h with
  | [_, _, _, _, _, _, _], _ => rfl
theorem quC_full' (h : kc.length = 7) (s : Nat) : setFrom (quC gr kc sent full) 9 [.int .i64 (s : Int)] = quC gr kc sent s := by
  match kc, h with
  | [_, _, _, _, _, _, _], _ => rfl
theorem quC_kind' {j : Nat} (hj : j < kc.length) (y : Int) : setFrom (quC gr kc sent full) (1 + j) [.int .i64 y] = quC gr (kc.set j y) sent full := by
  unfold quC
  rw [Nat.add_comm]
  show List.set _ (j + 1) _ = _
  rw [List.set_cons_succ, List.set_append_left _ _ (by rw [cs_len]; exact hj)]
  simp [cs]
end
section
variable {e w : World} {F : List HP} {x : Int}
theorem itKnown (h : Own e w F) : Rets Try.prog 55 #[.int .i64 x] w fun v w' => v = .bool (decide (kwn x)) ∧ Own e w' F := by
  refine item_Known_go _ ⟨fun hc => ⟨?_, h⟩, fun hc => ⟨?_, h⟩⟩
  · have hc := dec_t hc
    congr 1; rw [decide_eq_decide]; unfold kwn; omega
  · have hc := dec_f hc
    rw [decide_eq_false (by unfold kwn; omega)]
theorem itMarker (h : Own e w F) : Rets Try.prog 56 #[.int .i64 x] w fun v w' => v = .bool (decide (4 ≤ x ∧ x ≤ 6)) ∧ Own e w' F := by
  refine item_Marker_go _ ⟨fun hc => ⟨?_, h⟩, fun hc => ⟨?_, h⟩⟩
  · have hc := dec_t hc
    congr 1; rw [decide_eq_decide]; omega
  · have hc := dec_f hc
    rw [decide_eq_false (by omega)]
def itNames : List ByteArray := [⟨#[110, 101, 119]⟩, ⟨#[117, 112, 100, 97, 116, 101]⟩, ⟨#[100, 101, 108]⟩, ⟨#[119, 97, 105, 116]⟩, ⟨#[99, 108, 101, 97, 114]⟩, ⟨#[108, 105, 109, 105, 116]⟩]
def itName (c : Int) : ByteArray := if kwn c then (itNames[(c - 1).toNat]?).getD ⟨#[]⟩ else ⟨#[]⟩
theorem itName_spec (h : Own e w F) : Rets Try.prog 57 #[.int .i64 x] w fun v w' => v = .string (itName x) ∧ Own e w' F := by
  refine item_Name_go _ ?_
  refine Rets.mono (itKnown h) ?_
  rintro _ w ⟨rfl, h⟩
  refine ⟨_, rfl, fun hx => ?_, fun hx => ?_⟩
  · have hx : ¬ kwn x := by simpa using hx
    unfold itName; rw [if_neg hx]; exact ⟨rfl, h⟩
  · have hx : kwn x := by simpa using hx
    have hkn : 1 ≤ x ∧ x ≤ 6 := hx
    rw [wI64 (by omega) (by omega)]
    refine ⟨by omega, by omega, ?_⟩
    have hcs : x = 1 ∨ x = 2 ∨ x = 3 ∨ x = 4 ∨ x = 5 ∨ x = 6 := by omega
    rcases hcs with rfl | rfl | rfl | rfl | rfl | rfl
    all_goals exact ⟨rfl, h⟩
theorem itName_ne (c : Int) : (!(itName c).toList == (⟨#[]⟩ : ByteArray).toList) = decide (kwn c) := by
  by_cases hk : kwn c
  · rw [decide_eq_true hk]
    have hkn : 1 ≤ c ∧ c ≤ 6 := hk
    have hcs : c = 1 ∨ c = 2 ∨ c = 3 ∨ c = 4 ∨ c = 5 ∨ c = 6 := by omega
    rcases hcs with rfl | rfl | rfl | rfl | rfl | rfl
    all_goals
      simp only [ByteArray.toList_eq]
      decide +kernel
  · rw [decide_eq_false hk]; unfold itName; rw [if_neg hk]; simp
end
/-! ### Of int -/
section
variable {e w : World} {F : List HP} {g room sent full : Nat} {xs : List (Itm Int)}
abbrev quB_int (g gr : Nat) (kc : List Int) (sent full : Nat) : HP := blk g 141 (quC gr kc sent full)
def quO_int (g : Nat) (xs : List (Itm Int)) (room sent full : Nat) : HP := exH fun (gr : Nat) => puH ((∀ x ∈ xs, kwn x.k) ∧ xs.length ≤ 64 ∧ room ≤ 64) (allH [quB_int g gr (kcs xs) sent full, rng_int gr xs room])
theorem quO_int.op (h : Own e w (quO_int g xs room sent full :: F)) : ∃ gr, ((∀ x ∈ xs, kwn x.k) ∧ xs.length ≤ 64 ∧ room ≤ 64) ∧ Own e w (quB_int g gr (kcs xs) sent full :: rng_int gr xs room :: F) := by
  obtain ⟨gr, h⟩ := h.ex
  obtain ⟨h1, h⟩ := h.pu
  exact ⟨gr, h1, h.open_⟩
theorem quO_int.cl {gr : Nat} (h1 : (∀ x ∈ xs, kwn x.k) ∧ xs.length ≤ 64 ∧ room ≤ 64) (h : Own e w (quB_int g gr (kcs xs) sent full :: rng_int gr xs room :: F)) : Own e w (quO_int g xs room sent full :: F) := by
  have h : Own e w ([quB_int g gr (kcs xs) sent full, rng_int gr xs room] ++ F) := h
  exact Own.mkEx gr (Own.mkPu h1 h.close_)
theorem quNew_int {r : Int} (h : Own e w F) : Rets Try.prog 40 #[.int .i64 r] w fun v w' => ∃ g, v = .pointer (some ⟨g, 0, none⟩) ∧ Own e w' (quO_int g [] (maxI 1 (minI r 64)).toNat 0 0 :: F) := by
  refine iq_int_New_go _ ?_
  have hb : 1 ≤ maxI 1 (minI r 64) ∧ maxI 1 (minI r 64) ≤ 64 := by unfold maxI minI; split <;> split <;> omega
  refine Rets.mono (rnNew_int h) ?_
  clear h
  rintro _ w ⟨gr, rfl, h⟩
  have er : (max 0 (min (maxI 1 (minI r 64)) 65536)).toNat = (maxI 1 (minI r 64)).toNat := by omega
  rw [er] at h
  refine ⟨_, rfl, h.newR fun g w h => ⟨g, rfl, quO_int.cl (gr := gr) ⟨fun x hx => (by cases hx), Nat.zero_le _, by omega⟩ h⟩⟩
theorem quLen_int (h : Own e w (quO_int g xs room sent full :: F)) : Rets Try.prog 46 #[.pointer (some ⟨g, 0, none⟩)] w fun v w' => v = .int .i64 (xs.length : Int) ∧ Own e w' (quO_int g xs room sent full :: F) := by
  obtain ⟨gr, h1, h⟩ := quO_int.op h
  refine iq_int_Len_go _ ⟨fun hc => (by cases hc), fun _ => ⟨_, Own.ld (g := g) (k := 0) h (by repeat (first | with_reducible exact Pick.here | apply Pick.there)) rfl, ?_⟩⟩
  refine Rets.mono (rnLen_int h.swap) ?_
  rintro _ w ⟨rfl, h⟩
  exact ⟨_, rfl, rfl, quO_int.cl h1 h.swap⟩
theorem quRoom_int (h : Own e w (quO_int g xs room sent full :: F)) : Rets Try.prog 47 #[.pointer (some ⟨g, 0, none⟩)] w fun v w' => v = .int .i64 (room : Int) ∧ Own e w' (quO_int g xs room sent full :: F) := by
  obtain ⟨gr, h1, h⟩ := quO_int.op h
  refine iq_int_Room_go _ ⟨fun hc => (by cases hc), fun _ => ⟨_, Own.ld (g := g) (k := 0) h (by repeat (first | with_reducible exact Pick.here | apply Pick.there)) rfl, ?_⟩⟩
  refine Rets.mono (rnRoom_int h.swap) ?_
  rintro _ w ⟨rfl, h⟩
  exact ⟨_, rfl, rfl, quO_int.cl h1 h.swap⟩
theorem quMay_int (h : Own e w (quO_int g xs room sent full :: F)) : Rets Try.prog 48 #[.pointer (some ⟨g, 0, none⟩)] w fun v w' => v = .bool (decide (xs.length < room)) ∧ Own e w' (quO_int g xs room sent full :: F) := by
  refine iq_int_May_go _ ?_
  refine Rets.mono (quLen_int h) ?_
  clear h
  rintro _ w ⟨rfl, h⟩
  refine ⟨_, rfl, ?_⟩
  refine Rets.mono (quRoom_int h) ?_
  clear h
  rintro _ w ⟨rfl, h⟩
  refine ⟨_, rfl, ?_, h⟩
  congr 1; rw [decide_eq_decide]; omega
theorem quSent_int (h : Own e w (quO_int g xs room sent full :: F)) : Rets Try.prog 49 #[.pointer (some ⟨g, 0, none⟩)] w fun v w' => v = .int .i64 (sent : Int) ∧ Own e w' (quO_int g xs room sent full :: F) := by
  obtain ⟨gr, h1, h⟩ := quO_int.op h
  exact iq_int_Sent_go _ ⟨fun hc => (by cases hc), fun _ => ⟨_, Own.ld (g := g) (k := 8) h (by repeat (first | with_reducible exact Pick.here | apply Pick.there)) (quC_sent (kcs_len _)), rfl, quO_int.cl h1 h⟩⟩
theorem quFull_int (h : Own e w (quO_int g xs room sent full :: F)) : Rets Try.prog 50 #[.pointer (some ⟨g, 0, none⟩)] w fun v w' => v = .int .i64 (full : Int) ∧ Own e w' (quO_int g xs room sent full :: F) := by
  obtain ⟨gr, h1, h⟩ := quO_int.op h
  exact iq_int_Full_go _ ⟨fun hc => (by cases hc), fun _ => ⟨_, Own.ld (g := g) (k := 9) h (by repeat (first | with_reducible exact Pick.here | apply Pick.there)) (quC_full (kcs_len _)), rfl, quO_int.cl h1 h⟩⟩
theorem quCount_int {x : Int} (h : Own e w (quO_int g xs room sent full :: F)) : Rets Try.prog 51 #[.pointer (some ⟨g, 0, none⟩), .int .i64 x] w fun v w' => v = .int .i64 (if kwn x then (icnt xs x : Int) else 0) ∧ Own e w' (quO_int g xs room sent full :: F) := by
  obtain ⟨gr, h1, h⟩ := quO_int.op h
  refine iq_int_Count_go _ _ ⟨fun _ => ?_, fun hc => (by cases hc)⟩
  refine Rets.mono (itKnown h) ?_
  clear h
  rintro _ w ⟨rfl, h⟩
  refine ⟨_, rfl, fun hx => ?_, fun hx => ?_⟩
  · have hx : ¬ kwn x := by simpa using hx
    rw [if_neg hx]
    exact ⟨rfl, quO_int.cl h1 h⟩
  · have hx : kwn x := by simpa using hx
    rw [if_pos hx]
    have hx2 : 1 ≤ x ∧ x ≤ 6 := hx
    obtain ⟨j, rfl⟩ := Int.eq_ofNat_of_zero_le (show 0 ≤ x by omega)
    refine ⟨by omega, by omega, _, ?_, rfl, quO_int.cl h1 h⟩
    rw [Int.toNat_natCast, Nat.mul_one, addr_add_add]
    have := Own.ld (g := g) (k := 1 + j) h (by repeat (first | with_reducible exact Pick.here | apply Pick.there)) (quC_kind (kc := kcs xs) (j := j) (by rw [kcs_len]; omega))
    rw [kcs_at xs (by omega)] at this
    exact this
theorem quOffer_int {x : Itm Int} (hs : sent ≤ 1000 ∧ full ≤ 1000) (h : Own e w (quO_int g xs room sent full :: F)) : Rets Try.prog 45 #[.pointer (some ⟨g, 0, none⟩), itV (Value.int .i64) x] w fun v w' => v = .bool (decide (kwn x.k ∧ xs.length < room)) ∧ Own e w' (quO_int g (if kwn x.k ∧ xs.length < room then xs ++ [x] else xs) room (if kwn x.k ∧ xs.length < room then sent + 1 else sent) (if kwn x.k ∧ ¬ xs.length < room then full + 1 else full) :: F) := by
  refine iq_int_Offer_go _ _ _ _ _ _ _ _ _ _ (h.newR fun a w h => ⟨fun _ => ?_, fun hc => (by cases hc)⟩)
  have h : Own e w (quO_int g xs room sent full :: blk a 83 (itC (Value.int .i64) x) :: F) := h.swap
  refine ⟨_, Own.ld (g := a) (k := 0) h (by repeat (first | with_reducible exact Pick.here | apply Pick.there)) rfl, ?_⟩
  refine Rets.mono (itKnown h) ?_
  clear h
  rintro _ w ⟨rfl, h⟩
  refine ⟨_, rfl, fun hx => ?_, fun hx => ?_⟩
  · have hx : ¬ kwn x.k := by simpa using hx
    rw [if_neg (fun q => hx q.1), if_neg (fun q => hx q.1), if_neg (fun q => hx q.1), decide_eq_false (fun q => hx q.1)]
    exact ⟨rfl, h.swap.drop⟩
  · have hx : kwn x.k := by simpa using hx
    obtain ⟨gr, h1, h⟩ := quO_int.op h
    refine h.drw fun w h => ⟨_, Own.ld (g := g) (k := 0) h (by repeat (first | with_reducible exact Pick.here | apply Pick.there)) rfl, _, _, _, _, _, _, _, _, _, ⟨Own.ld (g := a) h (by repeat (first | with_reducible exact Pick.here | apply Pick.there)) rfl, Own.ld (g := a) h (by repeat (first | with_reducible exact Pick.here | apply Pick.there)) rfl, Own.ld (g := a) h (by repeat (first | with_reducible exact Pick.here | apply Pick.there)) rfl, Own.ld (g := a) h (by repeat (first | with_reducible exact Pick.here | apply Pick.there)) rfl, Own.ld (g := a) h (by repeat (first | with_reducible exact Pick.here | apply Pick.there)) rfl, Own.ld (g := a) h (by repeat (first | with_reducible exact Pick.here | apply Pick.there)) rfl, Own.ld (g := a) h (by repeat (first | with_reducible exact Pick.here | apply Pick.there)) rfl, Own.ld (g := a) h (by repeat (first | with_reducible exact Pick.here | apply Pick.there)) rfl, Own.ld (g := a) h (by repeat (first | with_reducible exact Pick.here | apply Pick.there)) rfl⟩, ?_⟩
    refine Rets.mono (rnSend_int (x := x) h.swap (by omega)) ?_
    clear h
    rintro _ w ⟨rfl, h⟩
    refine ⟨_, rfl, fun hn => ?_, fun hn => ?_⟩
    · have hn : ¬ xs.length < room := by simpa using hn
      rw [if_neg hn] at h
      rw [if_neg (fun q => hn q.2), if_neg (fun q => hn q.2), if_pos ⟨hx, hn⟩, decide_eq_false (fun q => hn q.2)]
      refine ⟨_, Own.ld (g := g) (k := 9) h (by repeat (first | with_reducible exact Pick.here | apply Pick.there)) (quC_full (kcs_len _)), Own.stP (g := g) (k := 9) h (by repeat (first | with_reducible exact Pick.here | apply Pick.there)) (by rw [quC_len (kcs_len _)]; simp) (by simp [Value.oneCell']) fun w h => ⟨rfl, ?_⟩⟩
      rw [wI64 (by omega) (by omega)] at h
      have e1 : setFrom (quC gr (kcs xs) sent full) 9 [.int .i64 ((full : Int) + 1)] = quC gr (kcs xs) sent (full + 1) := quC_full' (kcs_len _) (full + 1)
      rw [e1] at h
      exact quO_int.cl h1 (Own.sub (h) (by repeat (first | with_reducible exact Sub.nil _ | with_reducible exact Sub.rfl _ | (apply Sub.cons; focus ((repeat (first | with_reducible exact Pick.here | apply Pick.there)); done)) | apply Sub.drop)))
    · have hn : xs.length < room := by simpa using hn
      rw [if_pos hn] at h
      rw [if_pos ⟨hx, hn⟩, if_pos ⟨hx, hn⟩, if_neg (fun q => q.2 hn), decide_eq_true ⟨hx, hn⟩]
      have hx2 : 1 ≤ x.k ∧ x.k ≤ 6 := hx
      obtain ⟨j, hj⟩ := Int.eq_ofNat_of_zero_le (show 0 ≤ x.k by omega)
      have hcl := icnt_le xs (j : Int)
      have hk7 : j < (kcs xs).length := by rw [kcs_len]; omega
      refine h.drw fun w h => ⟨_, Own.ld (g := a) (k := 0) h (by repeat (first | with_reducible exact Pick.here | apply Pick.there)) rfl, by omega, by omega, ((icnt xs (j : Int) : Nat) : Int), ?_, by omega, by omega, ?_⟩
      · rw [hj, Int.toNat_natCast, Nat.mul_one, addr_add_add]
        have := Own.ld (g := g) (k := 1 + j) h (by repeat (first | with_reducible exact Pick.here | apply Pick.there)) (quC_kind (kc := kcs xs) (j := j) hk7)
        rw [kcs_at xs (by omega)] at this
        exact this
      · rw [hj, Int.toNat_natCast, Nat.mul_one, addr_add_add]
        refine Own.stP (g := g) (k := 1 + j) h (by repeat (first | with_reducible exact Pick.here | apply Pick.there)) (by rw [quC_len (kcs_len _)]; simp; omega) (by simp [Value.oneCell']) fun w h => ?_
        rw [wI64 (by omega) (by omega), quC_kind' hk7, kcs_put xs x hj] at h
        refine ⟨_, Own.ld (g := g) (k := 8) h (by repeat (first | with_reducible exact Pick.here | apply Pick.there)) (quC_sent (kcs_len _)), Own.stP (g := g) (k := 8) h (by repeat (first | with_reducible exact Pick.here | apply Pick.there)) (by rw [quC_len (kcs_len _)]; simp) (by simp [Value.oneCell']) fun w h => ⟨rfl, ?_⟩⟩
        rw [wI64 (by omega) (by omega)] at h
        have e1 : setFrom (quC gr (kcs (xs ++ [x])) sent full) 8 [.int .i64 ((sent : Int) + 1)] = quC gr (kcs (xs ++ [x])) (sent + 1) full := quC_sent' (kcs_len _) (sent + 1)
        rw [e1] at h
        refine quO_int.cl (gr := gr) ⟨fun y hy => ?_, by simp; omega, h1.2.2⟩ (Own.sub (h) (by repeat (first | with_reducible exact Sub.nil _ | with_reducible exact Sub.rfl _ | (apply Sub.cons; focus ((repeat (first | with_reducible exact Pick.here | apply Pick.there)); done)) | apply Sub.drop)))
        rcases List.mem_append.1 hy with hy | hy
        · exact h1.1 y hy
        · rw [List.mem_singleton.1 hy]; exact hx
theorem quTake_int (h : Own e w (quO_int g xs room sent full :: F)) : Rets Try.prog 43 #[.pointer (some ⟨g, 0, none⟩)] w fun v w' => v = .tuple #[itV (Value.int .i64) (xs.head?.getD (itZ (0 : Int))), .bool (decide (0 < xs.length))] ∧ Own e w' (quO_int g xs.tail room sent full :: F) := by
  refine iq_int_Take_go _ (h.newR fun a1 w h => ⟨fun hc => (by cases hc), fun _ => ?_⟩)
  obtain ⟨gr, h1, h⟩ := quO_int.op h.swap
  refine ⟨_, Own.ld (g := g) (k := 0) h (by repeat (first | with_reducible exact Pick.here | apply Pick.there)) rfl, ?_⟩
  refine Rets.mono (rnTake_int h.swap) ?_
  clear h
  rintro _ w ⟨rfl, h⟩
  refine ⟨_, _, _, _, _, _, _, _, _, _, rfl, h.newR fun a2 w h => Own.stP' (g := a2) h (by repeat (first | with_reducible exact Pick.here | apply Pick.there)) (by simp) (by simp [Value.oneCell']) fun w h => ?_⟩
  obtain ⟨y, hy⟩ : ∃ y, y = xs.head?.getD (itZ (0 : Int)) := ⟨_, rfl⟩
  rw [← hy] at h ⊢
  have h : Own e w (blk a2 83 (itC (Value.int .i64) y) :: rng_int gr xs.tail room :: quB_int g gr (kcs xs) sent full :: blk a1 83 (itC (Value.int .i64) (itZ (0 : Int))) :: F) := h
  refine ⟨fun hb => ?_, fun hb => ?_⟩
  · have hb := dec_t hb
    cases xs with
    | nil => simp at hb
    | cons x r =>
      obtain rfl : y = x := hy
      have hx := h1.1 y List.mem_cons_self
      have hx2 : 1 ≤ y.k ∧ y.k ≤ 6 := hx
      obtain ⟨j, hj⟩ := Int.eq_ofNat_of_zero_le (show 0 ≤ y.k by omega)
      have hcl := icnt_le (y :: r) (j : Int)
      have hk7 : j < (kcs (y :: r)).length := by rw [kcs_len]; omega
      refine h.drw fun w h => ⟨_, Own.ld (g := a2) (k := 0) h (by repeat (first | with_reducible exact Pick.here | apply Pick.there)) rfl, by omega, by omega, ((icnt (y :: r) (j : Int) : Nat) : Int), ?_, by omega, by omega, ?_⟩
      · rw [hj, Int.toNat_natCast, Nat.mul_one, addr_add_add]
        have := Own.ld (g := g) (k := 1 + j) h (by repeat (first | with_reducible exact Pick.here | apply Pick.there)) (quC_kind (kc := kcs (y :: r)) (j := j) hk7)
        rw [kcs_at (y :: r) (by omega)] at this
        exact this
      · rw [hj, Int.toNat_natCast, Nat.mul_one, addr_add_add]
        refine Own.stP (g := g) (k := 1 + j) h (by repeat (first | with_reducible exact Pick.here | apply Pick.there)) (by rw [quC_len (kcs_len _)]; simp; omega) (by simp [Value.oneCell']) fun w h => ?_
        have hln := h1.2.1
        rw [wI64 (by omega) (by omega), quC_kind' hk7, kcs_take r y hj] at h
        refine ⟨_, _, _, _, _, _, _, _, _, ⟨Own.ld (g := a2) h (by repeat (first | with_reducible exact Pick.here | apply Pick.there)) rfl, Own.ld (g := a2) h (by repeat (first | with_reducible exact Pick.here | apply Pick.there)) rfl, Own.ld (g := a2) h (by repeat (first | with_reducible exact Pick.here | apply Pick.there)) rfl, Own.ld (g := a2) h (by repeat (first | with_reducible exact Pick.here | apply Pick.there)) rfl, Own.ld (g := a2) h (by repeat (first | with_reducible exact Pick.here | apply Pick.there)) rfl, Own.ld (g := a2) h (by repeat (first | with_reducible exact Pick.here | apply Pick.there)) rfl, Own.ld (g := a2) h (by repeat (first | with_reducible exact Pick.here | apply Pick.there)) rfl, Own.ld (g := a2) h (by repeat (first | with_reducible exact Pick.here | apply Pick.there)) rfl, Own.ld (g := a2) h (by repeat (first | with_reducible exact Pick.here | apply Pick.there)) rfl⟩, Own.stP' (g := a1) h (by repeat (first | with_reducible exact Pick.here | apply Pick.there)) (by simp) (by simp [Value.oneCell']) fun w h => ?_⟩
        have h : Own e w (blk a1 83 (itC (Value.int .i64) y) :: quB_int g gr (kcs r) sent full :: blk a2 83 (itC (Value.int .i64) y) :: rng_int gr r room :: F) := h
        refine ⟨_, _, _, _, _, _, _, _, _, ⟨Own.ld (g := a1) h (by repeat (first | with_reducible exact Pick.here | apply Pick.there)) rfl, Own.ld (g := a1) h (by repeat (first | with_reducible exact Pick.here | apply Pick.there)) rfl, Own.ld (g := a1) h (by repeat (first | with_reducible exact Pick.here | apply Pick.there)) rfl, Own.ld (g := a1) h (by repeat (first | with_reducible exact Pick.here | apply Pick.there)) rfl, Own.ld (g := a1) h (by repeat (first | with_reducible exact Pick.here | apply Pick.there)) rfl, Own.ld (g := a1) h (by repeat (first | with_reducible exact Pick.here | apply Pick.there)) rfl, Own.ld (g := a1) h (by repeat (first | with_reducible exact Pick.here | apply Pick.there)) rfl, Own.ld (g := a1) h (by repeat (first | with_reducible exact Pick.here | apply Pick.there)) rfl, Own.ld (g := a1) h (by repeat (first | with_reducible exact Pick.here | apply Pick.there)) rfl⟩, ?_, ?_⟩
        · rw [decide_eq_true (by simp)]
        · exact quO_int.cl (xs := r) (gr := gr) ⟨fun z hz => h1.1 z (List.mem_cons_of_mem _ hz), by simp at hln; omega, h1.2.2⟩ (Own.sub (h) (by repeat (first | with_reducible exact Sub.nil _ | with_reducible exact Sub.rfl _ | (apply Sub.cons; focus ((repeat (first | with_reducible exact Pick.here | apply Pick.there)); done)) | apply Sub.drop)))
  · have hb := dec_f hb
    obtain rfl : xs = [] := List.eq_nil_of_length_eq_zero (by omega)
    refine ⟨_, _, _, _, _, _, _, _, _, ⟨Own.ld (g := a2) h (by repeat (first | with_reducible exact Pick.here | apply Pick.there)) rfl, Own.ld (g := a2) h (by repeat (first | with_reducible exact Pick.here | apply Pick.there)) rfl, Own.ld (g := a2) h (by repeat (first | with_reducible exact Pick.here | apply Pick.there)) rfl, Own.ld (g := a2) h (by repeat (first | with_reducible exact Pick.here | apply Pick.there)) rfl, Own.ld (g := a2) h (by repeat (first | with_reducible exact Pick.here | apply Pick.there)) rfl, Own.ld (g := a2) h (by repeat (first | with_reducible exact Pick.here | apply Pick.there)) rfl, Own.ld (g := a2) h (by repeat (first | with_reducible exact Pick.here | apply Pick.there)) rfl, Own.ld (g := a2) h (by repeat (first | with_reducible exact Pick.here | apply Pick.there)) rfl, Own.ld (g := a2) h (by repeat (first | with_reducible exact Pick.here | apply Pick.there)) rfl⟩, Own.stP' (g := a1) h (by repeat (first | with_reducible exact Pick.here | apply Pick.there)) (by simp) (by simp [Value.oneCell']) fun w h => ?_⟩
    have h : Own e w (blk a1 83 (itC (Value.int .i64) y) :: blk a2 83 (itC (Value.int .i64) y) :: rng_int gr [] room :: quB_int g gr (kcs ([] : List (Itm Int))) sent full :: F) := h
    refine ⟨_, _, _, _, _, _, _, _, _, ⟨Own.ld (g := a1) h (by repeat (first | with_reducible exact Pick.here | apply Pick.there)) rfl, Own.ld (g := a1) h (by repeat (first | with_reducible exact Pick.here | apply Pick.there)) rfl, Own.ld (g := a1) h (by repeat (first | with_reducible exact Pick.here | apply Pick.there)) rfl, Own.ld (g := a1) h (by repeat (first | with_reducible exact Pick.here | apply Pick.there)) rfl, Own.ld (g := a1) h (by repeat (first | with_reducible exact Pick.here | apply Pick.there)) rfl, Own.ld (g := a1) h (by repeat (first | with_reducible exact Pick.here | apply Pick.there)) rfl, Own.ld (g := a1) h (by repeat (first | with_reducible exact Pick.here | apply Pick.there)) rfl, Own.ld (g := a1) h (by repeat (first | with_reducible exact Pick.here | apply Pick.there)) rfl, Own.ld (g := a1) h (by repeat (first | with_reducible exact Pick.here | apply Pick.there)) rfl⟩, ?_, ?_⟩
    · rw [decide_eq_false (by simp)]
    · exact quO_int.cl (xs := []) (gr := gr) h1 (Own.sub (h) (by repeat (first | with_reducible exact Sub.nil _ | with_reducible exact Sub.rfl _ | (apply Sub.cons; focus ((repeat (first | with_reducible exact Pick.here | apply Pick.there)); done)) | apply Sub.drop)))
end
/-! ### Of string -/
section
variable {e w : World} {F : List HP} {g room sent full : Nat} {xs : List (Itm ByteArray)}
abbrev quB_string (g gr : Nat) (kc : List Int) (sent full : Nat) : HP := blk g 145 (quC gr kc sent full)
def quO_string (g : Nat) (xs : List (Itm ByteArray)) (room sent full : Nat) : HP := exH fun (gr : Nat) => puH ((∀ x ∈ xs, kwn x.k) ∧ xs.length ≤ 64 ∧ room ≤ 64) (allH [quB_string g gr (kcs xs) sent full, rng_string gr xs room])
theorem quO_string.op (h : Own e w (quO_string g xs room sent full :: F)) : ∃ gr, ((∀ x ∈ xs, kwn x.k) ∧ xs.length ≤ 64 ∧ room ≤ 64) ∧ Own e w (quB_string g gr (kcs xs) sent full :: rng_string gr xs room :: F) := by
  obtain ⟨gr, h⟩ := h.ex
  obtain ⟨h1, h⟩ := h.pu
  exact ⟨gr, h1, h.open_⟩
theorem quO_string.cl {gr : Nat} (h1 : (∀ x ∈ xs, kwn x.k) ∧ xs.length ≤ 64 ∧ room ≤ 64) (h : Own e w (quB_string g gr (kcs xs) sent full :: rng_string gr xs room :: F)) : Own e w (quO_string g xs room sent full :: F) := by
  have h : Own e w ([quB_string g gr (kcs xs) sent full, rng_string gr xs room] ++ F) := h
  exact Own.mkEx gr (Own.mkPu h1 h.close_)
theorem quNew_string {r : Int} (h : Own e w F) : Rets Try.prog 54 #[.int .i64 r] w fun v w' => ∃ g, v = .pointer (some ⟨g, 0, none⟩) ∧ Own e w' (quO_string g [] (maxI 1 (minI r 64)).toNat 0 0 :: F) := by
  refine iq_string_New_go _ ?_
  have hb : 1 ≤ maxI 1 (minI r 64) ∧ maxI 1 (minI r 64) ≤ 64 := by unfold maxI minI; split <;> split <;> omega
  refine Rets.mono (rnNew_string h) ?_
  clear h
  rintro _ w ⟨gr, rfl, h⟩
  have er : (max 0 (min (maxI 1 (minI r 64)) 65536)).toNat = (maxI 1 (minI r 64)).toNat := by omega
  rw [er] at h
  refine ⟨_, rfl, h.newR fun g w h => ⟨g, rfl, quO_string.cl (gr := gr) ⟨fun x hx => (by cases hx), Nat.zero_le _, by omega⟩ h⟩⟩
theorem quLen_string (h : Own e w (quO_string g xs room sent full :: F)) : Rets Try.prog 62 #[.pointer (some ⟨g, 0, none⟩)] w fun v w' => v = .int .i64 (xs.length : Int) ∧ Own e w' (quO_string g xs room sent full :: F) := by
  obtain ⟨gr, h1, h⟩ := quO_string.op h
  refine iq_string_Len_go _ ⟨fun hc => (by cases hc), fun _ => ⟨_, Own.ld (g := g) (k := 0) h (by repeat (first | with_reducible exact Pick.here | apply Pick.there)) rfl, ?_⟩⟩
  refine Rets.mono (rnLen_string h.swap) ?_
  rintro _ w ⟨rfl, h⟩
  exact ⟨_, rfl, rfl, quO_string.cl h1 h.swap⟩
theorem quRoom_string (h : Own e w (quO_string g xs room sent full :: F)) : Rets Try.prog 99 #[.pointer (some ⟨g, 0, none⟩)] w fun v w' => v = .int .i64 (room : Int) ∧ Own e w' (quO_string g xs room sent full :: F) := by
  obtain ⟨gr, h1, h⟩ := quO_string.op h
  refine iq_string_Room_go _ ⟨fun hc => (by cases hc), fun _ => ⟨_, Own.ld (g := g) (k := 0) h (by repeat (first | with_reducible exact Pick.here | apply Pick.there)) rfl, ?_⟩⟩
  refine Rets.mono (rnRoom_string h.swap) ?_
  rintro _ w ⟨rfl, h⟩
  exact ⟨_, rfl, rfl, quO_string.cl h1 h.swap⟩
theorem quMay_string (h : Own e w (quO_string g xs room sent full :: F)) : Rets Try.prog 58 #[.pointer (some ⟨g, 0, none⟩)] w fun v w' => v = .bool (decide (xs.length < room)) ∧ Own e w' (quO_string g xs room sent full :: F) := by
  refine iq_string_May_go _ ?_
  refine Rets.mono (quLen_string h) ?_
  clear h
  rintro _ w ⟨rfl, h⟩
  refine ⟨_, rfl, ?_⟩
  refine Rets.mono (quRoom_string h) ?_
  clear h
  rintro _ w ⟨rfl, h⟩
  refine ⟨_, rfl, ?_, h⟩
  congr 1; rw [decide_eq_decide]; omega
theorem quSent_string (h : Own e w (quO_string g xs room sent full :: F)) : Rets Try.prog 61 #[.pointer (some ⟨g, 0, none⟩)] w fun v w' => v = .int .i64 (sent : Int) ∧ Own e w' (quO_string g xs room sent full :: F) := by
  obtain ⟨gr, h1, h⟩ := quO_string.op h
  exact iq_string_Sent_go _ ⟨fun hc => (by cases hc), fun _ => ⟨_, Own.ld (g := g) (k := 8) h (by repeat (first | with_reducible exact Pick.here | apply Pick.there)) (quC_sent (kcs_len _)), rfl, quO_string.cl h1 h⟩⟩
theorem quOffer_string {x : Itm ByteArray} (hs : sent ≤ 1000 ∧ full ≤ 1000) (h : Own e w (quO_string g xs room sent full :: F)) : Rets Try.prog 59 #[.pointer (some ⟨g, 0, none⟩), itV Value.string x] w fun v w' => v = .bool (decide (kwn x.k ∧ xs.length < room)) ∧ Own e w' (quO_string g (if kwn x.k ∧ xs.length < room then xs ++ [x] else xs) room (if kwn x.k ∧ xs.length < room then sent + 1 else sent) (if kwn x.k ∧ ¬ xs.length < room then full + 1 else full) :: F) := by
  refine iq_string_Offer_go _ _ _ _ _ _ _ _ _ _ (h.newR fun a w h => ⟨fun _ => ?_, fun hc => (by cases hc)⟩)
  have h : Own e w (quO_string g xs room sent full :: blk a 99 (itC Value.string x) :: F) := h.swap
  refine ⟨_, Own.ld (g := a) (k := 0) h (by repeat (first | with_reducible exact Pick.here | apply Pick.there)) rfl, ?_⟩
  refine Rets.mono (itKnown h) ?_
  clear h
  rintro _ w ⟨rfl, h⟩
  refine ⟨_, rfl, fun hx => ?_, fun hx => ?_⟩
  · have hx : ¬ kwn x.k := by simpa using hx
    rw [if_neg (fun q => hx q.1), if_neg (fun q => hx q.1), if_neg (fun q => hx q.1), decide_eq_false (fun q => hx q.1)]
    exact ⟨rfl, h.swap.drop⟩
  · have hx : kwn x.k := by simpa using hx
    obtain ⟨gr, h1, h⟩ := quO_string.op h
    refine h.drw fun w h => ⟨_, Own.ld (g := g) (k := 0) h (by repeat (first | with_reducible exact Pick.here | apply Pick.there)) rfl, _, _, _, _, _, _, _, _, _, ⟨Own.ld (g := a) h (by repeat (first | with_reducible exact Pick.here | apply Pick.there)) rfl, Own.ld (g := a) h (by repeat (first | with_reducible exact Pick.here | apply Pick.there)) rfl, Own.ld (g := a) h (by repeat (first | with_reducible exact Pick.here | apply Pick.there)) rfl, Own.ld (g := a) h (by repeat (first | with_reducible exact Pick.here | apply Pick.there)) rfl, Own.ld (g := a) h (by repeat (first | with_reducible exact Pick.here | apply Pick.there)) rfl, Own.ld (g := a) h (by repeat (first | with_reducible exact Pick.here | apply Pick.there)) rfl, Own.ld (g := a) h (by repeat (first | with_reducible exact Pick.here | apply Pick.there)) rfl, Own.ld (g := a) h (by repeat (first | with_reducible exact Pick.here | apply Pick.there)) rfl, Own.ld (g := a) h (by repeat (first | with_reducible exact Pick.here | apply Pick.there)) rfl⟩, ?_⟩
    refine Rets.mono (rnSend_string (x := x) h.swap (by omega)) ?_
    clear h
    rintro _ w ⟨rfl, h⟩
    refine ⟨_, rfl, fun hn => ?_, fun hn => ?_⟩
    · have hn : ¬ xs.length < room := by simpa using hn
      rw [if_neg hn] at h
      rw [if_neg (fun q => hn q.2), if_neg (fun q => hn q.2), if_pos ⟨hx, hn⟩, decide_eq_false (fun q => hn q.2)]
      refine ⟨_, Own.ld (g := g) (k := 9) h (by repeat (first | with_reducible exact Pick.here | apply Pick.there)) (quC_full (kcs_len _)), Own.stP (g := g) (k := 9) h (by repeat (first | with_reducible exact Pick.here | apply Pick.there)) (by rw [quC_len (kcs_len _)]; simp) (by simp [Value.oneCell']) fun w h => ⟨rfl, ?_⟩⟩
      rw [wI64 (by omega) (by omega)] at h
      have e1 : setFrom (quC gr (kcs xs) sent full) 9 [.int .i64 ((full : Int) + 1)] = quC gr (kcs xs) sent (full + 1) := quC_full' (kcs_len _) (full + 1)
      rw [e1] at h
      exact quO_string.cl h1 (Own.sub (h) (by repeat (first | with_reducible exact Sub.nil _ | with_reducible exact Sub.rfl _ | (apply Sub.cons; focus ((repeat (first | with_reducible exact Pick.here | apply Pick.there)); done)) | apply Sub.drop)))
    · have hn : xs.length < room := by simpa using hn
      rw [if_pos hn] at h
      rw [if_pos ⟨hx, hn⟩, if_pos ⟨hx, hn⟩, if_neg (fun q => q.2 hn), decide_eq_true ⟨hx, hn⟩]
      have hx2 : 1 ≤ x.k ∧ x.k ≤ 6 := hx
      obtain ⟨j, hj⟩ := Int.eq_ofNat_of_zero_le (show 0 ≤ x.k by omega)
      have hcl := icnt_le xs (j : Int)
      have hk7 : j < (kcs xs).length := by rw [kcs_len]; omega
      refine h.drw fun w h => ⟨_, Own.ld (g := a) (k := 0) h (by repeat (first | with_reducible exact Pick.here | apply Pick.there)) rfl, by omega, by omega, ((icnt xs (j : Int) : Nat) : Int), ?_, by omega, by omega, ?_⟩
      · rw [hj, Int.toNat_natCast, Nat.mul_one, addr_add_add]
        have := Own.ld (g := g) (k := 1 + j) h (by repeat (first | with_reducible exact Pick.here | apply Pick.there)) (quC_kind (kc := kcs xs) (j := j) hk7)
        rw [kcs_at xs (by omega)] at this
        exact this
      · rw [hj, Int.toNat_natCast, Nat.mul_one, addr_add_add]
        refine Own.stP (g := g) (k := 1 + j) h (by repeat (first | with_reducible exact Pick.here | apply Pick.there)) (by rw [quC_len (kcs_len _)]; simp; omega) (by simp [Value.oneCell']) fun w h => ?_
        rw [wI64 (by omega) (by omega), quC_kind' hk7, kcs_put xs x hj] at h
        refine ⟨_, Own.ld (g := g) (k := 8) h (by repeat (first | with_reducible exact Pick.here | apply Pick.there)) (quC_sent (kcs_len _)), Own.stP (g := g) (k := 8) h (by repeat (first | with_reducible exact Pick.here | apply Pick.there)) (by rw [quC_len (kcs_len _)]; simp) (by simp [Value.oneCell']) fun w h => ⟨rfl, ?_⟩⟩
        rw [wI64 (by omega) (by omega)] at h
        have e1 : setFrom (quC gr (kcs (xs ++ [x])) sent full) 8 [.int .i64 ((sent : Int) + 1)] = quC gr (kcs (xs ++ [x])) (sent + 1) full := quC_sent' (kcs_len _) (sent + 1)
        rw [e1] at h
        refine quO_string.cl (gr := gr) ⟨fun y hy => ?_, by simp; omega, h1.2.2⟩ (Own.sub (h) (by repeat (first | with_reducible exact Sub.nil _ | with_reducible exact Sub.rfl _ | (apply Sub.cons; focus ((repeat (first | with_reducible exact Pick.here | apply Pick.there)); done)) | apply Sub.drop)))
        rcases List.mem_append.1 hy with hy | hy
        · exact h1.1 y hy
        · rw [List.mem_singleton.1 hy]; exact hx
theorem quTake_string (h : Own e w (quO_string g xs room sent full :: F)) : Rets Try.prog 60 #[.pointer (some ⟨g, 0, none⟩)] w fun v w' => v = .tuple #[itV Value.string (xs.head?.getD (itZ (⟨#[]⟩ : ByteArray))), .bool (decide (0 < xs.length))] ∧ Own e w' (quO_string g xs.tail room sent full :: F) := by
  refine iq_string_Take_go _ (h.newR fun a1 w h => ⟨fun hc => (by cases hc), fun _ => ?_⟩)
  obtain ⟨gr, h1, h⟩ := quO_string.op h.swap
  refine ⟨_, Own.ld (g := g) (k := 0) h (by repeat (first | with_reducible exact Pick.here | apply Pick.there)) rfl, ?_⟩
  refine Rets.mono (rnTake_string h.swap) ?_
  clear h
  rintro _ w ⟨rfl, h⟩
  refine ⟨_, _, _, _, _, _, _, _, _, _, rfl, h.newR fun a2 w h => Own.stP' (g := a2) h (by repeat (first | with_reducible exact Pick.here | apply Pick.there)) (by simp) (by simp [Value.oneCell']) fun w h => ?_⟩
  obtain ⟨y, hy⟩ : ∃ y, y = xs.head?.getD (itZ (⟨#[]⟩ : ByteArray)) := ⟨_, rfl⟩
  rw [← hy] at h ⊢
  have h : Own e w (blk a2 99 (itC Value.string y) :: rng_string gr xs.tail room :: quB_string g gr (kcs xs) sent full :: blk a1 99 (itC Value.string (itZ (⟨#[]⟩ : ByteArray))) :: F) := h
  refine ⟨fun hb => ?_, fun hb => ?_⟩
  · have hb := dec_t hb
    cases xs with
    | nil => simp at hb
    | cons x r =>
      obtain rfl : y = x := hy
      have hx := h1.1 y List.mem_cons_self
      have hx2 : 1 ≤ y.k ∧ y.k ≤ 6 := hx
      obtain ⟨j, hj⟩ := Int.eq_ofNat_of_zero_le (show 0 ≤ y.k by omega)
      have hcl := icnt_le (y :: r) (j : Int)
      have hk7 : j < (kcs (y :: r)).length := by rw [kcs_len]; omega
      refine h.drw fun w h => ⟨_, Own.ld (g := a2) (k := 0) h (by repeat (first | with_reducible exact Pick.here | apply Pick.there)) rfl, by omega, by omega, ((icnt (y :: r) (j : Int) : Nat) : Int), ?_, by omega, by omega, ?_⟩
      · rw [hj, Int.toNat_natCast, Nat.mul_one, addr_add_add]
        have := Own.ld (g := g) (k := 1 + j) h (by repeat (first | with_reducible exact Pick.here | apply Pick.there)) (quC_kind (kc := kcs (y :: r)) (j := j) hk7)
        rw [kcs_at (y :: r) (by omega)] at this
        exact this
      · rw [hj, Int.toNat_natCast, Nat.mul_one, addr_add_add]
        refine Own.stP (g := g) (k := 1 + j) h (by repeat (first | with_reducible exact Pick.here | apply Pick.there)) (by rw [quC_len (kcs_len _)]; simp; omega) (by simp [Value.oneCell']) fun w h => ?_
        have hln := h1.2.1
        rw [wI64 (by omega) (by omega), quC_kind' hk7, kcs_take r y hj] at h
        refine ⟨_, _, _, _, _, _, _, _, _, ⟨Own.ld (g := a2) h (by repeat (first | with_reducible exact Pick.here | apply Pick.there)) rfl, Own.ld (g := a2) h (by repeat (first | with_reducible exact Pick.here | apply Pick.there)) rfl, Own.ld (g := a2) h (by repeat (first | with_reducible exact Pick.here | apply Pick.there)) rfl, Own.ld (g := a2) h (by repeat (first | with_reducible exact Pick.here | apply Pick.there)) rfl, Own.ld (g := a2) h (by repeat (first | with_reducible exact Pick.here | apply Pick.there)) rfl, Own.ld (g := a2) h (by repeat (first | with_reducible exact Pick.here | apply Pick.there)) rfl, Own.ld (g := a2) h (by repeat (first | with_reducible exact Pick.here | apply Pick.there)) rfl, Own.ld (g := a2) h (by repeat (first | with_reducible exact Pick.here | apply Pick.there)) rfl, Own.ld (g := a2) h (by repeat (first | with_reducible exact Pick.here | apply Pick.there)) rfl⟩, Own.stP' (g := a1) h (by repeat (first | with_reducible exact Pick.here | apply Pick.there)) (by simp) (by simp [Value.oneCell']) fun w h => ?_⟩
        have h : Own e w (blk a1 99 (itC Value.string y) :: quB_string g gr (kcs r) sent full :: blk a2 99 (itC Value.string y) :: rng_string gr r room :: F) := h
        refine ⟨_, _, _, _, _, _, _, _, _, ⟨Own.ld (g := a1) h (by repeat (first | with_reducible exact Pick.here | apply Pick.there)) rfl, Own.ld (g := a1) h (by repeat (first | with_reducible exact Pick.here | apply Pick.there)) rfl, Own.ld (g := a1) h (by repeat (first | with_reducible exact Pick.here | apply Pick.there)) rfl, Own.ld (g := a1) h (by repeat (first | with_reducible exact Pick.here | apply Pick.there)) rfl, Own.ld (g := a1) h (by repeat (first | with_reducible exact Pick.here | apply Pick.there)) rfl, Own.ld (g := a1) h (by repeat (first | with_reducible exact Pick.here | apply Pick.there)) rfl, Own.ld (g := a1) h (by repeat (first | with_reducible exact Pick.here | apply Pick.there)) rfl, Own.ld (g := a1) h (by repeat (first | with_reducible exact Pick.here | apply Pick.there)) rfl, Own.ld (g := a1) h (by repeat (first | with_reducible exact Pick.here | apply Pick.there)) rfl⟩, ?_, ?_⟩
        · rw [decide_eq_true (by simp)]
        · exact quO_string.cl (xs := r) (gr := gr) ⟨fun z hz => h1.1 z (List.mem_cons_of_mem _ hz), by simp at hln; omega, h1.2.2⟩ (Own.sub (h) (by repeat (first | with_reducible exact Sub.nil _ | with_reducible exact Sub.rfl _ | (apply Sub.cons; focus ((repeat (first | with_reducible exact Pick.here | apply Pick.there)); done)) | apply Sub.drop)))
  · have hb := dec_f hb
    obtain rfl : xs = [] := List.eq_nil_of_length_eq_zero (by omega)
    refine ⟨_, _, _, _, _, _, _, _, _, ⟨Own.ld (g := a2) h (by repeat (first | with_reducible exact Pick.here | apply Pick.there)) rfl, Own.ld (g := a2) h (by repeat (first | with_reducible exact Pick.here | apply Pick.there)) rfl, Own.ld (g := a2) h (by repeat (first | with_reducible exact Pick.here | apply Pick.there)) rfl, Own.ld (g := a2) h (by repeat (first | with_reducible exact Pick.here | apply Pick.there)) rfl, Own.ld (g := a2) h (by repeat (first | with_reducible exact Pick.here | apply Pick.there)) rfl, Own.ld (g := a2) h (by repeat (first | with_reducible exact Pick.here | apply Pick.there)) rfl, Own.ld (g := a2) h (by repeat (first | with_reducible exact Pick.here | apply Pick.there)) rfl, Own.ld (g := a2) h (by repeat (first | with_reducible exact Pick.here | apply Pick.there)) rfl, Own.ld (g := a2) h (by repeat (first | with_reducible exact Pick.here | apply Pick.there)) rfl⟩, Own.stP' (g := a1) h (by repeat (first | with_reducible exact Pick.here | apply Pick.there)) (by simp) (by simp [Value.oneCell']) fun w h => ?_⟩
    have h : Own e w (blk a1 99 (itC Value.string y) :: blk a2 99 (itC Value.string y) :: rng_string gr [] room :: quB_string g gr (kcs ([] : List (Itm ByteArray))) sent full :: F) := h
    refine ⟨_, _, _, _, _, _, _, _, _, ⟨Own.ld (g := a1) h (by repeat (first | with_reducible exact Pick.here | apply Pick.there)) rfl, Own.ld (g := a1) h (by repeat (first | with_reducible exact Pick.here | apply Pick.there)) rfl, Own.ld (g := a1) h (by repeat (first | with_reducible exact Pick.here | apply Pick.there)) rfl, Own.ld (g := a1) h (by repeat (first | with_reducible exact Pick.here | apply Pick.there)) rfl, Own.ld (g := a1) h (by repeat (first | with_reducible exact Pick.here | apply Pick.there)) rfl, Own.ld (g := a1) h (by repeat (first | with_reducible exact Pick.here | apply Pick.there)) rfl, Own.ld (g := a1) h (by repeat (first | with_reducible exact Pick.here | apply Pick.there)) rfl, Own.ld (g := a1) h (by repeat (first | with_reducible exact Pick.here | apply Pick.there)) rfl, Own.ld (g := a1) h (by repeat (first | with_reducible exact Pick.here | apply Pick.there)) rfl⟩, ?_, ?_⟩
    · rw [decide_eq_false (by simp)]
    · exact quO_string.cl (xs := []) (gr := gr) h1 (Own.sub (h) (by repeat (first | with_reducible exact Sub.nil _ | with_reducible exact Sub.rfl _ | (apply Sub.cons; focus ((repeat (first | with_reducible exact Pick.here | apply Pick.there)); done)) | apply Sub.drop)))
end
end Go.Proofs.Ytipcbhaeoeghnaa.Eng
