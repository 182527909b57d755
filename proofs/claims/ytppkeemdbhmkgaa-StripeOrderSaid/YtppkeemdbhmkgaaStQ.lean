/- Stripes: New, Take, Give and what is told; awake. -/
import Derived.Test.YtppkeemdbhmkgaaStP
import Derived.Test.YtppkeemdbhmkgaaStlG
namespace Go.Proofs.Ytppkeemdbhmkgaa.Eng
open Go Go.RowKit Go.Proofs
set_option linter.unusedVariables false
set_option linter.unusedSimpArgs false
set_option maxRecDepth 1000000
theorem Own.mid4 {e w : World} {F : List HP} {a b c d : HP} : ∀ {l : List HP}, Own e w (l ++ ([a, b, c, d] ++ F)) → Own e w (a :: b :: c :: d :: (l ++ F)) := fun {l} h => by
  have h : Own e w ((l ++ [a, b, c]) ++ d :: F) := by rw [List.append_assoc]; exact h
  have h := h.mid
  have h : Own e w ((d :: (l ++ [a, b])) ++ c :: F) := by
    have e1 : d :: (l ++ [a, b, c] ++ F) = (d :: (l ++ [a, b])) ++ c :: F := by simp
    rw [← e1]; exact h
  have h := h.mid
  have h : Own e w ((c :: d :: (l ++ [a])) ++ b :: F) := by
    have e1 : c :: ((d :: (l ++ [a, b])) ++ F) = (c :: d :: (l ++ [a])) ++ b :: F := by simp
    rw [← e1]; exact h
  have h := h.mid
  have h : Own e w ((b :: c :: d :: l) ++ a :: F) := by
    have e1 : b :: ((c :: d :: (l ++ [a])) ++ F) = (b :: c :: d :: l) ++ a :: F := by simp
    rw [← e1]; exact h
  exact h.mid
section
variable {e w : World} {F : List HP} {g N room sp md : Nat} {ls A B : List Ln_int} {p : Ln_int} {ws : List Bt_int} {qs : List (Option Addr)}
theorem nil_lns_int (h : Own e w F) : ∀ n, Own e w ((List.replicate n ((none, 0, []) : Ln_int)).map ln_int ++ F)
  | 0 => h
  | n + 1 => by
    have h2 := nil_lns_int h n
    have h2 : Own e w (ln_int (none, 0, []) :: ((List.replicate n ((none, 0, []) : Ln_int)).map ln_int ++ F)) := h2.slNil
    exact h2
theorem spNewEnd_int {n N r sp ga gr gp : Nat} {K : Value → World → Prop} (hn : n ≤ 64) (h : Own e w (blk ga 33 (zrep [.slice none 0 0] n) :: ring_int gr [] r :: pol_int gp N sp 0 [] :: F)) (hK : ∀ g w', Own e w' (str_int g N r sp 0 (List.replicate n (none, 0, [])) [] [] :: F) → K (.pointer (some ⟨g, 0, none⟩)) w') :
    NewR 52 [.slice (some ⟨ga, 0, none⟩) n n, .int .i64 (N : Int), .pointer (some ⟨gr, 0, none⟩), .pointer (some ⟨gp, 0, none⟩)] w fun a w' => K (.pointer (some a)) w' := by
  rw [zrep_one] at h
  have h : Own e w (slO 33 1 (some ⟨ga, 0, none⟩) n n (List.replicate n (.slice none 0 0)) :: ring_int gr [] r :: pol_int gp N sp 0 [] :: F) := Own.slMk (rest := []) (by simp) (Nat.le_refl _) (by unfold maxLen; omega) (by simp) (by rw [List.append_nil]; exact h)
  refine h.newR fun g w h => hK g w (str_int_cl0 (ql := some ⟨ga, 0, none⟩) (gr := gr) (gp := gp) ?_)
  have h := nil_lns_int h n
  have el : (List.replicate n ((none, 0, []) : Ln_int)).length = n := by simp
  have em : (List.replicate n ((none, 0, []) : Ln_int)).map lnV_int = List.replicate n (.slice none 0 0) := by simp [lnV_int]
  rw [el, em]
  have h : Own e w ((List.replicate n ((none, 0, []) : Ln_int)).map ln_int ++ ([stb_int g N n (some ⟨ga, 0, none⟩) gr gp, slO 33 1 (some ⟨ga, 0, none⟩) n n (List.replicate n (.slice none 0 0)), ring_int gr [] r, pol_int gp N sp 0 []] ++ F)) := h
  exact h.mid4
theorem spNew_int {lanes batch rm : Int} {n N r : Nat} (hn : maxI 1 (minI lanes 64) = (n : Int)) (hN : maxI 1 (minI batch 16) = (N : Int)) (hr : maxI 0 (minI rm 1024) = (r : Int)) (h : Own e w F) : Rets Try.prog 19 #[.int .i64 lanes, .int .i64 batch, .int .i64 rm] w fun v w' => ∃ g, v = .pointer (some ⟨g, 0, none⟩) ∧ Own e w' (str_int g N r (min (n + r) 1024) 0 (List.replicate n (none, 0, [])) [] [] :: F) := by
  have bn : 1 ≤ maxI 1 (minI lanes 64) ∧ maxI 1 (minI lanes 64) ≤ 64 := by unfold maxI minI; split <;> split <;> omega
  have bb : 1 ≤ maxI 1 (minI batch 16) ∧ maxI 1 (minI batch 16) ≤ 16 := by unfold maxI minI; split <;> split <;> omega
  have br : 0 ≤ maxI 0 (minI rm 1024) ∧ maxI 0 (minI rm 1024) ≤ 1024 := by unfold maxI minI; split <;> split <;> omega
  refine stripe_New_int_go _ _ _ ?_
  unfold stripe_New_int_m
  rw [hn, hN, hr] at *
  rw [wI64 (by omega) (by omega), Int.toNat_natCast]
  have rg : ∀ {w F}, Own e w F → Rets Try.prog 36 #[.int .i64 (r : Int)] w fun v w' => ∃ g, v = .pointer (some ⟨g, 0, none⟩) ∧ Own e w' (ring_int g [] r :: F) := fun {w F} h => by
    have h2 := rgNew_int (r := (r : Int)) h
    rw [show (max 0 (min (r : Int) 65536)).toNat = r by omega] at h2
    exact h2
  have pl : ∀ {w F}, Own e w F → Rets Try.prog 37 #[.int .i64 (N : Int), .int .i64 ((n : Int) + (r : Int))] w fun v w' => ∃ g, v = .pointer (some ⟨g, 0, none⟩) ∧ Own e w' (pol_int g N (min (n + r) 1024) 0 [] :: F) := fun {w F} h => by
    have h2 := plNew_int (room := (N : Int)) (spare := (n : Int) + (r : Int)) h
    rw [show (maxI 1 (minI (N : Int) 1024)).toNat = N by unfold maxI minI; split <;> split <;> omega, show (maxI 0 (minI ((n : Int) + (r : Int)) 1024)).toNat = min (n + r) 1024 by unfold maxI minI; split <;> split <;> omega] at h2
    exact h2
  refine h.drw fun w h => ⟨h.makeR ⟨by omega, by omega, by omega, by omega⟩ fun ga w h => ?_, ?_⟩
  · rw [Int.toNat_natCast] at h
    refine Rets.mono (rg h) ?_
    clear h
    rintro _ w ⟨gr, rfl, h⟩
    refine ⟨_, rfl, Rets.mono (pl h) ?_⟩
    clear h
    rintro _ w ⟨gp, rfl, h⟩
    have h : Own e w (blk ga 33 (zrep [.slice none 0 0] n) :: ring_int gr [] r :: pol_int gp N (min (n + r) 1024) 0 [] :: F) := (Own.sub (h) (by repeat (first | with_reducible exact Sub.nil _ | with_reducible exact Sub.rfl _ | (apply Sub.cons; focus ((repeat (first | with_reducible exact Pick.here | apply Pick.there)); done)) | apply Sub.drop)))
    exact ⟨_, rfl, spNewEnd_int (K := fun v w' => ∃ g, v = .pointer (some ⟨g, 0, none⟩) ∧ Own e w' (str_int g N r (min (n + r) 1024) 0 (List.replicate n (none, 0, [])) [] [] :: F)) (by omega) h fun g w h => ⟨g, rfl, h⟩⟩
  refine Rets.mono (rg h) ?_
  clear h
  rintro _ w ⟨gr, rfl, h⟩
  refine ⟨_, rfl, h.makeR ⟨by omega, by omega, by omega, by omega⟩ fun ga w h => ?_, ?_⟩
  · rw [Int.toNat_natCast] at h
    refine Rets.mono (pl h) ?_
    clear h
    rintro _ w ⟨gp, rfl, h⟩
    have h : Own e w (blk ga 33 (zrep [.slice none 0 0] n) :: ring_int gr [] r :: pol_int gp N (min (n + r) 1024) 0 [] :: F) := (Own.sub (h) (by repeat (first | with_reducible exact Sub.nil _ | with_reducible exact Sub.rfl _ | (apply Sub.cons; focus ((repeat (first | with_reducible exact Pick.here | apply Pick.there)); done)) | apply Sub.drop)))
    exact ⟨_, rfl, spNewEnd_int (K := fun v w' => ∃ g, v = .pointer (some ⟨g, 0, none⟩) ∧ Own e w' (str_int g N r (min (n + r) 1024) 0 (List.replicate n (none, 0, [])) [] [] :: F)) (by omega) h fun g w h => ⟨g, rfl, h⟩⟩
  refine Rets.mono (pl h) ?_
  clear h
  rintro _ w ⟨gp, rfl, h⟩
  refine ⟨_, rfl, h.makeR ⟨by omega, by omega, by omega, by omega⟩ fun ga w h => ?_⟩
  rw [Int.toNat_natCast] at h
  have h : Own e w (blk ga 33 (zrep [.slice none 0 0] n) :: ring_int gr [] r :: pol_int gp N (min (n + r) 1024) 0 [] :: F) := (Own.sub (h) (by repeat (first | with_reducible exact Sub.nil _ | with_reducible exact Sub.rfl _ | (apply Sub.cons; focus ((repeat (first | with_reducible exact Pick.here | apply Pick.there)); done)) | apply Sub.drop)))
  exact spNewEnd_int (K := fun v w' => ∃ g, v = .pointer (some ⟨g, 0, none⟩) ∧ Own e w' (str_int g N r (min (n + r) 1024) 0 (List.replicate n (none, 0, [])) [] [] :: F)) (by omega) h fun g w h => ⟨g, rfl, h⟩
end
section
variable {e w : World} {F : List HP} {g N room sp md : Nat} {ls A B : List Ln_string} {p : Ln_string} {ws : List Bt_string} {qs : List (Option Addr)}
theorem nil_lns_string (h : Own e w F) : ∀ n, Own e w ((List.replicate n ((none, 0, []) : Ln_string)).map ln_string ++ F)
  | 0 => h
  | n + 1 => by
    have h2 := nil_lns_string h n
    have h2 : Own e w (ln_string (none, 0, []) :: ((List.replicate n ((none, 0, []) : Ln_string)).map ln_string ++ F)) := h2.slNil
    exact h2
theorem spNewEnd_string {n N r sp ga gr gp : Nat} {K : Value → World → Prop} (hn : n ≤ 64) (h : Own e w (blk ga 22 (zrep [.slice none 0 0] n) :: ring_string gr [] r :: pol_string gp N sp 0 [] :: F)) (hK : ∀ g w', Own e w' (str_string g N r sp 0 (List.replicate n (none, 0, [])) [] [] :: F) → K (.pointer (some ⟨g, 0, none⟩)) w') :
    NewR 46 [.slice (some ⟨ga, 0, none⟩) n n, .int .i64 (N : Int), .pointer (some ⟨gr, 0, none⟩), .pointer (some ⟨gp, 0, none⟩)] w fun a w' => K (.pointer (some a)) w' := by
  rw [zrep_one] at h
  have h : Own e w (slO 22 1 (some ⟨ga, 0, none⟩) n n (List.replicate n (.slice none 0 0)) :: ring_string gr [] r :: pol_string gp N sp 0 [] :: F) := Own.slMk (rest := []) (by simp) (Nat.le_refl _) (by unfold maxLen; omega) (by simp) (by rw [List.append_nil]; exact h)
  refine h.newR fun g w h => hK g w (str_string_cl0 (ql := some ⟨ga, 0, none⟩) (gr := gr) (gp := gp) ?_)
  have h := nil_lns_string h n
  have el : (List.replicate n ((none, 0, []) : Ln_string)).length = n := by simp
  have em : (List.replicate n ((none, 0, []) : Ln_string)).map lnV_string = List.replicate n (.slice none 0 0) := by simp [lnV_string]
  rw [el, em]
  have h : Own e w ((List.replicate n ((none, 0, []) : Ln_string)).map ln_string ++ ([stb_string g N n (some ⟨ga, 0, none⟩) gr gp, slO 22 1 (some ⟨ga, 0, none⟩) n n (List.replicate n (.slice none 0 0)), ring_string gr [] r, pol_string gp N sp 0 []] ++ F)) := h
  exact h.mid4
theorem spNew_string {lanes batch rm : Int} {n N r : Nat} (hn : maxI 1 (minI lanes 64) = (n : Int)) (hN : maxI 1 (minI batch 16) = (N : Int)) (hr : maxI 0 (minI rm 1024) = (r : Int)) (h : Own e w F) : Rets Try.prog 5 #[.int .i64 lanes, .int .i64 batch, .int .i64 rm] w fun v w' => ∃ g, v = .pointer (some ⟨g, 0, none⟩) ∧ Own e w' (str_string g N r (min (n + r) 1024) 0 (List.replicate n (none, 0, [])) [] [] :: F) := by
  have bn : 1 ≤ maxI 1 (minI lanes 64) ∧ maxI 1 (minI lanes 64) ≤ 64 := by unfold maxI minI; split <;> split <;> omega
  have bb : 1 ≤ maxI 1 (minI batch 16) ∧ maxI 1 (minI batch 16) ≤ 16 := by unfold maxI minI; split <;> split <;> omega
  have br : 0 ≤ maxI 0 (minI rm 1024) ∧ maxI 0 (minI rm 1024) ≤ 1024 := by unfold maxI minI; split <;> split <;> omega
  refine stripe_New_string_go _ _ _ ?_
  unfold stripe_New_string_m
  rw [hn, hN, hr] at *
  rw [wI64 (by omega) (by omega), Int.toNat_natCast]
  have rg : ∀ {w F}, Own e w F → Rets Try.prog 20 #[.int .i64 (r : Int)] w fun v w' => ∃ g, v = .pointer (some ⟨g, 0, none⟩) ∧ Own e w' (ring_string g [] r :: F) := fun {w F} h => by
    have h2 := rgNew_string (r := (r : Int)) h
    rw [show (max 0 (min (r : Int) 65536)).toNat = r by omega] at h2
    exact h2
  have pl : ∀ {w F}, Own e w F → Rets Try.prog 21 #[.int .i64 (N : Int), .int .i64 ((n : Int) + (r : Int))] w fun v w' => ∃ g, v = .pointer (some ⟨g, 0, none⟩) ∧ Own e w' (pol_string g N (min (n + r) 1024) 0 [] :: F) := fun {w F} h => by
    have h2 := plNew_string (room := (N : Int)) (spare := (n : Int) + (r : Int)) h
    rw [show (maxI 1 (minI (N : Int) 1024)).toNat = N by unfold maxI minI; split <;> split <;> omega, show (maxI 0 (minI ((n : Int) + (r : Int)) 1024)).toNat = min (n + r) 1024 by unfold maxI minI; split <;> split <;> omega] at h2
    exact h2
  refine h.drw fun w h => ⟨h.makeR ⟨by omega, by omega, by omega, by omega⟩ fun ga w h => ?_, ?_⟩
  · rw [Int.toNat_natCast] at h
    refine Rets.mono (rg h) ?_
    clear h
    rintro _ w ⟨gr, rfl, h⟩
    refine ⟨_, rfl, Rets.mono (pl h) ?_⟩
    clear h
    rintro _ w ⟨gp, rfl, h⟩
    have h : Own e w (blk ga 22 (zrep [.slice none 0 0] n) :: ring_string gr [] r :: pol_string gp N (min (n + r) 1024) 0 [] :: F) := (Own.sub (h) (by repeat (first | with_reducible exact Sub.nil _ | with_reducible exact Sub.rfl _ | (apply Sub.cons; focus ((repeat (first | with_reducible exact Pick.here | apply Pick.there)); done)) | apply Sub.drop)))
    exact ⟨_, rfl, spNewEnd_string (K := fun v w' => ∃ g, v = .pointer (some ⟨g, 0, none⟩) ∧ Own e w' (str_string g N r (min (n + r) 1024) 0 (List.replicate n (none, 0, [])) [] [] :: F)) (by omega) h fun g w h => ⟨g, rfl, h⟩⟩
  refine Rets.mono (rg h) ?_
  clear h
  rintro _ w ⟨gr, rfl, h⟩
  refine ⟨_, rfl, h.makeR ⟨by omega, by omega, by omega, by omega⟩ fun ga w h => ?_, ?_⟩
  · rw [Int.toNat_natCast] at h
    refine Rets.mono (pl h) ?_
    clear h
    rintro _ w ⟨gp, rfl, h⟩
    have h : Own e w (blk ga 22 (zrep [.slice none 0 0] n) :: ring_string gr [] r :: pol_string gp N (min (n + r) 1024) 0 [] :: F) := (Own.sub (h) (by repeat (first | with_reducible exact Sub.nil _ | with_reducible exact Sub.rfl _ | (apply Sub.cons; focus ((repeat (first | with_reducible exact Pick.here | apply Pick.there)); done)) | apply Sub.drop)))
    exact ⟨_, rfl, spNewEnd_string (K := fun v w' => ∃ g, v = .pointer (some ⟨g, 0, none⟩) ∧ Own e w' (str_string g N r (min (n + r) 1024) 0 (List.replicate n (none, 0, [])) [] [] :: F)) (by omega) h fun g w h => ⟨g, rfl, h⟩⟩
  refine Rets.mono (pl h) ?_
  clear h
  rintro _ w ⟨gp, rfl, h⟩
  refine ⟨_, rfl, h.makeR ⟨by omega, by omega, by omega, by omega⟩ fun ga w h => ?_⟩
  rw [Int.toNat_natCast] at h
  have h : Own e w (blk ga 22 (zrep [.slice none 0 0] n) :: ring_string gr [] r :: pol_string gp N (min (n + r) 1024) 0 [] :: F) := (Own.sub (h) (by repeat (first | with_reducible exact Sub.nil _ | with_reducible exact Sub.rfl _ | (apply Sub.cons; focus ((repeat (first | with_reducible exact Pick.here | apply Pick.there)); done)) | apply Sub.drop)))
  exact spNewEnd_string (K := fun v w' => ∃ g, v = .pointer (some ⟨g, 0, none⟩) ∧ Own e w' (str_string g N r (min (n + r) 1024) 0 (List.replicate n (none, 0, [])) [] [] :: F)) (by omega) h fun g w h => ⟨g, rfl, h⟩
end
section
variable {e w : World} {F : List HP} {g N room sp md : Nat} {ls A B : List Ln_string} {p : Ln_string} {b : Bt_string} {ws : List Bt_string} {qs : List (Option Addr)}
theorem spTake (h : Own e w (str_string g N room sp md ls (b :: ws) qs :: F)) : Rets Try.prog 9 #[.pointer (some ⟨g, 0, none⟩)] w fun v w' => v = .tuple #[.slice b.1 N N, .bool true] ∧ Own e w' (bt_string N b :: str_string g N room sp md ls ws qs :: F) := by
  obtain ⟨ql, gr, gp, h⟩ := str_string_op0 h
  refine stripe_Buffer_string_Take_go _ ⟨fun hc => (by cases hc), fun _ => ⟨_, Own.ld (g := g) (k := 2) h (by repeat (first | with_reducible exact Pick.here | apply Pick.there)) rfl, ?_⟩⟩
  have h : Own e w (ring_string gr ((b :: ws).map (btV_string N)) room :: stb_string g N ls.length ql gr gp :: slO 22 1 ql ls.length ls.length (ls.map lnV_string) :: pol_string gp N sp md qs :: (ls.map ln_string ++ ((b :: ws).map (bt_string N) ++ F))) := (Own.sub (h) (by repeat (first | with_reducible exact Sub.nil _ | with_reducible exact Sub.rfl _ | (apply Sub.cons; focus ((repeat (first | with_reducible exact Pick.here | apply Pick.there)); done)) | apply Sub.drop)))
  refine Rets.mono (rgTake_string h) ?_
  clear h
  rintro _ w ⟨rfl, h⟩
  have h : Own e w (ring_string gr (ws.map (btV_string N)) room :: stb_string g N ls.length ql gr gp :: slO 22 1 ql ls.length ls.length (ls.map lnV_string) :: pol_string gp N sp md qs :: (ls.map ln_string ++ (bt_string N b :: (ws.map (bt_string N) ++ F)))) := h
  refine ⟨b.1, N, N, true, by simp, by simp, ?_⟩
  have h : Own e w (([ring_string gr (ws.map (btV_string N)) room, stb_string g N ls.length ql gr gp, slO 22 1 ql ls.length ls.length (ls.map lnV_string), pol_string gp N sp md qs] ++ ls.map ln_string) ++ bt_string N b :: (ws.map (bt_string N) ++ F)) := h
  have h := h.mid
  have h : Own e w (bt_string N b :: ring_string gr (ws.map (btV_string N)) room :: stb_string g N ls.length ql gr gp :: slO 22 1 ql ls.length ls.length (ls.map lnV_string) :: pol_string gp N sp md qs :: (ls.map ln_string ++ (ws.map (bt_string N) ++ F))) := h
  have h : Own e w (stb_string g N ls.length ql gr gp :: slO 22 1 ql ls.length ls.length (ls.map lnV_string) :: ring_string gr (ws.map (btV_string N)) room :: pol_string gp N sp md qs :: bt_string N b :: (ls.map ln_string ++ (ws.map (bt_string N) ++ F))) := (Own.sub (h) (by repeat (first | with_reducible exact Sub.nil _ | with_reducible exact Sub.rfl _ | (apply Sub.cons; focus ((repeat (first | with_reducible exact Pick.here | apply Pick.there)); done)) | apply Sub.drop)))
  have h : Own e w (([stb_string g N ls.length ql gr gp, slO 22 1 ql ls.length ls.length (ls.map lnV_string), ring_string gr (ws.map (btV_string N)) room, pol_string gp N sp md qs] ++ []) ++ bt_string N b :: (ls.map ln_string ++ (ws.map (bt_string N) ++ F))) := h
  have h := h.mid
  have h : Own e w (bt_string N b :: (([stb_string g N ls.length ql gr gp, slO 22 1 ql ls.length ls.length (ls.map lnV_string), ring_string gr (ws.map (btV_string N)) room, pol_string gp N sp md qs] ++ ls.map ln_string ++ ws.map (bt_string N)) ++ F)) := by
    rw [List.append_assoc, List.append_assoc]; exact h
  have h := h.midBack
  rw [List.append_assoc, List.append_assoc] at h
  have h : Own e w (stb_string g N ls.length ql gr gp :: slO 22 1 ql ls.length ls.length (ls.map lnV_string) :: ring_string gr (ws.map (btV_string N)) room :: pol_string gp N sp md qs :: (ls.map ln_string ++ (ws.map (bt_string N) ++ bt_string N b :: F))) := h
  exact (str_string_cl0 h).swap
theorem spGive (hN : 1 ≤ N ∧ N ≤ 1024) (hsp : sp ≤ 1024) (hq : qs.length < sp) (h : Own e w (bt_string N b :: str_string g N room sp md ls ws qs :: F)) : Rets Try.prog 10 #[.pointer (some ⟨g, 0, none⟩), .slice b.1 N N] w fun v w' => v = .bool true ∧ Own e w' (str_string g N room sp md ls ws (qs ++ [b.1]) :: F) := by
  obtain ⟨ql, gr, gp, h⟩ := str_string_op0 h.swap
  refine stripe_Buffer_string_Give_go _ _ _ _ ⟨fun hc => (by cases hc), fun _ => ⟨_, Own.ld (g := g) (k := 3) h (by repeat (first | with_reducible exact Pick.here | apply Pick.there)) rfl, ?_⟩⟩
  have h : Own e w ((stb_string g N ls.length ql gr gp :: slO 22 1 ql ls.length ls.length (ls.map lnV_string) :: ring_string gr (ws.map (btV_string N)) room :: pol_string gp N sp md qs :: (ls.map ln_string ++ ws.map (bt_string N))) ++ bt_string N b :: F) := by
    have e1 : (stb_string g N ls.length ql gr gp :: slO 22 1 ql ls.length ls.length (ls.map lnV_string) :: ring_string gr (ws.map (btV_string N)) room :: pol_string gp N sp md qs :: (ls.map ln_string ++ ws.map (bt_string N))) ++ bt_string N b :: F = stb_string g N ls.length ql gr gp :: slO 22 1 ql ls.length ls.length (ls.map lnV_string) :: ring_string gr (ws.map (btV_string N)) room :: pol_string gp N sp md qs :: (ls.map ln_string ++ (ws.map (bt_string N) ++ bt_string N b :: F)) := by simp
    rw [e1]; exact h
  have h := h.mid
  have h : Own e w (slO 9 1 b.1 N N (b.2.map Value.string) :: stb_string g N ls.length ql gr gp :: slO 22 1 ql ls.length ls.length (ls.map lnV_string) :: ring_string gr (ws.map (btV_string N)) room :: pol_string gp N sp md qs :: (ls.map ln_string ++ ws.map (bt_string N) ++ F)) := h
  rw [List.append_assoc] at h
  have h : Own e w (slO 9 1 b.1 N N (b.2.map Value.string) :: pol_string gp N sp md qs :: stb_string g N ls.length ql gr gp :: slO 22 1 ql ls.length ls.length (ls.map lnV_string) :: ring_string gr (ws.map (btV_string N)) room :: (ls.map ln_string ++ (ws.map (bt_string N) ++ F))) := (Own.sub (h) (by repeat (first | with_reducible exact Sub.nil _ | with_reducible exact Sub.rfl _ | (apply Sub.cons; focus ((repeat (first | with_reducible exact Pick.here | apply Pick.there)); done)) | apply Sub.drop)))
  refine Rets.mono (plGive_string hsp hN h) ?_
  clear h
  rintro _ w ⟨rfl, h⟩
  rw [if_pos ⟨hq, rfl⟩] at h
  exact ⟨_, rfl, by simp [hq], str_string_cl0 (Own.sub (h) (by repeat (first | with_reducible exact Sub.nil _ | with_reducible exact Sub.rfl _ | (apply Sub.cons; focus ((repeat (first | with_reducible exact Pick.here | apply Pick.there)); done)) | apply Sub.drop)))⟩
theorem spWaiting (h : Own e w (str_string g N room sp md ls ws qs :: F)) : Rets Try.prog 7 #[.pointer (some ⟨g, 0, none⟩)] w fun v w' => v = .int .i64 (ws.length : Int) ∧ Own e w' (str_string g N room sp md ls ws qs :: F) := by
  obtain ⟨ql, gr, gp, h⟩ := str_string_op0 h
  refine stripe_Buffer_string_Waiting_go _ ⟨fun hc => (by cases hc), fun _ => ⟨_, Own.ld (g := g) (k := 2) h (by repeat (first | with_reducible exact Pick.here | apply Pick.there)) rfl, ?_⟩⟩
  have h : Own e w (ring_string gr (ws.map (btV_string N)) room :: stb_string g N ls.length ql gr gp :: slO 22 1 ql ls.length ls.length (ls.map lnV_string) :: pol_string gp N sp md qs :: (ls.map ln_string ++ (ws.map (bt_string N) ++ F))) := (Own.sub (h) (by repeat (first | with_reducible exact Sub.nil _ | with_reducible exact Sub.rfl _ | (apply Sub.cons; focus ((repeat (first | with_reducible exact Pick.here | apply Pick.there)); done)) | apply Sub.drop)))
  refine Rets.mono (rgLen_string h) ?_
  clear h
  rintro _ w ⟨rfl, h⟩
  exact ⟨_, rfl, by simp, str_string_cl0 (Own.sub (h) (by repeat (first | with_reducible exact Sub.nil _ | with_reducible exact Sub.rfl _ | (apply Sub.cons; focus ((repeat (first | with_reducible exact Pick.here | apply Pick.there)); done)) | apply Sub.drop)))⟩
theorem spMade (h : Own e w (str_string g N room sp md ls ws qs :: F)) : Rets Try.prog 11 #[.pointer (some ⟨g, 0, none⟩)] w fun v w' => v = .int .i64 (md : Int) ∧ Own e w' (str_string g N room sp md ls ws qs :: F) := by
  obtain ⟨ql, gr, gp, h⟩ := str_string_op0 h
  refine stripe_Buffer_string_Made_go _ ⟨fun hc => (by cases hc), fun _ => ⟨_, Own.ld (g := g) (k := 3) h (by repeat (first | with_reducible exact Pick.here | apply Pick.there)) rfl, ?_⟩⟩
  have h : Own e w (pol_string gp N sp md qs :: stb_string g N ls.length ql gr gp :: slO 22 1 ql ls.length ls.length (ls.map lnV_string) :: ring_string gr (ws.map (btV_string N)) room :: (ls.map ln_string ++ (ws.map (bt_string N) ++ F))) := (Own.sub (h) (by repeat (first | with_reducible exact Sub.nil _ | with_reducible exact Sub.rfl _ | (apply Sub.cons; focus ((repeat (first | with_reducible exact Pick.here | apply Pick.there)); done)) | apply Sub.drop)))
  refine Rets.mono (plMade h) ?_
  clear h
  rintro _ w ⟨rfl, h⟩
  exact ⟨_, rfl, rfl, str_string_cl0 (Own.sub (h) (by repeat (first | with_reducible exact Sub.nil _ | with_reducible exact Sub.rfl _ | (apply Sub.cons; focus ((repeat (first | with_reducible exact Pick.here | apply Pick.there)); done)) | apply Sub.drop)))⟩
theorem spLoose {i : Int} (hi : Int.tmod (maxI i 0) (((A ++ p :: B).length : Nat) : Int) = (A.length : Int)) (h : Own e w (str_string g N room sp md (A ++ p :: B) ws qs :: F)) : Rets Try.prog 8 #[.pointer (some ⟨g, 0, none⟩), .int .i64 i] w fun v w' => v = .int .i64 (p.2.2.length : Int) ∧ Own e w' (str_string g N room sp md (A ++ p :: B) ws qs :: F) := by
  obtain ⟨ql, gr, gp, h⟩ := str_string_op h
  obtain ⟨aw, rfl, _⟩ := (h.drop.slRd).addr (at_mid lnV_string A B p)
  have hlen := len_mid A B p
  let S : World → Prop := fun w => ∃ F', Own e w (stb_string g N (A ++ p :: B).length (some aw) gr gp :: slO 22 1 (some aw) (A ++ p :: B).length (A ++ p :: B).length ((A ++ p :: B).map lnV_string) :: F')
  have hS1 : ∀ w, S w → cellAt w (aw.add A.length) (lnV_string p) := fun w h => by
    obtain ⟨F', h⟩ := h
    obtain ⟨a', ea, hcell⟩ := (h.drop.slRd).addr (at_mid lnV_string A B p)
    cases ea
    exact hcell _ _ (at_mid lnV_string A B p)
  refine stripe_Buffer_string_Loose_go _ _ ⟨fun hc => (by cases hc), fun _ => h.drw fun w h => ⟨S, ⟨_, h⟩, _, _, _, fun w h => h.elim fun F' h => Own.ld (g := g) (k := 0) h (by repeat (first | with_reducible exact Pick.here | apply Pick.there)) rfl, ?_⟩⟩
  refine Rets.mono (spLane_string (by omega) h) ?_
  rintro _ w1 ⟨rfl, rfl⟩
  rw [hi]
  have toA : (Int.toNat (A.length : Int)) * 1 = A.length := by rw [Int.toNat_natCast, Nat.mul_one]
  exact ⟨_, rfl, S, fun w h => h, ⟨_, h⟩, by omega, by omega, smR ⟨p.1, p.2.2.length, p.2.1, fun w h => by rw [toA]; exact hS1 w h, rfl, str_string_cl h⟩⟩
end
section
variable {e w : World} {F : List HP}
theorem snTake (h : Own e w F) : Rets Try.prog 12 #[.pointer none] w fun v w' => v = .tuple #[.slice none 0 0, .bool false] ∧ Own e w' F := stripe_nil_int_Take_go ⟨fun _ => ⟨rfl, h⟩, fun hc => (by cases hc)⟩
theorem snPush {i x : Int} (h : Own e w F) : Rets Try.prog 13 #[.pointer none, .int .i64 i, .int .i64 x] w fun v w' => v = .int .i64 2 ∧ Own e w' F := stripe_nil_int_Push_go _ _ ⟨fun _ => ⟨rfl, h⟩, fun hc => (by cases hc)⟩
theorem snGive {q : Option Addr} {l c : Nat} (h : Own e w F) : Rets Try.prog 14 #[.pointer none, .slice q l c] w fun v w' => v = .bool false ∧ Own e w' F := stripe_nil_int_Give_go _ _ _ ⟨fun _ => ⟨rfl, h⟩, fun hc => (by cases hc)⟩
theorem snWaiting (h : Own e w F) : Rets Try.prog 15 #[.pointer none] w fun v w' => v = .int .i64 0 ∧ Own e w' F := stripe_nil_int_Waiting_go ⟨fun _ => ⟨rfl, h⟩, fun hc => (by cases hc)⟩
theorem snLoose {i : Int} (h : Own e w F) : Rets Try.prog 16 #[.pointer none, .int .i64 i] w fun v w' => v = .int .i64 0 ∧ Own e w' F := stripe_nil_int_Loose_go _ ⟨fun _ => ⟨rfl, h⟩, fun hc => (by cases hc)⟩
theorem snLanes (h : Own e w F) : Rets Try.prog 17 #[.pointer none] w fun v w' => v = .int .i64 0 ∧ Own e w' F := stripe_nil_int_Lanes_go ⟨fun _ => ⟨rfl, h⟩, fun hc => (by cases hc)⟩
theorem snMade (h : Own e w F) : Rets Try.prog 18 #[.pointer none] w fun v w' => v = .int .i64 0 ∧ Own e w' F := stripe_nil_int_Made_go ⟨fun _ => ⟨rfl, h⟩, fun hc => (by cases hc)⟩
theorem spAwake (h : Own e w F) : Rets Try.prog 4 #[] w fun v w' => v = .bool true ∧ Own e w' F := by
  refine cortadolaw27_awake_go ?_
  refine Rets.mono (spNew_int (n := 1) (N := 2) (r := 1) (by decide) (by decide) (by decide) h) ?_
  clear h
  rintro _ w ⟨g, rfl, h⟩
  have push : ∀ {w : World} {p : Ln_int} {md : Nat} {ws : List Bt_int} {qs : List (Option Addr)} (x : Int), md ≤ 10 → LnOk_int 2 p → Own e w (str_int g 2 1 (min (1 + 1) 1024) md ([] ++ p :: []) ws qs :: F) → Rets Try.prog 13 #[.pointer (some ⟨g, 0, none⟩), .int .i64 0, .int .i64 x] w fun v w' => ∃ p' md' ws' qs', v = .int .i64 (if p.2.2.length + 1 < 2 then 0 else if ws.length < 1 then 1 else 2) ∧ LnOk_int 2 p' ∧ p'.2.2.length = (if p.2.2.length + 1 < 2 then p.2.2.length + 1 else 0) ∧ ws'.length = (if p.2.2.length + 1 < 2 then ws.length else if ws.length < 1 then ws.length + 1 else ws.length) ∧ md' ≤ md + 1 ∧ Own e w' (str_int g 2 1 (min (1 + 1) 1024) md' ([] ++ p' :: []) ws' qs' :: F) := fun {w p md ws qs} x hmd hp h => by
    refine Rets.mono (spPush_int (A := []) (B := []) (x := x) (i := 0) rfl (by omega) (by omega) (by omega) (by omega) (by simp) hp h) ?_
    rintro _ w ⟨p', md', ws', qs', rfl, hp', hx, hw, hm, _, h⟩
    refine ⟨p', md', ws', qs', rfl, hp', ?_, ?_, hm, h⟩
    · rw [hx]; split <;> simp
    · have := congrArg List.length hw
      rw [List.length_map] at this
      rw [this]
      split
      · simp
      · split <;> simp
  have h : Own e w (str_int g 2 1 (min (1 + 1) 1024) 0 ([] ++ ((none, 0, []) : Ln_int) :: []) [] [] :: F) := h
  refine ⟨_, rfl, Rets.mono (push 1 (by omega) (.inl ⟨rfl, rfl, rfl⟩) h) ?_⟩
  clear h
  rintro _ w ⟨p1, md1, ws1, qs1, rfl, hp1, hl1, hw1, hm1, h⟩
  have hl1 : p1.2.2.length = 1 := hl1
  have hw1 : ws1.length = 0 := hw1
  refine ⟨_, rfl, fun _ => Rets.mono (push 2 (by omega) hp1 h) ?_, fun hc => (by cases hc)⟩
  clear h
  rintro _ w ⟨p2, md2, ws2, qs2, rfl, hp2, hl2, hw2, hm2, h⟩
  rw [hl1] at hl2
  rw [hl1, hw1] at hw2 ⊢
  have hl2 : p2.2.2.length = 0 := hl2
  have hw2 : ws2.length = 1 := hw2
  refine ⟨_, rfl, fun _ => Rets.mono (push 3 (by omega) hp2 h) ?_, fun hc => (by cases hc)⟩
  clear h
  rintro _ w ⟨p3, md3, ws3, qs3, rfl, hp3, hl3, hw3, hm3, h⟩
  rw [hl2] at hl3 hw3 ⊢
  rw [hw2] at hw3
  have hl3 : p3.2.2.length = 1 := hl3
  have hw3 : ws3.length = 1 := hw3
  refine ⟨_, rfl, fun _ => Rets.mono (push 4 (by omega) hp3 h) ?_, fun hc => (by cases hc)⟩
  clear h
  rintro _ w ⟨p4, md4, ws4, qs4, rfl, hp4, hl4, hw4, hm4, h⟩
  rw [hl3, hw3]
  exact ⟨_, rfl, rfl, h.drop⟩
end
end Go.Proofs.Ytppkeemdbhmkgaa.Eng
