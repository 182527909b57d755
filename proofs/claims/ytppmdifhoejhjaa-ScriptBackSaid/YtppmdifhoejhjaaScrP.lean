/- Scripts: parts, and how they are parsed. -/
import Derived.Test.YtppmdifhoejhjaaProY
import Derived.Test.YtppmdifhoejhjaaScrG
namespace Go.Proofs.Ytppmdifhoejhjaa.Eng
open Go Go.RowKit Go.Proofs
set_option linter.unusedVariables false
set_option linter.unusedSimpArgs false
set_option maxRecDepth 1000000
def crI (a b n : Int) : Int := maxI a (minI n b)
theorem crI_bd {a b : Int} (h : a ≤ b) (n : Int) : a ≤ crI a b n ∧ crI a b n ≤ b := by unfold crI maxI minI; split <;> split <;> omega
theorem crI_id {a b n : Int} (h : a ≤ n ∧ n ≤ b) : crI a b n = n := by unfold crI maxI minI; split <;> split <;> omega
/-! ### Programs, as a slice of slices -/
def slP (x : Sl Op5) : HP := opsB x.1 x.2.2.length x.2.1 x.2.2
def prgIn (ms : List (Sl Op5)) : HP := allH (ms.reverse.map slP)
abbrev prgB (q : Option Addr) (n c : Nat) (ms : List (Sl Op5)) : HP := slO 30 1 q n c (ms.map Sl.v)
theorem pick_mem {A : HP} {F : List HP} : ∀ {L : List HP}, A ∈ L → ∃ R, Pick (L ++ F) A R
  | B :: L, h => by
    rcases List.mem_cons.1 h with rfl | h
    · exact ⟨_, .here⟩
    · obtain ⟨R, hp⟩ := pick_mem (F := F) h
      exact ⟨_, .there hp⟩
section
variable {e w : World} {F : List HP} {ms : List (Sl Op5)} {x : Sl Op5}
theorem prgIn.add (h : Own e w (slP x :: prgIn ms :: F)) : Own e w (prgIn (ms ++ [x]) :: F) := by
  have h1 : Own e w (ms.reverse.map slP ++ slP x :: F) := h.swap.open_
  have h2 : Own e w (slP x :: (ms.reverse.map slP ++ F)) := h1.pk (pick_mid _)
  have h3 : Own e w ((ms ++ [x]).reverse.map slP ++ F) := by
    rw [List.reverse_append]; exact h2
  exact h3.close_
theorem prgIn.nil (h : Own e w F) : Own e w (prgIn [] :: F) := by
  have h : Own e w ([] ++ F) := h
  exact h.close_
theorem prgIn.rd (h : Own e w (prgIn ms :: F)) (hx : x ∈ ms) : RdC w x.1 (x.2.2.flatMap encO) := by
  have h1 : Own e w (ms.reverse.map slP ++ F) := h.open_
  obtain ⟨R, hp⟩ := pick_mem (F := F) (List.mem_map.2 ⟨x, List.mem_reverse.2 hx, rfl⟩ : slP x ∈ ms.reverse.map slP)
  have h2 := h1.pk hp
  exact Own.slRd (T := 50) (s := 5) (q := x.1) (n := x.2.2.length) (c := x.2.1) h2
theorem putPr {k : Value → World → Prop} {g n c c2 : Nat} {q : Option Addr} (h : Own e w (blk g 30 [Sl.v x] :: prgB q n c ms :: F)) (hn : n + 1 ≤ 1000000)
    (hk : ∀ q' c' w', Own e w' (prgB q' (n + 1) c' (ms ++ [x]) :: F) → k (.slice q' (n + 1) c') w') :
    RunR Try.prog (builtinV .append #[24, 24] 24 #[.slice q n c, .slice (some ⟨g, 0, none⟩) 1 c2]) w k := by
  refine Own.append (z := [.slice none 0 0]) (b := 24) (news := [Sl.v x]) h.swap (by kernel_rfl) (by kernel_rfl) (by kernel_rfl) (by kernel_rfl) (by kernel_rfl) (by omega) h.blkRd rfl (by simp [Value.oneCell', Sl.v]) (by unfold maxLen; omega) (by omega) fun q' c' w' h _ => ?_
  have e1 : ms.map Sl.v ++ [Sl.v x] = (ms ++ [x]).map Sl.v := by simp
  rw [e1] at h
  exact hk q' c' w' h.swap.drop
end
section
variable {e w : World} {F : List HP} {c0 c1 c2 c3 c4 n a b : Int}
theorem scCut (h : Own e w F) : Rets Try.prog 19 #[.int .i64 n, .int .i64 a, .int .i64 b] w fun v w' => v = .int .i64 (crI a b n) ∧ Own e w' F := script_cut_go _ _ _ ⟨rfl, h⟩
theorem rdCut (h : Own e w F) : Rets Try.prog 26 #[.int .i64 n, .int .i64 a, .int .i64 b] w fun v w' => v = .int .i64 (crI a b n) ∧ Own e w' F := cortadoref18_cut_go _ _ _ ⟨rfl, h⟩
theorem csCut (h : Own e w F) : Rets Try.prog 18 #[.int .i64 n] w fun v w' => v = .int .i64 (crI 0 4611686018427387904 n) ∧ Own e w' F := cost_Cut_go _ ⟨rfl, h⟩
abbrev nearV (c0 c1 c2 c3 c4 : Int) : Value := .agg #[.int .i64 (crI 0 4611686018427387904 c0), .int .i64 (crI 1 64 c1), .int .i64 (crI 1 4096 c2), .int .i64 (crI 1 16 c3), .int .i64 (crI 0 64 c4)]
theorem scNear (h : Own e w F) : Rets Try.prog 7 #[.agg #[.int .i64 c0, .int .i64 c1, .int .i64 c2, .int .i64 c3, .int .i64 c4]] w fun v w' => v = nearV c0 c1 c2 c3 c4 ∧ Own e w' F := by
  refine script_Nearest_go _ _ _ _ _ (h.newR fun g1 w h => h.newR fun g2 w h => h.drw fun w h => ⟨fun w => Own e w _, h, _, fun w h => Own.ld (g := g1) h (by repeat (first | with_reducible exact Pick.here | apply Pick.there)) rfl, _, fun w h => Own.ld (g := g1) h (by repeat (first | with_reducible exact Pick.here | apply Pick.there)) rfl, _, fun w h => Own.ld (g := g1) h (by repeat (first | with_reducible exact Pick.here | apply Pick.there)) rfl, _, fun w h => Own.ld (g := g1) h (by repeat (first | with_reducible exact Pick.here | apply Pick.there)) rfl, _, fun w h => Own.ld (g := g1) h (by repeat (first | with_reducible exact Pick.here | apply Pick.there)) rfl, ?_⟩)
  refine Rets.mono (csCut h) ?_
  rintro _ w ⟨rfl, h⟩
  refine ⟨_, rfl, h, ?_⟩
  refine Rets.mono (scCut h) ?_
  rintro _ w ⟨rfl, h⟩
  refine ⟨_, rfl, h, ?_⟩
  refine Rets.mono (scCut h) ?_
  rintro _ w ⟨rfl, h⟩
  refine ⟨_, rfl, h, ?_⟩
  refine Rets.mono (scCut h) ?_
  rintro _ w ⟨rfl, h⟩
  refine ⟨_, rfl, h, ?_⟩
  refine Rets.mono (scCut h) ?_
  rintro _ w ⟨rfl, h⟩
  refine ⟨_, rfl, Own.stP' (g := g2) h (by repeat (first | with_reducible exact Pick.here | apply Pick.there)) (by simp) (by simp [Value.oneCell']) fun w h => ?_⟩
  simp only [setFrom, List.set_cons_zero, List.set_cons_succ, List.set_nil] at h
  exact ⟨_, _, _, _, _, ⟨Own.ld (g := g2) h (by repeat (first | with_reducible exact Pick.here | apply Pick.there)) rfl, Own.ld (g := g2) h (by repeat (first | with_reducible exact Pick.here | apply Pick.there)) rfl, Own.ld (g := g2) h (by repeat (first | with_reducible exact Pick.here | apply Pick.there)) rfl, Own.ld (g := g2) h (by repeat (first | with_reducible exact Pick.here | apply Pick.there)) rfl, Own.ld (g := g2) h (by repeat (first | with_reducible exact Pick.here | apply Pick.there)) rfl⟩, rfl, h.drop.drop⟩
theorem rdNear (h : Own e w F) : Rets Try.prog 10 #[.agg #[.int .i64 c0, .int .i64 c1, .int .i64 c2, .int .i64 c3, .int .i64 c4]] w fun v w' => v = nearV c0 c1 c2 c3 c4 ∧ Own e w' F := by
  refine cortadoref18_Nearest_go _ _ _ _ _ (h.newR fun g1 w h => h.newR fun g2 w h => h.drw fun w h => ⟨fun w => Own e w _, h, _, fun w h => Own.ld (g := g1) h (by repeat (first | with_reducible exact Pick.here | apply Pick.there)) rfl, _, fun w h => Own.ld (g := g1) h (by repeat (first | with_reducible exact Pick.here | apply Pick.there)) rfl, _, fun w h => Own.ld (g := g1) h (by repeat (first | with_reducible exact Pick.here | apply Pick.there)) rfl, _, fun w h => Own.ld (g := g1) h (by repeat (first | with_reducible exact Pick.here | apply Pick.there)) rfl, _, fun w h => Own.ld (g := g1) h (by repeat (first | with_reducible exact Pick.here | apply Pick.there)) rfl, ?_⟩)
  refine Rets.mono (rdCut h) ?_
  rintro _ w ⟨rfl, h⟩
  refine ⟨_, rfl, h, ?_⟩
  refine Rets.mono (rdCut h) ?_
  rintro _ w ⟨rfl, h⟩
  refine ⟨_, rfl, h, ?_⟩
  refine Rets.mono (rdCut h) ?_
  rintro _ w ⟨rfl, h⟩
  refine ⟨_, rfl, h, ?_⟩
  refine Rets.mono (rdCut h) ?_
  rintro _ w ⟨rfl, h⟩
  refine ⟨_, rfl, h, ?_⟩
  refine Rets.mono (rdCut h) ?_
  rintro _ w ⟨rfl, h⟩
  refine ⟨_, rfl, Own.stP' (g := g2) h (by repeat (first | with_reducible exact Pick.here | apply Pick.there)) (by simp) (by simp [Value.oneCell']) fun w h => ?_⟩
  simp only [setFrom, List.set_cons_zero, List.set_cons_succ, List.set_nil] at h
  exact ⟨_, _, _, _, _, ⟨Own.ld (g := g2) h (by repeat (first | with_reducible exact Pick.here | apply Pick.there)) rfl, Own.ld (g := g2) h (by repeat (first | with_reducible exact Pick.here | apply Pick.there)) rfl, Own.ld (g := g2) h (by repeat (first | with_reducible exact Pick.here | apply Pick.there)) rfl, Own.ld (g := g2) h (by repeat (first | with_reducible exact Pick.here | apply Pick.there)) rfl, Own.ld (g := g2) h (by repeat (first | with_reducible exact Pick.here | apply Pick.there)) rfl⟩, rfl, h.drop.drop⟩
def nearP (c0 c1 c2 c3 c4 : Int) : Prop := (0 ≤ c0 ∧ c0 ≤ 4611686018427387904) ∧ (1 ≤ c1 ∧ c1 ≤ 64) ∧ (1 ≤ c2 ∧ c2 ≤ 4096) ∧ (1 ≤ c3 ∧ c3 ≤ 16) ∧ (0 ≤ c4 ∧ c4 ≤ 64)
theorem nearP.v (h : nearP c0 c1 c2 c3 c4) : nearV c0 c1 c2 c3 c4 = .agg #[.int .i64 c0, .int .i64 c1, .int .i64 c2, .int .i64 c3, .int .i64 c4] := by
  obtain ⟨h0, h1, h2, h3, h4⟩ := h
  unfold nearV
  rw [crI_id h0, crI_id h1, crI_id h2, crI_id h3, crI_id h4]
theorem nearP.of (c0 c1 c2 c3 c4 : Int) : nearP (crI 0 4611686018427387904 c0) (crI 1 64 c1) (crI 1 4096 c2) (crI 1 16 c3) (crI 0 64 c4) := ⟨crI_bd (by omega) _, crI_bd (by omega) _, crI_bd (by omega) _, crI_bd (by omega) _, crI_bd (by omega) _⟩
theorem scConfig (hc : nearP c0 c1 c2 c3 c4) (h : Own e w F) : Rets Try.prog 11 #[.agg #[.int .i64 c0, .int .i64 c1, .int .i64 c2, .int .i64 c3, .int .i64 c4]] w fun v w' => v = .bool true ∧ Own e w' F := by
  refine script_Config_go _ _ _ _ _ (h.newR fun g1 w h => h.drw fun w h => ⟨fun w => Own e w _, h, _, _, _, _, _, ⟨fun w h => Own.ld (g := g1) h (by repeat (first | with_reducible exact Pick.here | apply Pick.there)) rfl, fun w h => Own.ld (g := g1) h (by repeat (first | with_reducible exact Pick.here | apply Pick.there)) rfl, fun w h => Own.ld (g := g1) h (by repeat (first | with_reducible exact Pick.here | apply Pick.there)) rfl, fun w h => Own.ld (g := g1) h (by repeat (first | with_reducible exact Pick.here | apply Pick.there)) rfl, fun w h => Own.ld (g := g1) h (by repeat (first | with_reducible exact Pick.here | apply Pick.there)) rfl⟩, _, _, _, _, _, ⟨fun w h => Own.ld (g := g1) h (by repeat (first | with_reducible exact Pick.here | apply Pick.there)) rfl, fun w h => Own.ld (g := g1) h (by repeat (first | with_reducible exact Pick.here | apply Pick.there)) rfl, fun w h => Own.ld (g := g1) h (by repeat (first | with_reducible exact Pick.here | apply Pick.there)) rfl, fun w h => Own.ld (g := g1) h (by repeat (first | with_reducible exact Pick.here | apply Pick.there)) rfl, fun w h => Own.ld (g := g1) h (by repeat (first | with_reducible exact Pick.here | apply Pick.there)) rfl⟩, ?_⟩)
  refine Rets.mono (scNear h) ?_
  rintro _ w ⟨rfl, h⟩
  rw [hc.v]
  exact ⟨_, _, _, _, _, rfl, h, by simp, h.drop⟩
end
/-! ### What bytes say -/
def rdPs (B : List Int) : Nat → Nat → List (List Op5) × Nat
  | 0, a => ([], a)
  | n + 1, a => ((rdPs B n a).1 ++ [(rdProg B (rdPs B n a).2).1], (rdProg B (rdPs B n a).2).2)
def rdDs (B : List Int) : Nat → Nat → List Int × Nat
  | 0, a => ([], a)
  | n + 1, a => ((rdDs B n a).1 ++ [(tInt B (rdDs B n a).2).1], (tInt B (rdDs B n a).2).2)
theorem rdPs_len (B : List Int) (a : Nat) : ∀ n, (rdPs B n a).1.length = n
  | 0 => rfl
  | n + 1 => by simp [rdPs, rdPs_len B a n]
theorem rdDs_len (B : List Int) (a : Nat) : ∀ n, (rdDs B n a).1.length = n
  | 0 => rfl
  | n + 1 => by simp [rdDs, rdDs_len B a n]
theorem rdPs_le {B : List Int} {a : Nat} (h : a ≤ B.length) : ∀ n, (rdPs B n a).2 ≤ B.length
  | 0 => h
  | n + 1 => rdProg_le (rdPs_le h n)
theorem rdDs_le {B : List Int} {a : Nat} (h : a ≤ B.length) : ∀ n, (rdDs B n a).2 ≤ B.length
  | 0 => h
  | n + 1 => tInt_le (rdDs_le h n)
theorem rdPs_fine (B : List Int) (a : Nat) : ∀ n, ∀ l ∈ (rdPs B n a).1, fineB l = true
  | 0, l, h => by cases h
  | n + 1, l, h => by
    rcases List.mem_append.1 h with h | h
    · exact rdPs_fine B a n l h
    · rw [List.mem_singleton.1 h]; exact rdProg_fine _ _
def sp1 (B : List Int) : Nat := (tInt B 0).2
def sp2 (B : List Int) : Nat := tbA B (sp1 B)
def sp3 (B : List Int) : Nat := tbA B (sp2 B)
def sp4 (B : List Int) : Nat := tbA B (sp3 B)
def sp5 (B : List Int) : Nat := (tInt B (sp4 B)).2
def sp6 (B : List Int) : Nat := tbA B (sp5 B)
def snp (B : List Int) : Nat := (tbV B (sp5 B) % 7).toNat
def sp7 (B : List Int) : Nat := (rdPs B (snp B) (sp6 B)).2
def snd (B : List Int) : Nat := (tbV B (sp7 B)).toNat
def sp8 (B : List Int) : Nat := tbA B (sp7 B)
def sp9 (B : List Int) : Nat := (rdDs B (snd B) (sp8 B)).2
def sPs (B : List Int) : List (List Op5) := (rdPs B (snp B) (sp6 B)).1
def sDs (B : List Int) : List Int := (rdDs B (snd B) (sp8 B)).1
def sPk (B : List Int) : List Int := (B.drop (sp9 B)).take 4096
def sC0 (B : List Int) : Int := crI 0 4611686018427387904 (tInt B 0).1
def sC1 (B : List Int) : Int := crI 1 64 (tbV B (sp1 B) % 64 + 1)
def sC2 (B : List Int) : Int := crI 1 4096 (tInt B (sp4 B)).1
def sC3 (B : List Int) : Int := crI 1 16 (tbV B (sp2 B) % 16 + 1)
def sC4 (B : List Int) : Int := crI 0 64 (tbV B (sp3 B) % 65)
theorem sp_le (B : List Int) : sp1 B ≤ B.length ∧ sp2 B ≤ B.length ∧ sp3 B ≤ B.length ∧ sp4 B ≤ B.length ∧ sp5 B ≤ B.length ∧ sp6 B ≤ B.length ∧ sp7 B ≤ B.length ∧ sp8 B ≤ B.length ∧ sp9 B ≤ B.length := by
  have h1 : sp1 B ≤ B.length := tInt_le (Nat.zero_le _)
  have h2 : sp2 B ≤ B.length := tbA_le h1
  have h3 : sp3 B ≤ B.length := tbA_le h2
  have h4 : sp4 B ≤ B.length := tbA_le h3
  have h5 : sp5 B ≤ B.length := tInt_le h4
  have h6 : sp6 B ≤ B.length := tbA_le h5
  have h7 : sp7 B ≤ B.length := rdPs_le h6 _
  have h8 : sp8 B ≤ B.length := tbA_le h7
  exact ⟨h1, h2, h3, h4, h5, h6, h7, h8, rdDs_le h8 _⟩
section
variable {e w : World} {F : List HP} {g b at_ c : Nat} {q : Option Addr} {B : List Int}
theorem scBelow {n : Nat} (hn1 : 1 ≤ n ∧ n ≤ 1000) (h : Own e w (tapeB 76 g q B.length c at_ :: blk b 57 [.pointer (some ⟨g, 0, none⟩)] :: F)) (hrd : ∀ w a, Own e w (tapeB 76 g q B.length c a :: F) → RdC w q (cs .u8 B)) (hat : at_ ≤ B.length) (hn : B.length ≤ 1000000) (hb : ∀ x ∈ B, 0 ≤ x ∧ x < 256) :
    Rets Try.prog 37 #[.int .i64 (n : Int), .pointer (some ⟨b, 0, none⟩)] w fun v w' => v = .int .i64 (tbV B at_ % (n : Int)) ∧ Own e w' (tapeB 76 g q B.length c (tbA B at_) :: blk b 57 [.pointer (some ⟨g, 0, none⟩)] :: F) := by
  have hv := tbV_bd hb at_
  refine script_Parse_1_go _ _ ⟨_, Own.ld' (g := b) h (by repeat (first | with_reducible exact Pick.here | apply Pick.there)) rfl, ?_⟩
  refine Rets.mono (Below_spec (k := (n : Int)) h (fun w a h => hrd w a (Own.sub (h) (by repeat (first | exact Sub.nil _ | exact Sub.rfl _ | (apply Sub.cons; focus ((repeat (first | with_reducible exact Pick.here | apply Pick.there)); done)) | apply Sub.drop)))) hat hn hb) ?_
  rintro _ w ⟨rfl, h⟩
  rw [if_neg (by omega)] at h
  refine ⟨_, rfl, ?_, h⟩
  rw [if_neg (by omega), Int.tmod_eq_emod_of_nonneg (by omega)]
end
end Go.Proofs.Ytppmdifhoejhjaa.Eng
