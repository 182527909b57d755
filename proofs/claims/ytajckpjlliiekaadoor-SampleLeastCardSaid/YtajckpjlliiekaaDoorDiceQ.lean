/- DiceDraws, DiceAlike. -/
import Derived.Test.YtajckpjlliiekaaDoorDiceP
namespace Go.Proofs.YtajckpjlliiekaaDoor.Eng
open Go Go.RowKit Go.Proofs
set_option linter.unusedVariables false
set_option linter.unusedSimpArgs false
set_option maxRecDepth 1000000
section
variable {e w : World} {F : List HP} {g u : Nat} {L : List Int} {s : Int} {q : Option Addr} {c : Nat}
theorem rfAt {k : Nat} (h : Own e w F) (hr : ∀ w, Own e w F → RdC w q (cs .i64 L)) (hs : M64 s) (hn : L.length * 8 ≤ 140737488351232) (hk : k ≤ 10000000) : Rets Tryd.prog 88 #[.slice q L.length c, .int .u64 s, .int .i64 (k : Int)] w fun v w' => v = .int .u64 (drawI L s k) ∧ Own e w' F := by
  refine cortadoref15_At_go _ _ _ _ _ ⟨fun hx => ?_, fun hx => ?_⟩
  · have hx := dec_t hx
    have hk2 : k < L.length := by omega
    refine ⟨by omega, by omega, RdC.int (hr w h) hk2 fun a ha => ⟨_, by rw [Int.toNat_natCast]; exact ha, ?_, h⟩⟩
    rw [drawI_low hk2]
  · have hx := dec_f hx
    obtain ⟨h0, h1⟩ := hs
    refine ⟨fun m vs w => ∃ i : Nat, vs = [.int .u64 ((s + 11400714819323198485 * (i : Int)) % 18446744073709551616), .int .i64 ((L.length + i : Nat) : Int)] ∧ L.length + i + m = k + 1 ∧ Own e w F, ⟨k + 1 - L.length, 0, ?_, by omega, h⟩, ?_⟩
    · have : (s + 11400714819323198485 * ((0 : Nat) : Int)) % 18446744073709551616 = s := by omega
      rw [this]; rfl
    rintro m w n2 n3
    intros
    rename_i hI
    obtain ⟨i, hvs, hm, h⟩ := hI
    obtain ⟨rfl, rfl⟩ : n2 = (s + 11400714819323198485 * (i : Int)) % 18446744073709551616 ∧ n3 = ((L.length + i : Nat) : Int) := by simpa using hvs
    refine ⟨fun hc => ?_, fun hc => ?_⟩
    · have hc := dec_t hc
      refine ⟨m - 1, by omega, i + 1, ?_, by omega, h⟩
      rw [wU64, wI64 (by omega) (by omega)]
      have e1 : ((s + 11400714819323198485 * (i : Int)) % 18446744073709551616 + 11400714819323198485) % 18446744073709551616 = (s + 11400714819323198485 * ((i + 1 : Nat) : Int)) % 18446744073709551616 := by omega
      rw [e1]; rfl
    · have hc := dec_f hc
      have hik : (i : Int) = (k : Int) - L.length + 1 := by omega
      rw [hik]
      refine Rets.mono (rfMix ?_ h) ?_
      · unfold M64; omega
      rintro _ w ⟨rfl, h⟩
      refine ⟨_, rfl, ?_, h⟩
      unfold drawI; rw [if_neg (by omega)]
/-- The document's dice. -/
abbrev rdO (g : Nat) (q : Option Addr) (n c : Nat) (s : Int) (u : Nat) : HP := blk g 44 [.slice q n c, .int .u64 s, .int .i64 (u : Int)]
theorem rdNext (h : Own e w (rdO g q L.length c s u :: F)) (hr : ∀ w, Own e w F → RdC w q (cs .i64 L)) (hs : M64 s) (hn : L.length * 8 ≤ 140737488351232) (hu : u ≤ 10000) : Rets Tryd.prog 70 #[.pointer (some ⟨g, 0, none⟩)] w fun v w' => v = .int .u64 (drawI L s u) ∧ Own e w' (rdO g q L.length c s (u + 1) :: F) := by
  refine cortadoref15_D_Next_go _ (h.drw fun w h => ⟨_, _, _, (Own.ld h (by repeat (first | with_reducible exact Pick.here | apply Pick.there)) (by rfl)), _, (Own.ld h (by repeat (first | with_reducible exact Pick.here | apply Pick.there)) (by rfl)), _, (Own.ld h (by repeat (first | with_reducible exact Pick.here | apply Pick.there)) (by rfl)), ?_⟩)
  refine Rets.mono (rfAt h (fun w h => hr w h.drop) hs hn (by omega)) ?_
  rintro _ w ⟨rfl, h⟩
  refine ⟨_, rfl, _, (Own.ld h (by repeat (first | with_reducible exact Pick.here | apply Pick.there)) (by rfl)), Own.stP h (by repeat (first | with_reducible exact Pick.here | apply Pick.there)) (by simp) (by simp [Value.oneCell']) fun w h => ⟨rfl, ?_⟩⟩
  simp only [setFrom, List.set_cons_zero, List.set_cons_succ, List.set_nil] at h
  rw [wI64 (by omega) (by omega)] at h
  exact h
theorem rdBelow {n : Int} (h : Own e w (rdO g q L.length c s u :: F)) (hr : ∀ w, Own e w F → RdC w q (cs .i64 L)) (hs : M64 s) (hn : L.length * 8 ≤ 140737488351232) (hu : u ≤ 10000) (hb : n ≤ 9223372036854775807) : Rets Tryd.prog 48 #[.pointer (some ⟨g, 0, none⟩), .int .i64 n] w fun v w' => v = .int .i64 (belI (drawI L s u) n) ∧ Own e w' (rdO g q L.length c s (if n < 1 then u else u + 1) :: F) := by
  refine cortadoref15_D_Below_go _ _ ⟨fun hx => ?_, fun hx => ?_⟩
  · have hx := dec_t hx
    rw [if_pos hx]
    unfold belI; rw [if_pos hx]; exact ⟨rfl, h⟩
  · have hx := dec_f hx
    rw [if_neg hx]
    refine Rets.mono (rdNext h hr hs hn hu) ?_
    rintro _ w ⟨rfl, h⟩
    refine ⟨_, rfl, by rw [wU64' (by omega) (by omega)]; omega, ?_, h⟩
    rw [belI_wrap (drawI_M64 _ _ _).1 (by omega) hb]
end
end Go.Proofs.YtajckpjlliiekaaDoor.Eng
