/- NibbleApart. -/
import Derived.Test.YtmenjjofmafacaaNibR
namespace Go.Proofs.Ytmenjjofmafacaa.Eng
open Go Go.RowKit Go.Proofs
set_option linter.unusedVariables false
set_option linter.unusedSimpArgs false
set_option maxRecDepth 1000000
section
variable {e w : World} {F : List HP} {g : Nat} {ns : List Nat}
theorem nnLen (h : Own e w F) : Rets Try.prog 80 #[.pointer none] w fun v w' => v = .int .i64 0 ∧ Own e w' F :=
  nibble_nil_Len_go ⟨fun _ => ⟨rfl, h⟩, fun hc => (by cases hc)⟩
theorem nnIn {i : Int} (h : Own e w F) : Rets Try.prog 77 #[.pointer none, .int .i64 i] w fun v w' => v = .bool false ∧ Own e w' F := by
  refine nibble_Row_in_go _ _ ⟨fun hc => ?_, fun hc => ⟨rfl, h⟩⟩
  refine Rets.mono (nnLen h) ?_
  rintro v w1 ⟨rfl, h⟩
  have := dec_t hc
  exact ⟨_, rfl, by rw [decide_eq_false (by omega)], h⟩
theorem nnGet {i : Int} (h : Own e w F) : Rets Try.prog 75 #[.pointer none, .int .i64 i] w fun v w' => v = .int .i64 0 ∧ Own e w' F := by
  refine nibble_nil_Get_go _ ?_
  refine Rets.mono (nnIn h) ?_
  rintro v w1 ⟨rfl, h⟩
  exact ⟨_, rfl, fun _ => ⟨rfl, h⟩, fun hc => (by cases hc)⟩
theorem nnAdd {i : Int} (h : Own e w F) : Rets Try.prog 52 #[.pointer none, .int .i64 i] w fun v w' => v = .bool false ∧ Own e w' F := by
  refine nibble_nil_Add_go _ ?_
  refine Rets.mono (nnIn h) ?_
  rintro v w1 ⟨rfl, h⟩
  exact ⟨_, rfl, fun hc => (by cases hc), fun _ => ⟨rfl, h⟩⟩
theorem nnBytes (h : Own e w F) : Rets Try.prog 76 #[.pointer none] w fun v w' => v = .slice none 0 0 ∧ Own e w' F :=
  nibble_nil_Bytes_go ⟨fun _ => ⟨rfl, h⟩, fun hc => (by cases hc)⟩
theorem nnAll1 {l b : Nat} (h : Own e w (blk b 75 [.pointer none] :: F)) : Rets Try.prog 79 #[.func (.yield l) #[] #[], .pointer (some ⟨b, 0, none⟩)] w fun v w' => Own e w' (blk b 75 [.pointer none] :: F) := by
  refine nibble_Row_All_1_go _ _ ⟨_, h.cellAdd 0 rfl, ?_⟩
  refine Rets.mono (nnLen h) ?_
  rintro v w1 ⟨rfl, h⟩
  refine ⟨_, rfl, fun m vs w => vs = [.int .i64 0] ∧ Own e w (blk b 75 [.pointer none] :: F), ⟨0, rfl, h⟩, ?_⟩
  rintro m w2 v2 v3 n2
  intros
  rename_i hI
  obtain ⟨hvs, h⟩ := hI
  obtain rfl : n2 = 0 := by simpa using hvs
  exact ⟨fun hc => (by cases hc), fun hc => h⟩
theorem nAwake_spec (h : Own e w F) : Rets Try.prog 50 #[] w fun v w' => v = .bool true ∧ Own e w' F := by
  refine cortadolaw10_awake_go ?_
  refine Rets.mono (nNew_spec (n := 3) (N := 3) h (by rfl)) ?_
  rintro v w1 ⟨g, rfl, h⟩
  refine ⟨_, rfl, ?_⟩
  refine Rets.mono (nAdd_spec (i := 1) h (nbOk_zero _) (by simp)) ?_
  rintro v w2 ⟨rfl, h⟩
  refine ⟨_, rfl, fun _ => ?_, fun hc => (by cases hc)⟩
  refine Rets.mono (nGet_spec (i := 1) h (ngAdd_ok (nbOk_zero _) _) (by simp [ngAdd_len])) ?_
  rintro v w3 ⟨rfl, h⟩
  refine ⟨_, rfl, fun _ => ?_, fun hc => (by cases hc)⟩
  refine Rets.mono (nBytes_spec h (by simp [ngAdd_len])) ?_
  rintro v w4 ⟨q', c', rfl, h⟩
  exact ⟨_, _, _, rfl, rfl, h.drop.drop⟩
end
end Go.Proofs.Ytmenjjofmafacaa.Eng
