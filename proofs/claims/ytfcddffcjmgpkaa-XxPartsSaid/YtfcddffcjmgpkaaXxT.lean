/- XxParts. -/
import Derived.Test.YtfcddffcjmgpkaaXxS
import Derived.Test.YtfcddffcjmgpkaaEngA
namespace Go.Proofs.Ytfcddffcjmgpkaa.Eng
open Go Go.RowKit Go.Proofs
set_option linter.unusedVariables false
set_option linter.unusedSimpArgs false
set_option maxRecDepth 1000000
section
variable {e w : World} {F : List HP} {q : Option Addr} {n c : Nat}
theorem xnWrite (h : Own e w F) : Rets Try.prog 55 #[.pointer none, .slice q n c] w fun v w' => v = .tuple #[] ∧ Own e w' F :=
  xx_nil_Write_go _ _ _ ⟨fun _ => ⟨rfl, h⟩, fun hc => (by cases hc)⟩
theorem xnSum (h : Own e w F) : Rets Try.prog 56 #[.pointer none] w fun v w' => v = .int .u64 0 ∧ Own e w' F :=
  xx_nil_Sum_go ⟨fun _ => ⟨rfl, h⟩, fun hc => (by cases hc)⟩
theorem xnCount (h : Own e w F) : Rets Try.prog 57 #[.pointer none] w fun v w' => v = .int .i64 0 ∧ Own e w' F :=
  xx_nil_Count_go ⟨fun _ => ⟨rfl, h⟩, fun hc => (by cases hc)⟩
end
def allB (l : List (Sl Int)) (i : Nat) : List Int := (l.take i).flatMap fun x => x.2.2
theorem allB_succ {l : List (Sl Int)} {i : Nat} (h : i < l.length) : allB l (i + 1) = allB l i ++ l[i].2.2 := by
  unfold allB
  rw [List.take_succ_eq_append_getElem h, List.flatMap_append]; simp
theorem XxParts_spec {W : World} {q : Option Addr} {c : Nat} {l : List (Sl Int)} {s : Int} (hb : RdC W q (l.map Sl.v)) (hm : l.length ≤ maxLen) (hc : l.length ≤ c) (hl : ∀ x ∈ l, RdC W x.1 (cs .u8 x.2.2) ∧ x.2.2.length ≤ maxLen ∧ x.2.2.length ≤ x.2.1 ∧ ∀ y ∈ x.2.2, (Lit.int .u8 y).wf = true) (hs : (Lit.int .u64 s).wf = true) :
    Rets Try.prog 9 #[.slice q l.length c, .int .u64 s] W fun v w' => v = .bool true ∧ Below W.heap.size W w' := by
  refine Rets.mono (k := fun v w' => v = .bool true ∧ Own W w' [snap W]) ?_ (fun v w' h => ⟨h.1, h.2.below⟩)
  have h := Own.begin W
  have hs : M64 s := wfU64 hs
  have hr : ∀ w, Own W w [snap W] → RdC w q (l.map Sl.v) := fun w h => h.snapRd hb
  have aw : ∀ w, Own W w [snap W] → Rets Try.prog 27 #[] w fun v w' => ∃ b, v = Value.bool b ∧ (Value.bool b) = .bool true ∧ Own W w' [snap W] := fun w h => by
    refine Rets.mono (xxAwake h) ?_
    rintro _ w ⟨rfl, h⟩
    exact ⟨_, rfl, rfl, h⟩
  refine cortadolaw04_XxParts_go _ _ _ _ ⟨fun hx => aw W h, fun hx => ?_⟩
  have hx := dec_f hx
  refine Rets.mono (xxNew h) ?_
  clear h
  rintro _ w ⟨g, rfl, h⟩
  refine ⟨_, rfl, fun m vs w => ∃ (i : Nat) (q' : Option Addr) (c' : Nat), vs = [.slice q' (allB l i).length c', .int .i64 (i : Int)] ∧ m + i = l.length ∧ (allB l i).length ≤ 80 * i ∧ By (allB l i) ∧ Own W w (byB q' (allB l i).length c' (allB l i) :: xxO g s (allB l i) :: [snap W]), ⟨l.length, 0, none, 0, rfl, rfl, Nat.le_refl _, (fun x hx => by cases hx), h.slNil⟩, ?_⟩
  clear h
  rintro m w v3 q2 k3 k4 n1
  intros
  rename_i hI
  obtain ⟨i, q', c', hvs, hm, h80, hby, h⟩ := hI
  obtain ⟨⟨rfl, rfl, rfl⟩, rfl⟩ : (q2 = q' ∧ k3 = (allB l i).length ∧ k4 = c') ∧ n1 = (i : Int) := by simpa using hvs
  refine ⟨fun hx => ?_, fun hx => ?_⟩
  · have hx := dec_t hx
    have hi : i < l.length := by omega
    obtain ⟨x, hxe⟩ : ∃ x, x = l[i] := ⟨_, rfl⟩
    obtain ⟨hx1, hx2, hx3, hx4⟩ := hl x (by rw [hxe]; exact List.getElem_mem hi)
    have hx8 : By x.2.2 := fun y hy => wf8 (hx4 y hy)
    have hrx : ∀ w, Own W w [snap W] → RdC w x.1 (cs .u8 x.2.2) := fun w h => h.snapRd hx1
    have hin : (0 : Int) ≤ (i : Int) := by omega
    have hil : (i : Int) < (l.length : Int) := by omega
    refine ⟨hin, hil, RdC.mp (f := Sl.v) (hr w h.drop.drop) hi fun a ha => ⟨x.1, x.2.2.length, x.2.1, by rw [hxe]; exact ha, fun hy => aw w h.drop.drop, fun hy => ?_⟩⟩
    have hy := dec_f hy
    refine ⟨hin, hil, RdC.mp (f := Sl.v) (hr w h.drop.drop) hi fun a ha => ⟨x.1, x.2.2.length, x.2.1, by rw [hxe]; exact ha, ?_⟩⟩
    refine app8 h (hrx w h.drop.drop) rfl (by omega) fun q5 c5 w h => ⟨_, _, _, rfl, hin, hil, RdC.mp (f := Sl.v) (hr w h.drop.drop) hi fun a ha => ⟨x.1, x.2.2.length, x.2.1, by rw [hxe]; exact ha, ?_⟩⟩
    have ea : allB l i ++ x.2.2 = allB l (i + 1) := by rw [hxe, allB_succ hi]
    have el : (allB l i).length + x.2.2.length = (allB l (i + 1)).length := by rw [← ea, List.length_append]
    rw [ea, el] at h
    have h : Own W w (xxO g s (allB l i) :: byB q5 (allB l (i + 1)).length c5 (allB l (i + 1)) :: [snap W]) := h.swap
    refine Rets.mono (xxWrite hx8 (fun w h => hrx w h.drop) hx3 (by omega) h) ?_
    rintro _ w ⟨rfl, h⟩
    rw [ea] at h
    have hby2 : By (allB l (i + 1)) := by rw [← ea]; exact hby.append hx8
    refine ⟨rfl, ?_⟩
    refine Rets.mono (xxDSum hs (by omega) h) ?_
    rintro _ w ⟨rfl, h⟩
    refine ⟨_, rfl, ?_⟩
    have hfa := h.swap.slFacts
    rw [el]
    refine Rets.mono (rfSum hs hby2 (fun w h => h.swap.slRd) (by omega) (by omega) h) ?_
    rintro _ w ⟨rfl, h⟩
    refine ⟨_, rfl, fun _ => ?_, fun hc => absurd hc (by simp)⟩
    refine Rets.mono (xxCount h) ?_
    rintro _ w ⟨rfl, h⟩
    refine ⟨_, rfl, fun hc => absurd hc (by simp), fun _ => ⟨m - 1, by omega, i + 1, q5, c5, ?_, by omega, by omega, hby2, h.swap⟩⟩
    rw [wI64 (by omega) (by omega)]; rfl
  · have hx := dec_f hx
    refine Rets.mono (xnWrite h.drop.drop) ?_
    rintro _ w ⟨rfl, h⟩
    refine ⟨rfl, ?_⟩
    refine Rets.mono (xnSum h) ?_
    rintro _ w ⟨rfl, h⟩
    refine ⟨_, rfl, fun _ => ?_, fun hc => absurd hc (by simp)⟩
    refine Rets.mono (xnCount h) ?_
    rintro _ w ⟨rfl, h⟩
    exact ⟨_, rfl, fun _ => aw w h, fun hc => absurd hc (by simp)⟩
end Go.Proofs.Ytfcddffcjmgpkaa.Eng
