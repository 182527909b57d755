/- Tiny: what each function does. -/
import Derived.Test.YtkhfejnkefgpeaaDoorTinW
import Derived.Test.YtkhfejnkefgpeaaDoorTinG
import Derived.Test.YtkhfejnkefgpeaaDoorEngW
namespace Go.Proofs.YtkhfejnkefgpeaaDoor.Eng
open Go Go.RowKit Go.Proofs
set_option linter.unusedVariables false
set_option linter.unusedSimpArgs false
set_option maxRecDepth 1000000
abbrev tinB (g gs gd : Nat) (ct lim ag : Int) : HP := blk g 54 [.pointer (some ⟨gs, 0, none⟩), .pointer (some ⟨gd, 0, none⟩), .int .i64 ct, .int .i64 lim, .int .i64 ag]
/-- A tiny: its sketch, its door, three numbers. -/
def tinO (g m md : Nat) (s : Int) (R : Nat → List Nat) (ws : List Nat) (ct lim ag : Int) : HP := exH fun (p : Nat × Nat) => puH (ws.length = (2 ^ md + 63) / 64 ∧ md ≤ 20 ∧ m ≤ 12 ∧ rowsOk (2 ^ m) R) (allH [tinB g p.1 p.2 ct lim ag, skO p.1 m s R, dorO p.2 md (mixI s) ws])
section
variable {e w : World} {F : List HP} {n s hh ct lim ag : Int} {g m md : Nat} {R : Nat → List Nat} {ws : List Nat}
theorem tinO.op (h : Own e w (tinO g m md s R ws ct lim ag :: F)) : ∃ gs gd, (ws.length = (2 ^ md + 63) / 64 ∧ md ≤ 20 ∧ m ≤ 12 ∧ rowsOk (2 ^ m) R) ∧ Own e w (tinB g gs gd ct lim ag :: skO gs m s R :: dorO gd md (mixI s) ws :: F) := by
  obtain ⟨⟨gs, gd⟩, h⟩ := h.ex
  obtain ⟨h1, h⟩ := h.pu
  exact ⟨gs, gd, h1, h.open_⟩
theorem tinO.cl {gs gd : Nat} (h : Own e w (tinB g gs gd ct lim ag :: skO gs m s R :: dorO gd md (mixI s) ws :: F)) : Own e w (tinO g m md s R ws ct lim ag :: F) := by
  have h1 : Own e w (skO gs m s R :: tinB g gs gd ct lim ag :: dorO gd md (mixI s) ws :: F) := h.swap
  obtain ⟨_, ⟨hm, hR⟩, _⟩ := skO.op h1
  have h2 : Own e w (dorO gd md (mixI s) ws :: tinB g gs gd ct lim ag :: skO gs m s R :: F) := (Own.sub (h) (by repeat (first | with_reducible exact Sub.nil _ | with_reducible exact Sub.rfl _ | (apply Sub.cons; focus ((repeat (first | with_reducible exact Pick.here | apply Pick.there)); done)) | apply Sub.drop)))
  obtain ⟨_, ⟨hl, _, hmd, _⟩, _⟩ := dorO.op h2
  have h : Own e w ([tinB g gs gd ct lim ag, skO gs m s R, dorO gd md (mixI s) ws] ++ F) := h
  exact Own.mkEx (P := fun (p : Nat × Nat) => puH (ws.length = (2 ^ md + 63) / 64 ∧ md ≤ 20 ∧ m ≤ 12 ∧ rowsOk (2 ^ m) R) (allH [tinB g p.1 p.2 ct lim ag, skO p.1 m s R, dorO p.2 md (mixI s) ws])) (gs, gd) (Own.mkPu ⟨hl, hmd, hm, hR⟩ h.close_)
theorem tNew (hm1 : ∀ w, Own e w F → RdC w mixQ mixC) (h : Own e w F) : Rets Tryd.prog 6 #[.int .i64 n, .int .u64 s] w fun v w' => ∃ g m md, v = .pointer (some ⟨g, 0, none⟩) ∧ Own e w' (tinO g m md s (fun _ => List.replicate (2 ^ m) 0) (List.replicate ((2 ^ md + 63) / 64) 0) 0 (maxI 1 (minI n 4096)) 0 :: F) := by
  refine tiny_New_go _ _ ?_
  refine Rets.mono (skNew hm1 h) ?_
  clear h
  rintro _ w ⟨gs, m, rfl, _, h⟩
  refine ⟨_, rfl, ?_⟩
  refine Rets.mono (drNew (fun w h => hm1 w h.drop) h) ?_
  clear h
  rintro _ w ⟨gd, md, rfl, _, h⟩
  refine ⟨_, rfl, h.newR fun g w h => ⟨g, m, md, rfl, ?_⟩⟩
  have h : Own e w (tinB g gs gd 0 (maxI 1 (minI n 4096)) 0 :: skO gs m s (fun _ => List.replicate (2 ^ m) 0) :: dorO gd md (mixI s) (List.replicate ((2 ^ md + 63) / 64) 0) :: F) := (Own.sub (h) (by repeat (first | with_reducible exact Sub.nil _ | with_reducible exact Sub.rfl _ | (apply Sub.cons; focus ((repeat (first | with_reducible exact Pick.here | apply Pick.there)); done)) | apply Sub.drop)))
  exact tinO.cl h
theorem drClear {gd : Nat} (h : Own e w (dorO gd md s ws :: F)) : Rets Tryd.prog 29 #[.pointer (some ⟨gd, 0, none⟩)] w fun v w' => v = .tuple #[] ∧ Own e w' (dorO gd md s (List.replicate ws.length 0) :: F) := by
  obtain ⟨q, h1, h⟩ := dorO.op h
  obtain ⟨hl, hsm, hm20, hM⟩ := h1
  refine door_Door_Clear_go _ ⟨fun _ => ⟨_, _, _, (Own.ld h (by repeat (first | with_reducible exact Pick.here | apply Pick.there)) (by rfl)), ?_⟩, fun hc => (by cases hc)⟩
  refine Own.clear (z := .int .u64 0) h.swap (by kernel_rfl) (by kernel_rfl) rfl fun w h => ⟨rfl, rfl, ?_⟩
  refine dorO.cl (q := q) ⟨by rw [List.length_replicate]; exact hl, fun x hx => by rw [List.eq_of_mem_replicate hx]; omega, hm20, hM⟩ ?_
  rw [List.length_replicate]
  have e2 : wsC (List.replicate ws.length 0) = List.replicate ws.length (.int .u64 0) := by simp [cs]
  rw [wsB, e2]
  exact h.swap
theorem tAge (h : Own e w (tinO g m md s R ws ct lim ag :: F)) : Rets Tryd.prog 32 #[.pointer (some ⟨g, 0, none⟩)] w fun v w' => v = .tuple #[] ∧ Own e w' (tinO g m md s (fun j => ngHalve (R j)) (List.replicate ws.length 0) 0 lim (IntKind.wrap .i64 (ag + 1)) :: F) := by
  obtain ⟨gs, gd, _, h⟩ := tinO.op h
  refine tiny_Tiny_age_go _ ⟨_, Own.ld (g := g) (k := 0) h (by repeat (first | with_reducible exact Pick.here | apply Pick.there)) rfl, ?_⟩
  have h : Own e w (skO gs m s R :: tinB g gs gd ct lim ag :: dorO gd md (mixI s) ws :: F) := h.swap
  refine Rets.mono (skHalve h) ?_
  clear h
  rintro _ w ⟨rfl, h⟩
  have h : Own e w (tinB g gs gd ct lim ag :: dorO gd md (mixI s) ws :: skO gs m s (fun j => ngHalve (R j)) :: F) := (Own.sub (h) (by repeat (first | with_reducible exact Sub.nil _ | with_reducible exact Sub.rfl _ | (apply Sub.cons; focus ((repeat (first | with_reducible exact Pick.here | apply Pick.there)); done)) | apply Sub.drop)))
  refine ⟨rfl, _, Own.ld (g := g) (k := 1) h (by repeat (first | with_reducible exact Pick.here | apply Pick.there)) rfl, ?_⟩
  refine Rets.mono (drClear h.swap) ?_
  clear h
  rintro _ w ⟨rfl, h⟩
  have h : Own e w (tinB g gs gd ct lim ag :: skO gs m s (fun j => ngHalve (R j)) :: dorO gd md (mixI s) (List.replicate ws.length 0) :: F) := (Own.sub (h) (by repeat (first | with_reducible exact Sub.nil _ | with_reducible exact Sub.rfl _ | (apply Sub.cons; focus ((repeat (first | with_reducible exact Pick.here | apply Pick.there)); done)) | apply Sub.drop)))
  refine ⟨rfl, Own.stP (g := g) (k := 2) h (by repeat (first | with_reducible exact Pick.here | apply Pick.there)) (by simp) (by simp [Value.oneCell']) fun w h => ?_⟩
  simp only [setFrom, List.set_cons_zero, List.set_cons_succ, List.set_nil] at h
  refine ⟨_, Own.ld (g := g) (k := 4) h (by repeat (first | with_reducible exact Pick.here | apply Pick.there)) rfl, Own.stP (g := g) (k := 4) h (by repeat (first | with_reducible exact Pick.here | apply Pick.there)) (by simp) (by simp [Value.oneCell']) fun w h => ⟨rfl, ?_⟩⟩
  simp only [setFrom, List.set_cons_zero, List.set_cons_succ, List.set_nil] at h
  exact tinO.cl h
theorem tCount (h : Own e w (tinO g m md s R ws ct lim ag :: F)) : Rets Tryd.prog 10 #[.pointer (some ⟨g, 0, none⟩)] w fun v w' => v = .int .i64 ct ∧ Own e w' (tinO g m md s R ws ct lim ag :: F) := by
  obtain ⟨gs, gd, _, h⟩ := tinO.op h
  exact tiny_Tiny_Count_go _ ⟨fun hc => (by cases hc), fun _ => ⟨_, Own.ld (g := g) (k := 2) h (by repeat (first | with_reducible exact Pick.here | apply Pick.there)) rfl, rfl, tinO.cl h⟩⟩
theorem tLimit (h : Own e w (tinO g m md s R ws ct lim ag :: F)) : Rets Tryd.prog 12 #[.pointer (some ⟨g, 0, none⟩)] w fun v w' => v = .int .i64 lim ∧ Own e w' (tinO g m md s R ws ct lim ag :: F) := by
  obtain ⟨gs, gd, _, h⟩ := tinO.op h
  exact tiny_Tiny_Limit_go _ ⟨fun hc => (by cases hc), fun _ => ⟨_, Own.ld (g := g) (k := 3) h (by repeat (first | with_reducible exact Pick.here | apply Pick.there)) rfl, rfl, tinO.cl h⟩⟩
theorem tAged (h : Own e w (tinO g m md s R ws ct lim ag :: F)) : Rets Tryd.prog 11 #[.pointer (some ⟨g, 0, none⟩)] w fun v w' => v = .int .i64 ag ∧ Own e w' (tinO g m md s R ws ct lim ag :: F) := by
  obtain ⟨gs, gd, _, h⟩ := tinO.op h
  exact tiny_Tiny_Aged_go _ ⟨fun hc => (by cases hc), fun _ => ⟨_, Own.ld (g := g) (k := 4) h (by repeat (first | with_reducible exact Pick.here | apply Pick.there)) rfl, rfl, tinO.cl h⟩⟩
theorem tSketch (h : Own e w (tinO g m md s R ws ct lim ag :: F)) : Rets Tryd.prog 17 #[.pointer (some ⟨g, 0, none⟩)] w fun v w' => (∃ gs : Nat, v = .pointer (some ⟨gs, 0, none⟩)) ∧ Own e w' (tinO g m md s R ws ct lim ag :: F) := by
  obtain ⟨gs, gd, _, h⟩ := tinO.op h
  exact tiny_Tiny_Sketch_go _ ⟨fun hc => (by cases hc), fun _ => ⟨_, Own.ld (g := g) (k := 0) h (by repeat (first | with_reducible exact Pick.here | apply Pick.there)) rfl, ⟨_, rfl⟩, tinO.cl h⟩⟩
theorem tDoor (h : Own e w (tinO g m md s R ws ct lim ag :: F)) : Rets Tryd.prog 18 #[.pointer (some ⟨g, 0, none⟩)] w fun v w' => (∃ gd : Nat, v = .pointer (some ⟨gd, 0, none⟩)) ∧ Own e w' (tinO g m md s R ws ct lim ag :: F) := by
  obtain ⟨gs, gd, _, h⟩ := tinO.op h
  exact tiny_Tiny_Door_go _ ⟨fun hc => (by cases hc), fun _ => ⟨_, Own.ld (g := g) (k := 1) h (by repeat (first | with_reducible exact Pick.here | apply Pick.there)) rfl, ⟨_, rfl⟩, tinO.cl h⟩⟩
theorem tEst (hm1 : ∀ w, Own e w F → RdC w mixQ mixC) (hm2 : ∀ w, Own e w F → RdC w twiQ twiC) (h : Own e w (tinO g m md s R ws ct lim ag :: F)) : Rets Tryd.prog 13 #[.pointer (some ⟨g, 0, none⟩), .int .u64 hh] w fun v w' => v = .int .i64 (esN s (2 ^ m) (2 ^ md) R ws hh : Int) ∧ Own e w' (tinO g m md s R ws ct lim ag :: F) := by
  obtain ⟨gs, gd, _, h⟩ := tinO.op h
  refine tiny_Tiny_Estimate_go _ _ ⟨fun hc => (by cases hc), fun _ => ⟨_, Own.ld (g := g) (k := 0) h (by repeat (first | with_reducible exact Pick.here | apply Pick.there)) rfl, ?_⟩⟩
  have h : Own e w (skO gs m s R :: tinB g gs gd ct lim ag :: dorO gd md (mixI s) ws :: F) := h.swap
  refine Rets.mono (skCount (hh := hh) (fun w h => hm1 w h.drop.drop) h) ?_
  clear h
  rintro _ w ⟨rfl, h⟩
  have h : Own e w (tinB g gs gd ct lim ag :: dorO gd md (mixI s) ws :: skO gs m s R :: F) := (Own.sub (h) (by repeat (first | with_reducible exact Sub.nil _ | with_reducible exact Sub.rfl _ | (apply Sub.cons; focus ((repeat (first | with_reducible exact Pick.here | apply Pick.there)); done)) | apply Sub.drop)))
  refine ⟨_, rfl, _, Own.ld (g := g) (k := 1) h (by repeat (first | with_reducible exact Pick.here | apply Pick.there)) rfl, ?_⟩
  refine Rets.mono (drHas (hh := hh) (fun w h => hm1 w h.drop.drop) (fun w h => hm2 w h.drop.drop) h.swap) ?_
  clear h
  rintro _ w ⟨rfl, h⟩
  have h : Own e w (tinB g gs gd ct lim ag :: skO gs m s R :: dorO gd md (mixI s) ws :: F) := (Own.sub (h) (by repeat (first | with_reducible exact Sub.nil _ | with_reducible exact Sub.rfl _ | (apply Sub.cons; focus ((repeat (first | with_reducible exact Pick.here | apply Pick.there)); done)) | apply Sub.drop)))
  have h := tinO.cl h
  have hle := cuG_le (plc s (2 ^ m) hh) R 4
  have ee : esN s (2 ^ m) (2 ^ md) R ws hh = esG (cuG (plc s (2 ^ m) hh) R 4) (hasB (mixI s) hh (2 ^ md) ws) := rfl
  rw [ee, cuN_eq]
  obtain ⟨c, hc⟩ : ∃ c, c = cuG (plc s (2 ^ m) hh) R 4 := ⟨_, rfl⟩
  rw [← hc] at hle ⊢
  refine ⟨_, rfl, fun hb => ⟨?_, h⟩, fun hb => ⟨?_, h⟩⟩
  · rw [hb, wI64 (by omega) (by omega)]; rfl
  · rw [hb]; rfl
theorem tSketchP {gs gd : Nat} (h : Own e w (tinB g gs gd ct lim ag :: F)) : Rets Tryd.prog 17 #[.pointer (some ⟨g, 0, none⟩)] w fun v w' => v = .pointer (some ⟨gs, 0, none⟩) ∧ Own e w' (tinB g gs gd ct lim ag :: F) := by
  exact tiny_Tiny_Sketch_go _ ⟨fun hc => (by cases hc), fun _ => ⟨_, Own.ld (g := g) (k := 0) h (by repeat (first | with_reducible exact Pick.here | apply Pick.there)) rfl, rfl, h⟩⟩
theorem tAdd (hm1 : ∀ w, Own e w F → RdC w mixQ mixC) (hm2 : ∀ w, Own e w F → RdC w twiQ twiC) (hct : 0 ≤ ct ∧ ct < lim ∧ lim ≤ 4096) (h : Own e w (tinO g m md s R ws ct lim ag :: F)) : Rets Tryd.prog 16 #[.pointer (some ⟨g, 0, none⟩), .int .u64 hh] w fun v w' => v = .tuple #[] ∧
    ((lim ≤ ct + 1 ∧ Own e w' (tinO g m md s (fun j => ngHalve (adR s (2 ^ m) (2 ^ md) R ws hh j)) (List.replicate ws.length 0) 0 lim (IntKind.wrap .i64 (ag + 1)) :: F)) ∨
     (ct + 1 < lim ∧ Own e w' (tinO g m md s (adR s (2 ^ m) (2 ^ md) R ws hh) (putB (mixI s) hh (2 ^ md) ws) (ct + 1) lim ag :: F))) := by
  obtain ⟨gs, gd, ⟨hl, hmd, _, _⟩, h⟩ := tinO.op h
  have hpl : (putB (mixI s) hh (2 ^ md) ws).length = ws.length := putB_len _ _ _ _
  refine tiny_Tiny_Add_go _ _ ⟨fun hc => (by cases hc), fun _ => ⟨_, Own.ld (g := g) (k := 1) h (by repeat (first | with_reducible exact Pick.here | apply Pick.there)) rfl, ?_⟩⟩
  have h : Own e w (dorO gd md (mixI s) ws :: tinB g gs gd ct lim ag :: skO gs m s R :: F) := (Own.sub (h) (by repeat (first | with_reducible exact Sub.nil _ | with_reducible exact Sub.rfl _ | (apply Sub.cons; focus ((repeat (first | with_reducible exact Pick.here | apply Pick.there)); done)) | apply Sub.drop)))
  refine Rets.mono (drPut (hh := hh) (fun w h => hm1 w h.drop.drop) (fun w h => hm2 w h.drop.drop) h) ?_
  clear h
  rintro _ w ⟨rfl, h⟩
  have h : Own e w (tinB g gs gd ct lim ag :: skO gs m s R :: dorO gd md (mixI s) (putB (mixI s) hh (2 ^ md) ws) :: F) := (Own.sub (h) (by repeat (first | with_reducible exact Sub.nil _ | with_reducible exact Sub.rfl _ | (apply Sub.cons; focus ((repeat (first | with_reducible exact Pick.here | apply Pick.there)); done)) | apply Sub.drop)))
  obtain ⟨R', hR'⟩ : ∃ R', R' = adR s (2 ^ m) (2 ^ md) R ws hh := ⟨_, rfl⟩
  obtain ⟨ws', hws⟩ : ∃ ws', ws' = putB (mixI s) hh (2 ^ md) ws := ⟨_, rfl⟩
  obtain ⟨b, hb⟩ : ∃ b, b = hasB (mixI s) hh (2 ^ md) ws := ⟨_, rfl⟩
  rw [← hws] at h hpl
  rw [← hR', ← hws, ← hb, ← hpl]
  have e1 : IntKind.wrap .i64 (ct + 1) = ct + 1 := wI64 (by omega) (by omega)
  refine ⟨_, rfl, fun hn => ?_, fun hn => ?_⟩
  · have hbt : b = true := by simpa using hn
    have eR : R' = fun j => ngAdd (R j) (plc s (2 ^ m) hh j : Int) := by rw [hR']; unfold adR; rw [← hb, if_pos hbt]
    refine Rets.mono (tSketchP h) ?_
    rintro _ w ⟨rfl, h⟩
    refine ⟨_, rfl, ?_⟩
    refine Rets.mono (skAdd (hh := hh) (fun w h => hm1 w h.drop.drop) h.swap) ?_
    clear h
    rintro _ w ⟨rfl, h⟩
    rw [← eR] at h
    have h := h.swap
    refine ⟨rfl, _, Own.ld (g := g) (k := 2) h (by repeat (first | with_reducible exact Pick.here | apply Pick.there)) rfl, Own.stP (g := g) (k := 2) h (by repeat (first | with_reducible exact Pick.here | apply Pick.there)) (by simp) (by simp [Value.oneCell']) fun w h => ?_⟩
    simp only [setFrom, List.set_cons_zero, List.set_cons_succ, List.set_nil] at h
    rw [e1] at h
    refine h.drw fun w h => ⟨_, Own.ld (g := g) (k := 2) h (by repeat (first | with_reducible exact Pick.here | apply Pick.there)) rfl, _, Own.ld (g := g) (k := 3) h (by repeat (first | with_reducible exact Pick.here | apply Pick.there)) rfl, fun hc => ?_, fun hc => ⟨rfl, .inr ⟨?_, tinO.cl h⟩⟩⟩
    · have hc := dec_t hc
      refine Rets.mono (tAge (tinO.cl h)) ?_
      rintro _ w ⟨rfl, h⟩
      exact ⟨rfl, rfl, .inl ⟨by omega, h⟩⟩
    · have hc := dec_f hc; omega
  · have hbf : b = false := by simpa using hn
    have eR : R' = R := by rw [hR']; unfold adR; rw [← hb, hbf]; rfl
    rw [eR]
    refine ⟨_, Own.ld (g := g) (k := 2) h (by repeat (first | with_reducible exact Pick.here | apply Pick.there)) rfl, Own.stP (g := g) (k := 2) h (by repeat (first | with_reducible exact Pick.here | apply Pick.there)) (by simp) (by simp [Value.oneCell']) fun w h => ?_⟩
    simp only [setFrom, List.set_cons_zero, List.set_cons_succ, List.set_nil] at h
    rw [e1] at h
    refine h.drw fun w h => ⟨_, Own.ld (g := g) (k := 2) h (by repeat (first | with_reducible exact Pick.here | apply Pick.there)) rfl, _, Own.ld (g := g) (k := 3) h (by repeat (first | with_reducible exact Pick.here | apply Pick.there)) rfl, fun hc => ?_, fun hc => ⟨rfl, .inr ⟨?_, tinO.cl h⟩⟩⟩
    · have hc := dec_t hc
      refine Rets.mono (tAge (tinO.cl h)) ?_
      rintro _ w ⟨rfl, h⟩
      exact ⟨rfl, rfl, .inl ⟨by omega, h⟩⟩
    · have hc := dec_f hc; omega
/-- Keys one after another. -/
theorem tPush {L : List Int} {q : Option Addr} {c : Nat} (S : Nat → World → Prop) (hL : L.length ≤ 1000) (hr : ∀ i w, S i w → RdC w q (cs .u64 L)) (ha : ∀ i w (hi : i < L.length), S i w → Rets Tryd.prog 16 #[.pointer (some ⟨g, 0, none⟩), .int .u64 L[i]] w fun v w' => v = .tuple #[] ∧ S (i + 1) w') (h : S 0 w) : Rets Tryd.prog 8 #[.pointer (some ⟨g, 0, none⟩), .slice q L.length c] w fun v w' => v = .tuple #[] ∧ S L.length w' := by
  refine tiny_Tiny_Push_go _ _ _ _ ⟨fun k vs w => ∃ i : Nat, vs = [.int .i64 (i : Int)] ∧ k + i = L.length ∧ S i w, ⟨L.length, 0, rfl, rfl, h⟩, ?_⟩
  clear h
  rintro k w v1 n1
  intros
  rename_i hI
  obtain ⟨i, hvs, hk, h⟩ := hI
  obtain rfl : n1 = (i : Int) := by simpa using hvs
  refine ⟨fun hc => ?_, fun hc => ?_⟩
  · have hc := dec_t hc
    have hi : i < L.length := by omega
    refine ⟨by omega, by omega, (hr i w h).int hi fun a ha2 => ⟨_, by rw [Int.toNat_natCast]; exact ha2, ?_⟩⟩
    refine Rets.mono (ha i w hi h) ?_
    rintro _ w ⟨rfl, h⟩
    exact ⟨rfl, k - 1, by omega, i + 1, by rw [wI64 (by omega) (by omega)]; rfl, by omega, h⟩
  · have hc := dec_f hc
    obtain rfl : i = L.length := by omega
    exact ⟨rfl, h⟩
theorem tnAdd (h : Own e w F) : Rets Tryd.prog 16 #[.pointer none, .int .u64 hh] w fun v w' => v = .tuple #[] ∧ Own e w' F := tiny_nil_Add_go _ ⟨fun _ => ⟨rfl, h⟩, fun hc => (by cases hc)⟩
theorem tnPush {L : List Int} {q : Option Addr} {c : Nat} (hL : L.length ≤ 1000) (hr : ∀ w, Own e w F → RdC w q (cs .u64 L)) (h : Own e w F) : Rets Tryd.prog 8 #[.pointer none, .slice q L.length c] w fun v w' => v = .tuple #[] ∧ Own e w' F := by
  refine tiny_nil_Push_go _ _ _ ⟨fun k vs w => ∃ i : Nat, vs = [.int .i64 (i : Int)] ∧ k + i = L.length ∧ Own e w F, ⟨L.length, 0, rfl, rfl, h⟩, ?_⟩
  clear h
  rintro k w v1 n1
  intros
  rename_i hI
  obtain ⟨i, hvs, hk, h⟩ := hI
  obtain rfl : n1 = (i : Int) := by simpa using hvs
  refine ⟨fun hc => ?_, fun hc => ?_⟩
  · have hc := dec_t hc
    have hi : i < L.length := by omega
    refine ⟨by omega, by omega, (hr w h).int hi fun a ha2 => ⟨_, by rw [Int.toNat_natCast]; exact ha2, ?_⟩⟩
    refine Rets.mono (tnAdd h) ?_
    rintro _ w ⟨rfl, h⟩
    exact ⟨rfl, k - 1, by omega, i + 1, by rw [wI64 (by omega) (by omega)]; rfl, by omega, h⟩
  · exact ⟨rfl, h⟩
theorem tnClear (h : Own e w F) : Rets Tryd.prog 15 #[.pointer none] w fun v w' => v = .tuple #[] ∧ Own e w' F := tiny_nil_Clear_go ⟨fun _ => ⟨rfl, h⟩, fun hc => (by cases hc)⟩
theorem tnEst (h : Own e w F) : Rets Tryd.prog 13 #[.pointer none, .int .u64 hh] w fun v w' => v = .int .i64 0 ∧ Own e w' F := tiny_nil_Estimate_go _ ⟨fun _ => ⟨rfl, h⟩, fun hc => (by cases hc)⟩
theorem tnCount (h : Own e w F) : Rets Tryd.prog 10 #[.pointer none] w fun v w' => v = .int .i64 0 ∧ Own e w' F := tiny_nil_Count_go ⟨fun _ => ⟨rfl, h⟩, fun hc => (by cases hc)⟩
theorem tnAged (h : Own e w F) : Rets Tryd.prog 11 #[.pointer none] w fun v w' => v = .int .i64 0 ∧ Own e w' F := tiny_nil_Aged_go ⟨fun _ => ⟨rfl, h⟩, fun hc => (by cases hc)⟩
theorem tnLimit (h : Own e w F) : Rets Tryd.prog 12 #[.pointer none] w fun v w' => v = .int .i64 0 ∧ Own e w' F := tiny_nil_Limit_go ⟨fun _ => ⟨rfl, h⟩, fun hc => (by cases hc)⟩
theorem tnSketch (h : Own e w F) : Rets Tryd.prog 17 #[.pointer none] w fun v w' => v = .pointer none ∧ Own e w' F := tiny_nil_Sketch_go ⟨fun _ => ⟨rfl, h⟩, fun hc => (by cases hc)⟩
theorem tnDoor (h : Own e w F) : Rets Tryd.prog 18 #[.pointer none] w fun v w' => v = .pointer none ∧ Own e w' F := tiny_nil_Door_go ⟨fun _ => ⟨rfl, h⟩, fun hc => (by cases hc)⟩
end
end Go.Proofs.YtkhfejnkefgpeaaDoor.Eng
