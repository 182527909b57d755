/- Stripes: what each function does. -/
import Derived.Test.YtppkeemdbhmkgaaStO
import Derived.Test.YtppkeemdbhmkgaaStR
namespace Go.Proofs.Ytppkeemdbhmkgaa.Eng
open Go Go.RowKit Go.Proofs
set_option linter.unusedVariables false
set_option linter.unusedSimpArgs false
set_option maxRecDepth 1000000
theorem set_mid {α : Type} (f : α → Value) (A B : List α) (p p' : α) : setFrom ((A ++ p :: B).map f) A.length [f p'] = (A ++ p' :: B).map f := by
  simp [setFrom]
theorem at_mid {α β : Type} (f : α → β) (A B : List α) (p : α) : ((A ++ p :: B).map f)[A.length]? = some (f p) := by simp
theorem len_mid {α : Type} (A B : List α) (p : α) : (A ++ p :: B).length = A.length + 1 + B.length := by simp; omega
/-- What becomes of the pool when a lane of so many things is pushed to. -/
def Tk (xs0 : Bool) (md md' : Nat) (qs qs' : List (Option Addr)) : Prop := (xs0 = false → md' = md ∧ qs' = qs) ∧ (xs0 = true → (qs.length = qs'.length + 1 ∧ md' = md) ∨ (qs = [] ∧ qs' = [] ∧ md' = md + 1))
/-! ### Of int -/
abbrev Ln_int : Type := Option Addr × Nat × List Int
abbrev ln_int (p : Ln_int) : HP := slO 3 1 p.1 p.2.2.length p.2.1 (p.2.2.map (Value.int .i64))
abbrev lnV_int (p : Ln_int) : Value := .slice p.1 p.2.2.length p.2.1
def LnOk_int (N : Nat) (p : Ln_int) : Prop := (p.1 = none ∧ p.2.1 = 0 ∧ p.2.2 = []) ∨ (p.1 ≠ none ∧ p.2.1 = N ∧ p.2.2 ≠ [] ∧ p.2.2.length < N)
abbrev Bt_int : Type := Option Addr × List Int
def bt_int (N : Nat) (b : Bt_int) : HP := slO 3 1 b.1 N N (b.2.map (Value.int .i64))
abbrev btV_int (N : Nat) (b : Bt_int) : Sl3 := (b.1, N, N)
abbrev stb_int (g N n : Nat) (ql : Option Addr) (gr gp : Nat) : HP := blk g 52 [.slice ql n n, .int .i64 (N : Int), .pointer (some ⟨gr, 0, none⟩), .pointer (some ⟨gp, 0, none⟩)]
def str_int (g N room sp md : Nat) (ls : List Ln_int) (ws : List Bt_int) (qs : List (Option Addr)) : HP :=
  exH fun (x : Option Addr × Nat × Nat) => allH (stb_int g N ls.length x.1 x.2.1 x.2.2 :: slO 33 1 x.1 ls.length ls.length (ls.map lnV_int) :: ring_int x.2.1 (ws.map (btV_int N)) room :: pol_int x.2.2 N sp md qs :: (ls.map ln_int ++ ws.map (bt_int N)))
section
variable {e w : World} {F : List HP} {g N room sp md : Nat} {ls A B : List Ln_int} {p : Ln_int} {ws : List Bt_int} {qs : List (Option Addr)}
theorem str_int_op0 (h : Own e w (str_int g N room sp md ls ws qs :: F)) : ∃ ql gr gp, Own e w (stb_int g N ls.length ql gr gp :: slO 33 1 ql ls.length ls.length (ls.map lnV_int) :: ring_int gr (ws.map (btV_int N)) room :: pol_int gp N sp md qs :: (ls.map ln_int ++ (ws.map (bt_int N) ++ F))) := by
  obtain ⟨⟨ql, gr, gp⟩, h⟩ := h.ex
  have h := h.open_
  have h : Own e w (stb_int g N ls.length ql gr gp :: slO 33 1 ql ls.length ls.length (ls.map lnV_int) :: ring_int gr (ws.map (btV_int N)) room :: pol_int gp N sp md qs :: ((ls.map ln_int ++ ws.map (bt_int N)) ++ F)) := h
  rw [List.append_assoc] at h
  exact ⟨ql, gr, gp, h⟩
theorem str_int_cl0 {ql : Option Addr} {gr gp : Nat} (h : Own e w (stb_int g N ls.length ql gr gp :: slO 33 1 ql ls.length ls.length (ls.map lnV_int) :: ring_int gr (ws.map (btV_int N)) room :: pol_int gp N sp md qs :: (ls.map ln_int ++ (ws.map (bt_int N) ++ F)))) : Own e w (str_int g N room sp md ls ws qs :: F) := by
  rw [← List.append_assoc] at h
  have h : Own e w ((stb_int g N ls.length ql gr gp :: slO 33 1 ql ls.length ls.length (ls.map lnV_int) :: ring_int gr (ws.map (btV_int N)) room :: pol_int gp N sp md qs :: (ls.map ln_int ++ ws.map (bt_int N))) ++ F) := h
  exact Own.mkEx (P := fun (x : Option Addr × Nat × Nat) => allH (stb_int g N ls.length x.1 x.2.1 x.2.2 :: slO 33 1 x.1 ls.length ls.length (ls.map lnV_int) :: ring_int x.2.1 (ws.map (btV_int N)) room :: pol_int x.2.2 N sp md qs :: (ls.map ln_int ++ ws.map (bt_int N)))) (ql, gr, gp) h.close_
abbrev rst_int (A B : List Ln_int) (N : Nat) (ws : List Bt_int) (F : List HP) : List HP := A.map ln_int ++ (B.map ln_int ++ (ws.map (bt_int N) ++ F))
theorem str_int_op (h : Own e w (str_int g N room sp md (A ++ p :: B) ws qs :: F)) : ∃ ql gr gp, Own e w (stb_int g N (A ++ p :: B).length ql gr gp :: slO 33 1 ql (A ++ p :: B).length (A ++ p :: B).length ((A ++ p :: B).map lnV_int) :: ring_int gr (ws.map (btV_int N)) room :: pol_int gp N sp md qs :: ln_int p :: rst_int A B N ws F) := by
  obtain ⟨ql, gr, gp, h⟩ := str_int_op0 h
  refine ⟨ql, gr, gp, ?_⟩
  have e1 : (A ++ p :: B).map ln_int ++ (ws.map (bt_int N) ++ F) = A.map ln_int ++ ln_int p :: (B.map ln_int ++ (ws.map (bt_int N) ++ F)) := by simp
  rw [e1] at h
  have h : Own e w (([stb_int g N (A ++ p :: B).length ql gr gp, slO 33 1 ql (A ++ p :: B).length (A ++ p :: B).length ((A ++ p :: B).map lnV_int), ring_int gr (ws.map (btV_int N)) room, pol_int gp N sp md qs] ++ A.map ln_int) ++ ln_int p :: (B.map ln_int ++ (ws.map (bt_int N) ++ F))) := h
  have h := h.mid
  have h : Own e w (ln_int p :: stb_int g N (A ++ p :: B).length ql gr gp :: slO 33 1 ql (A ++ p :: B).length (A ++ p :: B).length ((A ++ p :: B).map lnV_int) :: ring_int gr (ws.map (btV_int N)) room :: pol_int gp N sp md qs :: rst_int A B N ws F) := h
  exact (Own.sub (h) (by repeat (first | with_reducible exact Sub.nil _ | with_reducible exact Sub.rfl _ | (apply Sub.cons; focus ((repeat (first | with_reducible exact Pick.here | apply Pick.there)); done)) | apply Sub.drop)))
theorem str_int_cl {ql : Option Addr} {gr gp : Nat} (h : Own e w (stb_int g N (A ++ p :: B).length ql gr gp :: slO 33 1 ql (A ++ p :: B).length (A ++ p :: B).length ((A ++ p :: B).map lnV_int) :: ring_int gr (ws.map (btV_int N)) room :: pol_int gp N sp md qs :: ln_int p :: rst_int A B N ws F)) : Own e w (str_int g N room sp md (A ++ p :: B) ws qs :: F) := by
  have h : Own e w (ln_int p :: stb_int g N (A ++ p :: B).length ql gr gp :: slO 33 1 ql (A ++ p :: B).length (A ++ p :: B).length ((A ++ p :: B).map lnV_int) :: ring_int gr (ws.map (btV_int N)) room :: pol_int gp N sp md qs :: rst_int A B N ws F) := (Own.sub (h) (by repeat (first | with_reducible exact Sub.nil _ | with_reducible exact Sub.rfl _ | (apply Sub.cons; focus ((repeat (first | with_reducible exact Pick.here | apply Pick.there)); done)) | apply Sub.drop)))
  have h : Own e w (ln_int p :: (([stb_int g N (A ++ p :: B).length ql gr gp, slO 33 1 ql (A ++ p :: B).length (A ++ p :: B).length ((A ++ p :: B).map lnV_int), ring_int gr (ws.map (btV_int N)) room, pol_int gp N sp md qs] ++ A.map ln_int) ++ (B.map ln_int ++ (ws.map (bt_int N) ++ F)))) := h
  have h := h.midBack
  have h : Own e w (stb_int g N (A ++ p :: B).length ql gr gp :: slO 33 1 ql (A ++ p :: B).length (A ++ p :: B).length ((A ++ p :: B).map lnV_int) :: ring_int gr (ws.map (btV_int N)) room :: pol_int gp N sp md qs :: (A.map ln_int ++ ln_int p :: (B.map ln_int ++ (ws.map (bt_int N) ++ F)))) := h
  have e1 : (A ++ p :: B).map ln_int ++ (ws.map (bt_int N) ++ F) = A.map ln_int ++ ln_int p :: (B.map ln_int ++ (ws.map (bt_int N) ++ F)) := by simp
  rw [← e1] at h
  exact str_int_cl0 h
theorem rst_int_put {b : Bt_int} (h : Own e w (bt_int N b :: rst_int A B N ws F)) : Own e w (rst_int A B N (ws ++ [b]) F) := by
  have h : Own e w (bt_int N b :: (A.map ln_int ++ (B.map ln_int ++ (ws.map (bt_int N) ++ F)))) := h
  have e1 : A.map ln_int ++ (B.map ln_int ++ (ws.map (bt_int N) ++ F)) = (A.map ln_int ++ B.map ln_int ++ ws.map (bt_int N)) ++ F := by simp
  rw [e1] at h
  have h := h.midBack
  have e2 : (A.map ln_int ++ B.map ln_int ++ ws.map (bt_int N)) ++ bt_int N b :: F = rst_int A B N (ws ++ [b]) F := by simp [rst_int]
  rw [e2] at h
  exact h
theorem spLane_int {n : Nat} {i : Int} {ql : Option Addr} {gr gp : Nat} (hn : 0 < n) (h : Own e w (stb_int g N n ql gr gp :: F)) : Rets Try.prog 30 #[.pointer (some ⟨g, 0, none⟩), .int .i64 i] w fun v w' => v = .int .i64 (Int.tmod (maxI i 0) (n : Int)) ∧ w' = w :=
  stripe_Buffer_int_lane_go _ _ ⟨_, _, _, Own.ld (g := g) (k := 0) h (by repeat (first | with_reducible exact Pick.here | apply Pick.there)) rfl, by omega, rfl, rfl⟩
theorem spPush_int {x : Int} {i : Int} (hi : Int.tmod (maxI i 0) (((A ++ p :: B).length : Nat) : Int) = (A.length : Int)) (hN : 1 ≤ N ∧ N ≤ 1024) (hroom : room ≤ 65536) (hsp : sp ≤ 1024) (hmd : md ≤ 1000) (hAB : A.length + B.length ≤ 1000) (hp : LnOk_int N p)
    (h : Own e w (str_int g N room sp md (A ++ p :: B) ws qs :: F)) :
    Rets Try.prog 13 #[.pointer (some ⟨g, 0, none⟩), .int .i64 i, (Value.int .i64) x] w fun v w' => ∃ (p' : Ln_int) (md' : Nat) (ws' : List Bt_int) (qs' : List (Option Addr)),
      v = .int .i64 (if p.2.2.length + 1 < N then 0 else if ws.length < room then 1 else 2) ∧ LnOk_int N p' ∧ p'.2.2 = (if p.2.2.length + 1 < N then p.2.2 ++ [x] else []) ∧ ws'.map (·.2) = (if p.2.2.length + 1 < N then ws.map (·.2) else if ws.length < room then ws.map (·.2) ++ [p.2.2 ++ [x]] else ws.map (·.2)) ∧
      md' ≤ md + 1 ∧ (p.2.2.length + 1 < N ∨ ws.length < room → Tk p.2.2.isEmpty md md' qs qs') ∧ Own e w' (str_int g N room sp md' (A ++ p' :: B) ws' qs' :: F) := by
  obtain ⟨q0, c0, xs⟩ := p
  obtain ⟨ql, gr, gp, h⟩ := str_int_op h
  have hlen := len_mid A B (q0, c0, xs)
  obtain ⟨n, hn⟩ : ∃ n, n = (A ++ (q0, c0, xs) :: B).length := ⟨_, rfl⟩
  have hnn : ∀ p' : Ln_int, (A ++ p' :: B).length = n := fun p' => by rw [hn, len_mid, len_mid]
  rw [← hn] at h hi hlen
  refine stripe_Buffer_int_Push_go _ _ _ ⟨fun hc => (by cases hc), fun _ => ?_⟩
  refine Rets.mono (spLane_int (by omega) h) ?_
  rintro _ w1 ⟨rfl, rfl⟩
  rw [hi]
  obtain ⟨aw, rfl, hcell⟩ := (h.drop.slRd).addr (at_mid lnV_int A B (q0, c0, xs))
  refine ⟨_, rfl, _, _, _, Own.ld (g := g) (k := 0) h (by repeat (first | with_reducible exact Pick.here | apply Pick.there)) rfl, by omega, by omega, smR ⟨q0, xs.length, c0, ?_, ?_⟩⟩
  · rw [Int.toNat_natCast, Nat.mul_one]; exact hcell _ _ (at_mid lnV_int A B (q0, c0, xs))
  have toA : (Int.toNat (A.length : Int)) * 1 = A.length := by rw [Int.toNat_natCast, Nat.mul_one]
  rw [toA]
  refine ⟨fun vs w => ∃ q' md' qs', Tk xs.isEmpty md md' qs qs' ∧ Own e w (stb_int g N n (some aw) gr gp :: slO 33 1 (some aw) n n ((A ++ ((q', N, xs) : Ln_int) :: B).map lnV_int) :: ring_int gr (ws.map (btV_int N)) room :: pol_int gp N sp md' qs' :: ln_int (q', N, xs) :: rst_int A B N ws F), ⟨fun hnone => ?_, fun hsome => ?_⟩, ?_⟩
  · have hq0 : q0 = none := by
      cases q0 with
      | none => rfl
      | some _ => cases hnone
    have hp2 : c0 = 0 ∧ xs = [] := by
      rcases hp with ⟨_, h1, h2⟩ | ⟨h1, _⟩
      · exact ⟨h1, h2⟩
      · exact absurd hq0 h1
    obtain ⟨rfl, rfl⟩ := hp2
    subst hq0
    let S : World → Prop := fun w => ∃ F', Own e w (stb_int g N n (some aw) gr gp :: F')
    refine h.drw fun w h => ⟨S, ⟨_, h⟩, _, _, _, fun w h => h.elim fun F' h => Own.ld (g := g) (k := 0) h (by repeat (first | with_reducible exact Pick.here | apply Pick.there)) rfl, _, fun w h => h.elim fun F' h => Own.ld (g := g) (k := 3) h (by repeat (first | with_reducible exact Pick.here | apply Pick.there)) rfl, ?_⟩
    have h : Own e w (pol_int gp N sp md qs :: stb_int g N n (some aw) gr gp :: slO 33 1 (some aw) n n ((A ++ ((none, 0, []) : Ln_int) :: B).map lnV_int) :: ring_int gr (ws.map (btV_int N)) room :: rst_int A B N ws F) := (Own.sub (h) (by repeat (first | with_reducible exact Sub.nil _ | with_reducible exact Sub.rfl _ | (apply Sub.cons; focus ((repeat (first | with_reducible exact Pick.here | apply Pick.there)); done)) | apply Sub.drop)))
    refine Rets.mono (plTake_int (by omega) hmd h) ?_
    clear h
    rintro _ w ⟨q', qs', md', rfl, hcase, h⟩
    refine ⟨_, _, _, rfl, ⟨_, (Own.sub (h) (by repeat (first | with_reducible exact Sub.nil _ | with_reducible exact Sub.rfl _ | (apply Sub.cons; focus ((repeat (first | with_reducible exact Pick.here | apply Pick.there)); done)) | apply Sub.drop)))⟩, by omega, by omega, ?_⟩
    have h : Own e w (slO 33 1 (some aw) n n ((A ++ ((none, 0, []) : Ln_int) :: B).map lnV_int) :: stb_int g N n (some aw) gr gp :: ring_int gr (ws.map (btV_int N)) room :: pol_int gp N sp md' qs' :: buf_int N q' :: rst_int A B N ws F) := (Own.sub (h) (by repeat (first | with_reducible exact Sub.nil _ | with_reducible exact Sub.rfl _ | (apply Sub.cons; focus ((repeat (first | with_reducible exact Pick.here | apply Pick.there)); done)) | apply Sub.drop)))
    refine Own.slStore (i := A.length) (us := [lnV_int (q', N, [])]) h (by simp) (by simp) (by simp [Value.oneCell']) fun w h => ⟨q', md', qs', ?_, ?_⟩
    · refine ⟨fun hh => (by cases hh), fun _ => ?_⟩
      rcases hcase with ⟨rfl, rfl⟩ | ⟨rfl, rfl, rfl⟩
      · exact .inl ⟨by simp, rfl⟩
      · exact .inr ⟨rfl, rfl, rfl⟩
    · rw [set_mid] at h
      have h : Own e w (stb_int g N n (some aw) gr gp :: slO 33 1 (some aw) n n ((A ++ ((q', N, []) : Ln_int) :: B).map lnV_int) :: ring_int gr (ws.map (btV_int N)) room :: pol_int gp N sp md' qs' :: buf_int N q' :: rst_int A B N ws F) := (Own.sub (h) (by repeat (first | with_reducible exact Sub.nil _ | with_reducible exact Sub.rfl _ | (apply Sub.cons; focus ((repeat (first | with_reducible exact Pick.here | apply Pick.there)); done)) | apply Sub.drop)))
      exact h
  · have hp2 : c0 = N ∧ xs ≠ [] := by
      rcases hp with ⟨h1, _⟩ | ⟨_, h1, h2, _⟩
      · have h1 : q0 = none := h1
        rw [h1] at hsome; cases hsome
      · exact ⟨h1, h2⟩
    obtain ⟨rfl, hne⟩ := hp2
    refine ⟨q0, md, qs, ⟨fun _ => ⟨rfl, rfl⟩, fun hh => ?_⟩, h⟩
    cases xs with
    | nil => exact absurd rfl hne
    | cons _ _ => cases hh
  · clear h hcell hlen
    have hxl : xs.length < N := by
      rcases hp with ⟨_, _, h1⟩ | ⟨_, _, _, h1⟩
      · have h1 : xs = [] := h1
        subst h1; simp; omega
      · exact h1
    intro w
    intros
    rename_i hI
    obtain ⟨q', md', qs', hTk, h⟩ := hI
    have hmd' : md' ≤ md + 1 := by
      cases hb : xs.isEmpty with
      | true => rcases hTk.2 hb with h | h <;> omega
      | false => have := hTk.1 hb; omega
    have hnl := hnn (q', N, xs)
    have hAn : A.length < n := by rw [← hnl, len_mid]; omega
    let S : World → Prop := fun w => ∃ F', Own e w (stb_int g N n (some aw) gr gp :: slO 33 1 (some aw) n n ((A ++ ((q', N, xs) : Ln_int) :: B).map lnV_int) :: F')
    have hS0 : ∀ w, S w → cellAt w ((⟨g, 0, none⟩ : Addr).add 0) (.slice (some aw) n n) := fun w h => h.elim fun F' h => Own.ld (g := g) (k := 0) h (by repeat (first | with_reducible exact Pick.here | apply Pick.there)) rfl
    have hS1 : ∀ w, S w → cellAt w (aw.add A.length) (lnV_int (q', N, xs)) := fun w h => by
      obtain ⟨F', h⟩ := h
      obtain ⟨a', ea, hcell⟩ := (h.drop.slRd).addr (at_mid lnV_int A B (q', N, xs))
      cases ea
      exact hcell _ _ (at_mid lnV_int A B (q', N, xs))
    refine h.drw fun w h => ⟨S, ⟨_, h⟩, _, _, _, hS0, _, _, _, hS0, by omega, by omega, smR ⟨q', xs.length, N, hS1, ?_⟩⟩
    refine h.newR fun g4 w h => ⟨⟨_, (Own.sub (h) (by repeat (first | with_reducible exact Sub.nil _ | with_reducible exact Sub.rfl _ | (apply Sub.cons; focus ((repeat (first | with_reducible exact Pick.here | apply Pick.there)); done)) | apply Sub.drop)))⟩, ?_⟩
    have hsrc : RdC w (some ⟨g4, 0, none⟩) [(Value.int .i64) x] := h.blkRd
    have h : Own e w (slO 3 1 q' xs.length N (xs.map (Value.int .i64)) :: stb_int g N n (some aw) gr gp :: slO 33 1 (some aw) n n ((A ++ ((q', N, xs) : Ln_int) :: B).map lnV_int) :: ring_int gr (ws.map (btV_int N)) room :: pol_int gp N sp md' qs' :: rst_int A B N ws F) := (Own.sub (h) (by repeat (first | with_reducible exact Sub.nil _ | with_reducible exact Sub.rfl _ | (apply Sub.cons; focus ((repeat (first | with_reducible exact Pick.here | apply Pick.there)); done)) | apply Sub.drop)))
    refine Own.appendRoom (z := [.int .i64 0]) (m := 1) h (by kernel_rfl) (by kernel_rfl) (by kernel_rfl) (by omega) hsrc rfl (fun v hv => by rw [List.mem_singleton.1 hv]; rfl) (by omega) (by omega) fun w h => ⟨_, _, _, rfl, ⟨_, (Own.sub (h) (by repeat (first | with_reducible exact Sub.nil _ | with_reducible exact Sub.rfl _ | (apply Sub.cons; focus ((repeat (first | with_reducible exact Pick.here | apply Pick.there)); done)) | apply Sub.drop)))⟩, by omega, by omega, ?_⟩
    have em : xs.map (Value.int .i64) ++ [(Value.int .i64) x] = (xs ++ [x]).map (Value.int .i64) := by simp
    have el : xs.length + 1 = (xs ++ [x]).length := by simp
    rw [em, el] at h
    rw [el]
    obtain ⟨ys, hys⟩ : ∃ ys, ys = xs ++ [x] := ⟨_, rfl⟩
    have hyl0 : ys.length = xs.length + 1 := by rw [hys]; simp
    rw [← hys] at h ⊢
    have h : Own e w (slO 33 1 (some aw) n n ((A ++ ((q', N, xs) : Ln_int) :: B).map lnV_int) :: stb_int g N n (some aw) gr gp :: ring_int gr (ws.map (btV_int N)) room :: pol_int gp N sp md' qs' :: slO 3 1 q' ys.length N (ys.map (Value.int .i64)) :: rst_int A B N ws F) := (Own.sub (h) (by repeat (first | with_reducible exact Sub.nil _ | with_reducible exact Sub.rfl _ | (apply Sub.cons; focus ((repeat (first | with_reducible exact Pick.here | apply Pick.there)); done)) | apply Sub.drop)))
    refine Own.slStore (i := A.length) (us := [lnV_int (q', N, ys)]) h (by rw [List.length_map, hnl]; simp; omega) (by simp) (by simp [Value.oneCell']) fun w h => ?_
    rw [set_mid] at h
    refine h.drw fun w h => ?_
    obtain ⟨a', ea, hcell⟩ := (h.slRd).addr (at_mid lnV_int A B (q', N, ys))
    cases ea
    have hcell := hcell _ _ (at_mid lnV_int A B (q', N, ys))
    refine ⟨_, _, _, Own.ld (g := g) (k := 0) h (by repeat (first | with_reducible exact Pick.here | apply Pick.there)) rfl, by omega, by omega, ?_⟩
    have hqn : q' ≠ none := fun hq => by
      subst hq
      have h2 : Own e w (slO 3 1 none ys.length N (ys.map (Value.int .i64)) :: _) := (Own.pk h (by repeat (first | with_reducible exact Pick.here | apply Pick.there)))
      obtain ⟨f1, f2, f3⟩ := h2.slFacts
      rcases h2.slCases with ⟨_, hz, hz2, _⟩ | ⟨_, _, hz, _⟩
      · omega
      · cases hz
    refine smR ⟨q', ys.length, N, hcell, _, Own.ld (g := g) (k := 1) h (by repeat (first | with_reducible exact Pick.here | apply Pick.there)) rfl, fun hc => ?_, fun hc => ?_⟩
    · have hc := dec_t hc
      have hlt : ys.length < N := by omega
      refine ⟨(q', N, ys), md', ws, qs', ?_, .inr ⟨hqn, rfl, by rw [hys]; simp, by show ys.length < N; omega⟩, ?_, ?_, hmd', fun _ => hTk, ?_⟩
      · rw [if_pos hlt]
      · rw [if_pos hlt]
      · rw [if_pos hlt]
      · refine str_int_cl (ql := some aw) (gr := gr) (gp := gp) ?_
        rw [hnn]
        exact (Own.sub (h) (by repeat (first | with_reducible exact Sub.nil _ | with_reducible exact Sub.rfl _ | (apply Sub.cons; focus ((repeat (first | with_reducible exact Pick.here | apply Pick.there)); done)) | apply Sub.drop)))
    · have hc := dec_f hc
      have hge : ¬ N < N := by omega
      have hyl : ys.length = N := by omega
      refine ⟨_, _, _, Own.ld (g := g) (k := 0) h (by repeat (first | with_reducible exact Pick.here | apply Pick.there)) rfl, by omega, by omega, ?_⟩
      refine smR ⟨q', ys.length, N, hcell, _, _, _, Own.ld (g := g) (k := 0) h (by repeat (first | with_reducible exact Pick.here | apply Pick.there)) rfl, by omega, by omega, ?_⟩
      refine Own.slStore (i := A.length) (us := [lnV_int (none, 0, [])]) h (by rw [List.length_map, hnn]; simp; omega) (by simp) (by simp [Value.oneCell']) fun w h => ?_
      rw [set_mid] at h
      refine ⟨_, Own.ld (g := g) (k := 2) h (by repeat (first | with_reducible exact Pick.here | apply Pick.there)) rfl, ?_⟩
      have h : Own e w (ring_int gr (ws.map (btV_int N)) room :: stb_int g N n (some aw) gr gp :: slO 33 1 (some aw) n n ((A ++ ((none, 0, []) : Ln_int) :: B).map lnV_int) :: pol_int gp N sp md' qs' :: slO 3 1 q' ys.length N (ys.map (Value.int .i64)) :: rst_int A B N ws F) := (Own.sub (h) (by repeat (first | with_reducible exact Sub.nil _ | with_reducible exact Sub.rfl _ | (apply Sub.cons; focus ((repeat (first | with_reducible exact Pick.here | apply Pick.there)); done)) | apply Sub.drop)))
      rw [hyl] at h ⊢
      refine Rets.mono (rgSend_int (x := btV_int N (q', ys)) h hroom) ?_
      clear h hcell
      rintro _ w ⟨rfl, h⟩
      have nilH : ∀ {w F}, Own e w F → Own e w (ln_int (none, 0, []) :: F) := fun h => h.slNil
      refine ⟨_, rfl, fun hb => ?_, fun hb => ?_⟩
      · have hb : ws.length < room := by simpa using hb
        rw [if_pos (by simpa using hb)] at h
        have e3 : ws.map (btV_int N) ++ [btV_int N (q', ys)] = (ws ++ [(q', ys)]).map (btV_int N) := by simp
        rw [e3] at h
        refine ⟨(none, 0, []), md', ws ++ [(q', ys)], qs', ?_, .inl ⟨rfl, rfl, rfl⟩, ?_, ?_, hmd', fun _ => hTk, ?_⟩
        · rw [if_neg hge, if_pos hb]
        · rw [if_neg hge]
        · rw [if_neg hge, if_pos hb, List.map_append]; rfl
        · refine str_int_cl (ql := some aw) (gr := gr) (gp := gp) ?_
          rw [hnn]
          have h : Own e w (([stb_int g N n (some aw) gr gp, slO 33 1 (some aw) n n ((A ++ ((none, 0, []) : Ln_int) :: B).map lnV_int), ring_int gr ((ws ++ [(q', ys)]).map (btV_int N)) room, pol_int gp N sp md' qs'] ++ A.map ln_int ++ B.map ln_int ++ ws.map (bt_int N)) ++ bt_int N (q', ys) :: F) := by
            have h2 : Own e w (slO 3 1 q' N N (ys.map (Value.int .i64)) :: stb_int g N n (some aw) gr gp :: slO 33 1 (some aw) n n ((A ++ ((none, 0, []) : Ln_int) :: B).map lnV_int) :: ring_int gr ((ws ++ [(q', ys)]).map (btV_int N)) room :: pol_int gp N sp md' qs' :: rst_int A B N ws F) := (Own.sub (h) (by repeat (first | with_reducible exact Sub.nil _ | with_reducible exact Sub.rfl _ | (apply Sub.cons; focus ((repeat (first | with_reducible exact Pick.here | apply Pick.there)); done)) | apply Sub.drop)))
            refine Own.midBack ?_
            have e5 : ([stb_int g N n (some aw) gr gp, slO 33 1 (some aw) n n ((A ++ ((none, 0, []) : Ln_int) :: B).map lnV_int), ring_int gr ((ws ++ [(q', ys)]).map (btV_int N)) room, pol_int gp N sp md' qs'] ++ A.map ln_int ++ B.map ln_int ++ ws.map (bt_int N)) ++ F = stb_int g N n (some aw) gr gp :: slO 33 1 (some aw) n n ((A ++ ((none, 0, []) : Ln_int) :: B).map lnV_int) :: ring_int gr ((ws ++ [(q', ys)]).map (btV_int N)) room :: pol_int gp N sp md' qs' :: rst_int A B N ws F := by simp [rst_int]
            rw [e5]; exact h2
          have e6 : ([stb_int g N n (some aw) gr gp, slO 33 1 (some aw) n n ((A ++ ((none, 0, []) : Ln_int) :: B).map lnV_int), ring_int gr ((ws ++ [(q', ys)]).map (btV_int N)) room, pol_int gp N sp md' qs'] ++ A.map ln_int ++ B.map ln_int ++ ws.map (bt_int N)) ++ bt_int N (q', ys) :: F = stb_int g N n (some aw) gr gp :: slO 33 1 (some aw) n n ((A ++ ((none, 0, []) : Ln_int) :: B).map lnV_int) :: ring_int gr ((ws ++ [(q', ys)]).map (btV_int N)) room :: pol_int gp N sp md' qs' :: rst_int A B N (ws ++ [(q', ys)]) F := by simp [rst_int]
          rw [e6] at h
          have h := nilH h
          exact (Own.sub (h) (by repeat (first | with_reducible exact Sub.nil _ | with_reducible exact Sub.rfl _ | (apply Sub.cons; focus ((repeat (first | with_reducible exact Pick.here | apply Pick.there)); done)) | apply Sub.drop)))
      · have hb : ¬ ws.length < room := by simpa using hb
        rw [if_neg (by simpa using hb)] at h
        have h : Own e w (stb_int g N n (some aw) gr gp :: slO 33 1 (some aw) n n ((A ++ ((none, 0, []) : Ln_int) :: B).map lnV_int) :: ring_int gr (ws.map (btV_int N)) room :: pol_int gp N sp md' qs' :: slO 3 1 q' N N (ys.map (Value.int .i64)) :: rst_int A B N ws F) := (Own.sub (h) (by repeat (first | with_reducible exact Sub.nil _ | with_reducible exact Sub.rfl _ | (apply Sub.cons; focus ((repeat (first | with_reducible exact Pick.here | apply Pick.there)); done)) | apply Sub.drop)))
        refine ⟨_, Own.ld (g := g) (k := 3) h (by repeat (first | with_reducible exact Pick.here | apply Pick.there)) rfl, ?_⟩
        have h : Own e w (slO 3 1 q' N N (ys.map (Value.int .i64)) :: pol_int gp N sp md' qs' :: stb_int g N n (some aw) gr gp :: slO 33 1 (some aw) n n ((A ++ ((none, 0, []) : Ln_int) :: B).map lnV_int) :: ring_int gr (ws.map (btV_int N)) room :: rst_int A B N ws F) := (Own.sub (h) (by repeat (first | with_reducible exact Sub.nil _ | with_reducible exact Sub.rfl _ | (apply Sub.cons; focus ((repeat (first | with_reducible exact Pick.here | apply Pick.there)); done)) | apply Sub.drop)))
        refine Rets.mono (plGive_int hsp hN h) ?_
        clear h
        rintro _ w ⟨rfl, h⟩
        obtain ⟨qs2, hqs2⟩ : ∃ qs2, qs2 = (if qs'.length < sp ∧ N = N then qs' ++ [q'] else qs') := ⟨_, rfl⟩
        rw [← hqs2] at h
        refine ⟨_, rfl, (none, 0, []), md', ws, qs2, ?_, .inl ⟨rfl, rfl, rfl⟩, ?_, ?_, hmd', fun hh => ?_, ?_⟩
        · rw [if_neg hge, if_neg hb]
        · rw [if_neg hge]
        · rw [if_neg hge, if_neg hb]
        · rcases hh with hh | hh
          · exact absurd hh hge
          · exact absurd hh hb
        · refine str_int_cl (ql := some aw) (gr := gr) (gp := gp) ?_
          rw [hnn]
          have h := nilH h
          exact (Own.sub (h) (by repeat (first | with_reducible exact Sub.nil _ | with_reducible exact Sub.rfl _ | (apply Sub.cons; focus ((repeat (first | with_reducible exact Pick.here | apply Pick.there)); done)) | apply Sub.drop)))
end
/-! ### Of string -/
abbrev Ln_string : Type := Option Addr × Nat × List ByteArray
abbrev ln_string (p : Ln_string) : HP := slO 9 1 p.1 p.2.2.length p.2.1 (p.2.2.map Value.string)
abbrev lnV_string (p : Ln_string) : Value := .slice p.1 p.2.2.length p.2.1
def LnOk_string (N : Nat) (p : Ln_string) : Prop := (p.1 = none ∧ p.2.1 = 0 ∧ p.2.2 = []) ∨ (p.1 ≠ none ∧ p.2.1 = N ∧ p.2.2 ≠ [] ∧ p.2.2.length < N)
abbrev Bt_string : Type := Option Addr × List ByteArray
def bt_string (N : Nat) (b : Bt_string) : HP := slO 9 1 b.1 N N (b.2.map Value.string)
abbrev btV_string (N : Nat) (b : Bt_string) : Sl3 := (b.1, N, N)
abbrev stb_string (g N n : Nat) (ql : Option Addr) (gr gp : Nat) : HP := blk g 46 [.slice ql n n, .int .i64 (N : Int), .pointer (some ⟨gr, 0, none⟩), .pointer (some ⟨gp, 0, none⟩)]
def str_string (g N room sp md : Nat) (ls : List Ln_string) (ws : List Bt_string) (qs : List (Option Addr)) : HP :=
  exH fun (x : Option Addr × Nat × Nat) => allH (stb_string g N ls.length x.1 x.2.1 x.2.2 :: slO 22 1 x.1 ls.length ls.length (ls.map lnV_string) :: ring_string x.2.1 (ws.map (btV_string N)) room :: pol_string x.2.2 N sp md qs :: (ls.map ln_string ++ ws.map (bt_string N)))
section
variable {e w : World} {F : List HP} {g N room sp md : Nat} {ls A B : List Ln_string} {p : Ln_string} {ws : List Bt_string} {qs : List (Option Addr)}
theorem str_string_op0 (h : Own e w (str_string g N room sp md ls ws qs :: F)) : ∃ ql gr gp, Own e w (stb_string g N ls.length ql gr gp :: slO 22 1 ql ls.length ls.length (ls.map lnV_string) :: ring_string gr (ws.map (btV_string N)) room :: pol_string gp N sp md qs :: (ls.map ln_string ++ (ws.map (bt_string N) ++ F))) := by
  obtain ⟨⟨ql, gr, gp⟩, h⟩ := h.ex
  have h := h.open_
  have h : Own e w (stb_string g N ls.length ql gr gp :: slO 22 1 ql ls.length ls.length (ls.map lnV_string) :: ring_string gr (ws.map (btV_string N)) room :: pol_string gp N sp md qs :: ((ls.map ln_string ++ ws.map (bt_string N)) ++ F)) := h
  rw [List.append_assoc] at h
  exact ⟨ql, gr, gp, h⟩
theorem str_string_cl0 {ql : Option Addr} {gr gp : Nat} (h : Own e w (stb_string g N ls.length ql gr gp :: slO 22 1 ql ls.length ls.length (ls.map lnV_string) :: ring_string gr (ws.map (btV_string N)) room :: pol_string gp N sp md qs :: (ls.map ln_string ++ (ws.map (bt_string N) ++ F)))) : Own e w (str_string g N room sp md ls ws qs :: F) := by
  rw [← List.append_assoc] at h
  have h : Own e w ((stb_string g N ls.length ql gr gp :: slO 22 1 ql ls.length ls.length (ls.map lnV_string) :: ring_string gr (ws.map (btV_string N)) room :: pol_string gp N sp md qs :: (ls.map ln_string ++ ws.map (bt_string N))) ++ F) := h
  exact Own.mkEx (P := fun (x : Option Addr × Nat × Nat) => allH (stb_string g N ls.length x.1 x.2.1 x.2.2 :: slO 22 1 x.1 ls.length ls.length (ls.map lnV_string) :: ring_string x.2.1 (ws.map (btV_string N)) room :: pol_string x.2.2 N sp md qs :: (ls.map ln_string ++ ws.map (bt_string N)))) (ql, gr, gp) h.close_
abbrev rst_string (A B : List Ln_string) (N : Nat) (ws : List Bt_string) (F : List HP) : List HP := A.map ln_string ++ (B.map ln_string ++ (ws.map (bt_string N) ++ F))
theorem str_string_op (h : Own e w (str_string g N room sp md (A ++ p :: B) ws qs :: F)) : ∃ ql gr gp, Own e w (stb_string g N (A ++ p :: B).length ql gr gp :: slO 22 1 ql (A ++ p :: B).length (A ++ p :: B).length ((A ++ p :: B).map lnV_string) :: ring_string gr (ws.map (btV_string N)) room :: pol_string gp N sp md qs :: ln_string p :: rst_string A B N ws F) := by
  obtain ⟨ql, gr, gp, h⟩ := str_string_op0 h
  refine ⟨ql, gr, gp, ?_⟩
  have e1 : (A ++ p :: B).map ln_string ++ (ws.map (bt_string N) ++ F) = A.map ln_string ++ ln_string p :: (B.map ln_string ++ (ws.map (bt_string N) ++ F)) := by simp
  rw [e1] at h
  have h : Own e w (([stb_string g N (A ++ p :: B).length ql gr gp, slO 22 1 ql (A ++ p :: B).length (A ++ p :: B).length ((A ++ p :: B).map lnV_string), ring_string gr (ws.map (btV_string N)) room, pol_string gp N sp md qs] ++ A.map ln_string) ++ ln_string p :: (B.map ln_string ++ (ws.map (bt_string N) ++ F))) := h
  have h := h.mid
  have h : Own e w (ln_string p :: stb_string g N (A ++ p :: B).length ql gr gp :: slO 22 1 ql (A ++ p :: B).length (A ++ p :: B).length ((A ++ p :: B).map lnV_string) :: ring_string gr (ws.map (btV_string N)) room :: pol_string gp N sp md qs :: rst_string A B N ws F) := h
  exact (Own.sub (h) (by repeat (first | with_reducible exact Sub.nil _ | with_reducible exact Sub.rfl _ | (apply Sub.cons; focus ((repeat (first | with_reducible exact Pick.here | apply Pick.there)); done)) | apply Sub.drop)))
theorem str_string_cl {ql : Option Addr} {gr gp : Nat} (h : Own e w (stb_string g N (A ++ p :: B).length ql gr gp :: slO 22 1 ql (A ++ p :: B).length (A ++ p :: B).length ((A ++ p :: B).map lnV_string) :: ring_string gr (ws.map (btV_string N)) room :: pol_string gp N sp md qs :: ln_string p :: rst_string A B N ws F)) : Own e w (str_string g N room sp md (A ++ p :: B) ws qs :: F) := by
  have h : Own e w (ln_string p :: stb_string g N (A ++ p :: B).length ql gr gp :: slO 22 1 ql (A ++ p :: B).length (A ++ p :: B).length ((A ++ p :: B).map lnV_string) :: ring_string gr (ws.map (btV_string N)) room :: pol_string gp N sp md qs :: rst_string A B N ws F) := (Own.sub (h) (by repeat (first | with_reducible exact Sub.nil _ | with_reducible exact Sub.rfl _ | (apply Sub.cons; focus ((repeat (first | with_reducible exact Pick.here | apply Pick.there)); done)) | apply Sub.drop)))
  have h : Own e w (ln_string p :: (([stb_string g N (A ++ p :: B).length ql gr gp, slO 22 1 ql (A ++ p :: B).length (A ++ p :: B).length ((A ++ p :: B).map lnV_string), ring_string gr (ws.map (btV_string N)) room, pol_string gp N sp md qs] ++ A.map ln_string) ++ (B.map ln_string ++ (ws.map (bt_string N) ++ F)))) := h
  have h := h.midBack
  have h : Own e w (stb_string g N (A ++ p :: B).length ql gr gp :: slO 22 1 ql (A ++ p :: B).length (A ++ p :: B).length ((A ++ p :: B).map lnV_string) :: ring_string gr (ws.map (btV_string N)) room :: pol_string gp N sp md qs :: (A.map ln_string ++ ln_string p :: (B.map ln_string ++ (ws.map (bt_string N) ++ F)))) := h
  have e1 : (A ++ p :: B).map ln_string ++ (ws.map (bt_string N) ++ F) = A.map ln_string ++ ln_string p :: (B.map ln_string ++ (ws.map (bt_string N) ++ F)) := by simp
  rw [← e1] at h
  exact str_string_cl0 h
theorem rst_string_put {b : Bt_string} (h : Own e w (bt_string N b :: rst_string A B N ws F)) : Own e w (rst_string A B N (ws ++ [b]) F) := by
  have h : Own e w (bt_string N b :: (A.map ln_string ++ (B.map ln_string ++ (ws.map (bt_string N) ++ F)))) := h
  have e1 : A.map ln_string ++ (B.map ln_string ++ (ws.map (bt_string N) ++ F)) = (A.map ln_string ++ B.map ln_string ++ ws.map (bt_string N)) ++ F := by simp
  rw [e1] at h
  have h := h.midBack
  have e2 : (A.map ln_string ++ B.map ln_string ++ ws.map (bt_string N)) ++ bt_string N b :: F = rst_string A B N (ws ++ [b]) F := by simp [rst_string]
  rw [e2] at h
  exact h
theorem spLane_string {n : Nat} {i : Int} {ql : Option Addr} {gr gp : Nat} (hn : 0 < n) (h : Own e w (stb_string g N n ql gr gp :: F)) : Rets Try.prog 22 #[.pointer (some ⟨g, 0, none⟩), .int .i64 i] w fun v w' => v = .int .i64 (Int.tmod (maxI i 0) (n : Int)) ∧ w' = w :=
  stripe_Buffer_string_lane_go _ _ ⟨_, _, _, Own.ld (g := g) (k := 0) h (by repeat (first | with_reducible exact Pick.here | apply Pick.there)) rfl, by omega, rfl, rfl⟩
theorem spPush_string {x : ByteArray} {i : Int} (hi : Int.tmod (maxI i 0) (((A ++ p :: B).length : Nat) : Int) = (A.length : Int)) (hN : 1 ≤ N ∧ N ≤ 1024) (hroom : room ≤ 65536) (hsp : sp ≤ 1024) (hmd : md ≤ 1000) (hAB : A.length + B.length ≤ 1000) (hp : LnOk_string N p)
    (h : Own e w (str_string g N room sp md (A ++ p :: B) ws qs :: F)) :
    Rets Try.prog 6 #[.pointer (some ⟨g, 0, none⟩), .int .i64 i, Value.string x] w fun v w' => ∃ (p' : Ln_string) (md' : Nat) (ws' : List Bt_string) (qs' : List (Option Addr)),
      v = .int .i64 (if p.2.2.length + 1 < N then 0 else if ws.length < room then 1 else 2) ∧ LnOk_string N p' ∧ p'.2.2 = (if p.2.2.length + 1 < N then p.2.2 ++ [x] else []) ∧ ws'.map (·.2) = (if p.2.2.length + 1 < N then ws.map (·.2) else if ws.length < room then ws.map (·.2) ++ [p.2.2 ++ [x]] else ws.map (·.2)) ∧
      md' ≤ md + 1 ∧ (p.2.2.length + 1 < N ∨ ws.length < room → Tk p.2.2.isEmpty md md' qs qs') ∧ Own e w' (str_string g N room sp md' (A ++ p' :: B) ws' qs' :: F) := by
  obtain ⟨q0, c0, xs⟩ := p
  obtain ⟨ql, gr, gp, h⟩ := str_string_op h
  have hlen := len_mid A B (q0, c0, xs)
  obtain ⟨n, hn⟩ : ∃ n, n = (A ++ (q0, c0, xs) :: B).length := ⟨_, rfl⟩
  have hnn : ∀ p' : Ln_string, (A ++ p' :: B).length = n := fun p' => by rw [hn, len_mid, len_mid]
  rw [← hn] at h hi hlen
  refine stripe_Buffer_string_Push_go _ _ _ ⟨fun hc => (by cases hc), fun _ => ?_⟩
  refine Rets.mono (spLane_string (by omega) h) ?_
  rintro _ w1 ⟨rfl, rfl⟩
  rw [hi]
  obtain ⟨aw, rfl, hcell⟩ := (h.drop.slRd).addr (at_mid lnV_string A B (q0, c0, xs))
  refine ⟨_, rfl, _, _, _, Own.ld (g := g) (k := 0) h (by repeat (first | with_reducible exact Pick.here | apply Pick.there)) rfl, by omega, by omega, smR ⟨q0, xs.length, c0, ?_, ?_⟩⟩
  · rw [Int.toNat_natCast, Nat.mul_one]; exact hcell _ _ (at_mid lnV_string A B (q0, c0, xs))
  have toA : (Int.toNat (A.length : Int)) * 1 = A.length := by rw [Int.toNat_natCast, Nat.mul_one]
  rw [toA]
  refine ⟨fun vs w => ∃ q' md' qs', Tk xs.isEmpty md md' qs qs' ∧ Own e w (stb_string g N n (some aw) gr gp :: slO 22 1 (some aw) n n ((A ++ ((q', N, xs) : Ln_string) :: B).map lnV_string) :: ring_string gr (ws.map (btV_string N)) room :: pol_string gp N sp md' qs' :: ln_string (q', N, xs) :: rst_string A B N ws F), ⟨fun hnone => ?_, fun hsome => ?_⟩, ?_⟩
  · have hq0 : q0 = none := by
      cases q0 with
      | none => rfl
      | some _ => cases hnone
    have hp2 : c0 = 0 ∧ xs = [] := by
      rcases hp with ⟨_, h1, h2⟩ | ⟨h1, _⟩
      · exact ⟨h1, h2⟩
      · exact absurd hq0 h1
    obtain ⟨rfl, rfl⟩ := hp2
    subst hq0
    let S : World → Prop := fun w => ∃ F', Own e w (stb_string g N n (some aw) gr gp :: F')
    refine h.drw fun w h => ⟨S, ⟨_, h⟩, _, _, _, fun w h => h.elim fun F' h => Own.ld (g := g) (k := 0) h (by repeat (first | with_reducible exact Pick.here | apply Pick.there)) rfl, _, fun w h => h.elim fun F' h => Own.ld (g := g) (k := 3) h (by repeat (first | with_reducible exact Pick.here | apply Pick.there)) rfl, ?_⟩
    have h : Own e w (pol_string gp N sp md qs :: stb_string g N n (some aw) gr gp :: slO 22 1 (some aw) n n ((A ++ ((none, 0, []) : Ln_string) :: B).map lnV_string) :: ring_string gr (ws.map (btV_string N)) room :: rst_string A B N ws F) := (Own.sub (h) (by repeat (first | with_reducible exact Sub.nil _ | with_reducible exact Sub.rfl _ | (apply Sub.cons; focus ((repeat (first | with_reducible exact Pick.here | apply Pick.there)); done)) | apply Sub.drop)))
    refine Rets.mono (plTake_string (by omega) hmd h) ?_
    clear h
    rintro _ w ⟨q', qs', md', rfl, hcase, h⟩
    refine ⟨_, _, _, rfl, ⟨_, (Own.sub (h) (by repeat (first | with_reducible exact Sub.nil _ | with_reducible exact Sub.rfl _ | (apply Sub.cons; focus ((repeat (first | with_reducible exact Pick.here | apply Pick.there)); done)) | apply Sub.drop)))⟩, by omega, by omega, ?_⟩
    have h : Own e w (slO 22 1 (some aw) n n ((A ++ ((none, 0, []) : Ln_string) :: B).map lnV_string) :: stb_string g N n (some aw) gr gp :: ring_string gr (ws.map (btV_string N)) room :: pol_string gp N sp md' qs' :: buf_string N q' :: rst_string A B N ws F) := (Own.sub (h) (by repeat (first | with_reducible exact Sub.nil _ | with_reducible exact Sub.rfl _ | (apply Sub.cons; focus ((repeat (first | with_reducible exact Pick.here | apply Pick.there)); done)) | apply Sub.drop)))
    refine Own.slStore (i := A.length) (us := [lnV_string (q', N, [])]) h (by simp) (by simp) (by simp [Value.oneCell']) fun w h => ⟨q', md', qs', ?_, ?_⟩
    · refine ⟨fun hh => (by cases hh), fun _ => ?_⟩
      rcases hcase with ⟨rfl, rfl⟩ | ⟨rfl, rfl, rfl⟩
      · exact .inl ⟨by simp, rfl⟩
      · exact .inr ⟨rfl, rfl, rfl⟩
    · rw [set_mid] at h
      have h : Own e w (stb_string g N n (some aw) gr gp :: slO 22 1 (some aw) n n ((A ++ ((q', N, []) : Ln_string) :: B).map lnV_string) :: ring_string gr (ws.map (btV_string N)) room :: pol_string gp N sp md' qs' :: buf_string N q' :: rst_string A B N ws F) := (Own.sub (h) (by repeat (first | with_reducible exact Sub.nil _ | with_reducible exact Sub.rfl _ | (apply Sub.cons; focus ((repeat (first | with_reducible exact Pick.here | apply Pick.there)); done)) | apply Sub.drop)))
      exact h
  · have hp2 : c0 = N ∧ xs ≠ [] := by
      rcases hp with ⟨h1, _⟩ | ⟨_, h1, h2, _⟩
      · have h1 : q0 = none := h1
        rw [h1] at hsome; cases hsome
      · exact ⟨h1, h2⟩
    obtain ⟨rfl, hne⟩ := hp2
    refine ⟨q0, md, qs, ⟨fun _ => ⟨rfl, rfl⟩, fun hh => ?_⟩, h⟩
    cases xs with
    | nil => exact absurd rfl hne
    | cons _ _ => cases hh
  · clear h hcell hlen
    have hxl : xs.length < N := by
      rcases hp with ⟨_, _, h1⟩ | ⟨_, _, _, h1⟩
      · have h1 : xs = [] := h1
        subst h1; simp; omega
      · exact h1
    intro w
    intros
    rename_i hI
    obtain ⟨q', md', qs', hTk, h⟩ := hI
    have hmd' : md' ≤ md + 1 := by
      cases hb : xs.isEmpty with
      | true => rcases hTk.2 hb with h | h <;> omega
      | false => have := hTk.1 hb; omega
    have hnl := hnn (q', N, xs)
    have hAn : A.length < n := by rw [← hnl, len_mid]; omega
    let S : World → Prop := fun w => ∃ F', Own e w (stb_string g N n (some aw) gr gp :: slO 22 1 (some aw) n n ((A ++ ((q', N, xs) : Ln_string) :: B).map lnV_string) :: F')
    have hS0 : ∀ w, S w → cellAt w ((⟨g, 0, none⟩ : Addr).add 0) (.slice (some aw) n n) := fun w h => h.elim fun F' h => Own.ld (g := g) (k := 0) h (by repeat (first | with_reducible exact Pick.here | apply Pick.there)) rfl
    have hS1 : ∀ w, S w → cellAt w (aw.add A.length) (lnV_string (q', N, xs)) := fun w h => by
      obtain ⟨F', h⟩ := h
      obtain ⟨a', ea, hcell⟩ := (h.drop.slRd).addr (at_mid lnV_string A B (q', N, xs))
      cases ea
      exact hcell _ _ (at_mid lnV_string A B (q', N, xs))
    refine h.drw fun w h => ⟨S, ⟨_, h⟩, _, _, _, hS0, _, _, _, hS0, by omega, by omega, smR ⟨q', xs.length, N, hS1, ?_⟩⟩
    refine h.newR fun g4 w h => ⟨⟨_, (Own.sub (h) (by repeat (first | with_reducible exact Sub.nil _ | with_reducible exact Sub.rfl _ | (apply Sub.cons; focus ((repeat (first | with_reducible exact Pick.here | apply Pick.there)); done)) | apply Sub.drop)))⟩, ?_⟩
    have hsrc : RdC w (some ⟨g4, 0, none⟩) [Value.string x] := h.blkRd
    have h : Own e w (slO 9 1 q' xs.length N (xs.map Value.string) :: stb_string g N n (some aw) gr gp :: slO 22 1 (some aw) n n ((A ++ ((q', N, xs) : Ln_string) :: B).map lnV_string) :: ring_string gr (ws.map (btV_string N)) room :: pol_string gp N sp md' qs' :: rst_string A B N ws F) := (Own.sub (h) (by repeat (first | with_reducible exact Sub.nil _ | with_reducible exact Sub.rfl _ | (apply Sub.cons; focus ((repeat (first | with_reducible exact Pick.here | apply Pick.there)); done)) | apply Sub.drop)))
    refine Own.appendRoom (z := [.string ⟨#[]⟩]) (m := 1) h (by kernel_rfl) (by kernel_rfl) (by kernel_rfl) (by omega) hsrc rfl (fun v hv => by rw [List.mem_singleton.1 hv]; rfl) (by omega) (by omega) fun w h => ⟨_, _, _, rfl, ⟨_, (Own.sub (h) (by repeat (first | with_reducible exact Sub.nil _ | with_reducible exact Sub.rfl _ | (apply Sub.cons; focus ((repeat (first | with_reducible exact Pick.here | apply Pick.there)); done)) | apply Sub.drop)))⟩, by omega, by omega, ?_⟩
    have em : xs.map Value.string ++ [Value.string x] = (xs ++ [x]).map Value.string := by simp
    have el : xs.length + 1 = (xs ++ [x]).length := by simp
    rw [em, el] at h
    rw [el]
    obtain ⟨ys, hys⟩ : ∃ ys, ys = xs ++ [x] := ⟨_, rfl⟩
    have hyl0 : ys.length = xs.length + 1 := by rw [hys]; simp
    rw [← hys] at h ⊢
    have h : Own e w (slO 22 1 (some aw) n n ((A ++ ((q', N, xs) : Ln_string) :: B).map lnV_string) :: stb_string g N n (some aw) gr gp :: ring_string gr (ws.map (btV_string N)) room :: pol_string gp N sp md' qs' :: slO 9 1 q' ys.length N (ys.map Value.string) :: rst_string A B N ws F) := (Own.sub (h) (by repeat (first | with_reducible exact Sub.nil _ | with_reducible exact Sub.rfl _ | (apply Sub.cons; focus ((repeat (first | with_reducible exact Pick.here | apply Pick.there)); done)) | apply Sub.drop)))
    refine Own.slStore (i := A.length) (us := [lnV_string (q', N, ys)]) h (by rw [List.length_map, hnl]; simp; omega) (by simp) (by simp [Value.oneCell']) fun w h => ?_
    rw [set_mid] at h
    refine h.drw fun w h => ?_
    obtain ⟨a', ea, hcell⟩ := (h.slRd).addr (at_mid lnV_string A B (q', N, ys))
    cases ea
    have hcell := hcell _ _ (at_mid lnV_string A B (q', N, ys))
    refine ⟨_, _, _, Own.ld (g := g) (k := 0) h (by repeat (first | with_reducible exact Pick.here | apply Pick.there)) rfl, by omega, by omega, ?_⟩
    have hqn : q' ≠ none := fun hq => by
      subst hq
      have h2 : Own e w (slO 9 1 none ys.length N (ys.map Value.string) :: _) := (Own.pk h (by repeat (first | with_reducible exact Pick.here | apply Pick.there)))
      obtain ⟨f1, f2, f3⟩ := h2.slFacts
      rcases h2.slCases with ⟨_, hz, hz2, _⟩ | ⟨_, _, hz, _⟩
      · omega
      · cases hz
    refine smR ⟨q', ys.length, N, hcell, _, Own.ld (g := g) (k := 1) h (by repeat (first | with_reducible exact Pick.here | apply Pick.there)) rfl, fun hc => ?_, fun hc => ?_⟩
    · have hc := dec_t hc
      have hlt : ys.length < N := by omega
      refine ⟨(q', N, ys), md', ws, qs', ?_, .inr ⟨hqn, rfl, by rw [hys]; simp, by show ys.length < N; omega⟩, ?_, ?_, hmd', fun _ => hTk, ?_⟩
      · rw [if_pos hlt]
      · rw [if_pos hlt]
      · rw [if_pos hlt]
      · refine str_string_cl (ql := some aw) (gr := gr) (gp := gp) ?_
        rw [hnn]
        exact (Own.sub (h) (by repeat (first | with_reducible exact Sub.nil _ | with_reducible exact Sub.rfl _ | (apply Sub.cons; focus ((repeat (first | with_reducible exact Pick.here | apply Pick.there)); done)) | apply Sub.drop)))
    · have hc := dec_f hc
      have hge : ¬ N < N := by omega
      have hyl : ys.length = N := by omega
      refine ⟨_, _, _, Own.ld (g := g) (k := 0) h (by repeat (first | with_reducible exact Pick.here | apply Pick.there)) rfl, by omega, by omega, ?_⟩
      refine smR ⟨q', ys.length, N, hcell, _, _, _, Own.ld (g := g) (k := 0) h (by repeat (first | with_reducible exact Pick.here | apply Pick.there)) rfl, by omega, by omega, ?_⟩
      refine Own.slStore (i := A.length) (us := [lnV_string (none, 0, [])]) h (by rw [List.length_map, hnn]; simp; omega) (by simp) (by simp [Value.oneCell']) fun w h => ?_
      rw [set_mid] at h
      refine ⟨_, Own.ld (g := g) (k := 2) h (by repeat (first | with_reducible exact Pick.here | apply Pick.there)) rfl, ?_⟩
      have h : Own e w (ring_string gr (ws.map (btV_string N)) room :: stb_string g N n (some aw) gr gp :: slO 22 1 (some aw) n n ((A ++ ((none, 0, []) : Ln_string) :: B).map lnV_string) :: pol_string gp N sp md' qs' :: slO 9 1 q' ys.length N (ys.map Value.string) :: rst_string A B N ws F) := (Own.sub (h) (by repeat (first | with_reducible exact Sub.nil _ | with_reducible exact Sub.rfl _ | (apply Sub.cons; focus ((repeat (first | with_reducible exact Pick.here | apply Pick.there)); done)) | apply Sub.drop)))
      rw [hyl] at h ⊢
      refine Rets.mono (rgSend_string (x := btV_string N (q', ys)) h hroom) ?_
      clear h hcell
      rintro _ w ⟨rfl, h⟩
      have nilH : ∀ {w F}, Own e w F → Own e w (ln_string (none, 0, []) :: F) := fun h => h.slNil
      refine ⟨_, rfl, fun hb => ?_, fun hb => ?_⟩
      · have hb : ws.length < room := by simpa using hb
        rw [if_pos (by simpa using hb)] at h
        have e3 : ws.map (btV_string N) ++ [btV_string N (q', ys)] = (ws ++ [(q', ys)]).map (btV_string N) := by simp
        rw [e3] at h
        refine ⟨(none, 0, []), md', ws ++ [(q', ys)], qs', ?_, .inl ⟨rfl, rfl, rfl⟩, ?_, ?_, hmd', fun _ => hTk, ?_⟩
        · rw [if_neg hge, if_pos hb]
        · rw [if_neg hge]
        · rw [if_neg hge, if_pos hb, List.map_append]; rfl
        · refine str_string_cl (ql := some aw) (gr := gr) (gp := gp) ?_
          rw [hnn]
          have h : Own e w (([stb_string g N n (some aw) gr gp, slO 22 1 (some aw) n n ((A ++ ((none, 0, []) : Ln_string) :: B).map lnV_string), ring_string gr ((ws ++ [(q', ys)]).map (btV_string N)) room, pol_string gp N sp md' qs'] ++ A.map ln_string ++ B.map ln_string ++ ws.map (bt_string N)) ++ bt_string N (q', ys) :: F) := by
            have h2 : Own e w (slO 9 1 q' N N (ys.map Value.string) :: stb_string g N n (some aw) gr gp :: slO 22 1 (some aw) n n ((A ++ ((none, 0, []) : Ln_string) :: B).map lnV_string) :: ring_string gr ((ws ++ [(q', ys)]).map (btV_string N)) room :: pol_string gp N sp md' qs' :: rst_string A B N ws F) := (Own.sub (h) (by repeat (first | with_reducible exact Sub.nil _ | with_reducible exact Sub.rfl _ | (apply Sub.cons; focus ((repeat (first | with_reducible exact Pick.here | apply Pick.there)); done)) | apply Sub.drop)))
            refine Own.midBack ?_
            have e5 : ([stb_string g N n (some aw) gr gp, slO 22 1 (some aw) n n ((A ++ ((none, 0, []) : Ln_string) :: B).map lnV_string), ring_string gr ((ws ++ [(q', ys)]).map (btV_string N)) room, pol_string gp N sp md' qs'] ++ A.map ln_string ++ B.map ln_string ++ ws.map (bt_string N)) ++ F = stb_string g N n (some aw) gr gp :: slO 22 1 (some aw) n n ((A ++ ((none, 0, []) : Ln_string) :: B).map lnV_string) :: ring_string gr ((ws ++ [(q', ys)]).map (btV_string N)) room :: pol_string gp N sp md' qs' :: rst_string A B N ws F := by simp [rst_string]
            rw [e5]; exact h2
          have e6 : ([stb_string g N n (some aw) gr gp, slO 22 1 (some aw) n n ((A ++ ((none, 0, []) : Ln_string) :: B).map lnV_string), ring_string gr ((ws ++ [(q', ys)]).map (btV_string N)) room, pol_string gp N sp md' qs'] ++ A.map ln_string ++ B.map ln_string ++ ws.map (bt_string N)) ++ bt_string N (q', ys) :: F = stb_string g N n (some aw) gr gp :: slO 22 1 (some aw) n n ((A ++ ((none, 0, []) : Ln_string) :: B).map lnV_string) :: ring_string gr ((ws ++ [(q', ys)]).map (btV_string N)) room :: pol_string gp N sp md' qs' :: rst_string A B N (ws ++ [(q', ys)]) F := by simp [rst_string]
          rw [e6] at h
          have h := nilH h
          exact (Own.sub (h) (by repeat (first | with_reducible exact Sub.nil _ | with_reducible exact Sub.rfl _ | (apply Sub.cons; focus ((repeat (first | with_reducible exact Pick.here | apply Pick.there)); done)) | apply Sub.drop)))
      · have hb : ¬ ws.length < room := by simpa using hb
        rw [if_neg (by simpa using hb)] at h
        have h : Own e w (stb_string g N n (some aw) gr gp :: slO 22 1 (some aw) n n ((A ++ ((none, 0, []) : Ln_string) :: B).map lnV_string) :: ring_string gr (ws.map (btV_string N)) room :: pol_string gp N sp md' qs' :: slO 9 1 q' N N (ys.map Value.string) :: rst_string A B N ws F) := (Own.sub (h) (by repeat (first | with_reducible exact Sub.nil _ | with_reducible exact Sub.rfl _ | (apply Sub.cons; focus ((repeat (first | with_reducible exact Pick.here | apply Pick.there)); done)) | apply Sub.drop)))
        refine ⟨_, Own.ld (g := g) (k := 3) h (by repeat (first | with_reducible exact Pick.here | apply Pick.there)) rfl, ?_⟩
        have h : Own e w (slO 9 1 q' N N (ys.map Value.string) :: pol_string gp N sp md' qs' :: stb_string g N n (some aw) gr gp :: slO 22 1 (some aw) n n ((A ++ ((none, 0, []) : Ln_string) :: B).map lnV_string) :: ring_string gr (ws.map (btV_string N)) room :: rst_string A B N ws F) := (Own.sub (h) (by repeat (first | with_reducible exact Sub.nil _ | with_reducible exact Sub.rfl _ | (apply Sub.cons; focus ((repeat (first | with_reducible exact Pick.here | apply Pick.there)); done)) | apply Sub.drop)))
        refine Rets.mono (plGive_string hsp hN h) ?_
        clear h
        rintro _ w ⟨rfl, h⟩
        obtain ⟨qs2, hqs2⟩ : ∃ qs2, qs2 = (if qs'.length < sp ∧ N = N then qs' ++ [q'] else qs') := ⟨_, rfl⟩
        rw [← hqs2] at h
        refine ⟨_, rfl, (none, 0, []), md', ws, qs2, ?_, .inl ⟨rfl, rfl, rfl⟩, ?_, ?_, hmd', fun hh => ?_, ?_⟩
        · rw [if_neg hge, if_neg hb]
        · rw [if_neg hge]
        · rw [if_neg hge, if_neg hb]
        · rcases hh with hh | hh
          · exact absurd hh hge
          · exact absurd hh hb
        · refine str_string_cl (ql := some aw) (gr := gr) (gp := gp) ?_
          rw [hnn]
          have h := nilH h
          exact (Own.sub (h) (by repeat (first | with_reducible exact Sub.nil _ | with_reducible exact Sub.rfl _ | (apply Sub.cons; focus ((repeat (first | with_reducible exact Pick.here | apply Pick.there)); done)) | apply Sub.drop)))
end
end Go.Proofs.Ytppkeemdbhmkgaa.Eng
