/- Joined: ExsP ExsQ BelW ExsR ExsS. -/
import Derived.Test.YtjdbeopgmpbikaaDoorTiA
import Derived.Test.YtjdbeopgmpbikaaDoorEngM
import Derived.Test.YtjdbeopgmpbikaaDoorExsG
import Derived.Test.YtjdbeopgmpbikaaDoorExA
import Derived.Test.YtjdbeopgmpbikaaDoorExdG
namespace Go.Proofs.YtjdbeopgmpbikaaDoor.Eng
open Go Go.RowKit Go.Proofs
set_option linter.unusedVariables false
set_option linter.unusedSimpArgs false
set_option maxRecDepth 1000000
theorem zeroVr {P : Program} {T : TypeId} {z : Value} (h : ((P.info? T).bind fun i => i.zero) = some z) : ∀ w, (zeroValue T).run P w = .ok z w := by
  cases hi : P.info? T with
  | none => rw [hi] at h; cases h
  | some i => rw [hi] at h; exact zeroV_run hi h
/-- In row i no other key stands where x stands. -/
def Lon1 (s : Int) (m : Nat) (L : List Int) (x : Int) (i : Nat) : Prop := ∀ k ∈ L, k ≠ x → plc s (2 ^ m) k i ≠ plc s (2 ^ m) x i
/-- At the door no other key stands at x's place i. -/
def Sng1 (s : Int) (md : Nat) (L : List Int) (x : Int) (i : Nat) : Prop := ∀ k ∈ L, k ≠ x → ∀ j, j < 4 → plN (mixI s) k (2 ^ md) j ≠ plN (mixI s) x (2 ^ md) i
def Lon (s : Int) (m : Nat) (L : List Int) (x : Int) : Prop := ∃ i, i < 4 ∧ Lon1 s m L x i
def Sng (s : Int) (md : Nat) (L : List Int) (x : Int) : Prop := ∃ i, i < 4 ∧ Sng1 s md L x i
def Apt (s : Int) (m md : Nat) (L : List Int) : Prop := ∀ x ∈ L, Lon s m L x ∧ Sng s md L x
section
variable {e w : World} {G F : List HP} {s x ct lim ag : Int} {g gs gd m md : Nat} {a : Nat → Nat} {R : Nat → List Nat} {ws : List Nat} {h0 : Nat → Option Obj} {L : List Int} {q : Option Addr} {c : Nat}
abbrev T3 (e w : World) (g gs gd : Nat) (a : Nat → Nat) (m md : Nat) (s : Int) (ws : List Nat) (ct lim ag : Int) (h0 : Nat → Option Obj) (G : List HP) : Prop :=
  Own e w (tinB g gs gd ct lim ag :: skB gs (a 0) (a 1) (a 2) (a 3) s (2 ^ m) :: dorO gd md (mixI s) ws :: imm h0 :: G)
theorem T3.im (h : T3 e w g gs gd a m md s ws ct lim ag h0 G) : ∃ F, Own e w (imm h0 :: F) := ⟨_, (Own.pk h (by repeat (first | with_reducible exact Pick.here | apply Pick.there)))⟩
theorem tinO.opn (h : Own e w (tinO g m md s R ws ct lim ag :: imm h0 :: F)) : ∃ gs gd a, (m ≤ 12 ∧ md ≤ 20) ∧ T3 e w g gs gd a m md s ws ct lim ag h0 (rowO (a 0) (R 0) :: rowO (a 1) (R 1) :: rowO (a 2) (R 2) :: rowO (a 3) (R 3) :: F) ∧
    ∀ w', T3 e w' g gs gd a m md s ws ct lim ag h0 (rowO (a 0) (R 0) :: rowO (a 1) (R 1) :: rowO (a 2) (R 2) :: rowO (a 3) (R 3) :: F) → Own e w' (tinO g m md s R ws ct lim ag :: imm h0 :: F) := by
  obtain ⟨gs, gd, hk, h⟩ := tinO.op h
  have h : Own e w (skO gs m s R :: tinB g gs gd ct lim ag :: dorO gd md (mixI s) ws :: imm h0 :: F) := (Own.sub (h) (by repeat (first | with_reducible exact Sub.nil _ | with_reducible exact Sub.rfl _ | (apply Sub.cons; focus ((repeat (first | with_reducible exact Pick.here | apply Pick.there)); done)) | apply Sub.drop)))
  obtain ⟨a, hk2, h⟩ := skO.op h
  refine ⟨gs, gd, a, ⟨hk.2.2.1, hk.2.1⟩, (Own.sub (h) (by repeat (first | with_reducible exact Sub.nil _ | with_reducible exact Sub.rfl _ | (apply Sub.cons; focus ((repeat (first | with_reducible exact Pick.here | apply Pick.there)); done)) | apply Sub.drop))), fun w' h => ?_⟩
  have h : Own e w' (skB gs (a 0) (a 1) (a 2) (a 3) s (2 ^ m) :: rowO (a 0) (R 0) :: rowO (a 1) (R 1) :: rowO (a 2) (R 2) :: rowO (a 3) (R 3) :: tinB g gs gd ct lim ag :: dorO gd md (mixI s) ws :: imm h0 :: F) := (Own.sub (h) (by repeat (first | with_reducible exact Sub.nil _ | with_reducible exact Sub.rfl _ | (apply Sub.cons; focus ((repeat (first | with_reducible exact Pick.here | apply Pick.there)); done)) | apply Sub.drop)))
  have h := skO.cl hk2 h
  have h : Own e w' (tinB g gs gd ct lim ag :: skO gs m s R :: dorO gd md (mixI s) ws :: imm h0 :: F) := (Own.sub (h) (by repeat (first | with_reducible exact Sub.nil _ | with_reducible exact Sub.rfl _ | (apply Sub.cons; focus ((repeat (first | with_reducible exact Pick.here | apply Pick.there)); done)) | apply Sub.drop)))
  exact tinO.cl h
theorem T3.le {h1 : Nat → Option Obj} (le : LeH h0 h1) (h : T3 e w g gs gd a m md s ws ct lim ag h1 G) : T3 e w g gs gd a m md s ws ct lim ag h0 G := by
  have h : Own e w (imm h1 :: tinB g gs gd ct lim ag :: skB gs (a 0) (a 1) (a 2) (a 3) s (2 ^ m) :: dorO gd md (mixI s) ws :: G) := (Own.sub (h) (by repeat (first | with_reducible exact Sub.nil _ | with_reducible exact Sub.rfl _ | (apply Sub.cons; focus ((repeat (first | with_reducible exact Pick.here | apply Pick.there)); done)) | apply Sub.drop)))
  have h := h.immLe le
  exact (Own.sub (h) (by repeat (first | with_reducible exact Sub.nil _ | with_reducible exact Sub.rfl _ | (apply Sub.cons; focus ((repeat (first | with_reducible exact Pick.here | apply Pick.there)); done)) | apply Sub.drop)))
abbrev RdI (h0 : Nat → Option Obj) (q : Option Addr) (us : List Value) : Prop := ∀ e w F, Own e w (imm h0 :: F) → RdC w q us
theorem tPl {i : Nat} {y : Int} (hi : i < 4) (hm12 : m ≤ 12) (hm1 : RdI h0 mixQ mixC) (h : T3 e w g gs gd a m md s ws ct lim ag h0 G) :
    Rets Tryd.prog 45 #[.pointer (some ⟨gs, 0, none⟩), .int .u64 y, .int .i64 (i : Int)] w fun v w' => v = .int .i64 (plc s (2 ^ m) y i : Int) ∧ T3 e w' g gs gd a m md s ws ct lim ag h0 G := by
  have h : Own e w (skB gs (a 0) (a 1) (a 2) (a 3) s (2 ^ m) :: imm h0 :: tinB g gs gd ct lim ag :: dorO gd md (mixI s) ws :: G) := (Own.sub (h) (by repeat (first | with_reducible exact Sub.nil _ | with_reducible exact Sub.rfl _ | (apply Sub.cons; focus ((repeat (first | with_reducible exact Pick.here | apply Pick.there)); done)) | apply Sub.drop)))
  refine Rets.mono (skPlace (hh := y) hi hm12 (fun w h => hm1 _ _ _ h) h) ?_
  rintro _ w ⟨rfl, h⟩
  exact ⟨rfl, (Own.sub (h) (by repeat (first | with_reducible exact Sub.nil _ | with_reducible exact Sub.rfl _ | (apply Sub.cons; focus ((repeat (first | with_reducible exact Pick.here | apply Pick.there)); done)) | apply Sub.drop)))⟩
theorem tDs {y : Int} (hm1 : RdI h0 mixQ mixC) (hm2 : RdI h0 twiQ twiC) (h : T3 e w g gs gd a m md s ws ct lim ag h0 G) :
    Rets Tryd.prog 43 #[.pointer (some ⟨gd, 0, none⟩), .int .u64 y] w fun v w' => v = .agg #[.int .i64 (plN (mixI s) y (2 ^ md) 0 : Int), .int .i64 (plN (mixI s) y (2 ^ md) 1 : Int), .int .i64 (plN (mixI s) y (2 ^ md) 2 : Int), .int .i64 (plN (mixI s) y (2 ^ md) 3 : Int)] ∧ T3 e w' g gs gd a m md s ws ct lim ag h0 G := by
  have h : Own e w (dorO gd md (mixI s) ws :: imm h0 :: tinB g gs gd ct lim ag :: skB gs (a 0) (a 1) (a 2) (a 3) s (2 ^ m) :: G) := (Own.sub (h) (by repeat (first | with_reducible exact Sub.nil _ | with_reducible exact Sub.rfl _ | (apply Sub.cons; focus ((repeat (first | with_reducible exact Pick.here | apply Pick.there)); done)) | apply Sub.drop)))
  refine Rets.mono (drPlaces (hh := y) (fun w h => hm1 _ _ _ h) (fun w h => hm2 _ _ _ h) h) ?_
  rintro _ w ⟨rfl, h⟩
  exact ⟨rfl, (Own.sub (h) (by repeat (first | with_reducible exact Sub.nil _ | with_reducible exact Sub.rfl _ | (apply Sub.cons; focus ((repeat (first | with_reducible exact Pick.here | apply Pick.there)); done)) | apply Sub.drop)))⟩
theorem tSk (h : T3 e w g gs gd a m md s ws ct lim ag h0 G) : Rets Tryd.prog 23 #[.pointer (some ⟨g, 0, none⟩)] w fun v w' => v = .pointer (some ⟨gs, 0, none⟩) ∧ w' = w :=
  tiny_Tiny_Sketch_go _ ⟨fun hc => (by cases hc), fun _ => ⟨_, Own.ld (g := g) (k := 0) h (by repeat (first | with_reducible exact Pick.here | apply Pick.there)) rfl, rfl, rfl⟩⟩
theorem tDo (h : T3 e w g gs gd a m md s ws ct lim ag h0 G) : Rets Tryd.prog 54 #[.pointer (some ⟨g, 0, none⟩)] w fun v w' => v = .pointer (some ⟨gd, 0, none⟩) ∧ w' = w :=
  tiny_Tiny_Door_go _ ⟨fun hc => (by cases hc), fun _ => ⟨_, Own.ld (g := g) (k := 1) h (by repeat (first | with_reducible exact Pick.here | apply Pick.there)) rfl, rfl, rfl⟩⟩
theorem lnAt {i b1 b2 b3 : Nat} (hi : i < 4) (hm12 : m ≤ 12) (hL : L.length ≤ 1000) (hm1 : RdI h0 mixQ mixC) (hr : RdI h0 q (cs .u64 L)) (e1 : h0 b1 = some (.cells #[.slice q L.length c] 23 (0, 0))) (e2 : h0 b2 = some (.cells #[.int .u64 x] 22 (0, 0))) (e3 : h0 b3 = some (.cells #[.pointer (some ⟨g, 0, none⟩)] 25 (0, 0)))
    (h : T3 e w g gs gd a m md s ws ct lim ag h0 G) : Rets Tryd.prog 53 #[.int .i64 (i : Int), .pointer (some ⟨b1, 0, none⟩), .pointer (some ⟨b2, 0, none⟩), .pointer (some ⟨b3, 0, none⟩)] w fun v w' => (∃ b, v = .bool b ∧ (b = true ↔ Lon1 s m L x i)) ∧ T3 e w' g gs gd a m md s ws ct lim ag h0 G := by
  have im : ∀ {w}, T3 e w g gs gd a m md s ws ct lim ag h0 G → Own e w (imm h0 :: tinB g gs gd ct lim ag :: skB gs (a 0) (a 1) (a 2) (a 3) s (2 ^ m) :: dorO gd md (mixI s) ws :: G) := fun h => (Own.sub (h) (by repeat (first | with_reducible exact Sub.nil _ | with_reducible exact Sub.rfl _ | (apply Sub.cons; focus ((repeat (first | with_reducible exact Pick.here | apply Pick.there)); done)) | apply Sub.drop)))
  refine exact_lonely_1_go _ _ _ _ ⟨_, _, _, (im h).immCell e1 (i := 0) rfl, fun K vs w => ∃ n : Nat, vs = [.int .i64 (n : Int)] ∧ K + n = L.length ∧ (∀ k ∈ L.take n, k ≠ x → plc s (2 ^ m) k i ≠ plc s (2 ^ m) x i) ∧ T3 e w g gs gd a m md s ws ct lim ag h0 G, ⟨L.length, 0, rfl, rfl, fun k hk => (by cases hk), h⟩, ?_⟩
  clear h
  intro K w v1 v2 n1
  intros
  rename_i hI
  obtain ⟨n, hvs, hK, hno, h⟩ := hI
  obtain rfl : n1 = (n : Int) := by simpa using hvs
  refine ⟨fun hc => ?_, fun hc => ?_⟩
  · have hc := dec_t hc
    have hn : n < L.length := by omega
    obtain ⟨y, hy⟩ : ∃ y, y = L[n] := ⟨_, rfl⟩
    have et : L.take (n + 1) = L.take n ++ [y] := by rw [hy]; exact List.take_succ_eq_append_getElem hn
    have ei : IntKind.wrap .i64 ((n : Int) + 1) = ((n + 1 : Nat) : Int) := by rw [wI64 (by omega) (by omega)]; rfl
    rw [ei]
    refine ⟨by omega, hc, (hr _ _ _ (im h)).int (i := n) hn fun p hp => ⟨y, by rw [Int.toNat_natCast, hy]; exact hp, ?_⟩⟩
    refine Own.drw h fun w h => ⟨fun w => T3 e w g gs gd a m md s ws ct lim ag h0 G, h, _, fun w h => (im h).immCell e2 (i := 0) rfl, fun hq => ?_, fun hq => ?_⟩
    · have hq := bool_ne hq
      refine ⟨_, fun w h => (im h).immCell e3 (i := 0) rfl, _, fun w h => (im h).immCell e3 (i := 0) rfl, _, fun w h => (im h).immCell e2 (i := 0) rfl, Rets.mono (tSk h) ?_⟩
      rintro _ w1 ⟨rfl, rfl⟩
      refine ⟨_, rfl, h, Rets.mono (tPl (y := y) hi hm12 hm1 h) ?_⟩
      clear h
      rintro _ w ⟨rfl, h⟩
      refine ⟨_, rfl, h, Rets.mono (tSk h) ?_⟩
      rintro _ w1 ⟨rfl, rfl⟩
      refine ⟨_, rfl, h, Rets.mono (tPl (y := x) hi hm12 hm1 h) ?_⟩
      clear h
      rintro _ w ⟨rfl, h⟩
      refine ⟨_, rfl, fun hz => ⟨⟨false, rfl, fun hh => (by cases hh), fun hl => ?_⟩, h⟩, fun hz => ⟨K - 1, by omega, n + 1, rfl, by omega, fun k hk hne => ?_, h⟩⟩
      · have hz := beq_t hz
        exact absurd (by omega) (hl y (by rw [hy]; exact List.getElem_mem hn) hq)
      · have hz := beq_f hz
        rw [et] at hk
        rcases List.mem_append.1 hk with hk | hk
        · exact hno k hk hne
        · rw [List.mem_singleton.1 hk]; omega
    · have hq := bool_eq hq
      refine ⟨K - 1, by omega, n + 1, rfl, by omega, fun k hk hne => ?_, h⟩
      rw [et] at hk
      rcases List.mem_append.1 hk with hk | hk
      · exact hno k hk hne
      · rw [List.mem_singleton.1 hk] at hne; exact absurd hq hne
  · have hc := dec_f hc
    obtain rfl : n = L.length := by omega
    rw [List.take_length] at hno
    exact ⟨⟨true, rfl, fun _ => hno, fun _ => rfl⟩, h⟩
theorem exLonely (hm12 : m ≤ 12) (hL : L.length ≤ 1000) (hm1 : RdI h0 mixQ mixC) (hr : RdI h0 q (cs .u64 L)) (h : T3 e w g gs gd a m md s ws ct lim ag h0 G) :
    Rets Tryd.prog 31 #[.pointer (some ⟨g, 0, none⟩), .int .u64 x, .slice q L.length c] w fun v w' => (∃ b, v = .bool b ∧ (b = true ↔ Lon s m L x)) ∧ T3 e w' g gs gd a m md s ws ct lim ag h0 G := by
  refine exact_lonely_go _ _ _ _ _ (Own.newR h fun p1 w h => ?_)
  have h : Own e w (blk p1 25 [.pointer (some ⟨g, 0, none⟩)] :: imm h0 :: tinB g gs gd ct lim ag :: skB gs (a 0) (a 1) (a 2) (a 3) s (2 ^ m) :: dorO gd md (mixI s) ws :: G) := (Own.sub (h) (by repeat (first | with_reducible exact Sub.nil _ | with_reducible exact Sub.rfl _ | (apply Sub.cons; focus ((repeat (first | with_reducible exact Pick.here | apply Pick.there)); done)) | apply Sub.drop)))
  obtain ⟨h1, le1, e1, h⟩ := Own.absorb h
  refine Own.newR h fun p2 w h => ?_
  obtain ⟨h2, le2, e2, h⟩ := Own.absorb h
  refine Own.newR h fun p3 w h => ?_
  obtain ⟨h3, le3, e3, h⟩ := Own.absorb h
  have e2 := le3 _ _ e2
  have e1 := le3 _ _ (le2 _ _ e1)
  have le := LeH.trans le1 (LeH.trans le2 le3)
  have h : T3 e w g gs gd a m md s ws ct lim ag h3 G := (Own.sub (h) (by repeat (first | with_reducible exact Sub.nil _ | with_reducible exact Sub.rfl _ | (apply Sub.cons; focus ((repeat (first | with_reducible exact Pick.here | apply Pick.there)); done)) | apply Sub.drop)))
  have hm1 : RdI h3 mixQ mixC := fun e w F h => hm1 e w F (h.immLe le)
  have hr : RdI h3 q (cs .u64 L) := fun e w F h => hr e w F (h.immLe le)
  refine ⟨fun K vs w => ∃ i : Nat, vs = [.int .i64 (i : Int)] ∧ K + i = 4 ∧ (∀ j, j < i → ¬ Lon1 s m L x j) ∧ T3 e w g gs gd a m md s ws ct lim ag h3 G, ⟨4, 0, rfl, rfl, fun j hj => absurd hj (by omega), h⟩, ?_⟩
  clear h
  intro K w v1 v2 n1
  intros
  rename_i hI
  obtain ⟨i, hvs, hK, hno, h⟩ := hI
  obtain rfl : n1 = (i : Int) := by simpa using hvs
  refine ⟨fun hc => ?_, fun hc => ?_⟩
  · have hc := dec_t hc
    have hi : i < 4 := by omega
    refine Rets.mono (lnAt (c := c) (x := x) hi hm12 hL hm1 hr e3 e2 e1 h) ?_
    clear h
    rintro _ w ⟨⟨b, rfl, hb⟩, h⟩
    refine ⟨_, rfl, fun hz => ⟨⟨true, rfl, fun _ => ⟨i, hi, hb.1 hz⟩, fun _ => rfl⟩, h.le le⟩, fun hz => ⟨K - 1, by omega, i + 1, by rw [wI64 (by omega) (by omega)]; rfl, by omega, fun j hj => ?_, h⟩⟩
    rcases Nat.lt_or_ge j i with hj2 | hj2
    · exact hno j hj2
    · obtain rfl : j = i := by omega
      intro hh; rw [hb.2 hh] at hz; cases hz
  · have hc := dec_f hc
    refine ⟨⟨false, rfl, fun hh => (by cases hh), fun ⟨j, hj, hh⟩ => absurd hh (hno j (by omega))⟩, h.le le⟩
/-- A map of how often each place was taken. -/
def Tkn (f : Value → Option Value) (Z : List Int) : Prop := ∀ p : Int, (p ∉ Z → f (.int .i64 p) = none) ∧ (p ∈ Z → ∃ n : Int, 1 ≤ n ∧ n ≤ Z.length ∧ f (.int .i64 p) = some (.int .i64 n))
theorem Tkn.nil : Tkn (fun _ => none) [] := fun p => ⟨fun _ => rfl, fun h => by cases h⟩
theorem Tkn.next {f f' : Value → Option Value} {Z : List Int} {p n : Int} (h : Tkn f Z) (hn : n = match f (.int .i64 p) with | some (.int _ z) => z | _ => 0) (h1 : f' (.int .i64 p) = some (.int .i64 (n + 1))) (h2 : ∀ y, y ≠ .int .i64 p → f' y = f y) : Tkn f' (Z ++ [p]) ∧ 0 ≤ n ∧ n ≤ Z.length := by
  have hb : 0 ≤ n ∧ n ≤ Z.length := by
    by_cases hp : p ∈ Z
    · obtain ⟨z, g1, g2, g3⟩ := (h p).2 hp
      rw [g3] at hn
      have : n = z := hn
      omega
    · rw [(h p).1 hp] at hn
      have : n = 0 := hn
      omega
  refine ⟨fun r => ?_, hb⟩
  by_cases e1 : r = p
  · subst e1
    refine ⟨fun hr => absurd (by simp) hr, fun _ => ⟨n + 1, by omega, by simp; omega, h1⟩⟩
  · have e2 : f' (.int .i64 r) = f (.int .i64 r) := h2 _ (fun hh => e1 (by cases hh; rfl))
    have e3 : r ∈ Z ++ [p] ↔ r ∈ Z := by simp [e1]
    rw [e2, e3]
    refine ⟨(h r).1, fun hr => ?_⟩
    obtain ⟨z, g1, g2, g3⟩ := (h r).2 hr
    exact ⟨z, g1, by simp; omega, g3⟩
abbrev tmO (r : Nat) (f : Value → Option Value) (n : Nat) : HP := mpO (TypeDesc.int .i64) r f n
theorem exSingle (hL : L.length ≤ 1000) (hm1 : RdI h0 mixQ mixC) (hm2 : RdI h0 twiQ twiC) (hr : RdI h0 q (cs .u64 L)) (h : T3 e w g gs gd a m md s ws ct lim ag h0 G) :
    Rets Tryd.prog 32 #[.pointer (some ⟨g, 0, none⟩), .int .u64 x, .slice q L.length c] w fun v w' => (∃ b, v = .bool b ∧ (b = true ↔ Sng s md L x)) ∧ T3 e w' g gs gd a m md s ws ct lim ag h0 G := by
  have im : ∀ {w G}, T3 e w g gs gd a m md s ws ct lim ag h0 G → Own e w (imm h0 :: tinB g gs gd ct lim ag :: skB gs (a 0) (a 1) (a 2) (a 3) s (2 ^ m) :: dorO gd md (mixI s) ws :: G) := fun h => (Own.sub (h) (by repeat (first | with_reducible exact Sub.nil _ | with_reducible exact Sub.rfl _ | (apply Sub.cons; focus ((repeat (first | with_reducible exact Pick.here | apply Pick.there)); done)) | apply Sub.drop)))
  have mi : ∀ {w G r f N}, Own e w (tmO r f N :: tinB g gs gd ct lim ag :: skB gs (a 0) (a 1) (a 2) (a 3) s (2 ^ m) :: dorO gd md (mixI s) ws :: imm h0 :: G) → T3 e w g gs gd a m md s ws ct lim ag h0 (tmO r f N :: G) := fun {w G r f N} h => (Own.sub (h) (by repeat (first | with_reducible exact Sub.nil _ | with_reducible exact Sub.rfl _ | (apply Sub.cons; focus ((repeat (first | with_reducible exact Pick.here | apply Pick.there)); done)) | apply Sub.drop)))
  have mo : ∀ {w G r f N}, T3 e w g gs gd a m md s ws ct lim ag h0 (tmO r f N :: G) → Own e w (tmO r f N :: tinB g gs gd ct lim ag :: skB gs (a 0) (a 1) (a 2) (a 3) s (2 ^ m) :: dorO gd md (mixI s) ws :: imm h0 :: G) := fun {w G r f N} h => (Own.sub (h) (by repeat (first | with_reducible exact Sub.nil _ | with_reducible exact Sub.rfl _ | (apply Sub.cons; focus ((repeat (first | with_reducible exact Pick.here | apply Pick.there)); done)) | apply Sub.drop)))
  have md_ : ∀ {w r f N}, T3 e w g gs gd a m md s ws ct lim ag h0 (tmO r f N :: G) → T3 e w g gs gd a m md s ws ct lim ag h0 G := fun {w r f N} h => (Own.sub (h) (by repeat (first | with_reducible exact Sub.nil _ | with_reducible exact Sub.rfl _ | (apply Sub.cons; focus ((repeat (first | with_reducible exact Pick.here | apply Pick.there)); done)) | apply Sub.drop)))
  refine exact_single_go _ _ _ _ _ (Own.mapNew (d := TypeDesc.int .i64) h fun r w h => ?_)
  refine ⟨fun K vs w => ∃ (n : Nat) (Z : List Int) (f : Value → Option Value) (N : Nat), vs = [.int .i64 (n : Int)] ∧ K + n = L.length ∧ Z.length ≤ 4 * n ∧ Tkn f Z ∧ (∀ p, p ∈ Z ↔ ∃ k ∈ L.take n, k ≠ x ∧ ∃ j, j < 4 ∧ p = (plN (mixI s) k (2 ^ md) j : Int)) ∧ T3 e w g gs gd a m md s ws ct lim ag h0 (tmO r f N :: G), ⟨L.length, 0, [], _, 0, rfl, rfl, Nat.zero_le _, Tkn.nil, fun p => ⟨fun hp => (by cases hp), fun ⟨k, hk, _⟩ => (by cases hk)⟩, mi h⟩, ?_⟩
  clear h
  intro K w v1 v2 n1
  intros
  rename_i hI
  obtain ⟨n, Z, f, N, hvs, hK, hZ, hT, hin, h⟩ := hI
  obtain rfl : n1 = (n : Int) := by simpa using hvs
  refine ⟨fun hc => ?_, fun hc => ?_⟩
  · have hc := dec_t hc
    have hn : n < L.length := by omega
    obtain ⟨y, hy⟩ : ∃ y, y = L[n] := ⟨_, rfl⟩
    have et : L.take (n + 1) = L.take n ++ [y] := by rw [hy]; exact List.take_succ_eq_append_getElem hn
    have ei : IntKind.wrap .i64 ((n : Int) + 1) = ((n + 1 : Nat) : Int) := by rw [wI64 (by omega) (by omega)]; rfl
    rw [ei]
    refine ⟨by omega, hc, (hr _ _ _ (im h)).int (i := n) hn fun p hp => ⟨y, by rw [Int.toNat_natCast, hy]; exact hp, fun hq => ?_, fun hq => ?_⟩⟩
    · have hq := beq_t hq
      refine ⟨K - 1, by omega, n + 1, Z, f, N, rfl, by omega, by omega, hT, fun p => ?_, h⟩
      rw [hin p, et]
      constructor
      · rintro ⟨k, hk, hne, hj⟩; exact ⟨k, List.mem_append_left _ hk, hne, hj⟩
      · rintro ⟨k, hk, hne, hj⟩
        rcases List.mem_append.1 hk with hk | hk
        · exact ⟨k, hk, hne, hj⟩
        · rw [List.mem_singleton.1 hk] at hne; exact absurd hq hne
    · have hq := beq_f hq
      refine Rets.mono (tDo h) ?_
      rintro _ w1 ⟨rfl, rfl⟩
      refine ⟨_, rfl, Rets.mono (tDs (y := y) hm1 hm2 h) ?_⟩
      clear h
      rintro _ w ⟨rfl, h⟩
      refine ⟨_, _, _, _, rfl, fun K2 vs w => ∃ (j : Nat) (Z2 : List Int) (f : Value → Option Value) (N : Nat), vs = [.int .i64 (j : Int)] ∧ K2 + j = 4 ∧ Z2.length = Z.length + j ∧ Tkn f Z2 ∧ (∀ p, p ∈ Z2 ↔ p ∈ Z ∨ ∃ i, i < j ∧ p = (plN (mixI s) y (2 ^ md) i : Int)) ∧ T3 e w g gs gd a m md s ws ct lim ag h0 (tmO r f N :: G), ⟨4, 0, Z, f, N, rfl, rfl, rfl, hT, fun p => ⟨fun hp => .inl hp, fun hp => hp.elim id fun ⟨i, hi, _⟩ => absurd hi (by omega)⟩, h⟩, ?_⟩
      clear h hT
      intro K2 w v24 n7
      intros
      rename_i hI
      obtain ⟨j, Z2, f, N, hvs, hK2, hZ2, hT, hin2, h⟩ := hI
      obtain rfl : n7 = (j : Int) := by simpa using hvs
      refine ⟨fun hc2 => ?_, fun hc2 => ?_⟩
      · have hc2 := dec_t hc2
        have hj : j < 4 := by omega
        have ej : IntKind.wrap .i64 ((j : Int) + 1) = ((j + 1 : Nat) : Int) := by rw [wI64 (by omega) (by omega)]; rfl
        rw [ej]
        refine ⟨by omega, by omega, _, get4 hj (fun i => (plN (mixI s) y (2 ^ md) i : Int)) rfl rfl rfl rfl, ?_⟩
        obtain ⟨p, hp⟩ : ∃ p : Int, p = (plN (mixI s) y (2 ^ md) j : Int) := ⟨_, rfl⟩
        rw [← hp]
        have h := mo h
        refine Own.mapGet (d := TypeDesc.int .i64) (kt := 3) (et := 3) (n := N) (f := f) (r := r) (z := .int .i64 0) h (by kernel_rfl) (by kernel_rfl) (by simp [MapKept.IsKey]) (zeroVr (by kernel_rfl)) ?_
        obtain ⟨n9, hn9, hv9⟩ : ∃ n9 : Int, (n9 = match f (.int .i64 p) with | some (.int _ z) => z | _ => 0) ∧ (f (.int .i64 p)).getD (.int .i64 0) = .int .i64 n9 := by
          by_cases hpz : p ∈ Z2
          · obtain ⟨z, g1, g2, g3⟩ := (hT p).2 hpz
            rw [g3]; exact ⟨z, rfl, rfl⟩
          · rw [(hT p).1 hpz]; exact ⟨0, rfl, rfl⟩
        refine ⟨n9, hv9, ?_⟩
        have hb9 : 0 ≤ n9 ∧ n9 ≤ Z2.length := by
          obtain ⟨f3, g1, g2⟩ := upd_ex f (.int .i64 p) (some (.int .i64 (n9 + 1)))
          exact (hT.next hn9 g1 g2).2
        have e9 : IntKind.wrap .i64 (n9 + 1) = n9 + 1 := wI64 (by omega) (by omega)
        rw [e9]
        refine Own.mapSet (d := TypeDesc.int .i64) (kt := 3) (et := 3) (n := N) (f := f) (r := r) h (by kernel_rfl) (by kernel_rfl) (by simp [MapKept.IsKey]) fun f' w g1 g2 h => ?_
        refine ⟨K2 - 1, by omega, j + 1, Z2 ++ [p], f', _, rfl, by omega, by simp; omega, (hT.next hn9 g1 g2).1, fun p' => ?_, mi h⟩
        rw [List.mem_append, List.mem_singleton, hin2 p']
        constructor
        · rintro ((h5 | ⟨i, hi, h5⟩) | h5)
          · exact .inl h5
          · exact .inr ⟨i, by omega, h5⟩
          · exact .inr ⟨j, by omega, by rw [h5, hp]⟩
        · rintro (h5 | ⟨i, hi, h5⟩)
          · exact .inl (.inl h5)
          · rcases Nat.lt_or_ge i j with hij | hij
            · exact .inl (.inr ⟨i, hij, h5⟩)
            · obtain rfl : i = j := by omega
              exact .inr (by rw [h5, hp])
      · have hc2 := dec_f hc2
        obtain rfl : j = 4 := by omega
        refine ⟨K - 1, by omega, n + 1, Z2, f, N, rfl, by omega, by omega, hT, fun p => ?_, h⟩
        rw [hin2 p, hin p, et]
        constructor
        · rintro (⟨k, hk, hne, hj⟩ | hj)
          · exact ⟨k, List.mem_append_left _ hk, hne, hj⟩
          · exact ⟨y, by simp, hq, hj⟩
        · rintro ⟨k, hk, hne, hj⟩
          rcases List.mem_append.1 hk with hk | hk
          · exact .inl ⟨k, hk, hne, hj⟩
          · rw [List.mem_singleton.1 hk] at hj; exact .inr hj
  · have hc := dec_f hc
    obtain rfl : n = L.length := by omega
    rw [List.take_length] at hin
    refine Rets.mono (tDo h) ?_
    rintro _ w1 ⟨rfl, rfl⟩
    refine ⟨_, rfl, Rets.mono (tDs (y := x) hm1 hm2 h) ?_⟩
    clear h
    rintro _ w ⟨rfl, h⟩
    have hno : ∀ i, (plN (mixI s) x (2 ^ md) i : Int) ∉ Z ↔ Sng1 s md L x i := fun i => by
      rw [hin]
      constructor
      · intro hh k hk hne j hj e1
        exact hh ⟨k, hk, hne, j, hj, by rw [e1]⟩
      · rintro hh ⟨k, hk, hne, j, hj, e1⟩
        exact hh k hk hne j hj (by omega)
    refine ⟨_, _, _, _, rfl, fun K2 vs w' => ∃ i : Nat, vs = [.int .i64 (i : Int)] ∧ K2 + i = 4 ∧ (∀ j, j < i → ¬ Sng1 s md L x j) ∧ w' = w, ⟨4, 0, rfl, rfl, fun j hj => absurd hj (by omega), rfl⟩, ?_⟩
    intro K2 w' v35 v36 n14
    intros
    rename_i hI
    obtain ⟨i, hvs, hK2, hni, rfl⟩ := hI
    obtain rfl : n14 = (i : Int) := by simpa using hvs
    refine ⟨fun hc2 => ?_, fun hc2 => ?_⟩
    · have hc2 := dec_t hc2
      have hi : i < 4 := by omega
      refine ⟨by omega, by omega, _, get4 hi (fun i => (plN (mixI s) x (2 ^ md) i : Int)) rfl rfl rfl rfl, ?_⟩
      refine Own.mapGet (d := TypeDesc.int .i64) (kt := 3) (et := 3) (n := N) (f := f) (r := r) (z := .int .i64 0) (mo h) (by kernel_rfl) (by kernel_rfl) (by simp [MapKept.IsKey]) (zeroVr (by kernel_rfl)) ?_
      have hni2 := hno i
      by_cases hpz : (plN (mixI s) x (2 ^ md) i : Int) ∈ Z
      · obtain ⟨z, g1, g2, g3⟩ := (hT _).2 hpz
        refine ⟨z, by rw [g3]; rfl, fun hz => absurd (beq_t hz) (by omega), fun _ => ⟨K2 - 1, by omega, i + 1, by rw [wI64 (by omega) (by omega)]; rfl, by omega, fun j hj => ?_, rfl⟩⟩
        rcases Nat.lt_or_ge j i with hj2 | hj2
        · exact hni j hj2
        · obtain rfl : j = i := by omega
          exact fun hh => hni2.2 hh hpz
      · refine ⟨0, by rw [(hT _).1 hpz]; rfl, fun _ => ⟨⟨true, rfl, fun _ => ⟨i, hi, hni2.1 hpz⟩, fun _ => rfl⟩, md_ h⟩, fun hz => absurd rfl (beq_f hz)⟩
    · have hc2 := dec_f hc2
      exact ⟨⟨false, rfl, fun hh => (by cases hh), fun ⟨j, hj, hh⟩ => absurd hh (hni j (by omega))⟩, md_ h⟩
theorem exApart (hm12 : m ≤ 12) (hL : L.length ≤ 1000) (hm1 : RdI h0 mixQ mixC) (hm2 : RdI h0 twiQ twiC) (hr : RdI h0 q (cs .u64 L)) (h : T3 e w g gs gd a m md s ws ct lim ag h0 G) :
    Rets Tryd.prog 14 #[.pointer (some ⟨g, 0, none⟩), .slice q L.length c] w fun v w' => (∃ b, v = .bool b ∧ (b = true ↔ Apt s m md L)) ∧ T3 e w' g gs gd a m md s ws ct lim ag h0 G := by
  have im : ∀ {w}, T3 e w g gs gd a m md s ws ct lim ag h0 G → Own e w (imm h0 :: tinB g gs gd ct lim ag :: skB gs (a 0) (a 1) (a 2) (a 3) s (2 ^ m) :: dorO gd md (mixI s) ws :: G) := fun h => (Own.sub (h) (by repeat (first | with_reducible exact Sub.nil _ | with_reducible exact Sub.rfl _ | (apply Sub.cons; focus ((repeat (first | with_reducible exact Pick.here | apply Pick.there)); done)) | apply Sub.drop)))
  refine exact_Apart_go _ _ _ _ ⟨fun K vs w => ∃ n : Nat, vs = [.int .i64 (n : Int)] ∧ K + n = L.length ∧ (∀ k ∈ L.take n, Lon s m L k ∧ Sng s md L k) ∧ T3 e w g gs gd a m md s ws ct lim ag h0 G, ⟨L.length, 0, rfl, rfl, fun k hk => (by cases hk), h⟩, ?_⟩
  clear h
  intro K w v1 v2 n1
  intros
  rename_i hI
  obtain ⟨n, hvs, hK, hno, h⟩ := hI
  obtain rfl : n1 = (n : Int) := by simpa using hvs
  refine ⟨fun hc => ?_, fun hc => ?_⟩
  · have hc := dec_t hc
    have hn : n < L.length := by omega
    obtain ⟨y, hy⟩ : ∃ y, y = L[n] := ⟨_, rfl⟩
    have et : L.take (n + 1) = L.take n ++ [y] := by rw [hy]; exact List.take_succ_eq_append_getElem hn
    have ei : IntKind.wrap .i64 ((n : Int) + 1) = ((n + 1 : Nat) : Int) := by rw [wI64 (by omega) (by omega)]; rfl
    have hym : y ∈ L := by rw [hy]; exact List.getElem_mem hn
    rw [ei]
    refine ⟨by omega, hc, (hr _ _ _ (im h)).int (i := n) hn fun p hp => ⟨y, by rw [Int.toNat_natCast, hy]; exact hp, Rets.mono (exLonely (x := y) hm12 hL hm1 hr h) ?_⟩⟩
    clear h
    rintro _ w ⟨⟨b, rfl, hb⟩, h⟩
    refine ⟨_, rfl, fun hz => Rets.mono (exSingle (x := y) hL hm1 hm2 hr h) ?_, fun hz => ⟨⟨false, rfl, fun hh => (by cases hh), fun hh => ?_⟩, h⟩⟩
    · clear h
      rintro _ w ⟨⟨b2, rfl, hb2⟩, h⟩
      refine ⟨_, rfl, fun hz2 => ⟨⟨false, rfl, fun hh => (by cases hh), fun hh => ?_⟩, h⟩, fun hz2 => ⟨K - 1, by omega, n + 1, rfl, by omega, fun k hk => ?_, h⟩⟩
      · have := hb2.2 (hh y hym).2
        rw [this] at hz2; cases hz2
      · rw [et] at hk
        rcases List.mem_append.1 hk with hk | hk
        · exact hno k hk
        · rw [List.mem_singleton.1 hk]; exact ⟨hb.1 (by simpa using hz), hb2.1 (by simpa using hz2)⟩
    · have := hb.2 (hh y hym).1
      rw [this] at hz; cases hz
  · have hc := dec_f hc
    obtain rfl : n = L.length := by omega
    rw [List.take_length] at hno
    exact ⟨⟨true, rfl, fun _ => hno, fun _ => rfl⟩, h⟩
end
section
variable {e w : World} {F : List HP} {s hh : Int} {q q2 : Option Addr} {l c c2 m : Nat} {K : List Int}
theorem rdPlc {i : Nat} (hi : i < 4) (hm12 : m ≤ 12) (hs : M64 s) (h : Own e w F) : Rets Tryd.prog 55 #[.agg #[.slice q l c, .int .i64 ((2 ^ m : Nat) : Int), .int .u64 s], .int .u64 hh, .int .i64 (i : Int)] w fun v w' => v = .int .i64 (plc s (2 ^ m) hh i : Int) ∧ Own e w' F := by
  obtain ⟨p1, p2⟩ := p12 hm12
  have hpl := plc_lt (s := s) (h := hh) (i := i) p1
  have ea : plc s (2 ^ m) hh i = (mixI (skX hh (sdI s i))).toNat % 2 ^ m := rfl
  refine cortadoref11_Place_go _ _ _ _ _ _ _ (h.newR fun g w h => ⟨fun _ => ⟨fun hc => ?_, fun _ => ?_⟩, fun hc => ?_⟩)
  · have := dec_t hc; omega
  · refine ⟨_, Own.ld (g := g) h (by repeat (first | with_reducible exact Pick.here | apply Pick.there)) rfl, ?_⟩
    refine Rets.mono (rfMix (x := IntKind.wrap .u64 (IntKind.wrap .u64 (s + IntKind.wrap .u64 (i : Int)) + 1)) (M64.w _) h) ?_
    clear h
    rintro _ w ⟨rfl, h⟩
    refine ⟨_, rfl, h.drw fun w h => ⟨fun w => Own e w (blk g 37 [.slice q l c, .int .i64 ((2 ^ m : Nat) : Int), .int .u64 s] :: F), h, _, fun w h => Own.ld (g := g) h (by repeat (first | with_reducible exact Pick.here | apply Pick.there)) rfl, ?_⟩⟩
    refine Rets.mono (rfMix (x := skX hh (sdI s i)) (bits_M64 _ _) h) ?_
    clear h
    rintro _ w ⟨rfl, h⟩
    obtain ⟨X, hX⟩ := Int.eq_ofNat_of_zero_le (mixI_M64 (skX hh (sdI s i))).1
    have hXl := (mixI_M64 (skX hh (sdI s i))).2
    rw [hX] at hXl ea ⊢
    rw [Int.toNat_natCast] at ea
    obtain ⟨M, hM⟩ : ∃ M, M = 2 ^ m := ⟨_, rfl⟩
    refine ⟨_, rfl, h, ?_, ?_, h.drop⟩
    · rw [← hM] at p1 p2 ⊢
      rw [wU64' (by omega) (by omega)]; omega
    · rw [← hM] at p1 p2 ea hpl ⊢
      rw [wU64' (n := (M : Int)) (by omega) (by omega), Int.tmod_eq_emod_of_nonneg (by omega), ← Int.natCast_emod, ← ea, wI64 (by omega) (by omega)]
  · have := dec_t hc; omega
theorem rdNewS {n : Int} (h : Own e w F) : Rets Tryd.prog 35 #[.int .i64 n, .int .u64 s] w fun v w' => (∃ q l c m, v = .agg #[.slice q l c, .int .i64 ((2 ^ m : Nat) : Int), .int .u64 s] ∧ pwOk (maxI 1 (minI n 4096)) m) ∧ Own e w' F := by
  have hn : 1 ≤ maxI 1 (minI n 4096) ∧ maxI 1 (minI n 4096) ≤ 4096 := by unfold maxI minI; split <;> split <;> omega
  refine cortadoref11_New_go _ _ (h.newR fun g1 w h => ?_)
  refine Rets.mono (rfPowerS hn h) ?_
  clear h
  rintro _ w ⟨⟨m, rfl, hok⟩, h⟩
  have hm := hok.small hn.2
  obtain ⟨p1, p2⟩ := p12 hm
  refine ⟨_, rfl, h.newR fun g2 w h => Own.stP' (g := g2) h (by repeat (first | with_reducible exact Pick.here | apply Pick.there)) (by simp) (by simp [Value.oneCell']) fun w h => ?_⟩
  simp only [setFrom, List.set_cons_zero, List.set_cons_succ, List.set_nil] at h
  refine ⟨fun k vs w => ∃ (i : Nat) (q' : Option Addr) (c' : Nat) (xs : List Value), vs = [.int .i64 (i : Int)] ∧ k + i = 4 ∧ Own e w (blk g2 37 [.slice q' i c', .int .i64 ((2 ^ m : Nat) : Int), .int .u64 s] :: slO 100 1 q' i c' xs :: blk g1 37 [.slice none 0 0, .int .i64 0, .int .u64 0] :: F), ⟨4, 0, none, 0, [], rfl, rfl, (h.slNil).swap⟩, ?_⟩
  clear h
  rintro k w n2
  intros
  rename_i hI
  obtain ⟨i, q', c', xs, hvs, hk, h⟩ := hI
  obtain rfl : n2 = (i : Int) := by simpa using hvs
  refine ⟨fun hc => ?_, fun hc => ?_⟩
  · have hc := dec_t hc
    refine h.drw fun w h => ⟨fun w => Own e w (blk g2 37 [.slice q' i c', .int .i64 ((2 ^ m : Nat) : Int), .int .u64 s] :: slO 100 1 q' i c' xs :: blk g1 37 [.slice none 0 0, .int .i64 0, .int .u64 0] :: F), h, _, _, _, fun w h => Own.ld (g := g2) h (by repeat (first | with_reducible exact Pick.here | apply Pick.there)) rfl, ?_⟩
    refine h.makeR ⟨by omega, by omega, by omega, by omega⟩ fun g3 w h => ⟨h.drop, h.newR fun g4 w h => ⟨h.drop.drop, ?_⟩⟩
    obtain ⟨u, hu, hu1⟩ : ∃ u, u = Value.slice (some ⟨g3, 0, none⟩) (Int.toNat ((2 ^ m : Nat) : Int)) (Int.toNat ((2 ^ m : Nat) : Int)) ∧ u.oneCell' = true := ⟨_, rfl, rfl⟩
    rw [← hu] at h
    have hsrc : RdC w (some ⟨g4, 0, none⟩) [u] := h.blkRd
    have h : Own e w (slO 100 1 q' i c' xs :: blk g2 37 [.slice q' i c', .int .i64 ((2 ^ m : Nat) : Int), .int .u64 s] :: blk g1 37 [.slice none 0 0, .int .i64 0, .int .u64 0] :: F) := (Own.sub (h) (by repeat (first | with_reducible exact Sub.nil _ | with_reducible exact Sub.rfl _ | (apply Sub.cons; focus ((repeat (first | with_reducible exact Pick.here | apply Pick.there)); done)) | apply Sub.drop)))
    refine Own.append (z := [.slice none 0 0]) (b := 24) (m := 1) h (by kernel_rfl) (by kernel_rfl) (by kernel_rfl) (by kernel_rfl) (by kernel_rfl) (by omega) hsrc rfl (fun v hv => by rw [List.mem_singleton.1 hv]; exact hu1) (by unfold maxLen; omega) (by omega) fun q3 c3 w h _ => ⟨_, _, _, rfl, ?_⟩
    refine Own.stP (g := g2) (k := 0) h (by repeat (first | with_reducible exact Pick.here | apply Pick.there)) (by simp) (by simp [Value.oneCell']) fun w h => ?_
    simp only [setFrom, List.set_cons_zero, List.set_cons_succ, List.set_nil] at h
    exact ⟨k - 1, by omega, i + 1, q3, c3, xs ++ [u], by rw [wI64 (by omega) (by omega)]; rfl, by omega, (Own.sub (h) (by repeat (first | with_reducible exact Sub.nil _ | with_reducible exact Sub.rfl _ | (apply Sub.cons; focus ((repeat (first | with_reducible exact Pick.here | apply Pick.there)); done)) | apply Sub.drop)))⟩
  · have hc := dec_f hc
    obtain rfl : i = 4 := by omega
    refine ⟨_, _, _, _, _, ⟨Own.ld (g := g2) h (by repeat (first | with_reducible exact Pick.here | apply Pick.there)) rfl, Own.ld (g := g2) h (by repeat (first | with_reducible exact Pick.here | apply Pick.there)) rfl, Own.ld (g := g2) h (by repeat (first | with_reducible exact Pick.here | apply Pick.there)) rfl⟩, Own.stP' (g := g1) h (by repeat (first | with_reducible exact Pick.here | apply Pick.there)) (by simp) (by simp [Value.oneCell']) fun w h => ?_⟩
    simp only [setFrom, List.set_cons_zero, List.set_cons_succ, List.set_nil] at h
    exact ⟨_, _, _, _, _, ⟨Own.ld (g := g1) h (by repeat (first | with_reducible exact Pick.here | apply Pick.there)) rfl, Own.ld (g := g1) h (by repeat (first | with_reducible exact Pick.here | apply Pick.there)) rfl, Own.ld (g := g1) h (by repeat (first | with_reducible exact Pick.here | apply Pick.there)) rfl⟩, ⟨_, _, _, m, rfl, hok⟩, h.drop.drop.drop⟩
theorem rdLone (hm12 : m ≤ 12) (hs : M64 s) (hr : ∀ w, Own e w F → RdC w q2 (cs .u64 K)) (hK : K.length ≤ 1000) (h : Own e w F) : Rets Tryd.prog 33 #[.agg #[.slice q l c, .int .i64 ((2 ^ m : Nat) : Int), .int .u64 s], .int .u64 hh, .slice q2 K.length c2] w fun v w' => (∃ b, v = .bool b ∧ (b = true ↔ ∃ i, i < 4 ∧ ∀ k ∈ K, k ≠ hh → plc s (2 ^ m) k i ≠ plc s (2 ^ m) hh i)) ∧ Own e w' F := by
  refine cortadoref11_Lonely_go _ _ _ _ _ _ _ _ _ (h.newR fun g w h => ?_)
  refine ⟨fun z vs w => ∃ i : Nat, vs = [.int .i64 (i : Int)] ∧ z + i = 4 ∧ (∀ j, j < i → ¬ (∀ k ∈ K, k ≠ hh → plc s (2 ^ m) k j ≠ plc s (2 ^ m) hh j)) ∧ Own e w (blk g 37 [.slice q l c, .int .i64 ((2 ^ m : Nat) : Int), .int .u64 s] :: F), ⟨4, 0, rfl, rfl, fun j hj => absurd hj (by omega), h⟩, ?_⟩
  clear h
  rintro z w v1 n1
  intros
  rename_i hI
  obtain ⟨i, hvs, hz, hout, h⟩ := hI
  obtain rfl : n1 = (i : Int) := by simpa using hvs
  refine ⟨fun hc => ?_, fun hc => ⟨⟨false, rfl, fun hx => (by cases hx), fun ⟨j, hj, hh⟩ => absurd hh (hout j (by have := dec_f hc; omega))⟩, h.drop⟩⟩
  have hc := dec_t hc
  have hi : i < 4 := by omega
  refine ⟨fun z vs w => ∃ (n : Nat) (b : Bool), vs = [.bool b, .int .i64 (n : Int)] ∧ z + n = K.length ∧ (b = true ↔ ∀ k ∈ K.take n, k ≠ hh → plc s (2 ^ m) k i ≠ plc s (2 ^ m) hh i) ∧ Own e w (blk g 37 [.slice q l c, .int .i64 ((2 ^ m : Nat) : Int), .int .u64 s] :: F), ⟨K.length, 0, true, rfl, rfl, ⟨fun _ k hk => (by cases hk), fun _ => rfl⟩, h⟩, ?_⟩
  clear h
  rintro z2 w b1 n2
  intros
  rename_i hI
  obtain ⟨n, b, hvs, hz2, hb, h⟩ := hI
  obtain ⟨rfl, rfl⟩ : b1 = b ∧ n2 = (n : Int) := by simpa using hvs
  refine ⟨fun hc2 => ?_, fun hc2 => ⟨fun hb1 => ?_, fun hb1 => ?_⟩⟩
  · have hc2 := dec_t hc2
    have hn : n < K.length := by omega
    obtain ⟨x, hx⟩ : ∃ x, x = K[n] := ⟨_, rfl⟩
    have et : K.take (n + 1) = K.take n ++ [x] := by rw [hx]; exact List.take_succ_eq_append_getElem hn
    have ei : IntKind.wrap .i64 ((n : Int) + 1) = ((n + 1 : Nat) : Int) := by rw [wI64 (by omega) (by omega)]; rfl
    rw [ei]
    obtain ⟨ad, rfl, _⟩ := (hr w h.drop).addr (cs_at hn)
    have rdx : ∀ w, Own e w (blk g 37 [.slice q l c, .int .i64 ((2 ^ m : Nat) : Int), .int .u64 s] :: F) → World.cell? w (ad.add (Int.toNat (n : Int) * 1)) = some (.int .u64 x) := fun w h => by
      obtain ⟨ad', ead, hcell⟩ := (hr w h.drop).addr (cs_at hn)
      cases ead
      rw [Int.toNat_natCast, Nat.mul_one, hx]; exact hcell _ _ (cs_at hn)
    refine h.drw fun w h => ⟨fun w => Own e w (blk g 37 [.slice q l c, .int .i64 ((2 ^ m : Nat) : Int), .int .u64 s] :: F), h, by omega, by omega, smR ⟨x, rdx, fun he => ?_, fun he => ?_⟩⟩
    · have he := bool_ne he
      refine ⟨by omega, by omega, smR ⟨_, _, _, _, _, ⟨fun w h => Own.ld (g := g) h (by repeat (first | with_reducible exact Pick.here | apply Pick.there)) rfl, fun w h => Own.ld (g := g) h (by repeat (first | with_reducible exact Pick.here | apply Pick.there)) rfl, fun w h => Own.ld (g := g) h (by repeat (first | with_reducible exact Pick.here | apply Pick.there)) rfl⟩, x, rdx, _, _, _, _, _, ⟨fun w h => Own.ld (g := g) h (by repeat (first | with_reducible exact Pick.here | apply Pick.there)) rfl, fun w h => Own.ld (g := g) h (by repeat (first | with_reducible exact Pick.here | apply Pick.there)) rfl, fun w h => Own.ld (g := g) h (by repeat (first | with_reducible exact Pick.here | apply Pick.there)) rfl⟩, ?_⟩⟩
      refine Rets.mono (rdPlc (hh := x) hi hm12 hs h) ?_
      clear h
      rintro _ w ⟨rfl, h⟩
      refine ⟨_, rfl, h, ?_⟩
      refine Rets.mono (rdPlc (hh := hh) hi hm12 hs h) ?_
      clear h
      rintro _ w ⟨rfl, h⟩
      refine ⟨_, rfl, fun hq => ?_, fun hq => ?_⟩
      · exact ⟨z2 - 1, by omega, n + 1, false, rfl, by omega, ⟨fun hx => (by cases hx), fun hall => absurd (by have := beq_t hq; omega) (hall x (by rw [et]; simp) he)⟩, h⟩
      · have hq := beq_f hq
        refine ⟨z2 - 1, by omega, n + 1, b1, rfl, by omega, ⟨fun hb1 k hk hne => ?_, fun hall => hb.2 fun k hk hne => hall k (by rw [et]; exact List.mem_append_left _ hk) hne⟩, h⟩
        rw [et] at hk
        rcases List.mem_append.1 hk with hk | hk
        · exact hb.1 hb1 k hk hne
        · rw [List.mem_singleton.1 hk]; omega
    · have he := bool_eq he
      refine ⟨z2 - 1, by omega, n + 1, b1, rfl, by omega, ⟨fun hb1 k hk hne => ?_, fun hall => hb.2 fun k hk hne => hall k (by rw [et]; exact List.mem_append_left _ hk) hne⟩, h⟩
      rw [et] at hk
      rcases List.mem_append.1 hk with hk | hk
      · exact hb.1 hb1 k hk hne
      · rw [List.mem_singleton.1 hk] at hne; exact absurd he hne
  · have hc2 := dec_f hc2
    obtain rfl : n = K.length := by omega
    rw [List.take_length] at hb
    exact ⟨⟨true, rfl, fun _ => ⟨i, hi, hb.1 hb1⟩, fun _ => rfl⟩, h.drop⟩
  · have hc2 := dec_f hc2
    obtain rfl : n = K.length := by omega
    rw [List.take_length] at hb
    refine ⟨z - 1, by omega, i + 1, by rw [wI64 (by omega) (by omega)]; rfl, by omega, fun j hj hall => ?_, h⟩
    rcases Nat.lt_or_ge j i with hj2 | hj2
    · exact hout j hj2 hall
    · obtain rfl : j = i := by omega
      rw [hb.2 hall] at hb1; cases hb1
end
section
variable {e w : World} {F : List HP} {s hh : Int} {q q2 : Option Addr} {c c2 L : Nat} {K : List Int}
theorem rdNew {k : Int} (h : Own e w F) : Rets Tryd.prog 36 #[.int .i64 k, .int .u64 s] w fun v w' => (∃ q' m, v = .agg #[.slice q' (2 ^ m) (2 ^ m), .int .u64 s] ∧ pwOk (keyN k) m) ∧ Own e w' F := by
  refine cortadoref12_New_go _ _ ?_
  unfold cortadoref12_New_m
  have hk := keyN_bd k
  have e1 : IntKind.wrap .i64 (8 * maxI 1 (minI k 4096)) = keyN k := by
    have : 8 * maxI 1 (minI k 4096) = keyN k := rfl
    rw [this, wI64 (by omega) (by omega)]
  rw [e1]
  refine h.newR fun g w h => ?_
  refine Rets.mono (rfPower ⟨by omega, by omega⟩ h) ?_
  rintro _ w ⟨⟨m, rfl, hok⟩, h⟩
  have hm20 := hok.small (by omega)
  obtain ⟨p1, p2⟩ := p20 hm20
  refine ⟨_, rfl, h.makeR ⟨by omega, by omega, by omega, by omega⟩ fun g2 w h => ?_⟩
  rw [Int.toNat_natCast]
  refine Own.stP' (g := g) h (by repeat (first | with_reducible exact Pick.here | apply Pick.there)) (by simp) (by simp [Value.oneCell']) fun w h => ?_
  simp only [setFrom, List.set_cons_zero, List.set_cons_succ, List.set_nil] at h
  exact ⟨_, _, _, _, ⟨Own.ld (g := g) h (by repeat (first | with_reducible exact Pick.here | apply Pick.there)) rfl, Own.ld (g := g) h (by repeat (first | with_reducible exact Pick.here | apply Pick.there)) rfl⟩, ⟨_, m, rfl, hok⟩, h.drop.drop⟩
theorem dnHas (h : Own e w F) : Rets Tryd.prog 30 #[.pointer none, .int .u64 hh] w fun v w' => v = .bool false ∧ Own e w' F :=
  door_nil_Has_go _ ⟨fun _ => ⟨rfl, h⟩, fun hc => (by cases hc)⟩
theorem dnPlaces (h : Own e w F) : Rets Tryd.prog 43 #[.pointer none, .int .u64 hh] w fun v w' => v = .agg #[.int .i64 0, .int .i64 0, .int .i64 0, .int .i64 0] ∧ Own e w' F := by
  refine door_nil_Places_go _ (h.newR fun g w h => ⟨fun _ => ?_, fun hc => (by cases hc)⟩)
  refine ⟨_, _, _, _, ⟨(Own.ld h (by repeat (first | with_reducible exact Pick.here | apply Pick.there)) (by rfl)), (Own.ld h (by repeat (first | with_reducible exact Pick.here | apply Pick.there)) (by rfl)), (Own.ld h (by repeat (first | with_reducible exact Pick.here | apply Pick.there)) (by rfl)), (Own.ld h (by repeat (first | with_reducible exact Pick.here | apply Pick.there)) (by rfl))⟩, Own.stP' h (by repeat (first | with_reducible exact Pick.here | apply Pick.there)) (by simp) (by simp [Value.oneCell']) fun w h => ?_⟩
  simp only [setFrom, List.set_cons_zero, List.set_cons_succ, List.set_nil] at h
  exact ⟨_, _, _, _, ⟨(Own.ld h (by repeat (first | with_reducible exact Pick.here | apply Pick.there)) (by rfl)), (Own.ld h (by repeat (first | with_reducible exact Pick.here | apply Pick.there)) (by rfl)), (Own.ld h (by repeat (first | with_reducible exact Pick.here | apply Pick.there)) (by rfl)), (Own.ld h (by repeat (first | with_reducible exact Pick.here | apply Pick.there)) (by rfl))⟩, rfl, h.drop⟩
theorem rdPlaces {m : Nat} (hm20 : m ≤ 20) (hs : M64 s) (h : Own e w F) : Rets Tryd.prog 56 #[.agg #[.slice q (2 ^ m) c, .int .u64 s], .int .u64 hh] w fun v w' => ∃ q' c', v = .slice q' 4 c' ∧ Own e w' (inB q' 4 c' (plL (mixI s) hh (2 ^ m) 4) :: F) := by
  obtain ⟨p1, p2⟩ := p20 hm20
  refine cortadoref12_Places_go _ _ _ _ _ (h.newR fun g w h => ⟨_, (Own.ld h (by repeat (first | with_reducible exact Pick.here | apply Pick.there)) (by rfl)), ?_⟩)
  refine Rets.mono (rfMix hs h) ?_
  rintro _ w ⟨rfl, h⟩
  refine ⟨_, rfl, ?_⟩
  refine Rets.mono (rfMix (x := xrI hh (mixI s)) (bits_M64 _ _) h) ?_
  rintro _ w ⟨rfl, h⟩
  refine ⟨_, rfl, ?_⟩
  refine Rets.mono (rfTwist (x := xrI hh (mixI s)) (bits_M64 _ _) h) ?_
  rintro _ w ⟨rfl, h⟩
  obtain ⟨d1, d2⟩ := dA_lt (mixI s) hh
  obtain ⟨a, ha⟩ : ∃ a, a = dA (mixI s) hh := ⟨_, rfl⟩
  obtain ⟨X, hX⟩ := Int.eq_ofNat_of_zero_le (twiI_M64 (xrI hh (mixI s))).1
  have hXl : X < 18446744073709551616 := by have h2 := (twiI_M64 (xrI hh (mixI s))).2; rw [hX] at h2; omega
  have eB : dB (mixI s) hh = odN X := by unfold dB; rw [hX, Int.toNat_natCast]
  obtain ⟨bb, hbb⟩ : ∃ b, b = dB (mixI s) hh := ⟨_, rfl⟩
  have hodd := odN_eq X
  rw [← hbb] at eB
  rw [← eB] at hodd
  have em : Int.tmod (X : Int) 2 = ((X % 2 : Nat) : Int) := by rw [Int.tmod_eq_emod_of_nonneg (by omega)]; omega
  have ea : ∀ i, plN (mixI s) hh (2 ^ m) i = (a + i * bb) % 18446744073709551616 % 2 ^ m := fun i => by rw [ha, hbb]; rfl
  rw [hX, ← d1, ← ha]
  rw [← ha] at d2
  clear d1 eB
  refine ⟨_, rfl, by omega, fun vs w => vs = [.int .u64 (bb : Int)] ∧ Own e w (blk g 40 [.slice q (2 ^ m) c, .int .u64 s] :: F), ⟨fun hx => ⟨?_, h⟩, fun hx => ⟨?_, h⟩⟩, ?_⟩
  · have hx := beq_t hx
    rw [em] at hx
    rw [hodd, if_pos (by omega), wU64' (by omega) (by omega)]; rfl
  · have hx := beq_f hx
    rw [em] at hx
    rw [hodd, if_neg (by omega)]
  clear h
  rintro w n5
  intros
  rename_i hI
  obtain ⟨hvs, h⟩ := hI
  obtain rfl : n5 = (bb : Int) := by simpa using hvs
  have hlen : ∀ i, (plL (mixI s) hh (2 ^ m) i).length = 4 := fun i => by simp [plL]
  refine ⟨fun k vs w => ∃ (i : Nat) (q' : Option Addr) (c' : Nat), vs = [.slice q' i c', .int .i64 (i : Int)] ∧ k + i = 4 ∧ Own e w (inB q' i c' ((plL (mixI s) hh (2 ^ m) 4).take i) :: blk g 40 [.slice q (2 ^ m) c, .int .u64 s] :: F), ⟨4, 0, none, 0, rfl, rfl, h.slNil⟩, ?_⟩
  clear h
  rintro k w q1 k3 k4 n6
  intros
  rename_i hI
  obtain ⟨i, q', c', hvs, hk, h⟩ := hI
  obtain ⟨⟨rfl, rfl, rfl⟩, rfl⟩ : (q1 = q' ∧ k3 = i ∧ k4 = c') ∧ n6 = (i : Int) := by simpa using hvs
  refine ⟨fun hc => ?_, fun hc => ?_⟩
  · have hc := dec_t hc
    have hi : k3 < 4 := by omega
    have hpl := plN_lt (s := mixI s) (h := hh) (i := k3) p1
    obtain ⟨M, hM⟩ : ∃ M, M = 2 ^ m := ⟨_, rfl⟩
    have ev : IntKind.wrap .i64 (Int.tmod (IntKind.wrap .u64 ((a : Int) + IntKind.wrap .u64 (IntKind.wrap .u64 (k3 : Int) * (bb : Int)))) (IntKind.wrap .u64 ((2 ^ m : Nat) : Int))) = (plN (mixI s) hh (2 ^ m) k3 : Int) := by
      rw [ea k3] at hpl ⊢
      rw [← hM] at hpl p1 p2 ⊢
      rw [wU64' (n := (k3 : Int)) (by omega) (by omega), wU64' (n := (M : Int)) (by omega) (by omega), show (k3 : Int) * (bb : Int) = ((k3 * bb : Nat) : Int) from (Int.natCast_mul _ _).symm]
      generalize k3 * bb = t at *
      have e2 : IntKind.wrap .u64 ((a : Int) + IntKind.wrap .u64 (t : Int)) = (((a + t) % 18446744073709551616 : Nat) : Int) := by
        rw [wU64, wU64]; omega
      rw [e2, Int.tmod_eq_emod_of_nonneg (by omega), ← Int.natCast_emod, wI64 (by omega) (by omega)]
    refine ⟨_, _, _, Own.ld (g := g) h (by repeat (first | with_reducible exact Pick.here | apply Pick.there)) rfl, ?_, ?_⟩
    · rw [wU64' (by omega) (by omega)]; omega
    rw [ev]
    refine h.newR fun g2 w h => ?_
    have h : Own e w (blk g2 3 (cs .i64 [(plN (mixI s) hh (2 ^ m) k3 : Int)]) :: inB q1 k3 k4 ((plL (mixI s) hh (2 ^ m) 4).take k3) :: blk g 40 [.slice q (2 ^ m) c, .int .u64 s] :: F) := h
    refine put64 (ys := [(plN (mixI s) hh (2 ^ m) k3 : Int)]) h rfl (by omega) fun q3 c3 w h => ⟨_, _, _, rfl, k - 1, by omega, k3 + 1, q3, c3, ?_, by omega, ?_⟩
    · rw [wI64 (by omega) (by omega)]; rfl
    · have e1 : (plL (mixI s) hh (2 ^ m) 4).take (k3 + 1) = (plL (mixI s) hh (2 ^ m) 4).take k3 ++ [(plN (mixI s) hh (2 ^ m) k3 : Int)] := by
        rw [List.take_succ_eq_append_getElem (by rw [hlen]; exact hi)]
        simp [plL, hi]
      rw [e1]; exact h
  · have hc := dec_f hc
    obtain rfl : k3 = 4 := by omega
    rw [List.take_of_length_le (by rw [hlen]; omega)] at h
    exact ⟨_, _, rfl, (Own.sub (h) (by repeat (first | exact Sub.nil _ | exact Sub.rfl _ | (apply Sub.cons; focus ((repeat (first | with_reducible exact Pick.here | apply Pick.there)); done)) | apply Sub.drop)))⟩
theorem plL_get {s h : Int} {M j : Nat} (hj : j < 4) : (plL s h M 4)[j]'(by simp [plL]; exact hj) = (plN s h M j : Int) := by
  simp [plL, hj]
theorem rdLonely {m : Nat} (hm20 : m ≤ 20) (hs : M64 s) (hr : ∀ w, Own e w F → RdC w q2 (cs .u64 K)) (hK : K.length ≤ 1000) (h : Own e w F) : Rets Tryd.prog 34 #[.agg #[.slice q (2 ^ m) c, .int .u64 s], .int .u64 hh, .slice q2 K.length c2] w fun v w' => (∃ b, v = .bool b ∧ (b = true ↔ ∃ i, i < 4 ∧ ∀ k ∈ K, k ≠ hh → ∀ j, j < 4 → plN (mixI s) k (2 ^ m) j ≠ plN (mixI s) hh (2 ^ m) i)) ∧ Own e w' F := by
  have hlen : ∀ k, (plL (mixI s) k (2 ^ m) 4).length = 4 := fun k => by simp [plL]
  refine cortadoref12_Lonely_go _ _ _ _ _ _ _ _ (h.newR fun g w h => ⟨_, _, _, _, ⟨(Own.ld h (by repeat (first | with_reducible exact Pick.here | apply Pick.there)) (by rfl)), (Own.ld h (by repeat (first | with_reducible exact Pick.here | apply Pick.there)) (by rfl))⟩, ?_⟩)
  refine Rets.mono (rdPlaces hm20 hs h) ?_
  clear h
  rintro _ w ⟨qo, co, rfl, h⟩
  have h : Own e w (blk g 40 [.slice q (2 ^ m) c, .int .u64 s] :: inB qo 4 co (plL (mixI s) hh (2 ^ m) 4) :: F) := h.swap
  refine ⟨_, _, _, rfl, fun z vs w => ∃ i : Nat, vs = [.int .i64 (i : Int)] ∧ z + i = 4 ∧ (∀ j, j < i → ¬ (∀ k ∈ K, k ≠ hh → ∀ y, y < 4 → plN (mixI s) k (2 ^ m) y ≠ plN (mixI s) hh (2 ^ m) j)) ∧ Own e w (blk g 40 [.slice q (2 ^ m) c, .int .u64 s] :: inB qo 4 co (plL (mixI s) hh (2 ^ m) 4) :: F), ⟨4, 0, rfl, rfl, fun j hj => absurd hj (by omega), h⟩, ?_⟩
  clear h
  rintro z w v2 n2
  intros
  rename_i hI
  obtain ⟨i, hvs, hz, hout, h⟩ := hI
  obtain rfl : n2 = (i : Int) := by simpa using hvs
  refine ⟨fun hc => ?_, fun hc => ⟨⟨false, rfl, fun hx => (by cases hx), fun ⟨j, hj, hh⟩ => absurd hh (hout j (by have := dec_f hc; omega))⟩, h.drop.drop⟩⟩
  have hc := dec_t hc
  have hi : i < 4 := by omega
  refine ⟨fun z vs w => ∃ (n : Nat) (b : Bool), vs = [.bool b, .int .i64 (n : Int)] ∧ z + n = K.length ∧ (b = true ↔ ∀ k ∈ K.take n, k ≠ hh → ∀ j, j < 4 → plN (mixI s) k (2 ^ m) j ≠ plN (mixI s) hh (2 ^ m) i) ∧ Own e w (blk g 40 [.slice q (2 ^ m) c, .int .u64 s] :: inB qo 4 co (plL (mixI s) hh (2 ^ m) 4) :: F), ⟨K.length, 0, true, rfl, rfl, ⟨fun _ k hk => (by cases hk), fun _ => rfl⟩, h⟩, ?_⟩
  clear h
  rintro z2 w b1 n3
  intros
  rename_i hI
  obtain ⟨n, b, hvs, hz2, hb, h⟩ := hI
  obtain ⟨rfl, rfl⟩ : b1 = b ∧ n3 = (n : Int) := by simpa using hvs
  refine ⟨fun hc2 => ?_, fun hc2 => ⟨fun hb1 => ?_, fun hb1 => ?_⟩⟩
  · have hc2 := dec_t hc2
    have hn : n < K.length := by omega
    obtain ⟨x, hx⟩ : ∃ x, x = K[n] := ⟨_, rfl⟩
    have et : K.take (n + 1) = K.take n ++ [x] := by rw [hx]; exact List.take_succ_eq_append_getElem hn
    have ei : IntKind.wrap .i64 ((n : Int) + 1) = ((n + 1 : Nat) : Int) := by rw [wI64 (by omega) (by omega)]; rfl
    rw [ei]
    refine ⟨by omega, by omega, (hr w h.drop.drop).int (i := n) hn fun a ha => ⟨x, by rw [Int.toNat_natCast, hx]; exact ha, fun he => ?_, fun he => ?_⟩⟩
    · have he := beq_t he
      refine ⟨z2 - 1, by omega, n + 1, b1, rfl, by omega, ⟨fun hb1 k hk hne => ?_, fun hall => hb.2 fun k hk hne => hall k (by rw [et]; exact List.mem_append_left _ hk) hne⟩, h⟩
      rw [et] at hk
      rcases List.mem_append.1 hk with hk | hk
      · exact hb.1 hb1 k hk hne
      · rw [List.mem_singleton.1 hk] at hne; exact absurd he hne
    · have he := beq_f he
      refine h.drw fun w h => ⟨by omega, by omega, (hr w h.drop.drop).int (i := n) hn fun a ha => ⟨_, _, _, _, ⟨(Own.ld h (by repeat (first | with_reducible exact Pick.here | apply Pick.there)) (by rfl)), (Own.ld h (by repeat (first | with_reducible exact Pick.here | apply Pick.there)) (by rfl))⟩, x, by rw [Int.toNat_natCast, hx]; exact ha, ?_⟩⟩
      refine Rets.mono (rdPlaces (hh := x) hm20 hs h) ?_
      clear h
      rintro _ w ⟨qx, cx, rfl, h⟩
      refine ⟨_, _, _, rfl, fun z vs w => ∃ (j : Nat) (b : Bool), vs = [.bool b, .int .i64 (j : Int)] ∧ z + j = 4 ∧ (b = true ↔ b1 = true ∧ ∀ y, y < j → plN (mixI s) x (2 ^ m) y ≠ plN (mixI s) hh (2 ^ m) i) ∧ Own e w (inB qx 4 cx (plL (mixI s) x (2 ^ m) 4) :: blk g 40 [.slice q (2 ^ m) c, .int .u64 s] :: inB qo 4 co (plL (mixI s) hh (2 ^ m) 4) :: F), ⟨4, 0, b1, rfl, rfl, ⟨fun hb => ⟨hb, fun y hy => (by omega)⟩, fun hb => hb.1⟩, h⟩, ?_⟩
      clear h
      rintro z3 w b2 n7
      intros
      rename_i hI
      obtain ⟨j, b', hvs, hz3, hb', h⟩ := hI
      obtain ⟨rfl, rfl⟩ : b2 = b' ∧ n7 = (j : Int) := by simpa using hvs
      refine ⟨fun hc3 => ?_, fun hc3 => ?_⟩
      · have hc3 := dec_t hc3
        have hj : j < 4 := by omega
        have ej : IntKind.wrap .i64 ((j : Int) + 1) = ((j + 1 : Nat) : Int) := by rw [wI64 (by omega) (by omega)]; rfl
        rw [ej]
        refine h.drw fun w h => ⟨by omega, by omega, (Own.rdP (T := 3) (q := qx) h (by repeat (first | with_reducible exact Pick.here | apply Pick.there))).int (i := j) (by rw [hlen]; exact hj) fun a ha => ⟨by omega, by omega, (Own.rdP (T := 3) (q := qo) h (by repeat (first | with_reducible exact Pick.here | apply Pick.there))).int (i := i) (by rw [hlen]; exact hi) fun a2 ha2 => ⟨(plN (mixI s) x (2 ^ m) j : Int), ?_, (plN (mixI s) hh (2 ^ m) i : Int), ?_, fun hq => ?_, fun hq => ?_⟩⟩⟩
        · rw [Int.toNat_natCast, ← plL_get hj]; exact ha
        · rw [Int.toNat_natCast, ← plL_get hi]; exact ha2
        · exact ⟨z3 - 1, by omega, j + 1, false, rfl, by omega, ⟨fun hx => (by cases hx), fun hx => absurd (by have := beq_t hq; omega) (hx.2 j (by omega))⟩, h⟩
        · have hq := beq_f hq
          refine ⟨z3 - 1, by omega, j + 1, b2, rfl, by omega, ⟨fun hb2 => ⟨(hb'.1 hb2).1, fun y hy => ?_⟩, fun hx => hb'.2 ⟨hx.1, fun y hy => hx.2 y (by omega)⟩⟩, h⟩
          by_cases hyj : y = j
          · subst hyj; omega
          · exact (hb'.1 hb2).2 y (by omega)
      · have hc3 := dec_f hc3
        obtain rfl : j = 4 := by omega
        refine ⟨z2 - 1, by omega, n + 1, b2, rfl, by omega, ⟨fun hb2 k hk hne => ?_, fun hall => hb'.2 ⟨hb.2 fun k hk hne => hall k (by rw [et]; exact List.mem_append_left _ hk) hne, hall x (by rw [et]; simp) he⟩⟩, h.drop⟩
        rw [et] at hk
        rcases List.mem_append.1 hk with hk | hk
        · exact hb.1 (hb'.1 hb2).1 k hk hne
        · rw [List.mem_singleton.1 hk]; exact (hb'.1 hb2).2
  · have hc2 := dec_f hc2
    obtain rfl : n = K.length := by omega
    rw [List.take_length] at hb
    exact ⟨⟨true, rfl, fun _ => ⟨i, hi, hb.1 hb1⟩, fun _ => rfl⟩, h.drop.drop⟩
  · have hc2 := dec_f hc2
    obtain rfl : n = K.length := by omega
    rw [List.take_length] at hb
    refine ⟨z - 1, by omega, i + 1, by rw [wI64 (by omega) (by omega)]; rfl, by omega, fun j hj hall => ?_, h⟩
    rcases Nat.lt_or_ge j i with hj2 | hj2
    · exact hout j hj2 hall
    · obtain rfl : j = i := by omega
      rw [hb.2 hall] at hb1; cases hb1
end
/-- A tiny is never below. -/
def Bl (s : Int) (m md : Nat) (lim : Int) (t : Ts) (l : List Int) : Prop := ∀ x, (kn lim x l).2.2 ≤ ((cuG (plc s (2 ^ m) x) t.R 4 : Nat) : Int) ∧ ((kn lim x l).2.1 = true → hasB (mixI s) x (2 ^ md) t.ws = true)
theorem Bl.nil (s : Int) (m md : Nat) (lim : Int) : Bl s m md lim (t0 m md) [] := fun x => ⟨Int.natCast_nonneg _, fun h => by cases h⟩
theorem cu_adR {s y x : Int} {m md : Nat} {R : Nat → List Nat} {ws : List Nat} (hR : rowsOk (2 ^ m) R) : cuG (plc s (2 ^ m) x) R 4 ≤ cuG (plc s (2 ^ m) x) (adR s (2 ^ m) (2 ^ md) R ws y) 4 := by
  have p1 : 0 < 2 ^ m := Nat.pow_pos (by omega)
  unfold adR
  split
  · exact cuG_mono (plc s (2 ^ m) y) (plc s (2 ^ m) x) R (fun i => plc_lt p1) hR 4
  · exact Nat.le_refl _
theorem Bl.next {s y lim : Int} {m md : Nat} {t : Ts} {l : List Int} (h : Bl s m md lim t l) (ok : okT m md lim t) (hl : 1 ≤ lim) (hct : t.ct = Int.tmod (l.length : Int) lim) (hage : lim ≤ t.ct + 1 ↔ Int.tmod ((l.length : Int) + 1) lim = 0) : Bl s m md lim (nxT s m md lim t y) (l ++ [y]) := fun x => by
  obtain ⟨hR, hwl, _, _⟩ := ok
  have p1 : 0 < 2 ^ m := Nat.pow_pos (by omega)
  have p2 : 0 < 2 ^ md := Nat.pow_pos (by omega)
  obtain ⟨h1, h2⟩ := h x
  have hlen := kn_len lim x l
  have hbd := kn_bd lim x l
  rw [kn_snoc]
  generalize kn lim x l = k at h1 h2 hlen hbd ⊢
  obtain ⟨i, b, n⟩ := k
  have hlen : i = l.length := hlen
  subst hlen
  have h1 : n ≤ ((cuG (plc s (2 ^ m) x) t.R 4 : Nat) : Int) := h1
  have h2 : b = true → hasB (mixI s) x (2 ^ md) t.ws = true := h2
  have hbd : 0 ≤ n ∧ n ≤ 15 := hbd
  -- ahead of an age
  have a1 : (if y = x ∧ b = true then minI 15 (n + 1) else n) ≤ ((cuG (plc s (2 ^ m) x) (adR s (2 ^ m) (2 ^ md) t.R t.ws y) 4 : Nat) : Int) := by
    split
    · rename_i hh
      obtain ⟨rfl, hb⟩ := hh
      have e1 : adR s (2 ^ m) (2 ^ md) t.R t.ws y = fun j => ngAdd (t.R j) (plc s (2 ^ m) y j : Int) := by unfold adR; rw [if_pos (h2 hb)]
      rw [e1, cuG_add (plc s (2 ^ m) y) t.R (fun i => plc_lt p1) hR 4]
      generalize cuG (plc s (2 ^ m) y) t.R 4 = C at h1 ⊢
      unfold minI; split <;> omega
    · have := cu_adR (s := s) (y := y) (x := x) (md := md) (ws := t.ws) hR
      generalize cuG (plc s (2 ^ m) x) t.R 4 = C at h1 this
      generalize cuG (plc s (2 ^ m) x) (adR s (2 ^ m) (2 ^ md) t.R t.ws y) 4 = D at this ⊢
      omega
  have a2 : (b || decide (y = x)) = true → hasB (mixI s) x (2 ^ md) (putB (mixI s) y (2 ^ md) t.ws) = true := fun hh => by
    by_cases e : y = x
    · subst e; exact has_put p2 hwl
    · have hb : b = true := by simpa [e] using hh
      exact has_mono p2 hwl (h2 hb)
  unfold kst nxT
  dsimp only
  by_cases hc : lim ≤ t.ct + 1
  · rw [if_pos (hage.1 hc), if_pos hc]
    refine ⟨?_, fun hh => by cases hh⟩
    show (if y = x ∧ b = true then minI 15 (n + 1) else n) / 2 ≤ ((cuG (plc s (2 ^ m) x) (fun j => ngHalve (adR s (2 ^ m) (2 ^ md) t.R t.ws y j)) 4 : Nat) : Int)
    rw [cuG_half (plc s (2 ^ m) x) _ (adR_ok hR) 3]
    generalize cuG (plc s (2 ^ m) x) (adR s (2 ^ m) (2 ^ md) t.R t.ws y) (3 + 1) = D at a1 ⊢
    generalize (if y = x ∧ b = true then minI 15 (n + 1) else n) = N at a1 ⊢
    omega
  · rw [if_neg (fun hh => hc (hage.2 hh)), if_neg hc]
    exact ⟨a1, a2⟩
/-- The estimates themselves. -/
theorem Bl.le {s lim x : Int} {m md : Nat} {t : Ts} {l : List Int} (h : Bl s m md lim t l) : knE (kn lim x l) ≤ ((esN s (2 ^ m) (2 ^ md) t.R t.ws x : Nat) : Int) := by
  obtain ⟨h1, h2⟩ := h x
  unfold knE esN esG
  generalize kn lim x l = k at h1 h2 ⊢
  obtain ⟨i, b, n⟩ := k
  have h1 : n ≤ ((cuG (plc s (2 ^ m) x) t.R 4 : Nat) : Int) := h1
  have h2 : b = true → hasB (mixI s) x (2 ^ md) t.ws = true := h2
  generalize cuG (plc s (2 ^ m) x) t.R 4 = C at h1 ⊢
  dsimp only
  cases b with
  | true => rw [if_pos rfl, if_pos (h2 rfl)]; omega
  | false => rw [if_neg (by simp)]; split <;> omega
section
variable {e w : World} {F : List HP} {s n : Int} {q q1 q2 : Option Addr} {c l1 c1 c2 m md : Nat} {K : List Int}
abbrev t14 (q1 : Option Addr) (l1 c1 m : Nat) (s : Int) (q2 : Option Addr) (md c2 : Nat) (lim : Int) : Value := .agg #[.slice q1 l1 c1, .int .i64 ((2 ^ m : Nat) : Int), .int .u64 s, .slice q2 (2 ^ md) c2, .int .u64 s, .int .i64 0, .int .i64 lim, .int .i64 0, .int .i64 0, .int .u64 s]
theorem r13New (h : Own e w F) : Rets Tryd.prog 16 #[.int .i64 n, .int .u64 s] w fun v w' => (∃ q1 l1 c1 m q2 md c2, v = t14 q1 l1 c1 m s q2 md c2 (maxI 1 (minI n 4096)) ∧ pwOk (maxI 1 (minI (maxI 1 (minI n 4096)) 4096)) m ∧ pwOk (keyN (maxI 1 (minI n 4096))) md) ∧ Own e w' F := by
  refine cortadoref13_New_go _ _ (h.newR fun g w h => Rets.mono (rdNewS h) ?_)
  clear h
  rintro _ w ⟨⟨q1, l1, c1, m, rfl, hok⟩, h⟩
  refine ⟨_, _, _, _, _, rfl, Rets.mono (rdNew h) ?_⟩
  clear h
  rintro _ w ⟨⟨q2, md, rfl, hok2⟩, h⟩
  refine ⟨_, _, _, _, rfl, Own.stP' (g := g) h (by repeat (first | with_reducible exact Pick.here | apply Pick.there)) (by simp) (by simp [Value.oneCell']) fun w h => ?_⟩
  simp only [setFrom, List.set_cons_zero, List.set_cons_succ, List.set_nil] at h
  refine ⟨_, _, _, _, _, _, _, _, _, _, _, _, _, _, ⟨Own.ld (g := g) h (by repeat (first | with_reducible exact Pick.here | apply Pick.there)) rfl, Own.ld (g := g) h (by repeat (first | with_reducible exact Pick.here | apply Pick.there)) rfl, Own.ld (g := g) h (by repeat (first | with_reducible exact Pick.here | apply Pick.there)) rfl, Own.ld (g := g) h (by repeat (first | with_reducible exact Pick.here | apply Pick.there)) rfl, Own.ld (g := g) h (by repeat (first | with_reducible exact Pick.here | apply Pick.there)) rfl, Own.ld (g := g) h (by repeat (first | with_reducible exact Pick.here | apply Pick.there)) rfl, Own.ld (g := g) h (by repeat (first | with_reducible exact Pick.here | apply Pick.there)) rfl, Own.ld (g := g) h (by repeat (first | with_reducible exact Pick.here | apply Pick.there)) rfl, Own.ld (g := g) h (by repeat (first | with_reducible exact Pick.here | apply Pick.there)) rfl, Own.ld (g := g) h (by repeat (first | with_reducible exact Pick.here | apply Pick.there)) rfl⟩, ⟨q1, l1, c1, m, q2, md, _, rfl, hok, hok2⟩, h.drop⟩
theorem r14Apart {lim : Int} (hm12 : m ≤ 12) (hm20 : md ≤ 20) (hs : M64 s) (hK : K.length ≤ 1000) (hr : ∀ w, Own e w F → RdC w q (cs .u64 K)) (h : Own e w F) : Rets Tryd.prog 15 #[t14 q1 l1 c1 m s q2 md c2 lim, .slice q K.length c] w fun v w' => (∃ b, v = .bool b ∧ (b = true ↔ Apt s m md K)) ∧ Own e w' F := by
  refine cortadoref14_Apart_go _ _ _ _ _ _ _ _ _ _ _ _ _ _ _ _ _ (h.newR fun g w h => ?_)
  let S : World → Prop := fun w => Own e w (blk g 42 [.slice q1 l1 c1, .int .i64 ((2 ^ m : Nat) : Int), .int .u64 s, .slice q2 (2 ^ md) c2, .int .u64 s, .int .i64 0, .int .i64 lim, .int .i64 0, .int .i64 0, .int .u64 s] :: F)
  have h : S w := h
  have cl : ∀ {w : World} (j : Nat) {v : Value}, S w → ([.slice q1 l1 c1, .int .i64 ((2 ^ m : Nat) : Int), .int .u64 s, .slice q2 (2 ^ md) c2, .int .u64 s, .int .i64 0, .int .i64 lim, .int .i64 0, .int .i64 0, .int .u64 s] : List Value)[j]? = some v → cellAt w ((⟨g, 0, none⟩ : Addr).add j) v := fun j v h hv => Own.cellAdd (show Own e _ (blk g _ _ :: _) from h) j hv
  refine ⟨fun z vs w => ∃ n : Nat, vs = [.int .i64 (n : Int)] ∧ z + n = K.length ∧ (∀ k ∈ K.take n, Lon s m K k ∧ Sng s md K k) ∧ S w, ⟨K.length, 0, rfl, rfl, fun k hk => (by cases hk), h⟩, ?_⟩
  clear h
  intro z w v1 n1
  intros
  rename_i hI
  obtain ⟨n, hvs, hz, hno, h⟩ := hI
  obtain rfl : n1 = (n : Int) := by simpa using hvs
  refine ⟨fun hc => ?_, fun hc => ?_⟩
  · have hc := dec_t hc
    have hn : n < K.length := by omega
    obtain ⟨y, hy⟩ : ∃ y, y = K[n] := ⟨_, rfl⟩
    have et : K.take (n + 1) = K.take n ++ [y] := by rw [hy]; exact List.take_succ_eq_append_getElem hn
    have ei : IntKind.wrap .i64 ((n : Int) + 1) = ((n + 1 : Nat) : Int) := by rw [wI64 (by omega) (by omega)]; rfl
    have hym : y ∈ K := by rw [hy]; exact List.getElem_mem hn
    rw [ei]
    obtain ⟨ad, rfl, _⟩ := (hr w (show Own e w _ from h).drop).addr (cs_at hn)
    have rdx : ∀ w, S w → World.cell? w (ad.add (Int.toNat (n : Int) * 1)) = some (.int .u64 y) := fun w h => by
      obtain ⟨ad', ead, hcell⟩ := (hr w (show Own e w _ from h).drop).addr (cs_at hn)
      cases ead
      rw [Int.toNat_natCast, Nat.mul_one, hy]; exact hcell _ _ (cs_at hn)
    refine Own.drw (show Own e w _ from h) fun w h => ⟨S, h, by omega, hc, smR ⟨_, _, _, _, _, ⟨fun w h => by rw [addr_add_add]; exact cl 0 h rfl, fun w h => by rw [addr_add_add]; exact cl 1 h rfl, fun w h => by rw [addr_add_add]; exact cl 2 h rfl⟩, y, rdx, ?_⟩⟩
    refine Rets.mono (rdLone (K := K) (hh := y) hm12 hs (fun w h => hr w (show Own e w (_ :: F) from h).drop) hK h) ?_
    clear h
    rintro _ w ⟨⟨b, rfl, hb⟩, h⟩
    refine ⟨_, rfl, h, fun hz1 => ⟨by omega, hc, smR ⟨_, _, _, _, ⟨fun w h => by rw [addr_add_add]; exact cl 3 h rfl, fun w h => by rw [addr_add_add]; exact cl 4 h rfl⟩, y, rdx, ?_⟩⟩, fun hz1 => ⟨⟨false, rfl, fun hh => (by cases hh), fun hh => ?_⟩, h.drop⟩⟩
    · refine Rets.mono (rdLonely (K := K) (hh := y) hm20 hs (fun w h => hr w (show Own e w (_ :: F) from h).drop) hK h) ?_
      clear h
      rintro _ w ⟨⟨b2, rfl, hb2⟩, h⟩
      refine ⟨_, rfl, fun hz2 => ⟨⟨false, rfl, fun hh => (by cases hh), fun hh => ?_⟩, h.drop⟩, fun hz2 => ⟨z - 1, by omega, n + 1, rfl, by omega, fun k hk => ?_, h⟩⟩
      · have := hb2.2 (hh y hym).2
        rw [this] at hz2; cases hz2
      · rw [et] at hk
        rcases List.mem_append.1 hk with hk | hk
        · exact hno k hk
        · rw [List.mem_singleton.1 hk]; exact ⟨hb.1 (by simpa using hz1), hb2.1 (by simpa using hz2)⟩
    · have := hb.2 (hh y hym).1
      rw [this] at hz1; cases hz1
  · have hc := dec_f hc
    obtain rfl : n = K.length := by omega
    rw [List.take_length] at hno
    exact ⟨⟨true, rfl, fun _ => hno, fun _ => rfl⟩, (show Own e w _ from h).drop⟩
end
/-! ### The plain law -/
theorem cuG_row (P : Nat → Nat) (R : Nat → List Nat) : ∀ {k i : Nat}, i < k → cuG P R k ≤ ngGet (R i) (P i : Int)
  | 0, i, h => absurd h (by omega)
  | k + 1, i, h => by
    show min (cuG P R k) (ngGet (R k) (P k : Int)) ≤ _
    rcases Nat.lt_or_ge i k with h1 | h1
    · exact Nat.le_trans (Nat.min_le_left _ _) (cuG_row P R h1)
    · obtain rfl : i = k := by omega
      exact Nat.min_le_right _ _
/-- Where keys are apart: rows and the door tell what came. -/
def Sm (s : Int) (m md : Nat) (lim : Int) (t : Ts) (l L : List Int) : Prop :=
  (∀ x ∈ L, ∀ i, i < 4 → Lon1 s m L x i → ((ngGet (t.R i) (plc s (2 ^ m) x i : Int) : Nat) : Int) = (kn lim x l).2.2) ∧
  ∃ K : List Int, bitsOf (mixI s) (2 ^ md) t.ws K ∧ (∀ k ∈ K, k ∈ L) ∧ ∀ x ∈ L, x ∈ K ↔ (kn lim x l).2.1 = true
theorem Sm.nil (s : Int) (m md : Nat) (lim : Int) (L : List Int) : Sm s m md lim (t0 m md) [] L :=
  ⟨fun x hx i hi _ => by
    show ((ngGet (List.replicate (2 ^ m) 0) _ : Nat) : Int) = 0
    rw [ngGet_zero]; rfl, [], bitsOf.nil _ _ _, fun k hk => (by cases hk), fun x hx => ⟨fun h => (by cases h), fun h => (by cases h)⟩⟩
theorem Sm.has {s lim x : Int} {m md : Nat} {t : Ts} {l L : List Int} (h : Sm s m md lim t l L) (hx : x ∈ L) (hS : Sng s md L x) : hasB (mixI s) x (2 ^ md) t.ws = (kn lim x l).2.1 := by
  obtain ⟨_, K, hK, hKL, hin⟩ := h
  by_cases hxK : x ∈ K
  · rw [hK.has hxK, (hin x hx).1 hxK]
  · obtain ⟨i, hi, hl⟩ := hS
    rw [hK.lonely hi fun k hk j hj => hl k (hKL k hk) (fun e => hxK (by rw [← e]; exact hk)) j hj]
    cases hb : (kn lim x l).2.1 with
    | false => rfl
    | true => exact absurd ((hin x hx).2 hb) hxK
theorem ng_same {ns : List Nat} (h : nbOk ns) {p M : Nat} (hp : p < M) (hl : ns.length = M) {v : Int} (hv : ((ngGet ns (p : Int) : Nat) : Int) = v) : ((ngGet (ngAdd ns (p : Int)) (p : Int) : Nat) : Int) = minI 15 (v + 1) := by
  rw [ngGet_eq h, if_pos ⟨by omega, by omega⟩]
  unfold minI
  split <;> omega
theorem ng_diff {ns : List Nat} {p r : Nat} (h : r ≠ p) {v : Int} (hv : ((ngGet ns (p : Int) : Nat) : Int) = v) : ((ngGet (ngAdd ns (r : Int)) (p : Int) : Nat) : Int) = v := by
  rw [ngGet_ne (by omega)]; exact hv
theorem Sm.pre {s y lim : Int} {m md : Nat} {t : Ts} {l L : List Int} (h : Sm s m md lim t l L) (ok : okT m md lim t) (hy : y ∈ L) (hS : Sng s md L y) : ∀ x ∈ L, ∀ i, i < 4 → Lon1 s m L x i → ((ngGet (adR s (2 ^ m) (2 ^ md) t.R t.ws y i) (plc s (2 ^ m) x i : Int) : Nat) : Int) = if y = x ∧ (kn lim x l).2.1 = true then minI 15 ((kn lim x l).2.2 + 1) else (kn lim x l).2.2 := fun x hx i hi hl => by
  have hby := h.has hy hS
  obtain ⟨hR, hwl, _, _⟩ := ok
  have p1 : 0 < 2 ^ m := Nat.pow_pos (by omega)
  have hv := h.1 x hx i hi hl
  by_cases hb : hasB (mixI s) y (2 ^ md) t.ws = true
  · have ea : adR s (2 ^ m) (2 ^ md) t.R t.ws y i = ngAdd (t.R i) (plc s (2 ^ m) y i : Int) := by unfold adR; rw [if_pos hb]
    rw [ea]
    by_cases e : y = x
    · subst e
      rw [if_pos ⟨rfl, by rw [← hby]; exact hb⟩]
      exact ng_same (hR i).1 (plc_lt p1) (hR i).2 hv
    · rw [if_neg (fun hh => e hh.1)]
      exact ng_diff (hl y hy e) hv
  · have ea : adR s (2 ^ m) (2 ^ md) t.R t.ws y i = t.R i := by unfold adR; rw [if_neg hb]
    rw [ea, if_neg (fun hh => hb (by
      obtain ⟨e, hh⟩ := hh
      subst e; rw [hby]; exact hh))]
    exact hv
theorem Sm.next {s y lim : Int} {m md : Nat} {t : Ts} {l L : List Int} (h : Sm s m md lim t l L) (ok : okT m md lim t) (hy : y ∈ L) (hS : Sng s md L y) (hage : lim ≤ t.ct + 1 ↔ Int.tmod ((l.length : Int) + 1) lim = 0) : Sm s m md lim (nxT s m md lim t y) (l ++ [y]) L := by
  have a1 := h.pre ok hy hS
  obtain ⟨hR, hwl, _, _⟩ := ok
  have p2 : 0 < 2 ^ md := Nat.pow_pos (by omega)
  obtain ⟨h1, K, hK, hKL, hin⟩ := h
  have hlen : ∀ x, (kn lim x l).1 = l.length := fun x => kn_len lim x l
  have ks : ∀ x, (kn lim x (l ++ [y])) = kst lim x (kn lim x l) y := fun x => kn_snoc lim x l y
  unfold nxT
  by_cases hc : lim ≤ t.ct + 1
  · rw [if_pos hc]
    have hm := hage.1 hc
    refine ⟨fun x hx i hi hl => ?_, [], bitsOf.nil _ _ _, fun k hk => (by cases hk), fun x hx => ?_⟩
    · show ((ngGet (ngHalve (adR s (2 ^ m) (2 ^ md) t.R t.ws y i)) (plc s (2 ^ m) x i : Int) : Nat) : Int) = _
      rw [ngGet_half, ks x]
      have ha := a1 x hx i hi hl
      have hll := hlen x
      generalize kn lim x l = k at ha hll ⊢
      obtain ⟨i2, b, n⟩ := k
      have hll : i2 = l.length := hll
      subst hll
      unfold kst
      dsimp only at ha ⊢
      rw [if_pos hm]
      generalize ngGet (adR s (2 ^ m) (2 ^ md) t.R t.ws y i) (plc s (2 ^ m) x i : Int) = A at ha ⊢
      generalize (if y = x ∧ b = true then minI 15 (n + 1) else n) = N at ha ⊢
      show ((A / 2 : Nat) : Int) = N / 2
      clear hl hx a1 hi
      omega
    · rw [ks x]
      have hll := hlen x
      generalize kn lim x l = k at hll ⊢
      obtain ⟨i2, b, n⟩ := k
      have hll : i2 = l.length := hll
      subst hll
      unfold kst
      dsimp only
      rw [if_pos hm]
      exact ⟨fun hh => (by cases hh), fun hh => (by cases hh)⟩
  · rw [if_neg hc]
    have hm : ¬ Int.tmod ((l.length : Int) + 1) lim = 0 := fun hh => hc (hage.2 hh)
    refine ⟨fun x hx i hi hl => ?_, K ++ [y], hK.put p2 hwl y, fun k hk => ?_, fun x hx => ?_⟩
    · have ha := a1 x hx i hi hl
      rw [ks x]
      have hll := hlen x
      generalize kn lim x l = k at ha hll ⊢
      obtain ⟨i2, b, n⟩ := k
      have hll : i2 = l.length := hll
      subst hll
      unfold kst
      dsimp only at ha ⊢
      rw [if_neg hm]
      exact ha
    · rcases List.mem_append.1 hk with hk | hk
      · exact hKL k hk
      · rw [List.mem_singleton.1 hk]; exact hy
    · rw [ks x]
      have hll := hlen x
      have hi2 := hin x hx
      generalize kn lim x l = k at hll hi2 ⊢
      obtain ⟨i2, b, n⟩ := k
      have hll : i2 = l.length := hll
      subst hll
      unfold kst
      dsimp only at hi2 ⊢
      rw [if_neg hm]
      show x ∈ K ++ [y] ↔ (b || decide (y = x)) = true
      rw [List.mem_append, List.mem_singleton, hi2, Bool.or_eq_true, decide_eq_true_eq]
      exact ⟨fun h => h.imp id Eq.symm, fun h => h.imp id Eq.symm⟩
theorem sm_eq_pl {k : Nat × Bool × Int} {C D : Nat} {b : Bool} (hb : b = k.2.1) (hv : (D : Int) = k.2.2) (hle : C ≤ D) (hge : k.2.2 ≤ (C : Int)) : ((esG C b : Nat) : Int) = knE k := by
  obtain ⟨i2, b2, n⟩ := k
  have hb : b = b2 := hb
  subst hb
  have hv : (D : Int) = n := hv
  have hge : n ≤ (C : Int) := hge
  show ((esG C b : Nat) : Int) = n + if b = true then 1 else 0
  unfold esG
  cases b with
  | true => rw [if_pos rfl, if_pos rfl]; omega
  | false => rw [if_neg (by simp), if_neg (by simp)]; omega
theorem Sm.eq {s lim x : Int} {m md : Nat} {t : Ts} {l L : List Int} (h : Sm s m md lim t l L) (hB : Bl s m md lim t l) (hx : x ∈ L) (hA : Lon s m L x ∧ Sng s md L x) : ((esN s (2 ^ m) (2 ^ md) t.R t.ws x : Nat) : Int) = knE (kn lim x l) := by
  obtain ⟨i, hi, hl⟩ := hA.1
  exact sm_eq_pl (h.has hx hA.2) (h.1 x hx i hi hl) (cuG_row (plc s (2 ^ m) x) t.R hi) (hB x).1
section
variable {W : World} {q : Option Addr} {c : Nat} {L : List Int} {n s : Int}
theorem nxT_ct {s lim : Int} {m md : Nat} {t : Ts} {y : Int} : (nxT s m md lim t y).ct = if lim ≤ t.ct + 1 then 0 else t.ct + 1 := by
  unfold nxT; split <;> rfl
theorem half_eq {n : Nat} (h : n ≤ 40) : IntKind.wrap .i64 (Int.tdiv (n : Int) 2) = ((n / 2 : Nat) : Int) := by
  have e : Int.tdiv (n : Int) 2 = ((n / 2 : Nat) : Int) := by rw [Int.tdiv_eq_ediv_of_nonneg (by omega)]; rfl
  rw [e, wI64 (by omega) (by omega)]
theorem beq_bool {a b c : Bool} (ha : a = true ↔ c = true) (hb : b = true ↔ c = true) : (!a == b) = false := by
  cases a <;> cases b <;> cases c <;> simp_all
theorem ExactSame_spec (HL : MixLaid W) (hnw : (Lit.int .i64 n).wf = true) (hsw : (Lit.int .u64 s).wf = true) (hb : RdC W q (cs .u64 L)) (hm : L.length ≤ maxLen) (hc : L.length ≤ c) (hw : ∀ x ∈ L, (Lit.int .u64 x).wf = true) :
    Rets Tryd.prog 4 #[.int .i64 n, .int .u64 s, .slice q L.length c] W fun v w' => v = .bool true ∧ Below W.heap.size W w' := by
  refine Rets.mono (k := fun v w' => v = .bool true ∧ ∃ F, Own W w' (snap W :: F)) ?_ (fun v w' h => ⟨h.1, h.2.elim fun F h => h.below⟩)
  have h := Own.begin W
  rw [snap_imm] at h ⊢
  obtain ⟨hW, ehW⟩ : ∃ hW : Nat → Option Obj, hW = (fun b => W.heap[b]?) := ⟨_, rfl⟩
  have rd1 : ∀ {h1 : Nat → Option Obj} {w F}, LeH hW h1 → Own W w (imm h1 :: F) → RdC w mixQ mixC := fun le h => by rw [ehW] at le; exact Own.snapRd (W := W) (h.immLe le) HL.rd
  have rd2 : ∀ {h1 : Nat → Option Obj} {w F}, LeH hW h1 → Own W w (imm h1 :: F) → RdC w twiQ twiC := fun le h => by rw [ehW] at le; exact Own.snapRd (W := W) (h.immLe le) HL.rd2
  have hrd : ∀ {h1 : Nat → Option Obj} {w F}, LeH hW h1 → Own W w (imm h1 :: F) → RdC w q (cs .u64 L) := fun le h => by rw [ehW] at le; exact Own.snapRd (W := W) (h.immLe le) hb
  have aw : ∀ {h1 : Nat → Option Obj} {w F}, LeH hW h1 → Own W w (imm h1 :: F) → Rets Tryd.prog 5 #[] w fun v w' => ∃ b, v = Value.bool b ∧ (Value.bool b) = .bool true ∧ ∃ F, Own W w' (imm hW :: F) := fun le h => by
    refine Rets.mono (exAwake h) ?_
    rintro _ w ⟨rfl, h⟩
    exact ⟨_, rfl, rfl, _, h.immLe le⟩
  have ri : ∀ {h1 : Nat → Option Obj} {q us}, LeH hW h1 → RdC W q us → RdI h1 q us := fun le hr e w F h => by rw [ehW] at le; exact Own.snapRd (W := W) (h.immLe le) hr
  rw [← ehW] at h ⊢
  clear ehW
  refine cortadolaw14_ExactSame_go _ _ _ _ _ ⟨fun hx => aw (LeH.refl _) h, fun hx => ?_⟩
  have hx := dec_f hx
  refine Rets.mono (tNewT (n := minI n 500) (s := s) (fun w h => rd1 (LeH.refl _) h) h) ?_
  clear h
  rintro _ w ⟨g, m, md, rfl, hpm, hpd, h⟩
  refine ⟨_, rfl, ?_⟩
  refine Rets.mono (exNew (n := minI n 500) h.swap) ?_
  clear h
  rintro _ w ⟨g2, rfl, h1, gu, le1, hU, h⟩
  have hM : M64 s := by
    have := hsw
    simp [Lit.wf, IntKind.min, IntKind.max, IntKind.signed, IntKind.bits] at this
    unfold M64
    omega
  obtain ⟨n2, hn2⟩ : ∃ n2, n2 = minI n 500 := ⟨_, rfl⟩
  rw [← hn2] at h hpm hpd ⊢
  obtain ⟨lim, hlim⟩ : ∃ lim, lim = maxI 1 (minI n2 4096) := ⟨_, rfl⟩
  have hlb : 1 ≤ lim ∧ lim ≤ 4096 := by rw [hlim]; unfold maxI; unfold minI; split <;> split <;> omega
  rw [← hlim] at h
  clear hn2
  have h : Own W w (tinO g m md s (t0 m md).R (t0 m md).ws (t0 m md).ct lim (t0 m md).ag :: imm h1 :: exB g2 gu 0 lim :: []) := (Own.sub (h) (by repeat (first | with_reducible exact Sub.nil _ | with_reducible exact Sub.rfl _ | (apply Sub.cons; focus ((repeat (first | with_reducible exact Pick.here | apply Pick.there)); done)) | apply Sub.drop)))
  obtain ⟨gs, gd, a, ⟨hm12, hm20⟩, h, hcl⟩ := tinO.opn h
  refine ⟨_, rfl, ?_⟩
  refine Rets.mono (exApart (q := q) (c := c) (L := L) hm12 (by omega) (ri le1 HL.rd) (ri le1 HL.rd2) (ri le1 hb) h) ?_
  clear h
  rintro _ w ⟨⟨b, rfl, hbA⟩, h⟩
  have h := hcl _ h
  clear hcl
  have h : Own W w (imm h1 :: exB g2 gu 0 lim :: tinT g m md s lim (t0 m md) :: []) := (Own.sub (h) (by repeat (first | with_reducible exact Sub.nil _ | with_reducible exact Sub.rfl _ | (apply Sub.cons; focus ((repeat (first | with_reducible exact Pick.here | apply Pick.there)); done)) | apply Sub.drop)))
  refine ⟨_, rfl, ?_⟩
  refine Rets.mono (r13New (n := n2) (s := s) h) ?_
  clear h
  rintro _ w ⟨⟨q1, l1, c1, m', q2, md', c2, rfl, hpm', hpd'⟩, h⟩
  obtain rfl : m = m' := Nat.le_antisymm (hpm'.le hpm) (hpm.le hpm')
  obtain rfl : md = md' := Nat.le_antisymm (hpd'.le hpd) (hpd.le hpd')
  refine ⟨_, _, _, _, _, _, _, _, _, _, _, _, _, _, rfl, ?_⟩
  refine Rets.mono (r14Apart (K := L) (q := q) (c := c) hm12 hm20 hM (by omega) (fun w h => hrd le1 h) h) ?_
  clear h
  rintro _ w ⟨⟨b2, rfl, hbA2⟩, h⟩
  have e2 : (!b == b2) = false := by
    cases b <;> cases b2 <;> simp_all
  refine ⟨_, rfl, fun hx2 => (by rw [e2] at hx2; cases hx2), fun _ => ?_⟩
  clear e2 hbA2 hpm hpd hpm' hpd'
  have hlen : L.length ≤ 40 := by omega
  obtain ⟨H, hH⟩ : ∃ H, H = L.length / 2 := ⟨_, rfl⟩
  rw [half_eq hlen, ← hH, Int.toNat_natCast, Nat.sub_zero, slcA0]
  refine ⟨by omega, by omega, by omega, fun k vs w => ∃ (i : Nat) (t : Ts) (u : Tr) (h1 : Nat → Option Obj) (gu : Nat), vs = [.int .i64 (i : Int)] ∧ k + i = H ∧ okT m md lim t ∧ t.ct = Int.tmod (i : Int) lim ∧ Bl s m md lim t (L.take i) ∧ Sm s m md lim t (L.take i) L ∧ Rl lim u (L.take i) ∧ u.size ≤ i ∧ LeH hW h1 ∧ TreeA h1 u gu ∧ Own W w [imm h1, exB g2 gu (Int.tmod (i : Int) lim) lim, tinT g m md s lim t], ⟨H, 0, t0 m md, .nil, h1, gu, rfl, rfl, okT0 hlb.1, by rw [show Int.tmod ((0 : Nat) : Int) lim = 0 from Int.zero_tmod lim]; rfl, Bl.nil s m md lim, Sm.nil s m md lim L, Rl.nil lim, Nat.le_refl _, le1, hU, by rw [show Int.tmod ((0 : Nat) : Int) lim = 0 from Int.zero_tmod lim]; exact h⟩, ?_⟩
  clear h hU le1 hlim
  intro z w v4 n1
  intros
  rename_i hI
  obtain ⟨i, t, u, h1, gu, hvs, hz, ok, hct, B, SM, R, hs, le1, hT, h⟩ := hI
  obtain rfl : n1 = (i : Int) := by simpa using hvs
  refine ⟨fun hc1 => ⟨fun hbt => ?_, fun _ => aw le1 h⟩, fun _ => aw le1 h⟩
  have hc1 := dec_t hc1
  have hA := hbA.1 hbt
  have hiH : i < H := by omega
  have hi : i < L.length := by omega
  have hti : (L.take i).length = i := by simp; omega
  have et : L.take (i + 1) = L.take i ++ [L[i]] := List.take_succ_eq_append_getElem hi
  obtain ⟨c0, c1', c2'⟩ := tmod_step (i := (i : Int)) (by omega) hlb.1 hct
  have R2 := R.next (y := L[i])
  have hage : lim ≤ t.ct + 1 ↔ Int.tmod (((L.take i).length : Int) + 1) lim = 0 := by
    rw [hti, c2']
    split
    · rename_i hh; exact ⟨fun _ => rfl, fun _ => hh⟩
    · rename_i hh; exact ⟨fun h2 => absurd h2 hh, fun h2 => by omega⟩
  have B2 := B.next (y := L[i]) ok hlb.1 (by rw [hti]; exact hct) hage
  have S2 := SM.next (y := L[i]) ok (List.getElem_mem hi) (hA _ (List.getElem_mem hi)).2 hage
  have ok2 := okT_nx (s := s) hlb.1 ok L[i]
  have hct2 : (nxT s m md lim t L[i]).ct = Int.tmod ((i : Int) + 1) lim := by rw [nxT_ct, c2']
  rw [← et] at R2 B2 S2
  refine ⟨by omega, by omega, (hrd le1 h).int hi fun a ha => ⟨_, by rw [Int.toNat_natCast]; exact ha, ?_⟩⟩
  have h : Own W w (tinT g m md s lim t :: imm h1 :: exB g2 gu (Int.tmod (i : Int) lim) lim :: []) := (Own.sub (h) (by repeat (first | with_reducible exact Sub.nil _ | with_reducible exact Sub.rfl _ | (apply Sub.cons; focus ((repeat (first | with_reducible exact Pick.here | apply Pick.there)); done)) | apply Sub.drop)))
  refine Rets.mono (tAddT (hh := L[i]) (fun w h => rd1 le1 h) (fun w h => rd2 le1 h) hlb.2 ok h) ?_
  clear h
  rintro _ w ⟨rfl, h⟩
  obtain ⟨t2, ht2⟩ : ∃ t2, t2 = nxT s m md lim t L[i] := ⟨_, rfl⟩
  rw [← ht2] at h B2 S2 ok2 hct2
  have h : Own W w (imm h1 :: exB g2 gu (Int.tmod (i : Int) lim) lim :: tinT g m md s lim t2 :: []) := (Own.sub (h) (by repeat (first | with_reducible exact Sub.nil _ | with_reducible exact Sub.rfl _ | (apply Sub.cons; focus ((repeat (first | with_reducible exact Pick.here | apply Pick.there)); done)) | apply Sub.drop)))
  refine ⟨rfl, by omega, by omega, (hrd le1 h).int hi fun a ha => ⟨_, by rw [Int.toNat_natCast]; exact ha, ?_⟩⟩
  have hadd := exAddN (y := L[i]) R hlb (by omega) hT (by rw [hti]; exact h)
  rw [hti] at hadd R2
  refine Rets.mono hadd ?_
  clear h hadd
  rintro _ w ⟨rfl, h3, gw, le3, hT3, h⟩
  have hs3 : (nxE lim i L[i] u).size ≤ i + 1 := nxE_size hs
  obtain ⟨u2, hu⟩ : ∃ u2, u2 = nxE lim i L[i] u := ⟨_, rfl⟩
  rw [← hu] at R2 hT3 hs3
  have le4 : LeH hW h3 := LeH.trans le1 le3
  have ei : IntKind.wrap .i64 ((i : Int) + 1) = ((i + 1 : Nat) : Int) := by rw [wI64 (by omega) (by omega)]; rfl
  rw [ei]
  have ec : Int.tmod ((i : Int) + 1) lim = Int.tmod ((i + 1 : Nat) : Int) lim := rfl
  rw [ec] at h hct2
  clear hu ht2 c2' ec hage B SM R hct ok
  let S : World → Prop := fun w => Own W w [imm h3, exB g2 gw (Int.tmod ((i + 1 : Nat) : Int) lim) lim, tinT g m md s lim t2]
  have h : S w := h
  refine ⟨rfl, fun k vs w => ∃ x : Nat, vs = [.int .i64 (x : Int)] ∧ k + x = L.length ∧ S w, ⟨L.length, 0, rfl, rfl, h⟩, ?_⟩
  clear h
  intro z2 w v45 n4
  intros
  rename_i hI
  obtain ⟨x, hvs, hz2, h⟩ := hI
  obtain rfl : n4 = (x : Int) := by simpa using hvs
  refine ⟨fun hc2 => ?_, fun hc2 => ?_⟩
  · have hc2 := dec_t hc2
    have hxl : x < L.length := by omega
    have hat : (cs .u64 L)[x]? = some (.int .u64 L[x]) := by simp [cs, hxl]
    obtain ⟨ad, eq, _⟩ := (hrd le4 (show Own W w (imm h3 :: _) from h)).addr hat
    have hdr : ∀ w, S w → cellAt w (ad.add (Int.toNat (x : Int) * 1)) (.int .u64 L[x]) := fun w h => by
      obtain ⟨ad', ead, hcell⟩ := (hrd le4 (show Own W w (imm h3 :: _) from h)).addr hat
      rw [eq] at ead
      cases ead
      rw [Int.toNat_natCast, Nat.mul_one]
      exact hcell _ _ hat
    rw [eq]
    refine Own.drw (show Own W w _ from h) fun w h => ⟨S, h, by omega, by omega, smR ⟨by omega, by omega, smR ⟨_, fun w h => hdr w h, _, fun w h => hdr w h, ?_⟩⟩⟩
    have h : Own W w (tinT g m md s lim t2 :: imm h3 :: exB g2 gw (Int.tmod ((i + 1 : Nat) : Int) lim) lim :: []) := (Own.sub (h) (by repeat (first | with_reducible exact Sub.nil _ | with_reducible exact Sub.rfl _ | (apply Sub.cons; focus ((repeat (first | with_reducible exact Pick.here | apply Pick.there)); done)) | apply Sub.drop)))
    refine Rets.mono (tEst (hh := L[x]) (fun w h => rd1 le4 h) (fun w h => rd2 le4 h) h) ?_
    clear h
    rintro _ w ⟨rfl, h⟩
    have h : S w := by
      have h : Own W w (imm h3 :: exB g2 gw (Int.tmod ((i + 1 : Nat) : Int) lim) lim :: tinT g m md s lim t2 :: []) := (Own.sub (h) (by repeat (first | with_reducible exact Sub.nil _ | with_reducible exact Sub.rfl _ | (apply Sub.cons; focus ((repeat (first | with_reducible exact Pick.here | apply Pick.there)); done)) | apply Sub.drop)))
      exact h
    refine ⟨_, rfl, h, ?_⟩
    refine Rets.mono (exEstN (x := L[x]) R2 (by omega) hT3 h) ?_
    clear h
    rintro _ w ⟨rfl, h⟩
    have heq := S2.eq B2 (List.getElem_mem hxl) (hA _ (List.getElem_mem hxl))
    generalize knE (kn lim L[x] (L.take (i + 1))) = E at heq ⊢
    generalize ((esN s (2 ^ m) (2 ^ md) t2.R t2.ws L[x] : Nat) : Int) = E2 at heq ⊢
    exact ⟨_, rfl, fun hq => absurd heq (bool_ne hq), fun _ => ⟨z2 - 1, by omega, x + 1, by rw [wI64 (by omega) (by omega)]; rfl, by omega, h⟩⟩
  · exact ⟨z - 1, by omega, i + 1, t2, u2, h3, gw, rfl, by omega, ok2, hct2, B2, S2, R2, hs3, le4, hT3, h⟩
end
end Go.Proofs.YtjdbeopgmpbikaaDoor.Eng
