/- Scripts: which are the same, which are right, told both ways; how many calls; which are few. -/
import Derived.Test.YtppmdifhoejhjaaScrQ
import Derived.Test.YtppmdifhoejhjaaProY
import Derived.Test.YtppmdifhoejhjaaScbG
namespace Go.Proofs.Ytppmdifhoejhjaa.Eng
open Go Go.RowKit Go.Proofs
set_option linter.unusedVariables false
set_option linter.unusedSimpArgs false
set_option maxRecDepth 1000000
theorem take_eq_succ {α : Type} {l1 l2 : List α} {i : Nat} (h1 : i < l1.length) (h2 : i < l2.length) (h : l1.take i = l2.take i) (he : l1[i] = l2[i]) : l1.take (i + 1) = l2.take (i + 1) := by
  rw [List.take_succ_eq_append_getElem h1, List.take_succ_eq_append_getElem h2, h, he]
theorem take_ne {α : Type} {l1 l2 : List α} {i : Nat} (h1 : i < l1.length) (h2 : i < l2.length) (he : l1[i] ≠ l2[i]) : l1 ≠ l2 := fun h => he (by subst h; rfl)
theorem op5_eq (x y : Op5) : (x.1 == y.1 && (x.2.1 == y.2.1 && (x.2.2.1 == y.2.2.1 && (x.2.2.2.1 == y.2.2.2.1 && x.2.2.2.2 == y.2.2.2.2)))) = decide (x = y) := by
  rw [Bool.eq_iff_iff]
  obtain ⟨a, b, c, d, e⟩ := x
  obtain ⟨a', b', c', d', e'⟩ := y
  simp
/-- A script, as it stands. -/
structure ScT where
  c0 : Int
  c1 : Int
  c2 : Int
  c3 : Int
  c4 : Int
  q : Option Addr
  d : Nat
  ms : List (Sl Op5)
  q2 : Option Addr
  d2 : Nat
  PK : List Int
  q3 : Option Addr
  d3 : Nat
  DS : List Int
abbrev ScT.cs (x : ScT) : List Value := [.int .i64 x.c0, .int .i64 x.c1, .int .i64 x.c2, .int .i64 x.c3, .int .i64 x.c4, .slice x.q x.ms.length x.d, .slice x.q2 x.PK.length x.d2, .slice x.q3 x.DS.length x.d3]
abbrev ScT.v (x : ScT) : Value := .agg #[.int .i64 x.c0, .int .i64 x.c1, .int .i64 x.c2, .int .i64 x.c3, .int .i64 x.c4, .slice x.q x.ms.length x.d, .slice x.q2 x.PK.length x.d2, .slice x.q3 x.DS.length x.d3]
abbrev ScT.pl (x : ScT) : List (List Op5) := x.ms.map fun m => m.2.2
structure ScRd (e : World) (F : List HP) (x : ScT) : Prop where
  rd : ∀ w, Own e w F → RdC w x.q (x.ms.map Sl.v)
  rdi : ∀ w, Own e w F → ∀ y ∈ x.ms, RdC w y.1 (y.2.2.flatMap encO)
  rd2 : ∀ w, Own e w F → RdC w x.q2 (cs .i64 x.PK)
  rd3 : ∀ w, Own e w F → RdC w x.q3 (cs .i64 x.DS)
theorem ScRd.cons {e : World} {F : List HP} {x : ScT} {A : HP} (h : ScRd e F x) : ScRd e (A :: F) x := ⟨fun w o => h.rd w o.drop, fun w o => h.rdi w o.drop, fun w o => h.rd2 w o.drop, fun w o => h.rd3 w o.drop⟩
def ScT.few (x : ScT) : Prop := (∀ m ∈ x.ms, m.2.2.length ≤ 30) ∧ x.ms.length ≤ 9 ∧ x.PK.length ≤ 5000 ∧ x.DS.length ≤ 300
def ScT.near (x : ScT) : Prop := nearP x.c0 x.c1 x.c2 x.c3 x.c4
def ScT.right (x : ScT) : Prop := x.near ∧ x.ms.length ≤ 6 ∧ x.PK.length ≤ 4096 ∧ x.DS.length ≤ 255 ∧ (∀ m ∈ x.ms, fineB m.2.2 = true) ∧ ∀ n ∈ x.PK, 0 ≤ n ∧ n < 256
def ScT.conf (x : ScT) : List Int := [x.c0, x.c1, x.c2, x.c3, x.c4]
def ScT.same (x y : ScT) : Prop := x.conf = y.conf ∧ x.pl = y.pl ∧ x.PK = y.PK ∧ x.DS = y.DS
theorem eq5' (a b c d e a' b' c' d' e' : Int) : (a == a' && (b == b' && (c == c' && (d == d' && e == e')))) = decide ([a, b, c, d, e] = [a', b', c', d', e']) := by
  rw [Bool.eq_iff_iff]; simp
section
variable {e w : World} {F : List HP} {q q2 : Option Addr} {d d2 : Nat}
theorem eq_cortadoref18_numbers {xs ys : List Int} (h : Own e w F) (hr : ∀ w, Own e w F → RdC w q (cs .i64 xs)) (hr2 : ∀ w, Own e w F → RdC w q2 (cs .i64 ys)) (hl : xs.length ≤ 1000000) : Rets Try.prog 31 #[.slice q xs.length d, .slice q2 ys.length d2] w fun v w' => (∃ b, v = .bool b ∧ (b = true ↔ xs = ys)) ∧ Own e w' F := by
  refine cortadoref18_numbers_go _ _ _ _ _ _ ⟨fun hc => ⟨⟨false, rfl, fun hh => (by cases hh), fun hh => absurd (by rw [hh]) (bool_ne hc)⟩, h⟩, fun hc => ?_⟩
  have hll := bool_eq hc
  have hll : xs.length = ys.length := by omega
  clear hc
  refine ⟨fun m vs w => ∃ i : Nat, vs = [.int .i64 (i : Int)] ∧ m + i = xs.length ∧ xs.take i = ys.take i ∧ Own e w F, ⟨xs.length, 0, rfl, rfl, rfl, h⟩, ?_⟩
  clear h
  intro m w v1 n1
  intros
  rename_i hI
  obtain ⟨i, hvs, hm, htk, h⟩ := hI
  obtain rfl : n1 = (i : Int) := by simpa using hvs
  refine ⟨fun hc => ?_, fun hc => ?_⟩
  · have hc := dec_t hc
    have hi : i < xs.length := by omega
    have hi2 : i < ys.length := by omega
    refine h.drw fun w h => ⟨by omega, by omega, (hr w h).int (i := i) hi fun a ha => ⟨by omega, by omega, (hr2 w h).int (i := i) hi2 fun a2 ha2 => ⟨_, by rw [Int.toNat_natCast]; exact ha, _, by rw [Int.toNat_natCast]; exact ha2, fun hc => ⟨⟨false, rfl, fun hh => (by cases hh), fun hh => absurd hh (take_ne hi hi2 (bool_ne hc))⟩, h⟩, fun hc => ⟨m - 1, by omega, i + 1, ?_, by omega, take_eq_succ hi hi2 htk (bool_eq hc), h⟩⟩⟩⟩
    rw [wI64 (by omega) (by omega)]; rfl
  · have hc := dec_f hc
    obtain rfl : i = xs.length := by omega
    rw [List.take_length, hll, List.take_length] at htk
    exact ⟨⟨true, rfl, fun _ => htk, fun _ => rfl⟩, h⟩
theorem eq_ints_Equal {xs ys : List Int} (h : Own e w F) (hr : ∀ w, Own e w F → RdC w q (cs .i64 xs)) (hr2 : ∀ w, Own e w F → RdC w q2 (cs .i64 ys)) (hl : xs.length ≤ 1000000) : Rets Try.prog 29 #[.slice q xs.length d, .slice q2 ys.length d2] w fun v w' => (∃ b, v = .bool b ∧ (b = true ↔ xs = ys)) ∧ Own e w' F := by
  refine ints_Equal_go _ _ _ _ _ _ ⟨fun hc => ⟨⟨false, rfl, fun hh => (by cases hh), fun hh => absurd (by rw [hh]) (bool_ne hc)⟩, h⟩, fun hc => ?_⟩
  have hll := bool_eq hc
  have hll : xs.length = ys.length := by omega
  clear hc
  refine ⟨fun m vs w => ∃ i : Nat, vs = [.int .i64 (i : Int)] ∧ m + i = xs.length ∧ xs.take i = ys.take i ∧ Own e w F, ⟨xs.length, 0, rfl, rfl, rfl, h⟩, ?_⟩
  clear h
  intro m w v1 v2 n1
  intros
  rename_i hI
  obtain ⟨i, hvs, hm, htk, h⟩ := hI
  obtain rfl : n1 = (i : Int) := by simpa using hvs
  refine ⟨fun hc => ?_, fun hc => ?_⟩
  · have hc := dec_t hc
    have hi : i < xs.length := by omega
    have hi2 : i < ys.length := by omega
    refine h.drw fun w h => ⟨by omega, by omega, (hr w h).int (i := i) hi fun a ha => ⟨by omega, by omega, (hr2 w h).int (i := i) hi2 fun a2 ha2 => ⟨_, by rw [Int.toNat_natCast]; exact ha, _, by rw [Int.toNat_natCast]; exact ha2, fun hc => ⟨⟨false, rfl, fun hh => (by cases hh), fun hh => absurd hh (take_ne hi hi2 (bool_ne hc))⟩, h⟩, fun hc => ⟨m - 1, by omega, i + 1, ?_, by omega, take_eq_succ hi hi2 htk (bool_eq hc), h⟩⟩⟩⟩
    rw [wI64 (by omega) (by omega)]; rfl
  · have hc := dec_f hc
    obtain rfl : i = xs.length := by omega
    rw [List.take_length, hll, List.take_length] at htk
    exact ⟨⟨true, rfl, fun _ => htk, fun _ => rfl⟩, h⟩
theorem eq_cortadoref17_Same {xs ys : List Op5} (h : Own e w F) (hr : ∀ w, Own e w F → RdC w q (xs.flatMap encO)) (hr2 : ∀ w, Own e w F → RdC w q2 (ys.flatMap encO)) (hl : xs.length ≤ 1000000) : Rets Try.prog 30 #[.slice q xs.length d, .slice q2 ys.length d2] w fun v w' => (∃ b, v = .bool b ∧ (b = true ↔ xs = ys)) ∧ Own e w' F := by
  refine cortadoref17_Same_go _ _ _ _ _ _ ⟨fun hc => ⟨⟨false, rfl, fun hh => (by cases hh), fun hh => absurd (by rw [hh]) (bool_ne hc)⟩, h⟩, fun hc => ?_⟩
  have hll := bool_eq hc
  have hll : xs.length = ys.length := by omega
  clear hc
  refine ⟨fun m vs w => ∃ i : Nat, vs = [.int .i64 (i : Int)] ∧ m + i = xs.length ∧ xs.take i = ys.take i ∧ Own e w F, ⟨xs.length, 0, rfl, rfl, rfl, h⟩, ?_⟩
  clear h
  intro m w v1 n1
  intros
  rename_i hI
  obtain ⟨i, hvs, hm, htk, h⟩ := hI
  obtain rfl : n1 = (i : Int) := by simpa using hvs
  refine ⟨fun hc => ?_, fun hc => ?_⟩
  · have hc := dec_t hc
    have hi : i < xs.length := by omega
    have hi2 : i < ys.length := by omega
    refine h.drw fun w h => ?_
    obtain ⟨ad, rfl, hcell⟩ := RdC.rec encO_len (hr w h) hi (by omega)
    obtain ⟨ad2, rfl, hcell2⟩ := RdC.rec encO_len (hr2 w h) hi2 (by omega)
    refine ⟨by omega, by omega, smR ⟨by omega, by omega, smR ⟨_, _, _, _, _, ⟨hcell i hi 0 _ rfl, hcell i hi 1 _ rfl, hcell i hi 2 _ rfl, hcell i hi 3 _ rfl, hcell i hi 4 _ rfl⟩, _, _, _, _, _, ⟨hcell2 i hi2 0 _ rfl, hcell2 i hi2 1 _ rfl, hcell2 i hi2 2 _ rfl, hcell2 i hi2 3 _ rfl, hcell2 i hi2 4 _ rfl⟩, ?_⟩⟩⟩
    rw [op5_eq]
    refine ⟨fun hc => ⟨⟨false, rfl, fun hh => (by cases hh), fun hh => absurd hh (take_ne hi hi2 (by simpa using hc))⟩, h⟩, fun hc => ⟨m - 1, by omega, i + 1, ?_, by omega, take_eq_succ hi hi2 htk (by simpa using hc), h⟩⟩
    rw [wI64 (by omega) (by omega)]; rfl
  · have hc := dec_f hc
    obtain rfl : i = xs.length := by omega
    rw [List.take_length, hll, List.take_length] at htk
    exact ⟨⟨true, rfl, fun _ => htk, fun _ => rfl⟩, h⟩
theorem eq_ops_Equal {xs ys : List Op5} (h : Own e w F) (hr : ∀ w, Own e w F → RdC w q (xs.flatMap encO)) (hr2 : ∀ w, Own e w F → RdC w q2 (ys.flatMap encO)) (hl : xs.length ≤ 1000000) : Rets Try.prog 28 #[.slice q xs.length d, .slice q2 ys.length d2] w fun v w' => (∃ b, v = .bool b ∧ (b = true ↔ xs = ys)) ∧ Own e w' F := by
  refine ops_Equal_go _ _ _ _ _ _ ⟨fun hc => ⟨⟨false, rfl, fun hh => (by cases hh), fun hh => absurd (by rw [hh]) (bool_ne hc)⟩, h⟩, fun hc => ?_⟩
  have hll := bool_eq hc
  have hll : xs.length = ys.length := by omega
  clear hc
  refine ⟨fun m vs w => ∃ i : Nat, vs = [.int .i64 (i : Int)] ∧ m + i = xs.length ∧ xs.take i = ys.take i ∧ Own e w F, ⟨xs.length, 0, rfl, rfl, rfl, h⟩, ?_⟩
  clear h
  intro m w v1 v2 n1
  intros
  rename_i hI
  obtain ⟨i, hvs, hm, htk, h⟩ := hI
  obtain rfl : n1 = (i : Int) := by simpa using hvs
  refine ⟨fun hc => ?_, fun hc => ?_⟩
  · have hc := dec_t hc
    have hi : i < xs.length := by omega
    have hi2 : i < ys.length := by omega
    refine h.drw fun w h => ?_
    obtain ⟨ad, rfl, hcell⟩ := RdC.rec encO_len (hr w h) hi (by omega)
    obtain ⟨ad2, rfl, hcell2⟩ := RdC.rec encO_len (hr2 w h) hi2 (by omega)
    refine ⟨by omega, by omega, smR ⟨by omega, by omega, smR ⟨_, _, _, _, _, ⟨hcell i hi 0 _ rfl, hcell i hi 1 _ rfl, hcell i hi 2 _ rfl, hcell i hi 3 _ rfl, hcell i hi 4 _ rfl⟩, _, _, _, _, _, ⟨hcell2 i hi2 0 _ rfl, hcell2 i hi2 1 _ rfl, hcell2 i hi2 2 _ rfl, hcell2 i hi2 3 _ rfl, hcell2 i hi2 4 _ rfl⟩, ?_⟩⟩⟩
    rw [op5_eq]
    refine ⟨fun hc => ⟨⟨false, rfl, fun hh => (by cases hh), fun hh => absurd hh (take_ne hi hi2 (by simpa using hc))⟩, h⟩, fun hc => ⟨m - 1, by omega, i + 1, ?_, by omega, take_eq_succ hi hi2 htk (by simpa using hc), h⟩⟩
    rw [wI64 (by omega) (by omega)]; rfl
  · have hc := dec_f hc
    obtain rfl : i = xs.length := by omega
    rw [List.take_length, hll, List.take_length] at htk
    exact ⟨⟨true, rfl, fun _ => htk, fun _ => rfl⟩, h⟩
theorem pl_at {ms : List (Sl Op5)} {i : Nat} (hi : i < ms.length) : (ms.map fun m => m.2.2)[i]'(by simpa using hi) = ms[i].2.2 := by simp
theorem prsEqual {ms ns : List (Sl Op5)} (hl : ms.length ≤ 1000) (hll : ∀ m ∈ ms, m.2.2.length ≤ 1000) (h : Own e w F) (hA : ∀ w, Own e w F → RdC w q (ms.map Sl.v)) (hAi : ∀ w, Own e w F → ∀ x ∈ ms, RdC w x.1 (x.2.2.flatMap encO)) (hB : ∀ w, Own e w F → RdC w q2 (ns.map Sl.v)) (hBi : ∀ w, Own e w F → ∀ x ∈ ns, RdC w x.1 (x.2.2.flatMap encO)) :
    Rets Try.prog 27 #[.slice q ms.length d, .slice q2 ns.length d2, .func (.func 28) #[] #[]] w fun v w' => (∃ b, v = .bool b ∧ (b = true ↔ (ms.map fun m => m.2.2) = ns.map fun m => m.2.2)) ∧ Own e w' F := by
  refine prs_Equal_go _ _ _ _ _ _ ⟨fun hc => ⟨⟨false, rfl, fun hh => (by cases hh), fun hh => absurd (by have := congrArg List.length hh; simpa using this) (fun hz : ms.length = ns.length => bool_ne hc (by rw [hz]))⟩, h⟩, fun hc => ?_⟩
  have hnn := bool_eq hc
  have hnn : ms.length = ns.length := by omega
  clear hc
  refine ⟨fun m vs w => ∃ i : Nat, vs = [.int .i64 (i : Int)] ∧ m + i = ms.length ∧ (ms.map fun m => m.2.2).take i = (ns.map fun m => m.2.2).take i ∧ Own e w F, ⟨ms.length, 0, rfl, rfl, rfl, h⟩, ?_⟩
  clear h
  intro m w v1 v2 v3 v4 n1
  intros
  rename_i hI
  obtain ⟨i, hvs, hm, htk, h⟩ := hI
  obtain rfl : n1 = (i : Int) := by simpa using hvs
  refine ⟨fun hc => ?_, fun hc => ?_⟩
  · have hc := dec_t hc
    have hi : i < ms.length := by omega
    have hi2 : i < ns.length := by omega
    refine ⟨by omega, by omega, RdC.mp (f := Sl.v) (hA w h) hi fun a ha => ⟨ms[i].1, ms[i].2.2.length, ms[i].2.1, by rw [Int.toNat_natCast]; exact ha, by omega, by omega, RdC.mp (f := Sl.v) (hB w h) hi2 fun a2 ha2 => ⟨ns[i].1, ns[i].2.2.length, ns[i].2.1, by rw [Int.toNat_natCast]; exact ha2, ?_⟩⟩⟩
    refine Rets.mono (eq_ops_Equal h (fun w h => hAi w h _ (List.getElem_mem hi)) (fun w h => hBi w h _ (List.getElem_mem hi2)) (by have := hll _ (List.getElem_mem hi); omega)) ?_
    clear h
    rintro _ w ⟨⟨b, rfl, hb⟩, h⟩
    refine ⟨_, rfl, fun hc => ⟨⟨false, rfl, fun hh => (by cases hh), fun hh => ?_⟩, h⟩, fun hc => ⟨m - 1, by omega, i + 1, by rw [wI64 (by omega) (by omega)]; rfl, by omega, ?_, h⟩⟩
    · have h1 : (ms.map fun m => m.2.2)[i]'(by simpa using hi) = (ns.map fun m => m.2.2)[i]'(by simpa using hi2) := by simp only [hh]
      rw [pl_at hi, pl_at hi2] at h1
      rw [hb.2 h1] at hc; cases hc
    · refine take_eq_succ (by simpa using hi) (by simpa using hi2) htk ?_
      rw [pl_at hi, pl_at hi2]
      exact hb.1 (by simpa using hc)
  · have hc := dec_f hc
    obtain rfl : i = ms.length := by omega
    have e1 : (ms.map fun m => m.2.2).take ms.length = ms.map fun m => m.2.2 := by rw [← List.length_map (f := fun m : Sl Op5 => m.2.2), List.take_length]
    have e2 : (ns.map fun m => m.2.2).take ms.length = ns.map fun m => m.2.2 := by rw [hnn, ← List.length_map (f := fun m : Sl Op5 => m.2.2), List.take_length]
    rw [e1, e2] at htk
    exact ⟨⟨true, rfl, fun _ => htk, fun _ => rfl⟩, h⟩
theorem scSame {x y : ScT} (fx : x.few) (rx : ScRd e F x) (ry : ScRd e F y) (h : Own e w F) : Rets Try.prog 12 #[x.v, y.v] w fun v w' => (∃ b, v = .bool b ∧ (b = true ↔ x.same y)) ∧ Own e w' F := by
  obtain ⟨f1, f2, f3, f4⟩ := fx
  refine script_Same_go _ _ _ _ _ _ _ _ _ _ _ _ _ _ _ _ _ _ _ _ _ _ _ _ _ _ _ _ ?_
  unfold script_Same_m
  refine h.newR fun a1 w h => h.newR fun a2 w h => ?_
  simp only [addr_add_add, Nat.zero_add]
  have h : Own e w (blk a2 27 y.cs :: blk a1 27 x.cs :: F) := h
  have rx := rx.cons (A := blk a1 27 x.cs)
  have ry := ry.cons (A := blk a1 27 x.cs)
  have rx := rx.cons (A := blk a2 27 y.cs)
  have ry := ry.cons (A := blk a2 27 y.cs)
  refine ⟨_, _, _, _, _, ⟨Own.ld (g := a1) h (by repeat (first | with_reducible exact Pick.here | apply Pick.there)) rfl, Own.ld (g := a1) h (by repeat (first | with_reducible exact Pick.here | apply Pick.there)) rfl, Own.ld (g := a1) h (by repeat (first | with_reducible exact Pick.here | apply Pick.there)) rfl, Own.ld (g := a1) h (by repeat (first | with_reducible exact Pick.here | apply Pick.there)) rfl, Own.ld (g := a1) h (by repeat (first | with_reducible exact Pick.here | apply Pick.there)) rfl⟩, _, _, _, _, _, ⟨Own.ld (g := a2) h (by repeat (first | with_reducible exact Pick.here | apply Pick.there)) rfl, Own.ld (g := a2) h (by repeat (first | with_reducible exact Pick.here | apply Pick.there)) rfl, Own.ld (g := a2) h (by repeat (first | with_reducible exact Pick.here | apply Pick.there)) rfl, Own.ld (g := a2) h (by repeat (first | with_reducible exact Pick.here | apply Pick.there)) rfl, Own.ld (g := a2) h (by repeat (first | with_reducible exact Pick.here | apply Pick.there)) rfl⟩, ?_⟩
  rw [eq5']
  refine ⟨fun hc => ⟨_, _, _, Own.ld (g := a1) h (by repeat (first | with_reducible exact Pick.here | apply Pick.there)) rfl, _, _, _, Own.ld (g := a2) h (by repeat (first | with_reducible exact Pick.here | apply Pick.there)) rfl, ?_⟩, fun hc => ⟨⟨false, rfl, fun hh => (by cases hh), fun hh => absurd (show [x.c0, x.c1, x.c2, x.c3, x.c4] = [y.c0, y.c1, y.c2, y.c3, y.c4] from hh.1) (by simpa using hc)⟩, h.drop.drop⟩⟩
  have hcf : x.conf = y.conf := dec_t hc
  refine Rets.mono (prsEqual (ms := x.ms) (ns := y.ms) (by omega) (fun m hm => by have := f1 m hm; omega) h rx.rd rx.rdi ry.rd ry.rdi) ?_
  clear h
  rintro _ w ⟨⟨b, rfl, hb⟩, h⟩
  refine ⟨_, rfl, fun hc => ⟨_, _, _, Own.ld (g := a1) h (by repeat (first | with_reducible exact Pick.here | apply Pick.there)) rfl, _, _, _, Own.ld (g := a2) h (by repeat (first | with_reducible exact Pick.here | apply Pick.there)) rfl, ?_⟩, fun hc => ⟨⟨false, rfl, fun hh => (by cases hh), fun hh => ?_⟩, h.drop.drop⟩⟩
  · refine Rets.mono (eq_ints_Equal (xs := x.PK) (ys := y.PK) h rx.rd2 ry.rd2 (by omega)) ?_
    clear h
    rintro _ w ⟨⟨b2, rfl, hb2⟩, h⟩
    refine ⟨_, rfl, fun hc2 => ⟨_, _, _, Own.ld (g := a1) h (by repeat (first | with_reducible exact Pick.here | apply Pick.there)) rfl, _, _, _, Own.ld (g := a2) h (by repeat (first | with_reducible exact Pick.here | apply Pick.there)) rfl, ?_⟩, fun hc2 => ⟨⟨false, rfl, fun hh => (by cases hh), fun hh => ?_⟩, h.drop.drop⟩⟩
    · refine Rets.mono (eq_ints_Equal (xs := x.DS) (ys := y.DS) h rx.rd3 ry.rd3 (by omega)) ?_
      clear h
      rintro _ w ⟨⟨b3, rfl, hb3⟩, h⟩
      exact ⟨_, rfl, ⟨b3, rfl, fun hh => ⟨hcf, hb.1 hc, hb2.1 hc2, hb3.1 hh⟩, fun hh => hb3.2 hh.2.2.2⟩, h.drop.drop⟩
    · rw [hb2.2 hh.2.2.1] at hc2; cases hc2
  · rw [hb.2 hh.2.1] at hc; cases hc
theorem rdSame {x y : ScT} (fx : x.few) (rx : ScRd e F x) (ry : ScRd e F y) (h : Own e w F) : Rets Try.prog 13 #[x.v, y.v] w fun v w' => (∃ b, v = .bool b ∧ (b = true ↔ x.same y)) ∧ Own e w' F := by
  obtain ⟨f1, f2, f3, f4⟩ := fx
  refine cortadoref18_Same_go _ _ _ _ _ _ _ _ _ _ _ _ _ _ _ _ _ _ _ _ _ _ _ _ _ _ _ _ ?_
  unfold cortadoref18_Same_m
  refine h.newR fun a1 w h => h.newR fun a2 w h => ?_
  simp only [addr_add_add, Nat.zero_add]
  have h : Own e w (blk a2 27 y.cs :: blk a1 27 x.cs :: F) := h
  have rx := rx.cons (A := blk a1 27 x.cs)
  have ry := ry.cons (A := blk a1 27 x.cs)
  have rx := rx.cons (A := blk a2 27 y.cs)
  have ry := ry.cons (A := blk a2 27 y.cs)
  refine ⟨_, _, _, _, _, ⟨Own.ld (g := a1) h (by repeat (first | with_reducible exact Pick.here | apply Pick.there)) rfl, Own.ld (g := a1) h (by repeat (first | with_reducible exact Pick.here | apply Pick.there)) rfl, Own.ld (g := a1) h (by repeat (first | with_reducible exact Pick.here | apply Pick.there)) rfl, Own.ld (g := a1) h (by repeat (first | with_reducible exact Pick.here | apply Pick.there)) rfl, Own.ld (g := a1) h (by repeat (first | with_reducible exact Pick.here | apply Pick.there)) rfl⟩, _, _, _, _, _, ⟨Own.ld (g := a2) h (by repeat (first | with_reducible exact Pick.here | apply Pick.there)) rfl, Own.ld (g := a2) h (by repeat (first | with_reducible exact Pick.here | apply Pick.there)) rfl, Own.ld (g := a2) h (by repeat (first | with_reducible exact Pick.here | apply Pick.there)) rfl, Own.ld (g := a2) h (by repeat (first | with_reducible exact Pick.here | apply Pick.there)) rfl, Own.ld (g := a2) h (by repeat (first | with_reducible exact Pick.here | apply Pick.there)) rfl⟩, ?_⟩
  rw [eq5']
  refine ⟨fun hc => ⟨_, _, _, Own.ld (g := a1) h (by repeat (first | with_reducible exact Pick.here | apply Pick.there)) rfl, _, _, _, Own.ld (g := a2) h (by repeat (first | with_reducible exact Pick.here | apply Pick.there)) rfl, fun hq => ⟨⟨false, rfl, fun hh => (by cases hh), fun hh => ?_⟩, h.drop.drop⟩, fun hq => ?_⟩, fun hc => ⟨⟨false, rfl, fun hh => (by cases hh), fun hh => absurd (show [x.c0, x.c1, x.c2, x.c3, x.c4] = [y.c0, y.c1, y.c2, y.c3, y.c4] from hh.1) (fun he => by rw [decide_eq_true he] at hc; cases hc)⟩, h.drop.drop⟩⟩
  · have h1 := congrArg List.length hh.2.1
    exact absurd (by simpa [ScT.pl] using h1) (fun hz : x.ms.length = y.ms.length => bool_ne hq (by rw [hz]))
  have hcf : x.conf = y.conf := by
    have hc := hc
    simp at hc
    unfold ScT.conf
    obtain ⟨e0, e1, e2, e3, e4⟩ := hc
    rw [e0, e1, e2, e3, e4]
  have hnn := bool_eq hq
  have hnn : x.ms.length = y.ms.length := by omega
  clear hc hq
  refine ⟨fun m vs w => ∃ i : Nat, vs = [.int .i64 (i : Int)] ∧ m + i = x.ms.length ∧ x.pl.take i = y.pl.take i ∧ Own e w (blk a2 27 y.cs :: blk a1 27 x.cs :: F), ⟨x.ms.length, 0, rfl, rfl, rfl, h⟩, ?_⟩
  clear h
  intro m w v1 n11
  intros
  rename_i hI
  obtain ⟨i, hvs, hm, htk, h⟩ := hI
  obtain rfl : n11 = (i : Int) := by simpa using hvs
  refine ⟨_, _, _, Own.ld (g := a1) h (by repeat (first | with_reducible exact Pick.here | apply Pick.there)) rfl, fun hc => ?_, fun hc => ?_⟩
  · have hc := dec_t hc
    have hi : i < x.ms.length := by omega
    have hi2 : i < y.ms.length := by omega
    have hfi := f1 _ (List.getElem_mem hi)
    refine h.drw fun w h => ⟨_, _, _, Own.ld (g := a1) h (by repeat (first | with_reducible exact Pick.here | apply Pick.there)) rfl, by omega, by omega, RdC.mp (f := Sl.v) (rx.rd w h) hi fun a ha => ⟨x.ms[i].1, x.ms[i].2.2.length, x.ms[i].2.1, by rw [Int.toNat_natCast]; exact ha, _, _, _, Own.ld (g := a2) h (by repeat (first | with_reducible exact Pick.here | apply Pick.there)) rfl, by omega, by omega, RdC.mp (f := Sl.v) (ry.rd w h) hi2 fun a3 ha3 => ⟨y.ms[i].1, y.ms[i].2.2.length, y.ms[i].2.1, by rw [Int.toNat_natCast]; exact ha3, ?_⟩⟩⟩
    refine Rets.mono (eq_cortadoref17_Same (xs := x.ms[i].2.2) (ys := y.ms[i].2.2) h (fun w h => rx.rdi w h _ (List.getElem_mem hi)) (fun w h => ry.rdi w h _ (List.getElem_mem hi2)) (by omega)) ?_
    clear h
    rintro _ w ⟨⟨b, rfl, hb⟩, h⟩
    refine ⟨_, rfl, fun hc => ⟨⟨false, rfl, fun hh => (by cases hh), fun hh => ?_⟩, h.drop.drop⟩, fun hc => ⟨m - 1, by omega, i + 1, by rw [wI64 (by omega) (by omega)]; rfl, by omega, ?_, h⟩⟩
    · have h1 : x.pl[i]'(by simpa [ScT.pl] using hi) = y.pl[i]'(by simpa [ScT.pl] using hi2) := by simp only [hh.2.1]
      rw [pl_at hi, pl_at hi2] at h1
      rw [hb.2 h1] at hc; cases hc
    · refine take_eq_succ (by simpa [ScT.pl] using hi) (by simpa [ScT.pl] using hi2) htk ?_
      rw [pl_at hi, pl_at hi2]
      exact hb.1 (by simpa using hc)
  · have hc := dec_f hc
    obtain rfl : i = x.ms.length := by omega
    have e1 : x.pl.take x.ms.length = x.pl := by rw [← List.length_map (f := fun m : Sl Op5 => m.2.2), List.take_length]
    have e2 : y.pl.take x.ms.length = y.pl := by rw [hnn, ← List.length_map (f := fun m : Sl Op5 => m.2.2), List.take_length]
    rw [e1, e2] at htk
    refine ⟨_, _, _, Own.ld (g := a1) h (by repeat (first | with_reducible exact Pick.here | apply Pick.there)) rfl, _, _, _, Own.ld (g := a2) h (by repeat (first | with_reducible exact Pick.here | apply Pick.there)) rfl, ?_⟩
    refine Rets.mono (eq_cortadoref18_numbers (xs := x.PK) (ys := y.PK) h rx.rd2 ry.rd2 (by omega)) ?_
    clear h
    rintro _ w ⟨⟨b2, rfl, hb2⟩, h⟩
    refine ⟨_, rfl, fun hc2 => ⟨_, _, _, Own.ld (g := a1) h (by repeat (first | with_reducible exact Pick.here | apply Pick.there)) rfl, _, _, _, Own.ld (g := a2) h (by repeat (first | with_reducible exact Pick.here | apply Pick.there)) rfl, ?_⟩, fun hc2 => ⟨⟨false, rfl, fun hh => (by cases hh), fun hh => ?_⟩, h.drop.drop⟩⟩
    · refine Rets.mono (eq_cortadoref18_numbers (xs := x.DS) (ys := y.DS) h rx.rd3 ry.rd3 (by omega)) ?_
      clear h
      rintro _ w ⟨⟨b3, rfl, hb3⟩, h⟩
      exact ⟨_, rfl, ⟨b3, rfl, fun hh => ⟨hcf, htk, hb2.1 hc2, hb3.1 hh⟩, fun hh => hb3.2 hh.2.2.2⟩, h.drop.drop⟩
    · rw [hb2.2 hh.2.2.1] at hc2; cases hc2
/-- How many calls. -/
def plSum : List (Sl Op5) → Nat
  | [] => 0
  | m :: r => m.2.2.length + plSum r
theorem plSum_snoc : ∀ (l : List (Sl Op5)) (m : Sl Op5), plSum (l ++ [m]) = plSum l + m.2.2.length
  | [], m => by simp [plSum]
  | a :: r, m => by simp [plSum, plSum_snoc r m]; omega
theorem plSum_le {k : Nat} : ∀ {l : List (Sl Op5)}, (∀ m ∈ l, m.2.2.length ≤ k) → plSum l ≤ k * l.length
  | [], _ => by simp [plSum]
  | a :: r, h => by
    have h1 := h a (by simp)
    have h2 := plSum_le (l := r) (fun m hm => h m (by simp [hm]))
    rw [plSum, List.length_cons, Nat.mul_add, Nat.mul_one]; omega
theorem scCalls {x : ScT} (fx : x.few) (rx : ScRd e F x) (h : Own e w F) : Rets Try.prog 14 #[x.v] w fun v w' => v = .int .i64 (plSum x.ms : Int) ∧ Own e w' F := by
  obtain ⟨f1, f2, f3, f4⟩ := fx
  refine script_Calls_go _ _ _ _ _ _ _ _ _ _ _ _ _ _ ?_
  unfold script_Calls_m
  refine h.newR fun a1 w h => ?_
  have h : Own e w (blk a1 27 x.cs :: F) := h
  have rx := rx.cons (A := blk a1 27 x.cs)
  refine ⟨_, _, _, Own.ld (g := a1) h (by repeat (first | with_reducible exact Pick.here | apply Pick.there)) rfl, fun m vs w => ∃ i : Nat, vs = [.int .i64 (plSum (x.ms.take i) : Int), .int .i64 (i : Int)] ∧ m + i = x.ms.length ∧ Own e w (blk a1 27 x.cs :: F), ⟨x.ms.length, 0, rfl, rfl, h⟩, ?_⟩
  clear h
  intro m w n1 v1 n2
  intros
  rename_i hI
  obtain ⟨i, hvs, hm, h⟩ := hI
  obtain ⟨rfl, rfl⟩ : n1 = (plSum (x.ms.take i) : Int) ∧ n2 = (i : Int) := by simpa using hvs
  refine ⟨fun hc => ?_, fun hc => ?_⟩
  · have hc := dec_t hc
    have hi : i < x.ms.length := by omega
    have hfi := f1 _ (List.getElem_mem hi)
    have hle := plSum_le (l := x.ms.take i) (fun m hm => f1 m (List.mem_of_mem_take hm))
    rw [List.length_take] at hle
    have hle2 : plSum (x.ms.take i) ≤ 300 := by
      refine Nat.le_trans hle ?_
      refine Nat.le_trans (Nat.mul_le_mul_left 30 (Nat.min_le_right _ _)) ?_
      omega
    refine ⟨by omega, by omega, RdC.mp (f := Sl.v) (rx.rd w h) hi fun a ha => ⟨x.ms[i].1, x.ms[i].2.2.length, x.ms[i].2.1, by rw [Int.toNat_natCast]; exact ha, m - 1, by omega, i + 1, ?_, by omega, h⟩⟩
    rw [List.take_succ_eq_append_getElem hi, plSum_snoc, wI64 (by omega) (by omega), wI64 (by omega) (by omega)]; rfl
  · have hc := dec_f hc
    obtain rfl : i = x.ms.length := by omega
    rw [List.take_length]
    exact ⟨rfl, h.drop⟩
theorem scFew {x : ScT} (rx : ScRd e F x) (h : Own e w F) : Rets Try.prog 5 #[x.v] w fun v w' => (∃ b, v = .bool b ∧ (b = true ↔ x.few)) ∧ Own e w' F := by
  refine cortadolaw18_few_go _ _ _ _ _ _ _ _ _ _ _ _ _ _ ?_
  unfold cortadolaw18_few_m
  refine h.newR fun a1 w h => ?_
  have h : Own e w (blk a1 27 x.cs :: F) := h
  have rx := rx.cons (A := blk a1 27 x.cs)
  refine ⟨fun m vs w => ∃ i : Nat, vs = [.int .i64 (i : Int)] ∧ m + i = 10 ∧ i ≤ x.ms.length ∧ (∀ m ∈ x.ms.take i, m.2.2.length ≤ 30) ∧ Own e w (blk a1 27 x.cs :: F), ⟨10, 0, rfl, rfl, Nat.zero_le _, fun m hm => (by cases hm), h⟩, ?_⟩
  clear h
  intro m w v1 n1
  intros
  rename_i hI
  obtain ⟨i, hvs, hm, hile, hall, h⟩ := hI
  obtain rfl : n1 = (i : Int) := by simpa using hvs
  have fin : ∀ {P : Prop}, (x.ms.length ≤ 9 → ∀ m ∈ x.ms, m.2.2.length ≤ 30) → True := fun _ => trivial
  refine ⟨_, _, _, Own.ld (g := a1) h (by repeat (first | with_reducible exact Pick.here | apply Pick.there)) rfl, fun hc => ⟨fun hc2 => ?_, fun hc2 => ?_⟩, fun hc => ?_⟩
  · have hc := dec_t hc
    have hi : i < x.ms.length := by omega
    have hc2 := dec_t hc2
    refine ⟨_, _, _, Own.ld (g := a1) h (by repeat (first | with_reducible exact Pick.here | apply Pick.there)) rfl, by omega, by omega, RdC.mp (f := Sl.v) (rx.rd w h) hi fun a ha => ⟨x.ms[i].1, x.ms[i].2.2.length, x.ms[i].2.1, by rw [Int.toNat_natCast]; exact ha, fun hq => ⟨⟨false, rfl, fun hh => (by cases hh), fun hh => absurd (hh.1 _ (List.getElem_mem hi)) (by have := dec_t hq; omega)⟩, h.drop⟩, fun hq => ⟨m - 1, by omega, i + 1, by rw [wI64 (by omega) (by omega)]; rfl, by omega, by omega, fun m' hm' => ?_, h⟩⟩⟩
    rw [List.take_succ_eq_append_getElem hi] at hm'
    rcases List.mem_append.1 hm' with hh | hh
    · exact hall _ hh
    · rw [List.mem_singleton.1 hh]; have := dec_f hq; omega
  · have hc2 := dec_f hc2
    have hc := dec_t hc
    refine ⟨_, _, _, Own.ld (g := a1) h (by repeat (first | with_reducible exact Pick.here | apply Pick.there)) rfl, fun hq => absurd (dec_t hq) (by omega), fun hq => ⟨⟨false, rfl, fun hh => (by cases hh), fun hh => absurd hh.2.1 (by omega)⟩, h.drop⟩⟩
  · have hc := dec_f hc
    obtain rfl : i = x.ms.length := by omega
    rw [List.take_length] at hall
    refine ⟨_, _, _, Own.ld (g := a1) h (by repeat (first | with_reducible exact Pick.here | apply Pick.there)) rfl, fun hq => ⟨_, _, _, Own.ld (g := a1) h (by repeat (first | with_reducible exact Pick.here | apply Pick.there)) rfl, fun hq2 => ⟨_, _, _, Own.ld (g := a1) h (by repeat (first | with_reducible exact Pick.here | apply Pick.there)) rfl, ⟨_, rfl, fun hh => ⟨hall, by have := dec_t hq; omega, by have := dec_t hq2; omega, by have := dec_t hh; omega⟩, fun hh => decide_eq_true (by have := hh.2.2.2; omega)⟩, h.drop⟩, fun hq2 => ⟨⟨false, rfl, fun hh => (by cases hh), fun hh => absurd hh.2.2.1 (by have := dec_f hq2; omega)⟩, h.drop⟩⟩, fun hq => ⟨⟨false, rfl, fun hh => (by cases hh), fun hh => absurd hh.2.1 (by have := dec_f hq; omega)⟩, h.drop⟩⟩
theorem crI_iff {a b n : Int} (h : a ≤ b) : crI a b n = n ↔ a ≤ n ∧ n ≤ b := ⟨fun e => by have := crI_bd h n; omega, crI_id⟩
theorem near_iff {c0 c1 c2 c3 c4 : Int} : [crI 0 4611686018427387904 c0, crI 1 64 c1, crI 1 4096 c2, crI 1 16 c3, crI 0 64 c4] = [c0, c1, c2, c3, c4] ↔ nearP c0 c1 c2 c3 c4 := by
  unfold nearP
  rw [← crI_iff (n := c0) (by omega), ← crI_iff (n := c1) (by omega), ← crI_iff (n := c2) (by omega), ← crI_iff (n := c3) (by omega), ← crI_iff (n := c4) (by omega)]
  simp
theorem scConfigG {c0 c1 c2 c3 c4 : Int} (h : Own e w F) : Rets Try.prog 11 #[.agg #[.int .i64 c0, .int .i64 c1, .int .i64 c2, .int .i64 c3, .int .i64 c4]] w fun v w' => (∃ b, v = .bool b ∧ (b = true ↔ nearP c0 c1 c2 c3 c4)) ∧ Own e w' F := by
  refine script_Config_go _ _ _ _ _ (h.newR fun g1 w h => h.drw fun w h => ⟨fun w => Own e w _, h, _, _, _, _, _, ⟨fun w h => Own.ld (g := g1) h (by repeat (first | with_reducible exact Pick.here | apply Pick.there)) rfl, fun w h => Own.ld (g := g1) h (by repeat (first | with_reducible exact Pick.here | apply Pick.there)) rfl, fun w h => Own.ld (g := g1) h (by repeat (first | with_reducible exact Pick.here | apply Pick.there)) rfl, fun w h => Own.ld (g := g1) h (by repeat (first | with_reducible exact Pick.here | apply Pick.there)) rfl, fun w h => Own.ld (g := g1) h (by repeat (first | with_reducible exact Pick.here | apply Pick.there)) rfl⟩, _, _, _, _, _, ⟨fun w h => Own.ld (g := g1) h (by repeat (first | with_reducible exact Pick.here | apply Pick.there)) rfl, fun w h => Own.ld (g := g1) h (by repeat (first | with_reducible exact Pick.here | apply Pick.there)) rfl, fun w h => Own.ld (g := g1) h (by repeat (first | with_reducible exact Pick.here | apply Pick.there)) rfl, fun w h => Own.ld (g := g1) h (by repeat (first | with_reducible exact Pick.here | apply Pick.there)) rfl, fun w h => Own.ld (g := g1) h (by repeat (first | with_reducible exact Pick.here | apply Pick.there)) rfl⟩, ?_⟩)
  refine Rets.mono (scNear h) ?_
  rintro _ w ⟨rfl, h⟩
  refine ⟨_, _, _, _, _, rfl, h, ⟨_, rfl, ?_⟩, h.drop⟩
  rw [eq5', decide_eq_true_eq]
  exact near_iff
theorem prContainsG {ms : List (Sl Op5)} (hml : ms.length ≤ 100) (h : Own e w F) (hA : ∀ w, Own e w F → RdC w q (ms.map Sl.v)) (hAi : ∀ w, Own e w F → ∀ x ∈ ms, RdC w x.1 (x.2.2.flatMap encO)) :
    Rets Try.prog 23 #[.slice q ms.length d, .func (.func 20) #[] #[]] w fun v w' => (∃ b, v = .bool b ∧ (b = false ↔ ∀ m ∈ ms, fineB m.2.2 = true)) ∧ Own e w' F := by
  refine pro_Contains_go _ _ _ ?_
  refine pro_Index_go _ _ _ ⟨fun m vs w => ∃ i : Nat, vs = [.int .i64 (i : Int)] ∧ m + i = ms.length ∧ (∀ m ∈ ms.take i, fineB m.2.2 = true) ∧ Own e w F, ⟨ms.length, 0, rfl, rfl, fun m hm => (by cases hm), h⟩, ?_⟩
  clear h
  intro m w v1 v2 n1
  intros
  rename_i hI
  obtain ⟨i, hvs, hm, hall, h⟩ := hI
  obtain rfl : n1 = (i : Int) := by simpa using hvs
  refine ⟨fun hc => ?_, fun hc => ?_⟩
  · have hc := dec_t hc
    have hi : i < ms.length := by omega
    refine ⟨by omega, by omega, RdC.mp (f := Sl.v) (hA w h) hi fun a ha => ⟨ms[i].1, ms[i].2.2.length, ms[i].2.1, by rw [Int.toNat_natCast]; exact ha, ?_⟩⟩
    refine script_Right_1_go _ _ _ ?_
    refine Rets.mono (prFine (l := ms[i].2.2) h (fun w h => hAi w h _ (List.getElem_mem hi))) ?_
    clear h
    rintro _ w ⟨rfl, h⟩
    refine ⟨_, rfl, _, rfl, fun hc => ⟨_, rfl, ⟨_, rfl, fun hh => absurd (dec_f hh) (by omega), fun hh => ?_⟩, h⟩, fun hc => ⟨m - 1, by omega, i + 1, by rw [wI64 (by omega) (by omega)]; rfl, by omega, fun m' hm' => ?_, h⟩⟩
    · rw [hh _ (List.getElem_mem hi)] at hc; cases hc
    · rw [List.take_succ_eq_append_getElem hi] at hm'
      rcases List.mem_append.1 hm' with hh | hh
      · exact hall _ hh
      · rw [List.mem_singleton.1 hh]; simpa using hc
  · have hc := dec_f hc
    obtain rfl : i = ms.length := by omega
    rw [List.take_length] at hall
    exact ⟨_, rfl, ⟨_, rfl, fun _ => hall, fun _ => rfl⟩, h⟩
theorem piContainsG {PK : List Int} (hP : PK.length ≤ 5000) (h : Own e w F) (hA2 : ∀ w, Own e w F → RdC w q2 (cs .i64 PK)) :
    Rets Try.prog 24 #[.slice q2 PK.length d2, .func (.func 22) #[] #[]] w fun v w' => (∃ b, v = .bool b ∧ (b = false ↔ ∀ n ∈ PK, 0 ≤ n ∧ n < 256)) ∧ Own e w' F := by
  refine pic_Contains_go _ _ _ ?_
  refine pic_Index_go _ _ _ ⟨fun m vs w => ∃ i : Nat, vs = [.int .i64 (i : Int)] ∧ m + i = PK.length ∧ (∀ n ∈ PK.take i, 0 ≤ n ∧ n < 256) ∧ Own e w F, ⟨PK.length, 0, rfl, rfl, fun n hn => (by cases hn), h⟩, ?_⟩
  clear h
  intro m w v1 v2 n1
  intros
  rename_i hI
  obtain ⟨i, hvs, hm, hall, h⟩ := hI
  obtain rfl : n1 = (i : Int) := by simpa using hvs
  refine ⟨fun hc => ?_, fun hc => ?_⟩
  · have hc := dec_t hc
    have hi : i < PK.length := by omega
    have bad : ∀ {w}, ¬ (0 ≤ PK[i] ∧ PK[i] < 256) → Own e w F → (∃ b, Value.bool (decide ((i : Int) ≥ 0)) = .bool b ∧ (b = false ↔ ∀ n ∈ PK, 0 ≤ n ∧ n < 256)) ∧ Own e w F := fun hb h => ⟨⟨_, rfl, fun hh => absurd (dec_f hh) (by omega), fun hh => absurd (hh _ (List.getElem_mem hi)) hb⟩, h⟩
    refine ⟨by omega, by omega, (hA2 w h).int (i := i) hi fun a ha => ⟨PK[i], by rw [Int.toNat_natCast]; exact ha, ?_⟩⟩
    refine script_Right_2_go _ ⟨fun h0 => ⟨_, rfl, fun hc => ⟨_, rfl, bad (by have := dec_t hc; omega) h⟩, fun hc => ⟨m - 1, by omega, i + 1, by rw [wI64 (by omega) (by omega)]; rfl, by omega, fun n hn => ?_, h⟩⟩, fun h0 => ⟨_, rfl, fun hc => ⟨_, rfl, bad (by have := dec_t h0; omega) h⟩, fun hc => absurd hc (by simp)⟩⟩
    rw [List.take_succ_eq_append_getElem hi] at hn
    rcases List.mem_append.1 hn with hh | hh
    · exact hall _ hh
    · rw [List.mem_singleton.1 hh]; have := dec_f h0; have := dec_f hc; omega
  · have hc := dec_f hc
    obtain rfl : i = PK.length := by omega
    rw [List.take_length] at hall
    exact ⟨_, rfl, ⟨_, rfl, fun _ => hall, fun _ => rfl⟩, h⟩
theorem scRightG {x : ScT} (fx : x.few) (rx : ScRd e F x) (h : Own e w F) : Rets Try.prog 8 #[x.v] w fun v w' => (∃ b, v = .bool b ∧ (b = true ↔ x.right)) ∧ Own e w' F := by
  obtain ⟨f1, f2, f3, f4⟩ := fx
  refine script_Right_go _ _ _ _ _ _ _ _ _ _ _ _ _ _ ?_
  unfold script_Right_m
  refine h.newR fun a1 w h => ?_
  simp only [addr_add_add, Nat.zero_add]
  have h : Own e w (blk a1 27 x.cs :: F) := h
  have rx := rx.cons (A := blk a1 27 x.cs)
  refine ⟨_, _, _, _, _, ⟨Own.ld (g := a1) h (by repeat (first | with_reducible exact Pick.here | apply Pick.there)) rfl, Own.ld (g := a1) h (by repeat (first | with_reducible exact Pick.here | apply Pick.there)) rfl, Own.ld (g := a1) h (by repeat (first | with_reducible exact Pick.here | apply Pick.there)) rfl, Own.ld (g := a1) h (by repeat (first | with_reducible exact Pick.here | apply Pick.there)) rfl, Own.ld (g := a1) h (by repeat (first | with_reducible exact Pick.here | apply Pick.there)) rfl⟩, ?_⟩
  refine Rets.mono (scConfigG h) ?_
  clear h
  rintro _ w ⟨⟨b, rfl, hb⟩, h⟩
  have no : ∀ {w}, ¬ x.right → Own e w (blk a1 27 x.cs :: F) → (∃ b, Value.bool false = .bool b ∧ (b = true ↔ x.right)) ∧ Own e w F := fun hn h => ⟨⟨false, rfl, fun hh => (by cases hh), fun hh => absurd hh hn⟩, h.drop⟩
  refine ⟨_, rfl, fun hc => ?_, fun hc => no (fun hh => by rw [hb.2 hh.1] at hc; cases hc) h⟩
  have hnear : x.near := hb.1 (by simpa using hc)
  refine ⟨_, _, _, Own.ld (g := a1) h (by repeat (first | with_reducible exact Pick.here | apply Pick.there)) rfl, fun h1 => ⟨_, _, _, Own.ld (g := a1) h (by repeat (first | with_reducible exact Pick.here | apply Pick.there)) rfl, fun h2 => ⟨_, _, _, Own.ld (g := a1) h (by repeat (first | with_reducible exact Pick.here | apply Pick.there)) rfl, fun h3 => no (fun hh => absurd hh.2.2.2.1 (by have := dec_t h3; omega)) h, fun h3 => ⟨_, _, _, Own.ld (g := a1) h (by repeat (first | with_reducible exact Pick.here | apply Pick.there)) rfl, ?_⟩⟩, fun h2 => no (fun hh => absurd hh.2.2.1 (by have := dec_t h2; omega)) h⟩, fun h1 => no (fun hh => absurd hh.2.1 (by have := dec_t h1; omega)) h⟩
  refine Rets.mono (prContainsG (ms := x.ms) (by omega) h rx.rd rx.rdi) ?_
  clear h
  rintro _ w ⟨⟨b2, rfl, hb2⟩, h⟩
  refine ⟨_, rfl, fun hc2 => ⟨_, _, _, Own.ld (g := a1) h (by repeat (first | with_reducible exact Pick.here | apply Pick.there)) rfl, ?_⟩, fun hc2 => no (fun hh => by rw [hb2.2 hh.2.2.2.2.1] at hc2; cases hc2) h⟩
  refine Rets.mono (piContainsG (PK := x.PK) (by omega) h rx.rd2) ?_
  clear h
  rintro _ w ⟨⟨b3, rfl, hb3⟩, h⟩
  have h1 := dec_f h1
  have h2 := dec_f h2
  have h3 := dec_f h3
  refine ⟨_, rfl, ⟨_, rfl, fun hh => ⟨hnear, by omega, by omega, by omega, hb2.1 (by simpa using hc2), hb3.1 (by simpa using hh)⟩, fun hh => by rw [hb3.2 hh.2.2.2.2.2]; rfl⟩, h.drop⟩
theorem rdRightG {x : ScT} (fx : x.few) (rx : ScRd e F x) (h : Own e w F) : Rets Try.prog 9 #[x.v] w fun v w' => (∃ b, v = .bool b ∧ (b = true ↔ x.right)) ∧ Own e w' F := by
  obtain ⟨f1, f2, f3, f4⟩ := fx
  refine cortadoref18_Right_go _ _ _ _ _ _ _ _ _ _ _ _ _ _ ?_
  unfold cortadoref18_Right_m
  refine h.newR fun a1 w h => ?_
  simp only [addr_add_add, Nat.zero_add]
  have h : Own e w (blk a1 27 x.cs :: F) := h
  have rx := rx.cons (A := blk a1 27 x.cs)
  have no : ∀ {w}, ¬ x.right → Own e w (blk a1 27 x.cs :: F) → (∃ b, Value.bool false = .bool b ∧ (b = true ↔ x.right)) ∧ Own e w F := fun hn h => ⟨⟨false, rfl, fun hh => (by cases hh), fun hh => absurd hh hn⟩, h.drop⟩
  refine h.drw fun w h => ⟨fun w => Own e w (blk a1 27 x.cs :: F), h, _, _, _, _, _, ⟨fun w h => Own.ld (g := a1) h (by repeat (first | with_reducible exact Pick.here | apply Pick.there)) rfl, fun w h => Own.ld (g := a1) h (by repeat (first | with_reducible exact Pick.here | apply Pick.there)) rfl, fun w h => Own.ld (g := a1) h (by repeat (first | with_reducible exact Pick.here | apply Pick.there)) rfl, fun w h => Own.ld (g := a1) h (by repeat (first | with_reducible exact Pick.here | apply Pick.there)) rfl, fun w h => Own.ld (g := a1) h (by repeat (first | with_reducible exact Pick.here | apply Pick.there)) rfl⟩, _, _, _, _, _, ⟨fun w h => Own.ld (g := a1) h (by repeat (first | with_reducible exact Pick.here | apply Pick.there)) rfl, fun w h => Own.ld (g := a1) h (by repeat (first | with_reducible exact Pick.here | apply Pick.there)) rfl, fun w h => Own.ld (g := a1) h (by repeat (first | with_reducible exact Pick.here | apply Pick.there)) rfl, fun w h => Own.ld (g := a1) h (by repeat (first | with_reducible exact Pick.here | apply Pick.there)) rfl, fun w h => Own.ld (g := a1) h (by repeat (first | with_reducible exact Pick.here | apply Pick.there)) rfl⟩, ?_⟩
  refine Rets.mono (rdNear h) ?_
  clear h
  rintro _ w ⟨rfl, h⟩
  refine ⟨_, _, _, _, _, rfl, h, ?_⟩
  rw [eq5']
  refine ⟨fun hc => ?_, fun hc => no (fun hh => by rw [decide_eq_true (near_iff.2 hh.1)] at hc; cases hc) h⟩
  have hnear : x.near := near_iff.1 (dec_t (by simpa using hc))
  refine ⟨_, _, _, fun w h => Own.ld (g := a1) h (by repeat (first | with_reducible exact Pick.here | apply Pick.there)) rfl, fun h1 => ⟨_, _, _, fun w h => Own.ld (g := a1) h (by repeat (first | with_reducible exact Pick.here | apply Pick.there)) rfl, fun h2 => ⟨_, _, _, fun w h => Own.ld (g := a1) h (by repeat (first | with_reducible exact Pick.here | apply Pick.there)) rfl, fun h3 => no (fun hh => absurd hh.2.2.2.1 (by have := dec_t h3; omega)) h, fun h3 => ?_⟩, fun h2 => no (fun hh => absurd hh.2.2.1 (by have := dec_t h2; omega)) h⟩, fun h1 => no (fun hh => absurd hh.2.1 (by have := dec_t h1; omega)) h⟩
  have h1 := dec_f h1
  have h2 := dec_f h2
  have h3 := dec_f h3
  refine ⟨fun m vs w => ∃ i : Nat, vs = [.int .i64 (i : Int)] ∧ m + i = x.ms.length ∧ (∀ m ∈ x.ms.take i, fineB m.2.2 = true) ∧ Own e w (blk a1 27 x.cs :: F), ⟨x.ms.length, 0, rfl, rfl, fun m hm => (by cases hm), h⟩, ?_⟩
  clear h
  intro m w v2 n16
  intros
  rename_i hI
  obtain ⟨i, hvs, hm, hall, h⟩ := hI
  obtain rfl : n16 = (i : Int) := by simpa using hvs
  refine ⟨_, _, _, Own.ld (g := a1) h (by repeat (first | with_reducible exact Pick.here | apply Pick.there)) rfl, fun hc2 => ?_, fun hc2 => ?_⟩
  · have hc2 := dec_t hc2
    have hi : i < x.ms.length := by omega
    have hl := f1 _ (List.getElem_mem hi)
    refine ⟨_, _, _, Own.ld (g := a1) h (by repeat (first | with_reducible exact Pick.here | apply Pick.there)) rfl, by omega, by omega, RdC.mp (f := Sl.v) (rx.rd w h) hi fun a ha => ⟨x.ms[i].1, x.ms[i].2.2.length, x.ms[i].2.1, by rw [Int.toNat_natCast]; exact ha, ?_⟩⟩
    refine Rets.mono (rfFine (l := x.ms[i].2.2) h (fun w h => rx.rdi w h _ (List.getElem_mem hi)) (by omega)) ?_
    clear h
    rintro _ w ⟨rfl, h⟩
    refine ⟨_, rfl, fun hc => no (fun hh => by rw [hh.2.2.2.2.1 _ (List.getElem_mem hi)] at hc; cases hc) h, fun hc => ⟨m - 1, by omega, i + 1, by rw [wI64 (by omega) (by omega)]; rfl, by omega, fun m' hm' => ?_, h⟩⟩
    rw [List.take_succ_eq_append_getElem hi] at hm'
    rcases List.mem_append.1 hm' with hh | hh
    · exact hall _ hh
    · rw [List.mem_singleton.1 hh]; simpa using hc
  · have hc2 := dec_f hc2
    obtain rfl : i = x.ms.length := by omega
    rw [List.take_length] at hall
    refine ⟨fun m vs w => ∃ i : Nat, vs = [.int .i64 (i : Int)] ∧ m + i = x.PK.length ∧ (∀ n ∈ x.PK.take i, 0 ≤ n ∧ n < 256) ∧ Own e w (blk a1 27 x.cs :: F), ⟨x.PK.length, 0, rfl, rfl, fun m hm => (by cases hm), h⟩, ?_⟩
    clear h hm hvs
    intro m w v18 n17
    intros
    rename_i hI
    obtain ⟨i, hvs, hm, hall2, h⟩ := hI
    obtain rfl : n17 = (i : Int) := by simpa using hvs
    refine ⟨_, _, _, Own.ld (g := a1) h (by repeat (first | with_reducible exact Pick.here | apply Pick.there)) rfl, fun hc => ?_, fun hc => ?_⟩
    · have hc := dec_t hc
      have hi : i < x.PK.length := by omega
      have nox : ∀ {w}, ¬ (0 ≤ x.PK[i] ∧ x.PK[i] < 256) → Own e w (blk a1 27 x.cs :: F) → (∃ b, Value.bool false = .bool b ∧ (b = true ↔ x.right)) ∧ Own e w F := fun hb h => no (fun hh => hb (hh.2.2.2.2.2 _ (List.getElem_mem hi))) h
      refine ⟨_, _, _, Own.ld (g := a1) h (by repeat (first | with_reducible exact Pick.here | apply Pick.there)) rfl, by omega, by omega, (rx.rd2 w h).int (i := i) hi fun a ha => ⟨x.PK[i], by rw [Int.toNat_natCast]; exact ha, fun h0 => ⟨_, _, _, Own.ld (g := a1) h (by repeat (first | with_reducible exact Pick.here | apply Pick.there)) rfl, by omega, by omega, (rx.rd2 w h).int (i := i) hi fun a4 ha4 => ⟨x.PK[i], by rw [Int.toNat_natCast]; exact ha4, fun hc => nox (by have := dec_t hc; omega) h, fun hc => ⟨m - 1, by omega, i + 1, by rw [wI64 (by omega) (by omega)]; rfl, by omega, fun n hn => ?_, h⟩⟩⟩, fun h0 => nox (by have := dec_t h0; omega) h⟩⟩
      rw [List.take_succ_eq_append_getElem hi] at hn
      rcases List.mem_append.1 hn with hh | hh
      · exact hall2 _ hh
      · rw [List.mem_singleton.1 hh]; have := dec_f h0; have := dec_f hc; omega
    · have hc := dec_f hc
      obtain rfl : i = x.PK.length := by omega
      rw [List.take_length] at hall2
      exact ⟨⟨true, rfl, fun _ => ⟨hnear, by omega, by omega, by omega, hall, hall2⟩, fun _ => rfl⟩, h.drop⟩
end
end Go.Proofs.Ytppmdifhoejhjaa.Eng
