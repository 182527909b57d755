/- Rings of things of many cells: copies, places (plain). -/
import Derived.Test.YtipcbhaeoeghnaaRingW
import Derived.Test.YtipcbhaeoeghnaaEngA
import Derived.Test.YtipcbhaeoeghnaaEngW
namespace Go.Proofs.Ytipcbhaeoeghnaa.Eng
open Go Go.RowKit Go.Proofs
set_option linter.unusedVariables false
set_option linter.unusedSimpArgs false
set_option maxRecDepth 1000000
theorem run_copy_rowS {P : Program} (w : World) (dT sT ty elem : TypeId) (g o dLen dCap s : Nat) (a : Addr) (sLen sCap : Nat) (cur : Array Value) (t : TypeId) (cs : List Value)
    (hu : P.underlying dT = some (.slice elem)) (hs : (P.info? elem).map (·.size) = some s)
    (hg : w.heap[g]? = some (.cells cur t (0, 0))) (hn : cs.length = Nat.min sLen dLen * s)
    (hsrc : ∀ j v, cs[j]? = some v → w.cell? (a.add j) = some v) (hfit : o + cs.length ≤ cur.size) (h1 : ∀ v ∈ cs, v.oneCell' = true) :
    (Builtin.copy_ #[dT, sT] ty #[.slice (some ⟨g, o, none⟩) dLen dCap, .slice (some a) sLen sCap]).run P w =
      .ok (goInt (Nat.min sLen dLen)) (w.setRow g (cur.toList.take o ++ cs ++ cur.toList.drop (o + cs.length)).toArray) := by
  have hl := run_loadCells_list (P := P) w a cs hsrc
  have hst := run_storeCells_at P g o t cs 0 cur w hg (by simpa using hfit) h1
  cases hq : P.info? elem with
  | none => simp [hq] at hs
  | some i =>
    have hi : i.size = s := by simpa [hq] using hs
    simp [Builtin.copy_, run_underlying hu, Builtin.lenOf, Builtin.firstCells, sizeOf, typeInfo, hq, hi, ← hn, hl, hst]
section
variable {e w : World} {F : List HP} {T : TypeId} {q q2 : Option Addr} {n c m c2 s : Nat} {xs news : List Value}
theorem Own.copyS {P : Program} {dT ty elem : TypeId} {k : Value → World → Prop} (h : Own e w (slO T s q n c xs :: F)) (hu : P.underlying dT = some (.slice elem)) (hs : (P.info? elem).map (·.size) = some s)
    (hsrc : RdC w q2 news) (hl : news.length = m * s) (hmn : m ≤ n) (hn0 : 0 < n) (hs0 : 0 < s) (h1 : ∀ v ∈ news, v.oneCell' = true)
    (hk : ∀ w', Own e w' (slO T s q n c (news ++ xs.drop (m * s)) :: F) → k (.int .i64 (m : Nat)) w') : RunR P (builtinV .copy #[dT, dT] ty #[.slice q n c, .slice q2 m c2]) w k := by
  obtain ⟨hf1, hf2, hf3⟩ := h.slFacts
  show RunR P (Builtin.copy_ #[dT, dT] ty #[.slice q n c, .slice q2 m c2]) w k
  rcases h.slCases with ⟨_, _, h0, _⟩ | ⟨g, rest, rfl, hlr, hB⟩
  · omega
  have hms : m * s ≤ n * s := Nat.mul_le_mul_right _ hmn
  cases q2 with
  | none =>
    have hn : news = [] := by
      rcases hsrc with h | ⟨a, ha, _⟩
      · exact h
      · cases ha
    subst hn
    obtain rfl : m = 0 := by
      have : m * s = 0 := hl.symm
      rcases Nat.mul_eq_zero.1 this with h | h
      · exact h
      · omega
    refine ⟨_, _, ?_, hk w (by simpa using h)⟩
    cases hq : P.info? elem with
    | none => simp [hq] at hs
    | some i =>
      have : Nat.min 0 n = 0 := by simp
      simp [Builtin.copy_, run_underlying hu, Builtin.lenOf, Builtin.firstCells, sizeOf, typeInfo, hq, storeCells, this, goInt]
  | some a =>
    have hsr : ∀ j v, news[j]? = some v → w.cell? (a.add j) = some v := fun j v hj => by
      obtain ⟨a', ha', hc⟩ := hsrc.addr hj
      cases ha'
      exact hc j v hj
    have hmin : Nat.min m n = m := Nat.min_eq_left hmn
    have hrun := run_copy_rowS (P := P) w dT dT ty elem g 0 n c s a m c2 (xs ++ rest).toArray T news hu hs hB.get (by rw [hmin]; exact hl) hsr (by simp; omega) h1
    have hm : (goInt (Nat.min m n)) = .int .i64 (m : Nat) := by rw [hmin]; rfl
    rw [hm] at hrun
    refine ⟨_, _, hrun, hk _ ?_⟩
    have ecs : ((xs ++ rest).toArray.toList.take 0 ++ news ++ (xs ++ rest).toArray.toList.drop (0 + news.length)) = (news ++ xs.drop (m * s)) ++ rest := by
      rw [hl, Nat.zero_add]
      simp only [List.take_zero, List.nil_append]
      rw [List.drop_append_of_le_length (by omega), List.append_assoc]
    rw [ecs]
    refine Own.slMk (rest := rest) (by simp; omega) hf2 hf3 (by simp at hlr ⊢; omega) ?_
    refine hB.step ⟨rfl, rfl, rfl⟩ fun h1 hA hsub => ⟨one g _, one_self _ _, one_sub ?_, fun b hb => ?_, fun b hb hlt => ?_⟩
    · rw [setRow_heap w g _ _ T _ (hsub g _ hA)]
    · rw [one_ne hb]; left; rw [show h1 g = some _ from hA]; simp
    · refine setRow_other w g b _ ?_
      intro e; subst e; rw [show h1 b = some _ from hA] at hb; cases hb
end
theorem setFrom_pre (a : List Value) : ∀ (us b : List Value) (i : Nat), setFrom (a ++ b) (a.length + i) us = a ++ setFrom b i us
  | [], b, i => rfl
  | u :: us, b, i => by
    show setFrom ((a ++ b).set (a.length + i) u) (a.length + i + 1) us = a ++ setFrom (b.set i u) (i + 1) us
    rw [List.set_append_right _ _ (by omega), Nat.add_sub_cancel_left, Nat.add_assoc]
    exact setFrom_pre a us _ _
section
variable {α : Type} {f : α → List Value} {c : Nat}
theorem flat_set (hl : ∀ x, (f x).length = c) : ∀ (buf : List α) (i : Nat) (x : α), i < buf.length → setFrom (buf.flatMap f) (i * c) (f x) = (buf.set i x).flatMap f
  | [], i, x, hi => by cases hi
  | b :: r, 0, x, _ => by
    rw [Nat.zero_mul, List.flatMap_cons, List.set_cons_zero, List.flatMap_cons, setFrom_append _ _ _ _ (by rw [hl, hl]; omega)]
    have := setFrom_full (f x) (f b) [] (by rw [hl, hl])
    simp only [List.nil_append, List.length_nil] at this
    rw [this]
  | b :: r, i + 1, x, hi => by
    rw [List.flatMap_cons, List.set_cons_succ, List.flatMap_cons, show (i + 1) * c = (f b).length + i * c by rw [hl, Nat.add_mul]; omega, setFrom_pre, flat_set hl r i x (by simpa using hi)]
theorem nth_at : ∀ (l : List Value) (i : Nat), i < l.length → l[i]? = some (nth l i)
  | [], i, h => by cases h
  | a :: l, 0, _ => rfl
  | a :: l, i + 1, h => by
    rw [List.getElem?_cons_succ]
    exact nth_at l i (by simpa using h)
theorem zrep_flat (z : α) (hz : 0 < (f z).length) (n : Nat) : zrep (f z) n = (List.replicate n z).flatMap f := by
  induction n with
  | zero => simp [zrep]
  | succ n ih =>
    have e1 : zrep (f z) (n + 1) = zrep (f z) n ++ f z := by
      unfold zrep
      rw [Nat.succ_mul, List.range_add, List.map_append]
      congr 1
      apply List.ext_getElem
      · simp
      · intro i h1 h2
        simp only [List.getElem_map, List.getElem_range]
        rw [Nat.add_comm, Nat.add_mul_mod_self_right, Nat.mod_eq_of_lt h2]
        have := nth_at (f z) i h2
        rw [List.getElem?_eq_getElem h2] at this
        injection this with this
        exact this.symm
    rw [e1, ih, List.replicate_succ', List.flatMap_append]
    simp
end
/-! ### Items -/
structure Itm (V : Type) where
  k : Int
  p : Int
  c : Int
  v : V
  n : Int
  e : Int
  o : Int
  u : Int
  d : Int
abbrev itC {V : Type} (vf : V → Value) (x : Itm V) : List Value := [.int .i64 x.k, .int .u64 x.p, .int .u64 x.c, vf x.v, .int .i64 x.n, .int .i64 x.e, .int .i64 x.o, .int .i64 x.u, .int .i64 x.d]
theorem itC_len {V : Type} (vf : V → Value) (x : Itm V) : (itC vf x).length = 9 := rfl
abbrev itV {V : Type} (vf : V → Value) (x : Itm V) : Value := .agg #[.int .i64 x.k, .int .u64 x.p, .int .u64 x.c, vf x.v, .int .i64 x.n, .int .i64 x.e, .int .i64 x.o, .int .i64 x.u, .int .i64 x.d]
abbrev itZ {V : Type} (z : V) : Itm V := ⟨0, 0, 0, z, 0, 0, 0, 0, 0⟩
theorem itC_one {V : Type} {vf : V → Value} (hv : ∀ v, (vf v).oneCell' = true) (l : List (Itm V)) : ∀ u ∈ l.flatMap (itC vf), u.oneCell' = true := fun u hu => by
  obtain ⟨x, _, hx⟩ := List.mem_flatMap.1 hu
  simp only [itC, List.mem_cons, List.mem_nil_iff, or_false] at hx
  rcases hx with rfl | rfl | rfl | rfl | rfl | rfl | rfl | rfl | rfl
  all_goals first | rfl | exact hv _
theorem itC_onex {V : Type} {vf : V → Value} (hv : ∀ v, (vf v).oneCell' = true) (x : Itm V) : ∀ u ∈ itC vf x, u.oneCell' = true := fun u hu => itC_one hv [x] u (by simpa using hu)
/-- A ring: its places, the things, its room. -/
def ringM {V : Type} (T E : TypeId) (vf : V → Value) (g : Nat) (xs : List (Itm V)) (room : Nat) : HP :=
  exH fun q => exH fun c => exH fun L => exH fun front => exH fun buf => puH (RingOk L front buf xs room) (allH [blk g T [.slice q L c, .int .i64 (front : Int), .int .i64 (xs.length : Nat), .int .i64 (room : Int)], slO E 9 q L c (buf.flatMap (itC vf))])
section
variable {e w : World} {F : List HP} {V : Type} {T E : TypeId} {vf : V → Value} {g : Nat} {xs : List (Itm V)} {room : Nat}
theorem ringM.op (h : Own e w (ringM T E vf g xs room :: F)) : ∃ q c L front buf, RingOk L front buf xs room ∧ Own e w (blk g T [.slice q L c, .int .i64 (front : Int), .int .i64 (xs.length : Nat), .int .i64 (room : Int)] :: slO E 9 q L c (buf.flatMap (itC vf)) :: F) := by
  obtain ⟨q, h⟩ := h.ex
  obtain ⟨c, h⟩ := h.ex
  obtain ⟨L, h⟩ := h.ex
  obtain ⟨fr, h⟩ := h.ex
  obtain ⟨buf, h⟩ := h.ex
  obtain ⟨hok, h⟩ := h.pu
  exact ⟨q, c, L, fr, buf, hok, h.open_⟩
theorem ringM.cl {q : Option Addr} {c L front : Nat} {buf : List (Itm V)} (hok : RingOk L front buf xs room) (h : Own e w (blk g T [.slice q L c, .int .i64 (front : Int), .int .i64 (xs.length : Nat), .int .i64 (room : Int)] :: slO E 9 q L c (buf.flatMap (itC vf)) :: F)) : Own e w (ringM T E vf g xs room :: F) := by
  have h : Own e w ([blk g T [.slice q L c, .int .i64 (front : Int), .int .i64 (xs.length : Nat), .int .i64 (room : Int)], slO E 9 q L c (buf.flatMap (itC vf))] ++ F) := h
  exact Own.mkEx q (Own.mkEx c (Own.mkEx L (Own.mkEx front (Own.mkEx buf (Own.mkPu hok h.close_)))))
/-- The cells of a place, whatever comes. -/
theorem sl_adr {q : Option Addr} {L c i : Nat} {buf : List (Itm V)} (hi : i < buf.length) (h : Own e w (slO E 9 q L c (buf.flatMap (itC vf)) :: F)) :
    ∃ ad, q = some ad ∧ ∀ e w F, Own e w (slO E 9 q L c (buf.flatMap (itC vf)) :: F) → ∀ j u, (itC vf buf[i])[j]? = some u → cellAt w ((ad.add (Int.toNat (i : Int) * 9)).add j) u := by
  obtain ⟨ad, rfl, _⟩ := h.slRd.rec (itC_len vf) hi (by omega)
  refine ⟨ad, rfl, fun e w F h j u hj => ?_⟩
  obtain ⟨ad', ea, hc⟩ := h.slRd.rec (itC_len vf) hi (by omega)
  cases ea
  rw [Int.toNat_natCast]
  exact hc i hi j u hj
end
end Go.Proofs.Ytipcbhaeoeghnaa.Eng
