/- Caches: nodes of a ring by keys, what is told of them, rows. -/
import Derived.Test.YtianklbklggboaaFamP
namespace Go.Proofs.Ytianklbklggboaa.Eng
open Go Go.RowKit Go.Proofs
set_option linter.unusedVariables false
set_option linter.unusedSimpArgs false
set_option linter.unusedSectionVars false
set_option maxRecDepth 1000000
abbrev Row (κ : Type) := κ × Int × Int
def nodeV {κ : Type} (kv : κ → Value) (x : Row κ) (pa pb : Option Addr) : List Value := [kv x.1, .int .i64 x.2.1, .int .i64 x.2.2, .pointer pa, .pointer pb]
abbrev adr (a : Nat) : Option Addr := some ⟨a, 0, none⟩
def node {κ : Type} (T : TypeId) (kv : κ → Value) (D : Nat → Row κ) (ah be : Nat → Nat) (a : Nat) : HP := blk a T (nodeV kv (D a) (adr (ah a)) (adr (be a)))
def updD {κ : Type} (D : Nat → Row κ) (p : Nat) (x : Row κ) : Nat → Row κ := fun b => if b = p then x else D b
section
variable {κ : Type} {e w : World} {F : List HP} {T : TypeId} {kv : κ → Value} {D : Nat → Row κ} {ah be : Nat → Nat} {l r : List Nat} {a p root : Nat} {x : Row κ} {pa pb : Option Addr}
theorem updD_self : updD D p (D p) = D := by
  funext b; unfold updD; split
  · rename_i e1; rw [e1]
  · rfl
theorem updD_same : updD D p x p = x := if_pos rfl
theorem updD_ne {b : Nat} (h : b ≠ p) : updD D p x b = D b := if_neg h
theorem map_updD (h : p ∉ l) : l.map (updD D p x) = l.map D := List.map_congr_left fun b hb => updD_ne (by rintro rfl; exact h hb)
theorem Own.ndRd (h : Own e w (famH (node T kv D ah be) l :: F)) (ha : a ∈ l) {k : Nat} {v : Value} (hv : (nodeV kv (D a) (adr (ah a)) (adr (be a)))[k]? = some v) : cellAt w ((⟨a, 0, none⟩ : Addr).add k) v :=
  Own.cellAdd (h.famOpen ha) k hv
theorem Own.ndStA {y : Nat} {K : World → Prop} (h : Own e w (famH (node T kv D ah be) l :: F)) (hn : l.Nodup) (ha : a ∈ l) (hk : ∀ w', Own e w' (famH (node T kv D (updN ah a y) be) l :: F) → K w') : StoreR ((⟨a, 0, none⟩ : Addr).add 3) [.pointer (adr y)] w K := by
  have h1 := h.famOpen ha
  refine Own.store (k := 3) (g := a) (T := T) h1 (by simp [nodeV]) (by simp [Value.oneCell']) fun w' h2 => hk w' ?_
  refine Own.famClose (f := node T kv D ah be) (a := a) ?_ hn ha (fun b hb => by unfold node; rw [updN_ne hb])
  show Own e w' (blk a T (nodeV kv (D a) (adr (updN ah a y a)) (adr (be a))) :: _)
  rw [updN_same]
  exact h2
theorem Own.ndStB {y : Nat} {K : World → Prop} (h : Own e w (famH (node T kv D ah be) l :: F)) (hn : l.Nodup) (ha : a ∈ l) (hk : ∀ w', Own e w' (famH (node T kv D ah (updN be a y)) l :: F) → K w') : StoreR ((⟨a, 0, none⟩ : Addr).add 4) [.pointer (adr y)] w K := by
  have h1 := h.famOpen ha
  refine Own.store (k := 4) (g := a) (T := T) h1 (by simp [nodeV]) (by simp [Value.oneCell']) fun w' h2 => hk w' ?_
  refine Own.famClose (f := node T kv D ah be) (a := a) ?_ hn ha (fun b hb => by unfold node; rw [updN_ne hb])
  show Own e w' (blk a T (nodeV kv (D a) (adr (ah a)) (adr (updN be a y a))) :: _)
  rw [updN_same]
  exact h2
theorem Own.ndNot {vs : List Value} {T2 : TypeId} (h : Own e w (blk p T2 vs :: famH (node T kv D ah be) l :: F)) : p ∉ l := fun hp => by
  have h1 := Own.famOpen h.swap hp
  have h2 : Own e w (node T kv D ah be p :: blk p T2 vs :: famH (node T kv D ah be) (l.erase p) :: F) := by
    have h3 := h1.perm (List.Perm.cons _ (List.Perm.swap _ _ _))
    exact h3
  exact h2.ne rfl
theorem Own.ndTake (h : Own e w (famH (node T kv D ah be) (root :: (l ++ p :: r)) :: F)) (hn : (root :: (l ++ p :: r)).Nodup) :
    Own e w (blk p T (nodeV kv (D p) (adr (ah p)) (adr (be p))) :: famH (node T kv D ah be) (root :: (l ++ r)) :: F) := by
  have hp : (root :: (l ++ p :: r)).Perm (p :: root :: (l ++ r)) := (List.Perm.cons _ List.perm_middle).trans (List.Perm.swap _ _ _)
  have h1 := h.famPerm hp
  have h2 := h1.famOpen (a := p) (by simp)
  have e1 : (p :: root :: (l ++ r)).erase p = root :: (l ++ r) := List.erase_cons_head _ _
  rw [e1] at h2
  exact h2
theorem Own.ndAdd {b : Nat} (h : Own e w (blk p T (nodeV kv x (adr root) (adr b)) :: famH (node T kv D (updN ah b p) (updN be root p)) (root :: l) :: F)) (hp : p ∉ root :: l) (hb : p ≠ b) :
    Own e w (famH (node T kv (updD D p x) (updN (updN ah p root) b p) (updN (updN be p b) root p)) (root :: p :: l) :: F) := by
  have hpr : p ≠ root := fun hh => hp (by rw [hh]; simp)
  refine Own.famPerm (l := p :: root :: l) ?_ (List.Perm.swap _ _ _)
  refine Own.famAdd (f := node T kv D (updN ah b p) (updN be root p)) ?_ hp (fun c hc => ?_)
  · show Own e w (blk p T (nodeV kv (updD D p x p) (adr (updN (updN ah p root) b p p)) (adr (updN (updN be p b) root p p))) :: _)
    rw [updD_same, updN_ne hb, updN_same, updN_ne hpr, updN_same]
    exact h
  · have e1 : updN (updN ah p root) b p c = updN ah b p c := by
      by_cases ec : c = b
      · rw [ec, updN_same, updN_same]
      · rw [updN_ne ec, updN_ne ec, updN_ne hc]
    have e2 : updN (updN be p b) root p c = updN be root p c := by
      by_cases ec : c = root
      · rw [ec, updN_same, updN_same]
      · rw [updN_ne ec, updN_ne ec, updN_ne hc]
    unfold node
    rw [e1, e2, updD_ne hc]
theorem Lk.be_mem (h : Lk ah be root l root) : be root ∈ root :: l := by
  cases l with
  | nil => rw [h.1]; simp
  | cons y l => rw [h.1]; simp
theorem Lk.ah_mem {a : Nat} (h : Lk ah be a (l ++ p :: r) root) : ah p ∈ a :: l := Lk.last_mem (Lk.app.1 h).1
theorem Lk.be_mem2 {a : Nat} (h : Lk ah be a (l ++ p :: r) root) : be p ∈ r ++ [root] := by
  have h2 := (Lk.app.1 h).2
  cases r with
  | nil => rw [h2.1]; simp
  | cons y r => rw [h2.1]; simp
theorem Lk.end_ {a : Nat} (h : Lk ah be a (l ++ [p]) root) : ah root = p := (Lk.app.1 h).2.2
/-! ### Rows -/
def us (xs : List (Row κ)) : Int := match xs with
  | [] => 0
  | x :: xs => x.2.2 + us xs
theorem us_app : ∀ (a b : List (Row κ)), us (a ++ b) = us a + us b
  | [], b => by simp [us]
  | x :: a, b => by simp only [List.cons_append, us, us_app a b]; omega
theorem us_nn : ∀ {a : List (Row κ)}, (∀ x ∈ a, 0 ≤ x.2.2) → 0 ≤ us a
  | [], _ => Int.le_refl 0
  | x :: a, h => by
    have h1 := h x (by simp)
    have h2 := us_nn (a := a) fun y hy => h y (by simp [hy])
    simp only [us]; omega
variable [DecidableEq κ]
def lkp (xs : List (Row κ)) (k : κ) : Option (Row κ) := xs.find? fun x => decide (x.1 = k)
def drp (xs : List (Row κ)) (k : κ) : List (Row κ) := xs.filter fun x => decide (x.1 ≠ k)
def fst1 (xs : List (Row κ)) (k : κ) : List (Row κ) := match lkp xs k with
  | some x => x :: drp xs k
  | none => xs
/-- What a cache's rows are bound to. -/
def LrB (xs : List (Row κ)) (most : Int) : Prop := (∀ x ∈ xs, 0 ≤ x.2.2) ∧ us xs ≤ most ∧ 0 ≤ most ∧ most ≤ 4611686018427387904
omit [DecidableEq κ] in
theorem LrB.nn {xs : List (Row κ)} {most : Int} (h : LrB xs most) : 0 ≤ us xs := us_nn h.1
omit [DecidableEq κ] in
theorem LrB.sub {xs ys zs : List (Row κ)} {most : Int} (h : LrB (xs ++ ys ++ zs) most) : LrB (xs ++ zs) most ∧ LrB ys most := by
  obtain ⟨h1, h2, h3⟩ := h
  rw [us_app, us_app] at h2
  have hx := us_nn (a := xs) fun x hx => h1 x (by simp [hx])
  have hy := us_nn (a := ys) fun x hx => h1 x (by simp [hx])
  have hz := us_nn (a := zs) fun x hx => h1 x (by simp [hx])
  refine ⟨⟨fun x hx => h1 x ?_, by rw [us_app]; omega, h3⟩, ⟨fun x hx => h1 x (by simp [hx]), by omega, h3⟩⟩
  rcases List.mem_append.1 hx with h | h
  · simp [h]
  · simp [h]
abbrev ptr (a : Nat) : Value := .pointer (adr a)
def LrF (kv : κ → Value) (root : Nat) (D : Nat → Row κ) (ah be : Nat → Nat) (ns : List Nat) (f : Value → Option Value) (xs : List (Row κ)) : Prop :=
  (root :: ns).Nodup ∧ Lk ah be root ns root ∧ (∀ a ∈ ns, f (kv (D a).1) = some (ptr a)) ∧ (∀ k v, f k = some v → ∃ a ∈ ns, kv (D a).1 = k ∧ v = ptr a) ∧ xs = ns.map D
variable {ns : List Nat} {f : Value → Option Value} {xs : List (Row κ)} {k : κ}
omit [DecidableEq κ] in
theorem ptr_inj {a b : Nat} (h : ptr a = ptr b) : a = b := by
  have h := Value.pointer.inj h
  have h := Option.some.inj h
  exact congrArg Addr.block h
theorem LrF.none_ (h : LrF kv root D ah be ns f xs) (hf : f (kv k) = none) : lkp xs k = none ∧ drp xs k = xs := by
  obtain ⟨_, _, h3, _, rfl⟩ := h
  have hne : ∀ x ∈ ns.map D, x.1 ≠ k := fun x hx => by
    obtain ⟨a, ha, rfl⟩ := List.mem_map.1 hx
    rintro e1
    have := h3 a ha
    rw [e1, hf] at this; cases this
  exact ⟨List.find?_eq_none.2 fun x hx => by simpa using hne x hx, List.filter_eq_self.2 fun x hx => by simpa using hne x hx⟩
theorem LrF.some_ (hkv : ∀ a b, kv a = kv b → a = b) (h : LrF kv root D ah be ns f xs) {v : Value} (hf : f (kv k) = some v) : ∃ l p r, ns = l ++ p :: r ∧ v = ptr p ∧ (D p).1 = k ∧ lkp xs k = some (D p) ∧ drp xs k = (l ++ r).map D := by
  obtain ⟨h1, _, h3, h4, rfl⟩ := h
  obtain ⟨p, hp, e1, e2⟩ := h4 _ _ hf
  have e1 := hkv _ _ e1
  obtain ⟨l, r, rfl⟩ := List.append_of_mem hp
  have hd := (List.nodup_cons.1 h1).2
  have hne : ∀ a ∈ l ++ p :: r, (D a).1 = k → a = p := fun a ha ek => by
    have := h3 a ha
    rw [ek, hf, e2] at this
    exact (ptr_inj (Option.some.inj this)).symm
  have hdl : ∀ a ∈ l, ¬ (D a).1 = k := fun a ha ek => by
    have := hne a (List.mem_append_left _ ha) ek
    exact (List.nodup_append.1 hd).2.2 a ha p (by simp) this
  have hdr : ∀ a ∈ r, ¬ (D a).1 = k := fun a ha ek => by
    have := hne a (List.mem_append_right _ (List.mem_cons_of_mem _ ha)) ek
    rw [this] at ha
    exact (List.nodup_cons.1 (List.nodup_append.1 hd).2.1).1 ha
  refine ⟨l, p, r, rfl, e2, e1, ?_, ?_⟩
  · unfold lkp
    rw [List.map_append, List.find?_append, List.find?_eq_none.2 (fun x hx => by
      obtain ⟨a, ha, rfl⟩ := List.mem_map.1 hx
      simpa using hdl a ha)]
    simp [e1]
  · unfold drp
    rw [List.map_append, List.map_append, List.filter_append, List.filter_eq_self.2 (fun x hx => by
      obtain ⟨a, ha, rfl⟩ := List.mem_map.1 hx
      simpa using hdl a ha), List.map_cons, List.filter_cons, if_neg (by simp [e1]), List.filter_eq_self.2 (fun x hx => by
      obtain ⟨a, ha, rfl⟩ := List.mem_map.1 hx
      simpa using hdr a ha)]
/-- Another one first. -/
theorem LrF.turned (h : LrF kv root D ah be (l ++ p :: r) f xs) {ah' be' : Nat → Nat} (hl : Lk ah' be' root (p :: (l ++ r)) root) : LrF kv root D ah' be' (p :: (l ++ r)) f (D p :: (l ++ r).map D) := by
  obtain ⟨h1, _, h3, h4, _⟩ := h
  have hp : (root :: (l ++ p :: r)).Perm (root :: p :: (l ++ r)) := List.Perm.cons _ List.perm_middle
  have hm : ∀ a, a ∈ l ++ p :: r ↔ a ∈ p :: (l ++ r) := fun a => (List.perm_middle).mem_iff
  refine ⟨hp.nodup_iff.1 h1, hl, fun a ha => h3 a ((hm a).2 ha), fun k v hk => ?_, rfl⟩
  obtain ⟨a, ha, h5⟩ := h4 k v hk
  exact ⟨a, (hm a).1 ha, h5⟩
theorem LrF.dropped (h : LrF kv root D ah be (l ++ p :: r) f xs) (hp : (D p).1 = k) {ah' be' : Nat → Nat} {f' : Value → Option Value} (hl : Lk ah' be' root (l ++ r) root) (h1 : f' (kv k) = none) (h2 : ∀ y, y ≠ kv k → f' y = f y) :
    LrF kv root D ah' be' (l ++ r) f' ((l ++ r).map D) := by
  obtain ⟨g1, _, g3, g4, _⟩ := h
  have hperm : (root :: (l ++ p :: r)).Perm (p :: root :: (l ++ r)) := (List.Perm.cons _ List.perm_middle).trans (List.Perm.swap _ _ _)
  have g5 := hperm.nodup_iff.1 g1
  have g6 := List.nodup_cons.1 g5
  have hm : ∀ a, a ∈ l ++ p :: r ↔ a ∈ p :: (l ++ r) := fun a => (List.perm_middle).mem_iff
  refine ⟨g6.2, hl, fun a ha => ?_, fun y v hy => ?_, rfl⟩
  · have g7 := g3 a ((hm a).2 (List.mem_cons_of_mem _ ha))
    rw [h2 _ fun ek => ?_]
    · exact g7
    · have g8 := g3 p (by simp)
      rw [hp, ← ek, g7] at g8
      have := ptr_inj (Option.some.inj g8)
      exact g6.1 (by rw [← this]; exact List.mem_cons_of_mem _ ha)
  · by_cases ey : y = kv k
    · rw [ey, h1] at hy; cases hy
    · rw [h2 y ey] at hy
      obtain ⟨a, ha, h5, h6⟩ := g4 y v hy
      rcases List.mem_cons.1 ((hm a).1 ha) with rfl | ha
      · exact absurd (by rw [← h5, hp]) ey
      · exact ⟨a, ha, h5, h6⟩
theorem LrF.added (h : LrF kv root D ah be ns f xs) (hp : p ∉ root :: ns) {x : Row κ} (hx : x.1 = k) (hf : f (kv k) = none) {ah' be' : Nat → Nat} {f' : Value → Option Value} (hl : Lk ah' be' root (p :: ns) root) (h1 : f' (kv k) = some (ptr p)) (h2 : ∀ y, y ≠ kv k → f' y = f y) :
    LrF kv root (updD D p x) ah' be' (p :: ns) f' (x :: xs) := by
  obtain ⟨g1, _, g3, g4, rfl⟩ := h
  have hpn : p ∉ ns := fun hh => hp (List.mem_cons_of_mem _ hh)
  have hpr : p ≠ root := fun hh => hp (by rw [hh]; simp)
  have g2 := List.nodup_cons.1 g1
  refine ⟨List.nodup_cons.2 ⟨fun hh => ?_, List.nodup_cons.2 ⟨hpn, g2.2⟩⟩, hl, fun a ha => ?_, fun y v hy => ?_, ?_⟩
  · rcases List.mem_cons.1 hh with hh | hh
    · exact hpr hh.symm
    · exact g2.1 hh
  · rcases List.mem_cons.1 ha with rfl | ha
    · rw [updD_same, hx]; exact h1
    · have hap : a ≠ p := fun hh => hpn (by rw [← hh]; exact ha)
      rw [updD_ne hap]
      have g7 := g3 a ha
      rw [h2 _ fun ek => ?_]
      · exact g7
      · rw [ek, hf] at g7; cases g7
  · by_cases ey : y = kv k
    · rw [ey, h1] at hy
      exact ⟨p, by simp, by rw [updD_same, hx, ey], (Option.some.inj hy).symm⟩
    · rw [h2 y ey] at hy
      obtain ⟨a, ha, h5, h6⟩ := g4 y v hy
      have hap : a ≠ p := fun hh => hpn (by rw [← hh]; exact ha)
      exact ⟨a, List.mem_cons_of_mem _ ha, by rw [updD_ne hap]; exact h5, h6⟩
  · rw [List.map_cons, updD_same, map_updD hpn]
/-- How many rows stay, so that what is used is within a limit. -/
def Evt (xs : List (Row κ)) (lim : Int) (j : Nat) : Prop := j ≤ xs.length ∧ us (xs.take j) ≤ lim ∧ ∀ i, j < i → i ≤ xs.length → lim < us (xs.take i)
omit [DecidableEq κ] in
theorem Evt.uniq {xs : List (Row κ)} {lim : Int} {i j : Nat} (h : Evt xs lim i) (g : Evt xs lim j) : i = j := by
  obtain ⟨h1, h2, h3⟩ := h
  obtain ⟨g1, g2, g3⟩ := g
  rcases Nat.lt_trichotomy i j with hh | hh | hh
  · have := h3 j hh g1; omega
  · exact hh
  · have := g3 i hh h1; omega
end
end Go.Proofs.Ytianklbklggboaa.Eng
