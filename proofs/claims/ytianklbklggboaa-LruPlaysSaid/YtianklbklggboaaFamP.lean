/- Families of blocks: one taken out, one put back; rings. -/
import Derived.Test.YtianklbklggboaaEngM
namespace Go.Proofs.Ytianklbklggboaa.Eng
open Go Go.RowKit Go.Proofs
set_option linter.unusedVariables false
set_option linter.unusedSimpArgs false
set_option maxRecDepth 1000000
theorem allH_perm {L L' : List HP} (p : L.Perm L') : ∀ h, allH L h → allH L' h := by
  induction p with
  | nil => intro h ha; exact ha
  | cons x _ ih => intro h ha; exact sepH_mono ha (fun _ h => h) ih
  | swap x y l => intro h ha; exact sepH_swap ha
  | trans _ _ h1 h2 => intro h ha; exact h2 h (h1 h ha)
theorem Own.perm {e w : World} {L L' : List HP} (h : Own e w L) (p : L.Perm L') : Own e w L' := by
  obtain ⟨he, k, hk, ha⟩ := h
  exact ⟨he, k, hk, allH_perm p k ha⟩
def famH (f : Nat → HP) (l : List Nat) : HP := allH (l.map f)
section
variable {e w : World} {F : List HP} {f : Nat → HP} {l : List Nat} {a : Nat} {X : HP}
theorem Own.famOpen (h : Own e w (famH f l :: F)) (ha : a ∈ l) : Own e w (f a :: famH f (l.erase a) :: F) := by
  have h1 : Own e w (l.map f ++ F) := h.open_
  have p1 : (l.map f ++ F).Perm ((l.erase a).map f ++ (f a :: F)) := by
    have p2 : (l.map f).Perm (f a :: (l.erase a).map f) := (List.perm_cons_erase ha).map f
    exact (p2.append_right F).trans List.perm_middle.symm
  have h2 : Own e w (famH f (l.erase a) :: f a :: F) := Own.close_ (h1.perm p1)
  exact h2.swap
theorem fam_congr {f g : Nat → HP} {l : List Nat} (h : ∀ b ∈ l, f b = g b) : famH f l = famH g l := by
  unfold famH; rw [List.map_congr_left h]
theorem Own.famClose {g : Nat → HP} (h : Own e w (g a :: famH f (l.erase a) :: F)) (hn : l.Nodup) (ha : a ∈ l) (hg : ∀ b, b ≠ a → g b = f b) : Own e w (famH g l :: F) := by
  have e1 : famH f (l.erase a) = famH g (l.erase a) := fam_congr fun b hb => (hg b (by
    rintro rfl
    exact (List.Nodup.not_mem_erase hn) hb)).symm
  rw [e1] at h
  have h1 : Own e w ((l.erase a).map g ++ (g a :: F)) := h.swap.open_
  have p1 : ((l.erase a).map g ++ (g a :: F)).Perm (l.map g ++ F) := by
    have p2 : (l.map g).Perm (g a :: (l.erase a).map g) := (List.perm_cons_erase ha).map g
    exact List.perm_middle.trans (p2.symm.append_right F)
  exact Own.close_ (h1.perm p1)
theorem Own.famAdd {g : Nat → HP} (h : Own e w (g a :: famH f l :: F)) (ha : a ∉ l) (hg : ∀ b, b ≠ a → g b = f b) : Own e w (famH g (a :: l) :: F) := by
  have e1 : famH f l = famH g l := fam_congr fun b hb => (hg b (by rintro rfl; exact ha hb)).symm
  rw [e1] at h
  have h1 : Own e w (l.map g ++ (g a :: F)) := h.swap.open_
  have h2 : Own e w ((a :: l).map g ++ F) := h1.perm List.perm_middle
  exact Own.close_ h2
theorem Own.famPerm {l' : List Nat} (h : Own e w (famH f l :: F)) (p : l.Perm l') : Own e w (famH f l' :: F) := by
  have h1 : Own e w (l.map f ++ F) := h.open_
  exact Own.close_ (h1.perm ((p.map f).append_right F))
end
/-! ### Rings -/
def updN (f : Nat → Nat) (a x : Nat) : Nat → Nat := fun b => if b = a then x else f b
theorem updN_same (f : Nat → Nat) (a x : Nat) : updN f a x a = x := if_pos rfl
theorem updN_ne {f : Nat → Nat} {a x b : Nat} (h : b ≠ a) : updN f a x b = f b := if_neg h
/-- From one through others to another: behind each stands the next one, ahead of that one the first. -/
def Lk (ah be : Nat → Nat) : Nat → List Nat → Nat → Prop
  | a, [], z => be a = z ∧ ah z = a
  | a, x :: xs, z => be a = x ∧ ah x = a ∧ Lk ah be x xs z
theorem Lk.app {ah be : Nat → Nat} {p z : Nat} {r : List Nat} : ∀ {l : List Nat} {a : Nat}, Lk ah be a (l ++ p :: r) z ↔ Lk ah be a l p ∧ Lk ah be p r z
  | [], a => ⟨fun ⟨h1, h2, h3⟩ => ⟨⟨h1, h2⟩, h3⟩, fun ⟨⟨h1, h2⟩, h3⟩ => ⟨h1, h2, h3⟩⟩
  | x :: l, a => by
    show (_ ∧ _ ∧ Lk ah be x (l ++ p :: r) z) ↔ (_ ∧ _ ∧ Lk ah be x l p) ∧ _
    rw [Lk.app (l := l)]
    constructor
    · rintro ⟨h1, h2, h3, h4⟩; exact ⟨⟨h1, h2, h3⟩, h4⟩
    · rintro ⟨⟨h1, h2, h3⟩, h4⟩; exact ⟨h1, h2, h3, h4⟩
theorem Lk.same {ah be ah' be' : Nat → Nat} {z : Nat} : ∀ {l : List Nat} {a : Nat}, Lk ah be a l z → (∀ x ∈ a :: l, be' x = be x) → (∀ x ∈ l ++ [z], ah' x = ah x) → Lk ah' be' a l z
  | [], a, ⟨h1, h2⟩, hb, ha => ⟨by rw [hb a (by simp)]; exact h1, by rw [ha z (by simp)]; exact h2⟩
  | x :: l, a, ⟨h1, h2, h3⟩, hb, ha => ⟨by rw [hb a (by simp)]; exact h1, by rw [ha x (by simp)]; exact h2, Lk.same h3 (fun y hy => hb y (by simp only [List.mem_cons] at hy ⊢; exact .inr hy)) (fun y hy => ha y (by simp only [List.cons_append, List.mem_cons]; exact .inr hy))⟩
theorem Lk.last_mem {ah be : Nat → Nat} {p : Nat} : ∀ {l : List Nat} {a : Nat}, Lk ah be a l p → ah p ∈ a :: l
  | [], a, ⟨_, h2⟩ => by rw [h2]; simp
  | x :: l, a, ⟨_, _, h3⟩ => by
    have := Lk.last_mem h3
    exact List.mem_cons_of_mem _ this
/-- The first part, led on to another end. -/
theorem Lk.turn {ah be : Nat → Nat} {p b : Nat} : ∀ {l : List Nat} {a : Nat}, Lk ah be a l p → (a :: l).Nodup → b ∉ l → Lk (updN ah b (ah p)) (updN be (ah p) b) a l b
  | [], a, ⟨_, h2⟩, hn, hb => ⟨by rw [h2]; exact updN_same _ _ _, by rw [updN_same, h2]⟩
  | x :: l, a, ⟨h1, h2, h3⟩, hn, hb => by
    have hn2 := List.nodup_cons.1 hn
    have hm := Lk.last_mem h3
    refine ⟨?_, ?_, Lk.turn h3 hn2.2 (fun hh => hb (List.mem_cons_of_mem _ hh))⟩
    · rw [updN_ne (fun h => hn2.1 (by rw [h]; exact hm))]; exact h1
    · rw [updN_ne (fun h => hb (by rw [← h]; simp))]; exact h2
/-- One leaves the ring. -/
theorem Lk.out {ah be : Nat → Nat} {root p : Nat} {l r : List Nat} (h : Lk ah be root (l ++ p :: r) root) (hn : (root :: (l ++ p :: r)).Nodup) :
    Lk (updN ah (be p) (ah p)) (updN be (ah p) (be p)) root (l ++ r) root := by
  obtain ⟨h1, h2⟩ := Lk.app.1 h
  have hn1 := List.nodup_cons.1 hn
  have hn2 := List.nodup_append.1 hn1.2
  have hn3 := List.nodup_cons.1 hn2.2.1
  have hrl : root ∉ l := fun hh => hn1.1 (List.mem_append_left _ hh)
  have hnl : (root :: l).Nodup := List.nodup_cons.2 ⟨hrl, hn2.1⟩
  have hm := Lk.last_mem h1
  cases r with
  | nil =>
    obtain ⟨h3, _⟩ := h2
    rw [List.append_nil, h3]
    exact Lk.turn h1 hnl hrl
  | cons y r =>
    obtain ⟨h3, _, h5⟩ := h2
    rw [h3]
    have hyl : y ∉ l := fun hh => hn2.2.2 _ hh _ (by simp) rfl
    refine Lk.app.2 ⟨Lk.turn h1 hnl hyl, Lk.same h5 (fun x hx => updN_ne ?_) (fun x hx => updN_ne ?_)⟩
    · rintro rfl
      rcases List.mem_cons.1 hm with h6 | h6
      · exact hn1.1 (by rw [← h6]; exact List.mem_append_right _ (List.mem_cons_of_mem _ hx))
      · exact hn2.2.2 _ h6 _ (List.mem_cons_of_mem _ hx) rfl
    · rintro rfl
      rcases List.mem_append.1 hx with h6 | h6
      · exact (List.nodup_cons.1 hn3.2).1 h6
      · have : x = root := List.mem_singleton.1 h6
        exact hn1.1 (by rw [← this]; exact List.mem_append_right _ (by simp))
/-- One comes to stand first. -/
theorem Lk.first {ah be : Nat → Nat} {root p : Nat} {l : List Nat} (h : Lk ah be root l root) (hn : (root :: p :: l).Nodup) :
    Lk (updN (updN ah p root) (be root) p) (updN (updN be p (be root)) root p) root (p :: l) root := by
  have hn1 := List.nodup_cons.1 hn
  have hn2 := List.nodup_cons.1 hn1.2
  have hpr : p ≠ root := fun hh => hn1.1 (by rw [hh]; simp)
  have hrl : root ∉ l := fun hh => hn1.1 (List.mem_cons_of_mem _ hh)
  have hpb : p ≠ be root := by
    cases l with
    | nil => rw [h.1]; exact hpr
    | cons y l => rw [h.1]; rintro rfl; exact hn2.1 (by simp)
  refine ⟨updN_same _ _ _, by rw [updN_ne hpb, updN_same], ?_⟩
  cases l with
  | nil =>
    obtain ⟨h1, _⟩ := h
    rw [h1]
    exact ⟨by rw [updN_ne hpr, updN_same], updN_same _ _ _⟩
  | cons y l =>
    obtain ⟨h1, _, h3⟩ := h
    rw [h1]
    have hyr : y ≠ root := fun hh => hrl (by rw [hh]; simp)
    have hyp : y ≠ p := fun hh => hn2.1 (by rw [hh]; simp)
    refine ⟨by rw [updN_ne hpr, updN_same], updN_same _ _ _, Lk.same h3 (fun x hx => ?_) (fun x hx => ?_)⟩
    · have hxr : x ≠ root := fun hh => hrl (by rw [← hh]; exact hx)
      have hxp : x ≠ p := fun hh => hn2.1 (by rw [← hh]; exact hx)
      rw [updN_ne hxr, updN_ne hxp]
    · have hyl : y ∉ l := (List.nodup_cons.1 hn2.2).1
      have hxy : x ≠ y := by
        rintro rfl
        rcases List.mem_append.1 hx with h6 | h6
        · exact hyl h6
        · exact hyr (List.mem_singleton.1 h6)
      have hxp : x ≠ p := by
        rintro rfl
        rcases List.mem_append.1 hx with h6 | h6
        · exact hn2.1 (List.mem_cons_of_mem _ h6)
        · exact hpr (List.mem_singleton.1 h6)
      rw [updN_ne hxy, updN_ne hxp]
end Go.Proofs.Ytianklbklggboaa.Eng
