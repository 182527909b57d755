/- Caches: what each function does. -/
import Derived.Test.YtianklbklggboaaLrA
import Derived.Test.YtianklbklggboaaLruG
namespace Go.Proofs.Ytianklbklggboaa.Eng
open Go Go.RowKit Go.Proofs
set_option linter.unusedVariables false
set_option linter.unusedSimpArgs false
set_option linter.unusedSectionVars false
set_option maxRecDepth 1000000
theorem zeroV_run' {P : Program} {T : TypeId} {z : Value} (h : ((P.info? T).bind fun i => i.zero) = some z) : ∀ w, (zeroValue T).run P w = .ok z w := by
  cases hi : P.info? T with
  | none => rw [hi] at h; cases h
  | some i => rw [hi] at h; exact zeroV_run hi h
section
variable {κ : Type} {kv : κ → Value} {root : Nat} {D : Nat → Row κ} {ah be : Nat → Nat} {ns : List Nat} {f : Value → Option Value} {xs ys : List (Row κ)} {k : κ}
theorem LrF.keys (h : LrF kv root D ah be ns f xs) : (xs.map Prod.fst).Nodup := by
  obtain ⟨h1, _, h3, _, rfl⟩ := h
  have hn := (List.nodup_cons.1 h1).2
  rw [List.map_map]
  refine List.pairwise_map.2 (List.Pairwise.imp_of_mem ?_ hn)
  intro a b ha hb hab e1
  have e1 : (D a).1 = (D b).1 := e1
  have g1 := h3 a ha
  rw [e1, h3 b hb] at g1
  exact hab (ptr_inj (Option.some.inj g1)).symm
theorem LrF.noKey (hkv : ∀ a b, kv a = kv b → a = b) (h : LrF kv root D ah be ns f xs) (hne : ∀ x ∈ xs, x.1 ≠ k) : f (kv k) = none := by
  obtain ⟨_, _, _, h4, rfl⟩ := h
  cases hf : f (kv k) with
  | none => rfl
  | some v =>
    obtain ⟨a, ha, e1, _⟩ := h4 _ _ hf
    exact absurd (hkv _ _ e1) (hne (D a) (List.mem_map.2 ⟨a, ha, rfl⟩))
def gonV (kv : κ → Value) (ys : List (Row κ)) (j : Nat) : List Value := ((ys.drop j).reverse).map fun x => kv x.1
theorem gonV_len {j : Nat} : (gonV kv ys j).length = ys.length - j := by simp [gonV]
theorem gonV_all : gonV kv ys ys.length = [] := by simp [gonV]
theorem gonV_step {j : Nat} (h : j < ys.length) : gonV kv ys j = gonV kv ys (j + 1) ++ [kv (ys[j]).1] := by
  unfold gonV
  rw [List.drop_eq_getElem_cons h]
  simp only [List.reverse_cons, List.map_append, List.map_cons, List.map_nil]
theorem take_step {j : Nat} (h : j < ys.length) : ys.take (j + 1) = ys.take j ++ [ys[j]] := (List.take_append_getElem h).symm
variable [DecidableEq κ]
theorem drp_last {x : Row κ} (h : ((xs ++ [x]).map Prod.fst).Nodup) : drp (xs ++ [x]) x.1 = xs := by
  unfold drp
  rw [List.map_append] at h
  have h2 := (List.nodup_append.1 h).2.2
  rw [List.filter_append, List.filter_eq_self.2 (fun y hy => ?_)]
  · simp
  · have := h2 y.1 (List.mem_map.2 ⟨y, hy, rfl⟩) x.1 (by simp)
    simpa using this
theorem drp_not : ∀ x ∈ drp xs k, x.1 ≠ k := fun x hx => by simpa using (List.mem_filter.1 hx).2
theorem LrB.drp {most : Int} (k : κ) : ∀ {xs : List (Row κ)}, LrB xs most → LrB (drp xs k) most ∧ us (drp xs k) ≤ us xs
  | [], h => ⟨h, Int.le_refl _⟩
  | x :: xs, h => by
    obtain ⟨h1, h2, h3⟩ := h
    have hx := h1 x (by simp)
    simp only [us] at h2
    obtain ⟨g1, g2⟩ := LrB.drp k (xs := xs) ⟨fun y hy => h1 y (by simp [hy]), by omega, h3⟩
    by_cases e1 : x.1 = k
    · have e2 : Eng.drp (x :: xs) k = Eng.drp xs k := by simp [Eng.drp, e1]
      rw [e2]; exact ⟨g1, by simp only [us]; omega⟩
    · have e2 : Eng.drp (x :: xs) k = x :: Eng.drp xs k := by simp [Eng.drp, e1]
      rw [e2]
      refine ⟨⟨fun y hy => ?_, by simp only [us]; omega, h3⟩, by simp only [us]; omega⟩
      rcases List.mem_cons.1 hy with rfl | hy
      · exact hx
      · exact g1.1 y hy
omit [DecidableEq κ] in
theorem LrB.take {most : Int} (h : LrB xs most) (j : Nat) : LrB (xs.take j) most := by
  have e1 : xs = xs.take j ++ xs.drop j ++ [] := by simp
  rw [e1] at h
  have := h.sub.1
  simpa using this
theorem drp_len : (drp xs k).length ≤ xs.length := List.length_filter_le _ _
omit [DecidableEq κ] in
theorem LrB.turn {most : Int} {a b : List (Row κ)} {x : Row κ} (h : LrB (a ++ x :: b) most) : LrB (x :: (a ++ b)) most ∧ us (x :: (a ++ b)) = us (a ++ x :: b) := by
  have e1 : us (x :: (a ++ b)) = us (a ++ x :: b) := by simp only [us, us_app]; omega
  refine ⟨⟨fun y hy => h.1 y ?_, by rw [e1]; exact h.2.1, h.2.2⟩, e1⟩
  simp only [List.mem_cons, List.mem_append] at hy ⊢
  rcases hy with h | h | h
  · exact .inr (.inl h)
  · exact .inl h
  · exact .inr (.inr h)
def lval (o : Option (Row κ)) : Int := (o.map fun x => x.2.1).getD 0
end
abbrev lcut (n : Int) : Int := maxI 0 (minI n 4611686018427387904)
theorem lcut_b (n : Int) : 0 ≤ lcut n ∧ lcut n ≤ 4611686018427387904 := by
  unfold lcut maxI minI; split <;> split <;> omega
theorem kvi (a b : Int) (h : Value.int .i64 a = Value.int .i64 b) : a = b := by cases h; rfl
theorem kvs (a b : ByteArray) (h : Value.string a = Value.string b) : a = b := by cases h; rfl
/-! ### Of int -/
abbrev lru0_int (g r root : Nat) (D : Nat → Row Int) (ah be : Nat → Nat) (ns : List Nat) (f : Value → Option Value) (u most : Int) : List HP :=
  [blk g 59 [.map (some r), .pointer (some ⟨root, 0, none⟩), .int .i64 u, .int .i64 most], mpO (TypeDesc.int .i64) r f ns.length, famH (node 57 (Value.int .i64) D ah be) (root :: ns)]
def lru_int (g : Nat) (most : Int) (xs : List (Row Int)) : HP := exH fun (s : Nat × Nat × (Nat → Row Int) × (Nat → Nat) × (Nat → Nat) × List Nat × (Value → Option Value)) =>
  puH (LrF (Value.int .i64) s.2.1 s.2.2.1 s.2.2.2.1 s.2.2.2.2.1 s.2.2.2.2.2.1 s.2.2.2.2.2.2 xs ∧ LrB xs most) (allH (lru0_int g s.1 s.2.1 s.2.2.1 s.2.2.2.1 s.2.2.2.2.1 s.2.2.2.2.2.1 s.2.2.2.2.2.2 (us xs) most))
section
variable {e w : World} {F : List HP} {g : Nat} {most : Int} {xs : List (Row Int)}
theorem lru_int_op (h : Own e w (lru_int g most xs :: F)) : ∃ r root D ah be ns f, LrF (Value.int .i64) root D ah be ns f xs ∧ LrB xs most ∧
    Own e w (blk g 59 [.map (some r), .pointer (some ⟨root, 0, none⟩), .int .i64 (us xs), .int .i64 most] :: mpO (TypeDesc.int .i64) r f ns.length :: famH (node 57 (Value.int .i64) D ah be) (root :: ns) :: F) := by
  obtain ⟨⟨r, root, D, ah, be, ns, f⟩, h⟩ := h.ex
  obtain ⟨⟨h1, h2⟩, h⟩ := h.pu
  exact ⟨r, root, D, ah, be, ns, f, h1, h2, h.open_⟩
theorem lru_int_cl {r root : Nat} {D : Nat → Row Int} {ah be : Nat → Nat} {ns : List Nat} {f : Value → Option Value} (h1 : LrF (Value.int .i64) root D ah be ns f xs) (h2 : LrB xs most)
    (h : Own e w (blk g 59 [.map (some r), .pointer (some ⟨root, 0, none⟩), .int .i64 (us xs), .int .i64 most] :: mpO (TypeDesc.int .i64) r f ns.length :: famH (node 57 (Value.int .i64) D ah be) (root :: ns) :: F)) : Own e w (lru_int g most xs :: F) := by
  have h : Own e w (lru0_int g r root D ah be ns f (us xs) most ++ F) := h
  have h := h.close_
  exact Own.mkEx (P := fun (s : Nat × Nat × (Nat → Row Int) × (Nat → Nat) × (Nat → Nat) × List Nat × (Value → Option Value)) => puH (LrF (Value.int .i64) s.2.1 s.2.2.1 s.2.2.2.1 s.2.2.2.2.1 s.2.2.2.2.2.1 s.2.2.2.2.2.2 xs ∧ LrB xs most) (allH (lru0_int g s.1 s.2.1 s.2.2.1 s.2.2.2.1 s.2.2.2.2.1 s.2.2.2.2.2.1 s.2.2.2.2.2.2 (us xs) most))) (r, root, D, ah, be, ns, f) (Own.mkPu ⟨h1, h2⟩ h)
theorem lrNew_int {m : Int} (h : Own e w F) : Rets Try.prog 6 #[.int .i64 m] w fun v w' => ∃ g, v = .pointer (some ⟨g, 0, none⟩) ∧ Own e w' (lru_int g (lcut m) [] :: F) := by
  refine lru_New_int_int_go _ (h.mapNew (d := (TypeDesc.int .i64)) fun r w h => h.newR fun root w h => cost_Cut_go _ ⟨_, rfl, h.newR fun g w h => ?_⟩)
  refine h.drw fun w h => ⟨_, (Own.ld h (by repeat (first | with_reducible exact Pick.here | apply Pick.there)) (by rfl)), _, (Own.ld h (by repeat (first | with_reducible exact Pick.here | apply Pick.there)) (by rfl)), _, (Own.ld h (by repeat (first | with_reducible exact Pick.here | apply Pick.there)) (by rfl)), _, (Own.ld h (by repeat (first | with_reducible exact Pick.here | apply Pick.there)) (by rfl)), smR ?_⟩
  refine Own.stP h (by repeat (first | with_reducible exact Pick.here | apply Pick.there)) (by simp) (by simp [Value.oneCell']) fun w h => ?_
  simp only [setFrom, List.set_cons_zero, List.set_cons_succ, List.set_nil] at h
  refine smR ?_
  refine Own.stP h (by repeat (first | with_reducible exact Pick.here | apply Pick.there)) (by simp) (by simp [Value.oneCell']) fun w h => ?_
  simp only [setFrom, List.set_cons_zero, List.set_cons_succ, List.set_nil] at h
  refine ⟨g, rfl, ?_⟩
  have h : Own e w (blk root 57 [(Value.int .i64) (0 : Int), .int .i64 0, .int .i64 0, .pointer (some ⟨root, 0, none⟩), .pointer (some ⟨root, 0, none⟩)] :: blk g 59 [.map (some r), .pointer (some ⟨root, 0, none⟩), .int .i64 0, .int .i64 (lcut m)] :: mpO (TypeDesc.int .i64) r (fun _ => none) 0 :: F) := (Own.sub (h) (by repeat (first | exact Sub.nil _ | exact Sub.rfl _ | (apply Sub.cons; focus ((repeat (first | with_reducible exact Pick.here | apply Pick.there)); done)) | apply Sub.drop)))
  have h : Own e w ([node 57 (Value.int .i64) (fun _ => ((0 : Int), (0 : Int), (0 : Int))) (fun _ => root) (fun _ => root) root] ++ (blk g 59 [.map (some r), .pointer (some ⟨root, 0, none⟩), .int .i64 0, .int .i64 (lcut m)] :: mpO (TypeDesc.int .i64) r (fun _ => none) 0 :: F)) := h
  have h := h.close_
  have h : Own e w (famH (node 57 (Value.int .i64) (fun _ => ((0 : Int), (0 : Int), (0 : Int))) (fun _ => root) (fun _ => root)) (root :: []) :: blk g 59 [.map (some r), .pointer (some ⟨root, 0, none⟩), .int .i64 0, .int .i64 (lcut m)] :: mpO (TypeDesc.int .i64) r (fun _ => none) 0 :: F) := h
  have h : Own e w (famH (node 57 (Value.int .i64) (fun _ => ((0 : Int), (0 : Int), (0 : Int))) (fun _ => root) (fun _ => root)) (root :: []) :: blk g 59 [.map (some r), .pointer (some ⟨root, 0, none⟩), .int .i64 (us ([] : List (Row Int))), .int .i64 (lcut m)] :: mpO (TypeDesc.int .i64) r (fun _ => none) ([] : List Nat).length :: F) := h
  refine lru_int_cl (D := fun _ => ((0 : Int), (0 : Int), (0 : Int))) (ah := fun _ => root) (be := fun _ => root) (ns := []) (f := fun _ => none) (r := r) (root := root) ?_ ⟨by simp, (lcut_b m).1, lcut_b m⟩ (Own.sub (h) (by repeat (first | exact Sub.nil _ | exact Sub.rfl _ | (apply Sub.cons; focus ((repeat (first | with_reducible exact Pick.here | apply Pick.there)); done)) | apply Sub.drop)))
  exact ⟨by simp, ⟨rfl, rfl⟩, by simp, fun _ _ hh => (by cases hh), rfl⟩
theorem lrPeek_int {k : Int} (h : Own e w (lru_int g most xs :: F)) : Rets Try.prog 9 #[.pointer (some ⟨g, 0, none⟩), (Value.int .i64) k] w fun v w' => v = .tuple #[.int .i64 (lval (lkp xs k)), .bool (lkp xs k).isSome] ∧ w' = w := by
  obtain ⟨r, root, D, ah, be, ns, f, hF, hB, h⟩ := lru_int_op h
  refine lru_Cache_int_int_Peek_go _ _ ⟨fun hc => (by cases hc), fun _ => ⟨_, (Own.ld h (by repeat (first | with_reducible exact Pick.here | apply Pick.there)) (by rfl)), ?_⟩⟩
  refine Own.mapGet (d := (TypeDesc.int .i64)) (kt := 3) (et := 55) (n := ns.length) (f := f) (r := r) (z := .pointer none) (h := (Own.pk h (by repeat (first | with_reducible exact Pick.here | apply Pick.there)))) (by kernel_rfl) (by kernel_rfl) (by simp [MapKept.IsKey]) (zeroV_run' (by kernel_rfl)) ?_
  cases hf : f ((Value.int .i64) k) with
  | none =>
    refine ⟨_, _, rfl, fun _ => ⟨?_, rfl⟩, fun hc => (by cases hc)⟩
    rw [(hF.none_ hf).1]; rfl
  | some v =>
    obtain ⟨l, p, rr, rfl, rfl, e1, e2, e3⟩ := hF.some_ kvi hf
    refine ⟨_, _, rfl, fun hc => (by cases hc), fun _ => smR ⟨_, Own.ndRd (h := h.drop.drop) (a := p) (k := 1) (by simp) rfl, ?_, rfl⟩⟩
    rw [e2]; rfl
theorem lrUsed_int (h : Own e w (lru_int g most xs :: F)) : Rets Try.prog 10 #[.pointer (some ⟨g, 0, none⟩)] w fun v w' => v = .int .i64 (us xs) ∧ w' = w := by
  obtain ⟨r, root, D, ah, be, ns, f, hF, hB, h⟩ := lru_int_op h
  exact lru_Cache_int_int_Used_go _ ⟨fun hc => (by cases hc), fun _ => ⟨_, (Own.ld h (by repeat (first | with_reducible exact Pick.here | apply Pick.there)) (by rfl)), rfl, rfl⟩⟩
variable {r root p : Nat} {D : Nat → Row Int} {ah be : Nat → Nat} {ns l rr : List Nat} {f : Value → Option Value} {x : Row Int} {pa pb : Option Addr} {u : Value} {mv : Value} {qm : Value}
theorem lrOut_int (h : Own e w (famH (node 57 (Value.int .i64) D ah be) (root :: (l ++ p :: rr)) :: F)) (hn : (root :: (l ++ p :: rr)).Nodup) (hl : Lk ah be root (l ++ p :: rr) root) :
    Rets Try.prog 23 #[.pointer (some ⟨g, 0, none⟩), .pointer (some ⟨p, 0, none⟩)] w fun v w' => v = .tuple #[] ∧ ∃ ah' be' pa pb, Lk ah' be' root (l ++ rr) root ∧ Own e w' (blk p 57 (nodeV (Value.int .i64) (D p) pa pb) :: famH (node 57 (Value.int .i64) D ah' be') (root :: (l ++ rr)) :: F) := by
  have hp : p ∈ root :: (l ++ p :: rr) := by simp
  have ha : ah p ∈ root :: (l ++ p :: rr) := by
    have := hl.ah_mem
    simp only [List.mem_cons, List.mem_append] at this ⊢
    rcases this with h | h
    · exact .inl h
    · exact .inr (.inl h)
  have hb : be p ∈ root :: (l ++ p :: rr) := by
    have := hl.be_mem2
    simp only [List.mem_cons, List.mem_append, List.not_mem_nil, or_false] at this ⊢
    rcases this with h | h
    · exact .inr (.inr (.inr h))
    · exact .inl h
  refine lru_Cache_int_int_out_go _ _ (h.drw fun w h => ⟨_, h.ndRd hp (k := 3) rfl, _, h.ndRd hp (k := 4) rfl, _, h.ndRd hp (k := 4) rfl, _, h.ndRd hp (k := 3) rfl, smR ?_⟩)
  refine Own.ndStB h hn ha fun w h => smR (Own.ndStA h hn hb fun w h => ⟨rfl, _, _, _, _, Lk.out hl hn, Own.ndTake h hn⟩)
theorem lrFirst_int (h : Own e w (blk p 57 (nodeV (Value.int .i64) x pa pb) :: blk g 59 [qm, .pointer (some ⟨root, 0, none⟩), u, mv] :: famH (node 57 (Value.int .i64) D ah be) (root :: ns) :: F)) (hn : (root :: ns).Nodup) (hl : Lk ah be root ns root) :
    Rets Try.prog 24 #[.pointer (some ⟨g, 0, none⟩), .pointer (some ⟨p, 0, none⟩)] w fun v w' => v = .tuple #[] ∧ p ∉ root :: ns ∧ ∃ ah' be', Lk ah' be' root (p :: ns) root ∧ Own e w' (blk g 59 [qm, .pointer (some ⟨root, 0, none⟩), u, mv] :: famH (node 57 (Value.int .i64) (updD D p x) ah' be') (root :: p :: ns) :: F) := by
  have hp : p ∉ root :: ns := Own.ndNot (h := (h.swap).drop)
  have hnp : (root :: p :: ns).Nodup := (List.Perm.swap _ _ _).nodup_iff.1 (List.nodup_cons.2 ⟨hp, hn⟩)
  have hpb : p ≠ be root := fun hh => hp (by rw [hh]; exact hl.be_mem)
  have h : Own e w (famH (node 57 (Value.int .i64) D ah be) (root :: ns) :: blk p 57 (nodeV (Value.int .i64) x pa pb) :: blk g 59 [qm, .pointer (some ⟨root, 0, none⟩), u, mv] :: F) := (Own.sub (h) (by repeat (first | exact Sub.nil _ | exact Sub.rfl _ | (apply Sub.cons; focus ((repeat (first | with_reducible exact Pick.here | apply Pick.there)); done)) | apply Sub.drop)))
  refine lru_Cache_int_int_first_go _ _ (h.drw fun w h => ⟨_, (Own.ld h (by repeat (first | with_reducible exact Pick.here | apply Pick.there)) (by rfl)), _, (Own.ld h (by repeat (first | with_reducible exact Pick.here | apply Pick.there)) (by rfl)), smR ⟨_, h.ndRd (a := root) (k := 4) (by simp) rfl, ?_⟩⟩)
  unfold nodeV at h
  refine Own.stP h (by repeat (first | with_reducible exact Pick.here | apply Pick.there)) (by simp) (by simp [Value.oneCell']) fun w h => ?_
  simp only [setFrom, List.set_cons_zero, List.set_cons_succ, List.set_nil] at h
  refine Own.stP h (by repeat (first | with_reducible exact Pick.here | apply Pick.there)) (by simp) (by simp [Value.oneCell']) fun w h => ?_
  simp only [setFrom, List.set_cons_zero, List.set_cons_succ, List.set_nil] at h
  have h := h.swap
  refine ⟨_, (Own.ld h (by repeat (first | with_reducible exact Pick.here | apply Pick.there)) (by rfl)), smR ⟨_, h.ndRd (a := root) (k := 4) (by simp) rfl, smR ?_⟩⟩
  refine Own.ndStA h hn hl.be_mem fun w h => ⟨_, (Own.ld h (by repeat (first | with_reducible exact Pick.here | apply Pick.there)) (by rfl)), smR (Own.ndStB h hn (by simp) fun w h => ⟨rfl, hp, _, _, Lk.first hl hnp, ?_⟩)⟩
  have h : Own e w (blk p 57 (nodeV (Value.int .i64) x (adr root) (adr (be root))) :: famH (node 57 (Value.int .i64) D (updN ah (be root) p) (updN be root p)) (root :: ns) :: blk g 59 [qm, .pointer (some ⟨root, 0, none⟩), u, mv] :: F) := h.swap
  exact (Own.ndAdd h hp hpb).swap
theorem lrGet_int {k : Int} (h : Own e w (lru_int g most xs :: F)) : Rets Try.prog 7 #[.pointer (some ⟨g, 0, none⟩), (Value.int .i64) k] w fun v w' => v = .tuple #[.int .i64 (lval (lkp xs k)), .bool (lkp xs k).isSome] ∧ Own e w' (lru_int g most (fst1 xs k) :: F) := by
  refine lru_Cache_int_int_Get_go _ _ (Rets.mono (lrPeek_int h) ?_)
  rintro _ w1 ⟨rfl, rfl⟩
  have h0 := h
  obtain ⟨r, root, D, ah, be, ns, f, hF, hB, h⟩ := lru_int_op h
  refine ⟨_, _, rfl, fun hc => ⟨_, (Own.ld h (by repeat (first | with_reducible exact Pick.here | apply Pick.there)) (by rfl)), ?_⟩, fun hc => ⟨rfl, ?_⟩⟩
  · refine Own.mapGet (d := (TypeDesc.int .i64)) (kt := 3) (et := 55) (n := ns.length) (f := f) (r := r) (z := .pointer none) (h := (Own.pk h (by repeat (first | with_reducible exact Pick.here | apply Pick.there)))) (by kernel_rfl) (by kernel_rfl) (by simp [MapKept.IsKey]) (zeroV_run' (by kernel_rfl)) ?_
    cases hf : f ((Value.int .i64) k) with
    | none => rw [(hF.none_ hf).1] at hc; cases hc
    | some v =>
      obtain ⟨l, p, rr, rfl, rfl, e1, e2, e3⟩ := hF.some_ kvi hf
      have h : Own e w1 (famH (node 57 (Value.int .i64) D ah be) (root :: (l ++ p :: rr)) :: blk g 59 [.map (some r), .pointer (some ⟨root, 0, none⟩), .int .i64 (us xs), .int .i64 most] :: mpO (TypeDesc.int .i64) r f (l ++ p :: rr).length :: F) := (Own.sub (h) (by repeat (first | exact Sub.nil _ | exact Sub.rfl _ | (apply Sub.cons; focus ((repeat (first | with_reducible exact Pick.here | apply Pick.there)); done)) | apply Sub.drop)))
      have hn2 : (root :: (l ++ rr)).Nodup := by
        have hperm : (root :: (l ++ p :: rr)).Perm (p :: root :: (l ++ rr)) := (List.Perm.cons _ List.perm_middle).trans (List.Perm.swap _ _ _)
        exact (List.nodup_cons.1 (hperm.nodup_iff.1 hF.1)).2
      refine ⟨_, rfl, Rets.mono (lrOut_int (g := g) h hF.1 hF.2.1) ?_⟩
      rintro _ w2 ⟨rfl, ah', be', pa, pb, hl, h⟩
      have h : Own e w2 (blk p 57 (nodeV (Value.int .i64) (D p) pa pb) :: blk g 59 [.map (some r), .pointer (some ⟨root, 0, none⟩), .int .i64 (us xs), .int .i64 most] :: famH (node 57 (Value.int .i64) D ah' be') (root :: (l ++ rr)) :: mpO (TypeDesc.int .i64) r f (l ++ p :: rr).length :: F) := (Own.sub (h) (by repeat (first | exact Sub.nil _ | exact Sub.rfl _ | (apply Sub.cons; focus ((repeat (first | with_reducible exact Pick.here | apply Pick.there)); done)) | apply Sub.drop)))
      refine ⟨rfl, Rets.mono (lrFirst_int h hn2 hl) ?_⟩
      rintro _ w3 ⟨rfl, hp, ah2, be2, hl2, h⟩
      refine ⟨rfl, rfl, ?_⟩
      have e4 : fst1 xs k = D p :: (l ++ rr).map D := by unfold fst1; rw [e2, e3]
      have e5 : xs = l.map D ++ D p :: rr.map D := by rw [hF.2.2.2.2]; simp
      rw [e5] at hB
      obtain ⟨hB1, hB2⟩ := hB.turn
      rw [← List.map_append] at hB1 hB2
      have e6 : (l ++ p :: rr).length = (p :: (l ++ rr)).length := List.perm_middle.length_eq
      rw [updD_self, e6, e5, ← hB2] at h
      rw [e4]
      exact lru_int_cl (hF.turned hl2) hB1 (Own.sub (h) (by repeat (first | exact Sub.nil _ | exact Sub.rfl _ | (apply Sub.cons; focus ((repeat (first | with_reducible exact Pick.here | apply Pick.there)); done)) | apply Sub.drop)))
  · have hn : lkp xs k = none := by
      cases hh : lkp xs k with
      | none => rfl
      | some y => rw [hh] at hc; cases hc
    have e1 : fst1 xs k = xs := by unfold fst1; rw [hn]
    rw [e1]; exact h0
theorem lrDrop_int {k : Int} (h : Own e w (lru_int g most xs :: F)) : Rets Try.prog 17 #[.pointer (some ⟨g, 0, none⟩), (Value.int .i64) k] w fun v w' => v = .bool (lkp xs k).isSome ∧ Own e w' (lru_int g most (drp xs k) :: F) := by
  refine lru_Cache_int_int_Drop_go _ _ (Rets.mono (lrPeek_int h) ?_)
  rintro _ w1 ⟨rfl, rfl⟩
  have h0 := h
  obtain ⟨r, root, D, ah, be, ns, f, hF, hB, h⟩ := lru_int_op h
  refine ⟨_, _, rfl, fun hc => ?_, fun hc => ⟨_, (Own.ld h (by repeat (first | with_reducible exact Pick.here | apply Pick.there)) (by rfl)), ?_⟩⟩
  · cases hf : f ((Value.int .i64) k) with
    | none =>
      obtain ⟨g1, g2⟩ := hF.none_ hf
      rw [g1, g2]; exact ⟨rfl, h0⟩
    | some v =>
      obtain ⟨l, p, rr, rfl, rfl, e1, e2, e3⟩ := hF.some_ kvi hf
      rw [e2] at hc; cases hc
  · refine Own.mapGet (d := (TypeDesc.int .i64)) (kt := 3) (et := 55) (n := ns.length) (f := f) (r := r) (z := .pointer none) (h := (Own.pk h (by repeat (first | with_reducible exact Pick.here | apply Pick.there)))) (by kernel_rfl) (by kernel_rfl) (by simp [MapKept.IsKey]) (zeroV_run' (by kernel_rfl)) ?_
    cases hf : f ((Value.int .i64) k) with
    | none => rw [(hF.none_ hf).1] at hc; cases hc
    | some v =>
      obtain ⟨l, p, rr, rfl, rfl, e1, e2, e3⟩ := hF.some_ kvi hf
      have h : Own e w1 (famH (node 57 (Value.int .i64) D ah be) (root :: (l ++ p :: rr)) :: blk g 59 [.map (some r), .pointer (some ⟨root, 0, none⟩), .int .i64 (us xs), .int .i64 most] :: mpO (TypeDesc.int .i64) r f (l ++ p :: rr).length :: F) := (Own.sub (h) (by repeat (first | exact Sub.nil _ | exact Sub.rfl _ | (apply Sub.cons; focus ((repeat (first | with_reducible exact Pick.here | apply Pick.there)); done)) | apply Sub.drop)))
      refine ⟨_, rfl, Rets.mono (lrOut_int (g := g) h hF.1 hF.2.1) ?_⟩
      rintro _ w2 ⟨rfl, ah', be', pa, pb, hl, h⟩
      refine ⟨rfl, h.drw fun w2 h => smR ?_⟩
      have e5 : xs = l.map D ++ [D p] ++ rr.map D := by rw [hF.2.2.2.2]; simp
      obtain ⟨hB1, hB2⟩ := (e5 ▸ hB : LrB (l.map D ++ [D p] ++ rr.map D) most).sub
      have e6 : us xs = us ((l ++ rr).map D) + (D p).2.2 := by rw [e5, us_app, us_app, List.map_append, us_app]; simp only [us]; omega
      have e7 : 0 ≤ us ((l ++ rr).map D) := by rw [List.map_append]; exact hB1.nn
      have e8 : us ((l ++ rr).map D) ≤ 4611686018427387904 := by rw [List.map_append]; exact Int.le_trans hB1.2.1 hB1.2.2.2
      refine ⟨_, (Own.ld h (by repeat (first | with_reducible exact Pick.here | apply Pick.there)) (by rfl)), _, Own.ld (g := p) (k := 2) h (by repeat (first | with_reducible exact Pick.here | apply Pick.there)) rfl, ?_⟩
      have e9 : IntKind.wrap .i64 (us xs - (D p).2.2) = us ((l ++ rr).map D) := by rw [wI64 (by omega) (by omega)]; omega
      rw [e9]
      refine Own.stP h (by repeat (first | with_reducible exact Pick.here | apply Pick.there)) (by simp) (by simp [Value.oneCell']) fun w2 h => ?_
      simp only [setFrom, List.set_cons_zero, List.set_cons_succ, List.set_nil] at h
      refine ⟨_, (Own.ld h (by repeat (first | with_reducible exact Pick.here | apply Pick.there)) (by rfl)), ?_⟩
      refine Own.mapDel (d := (TypeDesc.int .i64)) (kt := 3) (et := 55) (n := (l ++ p :: rr).length) (f := f) (r := r) (h := (Own.pk h (by repeat (first | with_reducible exact Pick.here | apply Pick.there)))) (by kernel_rfl) (by kernel_rfl) (by simp [MapKept.IsKey]) fun f' w2 h1 h2 h => ?_
      have e10 : (if (f ((Value.int .i64) k)).isSome = true then (l ++ p :: rr).length - 1 else (l ++ p :: rr).length) = (l ++ rr).length := by rw [hf]; simp
      rw [e10] at h
      rw [e2, e3]
      refine ⟨rfl, rfl, lru_int_cl (hF.dropped e1 hl h1 h2) (by rw [List.map_append]; exact hB1) (Own.sub (h) (by repeat (first | exact Sub.nil _ | exact Sub.rfl _ | (apply Sub.cons; focus ((repeat (first | with_reducible exact Pick.here | apply Pick.there)); done)) | apply Sub.drop)))⟩
/-- A thing that is too great, or has no right cost. -/
theorem lrPutBad_int {k : Int} {v n : Int} (hb : ¬ (0 ≤ n ∧ n ≤ 4611686018427387904 ∧ n ≤ most)) (h : Own e w (lru_int g most xs :: F)) : Rets Try.prog 8 #[.pointer (some ⟨g, 0, none⟩), (Value.int .i64) k, .int .i64 v, .int .i64 n] w fun v w' => v = .tuple #[.slice none 0 0, .bool false] ∧ w' = w := by
  obtain ⟨r, root, D, ah, be, ns, f, hF, hB, h⟩ := lru_int_op h
  refine lru_Cache_int_int_Put_go _ _ _ _ ⟨fun _ => cost_Right_go _ ⟨fun h1 => ⟨_, rfl, fun h2 => ⟨_, (Own.ld h (by repeat (first | with_reducible exact Pick.here | apply Pick.there)) (by rfl)), fun h3 => ⟨rfl, rfl⟩, fun h3 => ?_⟩, fun h2 => ⟨rfl, rfl⟩⟩, fun h1 => ⟨_, rfl, fun h2 => (by cases h2), fun h2 => ⟨rfl, rfl⟩⟩⟩, fun hc => (by cases hc)⟩
  simp at h1 h2 h3
  exact absurd ⟨h1, h2, h3⟩ hb
theorem lrPutOk_int {k : Int} {v n : Int} (hb : 0 ≤ n ∧ n ≤ 4611686018427387904 ∧ n ≤ most) (hx : xs.length ≤ 1000) (h : Own e w (lru_int g most xs :: F)) : Rets Try.prog 8 #[.pointer (some ⟨g, 0, none⟩), (Value.int .i64) k, .int .i64 v, .int .i64 n] w fun o w' => ∃ q c j, Evt (drp xs k) (most - n) j ∧ o = .tuple #[.slice q ((drp xs k).length - j) c, .bool true] ∧
    Own e w' (slO 3 1 q ((drp xs k).length - j) c (gonV (Value.int .i64) (drp xs k) j) :: lru_int g most ((k, v, n) :: (drp xs k).take j) :: F) := by
  have hB0 : LrB xs most := by obtain ⟨_, _, _, _, _, _, _, _, hB, _⟩ := lru_int_op h; exact hB
  obtain ⟨hB1, _⟩ := hB0.drp k
  have hlen : (drp xs k).length ≤ 1000 := Nat.le_trans drp_len hx
  have hcell : cellAt w ((⟨g, 0, none⟩ : Addr).add 3) (.int .i64 most) := by
    obtain ⟨r, root, D, ah, be, ns, f, hF, hB, h⟩ := lru_int_op h
    exact (Own.ld h (by repeat (first | with_reducible exact Pick.here | apply Pick.there)) (by rfl))
  refine lru_Cache_int_int_Put_go _ _ _ _ ⟨fun _ => cost_Right_go _ ⟨fun h1 => ⟨_, rfl, fun h2 => ⟨_, hcell, fun h3 => ?_, fun h3 => ?_⟩, fun h2 => ?_⟩, fun h1 => ?_⟩, fun hc => (by cases hc)⟩
  · simp at h3; omega
  · refine Rets.mono (lrDrop_int h) ?_
    rintro _ w1 ⟨rfl, h⟩
    refine ⟨_, rfl, ?_⟩
    have hkk := drp_not (xs := xs) (k := k)
    generalize drp xs k = ys at h hB1 hlen hkk
    refine ⟨fun K vs w => ∃ q c, K ≤ ys.length ∧ vs = [.slice q (ys.length - K) c] ∧ (∀ i, K < i → i ≤ ys.length → most - n < us (ys.take i)) ∧ Own e w (slO 3 1 q (ys.length - K) c (gonV (Value.int .i64) ys K) :: lru_int g most (ys.take K) :: F), ⟨ys.length, none, 0, Nat.le_refl _, by rw [Nat.sub_self], fun i h4 h5 => absurd h4 (by omega), ?_⟩, ?_⟩
    · rw [gonV_all, Nat.sub_self, List.take_length]
      exact Own.slNil h
    · intro K w1 q k3 c
      intros
      rename_i hI
      obtain ⟨q', c', hK, hvs, hgt, h⟩ := hI
      simp at hvs
      obtain ⟨rfl, rfl, rfl⟩ := hvs
      have hBK : LrB (ys.take K) most := hB1.take K
      have hnn := hBK.nn
      obtain ⟨hb1, hb2, hb3⟩ := hb
      have hle := hBK.2.1
      have hm4 := hBK.2.2.2
      have hwr : IntKind.wrap .i64 (most - n) = most - n := wI64 (by omega) (by omega)
      have h := h.swap
      have hK0 := h
      obtain ⟨r, root, D, ah, be, ns, f, hF, hB, h⟩ := lru_int_op h
      refine h.drw fun w1 h => ⟨_, (Own.ld h (by repeat (first | with_reducible exact Pick.here | apply Pick.there)) (by rfl)), _, (Own.ld h (by repeat (first | with_reducible exact Pick.here | apply Pick.there)) (by rfl)), fun hc => ⟨_, (Own.ld h (by repeat (first | with_reducible exact Pick.here | apply Pick.there)) (by rfl)), ?_⟩, fun hc => ?_⟩
      · rw [hwr] at hc
        have hc := dec_t hc
        obtain ⟨j, rfl⟩ : ∃ j, K = j + 1 := by
          cases K with
          | zero => simp [us] at hc; omega
          | succ j => exact ⟨j, rfl⟩
        have hj : j < ys.length := by omega
        have e1 := hF.2.2.2.2
        rw [take_step hj] at e1
        obtain ⟨l, l2, rfl, e2, e3⟩ := List.map_eq_append_iff.1 e1.symm
        obtain ⟨p, l3, rfl, e4, e5⟩ := List.map_eq_cons_iff.1 e3
        have e5 := List.map_eq_nil_iff.1 e5
        subst e5
        have hcr : cellAt w1 ((⟨root, 0, none⟩ : Addr).add 3) (.pointer (some ⟨p, 0, none⟩)) := by
          have := Own.ndRd (h := h.drop.drop) (a := root) (k := 3) (by simp) rfl
          rw [hF.2.1.end_] at this; exact this
        have hcp : cellAt w1 ((⟨p, 0, none⟩ : Addr).add 0) ((Value.int .i64) (D p).1) := Own.ndRd (h := h.drop.drop) (a := p) (k := 0) (by simp) rfl
        refine smR ⟨_, hcr, smR ⟨_, hcp, h.newR fun a3 w2 h => ?_⟩⟩
        have h : Own e w2 (slO 3 1 q (ys.length - (j + 1)) c (gonV (Value.int .i64) ys (j + 1)) :: blk a3 3 [(Value.int .i64) (D p).1] :: blk g 59 [.map (some r), .pointer (some ⟨root, 0, none⟩), .int .i64 (us (ys.take (j + 1))), .int .i64 most] :: mpO (TypeDesc.int .i64) r f (l ++ [p]).length :: famH (node 57 (Value.int .i64) D ah be) (root :: (l ++ [p])) :: F) := (Own.sub (h) (by repeat (first | exact Sub.nil _ | exact Sub.rfl _ | (apply Sub.cons; focus ((repeat (first | with_reducible exact Pick.here | apply Pick.there)); done)) | apply Sub.drop)))
        refine Own.append (z := [(Value.int .i64) (0 : Int)]) (b := 8) (news := [(Value.int .i64) (D p).1]) h (by kernel_rfl) (by kernel_rfl) (by kernel_rfl) (by kernel_rfl) (by kernel_rfl) (by omega) (Own.blkRd h.drop) rfl (by simp [Value.oneCell']) (by unfold maxLen; omega) (by omega) fun q' c' w3 h _ => ?_
        refine ⟨_, _, _, rfl, smR ⟨_, Own.ndRd (h := h.drop.drop.drop.drop) (a := p) (k := 0) (by simp) rfl, ?_⟩⟩
        have h : Own e w3 (blk g 59 [.map (some r), .pointer (some ⟨root, 0, none⟩), .int .i64 (us (ys.take (j + 1))), .int .i64 most] :: mpO (TypeDesc.int .i64) r f (l ++ [p]).length :: famH (node 57 (Value.int .i64) D ah be) (root :: (l ++ [p])) :: slO 3 1 q' (ys.length - (j + 1) + 1) c' (gonV (Value.int .i64) ys (j + 1) ++ [(Value.int .i64) (D p).1]) :: F) := (Own.sub (h) (by repeat (first | exact Sub.nil _ | exact Sub.rfl _ | (apply Sub.cons; focus ((repeat (first | with_reducible exact Pick.here | apply Pick.there)); done)) | apply Sub.drop)))
        refine Rets.mono (lrDrop_int (k := (D p).1) (lru_int_cl hF hB h)) ?_
        rintro _ w4 ⟨rfl, h⟩
        refine ⟨_, rfl, j, by omega, q', c', by omega, ?_, fun i h4 h5 => ?_, ?_⟩
        · rw [show ys.length - (j + 1) + 1 = ys.length - j by omega]
        · rcases Nat.lt_or_ge (j + 1) i with h6 | h6
          · exact hgt i h6 h5
          · rw [show i = j + 1 by omega]; exact hc
        · have e6 : drp (ys.take (j + 1)) (D p).1 = ys.take j := by
            have hk2 := hF.keys
            rw [take_step hj] at hk2 ⊢
            rw [e4]
            exact drp_last hk2
          rw [e6, e4, show ys.length - (j + 1) + 1 = ys.length - j by omega, ← gonV_step hj] at h
          exact h.swap
      · rw [hwr] at hc
        have hc := dec_f hc
        have hf := hF.noKey (k := k) kvi fun x hx => hkk x (List.mem_of_mem_take hx)
        refine h.newR fun a5 w2 h => ⟨_, (Own.ld h (by repeat (first | with_reducible exact Pick.here | apply Pick.there)) (by rfl)), ?_⟩
        refine Own.mapSet (d := (TypeDesc.int .i64)) (kt := 3) (et := 55) (f := f) (n := ns.length) (r := r) (v := ptr a5) (h := (Own.pk h (by repeat (first | with_reducible exact Pick.here | apply Pick.there)))) (by kernel_rfl) (by kernel_rfl) (by simp [MapKept.IsKey]) fun f' w2 h1 h2 h => ?_
        have e1 : (if (f ((Value.int .i64) k)).isSome = true then ns.length else ns.length + 1) = ns.length + 1 := by rw [hf]; simp
        rw [e1] at h
        have h : Own e w2 (mpO (TypeDesc.int .i64) r f' (ns.length + 1) :: blk a5 57 (nodeV (Value.int .i64) (k, v, n) none none) :: blk g 59 [.map (some r), .pointer (some ⟨root, 0, none⟩), .int .i64 (us (ys.take K)), .int .i64 most] :: famH (node 57 (Value.int .i64) D ah be) (root :: ns) :: slO 3 1 q (ys.length - K) c (gonV (Value.int .i64) ys K) :: F) := (Own.sub (h) (by repeat (first | exact Sub.nil _ | exact Sub.rfl _ | (apply Sub.cons; focus ((repeat (first | with_reducible exact Pick.here | apply Pick.there)); done)) | apply Sub.drop)))
        have h : Own e w2 (blk a5 57 (nodeV (Value.int .i64) (k, v, n) none none) :: blk g 59 [.map (some r), .pointer (some ⟨root, 0, none⟩), .int .i64 (us (ys.take K)), .int .i64 most] :: famH (node 57 (Value.int .i64) D ah be) (root :: ns) :: mpO (TypeDesc.int .i64) r f' (ns.length + 1) :: slO 3 1 q (ys.length - K) c (gonV (Value.int .i64) ys K) :: F) := (Own.sub (h) (by repeat (first | exact Sub.nil _ | exact Sub.rfl _ | (apply Sub.cons; focus ((repeat (first | with_reducible exact Pick.here | apply Pick.there)); done)) | apply Sub.drop)))
        refine Rets.mono (lrFirst_int h hF.1 hF.2.1) ?_
        rintro _ w3 ⟨rfl, hp, ah2, be2, hl2, h⟩
        have h : Own e w3 (blk g 59 [.map (some r), .pointer (some ⟨root, 0, none⟩), .int .i64 (us (ys.take K)), .int .i64 most] :: famH (node 57 (Value.int .i64) (updD D a5 (k, v, n)) ah2 be2) (root :: a5 :: ns) :: mpO (TypeDesc.int .i64) r f' (a5 :: ns).length :: slO 3 1 q (ys.length - K) c (gonV (Value.int .i64) ys K) :: F) := h
        refine ⟨rfl, _, (Own.ld h (by repeat (first | with_reducible exact Pick.here | apply Pick.there)) (by rfl)), ?_⟩
        have e2 : IntKind.wrap .i64 (us (ys.take K) + n) = us ((k, v, n) :: ys.take K) := by rw [wI64 (by omega) (by omega)]; simp only [us]; omega
        rw [e2]
        refine Own.stP h (by repeat (first | with_reducible exact Pick.here | apply Pick.there)) (by simp) (by simp [Value.oneCell']) fun w4 h => ?_
        simp only [setFrom, List.set_cons_zero, List.set_cons_succ, List.set_nil] at h
        refine ⟨q, c, K, ⟨hK, by omega, hgt⟩, rfl, ?_⟩
        have h := lru_int_cl (xs := (k, v, n) :: ys.take K) (ns := a5 :: ns) (hF.added hp rfl hf hl2 h1 h2) ⟨fun x hx => ?_, by simp only [us]; omega, hBK.2.2⟩ (F := slO 3 1 q (ys.length - K) c (gonV (Value.int .i64) ys K) :: F) (Own.sub (h) (by repeat (first | exact Sub.nil _ | exact Sub.rfl _ | (apply Sub.cons; focus ((repeat (first | with_reducible exact Pick.here | apply Pick.there)); done)) | apply Sub.drop)))
        · exact h.swap
        · rcases List.mem_cons.1 hx with rfl | hx
          · exact hb1
          · exact hBK.1 x hx
  · simp at h2; omega
  · simp at h1; omega
end
/-! ### Of string -/
abbrev lru0_string (g r root : Nat) (D : Nat → Row ByteArray) (ah be : Nat → Nat) (ns : List Nat) (f : Value → Option Value) (u most : Int) : List HP :=
  [blk g 74 [.map (some r), .pointer (some ⟨root, 0, none⟩), .int .i64 u, .int .i64 most], mpO TypeDesc.string r f ns.length, famH (node 72 Value.string D ah be) (root :: ns)]
def lru_string (g : Nat) (most : Int) (xs : List (Row ByteArray)) : HP := exH fun (s : Nat × Nat × (Nat → Row ByteArray) × (Nat → Nat) × (Nat → Nat) × List Nat × (Value → Option Value)) =>
  puH (LrF Value.string s.2.1 s.2.2.1 s.2.2.2.1 s.2.2.2.2.1 s.2.2.2.2.2.1 s.2.2.2.2.2.2 xs ∧ LrB xs most) (allH (lru0_string g s.1 s.2.1 s.2.2.1 s.2.2.2.1 s.2.2.2.2.1 s.2.2.2.2.2.1 s.2.2.2.2.2.2 (us xs) most))
section
variable {e w : World} {F : List HP} {g : Nat} {most : Int} {xs : List (Row ByteArray)}
theorem lru_string_op (h : Own e w (lru_string g most xs :: F)) : ∃ r root D ah be ns f, LrF Value.string root D ah be ns f xs ∧ LrB xs most ∧
    Own e w (blk g 74 [.map (some r), .pointer (some ⟨root, 0, none⟩), .int .i64 (us xs), .int .i64 most] :: mpO TypeDesc.string r f ns.length :: famH (node 72 Value.string D ah be) (root :: ns) :: F) := by
  obtain ⟨⟨r, root, D, ah, be, ns, f⟩, h⟩ := h.ex
  obtain ⟨⟨h1, h2⟩, h⟩ := h.pu
  exact ⟨r, root, D, ah, be, ns, f, h1, h2, h.open_⟩
theorem lru_string_cl {r root : Nat} {D : Nat → Row ByteArray} {ah be : Nat → Nat} {ns : List Nat} {f : Value → Option Value} (h1 : LrF Value.string root D ah be ns f xs) (h2 : LrB xs most)
    (h : Own e w (blk g 74 [.map (some r), .pointer (some ⟨root, 0, none⟩), .int .i64 (us xs), .int .i64 most] :: mpO TypeDesc.string r f ns.length :: famH (node 72 Value.string D ah be) (root :: ns) :: F)) : Own e w (lru_string g most xs :: F) := by
  have h : Own e w (lru0_string g r root D ah be ns f (us xs) most ++ F) := h
  have h := h.close_
  exact Own.mkEx (P := fun (s : Nat × Nat × (Nat → Row ByteArray) × (Nat → Nat) × (Nat → Nat) × List Nat × (Value → Option Value)) => puH (LrF Value.string s.2.1 s.2.2.1 s.2.2.2.1 s.2.2.2.2.1 s.2.2.2.2.2.1 s.2.2.2.2.2.2 xs ∧ LrB xs most) (allH (lru0_string g s.1 s.2.1 s.2.2.1 s.2.2.2.1 s.2.2.2.2.1 s.2.2.2.2.2.1 s.2.2.2.2.2.2 (us xs) most))) (r, root, D, ah, be, ns, f) (Own.mkPu ⟨h1, h2⟩ h)
theorem lrNew_string {m : Int} (h : Own e w F) : Rets Try.prog 18 #[.int .i64 m] w fun v w' => ∃ g, v = .pointer (some ⟨g, 0, none⟩) ∧ Own e w' (lru_string g (lcut m) [] :: F) := by
  refine lru_New_string_int_go _ (h.mapNew (d := TypeDesc.string) fun r w h => h.newR fun root w h => cost_Cut_go _ ⟨_, rfl, h.newR fun g w h => ?_⟩)
  refine h.drw fun w h => ⟨_, (Own.ld h (by repeat (first | with_reducible exact Pick.here | apply Pick.there)) (by rfl)), _, (Own.ld h (by repeat (first | with_reducible exact Pick.here | apply Pick.there)) (by rfl)), _, (Own.ld h (by repeat (first | with_reducible exact Pick.here | apply Pick.there)) (by rfl)), _, (Own.ld h (by repeat (first | with_reducible exact Pick.here | apply Pick.there)) (by rfl)), smR ?_⟩
  refine Own.stP h (by repeat (first | with_reducible exact Pick.here | apply Pick.there)) (by simp) (by simp [Value.oneCell']) fun w h => ?_
  simp only [setFrom, List.set_cons_zero, List.set_cons_succ, List.set_nil] at h
  refine smR ?_
  refine Own.stP h (by repeat (first | with_reducible exact Pick.here | apply Pick.there)) (by simp) (by simp [Value.oneCell']) fun w h => ?_
  simp only [setFrom, List.set_cons_zero, List.set_cons_succ, List.set_nil] at h
  refine ⟨g, rfl, ?_⟩
  have h : Own e w (blk root 72 [Value.string (⟨#[]⟩ : ByteArray), .int .i64 0, .int .i64 0, .pointer (some ⟨root, 0, none⟩), .pointer (some ⟨root, 0, none⟩)] :: blk g 74 [.map (some r), .pointer (some ⟨root, 0, none⟩), .int .i64 0, .int .i64 (lcut m)] :: mpO TypeDesc.string r (fun _ => none) 0 :: F) := (Own.sub (h) (by repeat (first | exact Sub.nil _ | exact Sub.rfl _ | (apply Sub.cons; focus ((repeat (first | with_reducible exact Pick.here | apply Pick.there)); done)) | apply Sub.drop)))
  have h : Own e w ([node 72 Value.string (fun _ => ((⟨#[]⟩ : ByteArray), (0 : Int), (0 : Int))) (fun _ => root) (fun _ => root) root] ++ (blk g 74 [.map (some r), .pointer (some ⟨root, 0, none⟩), .int .i64 0, .int .i64 (lcut m)] :: mpO TypeDesc.string r (fun _ => none) 0 :: F)) := h
  have h := h.close_
  have h : Own e w (famH (node 72 Value.string (fun _ => ((⟨#[]⟩ : ByteArray), (0 : Int), (0 : Int))) (fun _ => root) (fun _ => root)) (root :: []) :: blk g 74 [.map (some r), .pointer (some ⟨root, 0, none⟩), .int .i64 0, .int .i64 (lcut m)] :: mpO TypeDesc.string r (fun _ => none) 0 :: F) := h
  have h : Own e w (famH (node 72 Value.string (fun _ => ((⟨#[]⟩ : ByteArray), (0 : Int), (0 : Int))) (fun _ => root) (fun _ => root)) (root :: []) :: blk g 74 [.map (some r), .pointer (some ⟨root, 0, none⟩), .int .i64 (us ([] : List (Row ByteArray))), .int .i64 (lcut m)] :: mpO TypeDesc.string r (fun _ => none) ([] : List Nat).length :: F) := h
  refine lru_string_cl (D := fun _ => ((⟨#[]⟩ : ByteArray), (0 : Int), (0 : Int))) (ah := fun _ => root) (be := fun _ => root) (ns := []) (f := fun _ => none) (r := r) (root := root) ?_ ⟨by simp, (lcut_b m).1, lcut_b m⟩ (Own.sub (h) (by repeat (first | exact Sub.nil _ | exact Sub.rfl _ | (apply Sub.cons; focus ((repeat (first | with_reducible exact Pick.here | apply Pick.there)); done)) | apply Sub.drop)))
  exact ⟨by simp, ⟨rfl, rfl⟩, by simp, fun _ _ hh => (by cases hh), rfl⟩
theorem lrPeek_string {k : ByteArray} (h : Own e w (lru_string g most xs :: F)) : Rets Try.prog 35 #[.pointer (some ⟨g, 0, none⟩), Value.string k] w fun v w' => v = .tuple #[.int .i64 (lval (lkp xs k)), .bool (lkp xs k).isSome] ∧ w' = w := by
  obtain ⟨r, root, D, ah, be, ns, f, hF, hB, h⟩ := lru_string_op h
  refine lru_Cache_string_int_Peek_go _ _ ⟨fun hc => (by cases hc), fun _ => ⟨_, (Own.ld h (by repeat (first | with_reducible exact Pick.here | apply Pick.there)) (by rfl)), ?_⟩⟩
  refine Own.mapGet (d := TypeDesc.string) (kt := 9) (et := 70) (n := ns.length) (f := f) (r := r) (z := .pointer none) (h := (Own.pk h (by repeat (first | with_reducible exact Pick.here | apply Pick.there)))) (by kernel_rfl) (by kernel_rfl) (by simp [MapKept.IsKey]) (zeroV_run' (by kernel_rfl)) ?_
  cases hf : f (Value.string k) with
  | none =>
    refine ⟨_, _, rfl, fun _ => ⟨?_, rfl⟩, fun hc => (by cases hc)⟩
    rw [(hF.none_ hf).1]; rfl
  | some v =>
    obtain ⟨l, p, rr, rfl, rfl, e1, e2, e3⟩ := hF.some_ kvs hf
    refine ⟨_, _, rfl, fun hc => (by cases hc), fun _ => smR ⟨_, Own.ndRd (h := h.drop.drop) (a := p) (k := 1) (by simp) rfl, ?_, rfl⟩⟩
    rw [e2]; rfl
theorem lrUsed_string (h : Own e w (lru_string g most xs :: F)) : Rets Try.prog 21 #[.pointer (some ⟨g, 0, none⟩)] w fun v w' => v = .int .i64 (us xs) ∧ w' = w := by
  obtain ⟨r, root, D, ah, be, ns, f, hF, hB, h⟩ := lru_string_op h
  exact lru_Cache_string_int_Used_go _ ⟨fun hc => (by cases hc), fun _ => ⟨_, (Own.ld h (by repeat (first | with_reducible exact Pick.here | apply Pick.there)) (by rfl)), rfl, rfl⟩⟩
variable {r root p : Nat} {D : Nat → Row ByteArray} {ah be : Nat → Nat} {ns l rr : List Nat} {f : Value → Option Value} {x : Row ByteArray} {pa pb : Option Addr} {u : Value} {mv : Value} {qm : Value}
theorem lrOut_string (h : Own e w (famH (node 72 Value.string D ah be) (root :: (l ++ p :: rr)) :: F)) (hn : (root :: (l ++ p :: rr)).Nodup) (hl : Lk ah be root (l ++ p :: rr) root) :
    Rets Try.prog 36 #[.pointer (some ⟨g, 0, none⟩), .pointer (some ⟨p, 0, none⟩)] w fun v w' => v = .tuple #[] ∧ ∃ ah' be' pa pb, Lk ah' be' root (l ++ rr) root ∧ Own e w' (blk p 72 (nodeV Value.string (D p) pa pb) :: famH (node 72 Value.string D ah' be') (root :: (l ++ rr)) :: F) := by
  have hp : p ∈ root :: (l ++ p :: rr) := by simp
  have ha : ah p ∈ root :: (l ++ p :: rr) := by
    have := hl.ah_mem
    simp only [List.mem_cons, List.mem_append] at this ⊢
    rcases this with h | h
    · exact .inl h
    · exact .inr (.inl h)
  have hb : be p ∈ root :: (l ++ p :: rr) := by
    have := hl.be_mem2
    simp only [List.mem_cons, List.mem_append, List.not_mem_nil, or_false] at this ⊢
    rcases this with h | h
    · exact .inr (.inr (.inr h))
    · exact .inl h
  refine lru_Cache_string_int_out_go _ _ (h.drw fun w h => ⟨_, h.ndRd hp (k := 3) rfl, _, h.ndRd hp (k := 4) rfl, _, h.ndRd hp (k := 4) rfl, _, h.ndRd hp (k := 3) rfl, smR ?_⟩)
  refine Own.ndStB h hn ha fun w h => smR (Own.ndStA h hn hb fun w h => ⟨rfl, _, _, _, _, Lk.out hl hn, Own.ndTake h hn⟩)
theorem lrFirst_string (h : Own e w (blk p 72 (nodeV Value.string x pa pb) :: blk g 74 [qm, .pointer (some ⟨root, 0, none⟩), u, mv] :: famH (node 72 Value.string D ah be) (root :: ns) :: F)) (hn : (root :: ns).Nodup) (hl : Lk ah be root ns root) :
    Rets Try.prog 34 #[.pointer (some ⟨g, 0, none⟩), .pointer (some ⟨p, 0, none⟩)] w fun v w' => v = .tuple #[] ∧ p ∉ root :: ns ∧ ∃ ah' be', Lk ah' be' root (p :: ns) root ∧ Own e w' (blk g 74 [qm, .pointer (some ⟨root, 0, none⟩), u, mv] :: famH (node 72 Value.string (updD D p x) ah' be') (root :: p :: ns) :: F) := by
  have hp : p ∉ root :: ns := Own.ndNot (h := (h.swap).drop)
  have hnp : (root :: p :: ns).Nodup := (List.Perm.swap _ _ _).nodup_iff.1 (List.nodup_cons.2 ⟨hp, hn⟩)
  have hpb : p ≠ be root := fun hh => hp (by rw [hh]; exact hl.be_mem)
  have h : Own e w (famH (node 72 Value.string D ah be) (root :: ns) :: blk p 72 (nodeV Value.string x pa pb) :: blk g 74 [qm, .pointer (some ⟨root, 0, none⟩), u, mv] :: F) := (Own.sub (h) (by repeat (first | exact Sub.nil _ | exact Sub.rfl _ | (apply Sub.cons; focus ((repeat (first | with_reducible exact Pick.here | apply Pick.there)); done)) | apply Sub.drop)))
  refine lru_Cache_string_int_first_go _ _ (h.drw fun w h => ⟨_, (Own.ld h (by repeat (first | with_reducible exact Pick.here | apply Pick.there)) (by rfl)), _, (Own.ld h (by repeat (first | with_reducible exact Pick.here | apply Pick.there)) (by rfl)), smR ⟨_, h.ndRd (a := root) (k := 4) (by simp) rfl, ?_⟩⟩)
  unfold nodeV at h
  refine Own.stP h (by repeat (first | with_reducible exact Pick.here | apply Pick.there)) (by simp) (by simp [Value.oneCell']) fun w h => ?_
  simp only [setFrom, List.set_cons_zero, List.set_cons_succ, List.set_nil] at h
  refine Own.stP h (by repeat (first | with_reducible exact Pick.here | apply Pick.there)) (by simp) (by simp [Value.oneCell']) fun w h => ?_
  simp only [setFrom, List.set_cons_zero, List.set_cons_succ, List.set_nil] at h
  have h := h.swap
  refine ⟨_, (Own.ld h (by repeat (first | with_reducible exact Pick.here | apply Pick.there)) (by rfl)), smR ⟨_, h.ndRd (a := root) (k := 4) (by simp) rfl, smR ?_⟩⟩
  refine Own.ndStA h hn hl.be_mem fun w h => ⟨_, (Own.ld h (by repeat (first | with_reducible exact Pick.here | apply Pick.there)) (by rfl)), smR (Own.ndStB h hn (by simp) fun w h => ⟨rfl, hp, _, _, Lk.first hl hnp, ?_⟩)⟩
  have h : Own e w (blk p 72 (nodeV Value.string x (adr root) (adr (be root))) :: famH (node 72 Value.string D (updN ah (be root) p) (updN be root p)) (root :: ns) :: blk g 74 [qm, .pointer (some ⟨root, 0, none⟩), u, mv] :: F) := h.swap
  exact (Own.ndAdd h hp hpb).swap
theorem lrGet_string {k : ByteArray} (h : Own e w (lru_string g most xs :: F)) : Rets Try.prog 20 #[.pointer (some ⟨g, 0, none⟩), Value.string k] w fun v w' => v = .tuple #[.int .i64 (lval (lkp xs k)), .bool (lkp xs k).isSome] ∧ Own e w' (lru_string g most (fst1 xs k) :: F) := by
  refine lru_Cache_string_int_Get_go _ _ (Rets.mono (lrPeek_string h) ?_)
  rintro _ w1 ⟨rfl, rfl⟩
  have h0 := h
  obtain ⟨r, root, D, ah, be, ns, f, hF, hB, h⟩ := lru_string_op h
  refine ⟨_, _, rfl, fun hc => ⟨_, (Own.ld h (by repeat (first | with_reducible exact Pick.here | apply Pick.there)) (by rfl)), ?_⟩, fun hc => ⟨rfl, ?_⟩⟩
  · refine Own.mapGet (d := TypeDesc.string) (kt := 9) (et := 70) (n := ns.length) (f := f) (r := r) (z := .pointer none) (h := (Own.pk h (by repeat (first | with_reducible exact Pick.here | apply Pick.there)))) (by kernel_rfl) (by kernel_rfl) (by simp [MapKept.IsKey]) (zeroV_run' (by kernel_rfl)) ?_
    cases hf : f (Value.string k) with
    | none => rw [(hF.none_ hf).1] at hc; cases hc
    | some v =>
      obtain ⟨l, p, rr, rfl, rfl, e1, e2, e3⟩ := hF.some_ kvs hf
      have h : Own e w1 (famH (node 72 Value.string D ah be) (root :: (l ++ p :: rr)) :: blk g 74 [.map (some r), .pointer (some ⟨root, 0, none⟩), .int .i64 (us xs), .int .i64 most] :: mpO TypeDesc.string r f (l ++ p :: rr).length :: F) := (Own.sub (h) (by repeat (first | exact Sub.nil _ | exact Sub.rfl _ | (apply Sub.cons; focus ((repeat (first | with_reducible exact Pick.here | apply Pick.there)); done)) | apply Sub.drop)))
      have hn2 : (root :: (l ++ rr)).Nodup := by
        have hperm : (root :: (l ++ p :: rr)).Perm (p :: root :: (l ++ rr)) := (List.Perm.cons _ List.perm_middle).trans (List.Perm.swap _ _ _)
        exact (List.nodup_cons.1 (hperm.nodup_iff.1 hF.1)).2
      refine ⟨_, rfl, Rets.mono (lrOut_string (g := g) h hF.1 hF.2.1) ?_⟩
      rintro _ w2 ⟨rfl, ah', be', pa, pb, hl, h⟩
      have h : Own e w2 (blk p 72 (nodeV Value.string (D p) pa pb) :: blk g 74 [.map (some r), .pointer (some ⟨root, 0, none⟩), .int .i64 (us xs), .int .i64 most] :: famH (node 72 Value.string D ah' be') (root :: (l ++ rr)) :: mpO TypeDesc.string r f (l ++ p :: rr).length :: F) := (Own.sub (h) (by repeat (first | exact Sub.nil _ | exact Sub.rfl _ | (apply Sub.cons; focus ((repeat (first | with_reducible exact Pick.here | apply Pick.there)); done)) | apply Sub.drop)))
      refine ⟨rfl, Rets.mono (lrFirst_string h hn2 hl) ?_⟩
      rintro _ w3 ⟨rfl, hp, ah2, be2, hl2, h⟩
      refine ⟨rfl, rfl, ?_⟩
      have e4 : fst1 xs k = D p :: (l ++ rr).map D := by unfold fst1; rw [e2, e3]
      have e5 : xs = l.map D ++ D p :: rr.map D := by rw [hF.2.2.2.2]; simp
      rw [e5] at hB
      obtain ⟨hB1, hB2⟩ := hB.turn
      rw [← List.map_append] at hB1 hB2
      have e6 : (l ++ p :: rr).length = (p :: (l ++ rr)).length := List.perm_middle.length_eq
      rw [updD_self, e6, e5, ← hB2] at h
      rw [e4]
      exact lru_string_cl (hF.turned hl2) hB1 (Own.sub (h) (by repeat (first | exact Sub.nil _ | exact Sub.rfl _ | (apply Sub.cons; focus ((repeat (first | with_reducible exact Pick.here | apply Pick.there)); done)) | apply Sub.drop)))
  · have hn : lkp xs k = none := by
      cases hh : lkp xs k with
      | none => rfl
      | some y => rw [hh] at hc; cases hc
    have e1 : fst1 xs k = xs := by unfold fst1; rw [hn]
    rw [e1]; exact h0
theorem lrDrop_string {k : ByteArray} (h : Own e w (lru_string g most xs :: F)) : Rets Try.prog 33 #[.pointer (some ⟨g, 0, none⟩), Value.string k] w fun v w' => v = .bool (lkp xs k).isSome ∧ Own e w' (lru_string g most (drp xs k) :: F) := by
  refine lru_Cache_string_int_Drop_go _ _ (Rets.mono (lrPeek_string h) ?_)
  rintro _ w1 ⟨rfl, rfl⟩
  have h0 := h
  obtain ⟨r, root, D, ah, be, ns, f, hF, hB, h⟩ := lru_string_op h
  refine ⟨_, _, rfl, fun hc => ?_, fun hc => ⟨_, (Own.ld h (by repeat (first | with_reducible exact Pick.here | apply Pick.there)) (by rfl)), ?_⟩⟩
  · cases hf : f (Value.string k) with
    | none =>
      obtain ⟨g1, g2⟩ := hF.none_ hf
      rw [g1, g2]; exact ⟨rfl, h0⟩
    | some v =>
      obtain ⟨l, p, rr, rfl, rfl, e1, e2, e3⟩ := hF.some_ kvs hf
      rw [e2] at hc; cases hc
  · refine Own.mapGet (d := TypeDesc.string) (kt := 9) (et := 70) (n := ns.length) (f := f) (r := r) (z := .pointer none) (h := (Own.pk h (by repeat (first | with_reducible exact Pick.here | apply Pick.there)))) (by kernel_rfl) (by kernel_rfl) (by simp [MapKept.IsKey]) (zeroV_run' (by kernel_rfl)) ?_
    cases hf : f (Value.string k) with
    | none => rw [(hF.none_ hf).1] at hc; cases hc
    | some v =>
      obtain ⟨l, p, rr, rfl, rfl, e1, e2, e3⟩ := hF.some_ kvs hf
      have h : Own e w1 (famH (node 72 Value.string D ah be) (root :: (l ++ p :: rr)) :: blk g 74 [.map (some r), .pointer (some ⟨root, 0, none⟩), .int .i64 (us xs), .int .i64 most] :: mpO TypeDesc.string r f (l ++ p :: rr).length :: F) := (Own.sub (h) (by repeat (first | exact Sub.nil _ | exact Sub.rfl _ | (apply Sub.cons; focus ((repeat (first | with_reducible exact Pick.here | apply Pick.there)); done)) | apply Sub.drop)))
      refine ⟨_, rfl, Rets.mono (lrOut_string (g := g) h hF.1 hF.2.1) ?_⟩
      rintro _ w2 ⟨rfl, ah', be', pa, pb, hl, h⟩
      refine ⟨rfl, h.drw fun w2 h => smR ?_⟩
      have e5 : xs = l.map D ++ [D p] ++ rr.map D := by rw [hF.2.2.2.2]; simp
      obtain ⟨hB1, hB2⟩ := (e5 ▸ hB : LrB (l.map D ++ [D p] ++ rr.map D) most).sub
      have e6 : us xs = us ((l ++ rr).map D) + (D p).2.2 := by rw [e5, us_app, us_app, List.map_append, us_app]; simp only [us]; omega
      have e7 : 0 ≤ us ((l ++ rr).map D) := by rw [List.map_append]; exact hB1.nn
      have e8 : us ((l ++ rr).map D) ≤ 4611686018427387904 := by rw [List.map_append]; exact Int.le_trans hB1.2.1 hB1.2.2.2
      refine ⟨_, (Own.ld h (by repeat (first | with_reducible exact Pick.here | apply Pick.there)) (by rfl)), _, Own.ld (g := p) (k := 2) h (by repeat (first | with_reducible exact Pick.here | apply Pick.there)) rfl, ?_⟩
      have e9 : IntKind.wrap .i64 (us xs - (D p).2.2) = us ((l ++ rr).map D) := by rw [wI64 (by omega) (by omega)]; omega
      rw [e9]
      refine Own.stP h (by repeat (first | with_reducible exact Pick.here | apply Pick.there)) (by simp) (by simp [Value.oneCell']) fun w2 h => ?_
      simp only [setFrom, List.set_cons_zero, List.set_cons_succ, List.set_nil] at h
      refine ⟨_, (Own.ld h (by repeat (first | with_reducible exact Pick.here | apply Pick.there)) (by rfl)), ?_⟩
      refine Own.mapDel (d := TypeDesc.string) (kt := 9) (et := 70) (n := (l ++ p :: rr).length) (f := f) (r := r) (h := (Own.pk h (by repeat (first | with_reducible exact Pick.here | apply Pick.there)))) (by kernel_rfl) (by kernel_rfl) (by simp [MapKept.IsKey]) fun f' w2 h1 h2 h => ?_
      have e10 : (if (f (Value.string k)).isSome = true then (l ++ p :: rr).length - 1 else (l ++ p :: rr).length) = (l ++ rr).length := by rw [hf]; simp
      rw [e10] at h
      rw [e2, e3]
      refine ⟨rfl, rfl, lru_string_cl (hF.dropped e1 hl h1 h2) (by rw [List.map_append]; exact hB1) (Own.sub (h) (by repeat (first | exact Sub.nil _ | exact Sub.rfl _ | (apply Sub.cons; focus ((repeat (first | with_reducible exact Pick.here | apply Pick.there)); done)) | apply Sub.drop)))⟩
/-- A thing that is too great, or has no right cost. -/
theorem lrPutBad_string {k : ByteArray} {v n : Int} (hb : ¬ (0 ≤ n ∧ n ≤ 4611686018427387904 ∧ n ≤ most)) (h : Own e w (lru_string g most xs :: F)) : Rets Try.prog 19 #[.pointer (some ⟨g, 0, none⟩), Value.string k, .int .i64 v, .int .i64 n] w fun v w' => v = .tuple #[.slice none 0 0, .bool false] ∧ w' = w := by
  obtain ⟨r, root, D, ah, be, ns, f, hF, hB, h⟩ := lru_string_op h
  refine lru_Cache_string_int_Put_go _ _ _ _ ⟨fun _ => cost_Right_go _ ⟨fun h1 => ⟨_, rfl, fun h2 => ⟨_, (Own.ld h (by repeat (first | with_reducible exact Pick.here | apply Pick.there)) (by rfl)), fun h3 => ⟨rfl, rfl⟩, fun h3 => ?_⟩, fun h2 => ⟨rfl, rfl⟩⟩, fun h1 => ⟨_, rfl, fun h2 => (by cases h2), fun h2 => ⟨rfl, rfl⟩⟩⟩, fun hc => (by cases hc)⟩
  simp at h1 h2 h3
  exact absurd ⟨h1, h2, h3⟩ hb
theorem lrPutOk_string {k : ByteArray} {v n : Int} (hb : 0 ≤ n ∧ n ≤ 4611686018427387904 ∧ n ≤ most) (hx : xs.length ≤ 1000) (h : Own e w (lru_string g most xs :: F)) : Rets Try.prog 19 #[.pointer (some ⟨g, 0, none⟩), Value.string k, .int .i64 v, .int .i64 n] w fun o w' => ∃ q c j, Evt (drp xs k) (most - n) j ∧ o = .tuple #[.slice q ((drp xs k).length - j) c, .bool true] ∧
    Own e w' (slO 9 1 q ((drp xs k).length - j) c (gonV Value.string (drp xs k) j) :: lru_string g most ((k, v, n) :: (drp xs k).take j) :: F) := by
  have hB0 : LrB xs most := by obtain ⟨_, _, _, _, _, _, _, _, hB, _⟩ := lru_string_op h; exact hB
  obtain ⟨hB1, _⟩ := hB0.drp k
  have hlen : (drp xs k).length ≤ 1000 := Nat.le_trans drp_len hx
  have hcell : cellAt w ((⟨g, 0, none⟩ : Addr).add 3) (.int .i64 most) := by
    obtain ⟨r, root, D, ah, be, ns, f, hF, hB, h⟩ := lru_string_op h
    exact (Own.ld h (by repeat (first | with_reducible exact Pick.here | apply Pick.there)) (by rfl))
  refine lru_Cache_string_int_Put_go _ _ _ _ ⟨fun _ => cost_Right_go _ ⟨fun h1 => ⟨_, rfl, fun h2 => ⟨_, hcell, fun h3 => ?_, fun h3 => ?_⟩, fun h2 => ?_⟩, fun h1 => ?_⟩, fun hc => (by cases hc)⟩
  · simp at h3; omega
  · refine Rets.mono (lrDrop_string h) ?_
    rintro _ w1 ⟨rfl, h⟩
    refine ⟨_, rfl, ?_⟩
    have hkk := drp_not (xs := xs) (k := k)
    generalize drp xs k = ys at h hB1 hlen hkk
    refine ⟨fun K vs w => ∃ q c, K ≤ ys.length ∧ vs = [.slice q (ys.length - K) c] ∧ (∀ i, K < i → i ≤ ys.length → most - n < us (ys.take i)) ∧ Own e w (slO 9 1 q (ys.length - K) c (gonV Value.string ys K) :: lru_string g most (ys.take K) :: F), ⟨ys.length, none, 0, Nat.le_refl _, by rw [Nat.sub_self], fun i h4 h5 => absurd h4 (by omega), ?_⟩, ?_⟩
    · rw [gonV_all, Nat.sub_self, List.take_length]
      exact Own.slNil h
    · intro K w1 q k3 c
      intros
      rename_i hI
      obtain ⟨q', c', hK, hvs, hgt, h⟩ := hI
      simp at hvs
      obtain ⟨rfl, rfl, rfl⟩ := hvs
      have hBK : LrB (ys.take K) most := hB1.take K
      have hnn := hBK.nn
      obtain ⟨hb1, hb2, hb3⟩ := hb
      have hle := hBK.2.1
      have hm4 := hBK.2.2.2
      have hwr : IntKind.wrap .i64 (most - n) = most - n := wI64 (by omega) (by omega)
      have h := h.swap
      have hK0 := h
      obtain ⟨r, root, D, ah, be, ns, f, hF, hB, h⟩ := lru_string_op h
      refine h.drw fun w1 h => ⟨_, (Own.ld h (by repeat (first | with_reducible exact Pick.here | apply Pick.there)) (by rfl)), _, (Own.ld h (by repeat (first | with_reducible exact Pick.here | apply Pick.there)) (by rfl)), fun hc => ⟨_, (Own.ld h (by repeat (first | with_reducible exact Pick.here | apply Pick.there)) (by rfl)), ?_⟩, fun hc => ?_⟩
      · rw [hwr] at hc
        have hc := dec_t hc
        obtain ⟨j, rfl⟩ : ∃ j, K = j + 1 := by
          cases K with
          | zero => simp [us] at hc; omega
          | succ j => exact ⟨j, rfl⟩
        have hj : j < ys.length := by omega
        have e1 := hF.2.2.2.2
        rw [take_step hj] at e1
        obtain ⟨l, l2, rfl, e2, e3⟩ := List.map_eq_append_iff.1 e1.symm
        obtain ⟨p, l3, rfl, e4, e5⟩ := List.map_eq_cons_iff.1 e3
        have e5 := List.map_eq_nil_iff.1 e5
        subst e5
        have hcr : cellAt w1 ((⟨root, 0, none⟩ : Addr).add 3) (.pointer (some ⟨p, 0, none⟩)) := by
          have := Own.ndRd (h := h.drop.drop) (a := root) (k := 3) (by simp) rfl
          rw [hF.2.1.end_] at this; exact this
        have hcp : cellAt w1 ((⟨p, 0, none⟩ : Addr).add 0) (Value.string (D p).1) := Own.ndRd (h := h.drop.drop) (a := p) (k := 0) (by simp) rfl
        refine smR ⟨_, hcr, smR ⟨_, hcp, h.newR fun a3 w2 h => ?_⟩⟩
        have h : Own e w2 (slO 9 1 q (ys.length - (j + 1)) c (gonV Value.string ys (j + 1)) :: blk a3 9 [Value.string (D p).1] :: blk g 74 [.map (some r), .pointer (some ⟨root, 0, none⟩), .int .i64 (us (ys.take (j + 1))), .int .i64 most] :: mpO TypeDesc.string r f (l ++ [p]).length :: famH (node 72 Value.string D ah be) (root :: (l ++ [p])) :: F) := (Own.sub (h) (by repeat (first | exact Sub.nil _ | exact Sub.rfl _ | (apply Sub.cons; focus ((repeat (first | with_reducible exact Pick.here | apply Pick.there)); done)) | apply Sub.drop)))
        refine Own.append (z := [Value.string (⟨#[]⟩ : ByteArray)]) (b := 16) (news := [Value.string (D p).1]) h (by kernel_rfl) (by kernel_rfl) (by kernel_rfl) (by kernel_rfl) (by kernel_rfl) (by omega) (Own.blkRd h.drop) rfl (by simp [Value.oneCell']) (by unfold maxLen; omega) (by omega) fun q' c' w3 h _ => ?_
        refine ⟨_, _, _, rfl, smR ⟨_, Own.ndRd (h := h.drop.drop.drop.drop) (a := p) (k := 0) (by simp) rfl, ?_⟩⟩
        have h : Own e w3 (blk g 74 [.map (some r), .pointer (some ⟨root, 0, none⟩), .int .i64 (us (ys.take (j + 1))), .int .i64 most] :: mpO TypeDesc.string r f (l ++ [p]).length :: famH (node 72 Value.string D ah be) (root :: (l ++ [p])) :: slO 9 1 q' (ys.length - (j + 1) + 1) c' (gonV Value.string ys (j + 1) ++ [Value.string (D p).1]) :: F) := (Own.sub (h) (by repeat (first | exact Sub.nil _ | exact Sub.rfl _ | (apply Sub.cons; focus ((repeat (first | with_reducible exact Pick.here | apply Pick.there)); done)) | apply Sub.drop)))
        refine Rets.mono (lrDrop_string (k := (D p).1) (lru_string_cl hF hB h)) ?_
        rintro _ w4 ⟨rfl, h⟩
        refine ⟨_, rfl, j, by omega, q', c', by omega, ?_, fun i h4 h5 => ?_, ?_⟩
        · rw [show ys.length - (j + 1) + 1 = ys.length - j by omega]
        · rcases Nat.lt_or_ge (j + 1) i with h6 | h6
          · exact hgt i h6 h5
          · rw [show i = j + 1 by omega]; exact hc
        · have e6 : drp (ys.take (j + 1)) (D p).1 = ys.take j := by
            have hk2 := hF.keys
            rw [take_step hj] at hk2 ⊢
            rw [e4]
            exact drp_last hk2
          rw [e6, e4, show ys.length - (j + 1) + 1 = ys.length - j by omega, ← gonV_step hj] at h
          exact h.swap
      · rw [hwr] at hc
        have hc := dec_f hc
        have hf := hF.noKey (k := k) kvs fun x hx => hkk x (List.mem_of_mem_take hx)
        refine h.newR fun a5 w2 h => ⟨_, (Own.ld h (by repeat (first | with_reducible exact Pick.here | apply Pick.there)) (by rfl)), ?_⟩
        refine Own.mapSet (d := TypeDesc.string) (kt := 9) (et := 70) (f := f) (n := ns.length) (r := r) (v := ptr a5) (h := (Own.pk h (by repeat (first | with_reducible exact Pick.here | apply Pick.there)))) (by kernel_rfl) (by kernel_rfl) (by simp [MapKept.IsKey]) fun f' w2 h1 h2 h => ?_
        have e1 : (if (f (Value.string k)).isSome = true then ns.length else ns.length + 1) = ns.length + 1 := by rw [hf]; simp
        rw [e1] at h
        have h : Own e w2 (mpO TypeDesc.string r f' (ns.length + 1) :: blk a5 72 (nodeV Value.string (k, v, n) none none) :: blk g 74 [.map (some r), .pointer (some ⟨root, 0, none⟩), .int .i64 (us (ys.take K)), .int .i64 most] :: famH (node 72 Value.string D ah be) (root :: ns) :: slO 9 1 q (ys.length - K) c (gonV Value.string ys K) :: F) := (Own.sub (h) (by repeat (first | exact Sub.nil _ | exact Sub.rfl _ | (apply Sub.cons; focus ((repeat (first | with_reducible exact Pick.here | apply Pick.there)); done)) | apply Sub.drop)))
        have h : Own e w2 (blk a5 72 (nodeV Value.string (k, v, n) none none) :: blk g 74 [.map (some r), .pointer (some ⟨root, 0, none⟩), .int .i64 (us (ys.take K)), .int .i64 most] :: famH (node 72 Value.string D ah be) (root :: ns) :: mpO TypeDesc.string r f' (ns.length + 1) :: slO 9 1 q (ys.length - K) c (gonV Value.string ys K) :: F) := (Own.sub (h) (by repeat (first | exact Sub.nil _ | exact Sub.rfl _ | (apply Sub.cons; focus ((repeat (first | with_reducible exact Pick.here | apply Pick.there)); done)) | apply Sub.drop)))
        refine Rets.mono (lrFirst_string h hF.1 hF.2.1) ?_
        rintro _ w3 ⟨rfl, hp, ah2, be2, hl2, h⟩
        have h : Own e w3 (blk g 74 [.map (some r), .pointer (some ⟨root, 0, none⟩), .int .i64 (us (ys.take K)), .int .i64 most] :: famH (node 72 Value.string (updD D a5 (k, v, n)) ah2 be2) (root :: a5 :: ns) :: mpO TypeDesc.string r f' (a5 :: ns).length :: slO 9 1 q (ys.length - K) c (gonV Value.string ys K) :: F) := h
        refine ⟨rfl, _, (Own.ld h (by repeat (first | with_reducible exact Pick.here | apply Pick.there)) (by rfl)), ?_⟩
        have e2 : IntKind.wrap .i64 (us (ys.take K) + n) = us ((k, v, n) :: ys.take K) := by rw [wI64 (by omega) (by omega)]; simp only [us]; omega
        rw [e2]
        refine Own.stP h (by repeat (first | with_reducible exact Pick.here | apply Pick.there)) (by simp) (by simp [Value.oneCell']) fun w4 h => ?_
        simp only [setFrom, List.set_cons_zero, List.set_cons_succ, List.set_nil] at h
        refine ⟨q, c, K, ⟨hK, by omega, hgt⟩, rfl, ?_⟩
        have h := lru_string_cl (xs := (k, v, n) :: ys.take K) (ns := a5 :: ns) (hF.added hp rfl hf hl2 h1 h2) ⟨fun x hx => ?_, by simp only [us]; omega, hBK.2.2⟩ (F := slO 9 1 q (ys.length - K) c (gonV Value.string ys K) :: F) (Own.sub (h) (by repeat (first | exact Sub.nil _ | exact Sub.rfl _ | (apply Sub.cons; focus ((repeat (first | with_reducible exact Pick.here | apply Pick.there)); done)) | apply Sub.drop)))
        · exact h.swap
        · rcases List.mem_cons.1 hx with rfl | hx
          · exact hb1
          · exact hBK.1 x hx
  · simp at h2; omega
  · simp at h1; omega
end
end Go.Proofs.Ytianklbklggboaa.Eng
