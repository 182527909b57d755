/- PoolApart. -/
import Derived.Test.YtmenjjofmafacaaPolQ
import Derived.Laws.Runes
namespace Go.Proofs.Ytmenjjofmafacaa.Eng
open Go Go.RowKit Go.Proofs
set_option linter.unusedVariables false
set_option linter.unusedSimpArgs false
set_option maxRecDepth 1000000
/-- The text of one letter. -/
def chB (c : Nat) : ByteArray := Utf8.encode ((97 + c : Nat) : Int)
theorem chB_eq {c : Nat} (hc : c < 30) : chB c = ⟨#[UInt8.ofNat (97 + c)]⟩ := by
  unfold chB Utf8.encode
  have hv : Utf8.valid ((97 + c : Nat) : Int) = true := by
    unfold Utf8.valid
    simp
    omega
  simp only [hv, if_true, Int.toNat_natCast]
  rw [if_pos (by omega)]
theorem toL_ne {a b : ByteArray} (h : a ≠ b) : (ByteArray.toList a == ByteArray.toList b) = false := by
  rw [beq_eq_false_iff_ne]
  intro e
  apply h
  have ha := congrArg List.toArray e
  simp only [ByteArray.toList_eq] at ha
  cases a; cases b
  simpa using ha
theorem chB_ne {a b : Nat} (ha : a < 30) (hb : b < 30) (h : a ≠ b) : (ByteArray.toList (chB a) == ByteArray.toList (chB b)) = false := by
  refine toL_ne fun e => h ?_
  rw [chB_eq ha, chB_eq hb] at e
  have e : UInt8.ofNat (97 + a) = UInt8.ofNat (97 + b) := by simpa using e
  have e2 := congrArg UInt8.toNat e
  simp at e2
  omega
def sfl (r : Nat) (o : Option Addr × Nat) : HP := slO 9 1 o.1 r r (List.replicate r (.string (chB o.2)))
def sflV (r : Nat) (os : List (Option Addr × Nat)) : List Value := os.map fun o => .slice o.1 r r
theorem sflV_snoc (r : Nat) (os : List (Option Addr × Nat)) (o : Option Addr × Nat) : sflV r (os ++ [o]) = sflV r os ++ [.slice o.1 r r] := by simp [sflV]
theorem sflV_one (r : Nat) (os : List (Option Addr × Nat)) : ∀ v ∈ sflV r os, v.oneCell' = true := fun v hv => by
  obtain ⟨q, _, rfl⟩ := List.mem_map.1 hv; rfl
theorem sflV_len (r : Nat) (os : List (Option Addr × Nat)) : (sflV r os).length = os.length := by simp [sflV]
theorem sflV_at {r : Nat} {os : List (Option Addr × Nat)} {j : Nat} (hj : j < os.length) : (sflV r os)[j]? = some (.slice os[j].1 r r) := by simp [sflV, hj]
theorem sflV_cut (r : Nat) (os : List (Option Addr × Nat)) (j : Nat) : (sflV r os).take j ++ (sflV r os).drop (j + 1) = sflV r (os.take j ++ os.drop (j + 1)) := by simp [sflV]
theorem map_cut {α β : Type} (f : α → β) {l : List α} {j : Nat} (hj : j < l.length) : l.map f = (l.take j).map f ++ f l[j] :: (l.drop (j + 1)).map f := by
  have : l = l.take j ++ l[j] :: l.drop (j + 1) := by rw [List.getElem_cons_drop, List.take_append_drop]
  conv => lhs; rw [this]
  rw [List.map_append, List.map_cons]
def Up (os : List (Option Addr × Nat)) : Prop := os.Pairwise (fun a b => a.2 < b.2)
theorem Up.cut {os : List (Option Addr × Nat)} (h : Up os) (j : Nat) : Up (os.take j ++ os.drop (j + 1)) := by
  have h : os.Pairwise (fun a b => a.2 < b.2) := h
  refine List.Pairwise.sublist ?_ h
  have h1 : (os.drop (j + 1)).Sublist (os.drop j) := by
    rw [← List.drop_drop]; exact List.drop_sublist _ _
  have h2 := List.Sublist.append (List.Sublist.refl (os.take j)) h1
  rw [List.take_append_drop] at h2
  exact h2
theorem cut_mem {os : List (Option Addr × Nat)} {j : Nat} {o : Option Addr × Nat} (h : o ∈ os.take j ++ os.drop (j + 1)) : o ∈ os := by
  rcases List.mem_append.1 h with h | h
  · exact List.mem_of_mem_take h
  · exact List.mem_of_mem_drop h
section
variable {e w : World} {F : List HP} {r : Nat} {os : List (Option Addr × Nat)} {A B : HP}
theorem sfl_rd (h : Own e w (A :: B :: (os.map (sfl r) ++ F))) {a : Nat} (ha : a < os.length) : RdC w os[a].1 (List.replicate r (.string (chB os[a].2))) := by
  rw [map_cut _ ha, List.append_assoc] at h
  have h : Own e w (([A, B] ++ (os.take a).map (sfl r)) ++ sfl r os[a] :: ((os.drop (a + 1)).map (sfl r) ++ F)) := h
  exact Own.slRd (T := 9) (s := 1) (n := r) (c := r) h.mid
end
section
variable {W : World} {q : Option Addr} {c : Nat} {L : List Int} {room spare : Int}
theorem PoolApart_spec (hrw : (Lit.int .i64 room).wf = true) (hsw : (Lit.int .i64 spare).wf = true) (hb : RdC W q (cs .u64 L)) (hm : L.length ≤ maxLen) (hc : L.length ≤ c) (hw : ∀ x ∈ L, (Lit.int .u64 x).wf = true) :
    Rets Try.prog 5 #[.int .i64 room, .int .i64 spare, .slice q L.length c] W fun v w' => v = .bool true ∧ Below W.heap.size W w' := by
  refine Rets.mono (k := fun v w' => v = .bool true ∧ Own W w' [snap W]) ?_ (fun v w' h => ⟨h.1, h.2.below⟩)
  have h := Own.begin W
  have hr : ∀ w, Own W w [snap W] → RdC w q (cs .u64 L) := fun w h => h.snapRd hb
  have aw : ∀ w, Own W w [snap W] → Rets Try.prog 15 #[] w fun v w' => ∃ b, v = Value.bool b ∧ (Value.bool b) = .bool true ∧ Own W w' [snap W] := fun w h => by
    refine Rets.mono (plAwake h) ?_
    rintro _ w ⟨rfl, h⟩
    exact ⟨_, rfl, rfl, h⟩
  refine cortadolaw09_PoolApart_go _ _ _ _ _ ⟨fun hx => aw W h, fun hx => ?_⟩
  have hx := dec_f hx
  refine Rets.mono (plNew_string h) ?_
  clear h
  rintro _ w ⟨g, rfl, h⟩
  have b1 : 1 ≤ maxI 1 (minI (minI room 20) 1024) ∧ maxI 1 (minI (minI room 20) 1024) ≤ 20 := by unfold maxI minI; split <;> split <;> split <;> omega
  have b2 : 0 ≤ maxI 0 (minI spare 1024) ∧ maxI 0 (minI spare 1024) ≤ 1024 := by unfold maxI minI; split <;> split <;> omega
  obtain ⟨r, er⟩ := Int.eq_ofNat_of_zero_le (a := maxI 1 (minI (minI room 20) 1024)) (by omega)
  obtain ⟨sp, es⟩ := Int.eq_ofNat_of_zero_le (a := maxI 0 (minI spare 1024)) (by omega)
  rw [er] at b1 h
  rw [es] at b2 h
  rw [Int.toNat_natCast, Int.toNat_natCast] at h
  refine ⟨_, rfl, fun z vs w => ∃ (i md : Nat) (qs : List (Option Addr)) (os : List (Option Addr × Nat)) (qo : Option Addr) (co : Nat), vs = [.slice qo os.length co, .int .i64 (i : Int)] ∧ z + i = L.length ∧ md ≤ i ∧ os.length ≤ i ∧ Up os ∧ (∀ o ∈ os, o.2 < i) ∧ Own W w (pol_string g r sp md qs :: slO 44 1 qo os.length co (sflV r os) :: (os.map (sfl r) ++ [snap W])), ⟨L.length, 0, 0, [], [], none, 0, rfl, rfl, Nat.le_refl _, Nat.le_refl _, List.Pairwise.nil, fun o ho => (by cases ho), (h.slNil).swap⟩, ?_⟩
  clear h
  rintro z w v3 qo0 k3 co0 n1
  intros
  rename_i hI
  obtain ⟨i, md, qs, os, qo, co, hvs, hz, hmd, hol, hup, hlt, h⟩ := hI
  obtain ⟨⟨rfl, rfl, rfl⟩, rfl⟩ : (qo0 = qo ∧ k3 = os.length ∧ co0 = co) ∧ n1 = (i : Int) := by simpa using hvs
  refine ⟨fun hc1 => ?_, fun hc1 => ?_⟩
  · have hc1 := dec_t hc1
    have hi : i < L.length := by omega
    have ei : IntKind.wrap .i64 ((i : Int) + 1) = ((i + 1 : Nat) : Int) := by rw [wI64 (by omega) (by omega)]; rfl
    obtain ⟨x, hxe⟩ : ∃ x, x = L[i] := ⟨_, rfl⟩
    have hxw := wfU64 (hw x (by rw [hxe]; exact List.getElem_mem hi))
    obtain ⟨ad, rfl, _⟩ := (hr w (Own.dropL h.drop.drop)).addr (cs_at hi)
    have rdx : ∀ w, Own W w [snap W] → World.cell? w (ad.add (Int.toNat (i : Int) * 1)) = some (.int .u64 x) := fun w h => by
      obtain ⟨ad', ead, hcell⟩ := (hr w h).addr (cs_at hi)
      cases ead
      rw [Int.toNat_natCast, Nat.mul_one, hxe]; exact hcell _ _ (cs_at hi)
    refine Rets.mono (plTake_string (by omega) (by omega) h) ?_
    clear h
    rintro _ w ⟨qb, qs', md', rfl, hcase, h⟩
    have hmd' : md' ≤ md + 1 := by
      rcases hcase with ⟨_, h⟩ | ⟨_, _, h⟩ <;> omega
    refine ⟨_, _, _, rfl, fun _ => ?_, fun hc => absurd hc (by simp)⟩
    refine Rets.mono (plRoom_string h.swap) ?_
    clear h
    rintro _ w ⟨rfl, h⟩
    refine ⟨_, rfl, fun _ => ?_, fun hc => (by have := dec_t hc; omega)⟩
    refine Rets.mono (plRoom_string h) ?_
    clear h
    rintro _ w ⟨rfl, h⟩
    refine ⟨_, rfl, fun hc => (by have := dec_t hc; omega), fun _ => ?_⟩
    refine ⟨fun z2 vs w => ∃ t : Nat, vs = [.slice qb t r, .int .i64 (t : Int)] ∧ z2 + t = r ∧ Own W w (pol_string g r sp md' qs' :: slO 9 1 qb t r (List.replicate t (.string (chB i))) :: slO 44 1 qo0 os.length co0 (sflV r os) :: (os.map (sfl r) ++ [snap W])), ⟨r, 0, rfl, by omega, h⟩, ?_⟩
    clear h
    rintro z2 w qq kk cc n4
    intros
    rename_i hI
    obtain ⟨t, hvs, hz2, h⟩ := hI
    obtain ⟨⟨rfl, rfl, rfl⟩, rfl⟩ : (qq = qb ∧ kk = t ∧ cc = r) ∧ n4 = (t : Int) := by simpa using hvs
    refine Rets.mono (plRoom_string h) ?_
    clear h
    rintro _ w ⟨rfl, h⟩
    refine ⟨_, rfl, fun hc2 => ?_, fun hc2 => ?_⟩
    · have hc2 := dec_t hc2
      have er32 : IntKind.wrap .i32 (IntKind.wrap .i64 (97 + (i : Int))) = ((97 + i : Nat) : Int) := by
        rw [wI64 (by omega) (by omega)]
        have : IntKind.wrap .i32 (97 + (i : Int)) = 97 + (i : Int) := by
          simp [IntKind.wrap, IntKind.signed, IntKind.bits]; omega
        rw [this]; omega
      rw [er32]
      refine ⟨_, _, run_convert_int_string w _ _ _ _ (by kernel_rfl) (by kernel_rfl), _, rfl, h.newR fun g4 w h => ?_⟩
      have hsrc : RdC w (some ⟨g4, 0, none⟩) [.string (chB i)] := h.blkRd
      have h : Own W w (slO 9 1 qq kk cc (List.replicate kk (.string (chB i))) :: pol_string g cc sp md' qs' :: slO 44 1 qo0 os.length co0 (sflV cc os) :: (os.map (sfl cc) ++ [snap W])) := (Own.sub (h) (by repeat (first | with_reducible exact Sub.nil _ | with_reducible exact Sub.rfl _ | (apply Sub.cons; focus ((repeat (first | with_reducible exact Pick.here | apply Pick.there)); done)) | apply Sub.drop)))
      refine Own.appendRoom (z := [.string ⟨#[]⟩]) (m := 1) h (by kernel_rfl) (by kernel_rfl) (by kernel_rfl) (by omega) hsrc rfl (fun v hv => by rw [List.mem_singleton.1 hv]; rfl) (by omega) (by omega) fun w h => ⟨_, _, _, rfl, z2 - 1, by omega, kk + 1, ?_, by omega, ?_⟩
      · rw [wI64 (by omega) (by omega)]; rfl
      · rw [← List.replicate_succ'] at h
        exact h.swap
    · have hc2 := dec_f hc2
      obtain rfl : kk = cc := by omega
      refine h.newR fun g5 w h => ?_
      have hsrc : RdC w (some ⟨g5, 0, none⟩) [.slice qq kk kk] := h.blkRd
      have h : Own W w (slO 44 1 qo0 os.length co0 (sflV kk os) :: sfl kk (qq, i) :: pol_string g kk sp md' qs' :: (os.map (sfl kk) ++ [snap W])) := by
        have h : Own W w (blk g5 44 [.slice qq kk kk] :: pol_string g kk sp md' qs' :: sfl kk (qq, i) :: slO 44 1 qo0 os.length co0 (sflV kk os) :: (os.map (sfl kk) ++ [snap W])) := h
        exact (Own.sub (h) (by repeat (first | with_reducible exact Sub.nil _ | with_reducible exact Sub.rfl _ | (apply Sub.cons; focus ((repeat (first | with_reducible exact Pick.here | apply Pick.there)); done)) | apply Sub.drop)))
      refine Own.append (z := [.slice none 0 0]) (b := 24) (m := 1) h (by kernel_rfl) (by kernel_rfl) (by kernel_rfl) (by kernel_rfl) (by kernel_rfl) (by omega) hsrc rfl (fun v hv => by rw [List.mem_singleton.1 hv]; rfl) (by unfold maxLen; omega) (by omega) fun q6 c6 w h _ => ⟨_, _, _, rfl, ?_⟩
      obtain ⟨os', hos'⟩ : ∃ os', os' = os ++ [(qq, i)] := ⟨_, rfl⟩
      have hol' : os'.length = os.length + 1 := by rw [hos']; simp
      have hup' : Up os' := by
        rw [hos']
        refine List.pairwise_append.2 ⟨hup, List.pairwise_singleton _ _, fun a ha b hb => ?_⟩
        rw [List.mem_singleton.1 hb]; exact hlt a ha
      have hlt' : ∀ o ∈ os', o.2 < i + 1 := fun o ho => by
        rw [hos'] at ho
        rcases List.mem_append.1 ho with ho | ho
        · have := hlt o ho; omega
        · rw [List.mem_singleton.1 ho]; show i < i + 1; omega
      rw [← hol'] at h ⊢
      have h : Own W w (pol_string g kk sp md' qs' :: slO 44 1 q6 os'.length c6 (sflV kk os') :: (os'.map (sfl kk) ++ [snap W])) := by
        have h : Own W w (sfl kk (qq, i) :: (([pol_string g kk sp md' qs', slO 44 1 q6 os'.length c6 (sflV kk os ++ [.slice qq kk kk])] ++ os.map (sfl kk)) ++ [snap W])) := by
          have h2 : Own W w (sfl kk (qq, i) :: pol_string g kk sp md' qs' :: slO 44 1 q6 os'.length c6 (sflV kk os ++ [.slice qq kk kk]) :: (os.map (sfl kk) ++ [snap W])) := (Own.sub (h) (by repeat (first | with_reducible exact Sub.nil _ | with_reducible exact Sub.rfl _ | (apply Sub.cons; focus ((repeat (first | with_reducible exact Pick.here | apply Pick.there)); done)) | apply Sub.drop)))
          exact h2
        have h := h.midBack
        have e1 : sflV kk os' = sflV kk os ++ [.slice qq kk kk] := by rw [hos', sflV_snoc]
        have e2 : os'.map (sfl kk) ++ [snap W] = os.map (sfl kk) ++ sfl kk (qq, i) :: [snap W] := by rw [hos', List.map_append, List.append_assoc]; rfl
        rw [e1, e2]
        exact h
      clear hos' hup hlt hsrc
      let S : World → Prop := fun w => Own W w (pol_string g kk sp md' qs' :: slO 44 1 q6 os'.length c6 (sflV kk os') :: (os'.map (sfl kk) ++ [snap W]))
      have oR : ∀ w, S w → RdC w q6 (sflV kk os') := fun w h => Own.rdP (T := 44) (q := q6) h (by repeat (first | with_reducible exact Pick.here | apply Pick.there))
      refine ⟨fun z3 vs w => ∃ a : Nat, vs = [.int .i64 (a : Int)] ∧ z3 + a = os'.length ∧ S w, ⟨os'.length, 0, rfl, rfl, h⟩, ?_⟩
      clear h
      rintro z3 w v141 n6
      intros
      rename_i hI
      obtain ⟨a, hvs, hz3, h⟩ := hI
      obtain rfl : n6 = (a : Int) := by simpa using hvs
      have sl : ∀ {b : Nat} {w : World} {k : Addr → Prop}, S w → b < os'.length → (∀ ad, cellAt w (ad.add (Int.toNat (b : Int) * 1)) (.slice (os'[b]!).1 kk kk) → k ad) → someR q6 k := fun {b w k} h hb hk => (oR w h).elem (j := b) (u := .slice (os'[b]!).1 kk kk) (by rw [sflV_at hb, getElem!_pos os' b hb]) fun ad had => hk ad (by rw [Int.toNat_natCast]; exact had)
      have st : ∀ {b j : Nat} {w : World} {k : Addr → Prop}, S w → b < os'.length → j < kk → (∀ ad, cellAt w (ad.add (j * 1)) (.string (chB (os'[b]!).2)) → k ad) → someR (os'[b]!).1 k := fun {b j w k} h hb hj hk => by
        have h1 := sfl_rd h hb
        rw [← getElem!_pos os' b hb] at h1
        exact h1.elem (j := j) (u := .string (chB (os'[b]!).2)) (by rw [List.getElem?_replicate, if_pos hj]) hk
      have ek : IntKind.wrap .i64 ((kk : Int) - 1) = ((kk - 1 : Nat) : Int) := by rw [wI64 (by omega) (by omega)]; omega
      refine ⟨fun hc3 => ?_, fun hc3 => ?_⟩
      · have hc3 := dec_t hc3
        have ha : a < os'.length := by omega
        refine h.drw fun w h => ⟨by omega, by omega, sl h ha fun a3 c3 => ⟨by omega, by omega, sl h ha fun a4 c4 => ⟨by omega, by omega, sl h ha fun a5 c5 => ⟨_, _, _, c3, by omega, by omega, st h ha (j := 0) (by omega) fun a6 c6' => ⟨_, c6', _, _, _, c4, _, _, _, c5, ?_⟩⟩⟩⟩⟩
        rw [ek]
        refine ⟨by omega, by omega, st h ha (j := kk - 1) (by omega) fun a7 c7 => ⟨_, by rw [Int.toNat_natCast]; exact c7, fun hc => absurd hc (by simp), fun _ => ?_⟩⟩
        refine ⟨fun z4 vs w => ∃ b : Nat, vs = [.int .i64 (b : Int)] ∧ z4 + b = a ∧ S w, ⟨a, 0, rfl, rfl, h⟩, ?_⟩
        clear h
        rintro z4 w v186 n7
        intros
        rename_i hI
        obtain ⟨b, hvs, hz4, h⟩ := hI
        obtain rfl : n7 = (b : Int) := by simpa using hvs
        refine ⟨fun hc4 => ?_, fun hc4 => ⟨z3 - 1, by omega, a + 1, by rw [wI64 (by omega) (by omega)]; rfl, by omega, h⟩⟩
        have hc4 := dec_t hc4
        have hba : b < a := by omega
        have hb' : b < os'.length := by omega
        have hne : (ByteArray.toList (chB (os'[b]!).2) == ByteArray.toList (chB (os'[a]!).2)) = false := by
          rw [getElem!_pos os' b hb', getElem!_pos os' a ha]
          have h1 := hlt' _ (List.getElem_mem hb')
          have h2 := hlt' _ (List.getElem_mem ha)
          have h3 := List.pairwise_iff_getElem.1 hup' b a hb' ha hba
          exact chB_ne (by omega) (by omega) (by omega)
        refine h.drw fun w h => ⟨by omega, by omega, sl h hb' fun a8 c8 => ⟨by omega, by omega, sl h ha fun a9 c9 => ⟨_, _, _, c8, by omega, by omega, st h hb' (j := 0) (by omega) fun a10 c10 => ⟨_, c10, _, _, _, c9, by omega, by omega, st h ha (j := 0) (by omega) fun a11 c11 => ⟨_, c11, fun hc => ?_, fun _ => ?_⟩⟩⟩⟩⟩
        · rw [hne] at hc; cases hc
        · exact ⟨z4 - 1, by omega, b + 1, by rw [wI64 (by omega) (by omega)]; rfl, by omega, h⟩
      · refine ⟨by omega, by omega, smR ⟨x, rdx w (Own.dropL h.drop.drop), by omega, fun hev => ?_, fun hev => ?_⟩⟩
        · have hdv : IntKind.wrap .i64 (IntKind.wrap .u64 (Int.tdiv x 2)) = x / 2 := by
            rw [Int.tdiv_eq_ediv_of_nonneg (by omega), wU64' (by omega) (by omega), wI64 (by omega) (by omega)]
          refine ⟨by omega, by omega, smR ⟨x, rdx w (Own.dropL h.drop.drop), by omega, by omega, ?_⟩⟩
          rw [hdv]
          obtain ⟨j, hj⟩ := Int.eq_ofNat_of_zero_le (a := Int.tmod (x / 2) (os'.length : Int)) (Int.tmod_nonneg _ (by omega))
          have hjl : j < os'.length := by
            have : Int.tmod (x / 2) (os'.length : Int) < os'.length := Int.tmod_lt_of_pos _ (by omega)
            omega
          rw [hj]
          have ej : IntKind.wrap .i64 ((j : Int) + 1) = ((j + 1 : Nat) : Int) := by rw [wI64 (by omega) (by omega)]; rfl
          rw [ej]
          refine ⟨by omega, by omega, sl h hjl fun a14 c14 => ⟨_, _, _, c14, ?_⟩⟩
          obtain ⟨ob, hob⟩ : ∃ ob, ob = os'[j] := ⟨_, rfl⟩
          rw [getElem!_pos os' j hjl, ← hob]
          obtain ⟨os2, hos2⟩ : ∃ os2, os2 = os'.take j ++ os'.drop (j + 1) := ⟨_, rfl⟩
          have h : Own W w (sfl kk ob :: pol_string g kk sp md' qs' :: slO 44 1 q6 os'.length c6 (sflV kk os') :: (os2.map (sfl kk) ++ [snap W])) := by
            have h : Own W w (pol_string g kk sp md' qs' :: slO 44 1 q6 os'.length c6 (sflV kk os') :: (os'.map (sfl kk) ++ [snap W])) := h
            have e2 : os'.map (sfl kk) = (os'.take j).map (sfl kk) ++ sfl kk ob :: (os'.drop (j + 1)).map (sfl kk) := by rw [hob]; exact map_cut _ hjl
            rw [e2, List.append_assoc] at h
            have h : Own W w (([pol_string g kk sp md' qs', slO 44 1 q6 os'.length c6 (sflV kk os')] ++ (os'.take j).map (sfl kk)) ++ sfl kk ob :: ((os'.drop (j + 1)).map (sfl kk) ++ [snap W])) := h
            have h := h.mid
            rw [hos2, List.map_append, List.append_assoc]
            exact h
          refine Rets.mono (plGive_string (n := kk) (c := kk) (by omega) (by omega) h) ?_
          clear h
          rintro _ w ⟨rfl, h⟩
          generalize (if qs'.length < sp ∧ kk = kk then qs' ++ [ob.1] else qs') = qs2 at h
          obtain ⟨hf1, hf2, hf3⟩ := (Own.pk (A := slO 44 1 q6 os'.length c6 (sflV kk os')) h (by repeat (first | with_reducible exact Pick.here | apply Pick.there))).slFacts
          refine ⟨_, rfl, h.drw fun w h => ⟨by omega, by omega, by omega, by omega, h.newR fun g11 w h => ?_⟩⟩
          rw [slcA0, Int.toNat_natCast, Int.toNat_natCast, Nat.sub_zero]
          have h := emptyS h
          have hs1 : RdC w q6 ((sflV kk os').take j) := (Own.rdP (T := 44) (q := q6) (n := os'.length) h (by repeat (first | with_reducible exact Pick.here | apply Pick.there))).take j
          refine Own.append (z := [.slice none 0 0]) (b := 24) (m := j) h (by kernel_rfl) (by kernel_rfl) (by kernel_rfl) (by kernel_rfl) (by kernel_rfl) (by omega) hs1 (by rw [List.length_take, sflV_len]; omega) (fun v hv => sflV_one kk os' v (List.mem_of_mem_take hv)) (by unfold maxLen; omega) (by omega) fun q7 c7 w h _ => ⟨_, _, _, rfl, ?_⟩
          have hs2 : RdC w (slcA q6 (j + 1) c6 1) ((sflV kk os').drop (j + 1)) := RdC.cut (Own.rdP (T := 44) (q := q6) (n := os'.length) h (by repeat (first | with_reducible exact Pick.here | apply Pick.there))) (by rw [sflV_len]; omega) (by rw [sflV_len]; omega)
          refine Own.append (z := [.slice none 0 0]) (b := 24) (m := os'.length - (j + 1)) h (by kernel_rfl) (by kernel_rfl) (by kernel_rfl) (by kernel_rfl) (by kernel_rfl) (by omega) hs2 (by rw [List.length_drop, sflV_len]; omega) (fun v hv => sflV_one kk os' v (List.mem_of_mem_drop hv)) (by unfold maxLen; omega) (by omega) fun q8 c8 w h _ => ⟨_, _, _, rfl, ?_⟩
          rw [List.nil_append, sflV_cut, ← hos2] at h
          have hlen : 0 + j + (os'.length - (j + 1)) = os2.length := by rw [hos2]; simp; omega
          rw [hlen] at h ⊢
          exact ⟨z - 1, by omega, i + 1, md', qs2, os2, q8, c8, by rw [ei], by omega, by omega, by omega, by rw [hos2]; exact hup'.cut j, fun o ho => hlt' o (cut_mem (by rw [← hos2]; exact ho)), (Own.sub (h) (by repeat (first | with_reducible exact Sub.nil _ | with_reducible exact Sub.rfl _ | (apply Sub.cons; focus ((repeat (first | with_reducible exact Pick.here | apply Pick.there)); done)) | apply Sub.drop)))⟩
        · exact ⟨z - 1, by omega, i + 1, md', qs', os', q6, c6, by rw [ei], by omega, by omega, by omega, hup', hlt', h⟩
  · refine Rets.mono (k := fun v w' => v = .slice none 0 0 ∧ Own W w' [snap W]) (pool_nil_int_Take_go ⟨fun _ => ⟨rfl, Own.dropL h.drop.drop⟩, fun hc => (by cases hc)⟩) ?_
    clear h
    rintro _ w ⟨rfl, h⟩
    refine ⟨_, _, _, rfl, fun _ => ?_, fun hc => absurd hc (by simp)⟩
    refine Rets.mono (k := fun v w' => v = .bool false ∧ Own W w' [snap W]) (pool_nil_int_Give_go _ _ _ (h.drw fun w h => ⟨fun hc => (by cases hc), fun _ => ⟨rfl, h⟩⟩)) ?_
    clear h
    rintro _ w ⟨rfl, h⟩
    refine ⟨_, rfl, fun _ => ?_, fun hc => absurd hc (by simp)⟩
    refine Rets.mono (k := fun v w' => v = .int .i64 0 ∧ Own W w' [snap W]) (pool_nil_int_Made_go ⟨fun _ => ⟨rfl, h⟩, fun hc => (by cases hc)⟩) ?_
    clear h
    rintro _ w ⟨rfl, h⟩
    refine ⟨_, rfl, ?_⟩
    refine Rets.mono (k := fun v w' => v = .int .i64 0 ∧ Own W w' [snap W]) (pool_nil_int_Spare_go ⟨fun _ => ⟨rfl, h⟩, fun hc => (by cases hc)⟩) ?_
    clear h
    rintro _ w ⟨rfl, h⟩
    refine ⟨_, rfl, ?_⟩
    refine Rets.mono (k := fun v w' => v = .int .i64 0 ∧ Own W w' [snap W]) (pool_nil_int_Room_go ⟨fun _ => ⟨rfl, h⟩, fun hc => (by cases hc)⟩) ?_
    clear h
    rintro _ w ⟨rfl, h⟩
    exact ⟨_, rfl, fun _ => aw w h, fun hc => absurd hc (by decide)⟩
end
end Go.Proofs.Ytmenjjofmafacaa.Eng
