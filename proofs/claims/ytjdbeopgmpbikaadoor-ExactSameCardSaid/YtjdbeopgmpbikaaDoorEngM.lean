/- Maps: what is owned of them; what making, reading, writing, deleting and counting do. -/
import Derived.Test.YtjdbeopgmpbikaaDoorEngW
import Derived.MapKept
namespace Go.Proofs.YtjdbeopgmpbikaaDoor.Eng
open Go Go.RowKit Go.MapKept
set_option linter.unusedVariables false
set_option linter.unusedSimpArgs false
/-- The entries of a map tell f, and are n. -/
def MapA (d : TypeDesc) (f : Value → Option Value) (n : Nat) (es : Array MapEntry) (clock : Nat) : Prop :=
  Stamped es clock ∧ es.size = n ∧ (∀ x ∈ es.toList, MapKept.IsKey d x.key) ∧ (∀ x ∈ es.toList, f x.key = some x.val) ∧ ∀ k v, f k = some v → ∃ x ∈ es.toList, x.key = k ∧ x.val = v
def mpO (d : TypeDesc) (r : Nat) (f : Value → Option Value) (n : Nat) : HP := exH fun (p : Array MapEntry × Nat) => puH (MapA d f n p.1 p.2) (pt r (.map p.1 p.2))
theorem keys_apart {es : Array MapEntry} {clock : Nat} (h : Stamped es clock) {i j : Nat} {x y : MapEntry} (hi : es.toList[i]? = some x) (hj : es.toList[j]? = some y) (hk : x.key = y.key) : i = j := by
  have hp := ((MapKept.stamped_iff es clock).1 h).2.2
  obtain ⟨hi', ei⟩ := List.getElem?_eq_some_iff.1 hi
  obtain ⟨hj', ej⟩ := List.getElem?_eq_some_iff.1 hj
  have hp := List.pairwise_iff_getElem.1 hp
  rcases Nat.lt_trichotomy i j with hlt | heq | hgt
  · exact absurd (by rw [ei, ej]; exact hk) (hp i j hi' hj' hlt)
  · exact heq
  · exact absurd (by rw [ei, ej]; exact hk.symm) (hp j i hj' hi' hgt)
section
variable {d : TypeDesc} {f : Value → Option Value} {n clock : Nat} {es : Array MapEntry} {k v : Value}
theorem MapA.none_ (h : MapA d f n es clock) (hk : ∀ x ∈ es.toList, x.key ≠ k) : f k = none := by
  cases hf : f k with
  | none => rfl
  | some v =>
    obtain ⟨x, hx, hxk, _⟩ := h.2.2.2.2 k v hf
    exact absurd hxk (hk x hx)
theorem MapA.push (h : MapA d f n es clock) (hkk : MapKept.IsKey d k) (hk : ∀ x ∈ es.toList, x.key ≠ k) {f' : Value → Option Value} (h1 : f' k = some v) (h2 : ∀ y, y ≠ k → f' y = f y) : MapA d f' (n + 1) (es.push ⟨k, v, clock⟩) (clock + 1) := by
  obtain ⟨hs, hn, hkey, hin, hout⟩ := h
  refine ⟨MapKept.stamped_push hs hk, by simp [hn], fun x hx => ?_, fun x hx => ?_, fun y u hy => ?_⟩
  · simp only [Array.toList_push, List.mem_append, List.mem_singleton] at hx
    rcases hx with hx | rfl
    · exact hkey x hx
    · exact hkk
  · simp only [Array.toList_push, List.mem_append, List.mem_singleton] at hx
    rcases hx with hx | rfl
    · rw [h2 _ (hk x hx)]; exact hin x hx
    · exact h1
  · by_cases e : y = k
    · subst e
      rw [h1] at hy; cases hy
      exact ⟨⟨y, v, clock⟩, by simp, rfl, rfl⟩
    · rw [h2 y e] at hy
      obtain ⟨x, hx, hx2⟩ := hout y u hy
      exact ⟨x, by simp [hx], hx2⟩
theorem MapA.upd (h : MapA d f n es clock) (hkk : MapKept.IsKey d k) {j : Nat} {e0 : MapEntry} (hj : es.toList[j]? = some e0) (he : e0.key = k) {f' : Value → Option Value} (h1 : f' k = some v) (h2 : ∀ y, y ≠ k → f' y = f y) : MapA d f' n (es.modify j fun e => { e with key := k, val := v }) clock := by
  obtain ⟨hs, hn, hkey, hin, hout⟩ := h
  have hj2 : es[j]? = some e0 := by simpa using hj
  have hget : ∀ i, (es.modify j fun e => { e with key := k, val := v }).toList[i]? = if j = i then (es.toList[i]?).map (fun e => { e with key := k, val := v }) else es.toList[i]? := fun i => by
    rw [Array.toList_modify, List.getElem?_modify]
    by_cases e : j = i
    · simp [e]
    · simp [e]
  have hmem : ∀ x ∈ (es.modify j fun e => { e with key := k, val := v }).toList, (x.key = k ∧ x.val = v) ∨ (x.key ≠ k ∧ x ∈ es.toList) := fun x hx => by
    obtain ⟨i, hi⟩ := List.mem_iff_getElem?.1 hx
    rw [hget i] at hi
    split at hi
    · rename_i e; subst e
      rw [hj] at hi; simp at hi; subst hi
      exact .inl ⟨rfl, rfl⟩
    · rename_i e
      refine .inr ⟨fun ek => e (keys_apart hs hj hi (by rw [he, ek])), List.mem_of_getElem? hi⟩
  refine ⟨MapKept.stamped_modify hs _ _ (fun _ _ => rfl) (fun e' _ he' => ?_), by simpa using hn, fun x hx => ?_, fun x hx => ?_, fun y u hy => ?_⟩
  · rw [hj2] at he'; cases he'; exact he.symm
  · rcases hmem x hx with ⟨e1, _⟩ | ⟨_, hx⟩
    · rw [e1]; exact hkk
    · exact hkey x hx
  · rcases hmem x hx with ⟨e1, e2⟩ | ⟨e1, hx⟩
    · rw [e1, e2]; exact h1
    · rw [h2 _ e1]; exact hin x hx
  · by_cases e : y = k
    · subst e
      rw [h1] at hy; cases hy
      refine ⟨{ e0 with key := y, val := v }, List.mem_of_getElem? (i := j) (by rw [hget j, if_pos rfl, hj]; rfl), rfl, rfl⟩
    · rw [h2 y e] at hy
      obtain ⟨x, hx, hxk, hxv⟩ := hout y u hy
      obtain ⟨i, hi⟩ := List.mem_iff_getElem?.1 hx
      refine ⟨x, List.mem_of_getElem? (i := i) ?_, hxk, hxv⟩
      rw [hget i, if_neg ?_]
      · exact hi
      · rintro rfl
        rw [hj] at hi; cases hi
        exact e (by rw [← hxk, he])
theorem MapA.del (h : MapA d f n es clock) {j : Nat} {e0 : MapEntry} (hj : es.toList[j]? = some e0) (he : e0.key = k) {f' : Value → Option Value} (h1 : f' k = none) (h2 : ∀ y, y ≠ k → f' y = f y) : MapA d f' (n - 1) (es.eraseIdxIfInBounds j) clock := by
  obtain ⟨hs, hn, hkey, hin, hout⟩ := h
  obtain ⟨hjl, _⟩ := List.getElem?_eq_some_iff.1 hj
  have hjl2 : j < es.size := by simpa using hjl
  have et : (es.eraseIdxIfInBounds j).toList = es.toList.eraseIdx j := by
    unfold Array.eraseIdxIfInBounds
    rw [dif_pos hjl2, Array.toList_eraseIdx]
  have hmem : ∀ x ∈ (es.eraseIdxIfInBounds j).toList, x.key ≠ k ∧ x ∈ es.toList := fun x hx => by
    rw [et] at hx
    obtain ⟨i, hne, hi⟩ := List.mem_eraseIdx_iff_getElem?.1 hx
    exact ⟨fun ek => hne (keys_apart hs hi hj (by rw [he, ek])), List.mem_of_getElem? hi⟩
  refine ⟨MapKept.stamped_erase hs j, ?_, fun x hx => hkey x (hmem x hx).2, fun x hx => ?_, fun y u hy => ?_⟩
  · have : (es.eraseIdxIfInBounds j).toList.length = es.toList.length - 1 := by rw [et, List.length_eraseIdx, if_pos hjl]
    rw [Array.length_toList, Array.length_toList] at this; omega
  · obtain ⟨e1, hx⟩ := hmem x hx
    rw [h2 _ e1]; exact hin x hx
  · by_cases e : y = k
    · subst e; rw [h1] at hy; cases hy
    · rw [h2 y e] at hy
      obtain ⟨x, hx, hxk, hxv⟩ := hout y u hy
      obtain ⟨i, hi⟩ := List.mem_iff_getElem?.1 hx
      refine ⟨x, ?_, hxk, hxv⟩
      rw [et]
      refine List.mem_eraseIdx_iff_getElem?.2 ⟨i, ?_, hi⟩
      rintro rfl
      rw [hj] at hi; cases hi
      exact e (by rw [← hxk, he])
/-- Another answer at one key. -/
theorem upd_ex (f : Value → Option Value) (k : Value) (o : Option Value) : ∃ f' : Value → Option Value, f' k = o ∧ ∀ y, y ≠ k → f' y = f y := by
  classical
  exact ⟨fun y => if y = k then o else f y, if_pos rfl, fun y hy => if_neg hy⟩
end
section
variable {P : Program} {e w : World} {F : List HP} {d : TypeDesc} {f : Value → Option Value} {n r : Nat} {k v z : Value} {M kt et ty : TypeId}
theorem Own.mapOp (h : Own e w (mpO d r f n :: F)) : ∃ es clock, MapA d f n es clock ∧ Own e w (pt r (.map es clock) :: F) := by
  obtain ⟨⟨es, c⟩, h⟩ := h.ex
  obtain ⟨h1, h⟩ := h.pu
  exact ⟨es, c, h1, h⟩
theorem Own.mapCl {es : Array MapEntry} {clock : Nat} (hA : MapA d f n es clock) (h : Own e w (pt r (.map es clock) :: F)) : Own e w (mpO d r f n :: F) :=
  Own.mkEx (P := fun (p : Array MapEntry × Nat) => puH (MapA d f n p.1 p.2) (pt r (.map p.1 p.2))) (es, clock) (Own.mkPu hA h)
theorem Own.mapNew {K : Nat → World → Prop} (h : Own e w F) (hk : ∀ r w', Own e w' (mpO d r (fun _ => none) 0 :: F) → K r w') : NewMapR w K :=
  hk _ _ (Own.mapCl ⟨MapKept.stamped_empty 0, rfl, fun x hx => by simp at hx, fun x hx => by simp at hx, fun y u hy => by cases hy⟩ (h.new (.map #[] 0)))
theorem Own.mapSet {K : World → Prop} (h : Own e w (mpO d r f n :: F)) (hM : P.underlying M = some (.map kt et)) (hd : P.underlying kt = some d) (hkk : MapKept.IsKey d k)
    (hk : ∀ f' w', f' k = some v → (∀ y, y ≠ k → f' y = f y) → Own e w' (mpO d r f' (if (f k).isSome = true then n else n + 1) :: F) → K w') : RunU P (Instr.mapUpdate M (.map (some r)) k v) w K := by
  obtain ⟨es, clock, hA, h⟩ := h.mapOp
  have hb := h.get
  obtain ⟨f', h1, h2⟩ := upd_ex f k (some v)
  rcases MapKept.findNow_spec hkk es.toList 0 hA.2.2.1 with ⟨g1, g2⟩ | ⟨j, e0, g1, g2, g3⟩
  · refine ⟨w.putObj r (.map (es.push ⟨k, v, clock⟩) (clock + 1)), ?_, hk f' _ h1 h2 ?_⟩
    · simp [Instr.mapUpdate, run_underlying hM, MapKept.run_getObj_map hb, MapKept.run_checkKey hd hkk, MapKept.run_findKey hd g1, MapKept.run_setObj_map _ hb, Result.andThen, World.putObj]
    · rw [hA.none_ g2]
      exact Own.mapCl (hA.push hkk g2 h1 h2) (h.put _)
  · have hj : es[j]? = some e0 := by simpa using g2
    refine ⟨w.putObj r (.map (es.modify j fun e => { e with key := k, val := v }) clock), ?_, hk f' _ h1 h2 ?_⟩
    · simp [Instr.mapUpdate, run_underlying hM, MapKept.run_getObj_map hb, MapKept.run_checkKey hd hkk, MapKept.run_findKey hd g1, hj, g3, MapKept.run_keyThatStays hkk, MapKept.run_setObj_map _ hb, Result.andThen, World.putObj]
    · have hf : f k = some e0.val := by rw [← g3]; exact hA.2.2.2.1 e0 (List.mem_of_getElem? g2)
      rw [hf]
      exact Own.mapCl (hA.upd hkk g2 g3 h1 h2) (h.put _)
theorem mapGetV {c : Bool} (h : Own e w (mpO d r f n :: F)) (hM : P.underlying M = some (.map kt et)) (hd : P.underlying kt = some d) (hkk : MapKept.IsKey d k) (hz : ∀ w, (zeroValue et).run P w = .ok z w) :
    (Instr.lookup M (.map (some r)) k c).run P w = .ok (if c then .tuple #[(f k).getD z, .bool (f k).isSome] else (f k).getD z) w := by
  obtain ⟨es, clock, hA, h⟩ := h.mapOp
  have hb := h.get
  rcases MapKept.findNow_spec hkk es.toList 0 hA.2.2.1 with ⟨g1, g2⟩ | ⟨j, e0, g1, g2, g3⟩
  · rw [hA.none_ g2]
    simp [Instr.lookup, run_underlying hM, MapKept.run_getObj_map hb, MapKept.run_checkKey hd hkk, MapKept.run_findKey hd g1, hz, Result.andThen]
  · have hf : f k = some e0.val := by rw [← g3]; exact hA.2.2.2.1 e0 (List.mem_of_getElem? g2)
    rw [hf]
    simp [Instr.lookup, run_underlying hM, MapKept.run_getObj_map hb, MapKept.run_checkKey hd hkk, MapKept.run_findKey hd g1, Result.andThen]
theorem Own.mapGet {c : Bool} {K : Value → World → Prop} (h : Own e w (mpO d r f n :: F)) (hM : P.underlying M = some (.map kt et)) (hd : P.underlying kt = some d) (hkk : MapKept.IsKey d k) (hz : ∀ w, (zeroValue et).run P w = .ok z w)
    (hk : K (if c then .tuple #[(f k).getD z, .bool (f k).isSome] else (f k).getD z) w) : RunR P (Instr.lookup M (.map (some r)) k c) w K := ⟨_, _, mapGetV h hM hd hkk hz, hk⟩
theorem Own.mapDel {K : Value → World → Prop} {T2 : TypeId} (h : Own e w (mpO d r f n :: F)) (hM : P.underlying M = some (.map kt et)) (hd : P.underlying kt = some d) (hkk : MapKept.IsKey d k)
    (hk : ∀ f' w', f' k = none → (∀ y, y ≠ k → f' y = f y) → Own e w' (mpO d r f' (if (f k).isSome = true then n - 1 else n) :: F) → K (.tuple #[]) w') : RunR P (builtinV .delete #[M, T2] ty #[.map (some r), k]) w K := by
  obtain ⟨es, clock, hA, h⟩ := h.mapOp
  have hb := h.get
  obtain ⟨f', h1, h2⟩ := upd_ex f k none
  show RunR P (Builtin.delete_ #[M, T2] ty #[.map (some r), k]) w K
  rcases MapKept.findNow_spec hkk es.toList 0 hA.2.2.1 with ⟨g1, g2⟩ | ⟨j, e0, g1, g2, g3⟩
  · refine ⟨.tuple #[], w.putObj r (.map es clock), ?_, hk f' _ h1 h2 ?_⟩
    · simp [Builtin.delete_, run_underlying hM, MapKept.run_getObj_map hb, MapKept.run_checkKey hd hkk, MapKept.run_findKey hd g1, MapKept.run_setObj_map _ hb, Result.andThen, World.putObj]
    · have hn := hA.none_ g2
      rw [hn]
      have e1 : f' = f := by
        funext y
        by_cases ey : y = k
        · rw [ey, h1, hn]
        · exact h2 y ey
      rw [e1]
      exact Own.mapCl hA (h.put _)
  · refine ⟨.tuple #[], w.putObj r (.map (es.eraseIdxIfInBounds j) clock), ?_, hk f' _ h1 h2 ?_⟩
    · simp [Builtin.delete_, run_underlying hM, MapKept.run_getObj_map hb, MapKept.run_checkKey hd hkk, MapKept.run_findKey hd g1, MapKept.run_setObj_map _ hb, Result.andThen, World.putObj]
    · have hf : f k = some e0.val := by rw [← g3]; exact hA.2.2.2.1 e0 (List.mem_of_getElem? g2)
      rw [hf]
      exact Own.mapCl (hA.del g2 g3 h1 h2) (h.put _)
theorem Own.mapLen {K : Value → World → Prop} (h : Own e w (mpO d r f n :: F)) (hM : P.underlying M = some (.map kt et)) (hk : K (.int .i64 (n : Int)) w) : RunR P (builtinV .len #[M] ty #[.map (some r)]) w K := by
  obtain ⟨es, clock, hA, h⟩ := h.mapOp
  have hb := h.get
  show RunR P (Builtin.len_ #[M] ty #[.map (some r)]) w K
  refine ⟨.int .i64 (n : Int), w, ?_, hk⟩
  simp [Builtin.len_, run_underlying hM, MapKept.run_getObj_map hb, Result.andThen, goInt, hA.2.1]
theorem zeroV_run {T : TypeId} {i : TypeInfo} (hi : P.info? T = some i) (hz : i.zero = some z) : ∀ w, (zeroValue T).run P w = .ok z w := fun w => by
  simp [zeroValue, typeInfo, hi, hz, Result.andThen]
end
end Go.Proofs.YtjdbeopgmpbikaaDoor.Eng
