/- Budgets: what is done with the map. -/
import Derived.Test.YtheblhgmfkpllaaBudSpec
import Derived.Maps.OwnSet
namespace Go.Proofs.Ytheblhgmfkpllaa
open Go.RowKit Go.ChangeMaps Go.Maps Go.WideMaps
open Go.ChangeMaps (setBlock map_eraseIdx)

theorem perm_erase {α : Type} : ∀ (l : List α) (j : Nat) (h : j < l.length), l.Perm (l[j] :: l.eraseIdx j)
  | x :: r, 0, _ => List.Perm.refl _
  | x :: r, j + 1, h => by
    have ih := perm_erase r j (by simpa using h)
    exact (ih.cons x).trans (List.Perm.swap _ _ _)
theorem kv_key {kv : List (ByteArray × Nat)} {es : Array MapEntry} (hp : (es.toList.map fun e => (e.key, e.val)).Perm (kvV kv)) {e : MapEntry} (he : e ∈ es.toList) : ∃ p ∈ kv, e.key = .string p.1 ∧ e.val = ptr p.2 := by
  have h1 : (e.key, e.val) ∈ es.toList.map fun e => (e.key, e.val) := List.mem_map.2 ⟨e, he, rfl⟩
  have h2 := hp.mem_iff.1 h1
  unfold kvV at h2
  obtain ⟨p, hp, e2⟩ := List.mem_map.1 h2
  exact ⟨p, hp, (Prod.mk.inj e2).1.symm, (Prod.mk.inj e2).2.symm⟩
theorem kv_back {kv : List (ByteArray × Nat)} {es : Array MapEntry} (hp : (es.toList.map fun e => (e.key, e.val)).Perm (kvV kv)) {p : ByteArray × Nat} (h : p ∈ kv) : ∃ e ∈ es.toList, e.key = .string p.1 ∧ e.val = ptr p.2 := by
  have h1 : ((Value.string p.1, ptr p.2) : Value × Value) ∈ kvV kv := List.mem_map.2 ⟨p, h, rfl⟩
  have h2 := hp.mem_iff.2 h1
  obtain ⟨e, he, e2⟩ := List.mem_map.1 h2
  exact ⟨e, he, (Prod.mk.inj e2).1, (Prod.mk.inj e2).2⟩
theorem blk_none {kv : List (ByteArray × Nat)} {k : ByteArray} (h : ∀ p ∈ kv, p.1 ≠ k) : blkOf kv k = none := by
  unfold blkOf
  rw [List.find?_eq_none.2 (fun p hp => by
    intro hq
    exact h p hp (str_eq _ _ (by simpa using hq)))]
  rfl
theorem blk_some {kv : List (ByteArray × Nat)} {k : ByteArray} {b : Nat} (hnd : (kv.map Prod.fst).Nodup) (h : (k, b) ∈ kv) : blkOf kv k = some b := by
  unfold blkOf
  induction kv with
  | nil => cases h
  | cons q r ih =>
    rw [List.map_cons, List.nodup_cons] at hnd
    rw [List.find?_cons]
    rcases List.mem_cons.1 h with h' | h'
    · subst h'; simp
    · have hne : (q.1.data.toList == k.data.toList) = false := by
        rw [beq_eq_false_iff_ne]
        intro e
        exact hnd.1 (List.mem_map.2 ⟨(k, b), h', (str_eq _ _ e).symm⟩)
      rw [hne]
      exact ih hnd.2 h'
theorem mv_find {P : Program} {KT : TypeId} (hk : P.underlying KT = some .string) {w : World} {M : Nat} {kv : List (ByteArray × Nat)} (h : MapV w M kv) (key : ByteArray) (hkey : key.size ≤ maxLen) : ∃ es clock, w.heap[M]? = some (.map es clock) ∧ (es.toList.map fun e => (e.key, e.val)).Perm (kvV kv) ∧
    (((Instr.findKey KT (.string key) es.toList).run P w = .ok none w ∧ ∀ p ∈ kv, p.1 ≠ key) ∨
     ∃ (j : Nat) (e : MapEntry) (b : Nat), (Instr.findKey KT (.string key) es.toList).run P w = .ok (some (j, e.val)) w ∧ es.toList[j]? = some e ∧ e.key = .string key ∧ e.val = ptr b ∧ (key, b) ∈ kv) := by
  obtain ⟨es, clock, hb, hp, hs⟩ := h
  refine ⟨es, clock, hb, hp, ?_⟩
  have K := string_keyed hk
  rcases K.find w (keyOf_string_mk hk hkey) es.toList (fun e he => by
    obtain ⟨p, hp2, e1, _⟩ := kv_key hp he
    exact ⟨_, by rw [e1]; exact keyOf_string_mk hk (hs p hp2)⟩) with ⟨h1, h2⟩ | ⟨j, e, h1, h2, h3⟩
  · refine Or.inl ⟨h1, fun p hp2 e => ?_⟩
    obtain ⟨x, hx, e1, _⟩ := kv_back hp hp2
    exact h2 x hx (by rw [e1, e])
  · obtain ⟨p, hp2, e1, e2⟩ := kv_key hp (List.mem_of_getElem? h2)
    rw [h3] at e1
    have e3 : key = p.1 := by injection e1
    exact Or.inr ⟨j, e, p.2, h1, h2, h3, e2, by rw [e3]; exact hp2⟩
section
variable {P : Program} {KT ET MT : TypeId} (hk : P.underlying KT = some .string) (ht : P.underlying MT = some (.map KT ET)) {w : World} {M : Nat} {kv : List (ByteArray × Nat)}
include ht
theorem mv_len (h : MapV w M kv) (ty : TypeId) : (Builtin.len_ #[MT] ty #[.map (some M)]).run P w = .ok (goInt kv.length) w := by
  obtain ⟨es, clock, hb, hp, _⟩ := h
  have hl : es.size = kv.length := by
    have := hp.length_eq
    simpa [kvV] using this
  simp [Builtin.len_, run_underlying ht, MapKept.run_getObj_map hb, Result.andThen, hl]
include hk
theorem mv_lookup (h : MapV w M kv) (hnd : (kv.map Prod.fst).Nodup) (hz : (zeroValue ET).run P w = .ok (.pointer none) w) (key : ByteArray) (hkey : key.size ≤ maxLen) :
    (Instr.lookup MT (.map (some M)) (.string key) false).run P w = .ok (ptrO (blkOf kv key)) w := by
  obtain ⟨es, clock, hb, hp, hf⟩ := mv_find hk h key hkey
  have hc := (string_keyed hk).check w
  rcases hf with ⟨h1, h2⟩ | ⟨j, e, b, h1, _, _, e2, h3⟩
  · rw [blk_none h2]
    simp [Instr.lookup, run_underlying ht, MapKept.run_getObj_map hb, hc _ (keyOf_string_mk hk hkey), h1, hz, Result.andThen, ptrO]
  · rw [blk_some hnd h3]
    simp [Instr.lookup, run_underlying ht, MapKept.run_getObj_map hb, hc _ (keyOf_string_mk hk hkey), h1, e2, Result.andThen, ptrO]
/-- A key that is not there is put. -/
theorem mv_put (h : MapV w M kv) (key : ByteArray) (hkey : key.size ≤ maxLen) (hno : ∀ p ∈ kv, p.1 ≠ key) (b : Nat) :
    ∃ o, (Instr.mapUpdate MT (.map (some M)) (.string key) (ptr b)).run P w = .ok () (setBlock w M o) ∧ MapV (setBlock w M o) M (kv ++ [(key, b)]) := by
  have hs := h
  obtain ⟨_, _, _, _, hsz⟩ := hs
  obtain ⟨es, clock, hb, hp, hf⟩ := mv_find hk h key hkey
  have hc := (string_keyed hk).check w
  rcases hf with ⟨h1, _⟩ | ⟨j, e, b', _, _, _, _, h3⟩
  · refine ⟨.map (es.push ⟨.string key, ptr b, clock⟩) (clock + 1), ?_, ⟨es.push ⟨.string key, ptr b, clock⟩, clock + 1, heap_setBlock_same hb _, ?_, ?_⟩⟩
    · simp [Instr.mapUpdate, run_underlying ht, MapKept.run_getObj_map hb, hc false (keyOf_string_mk hk hkey), h1, MapKept.run_setObj_map _ hb, Result.andThen, setBlock]
    · unfold kvV
      rw [List.map_append]
      simp only [Array.toList_push, List.map_append, List.map_cons, List.map_nil]
      exact hp.append_right _
    · intro p hp2
      rcases List.mem_append.1 hp2 with h' | h'
      · exact hsz p h'
      · rw [List.mem_singleton.1 h']; exact hkey
  · exact absurd rfl (hno _ h3)
/-- A key that is there is taken out. -/
theorem mv_del (h : MapV w M kv) (hnd : (kv.map Prod.fst).Nodup) (key : ByteArray) (hkey : key.size ≤ maxLen) {p q : List (ByteArray × Nat)} {b : Nat} (hkv : kv = p ++ (key, b) :: q) (ty : TypeId) :
    ∃ o, (Builtin.delete_ #[MT, KT] ty #[.map (some M), .string key]).run P w = .ok (.tuple #[]) (setBlock w M o) ∧ MapV (setBlock w M o) M (p ++ q) := by
  have hs := h
  obtain ⟨_, _, _, _, hsz⟩ := hs
  obtain ⟨es, clock, hb, hp, hf⟩ := mv_find hk h key hkey
  have hc := (string_keyed hk).check w
  rcases hf with ⟨_, h2⟩ | ⟨j, e, b', h1, h2, h3, h4, h5⟩
  · exact absurd rfl (h2 (key, b) (by rw [hkv]; simp))
  · have hjl : j < es.toList.length := (List.getElem?_eq_some_iff.1 h2).1
    have hjs : j < es.size := by simpa using hjl
    have hsub : (es.eraseIdxIfInBounds j).toList = es.toList.eraseIdx j := by
      unfold Array.eraseIdxIfInBounds
      rw [dif_pos hjs]
      simp
    refine ⟨.map (es.eraseIdxIfInBounds j) clock, ?_, ⟨es.eraseIdxIfInBounds j, clock, heap_setBlock_same hb _, ?_, ?_⟩⟩
    · simp [Builtin.delete_, run_underlying ht, MapKept.run_getObj_map hb, hc _ (keyOf_string_mk hk hkey), h1, MapKept.run_setObj_map _ hb, Result.andThen, setBlock]
    · rw [hsub, map_eraseIdx]
      have hb2 : b' = b := by
        have x1 := blk_some hnd h5
        have x2 : blkOf kv key = some b := blk_some hnd (by rw [hkv]; simp)
        rw [x1] at x2
        exact Option.some.inj x2
      subst hb2
      have hje : (es.toList.map fun e => (e.key, e.val))[j]? = some (.string key, ptr b') := by
        rw [List.getElem?_map, h2, Option.map_some, h3, h4]
      have hperm : (es.toList.map fun e => (e.key, e.val)).Perm (((.string key, ptr b') : Value × Value) :: (es.toList.map fun e => (e.key, e.val)).eraseIdx j) := by
        have hl : j < (es.toList.map fun e => (e.key, e.val)).length := by simpa using hjs
        have e1 : (es.toList.map fun e => (e.key, e.val))[j] = (.string key, ptr b') := by
          have := List.getElem?_eq_getElem hl
          rw [this] at hje
          exact Option.some.inj hje
        have := perm_erase (es.toList.map fun e => (e.key, e.val)) j hl
        rw [e1] at this
        exact this
      have hkvp : (kvV kv).Perm (((.string key, ptr b') : Value × Value) :: kvV (p ++ q)) := by
        rw [hkv]
        unfold kvV
        rw [List.map_append, List.map_cons, List.map_append]
        exact List.perm_middle
      exact (List.perm_cons _).1 ((hperm.symm.trans hp).trans hkvp)
    · intro x hx
      refine hsz x ?_
      rw [hkv]
      rcases List.mem_append.1 hx with h' | h'
      · exact List.mem_append_left _ h'
      · exact List.mem_append_right _ (List.mem_cons_of_mem _ h')
end
end Go.Proofs.Ytheblhgmfkpllaa
