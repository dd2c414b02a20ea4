/- Joined out of the texts OpenDW (wip/tools/merge.py). -/
import Derived.Test.YtfjgacankfidmaaDoorPb1
/- A slice of directives that came in, opened: what it reads as beside it (no bound on its size). -/
namespace Go.Proofs.YtfjgacankfidmaaDoor
open Go.ChangeShapes Go.WideShapes Go.RowKit
set_option maxRecDepth 100000
section
variable {H : Type} {enc : TypeId × Value → H} {W : World}
theorem open_dirs_w {fuel : Nat} {cs : List Value} {x : DataW H × List MemPlace} (h : DataW.trod enc Tryd.prog W 0 (fun _ => true) true fuel 22 cs = some x) :
    ∃ A n c xs, cs = [.slice A n c] ∧ Rd A n 4 (dirsV xs) W ∧ (xs = [] ∨ ∃ elems spare, x.1 = .slice elems spare ∧ ∀ d ∈ xs, dirD d ∈ elems) := by
  rcases Go.Deep.open_slice Tryd.underlying22 h with ⟨rfl, rfl⟩ | ⟨a, len, cap, m, n, D, Pl, rfl, hb, hl, hm, hmm, rfl, hi⟩
  · exact ⟨none, 0, 0, [], rfl, Rd.nil, Or.inl rfl⟩
  · simp only [if_true] at hmm
    subst hmm
    have hc4 : Tryd.prog.cellsOf 28 = 4 := by kernel_rfl
    have key : ∀ i, i < len → ∃ d : Dir, (∀ j u, (dirV d)[j]? = some u → W.cell? (a.add (i * 4 + j)) = some u) ∧ D i = dirD d := by
      intro i hi'
      obtain ⟨cs', hcs, ht⟩ := hi i (by omega)
      rw [hc4] at hcs
      obtain ⟨_, hlen, hat⟩ := World.cells?_some hcs
      obtain ⟨d, rfl, hx⟩ := open_dir_cs ht
      refine ⟨d, fun j u hu => ?_, hx⟩
      have hj : j < 4 := (List.getElem?_eq_some_iff.1 hu).1
      have := hat j hj
      rw [Go.Deep.add_add] at this
      rw [this, ← hu, List.getElem?_eq_getElem (show j < (dirV d).length from hj)]
    obtain ⟨xs, hll, hls⟩ := exists_listL len _ key
    refine ⟨some a, len, _, xs, rfl, ⟨by rw [dirsV_len, hll], fun hn => ?_⟩, Or.inr ⟨_, _, rfl, ?_⟩⟩
    · have hspot : a.spot = none := by
        have := World.cell?_spot ((hls 0 (by omega)).1 0 _ rfl)
        simpa [Addr.add] using this
      obtain ⟨b, o, spot⟩ := a
      simp only at hspot
      subst hspot
      have e : ∀ j, (⟨b, o, none⟩ : Addr).add j = ⟨b, o + j, none⟩ := fun j => by unfold Addr.add; split <;> simp_all
      refine ⟨b, o, rfl, ?_, fun j u hu => ?_⟩
      · rcases Nat.lt_or_ge b W.heap.size with h' | h'
        · exact h'
        · have := (hls 0 (by omega)).1 0 _ rfl
          simp [World.cell?, Addr.add, Array.getElem?_eq_none h'] at this
      · have hj : j < xs.length * 4 := by have := (List.getElem?_eq_some_iff.1 hu).1; rwa [dirsV_len] at this
        have hk : j / 4 < xs.length := by omega
        have h1 := (hls (j / 4) hk).1 (j % 4)
        have h2 := dirsV_at xs (j / 4) hk
        have h4 : j % 4 < 4 := Nat.mod_lt _ (by omega)
        have key2 : (dirV xs[j / 4])[j % 4]? = some u := by
          have hu2 : (dirsV xs)[j / 4 * 4 + j % 4]? = some u := by rw [show j / 4 * 4 + j % 4 = j from by omega]; exact hu
          rw [← hu2]
          generalize j % 4 = r at *
          match r, h4 with
          | 0, _ => rw [Nat.add_zero, h2.1]; rfl
          | 1, _ => rw [h2.2.1]; rfl
          | 2, _ => rw [h2.2.2.1]; rfl
          | 3, _ => rw [h2.2.2.2]; rfl
        have h3 := h1 u key2
        rw [e] at h3
        rw [show o + j = o + (j / 4 * 4 + j % 4) from by omega]
        exact h3
    · intro d hd'
      obtain ⟨i, hi', e⟩ := List.mem_iff_getElem.1 hd'
      have h2 := (hls i hi').2
      rw [e] at h2
      exact List.mem_map.2 ⟨i, List.mem_range.2 (by omega), h2⟩
theorem open_dirs_wv {base : Nat} {v : Value} {d : DataW H} {p : List MemPlace} (hv : Value.okWide Tryd.prog W .any base 22 v) (h : DataW.Trod enc Tryd.prog W 0 (fun _ => true) true 22 v d p) :
    ∃ A n c xs, v = .slice A n c ∧ Rd A n 4 (dirsV xs) W ∧ (xs = [] ∨ ∃ elems spare, d = .slice elems spare ∧ ∀ x ∈ xs, dirD x ∈ elems) := by
  obtain ⟨a0, len, cap, rfl⟩ := okWide_slice Tryd.underlying22 hv
  obtain ⟨fuel, hf⟩ := h
  have hf' : DataW.trod enc Tryd.prog W 0 (fun _ => true) true fuel 22 [.slice a0 len cap] = some (d, p) := hf
  obtain ⟨A, n, c, xs, e, r⟩ := open_dirs_w hf'
  exact ⟨A, n, c, xs, (List.cons.inj e).1, r⟩
end
end Go.Proofs.YtfjgacankfidmaaDoor
