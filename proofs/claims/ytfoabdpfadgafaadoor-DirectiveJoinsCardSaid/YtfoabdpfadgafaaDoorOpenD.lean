/- Slices of directives that came in, opened. -/
import Derived.Test.YtfoabdpfadgafaaDoorOpenT
import Derived.Test.YtfoabdpfadgafaaDoorDirSpec
namespace Go.Proofs.YtfoabdpfadgafaaDoor
open Go.ChangeShapes Go.WideShapes Go.RowKit
set_option maxRecDepth 100000

theorem dfour_of {α : Type} : ∀ (l : List α), l.length = 4 → ∃ a b c d, l = [a, b, c, d]
  | [a, b, c, d], _ => ⟨a, b, c, d, rfl⟩
/-- A directive within the form's reach. -/
def DirR (d : Dir) : Prop := d.name.length ≤ reachBytes ∧ d.value.length ≤ reachBytes ∧ d.for_.length ≤ reachBytes
section
variable {H : Type} {enc : TypeId × Value → H} {W : World}
def dirD (d : Dir) : DataW H := .agg [.lit (.string d.name), .lit (.string d.value), .lit (.bool d.has), .lit (.string d.for_)]
theorem open_dir_cs {fuel : Nat} {cs : List Value} {x : DataW H × List MemPlace} (h : DataW.trod enc Tryd.prog W 0 (fun _ => true) true fuel 29 cs = some x) :
    ∃ d : Dir, cs = dirV d ∧ x.1 = dirD d := by
  obtain ⟨ys, n', _, hx, hcl, hyl, hg⟩ := DataW.trod_struct Tryd.underlying29 h
  have hc4 : Tryd.prog.cellsOf 29 = 4 := by kernel_rfl
  have hcs : Tryd.prog.cellsOf 9 = 1 := by kernel_rfl
  have hcb : Tryd.prog.cellsOf 4 = 1 := by kernel_rfl
  obtain ⟨c0, c1, c2, c3, rfl⟩ := dfour_of cs (hcl.trans hc4)
  obtain ⟨y0, y1, y2, y3, rfl⟩ := dfour_of ys hyl
  have g0 : DataW.trod enc Tryd.prog W 0 (fun _ => true) true n' 9 (([c0, c1, c2, c3].drop 0).take (Tryd.prog.cellsOf 9)) = some y0 := hg 0 _ rfl
  have g1 : DataW.trod enc Tryd.prog W 0 (fun _ => true) true n' 9 (([c0, c1, c2, c3].drop 1).take (Tryd.prog.cellsOf 9)) = some y1 := hg 1 _ rfl
  have g2 : DataW.trod enc Tryd.prog W 0 (fun _ => true) true n' 4 (([c0, c1, c2, c3].drop 2).take (Tryd.prog.cellsOf 4)) = some y2 := hg 2 _ rfl
  have g3 : DataW.trod enc Tryd.prog W 0 (fun _ => true) true n' 9 (([c0, c1, c2, c3].drop 3).take (Tryd.prog.cellsOf 9)) = some y3 := hg 3 _ rfl
  rw [hcs] at g0 g1 g3
  rw [hcb] at g2
  obtain ⟨s0, e0, z0, _⟩ := DataW.trod_string Tryd.underlying9 (cs := [c0]) g0
  obtain ⟨s1, e1, z1, _⟩ := DataW.trod_string Tryd.underlying9 (cs := [c1]) g1
  obtain ⟨b2, e2, z2⟩ := DataW.trod_bool Tryd.underlying4 (cs := [c2]) g2
  obtain ⟨s3, e3, z3, _⟩ := DataW.trod_string Tryd.underlying9 (cs := [c3]) g3
  have e0' := (List.cons.inj e0).1
  have e1' := (List.cons.inj e1).1
  have e2' := (List.cons.inj e2).1
  have e3' := (List.cons.inj e3).1
  subst e0'; subst e1'; subst e2'; subst e3'; subst z0; subst z1; subst z2; subst z3
  refine ⟨⟨s0.data.toList, s1.data.toList, b2, s3.data.toList⟩, ?_, ?_⟩
  · simp only [dirV, str_of]
  · rw [hx]; rfl
theorem reach_dir {d : Dir} (h : Reach (H := H) 29 (dirD d)) : DirR d :=
  ⟨reach_str (reach_part Tryd.underlying29 h (j := 0) rfl rfl), reach_str (reach_part Tryd.underlying29 h (j := 1) rfl rfl), reach_str (reach_part Tryd.underlying29 h (j := 3) rfl rfl)⟩
/-- A slice of directives that came in. -/
theorem open_dirs {fuel : Nat} {cs : List Value} {x : DataW H × List MemPlace} (h : DataW.trod enc Tryd.prog W 0 (fun _ => true) true fuel 26 cs = some x) (hr : Reach 26 x.1) :
    ∃ A n c xs, cs = [.slice A n c] ∧ Rd A n 4 (dirsV xs) W ∧ n * 56 ≤ reachBytes ∧ ∀ d ∈ xs, DirR d := by
  rcases Go.Deep.open_slice Tryd.underlying26 h with ⟨rfl, rfl⟩ | ⟨a, len, cap, m, n, D, Pl, rfl, hb, hl, hm, hmm, rfl, hi⟩
  · exact ⟨none, 0, 0, [], rfl, Rd.nil, by decide, by simp⟩
  · simp only [if_true] at hmm
    subst hmm
    have hc4 : Tryd.prog.cellsOf 29 = 4 := by kernel_rfl
    have key : ∀ i, i < len → ∃ d : Dir, (∀ j u, (dirV d)[j]? = some u → W.cell? (a.add (i * 4 + j)) = some u) ∧ D i = dirD d := by
      intro i hi'
      obtain ⟨cs', hcs, ht⟩ := hi i (by omega)
      rw [hc4] at hcs
      obtain ⟨_, hlen, hat⟩ := World.cells?_some hcs
      obtain ⟨d, rfl, hx⟩ := open_dir_cs ht
      refine ⟨d, fun j u hu => ?_, hx⟩
      have hj : j < 4 := (List.getElem?_eq_some_iff.1 hu).1
      have := hat j hj
      rw [Go.Deep.add_add] at this
      rw [this, ← hu, List.getElem?_eq_getElem (show j < (dirV d).length from hj)]
    obtain ⟨xs, hll, hls⟩ := exists_listL len _ key
    refine ⟨some a, len, _, xs, rfl, ⟨by rw [dirsV_len, hll], fun hn => ?_⟩, ?_, ?_⟩
    · have hspot : a.spot = none := by
        have := World.cell?_spot ((hls 0 (by omega)).1 0 _ rfl)
        simpa [Addr.add] using this
      obtain ⟨b, o, spot⟩ := a
      simp only at hspot
      subst hspot
      have e : ∀ j, (⟨b, o, none⟩ : Addr).add j = ⟨b, o + j, none⟩ := fun j => by unfold Addr.add; split <;> simp_all
      refine ⟨b, o, rfl, ?_, fun j u hu => ?_⟩
      · rcases Nat.lt_or_ge b W.heap.size with h' | h'
        · exact h'
        · have := (hls 0 (by omega)).1 0 _ rfl
          simp [World.cell?, Addr.add, Array.getElem?_eq_none h'] at this
      · have hj : j < xs.length * 4 := by have := (List.getElem?_eq_some_iff.1 hu).1; rwa [dirsV_len] at this
        have hk : j / 4 < xs.length := by omega
        have h1 := (hls (j / 4) hk).1 (j % 4)
        have h2 := dirsV_at xs (j / 4) hk
        have h4 : j % 4 < 4 := Nat.mod_lt _ (by omega)
        have ej : j = j / 4 * 4 + j % 4 := by omega
        have key2 : (dirV xs[j / 4])[j % 4]? = some u := by
          have hu2 : (dirsV xs)[j / 4 * 4 + j % 4]? = some u := by rw [show j / 4 * 4 + j % 4 = j from by omega]; exact hu
          rw [← hu2]
          generalize j % 4 = r at *
          match r, h4 with
          | 0, _ => rw [Nat.add_zero, h2.1]; rfl
          | 1, _ => rw [h2.2.1]; rfl
          | 2, _ => rw [h2.2.2.1]; rfl
          | 3, _ => rw [h2.2.2.2]; rfl
        have h3 := h1 u key2
        rw [e] at h3
        rw [show o + j = o + (j / 4 * 4 + j % 4) from by omega]
        exact h3
    · have := reach_len Tryd.underlying26 hr
      rw [List.length_map, List.length_range, show Tryd.prog.bytesOf 29 = 56 from by kernel_rfl] at this
      exact this
    · intro d hd'
      obtain ⟨i, hi', e⟩ := List.mem_iff_getElem.1 hd'
      have h2 := (hls i hi').2
      rw [e] at h2
      have h3 := reach_elem Tryd.underlying26 hr (List.mem_map.2 ⟨i, List.mem_range.2 (by omega), h2⟩)
      exact reach_dir h3
theorem open_dirs_v {base : Nat} {v : Value} {d : DataW H} {p : List MemPlace} (hv : Value.okWide Tryd.prog W .any base 26 v) (h : DataW.Trod enc Tryd.prog W 0 (fun _ => true) true 26 v d p) (hr : Reach 26 d) :
    ∃ A n c xs, v = .slice A n c ∧ Rd A n 4 (dirsV xs) W ∧ n * 56 ≤ reachBytes ∧ ∀ d ∈ xs, DirR d := by
  obtain ⟨a0, len, cap, rfl⟩ := okWide_slice Tryd.underlying26 hv
  obtain ⟨fuel, hf⟩ := h
  have hf' : DataW.trod enc Tryd.prog W 0 (fun _ => true) true fuel 26 [.slice a0 len cap] = some (d, p) := hf
  obtain ⟨A, n, c, xs, e, r⟩ := open_dirs hf' hr
  exact ⟨A, n, c, xs, (List.cons.inj e).1, r⟩
end
end Go.Proofs.YtfoabdpfadgafaaDoor
