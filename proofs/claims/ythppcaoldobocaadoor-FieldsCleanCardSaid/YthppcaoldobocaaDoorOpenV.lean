/- Slices of fields and of texts that came in, opened. -/
import Derived.Test.YthppcaoldobocaaDoorOpen
namespace Go.Proofs.YthppcaoldobocaaDoor
open Go.ChangeShapes Go.WideShapes Go.RowKit
set_option maxRecDepth 100000

section
variable {H : Type} {enc : TypeId × Value → H} {W : World}
theorem open_flds_v {base : Nat} {v : Value} {d : DataW H} {p : List MemPlace} (hv : Value.okWide Tryd.prog W .any base 23 v) (h : DataW.Trod enc Tryd.prog W 0 (fun _ => true) true 23 v d p) (hr : Reach 23 d) :
    ∃ A n c xs, v = .slice A n c ∧ Rd A n 2 (fldsV xs) W ∧ n * 32 ≤ reachBytes ∧ ∀ f ∈ xs, f.1.length ≤ reachBytes ∧ f.2.length ≤ reachBytes := by
  obtain ⟨a0, len, cap, rfl⟩ := okWide_slice Tryd.underlying23 hv
  obtain ⟨fuel, hf⟩ := h
  have hf' : DataW.trod enc Tryd.prog W 0 (fun _ => true) true fuel 23 [.slice a0 len cap] = some (d, p) := hf
  obtain ⟨A, n, c, xs, e, r⟩ := open_flds hf' hr
  exact ⟨A, n, c, xs, (List.cons.inj e).1, r⟩
theorem open_texts_v {base : Nat} {v : Value} {d : DataW H} {p : List MemPlace} (hv : Value.okWide Tryd.prog W .any base 38 v) (h : DataW.Trod enc Tryd.prog W 0 (fun _ => true) true 38 v d p) (hr : Reach 38 d) :
    ∃ A n c ls, v = .slice A n c ∧ Rd A n 1 (strsV ls) W ∧ n * 16 ≤ reachBytes ∧ ∀ l ∈ ls, l.length ≤ reachBytes := by
  obtain ⟨a0, len, cap, rfl⟩ := okWide_slice Tryd.underlying38 hv
  obtain ⟨fuel, hf⟩ := h
  have hf' : DataW.trod enc Tryd.prog W 0 (fun _ => true) true fuel 38 [.slice a0 len cap] = some (d, p) := hf
  obtain ⟨A, n, c, xs, e, r⟩ := open_texts hf' hr
  exact ⟨A, n, c, xs, (List.cons.inj e).1, r⟩
/-- A field that came in by value. -/
theorem open_fld_v {base : Nat} {v : Value} {d : DataW H} {p : List MemPlace} (hv : Value.okWide Tryd.prog W .any base 37 v) (h : DataW.Trod enc Tryd.prog W 0 (fun _ => true) true 37 v d p) (hr : Reach 37 d) :
    ∃ f : Fld, v = .agg #[.string ⟨f.1.toArray⟩, .string ⟨f.2.toArray⟩] ∧ f.1.length ≤ reachBytes ∧ f.2.length ≤ reachBytes := by
  obtain ⟨cs, rfl, hsz⟩ := okWide_struct Tryd.underlying37 hv
  obtain ⟨fuel, hf⟩ := h
  obtain ⟨l⟩ := cs
  have hf' : DataW.trod enc Tryd.prog W 0 (fun _ => true) true fuel 37 l = some (d, p) := hf
  have hc2 : Tryd.prog.cellsOf 37 = 2 := by kernel_rfl
  have hc1 : Tryd.prog.cellsOf 9 = 1 := by kernel_rfl
  obtain ⟨ys, n', _, hx, hcl, hyl, hg⟩ := DataW.trod_struct Tryd.underlying37 hf'
  obtain ⟨u, v, rfl⟩ := two_of l (hcl.trans hc2)
  obtain ⟨y0, y1, rfl⟩ := two_of ys hyl
  have g0 : DataW.trod enc Tryd.prog W 0 (fun _ => true) true n' 9 (([u, v].drop 0).take (Tryd.prog.cellsOf 9)) = some y0 := hg 0 _ rfl
  have g1 : DataW.trod enc Tryd.prog W 0 (fun _ => true) true n' 9 (([u, v].drop 1).take (Tryd.prog.cellsOf 9)) = some y1 := hg 1 _ rfl
  rw [hc1] at g0 g1
  obtain ⟨s0, e0, z0, _⟩ := DataW.trod_string Tryd.underlying9 (cs := [u]) (x := y0) (by simpa using g0)
  obtain ⟨s1, e1, z1, _⟩ := DataW.trod_string Tryd.underlying9 (cs := [v]) (x := y1) (by simpa using g1)
  have e0' : u = .string s0 := (List.cons.inj e0).1
  have e1' : v = .string s1 := (List.cons.inj e1).1
  subst e0'; subst e1'; subst z0; subst z1
  have hd : d = .agg [.lit (.string s0.data.toList), .lit (.string s1.data.toList)] := (Prod.mk.inj hx).1
  rw [hd] at hr
  refine ⟨(s0.data.toList, s1.data.toList), ?_, reach_str (reach_part Tryd.underlying37 hr (j := 0) rfl rfl), reach_str (reach_part Tryd.underlying37 hr (j := 1) rfl rfl)⟩
  simp only [str_of]
end
end Go.Proofs.YthppcaoldobocaaDoor
