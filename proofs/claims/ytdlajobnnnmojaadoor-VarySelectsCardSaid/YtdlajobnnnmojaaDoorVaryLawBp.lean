/- VarySelects over what came in. -/
import Derived.Test.YtdlajobnnnmojaaDoorVaryLawB
import Derived.Test.YtdlajobnnnmojaaDoorOpenRep
namespace Go.Proofs.YtdlajobnnnmojaaDoor
open Go.ChangeShapes Go.WideShapes Go.RowKit
set_option maxRecDepth 100000 in
theorem varySelects_law {H : Type} {enc : TypeId × Value → H} {W : World} {base : Nat}
    (v0 : Value) (hv0 : Value.okWide Tryd.prog W .any base 27 v0) {d0 : DataW H} {p0 : List MemPlace} (h0 : DataW.Trod enc Tryd.prog W 0 (fun _ => true) true 27 v0 d0 p0) (hr0 : Reach 27 d0)
    (v1 : Value) (hv1 : Value.okWide Tryd.prog W .any base 22 v1) {d1 : DataW H} {p1 : List MemPlace} (h1 : DataW.Trod enc Tryd.prog W 0 (fun _ => true) true 22 v1 d1 p1) (hr1 : Reach 22 d1)
    (v2 : Value) (hv2 : Value.okWide Tryd.prog W .any base 33 v2) {d2 : DataW H} {p2 : List MemPlace} (h2 : DataW.Trod enc Tryd.prog W 0 (fun _ => true) true 33 v2 d2 p2) (hr2 : Reach 33 d2)
    (w : World) (hw : w = W) (_ : True) :
    Calls Tryd.prog 4 #[v0, v1, v2] w fun e w' => e = .returned (.bool true) ∧ Below w.heap.size w w' := by
  subst hw
  have hb : reachBytes ≤ 140737488355328 := by decide
  obtain ⟨N, nn, nc, names, rfl, hN, hnn, hnl⟩ := open_texts_v hv0 h0 hr0
  obtain ⟨A, n, c, xs, rfl, hR, hn, hl⟩ := open_flds_v hv1 h1 hr1
  obtain ⟨st, re, mi, fa, fn, fc, bo, fs, asd, gt, va, vn, vc, es, rfl, _, _, _, hE, hvn, hel⟩ := open_entry hv2 h2 hr2
  exact varySelects_any N nn nc names A n c xs st re mi fa fn fc bo asd gt va vn vc es w hN (by omega) (fun x hx => by have := hnl x hx; omega) hR (by omega) (fun f hf => by have := hl f hf; omega) hE (by omega) (fun f hf => by have := hel f hf; omega)
end Go.Proofs.YtdlajobnnnmojaaDoor
