/- VaryChooses over what came in. -/
import Derived.Test.YtdlajobnnnmojaaDoorVaryLawC
import Derived.Test.YtdlajobnnnmojaaDoorOpenRep
namespace Go.Proofs.YtdlajobnnnmojaaDoor
open Go.ChangeShapes Go.WideShapes Go.RowKit
set_option maxRecDepth 100000 in
theorem varyChooses_law {H : Type} {enc : TypeId × Value → H} {W : World} {base : Nat}
    (v0 : Value) (hv0 : Value.okWide Tryd.prog W .any base 24 v0) {d0 : DataW H} {p0 : List MemPlace} (h0 : DataW.Trod enc Tryd.prog W 0 (fun _ => true) true 24 v0 d0 p0) (hr0 : Reach 24 d0)
    (v1 : Value) (hv1 : Value.okWide Tryd.prog W .any base 22 v1) {d1 : DataW H} {p1 : List MemPlace} (h1 : DataW.Trod enc Tryd.prog W 0 (fun _ => true) true 22 v1 d1 p1) (hr1 : Reach 22 d1)
    (v2 : Value) (hv2 : Value.okWide Tryd.prog W .any base 22 v2) {d2 : DataW H} {p2 : List MemPlace} (h2 : DataW.Trod enc Tryd.prog W 0 (fun _ => true) true 22 v2 d2 p2) (hr2 : Reach 22 d2)
    (w : World) (hw : w = W) (_ : True) :
    Calls Tryd.prog 6 #[v0, v1, v2] w fun e w' => e = .returned (.bool true) ∧ Below w.heap.size w w' := by
  subst hw
  have hb : reachBytes ≤ 140737488355328 := by decide
  obtain ⟨st, re, mi, A, n, c, bo, xs, rfl, hR, hn, hl, _, _⟩ := open_reply hv0 h0 hr0
  obtain ⟨P, pn, pc, ps, rfl, hP, hpn, hpl⟩ := open_flds_v hv1 h1 hr1
  obtain ⟨Q, qn, qc, qs, rfl, hQ, hqn, hql⟩ := open_flds_v hv2 h2 hr2
  exact varyChooses_any st re mi A n c bo xs P pn pc ps Q qn qc qs w hR (by omega) (fun f hf => by have := hl f hf; omega) hP (by omega) (fun f hf => by have := hpl f hf; omega) hQ (by omega) (fun f hf => by have := hql f hf; omega)
end Go.Proofs.YtdlajobnnnmojaaDoor
