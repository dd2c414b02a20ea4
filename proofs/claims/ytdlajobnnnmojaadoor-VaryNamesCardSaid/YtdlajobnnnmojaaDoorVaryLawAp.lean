/- VaryNames over what came in. -/
import Derived.Test.YtdlajobnnnmojaaDoorVaryLawA
namespace Go.Proofs.YtdlajobnnnmojaaDoor
open Go.ChangeShapes Go.WideShapes Go.RowKit
set_option maxRecDepth 100000 in
theorem varyNames_law {H : Type} {enc : TypeId × Value → H} {W : World} {base : Nat} (v : Value) (hv : Value.okWide Tryd.prog W .any base 24 v) {d : DataW H} {p : List MemPlace}
    (h : DataW.Trod enc Tryd.prog W 0 (fun _ => true) true 24 v d p) (hr : Reach 24 d) (w : World) (hw : w = W) (_ : True) :
    Calls Tryd.prog 3 #[v] w fun e w' => e = .returned (.bool true) ∧ Below w.heap.size w w' := by
  subst hw
  obtain ⟨st, re, mi, A, n, c, bo, xs, rfl, hR, hn, hl, _, _⟩ := open_reply hv h hr
  have hb : reachBytes ≤ 140737488355328 := by decide
  exact varyNames_any st re mi A n c bo xs w hR (by omega) (fun f hf => by have := hl f hf; omega)
end Go.Proofs.YtdlajobnnnmojaaDoor
