/- DirectiveLists: the law as it is handed in. -/
import Derived.Test.YtfoabdpfadgafaaDoorDirA
import Derived.Test.YtfoabdpfadgafaaDoorOpenT
namespace Go.Proofs.YtfoabdpfadgafaaDoor
open Go.RowKit Go.ChangeShapes Go.WideShapes
set_option maxRecDepth 100000
theorem directiveLists_law {H : Type} {enc : TypeId × Value → H} {W : World} {base : Nat}
    (v0 : Value) (hv0 : Value.okWide Tryd.prog W .any base 22 v0) {d0 : DataW H} {p0 : List MemPlace} (h0 : DataW.Trod enc Tryd.prog W 0 (fun _ => true) true 22 v0 d0 p0) (hr0 : Reach 22 d0)
    (w : World) (hw : w = W) (h : ∃ m, W.cell? ⟨0, 0, none⟩ = some (.int .i64 m)) :
    Calls Tryd.prog 3 #[v0] w fun e w' => e = .returned (.bool true) ∧ Below w.heap.size w w' := by
  subst hw
  obtain ⟨A, n, c, ls, rfl, hR, hn, hl⟩ := open_texts_v hv0 h0 hr0
  exact directiveLists_any A n c ls w (MaxL.of h) hR
end Go.Proofs.YtfoabdpfadgafaaDoor
