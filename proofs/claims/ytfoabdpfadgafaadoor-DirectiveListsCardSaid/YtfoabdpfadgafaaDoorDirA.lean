/- DirectiveLists: the walk of the law. -/
import Derived.Test.YtfoabdpfadgafaaDoorAwake11
import Derived.Test.YtfoabdpfadgafaaDoorSameD
import Derived.Test.YtfoabdpfadgafaaDoorFewD
import Derived.Test.YtfoabdpfadgafaaDoorRDList
namespace Go.Proofs.YtfoabdpfadgafaaDoor
open Go.RowKit
set_option maxRecDepth 100000

set_option maxHeartbeats 4000000 in
theorem directiveLists_any (A : Option Addr) (n c : Nat) (vs : List (List UInt8)) (w : World) (hM : MaxL w) (hr : Rd A n 1 (strsV vs) w) :
    Calls Tryd.prog 3 #[.slice A n c] w fun e w' => e = .returned (.bool true) ∧ Below w.heap.size w w' := by
  have k0 := fewD_any A n c vs w hr
  have hxn := hr.str
  subst hxn
  cases hf : fewD vs
  · rw [hf] at k0
    have K0 := Lib.hid k0; clear k0
    go_enter Tryd.func3, Tryd.ntmps3
    go_wp2_with fail
    refine K0.out.mono ?_
    rintro e w0 ⟨rfl, rfl⟩
    go_wp2_with fail
    refine (awake11_any _ hM).mono ?_
    rintro e w1 ⟨rfl, hb1⟩
    go_wp2
    go_ret
    exact ⟨rfl, hb1⟩
  · rw [hf] at k0
    obtain ⟨h1, h2⟩ := fewD_yes hf
    have k1 := dlist_any A vs.length c vs w hM hr (by omega) (fun v hv => by have := h2 v hv; omega)
    have k2 := fun W (hb : Below w.heap.size w W) => rdlist_any A vs.length c vs W (hr.below hb) (by omega) (fun v hv => by have := h2 v hv; omega)
    have hdl := dlistL_few vs
    generalize dlistL vs = ds at *
    have K0 := Lib.hid k0; have K1 := Lib.hid k1; have K2 := Lib.hid k2; clear k0 k1 k2 h2 hf
    go_enter Tryd.func3, Tryd.ntmps3
    go_wp2_with fail
    refine K0.out.mono ?_
    rintro e w0 ⟨rfl, rfl⟩
    go_wp2_with fail
    refine K1.out.mono ?_
    rintro e w1 ⟨a1, c1, rfl, ho1, hb1⟩
    go_wp2_with fail
    refine (K2.out _ hb1).mono ?_
    rintro e w2 ⟨a2, c2, rfl, ho2, hb2⟩
    have hB2 := bt hb1 hb2
    have k3 := samed_any _ _ c1 ds _ _ c2 ds w2 (ho1.below hb2).rd.2 ho2.rd.2 (by omega) (by omega)
    have K3 := Lib.hid k3; clear k3
    go_wp2_with fail
    refine K3.out.mono ?_
    rintro e w3 ⟨rfl, hb3⟩
    have hB3 := bt hB2 hb3
    have hff : (ds == ds) = true := by simp
    rw [hff]
    go_wp2_with fail
    refine (awake11_any _ (hM.below hB3)).mono ?_
    rintro e w4 ⟨rfl, hb4⟩
    go_wp2
    go_ret
    exact ⟨rfl, bt hB3 hb4⟩
end Go.Proofs.YtfoabdpfadgafaaDoor
