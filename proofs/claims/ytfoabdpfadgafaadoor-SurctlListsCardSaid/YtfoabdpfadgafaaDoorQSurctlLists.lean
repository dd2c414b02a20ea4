/- Joined out of the texts SurListA (wip/tools/merge.py). -/
import Derived.Test.YtfoabdpfadgafaaDoorPa3
/- SurctlLists: the walk of the law. -/
namespace Go.Proofs.YtfoabdpfadgafaaDoor
open Go.RowKit Go.ChangeShapes Go.WideShapes
set_option maxRecDepth 100000

set_option maxHeartbeats 4000000 in
theorem surctlLists_any (A : Option Addr) (n c : Nat) (vs : List (List UInt8)) (w : World) (hM : MaxL w) (hr : Rd A n 1 (strsV vs) w) :
    Calls Tryd.prog 8 #[.slice A n c] w fun e w' => e = .returned (.bool true) ∧ Below w.heap.size w w' := by
  have k0 := few12_any A n c vs w hr
  have hxn := hr.str
  subst hxn
  cases hf : few12 vs
  · rw [hf] at k0
    have K0 := Lib.hid k0; clear k0
    go_enter Tryd.func8, Tryd.ntmps8
    go_wp2_with fail
    refine K0.out.mono ?_
    rintro e w0 ⟨rfl, rfl⟩
    go_wp2_with fail
    refine (works12_any _ hM).mono ?_
    rintro e w1 ⟨rfl, hb1⟩
    go_wp2
    go_ret
    exact ⟨rfl, hb1⟩
  · rw [hf] at k0
    obtain ⟨h1, h2⟩ := few12_yes hf
    have k1 := surList_any A vs.length c vs w hM hr (by omega) (fun v hv => by have := h2 v hv; omega)
    have k2 := fun W (hb : Below w.heap.size w W) => rsurList_any A vs.length c vs W (hr.below hb) (by omega) (fun v hv => by have := h2 v hv; omega)
    have hdl := slist_le vs
    generalize slistL vs = ds at *
    have K0 := Lib.hid k0; have K1 := Lib.hid k1; have K2 := Lib.hid k2; clear k0 k1 k2 h2 hf
    go_enter Tryd.func8, Tryd.ntmps8
    go_wp2_with fail
    refine K0.out.mono ?_
    rintro e w0 ⟨rfl, rfl⟩
    go_wp2_with fail
    refine K1.out.mono ?_
    rintro e w1 ⟨a1, c1, rfl, ho1, hb1⟩
    go_wp2_with fail
    refine (K2.out _ hb1).mono ?_
    rintro e w2 ⟨a2, c2, rfl, ho2, hb2⟩
    have hB2 := bt hb1 hb2
    have k3 := samed_any _ _ c1 ds _ _ c2 ds w2 (ho1.below hb2).rd.2 ho2.rd.2 (by omega) (by omega)
    have K3 := Lib.hid k3; clear k3
    go_wp2_with fail
    refine K3.out.mono ?_
    rintro e w3 ⟨rfl, hb3⟩
    have hB3 := bt hB2 hb3
    have hff : (ds == ds) = true := by simp
    rw [hff]
    go_wp2_with fail
    refine (works12_any _ (hM.below hB3)).mono ?_
    rintro e w4 ⟨rfl, hb4⟩
    go_wp2
    go_ret
    exact ⟨rfl, bt hB3 hb4⟩
theorem surctlLists_law {H : Type} {enc : TypeId × Value → H} {W : World} {base : Nat}
    (v0 : Value) (hv0 : Value.okWide Tryd.prog W .any base 22 v0) {d0 : DataW H} {p0 : List MemPlace} (h0 : DataW.Trod enc Tryd.prog W 0 (fun _ => true) true 22 v0 d0 p0) (hr0 : Reach 22 d0)
    (w : World) (hw : w = W) (h : ∃ m, W.cell? ⟨0, 0, none⟩ = some (.int .i64 m)) :
    Calls Tryd.prog 8 #[v0] w fun e w' => e = .returned (.bool true) ∧ Below w.heap.size w w' := by
  subst hw
  obtain ⟨A, n, c, ls, rfl, hR, hn, hl⟩ := open_texts_v hv0 h0 hr0
  exact surctlLists_any A n c ls w (MaxL.of h) hR
end Go.Proofs.YtfoabdpfadgafaaDoor
