/- DirectiveFinds: the walk of the law, and the law as it is handed in. -/
import Derived.Test.YtfoabdpfadgafaaDoorFind
import Derived.Test.YtfoabdpfadgafaaDoorAwake11
import Derived.Test.YtfoabdpfadgafaaDoorOpenD
namespace Go.Proofs.YtfoabdpfadgafaaDoor
open Go.RowKit Go.ChangeShapes Go.WideShapes
set_option maxRecDepth 100000

set_option maxHeartbeats 4000000 in
theorem directiveFinds_any (A : Option Addr) (n c : Nat) (xs : List Dir) (nm : ByteArray) (w : World) (hM : MaxL w) (hr : Rd A n 4 (dirsV xs) w) (hx : ∀ d ∈ xs, d.name.length ≤ 140737488351232) :
    Calls Tryd.prog 5 #[.slice A n c, .string nm] w fun e w' => e = .returned (.bool true) ∧ Below w.heap.size w w' := by
  by_cases hn : 100 < n
  · go_enter Tryd.func5, Tryd.ntmps5
    go_wp2_with fail
    refine (awake11_any _ hM).mono ?_
    rintro e w1 ⟨rfl, hb1⟩
    go_wp2
    go_ret
    exact ⟨rfl, hb1⟩
  · by_cases hm : 2000 < nm.size
    · go_enter Tryd.func5, Tryd.ntmps5
      go_wp2_with fail
      refine (awake11_any _ hM).mono ?_
      rintro e w1 ⟨rfl, hb1⟩
      go_wp2
      go_ret
      exact ⟨rfl, hb1⟩
    · have k1 := find_any A n c xs nm w hr (by omega) hx (by omega)
      have k2 := fun W hb => rfind_any A n c xs nm W (hr.below (w' := W) hb) (by omega) hx (by omega)
      generalize findO xs nm.data.toList = out at *
      have K1 := Lib.hid k1; have K2 := Lib.hid k2
      clear k1 k2 hr hx
      cases out with
      | none =>
        unfold saidV at K1 K2
        go_enter Tryd.func5, Tryd.ntmps5
        go_wp2_with fail
        refine K1.out.mono ?_
        rintro e w1 ⟨rfl, hb1⟩
        go_wp2_with fail
        refine (K2.out _ (hb1.alloc hb1.size _)).mono ?_
        rintro e w2 ⟨rfl, hb2⟩
        obtain ⟨g0, g1, g2, g3, q0, q1, q2, q3, glt⟩ := (at4_alloc w1 (.string ⟨#[]⟩) (.string ⟨#[]⟩) (.bool false) (.string ⟨#[]⟩) 29).below hb2
        have hB2 := (hb1.alloc hb1.size (.cells #[.string ⟨#[]⟩, .string ⟨#[]⟩, .bool false, .string ⟨#[]⟩] 29)).trans (hb2.mono (by have := hb1.size; simp; omega))
        generalize w1.heap.size = g at *
        clear hb1 hb2 K1 K2
        go_wp2_with fail
        have hB3 := hB2.alloc hB2.size (.cells #[.string ⟨#[]⟩, .string ⟨#[]⟩, .bool false, .string ⟨#[]⟩] 29)
        have hM3 := hM.below hB3
        refine (awake11_any _ hM3).mono ?_
        rintro e w3 ⟨rfl, hb3⟩
        have hB := hB3.trans (hb3.mono hB3.size)
        go_wp2
        go_ret
        exact ⟨rfl, hB⟩
      | some d =>
        obtain ⟨dn, dv, dh, df⟩ := d
        unfold saidV at K1 K2
        simp only at K1 K2
        obtain ⟨bn, hbn⟩ : ∃ bn : ByteArray, (⟨dn.toArray⟩ : ByteArray) = bn := ⟨_, rfl⟩
        obtain ⟨bv, hbv⟩ : ∃ bv : ByteArray, (⟨dv.toArray⟩ : ByteArray) = bv := ⟨_, rfl⟩
        obtain ⟨bf, hbf⟩ : ∃ bf : ByteArray, (⟨df.toArray⟩ : ByteArray) = bf := ⟨_, rfl⟩
        rw [hbn, hbv, hbf] at K1 K2
        clear hbn hbv hbf
        go_enter Tryd.func5, Tryd.ntmps5
        go_wp2_with fail
        refine K1.out.mono ?_
        rintro e w1 ⟨rfl, hb1⟩
        go_wp2_with fail
        refine (K2.out _ (hb1.alloc hb1.size _)).mono ?_
        rintro e w2 ⟨rfl, hb2⟩
        obtain ⟨g0, g1, g2, g3, q0, q1, q2, q3, glt⟩ := (at4_alloc w1 (.string bn) (.string bv) (.bool dh) (.string bf) 29).below hb2
        have hB2 := (hb1.alloc hb1.size (.cells #[.string bn, .string bv, .bool dh, .string bf] 29)).trans (hb2.mono (by have := hb1.size; simp; omega))
        generalize w1.heap.size = g at *
        clear hb1 hb2 K1 K2
        have hB3 := hB2.alloc hB2.size (.cells #[.string bn, .string bv, .bool dh, .string bf] 29)
        have hM3 := hM.below hB3
        go_wp2_with fail
        refine (awake11_any _ hM3).mono ?_
        rintro e w3 ⟨rfl, hb3⟩
        have hB := hB3.trans (hb3.mono hB3.size)
        go_wp2
        go_ret
        exact ⟨rfl, hB⟩
theorem directiveFinds_law {H : Type} {enc : TypeId × Value → H} {W : World} {base : Nat}
    (v0 : Value) (hv0 : Value.okWide Tryd.prog W .any base 26 v0) {d0 : DataW H} {p0 : List MemPlace} (h0 : DataW.Trod enc Tryd.prog W 0 (fun _ => true) true 26 v0 d0 p0) (hr0 : Reach 26 d0) (nm : ByteArray)
    (w : World) (hw : w = W) (h : ∃ m, W.cell? ⟨0, 0, none⟩ = some (.int .i64 m)) :
    Calls Tryd.prog 5 #[v0, .string nm] w fun e w' => e = .returned (.bool true) ∧ Below w.heap.size w w' := by
  subst hw
  obtain ⟨A, n, c, xs, rfl, hR, hn, hl⟩ := open_dirs_v hv0 h0 hr0
  exact directiveFinds_any A n c xs nm w (MaxL.of h) hR (fun d hd => Nat.le_trans (hl d hd).1 (by decide))
end Go.Proofs.YtfoabdpfadgafaaDoor
