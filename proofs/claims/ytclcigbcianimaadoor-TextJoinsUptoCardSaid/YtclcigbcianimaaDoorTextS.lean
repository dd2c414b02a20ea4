/- TextSplits: the walk of the law. -/
import Derived.Test.YtclcigbcianimaaDoorSplitR
import Derived.Test.YtclcigbcianimaaDoorAwake01
import Derived.Test.YtclcigbcianimaaDoorTexts
namespace Go.Proofs.YtclcigbcianimaaDoor
open Go.RowKit

set_option maxHeartbeats 4000000 in
theorem textSplits_any (s : ByteArray) (sep : UInt8) (w : World) (_ : True) :
    Calls Tryd.prog 4 #[.string s, .int .u8 sep.toNat] w fun e w' => e = .returned (.bool true) ∧ Below w.heap.size w w' := by
  have hB := Below.refl w.heap.size w
  cases hl : decide (4000 < (s.size : Int))
  · have ha : s.size ≤ 1000000 := by simp at hl; omega
    have k1 := fun w => split_any s sep w ha
    have k2 := fun w => rsplit_any s sep w ha
    have hcn : (splitL sep s.data.toList).1.length ≤ 64 := splitL_le _ _
    generalize splitL sep s.data.toList = r at *
    obtain ⟨ls, n⟩ := r
    have K1 := Lib.hid k1; have K2 := Lib.hid k2; clear k1 k2
    go_enter Tryd.func4, Tryd.ntmps4
    have hln : ls.length ≤ 1000001 := by simp at hcn; omega
    go_wp2_with (first | (go_at_call 8; go_in) | (go_at_call 18; refine (K1.out _).mono ?_; rintro e w1 ⟨a1, c1, rfl, ho1, hb1⟩) | (go_at_call 19; refine (K2.out _).mono ?_; rintro e w2 ⟨a2, c2, rfl, ho2, hb2⟩) | (go_at_call 20; refine (texts_any _ _ ls ls _ _ _ (ho1.below hb2) ho2 hln hln).mono ?_; rintro e w3 ⟨rfl, hb3⟩) | (go_at_call 9; refine (awake_any _).mono ?_; rintro e w' ⟨rfl, hb⟩))
    go_ret
    exact ⟨rfl, bt (bt (bt (bt hB hb1) hb2) hb3) hb⟩
  · go_enter Tryd.func4, Tryd.ntmps4
    go_wp2_with (first | (go_at_call 8; go_in) | (go_at_call 9; refine (awake_any _).mono ?_; rintro e w' ⟨rfl, hb⟩; replace hB := bt hB hb; clear hb))
    go_ret
    exact ⟨rfl, hB⟩

theorem byteOf {x : Int} (h : (Lit.int .u8 x).wf = true) : ∃ b : UInt8, x = (b.toNat : Int) := by
  have h2 : 0 ≤ x ∧ x ≤ 255 := by
    simp [Lit.wf, IntKind.min, IntKind.max, IntKind.signed, IntKind.bits] at h
    omega
  refine ⟨UInt8.ofNat x.toNat, ?_⟩
  have : (UInt8.ofNat x.toNat).toNat = x.toNat := by simp; omega
  omega
theorem textSplits_law (s : ByteArray) (x : Int) (wx : (Lit.int .u8 x).wf = true) (w : World) (_ : True) :
    Calls Tryd.prog 4 #[.string s, .int .u8 x] w fun e w' => e = .returned (.bool true) ∧ Below w.heap.size w w' := by
  obtain ⟨b, rfl⟩ := byteOf wx
  exact textSplits_any s b w trivial
end Go.Proofs.YtclcigbcianimaaDoor
