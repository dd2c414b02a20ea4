/- TextWords: the walk of the law. -/
import Derived.Test.YtclcigbcianimaaDoorAwake01
import Derived.Test.YtclcigbcianimaaDoorRef1
namespace Go.Proofs.YtclcigbcianimaaDoor
open Go.RowKit

set_option maxHeartbeats 4000000 in
theorem textWords_any (a b : ByteArray) (w : World) (_ : True) :
    Calls Tryd.prog 3 #[.string a, .string b] w fun e w' => e = .returned (.bool true) ∧ Below w.heap.size w w' := by
  have hB := Below.refl w.heap.size w
  cases hl : decide (4000 < (a.size : Int))
  · cases hl2 : decide (4000 < (b.size : Int))
    · have ha : a.size ≤ 1000000 := by simp at hl; omega
      have hb : b.size ≤ 1000000 := by simp at hl2; omega
      have k1 := fun w => token_any a w ha
      have k2 := fun w => rtoken_any a w ha
      have k3 := fun w => lower_any a w ha
      have k4 := fun w => rlower_any a w ha
      have k5 := fun w => tsame_any a b w ha hb
      have k6 := fun w => rsame_any a b w ha hb
      have k7 := fun w => trim_any a w ha
      have k8 := fun w => rtrim_any a w ha
      generalize tokenL a.data.toList = x1 at *
      generalize (lowerL a.data.toList == lowerL b.data.toList) = x2 at *
      generalize (⟨(lowerL a.data.toList).toArray⟩ : ByteArray) = x3 at *
      generalize (⟨(trimL a.data.toList).toArray⟩ : ByteArray) = x4 at *
      have K1 := Lib.hid k1; have K2 := Lib.hid k2; have K3 := Lib.hid k3; have K4 := Lib.hid k4
      have K5 := Lib.hid k5; have K6 := Lib.hid k6; have K7 := Lib.hid k7; have K8 := Lib.hid k8
      clear k1 k2 k3 k4 k5 k6 k7 k8
      go_enter Tryd.func3, Tryd.ntmps3
      go_wp2_with (first | (go_at_call 8; go_in) | (go_at_call 10; refine (K1.out _).mono ?_; rintro e w' ⟨rfl, rfl⟩) | (go_at_call 11; refine (K2.out _).mono ?_; rintro e w' ⟨rfl, rfl⟩) | (go_at_call 12; refine (K3.out _).mono ?_; rintro e w' ⟨rfl, hb⟩; replace hB := bt hB hb; clear hb) | (go_at_call 13; refine (K4.out _).mono ?_; rintro e w' ⟨rfl, hb⟩; replace hB := bt hB hb; clear hb) | (go_at_call 14; refine (K5.out _).mono ?_; rintro e w' ⟨rfl, hb⟩; replace hB := bt hB hb; clear hb) | (go_at_call 15; refine (K6.out _).mono ?_; rintro e w' ⟨rfl, hb⟩; replace hB := bt hB hb; clear hb) | (go_at_call 16; refine (K7.out _).mono ?_; rintro e w' ⟨rfl, hb⟩; replace hB := bt hB hb; clear hb) | (go_at_call 17; refine (K8.out _).mono ?_; rintro e w' ⟨rfl, rfl⟩) | (go_at_call 9; refine (awake_any _).mono ?_; rintro e w' ⟨rfl, hb⟩; replace hB := bt hB hb; clear hb))
      go_ret
      exact ⟨rfl, hB⟩
    · go_enter Tryd.func3, Tryd.ntmps3
      go_wp2_with (first | (go_at_call 8; go_in) | (go_at_call 9; refine (awake_any _).mono ?_; rintro e w' ⟨rfl, hb⟩; replace hB := bt hB hb; clear hb))
      go_ret
      exact ⟨rfl, hB⟩
  · go_enter Tryd.func3, Tryd.ntmps3
    go_wp2_with (first | (go_at_call 8; go_in) | (go_at_call 9; refine (awake_any _).mono ?_; rintro e w' ⟨rfl, hb⟩; replace hB := bt hB hb; clear hb))
    go_ret
    exact ⟨rfl, hB⟩
end Go.Proofs.YtclcigbcianimaaDoor
