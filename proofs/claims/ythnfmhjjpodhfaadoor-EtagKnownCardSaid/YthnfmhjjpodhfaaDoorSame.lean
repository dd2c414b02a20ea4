/- The walk of text.Same. -/
import Derived.Test.YthnfmhjjpodhfaaDoorLower
namespace Go.Proofs.YthnfmhjjpodhfaaDoor
open Go.RowKit

set_option maxHeartbeats 1000000 in
theorem tsame_wide (a b : ByteArray) (w : World) (ha : a.size ≤ 140737488351232) (hb : b.size ≤ 140737488351232) :
    Calls Tryd.prog 51 #[.string a, .string b] w fun e w' => e = .returned (.bool (lowerL a.data.toList == lowerL b.data.toList)) ∧ Below w.heap.size w w' := by
  have hB := Below.refl w.heap.size w
  have k1 := fun w => lower_wide a w ha
  have k2 := fun w => lower_wide b w hb
  have t1 : ((⟨(lowerL a.data.toList).toArray⟩ : ByteArray).toList == (⟨(lowerL b.data.toList).toArray⟩ : ByteArray).toList) = (lowerL a.data.toList == lowerL b.data.toList) := by rw [Lib.toList_data, Lib.toList_data]
  generalize lowerL a.data.toList = x at *
  generalize lowerL b.data.toList = y at *
  have K1 := Lib.hid k1; have K2 := Lib.hid k2; have T1 := Lib.hid t1; clear k1 k2 t1
  go_enter Tryd.func51, Tryd.ntmps51
  go_wp2_with fail
  refine (K1.out _).mono ?_
  rintro e w1 ⟨rfl, hb1⟩
  go_wp2_with fail
  refine (K2.out _).mono ?_
  rintro e w2 ⟨rfl, hb2⟩
  go_wp2
  go_ret
  exact ⟨by rw [← T1.out]; rfl, bt hb1 hb2⟩
theorem tsame_any (a b : ByteArray) (w : World) (ha : a.size ≤ 1000000) (hb : b.size ≤ 1000000) :
    Calls Tryd.prog 51 #[.string a, .string b] w fun e w' => e = .returned (.bool (lowerL a.data.toList == lowerL b.data.toList)) ∧ Below w.heap.size w w' := tsame_wide a b w (by omega) (by omega)
end Go.Proofs.YthnfmhjjpodhfaaDoor
