/- FieldsParses: the walk of the law. -/
import Derived.Test.YthppcaoldobocaaDoorRParse
import Derived.Test.YthppcaoldobocaaDoorSameF04
import Derived.Test.YthppcaoldobocaaDoorWorks04
namespace Go.Proofs.YthppcaoldobocaaDoor
open Go.RowKit
set_option maxRecDepth 100000

set_option maxHeartbeats 4000000 in
theorem fieldsParses_any (s : ByteArray) (w : World) (hM : MaxL w) :
    Calls Tryd.prog 3 #[.string s] w fun e w' => e = .returned (.bool true) ∧ Below w.heap.size w w' := by
  by_cases hs : s.size ≤ 12000
  · have k1 := fun w h => parse4_any s w h (by omega)
    have k2 := fun w => rparse4_any s w (by omega)
    have hl := parseL_len s.data.toList
    generalize parseL s.data.toList = out at *
    obtain ⟨fs, er⟩ := out
    simp only at hl
    have K1 := Lib.hid k1; have K2 := Lib.hid k2; clear k1 k2
    go_enter Tryd.func3, Tryd.ntmps3
    go_wp2_with fail
    refine (K1.out _ hM).mono ?_
    rintro e w1 ⟨a1, c1, rfl, ho1, hb1⟩
    simp only at ho1 ⊢
    go_wp2_with fail
    refine (K2.out _).mono ?_
    rintro e w2 ⟨a2, c2, rfl, ho2, hb2⟩
    simp only at ho2 ⊢
    have hB2 := bt hb1 hb2
    have k3 := samef04_any _ _ c1 fs _ _ c2 fs w2 (ho1.below hb2).rd.2 ho2.rd.2 (by omega) (by omega)
    have K3 := Lib.hid k3; clear k3
    go_wp2_with fail
    refine K3.out.mono ?_
    rintro e w3 ⟨rfl, hb3⟩
    have hB3 := bt hB2 hb3
    have hff : (fs == fs) = true := by simp
    rw [hff]
    have her : (er == er) = true := by simp
    go_wp2_with fail
    refine (works4_any _ (hM.below hB3)).mono ?_
    rintro e w4 ⟨rfl, hb4⟩
    go_wp2
    go_ret
    exact ⟨rfl, bt hB3 hb4⟩
  · go_enter Tryd.func3, Tryd.ntmps3
    go_wp2_with fail
    refine (works4_any _ hM).mono ?_
    rintro e w1 ⟨rfl, hb1⟩
    go_wp2
    go_ret
    exact ⟨rfl, hb1⟩
theorem fieldsParses_law (s : ByteArray) (w : World) (h : ∃ m, w.cell? ⟨0, 0, none⟩ = some (.int .i64 m)) : Calls Tryd.prog 3 #[.string s] w fun e w' => e = .returned (.bool true) ∧ Below w.heap.size w w' := fieldsParses_any s w (MaxL.of h)
end Go.Proofs.YthppcaoldobocaaDoor
