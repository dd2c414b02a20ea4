/- EtagReads: the walk of the law. -/
import Derived.Test.YthnfmhjjpodhfaaDoorEtagList
import Derived.Test.YthnfmhjjpodhfaaDoorTexts
namespace Go.Proofs.YthnfmhjjpodhfaaDoor
open Go.RowKit
set_option maxRecDepth 100000

theorem etagL_len (s : List UInt8) : (etagL s).1.length ≤ 64 := by
  have h : etagL s = bif (splitL 44 s).2 == 0 && (!(splitL 44 s).1.isEmpty && (splitL 44 s).1.all entOk) then ((splitL 44 s).1, 0) else ([], 4) := rfl
  have h2 := split_len s
  rw [h]
  cases ((splitL 44 s).2 == 0 && (!(splitL 44 s).1.isEmpty && (splitL 44 s).1.all entOk))
  · simp
  · exact h2

set_option maxHeartbeats 4000000 in
theorem etagReads_any (a b : ByteArray) (w : World) :
    Calls Tryd.prog 3 #[.string a, .string b] w fun e w' => e = .returned (.bool true) ∧ Below w.heap.size w w' := by
  by_cases ha : a.size ≤ 3000
  · by_cases hb : b.size ≤ 3000
    · have k1 := fun w => parse_any a w (by omega)
      have k2 := fun w => rparse14_any a w (by omega)
      have k3 := fun w => elist_any a w (by omega)
      have k4 := fun w => relist_any a w (by omega)
      have k5 := fun w => strong_any a b w (by omega) (by omega)
      have k6 := fun w => rstrong_any a b w (by omega) (by omega)
      have k7 := fun w => weak_any a b w (by omega) (by omega)
      have k8 := fun w => rweak_any a b w (by omega) (by omega)
      have hl := etagL_len a.data.toList
      obtain ⟨wk, tg, er, hp⟩ := parse_form (ent a)
      rw [hp] at k1 k2
      clear hp
      generalize (ent a).sure (ent b) = su at *
      generalize (ent a).same (ent b) = sm at *
      generalize etagL a.data.toList = out at *
      obtain ⟨ls, le⟩ := out
      have K1 := Lib.hid k1; have K2 := Lib.hid k2; have K3 := Lib.hid k3; have K4 := Lib.hid k4; have K5 := Lib.hid k5; have K6 := Lib.hid k6; have K7 := Lib.hid k7; have K8 := Lib.hid k8
      clear k1 k2 k3 k4 k5 k6 k7 k8
      simp only at hl
      go_enter Tryd.func3, Tryd.ntmps3
      go_wp2_with fail
      refine (K1.out _).mono ?_
      rintro e w1 ⟨rfl, hb1⟩
      go_wp2_with fail
      refine (K2.out _).mono ?_
      rintro e w2 ⟨rfl, hb2⟩
      go_wp2_with fail
      refine (K3.out _).mono ?_
      rintro e w3 ⟨a3, c3, rfl, ho3, hb3⟩
      go_wp2_with fail
      refine (K4.out _).mono ?_
      rintro e w4 ⟨a4, c4, rfl, ho4, hb4⟩
      simp only at ho3 ho4
      have hB4 := bt (bt (bt hb1 hb2) hb3) hb4
      have k := texts_any _ _ _ _ _ _ w4 (ho3.below hb4) ho4 (by omega) (by omega)
      have K := Lib.hid k; clear k
      go_wp2_with fail
      refine K.out.mono ?_
      rintro e w5 ⟨rfl, hb5⟩
      have hB5 := bt hB4 hb5
      have hbl : (ls == ls) = true := by simp
      rw [hbl]
      go_wp2_with fail
      refine (K5.out _).mono ?_
      rintro e w6 ⟨rfl, hb6⟩
      have hB6 := bt hB5 hb6
      go_wp2_with fail
      refine (K6.out _).mono ?_
      rintro e w7 ⟨rfl, hb7⟩
      have hB7 := bt hB6 hb7
      have hsu : (su == su) = true := by simp
      go_wp2_with fail
      refine (K7.out _).mono ?_
      rintro e w8 ⟨rfl, hb8⟩
      have hB8 := bt hB7 hb8
      go_wp2_with fail
      refine (K8.out _).mono ?_
      rintro e w9 ⟨rfl, hb9⟩
      have hB9 := bt hB8 hb9
      have hsm : (sm == sm) = true := by simp
      go_wp2_with fail
      refine (works_any _).mono ?_
      rintro e w10 ⟨rfl, hb10⟩
      go_wp2
      go_ret
      exact ⟨rfl, bt hB9 hb10⟩
    · have H := Lib.hid hb
      go_enter Tryd.func3, Tryd.ntmps3
      go_wp2_with fail
      refine (works_any _).mono ?_
      rintro e w1 ⟨rfl, hb1⟩
      go_wp2
      go_ret
      exact ⟨rfl, hb1⟩
  · go_enter Tryd.func3, Tryd.ntmps3
    go_wp2_with fail
    refine (works_any _).mono ?_
    rintro e w1 ⟨rfl, hb1⟩
    go_wp2
    go_ret
    exact ⟨rfl, hb1⟩

theorem etagReads_law (a b : ByteArray) (w : World) (_ : True) : Calls Tryd.prog 3 #[.string a, .string b] w fun e w' => e = .returned (.bool true) ∧ Below w.heap.size w w' := etagReads_any a b w
end Go.Proofs.YthnfmhjjpodhfaaDoor
