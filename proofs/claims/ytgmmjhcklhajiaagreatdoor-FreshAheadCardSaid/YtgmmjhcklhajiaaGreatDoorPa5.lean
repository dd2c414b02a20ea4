/- Joined out of the texts Date6, Date7, Date8, Tick, Fresh1, RDateSpec, RDateEq (wip/tools/merge.py). -/
import Derived.Test.YtgmmjhcklhajiaaGreatDoorPa4
import Derived.Laws.RangeString
import Derived.WalkMore
import Derived.Test.YtgmmjhcklhajiaaGreatDoorShelf
import Derived.Lib.AppendIntMem
/- Dates: the walk of tick, of a year of two digits (printed by wip/tools/date5.py). -/
namespace Go.Proofs.YtgmmjhcklhajiaaGreatDoor
open Go.RowKit
set_option maxRecDepth 100000

set_option maxHeartbeats 32000000 in
theorem dtick_two (mb : Nat) (m : Mom) (now : Int) (w : World) (hm : MomAt mb m w) (ho : MomOk m) (h2 : m.two = true) :
    Calls Tryz.prog 153 #[.pointer (some ⟨mb, 0, none⟩), .int .i64 now] w (TickPost mb w (dtick m now)) := by
  obtain ⟨R, hR⟩ : ∃ R, dtick m now = R := ⟨_, rfl⟩
  rw [hR]
  obtain ⟨dn, hdn⟩ : ∃ dn, max 0 (min now 253402300799) / 86400 = dn := ⟨_, rfl⟩
  have hdn0 : dnow now = dn := hdn
  have hdnb : 0 ≤ dn ∧ dn ≤ 3000000 := by omega
  have hwq : IntKind.i64.wrap dn = dn := by rw [IntKind.wrap_i64]; omega
  have HDN := Lib.hid hdn
  have ky := dyear_any dn hdnb w
  have hyg := dyear_ge 9000 dn (1970 + dn / 366)
  obtain ⟨YY, hYY⟩ : ∃ YY, dyear 9000 dn (1970 + dn / 366) = YY := ⟨_, rfl⟩
  have hyo : (dyearO dn).1 = YY := hYY
  rw [hyo] at ky
  rw [hYY] at hyg
  generalize (dyearO dn).2 = rst at *
  have ho2 := ho.two h2
  obtain ⟨oy1, oy2⟩ := ho.year
  have hYb0 : 1970 ≤ YY ∧ YY ≤ 30000 := by omega
  obtain ⟨Y, hY⟩ : ∃ Y, (YY + 50) - ((YY + 50) - m.year) % 100 = Y := ⟨_, rfl⟩
  have hy : dyr m now = Y := by unfold dyr; rw [if_pos h2, hdn0, hyo]; exact hY
  have hYb : 0 ≤ Y ∧ Y ≤ 100000 := by omega
  have em0 : ((YY + 50) - m.year).tmod 100 = ((YY + 50) - m.year) % 100 := Int.tmod_eq_emod_of_nonneg (by omega)
  obtain ⟨md, hmd⟩ : ∃ md, ((YY + 50) - m.year) % 100 = md := ⟨_, rfl⟩
  rw [hmd] at em0 hY
  have w1 : IntKind.i64.wrap (YY + 50) = YY + 50 := by rw [IntKind.wrap_i64]; omega
  have w2 : IntKind.i64.wrap (YY + 50 - m.year) = YY + 50 - m.year := by rw [IntKind.wrap_i64]; omega
  have w3 : IntKind.i64.wrap (YY + 50 - md) = YY + 50 - md := by rw [IntKind.wrap_i64]; omega
  obtain ⟨c0, c1, c2, c3, c4, c5, c6, c7, hf⟩ := hm.cells
  have f3 := hf 3
  rw [h2] at c7
  have HR0 := Lib.hid hR; have HY := Lib.hid hy; have HO := Lib.hid ho; have HM := Lib.hid hm; have KY := Lib.hid ky; have HYE := Lib.hid hY
  obtain ⟨ow1, ow2⟩ := ho.wd
  obtain ⟨od1, od2⟩ := ho.day
  obtain ⟨om1, om2⟩ := ho.month
  obtain ⟨oh1, oh2⟩ := ho.hour
  obtain ⟨on1, on2⟩ := ho.minute
  obtain ⟨os1, os2⟩ := ho.second
  clear hR hy hm ho hf h2 hY hdn0 hdn hyg hYY hyo hmd ky
  go_enter Tryz.func153, Tryz.ntmps153
  go_wp2_with fail
  rw [HDN.out]
  (with_reducible refine KY.out.mono ?_)
  rintro e wy ⟨rfl, rfl⟩
  go_upto_region 5 with (fail)
  rw [HYE.out]
  have hm2 : MomAt mb { m with year := Y } ((wy.drewN 0).setCell ⟨mb, 3, none⟩ (.int .i64 Y)) := HM.out.set3 (q := 0) Y
  have hb2 : ButB mb wy ((wy.drewN 0).setCell ⟨mb, 3, none⟩ (.int .i64 Y)) := ButB.set mb 3 0 wy _
  obtain ⟨WZ, hWZ⟩ : ∃ WZ, wy.setCell ⟨mb, 3, none⟩ (.int .i64 Y) = WZ := ⟨_, rfl⟩
  have hm3 : MomAt mb { m with year := Y } WZ := by rw [← hWZ]; exact hm2
  have hb3 : ButB mb wy WZ := by rw [← hWZ]; exact hb2
  rw [hWZ]
  clear c0 c1 c2 c3 c4 c5 c6 c7 f3 hm2 hb2 hwq em0 w1 w2 w3 hWZ
  obtain ⟨c0, c1, c2, c3, c4, c5, c6, c7, _⟩ := hm3.cells
  simp only at c0 c1 c2 c3 c4 c5 c6 c7
  have HBT := Lib.hid hb3
  clear hm3 hb3
  have kl := fun w' => dlong_any Y m.month hYb w'
  have KL := Lib.hid kl
  clear kl
  have hlb := dlong_le Y m.month
  by_cases q1 : Y < 1970
  · have hR2 : R = (0, false) := by rw [← HR0.out]; unfold dtick; rw [HY.out, if_pos (Or.inl q1)]
    have HR := Lib.hid hR2.symm
    clear hR2
    have t1 : decide (Y < 1970) = true := by simpa using q1
    go_wp2
    go_region
    go_wp2
    go_ret2
    exact ⟨by rw [← HR.out]; rfl, HBT.out.drewN 1⟩
  have t1 : decide (Y < 1970) = false := by simpa using q1
  by_cases q2 : Y > 9999
  · have hR2 : R = (0, false) := by rw [← HR0.out]; unfold dtick; rw [HY.out, if_pos (Or.inr (Or.inl q2))]
    have HR := Lib.hid hR2.symm
    clear hR2
    have t2 : decide (Y > 9999) = true := by simpa using q2
    go_wp2
    go_region
    go_wp2
    go_ret2
    exact ⟨by rw [← HR.out]; rfl, HBT.out.drewN 1⟩
  have t2 : decide (Y > 9999) = false := by simpa using q2
  by_cases q3 : m.day < 1
  · have hR2 : R = (0, false) := by rw [← HR0.out]; unfold dtick; rw [HY.out, if_pos (Or.inr (Or.inr (Or.inl q3)))]
    have HR := Lib.hid hR2.symm
    clear hR2
    have t3 : decide (m.day < 1) = true := by simpa using q3
    go_wp2
    go_region
    go_wp2
    go_ret2
    exact ⟨by rw [← HR.out]; rfl, HBT.out.drewN 1⟩
  have t3 : decide (m.day < 1) = false := by simpa using q3
  by_cases q4 : m.day > dlong Y m.month
  · have hR2 : R = (0, false) := by rw [← HR0.out]; unfold dtick; rw [HY.out, if_pos (Or.inr (Or.inr (Or.inr (Or.inl q4))))]
    have HR := Lib.hid hR2.symm
    clear hR2
    have t4 : decide (m.day > dlong Y m.month) = true := by simpa using q4
    go_wp2
    refine wp_region_held_drew (S := (fun w' => w'.cell? ⟨mb, 1, none⟩ = some (.int .i64 m.day) ∧ w'.cell? ⟨mb, 2, none⟩ = some (.int .i64 m.month) ∧ w'.cell? ⟨mb, 3, none⟩ = some (.int .i64 Y) ∧ w'.cell? ⟨mb, 4, none⟩ = some (.int .i64 m.hour) ∧ w'.cell? ⟨mb, 5, none⟩ = some (.int .i64 m.minute) ∧ w'.cell? ⟨mb, 6, none⟩ = some (.int .i64 m.second))) (by kernel_rfl) (⟨c1, c2, c3, c4, c5, c6⟩) (fun hHeld => ?_)
    refine wpAnyH_take (i := 0) (v := ?_) (by simp only [List.getElem?_toArray, List.getElem?_cons_zero]; exact rfl) (by kernel_rfl) (by kernel_rfl) (by kernel_rfl) (by intro _ _ _ h; exact h) (Or.inl ⟨by rfl, fun W hSw => ?_⟩) hHeld ?_
    rotate_left
    focus ((try dsimp only at hSw); first | (go_simp; done) | (go_simp; with_reducible rfl))
    try simp only [Act.put, List.setIfInBounds_toArray, List.set_cons_zero, List.set_cons_succ]
    refine wpAnyH_take (i := 1) (v := ?_) (by simp only [List.getElem?_toArray, List.getElem?_cons_succ, List.getElem?_cons_zero]; exact rfl) (by kernel_rfl) (by kernel_rfl) (by kernel_rfl) (by intro _ _ _ h; exact h) (Or.inl ⟨by rfl, fun W hSw => ?_⟩) hHeld ?_
    rotate_left
    focus ((try dsimp only at hSw); first | (go_simp; done) | (go_simp; with_reducible rfl))
    try simp only [Act.put, List.setIfInBounds_toArray, List.set_cons_zero, List.set_cons_succ]
    refine wpAnyH_take (i := 2) (v := ?_) (by simp only [List.getElem?_toArray, List.getElem?_cons_succ, List.getElem?_cons_zero]; exact rfl) (by kernel_rfl) (by kernel_rfl) (by kernel_rfl) (by intro _ _ _ h; exact h) (Or.inl ⟨by rfl, fun W hSw => ?_⟩) hHeld ?_
    rotate_left
    focus ((try dsimp only at hSw); first | (go_simp; done) | (go_simp; with_reducible rfl))
    try simp only [Act.put, List.setIfInBounds_toArray, List.set_cons_zero, List.set_cons_succ]
    refine wpAnyH_take (i := 3) (v := ?_) (by simp only [List.getElem?_toArray, List.getElem?_cons_succ, List.getElem?_cons_zero]; exact rfl) (by kernel_rfl) (by kernel_rfl) (by kernel_rfl) (by intro _ _ _ h; exact h) (Or.inl ⟨by rfl, fun W hSw => ?_⟩) hHeld ?_
    rotate_left
    focus ((try dsimp only at hSw); first | (go_simp; done) | (go_simp; with_reducible rfl))
    try simp only [Act.put, List.setIfInBounds_toArray, List.set_cons_zero, List.set_cons_succ]
    refine wpAnyH_take (i := 4) (v := ?_) (by simp only [List.getElem?_toArray, List.getElem?_cons_succ, List.getElem?_cons_zero]; exact rfl) (by kernel_rfl) (by kernel_rfl) (by kernel_rfl) (by intro _ _ _ h; exact h) (Or.inl ⟨by rfl, fun W hSw => ?_⟩) hHeld ?_
    rotate_left
    focus ((try dsimp only at hSw); first | (go_simp; done) | (go_simp; with_reducible rfl))
    try simp only [Act.put, List.setIfInBounds_toArray, List.set_cons_zero, List.set_cons_succ]
    refine wpAnyH_take (i := 5) (v := ?_) (by simp only [List.getElem?_toArray, List.getElem?_cons_succ, List.getElem?_cons_zero]; exact rfl) (by kernel_rfl) (by kernel_rfl) (by kernel_rfl) (by intro _ _ _ h; exact h) (Or.inl ⟨by rfl, fun W hSw => ?_⟩) hHeld ?_
    rotate_left
    focus ((try dsimp only at hSw); first | (go_simp; done) | (go_simp; with_reducible rfl))
    try simp only [Act.put, List.setIfInBounds_toArray, List.set_cons_zero, List.set_cons_succ]
    refine wpAnyH_take (i := 6) (v := ?_) (by simp only [List.getElem?_toArray, List.getElem?_cons_succ, List.getElem?_cons_zero]; exact rfl) (by kernel_rfl) (by kernel_rfl) (by kernel_rfl) (by intro _ _ _ h; exact h) (Or.inl ⟨by rfl, fun W hSw => ?_⟩) hHeld ?_
    rotate_left
    focus ((try dsimp only at hSw); first | (go_simp; done) | (go_simp; with_reducible rfl))
    try simp only [Act.put, List.setIfInBounds_toArray, List.set_cons_zero, List.set_cons_succ]
    refine wpAnyH_take (i := 7) (v := ?_) (by simp only [List.getElem?_toArray, List.getElem?_cons_succ, List.getElem?_cons_zero]; exact rfl) (by kernel_rfl) (by kernel_rfl) (by kernel_rfl) (by intro _ _ _ h; exact h) (Or.inl ⟨by rfl, fun W hSw => ?_⟩) hHeld ?_
    rotate_left
    focus ((try dsimp only at hSw); first | (go_simp; done) | (go_simp; with_reducible rfl))
    try simp only [Act.put, List.setIfInBounds_toArray, List.set_cons_zero, List.set_cons_succ]
    refine wpAnyH_take (i := 8) (v := ?_) (by simp only [List.getElem?_toArray, List.getElem?_cons_succ, List.getElem?_cons_zero]; exact rfl) (by kernel_rfl) (by kernel_rfl) (by kernel_rfl) (by intro _ _ _ h; exact h) (Or.inl ⟨by rfl, fun W hSw => ?_⟩) hHeld ?_
    rotate_left
    focus ((try dsimp only at hSw); first | (go_simp; done) | (go_simp; with_reducible rfl))
    try simp only [Act.put, List.setIfInBounds_toArray, List.set_cons_zero, List.set_cons_succ]
    refine wpAnyH_take (i := 9) (v := ?_) (by simp only [List.getElem?_toArray, List.getElem?_cons_succ, List.getElem?_cons_zero]; exact rfl) (by kernel_rfl) (by kernel_rfl) (by kernel_rfl) (by intro _ _ _ h; exact h) (Or.inl ⟨by rfl, fun W hSw => ?_⟩) hHeld ?_
    rotate_left
    focus ((try dsimp only at hSw); first | (go_simp; done) | (go_simp; with_reducible rfl))
    try simp only [Act.put, List.setIfInBounds_toArray, List.set_cons_zero, List.set_cons_succ]
    refine wpAnyH_take (i := 10) (v := ?_) (by simp only [List.getElem?_toArray, List.getElem?_cons_succ, List.getElem?_cons_zero]; exact rfl) (by kernel_rfl) (by kernel_rfl) (by kernel_rfl) (by intro _ _ _ h; exact h) (Or.inl ⟨by rfl, fun W hSw => ?_⟩) hHeld ?_
    rotate_left
    focus ((try dsimp only at hSw); first | (go_simp; done) | (go_simp; with_reducible rfl))
    try simp only [Act.put, List.setIfInBounds_toArray, List.set_cons_zero, List.set_cons_succ]
    refine wpAnyH_take (i := 11) (v := ?_) (by simp only [List.getElem?_toArray, List.getElem?_cons_succ, List.getElem?_cons_zero]; exact rfl) (by kernel_rfl) (by kernel_rfl) (by kernel_rfl) (by intro _ _ _ h; exact h) (Or.inl ⟨by rfl, fun W hSw => ?_⟩) hHeld ?_
    rotate_left
    focus ((try dsimp only at hSw); first | (go_simp; done) | (go_simp; with_reducible rfl))
    try simp only [Act.put, List.setIfInBounds_toArray, List.set_cons_zero, List.set_cons_succ]
    refine wpAnyH_take (i := 12) (v := ?_) (by simp only [List.getElem?_toArray, List.getElem?_cons_succ, List.getElem?_cons_zero]; exact rfl) (by kernel_rfl) (by kernel_rfl) (by kernel_rfl) (by intro _ _ _ h; exact h) (Or.inl ⟨by rfl, fun W hSw => ?_⟩) hHeld ?_
    rotate_left
    focus ((try dsimp only at hSw); first | (go_simp; done) | (go_simp; with_reducible rfl))
    try simp only [Act.put, List.setIfInBounds_toArray, List.set_cons_zero, List.set_cons_succ]
    refine wpAnyH_take (i := 13) (v := ?_) (by simp only [List.getElem?_toArray, List.getElem?_cons_succ, List.getElem?_cons_zero]; exact rfl) (by kernel_rfl) (by kernel_rfl) (by kernel_rfl) (by intro _ _ _ h; exact h) (Or.inl ⟨by rfl, fun W hSw => ?_⟩) hHeld ?_
    rotate_left
    focus ((try dsimp only at hSw); first | (go_simp; done) | (go_simp; with_reducible rfl))
    try simp only [Act.put, List.setIfInBounds_toArray, List.set_cons_zero, List.set_cons_succ]
    refine wpAnyH_take (i := 14) (v := ?_) (by simp only [List.getElem?_toArray, List.getElem?_cons_succ, List.getElem?_cons_zero]; exact rfl) (by kernel_rfl) (by kernel_rfl) (by kernel_rfl) (by intro _ _ _ h; exact h) (Or.inl ⟨by rfl, fun W hSw => ?_⟩) hHeld ?_
    rotate_left
    focus ((try dsimp only at hSw); first | (go_simp; done) | (go_simp; with_reducible rfl))
    try simp only [Act.put, List.setIfInBounds_toArray, List.set_cons_zero, List.set_cons_succ]
    refine wpAnyH_take (i := 15) (v := ?_) (by simp only [List.getElem?_toArray, List.getElem?_cons_succ, List.getElem?_cons_zero]; exact rfl) (by kernel_rfl) (by kernel_rfl) (by kernel_rfl) (by intro _ _ _ h; exact h) (Or.inl ⟨by rfl, fun W hSw => ?_⟩) hHeld ?_
    rotate_left
    focus ((try dsimp only at hSw); first | (go_simp; done) | (go_simp; with_reducible rfl))
    try simp only [Act.put, List.setIfInBounds_toArray, List.set_cons_zero, List.set_cons_succ]
    refine wpAnyH_take (i := 16) (v := ?_) (by simp only [List.getElem?_toArray, List.getElem?_cons_succ, List.getElem?_cons_zero]; exact rfl) (by kernel_rfl) (by kernel_rfl) (by kernel_rfl) (by intro _ _ _ h; exact h) (Or.inl ⟨by rfl, fun W hSw => ?_⟩) hHeld ?_
    rotate_left
    focus ((try dsimp only at hSw); first | (go_simp; done) | (go_simp; with_reducible rfl))
    try simp only [Act.put, List.setIfInBounds_toArray, List.set_cons_zero, List.set_cons_succ]
    refine wpAnyH_take (i := 17) (v := ?_) (by simp only [List.getElem?_toArray, List.getElem?_cons_succ, List.getElem?_cons_zero]; exact rfl) (by kernel_rfl) (by kernel_rfl) (by kernel_rfl) (by intro _ _ _ h; exact h) (Or.inl ⟨by rfl, fun W hSw => ?_⟩) hHeld ?_
    rotate_left
    focus ((try dsimp only at hSw); first | (go_simp; done) | (go_simp; with_reducible rfl))
    try simp only [Act.put, List.setIfInBounds_toArray, List.set_cons_zero, List.set_cons_succ]
    refine wpAnyH_take (i := 18) (v := ?_) (by simp only [List.getElem?_toArray, List.getElem?_cons_succ, List.getElem?_cons_zero]; exact rfl) (by kernel_rfl) (by kernel_rfl) (by kernel_rfl) (by intro _ _ _ h; exact h) (Or.inl ⟨by rfl, fun W hSw => ?_⟩) hHeld ?_
    rotate_left
    focus ((try dsimp only at hSw); first | (go_simp; done) | (go_simp; with_reducible rfl))
    try simp only [Act.put, List.setIfInBounds_toArray, List.set_cons_zero, List.set_cons_succ]
    refine wpAnyH_take (i := 19) (v := ?_) (by simp only [List.getElem?_toArray, List.getElem?_cons_succ, List.getElem?_cons_zero]; exact rfl) (by kernel_rfl) (by kernel_rfl) (by kernel_rfl) (by intro _ _ _ h; exact h) (Or.inl ⟨by rfl, fun W hSw => ?_⟩) hHeld ?_
    rotate_left
    focus ((try dsimp only at hSw); first | (go_simp; done) | (go_simp; with_reducible rfl))
    try simp only [Act.put, List.setIfInBounds_toArray, List.set_cons_zero, List.set_cons_succ]
    refine wpAnyH_take (i := 20) (v := ?_) (by simp only [List.getElem?_toArray, List.getElem?_cons_succ, List.getElem?_cons_zero]; exact rfl) (by kernel_rfl) (by kernel_rfl) (by kernel_rfl) (by intro _ _ _ h; exact h) (Or.inl ⟨by rfl, fun W hSw => ?_⟩) hHeld ?_
    rotate_left
    focus ((try dsimp only at hSw); first | (go_simp; done) | (go_simp; with_reducible rfl))
    try simp only [Act.put, List.setIfInBounds_toArray, List.set_cons_zero, List.set_cons_succ]
    refine wpAnyH_take (i := 21) (v := ?_) (by simp only [List.getElem?_toArray, List.getElem?_cons_succ, List.getElem?_cons_zero]; exact rfl) (by kernel_rfl) (by kernel_rfl) (by kernel_rfl) (by intro _ _ _ h; exact h) (Or.inl ⟨by rfl, fun W hSw => ?_⟩) hHeld ?_
    rotate_left
    focus ((try dsimp only at hSw); first | (go_simp; done) | (go_simp; with_reducible rfl))
    try simp only [Act.put, List.setIfInBounds_toArray, List.set_cons_zero, List.set_cons_succ]
    refine wpAnyH_take (i := 22) (v := ?_) (by simp only [List.getElem?_toArray, List.getElem?_cons_succ, List.getElem?_cons_zero]; exact rfl) (by kernel_rfl) (by kernel_rfl) (by kernel_rfl) (by intro _ _ _ h; exact h) (Or.inl ⟨by rfl, fun W hSw => ?_⟩) hHeld ?_
    rotate_left
    focus ((try dsimp only at hSw); first | (go_simp; done) | (go_simp; with_reducible rfl))
    try simp only [Act.put, List.setIfInBounds_toArray, List.set_cons_zero, List.set_cons_succ]
    refine wpAnyH_take (i := 23) (v := ?_) (by simp only [List.getElem?_toArray, List.getElem?_cons_succ, List.getElem?_cons_zero]; exact rfl) (by kernel_rfl) (by kernel_rfl) (by kernel_rfl) (by intro _ _ _ h; exact h) (Or.inl ⟨by rfl, fun W hSw => ?_⟩) hHeld ?_
    rotate_left
    focus ((try dsimp only at hSw); first | (go_simp; done) | (go_simp; with_reducible rfl))
    try simp only [Act.put, List.setIfInBounds_toArray, List.set_cons_zero, List.set_cons_succ]
    refine wpAnyH_take (i := 24) (v := ?_) (by simp only [List.getElem?_toArray, List.getElem?_cons_succ, List.getElem?_cons_zero]; exact rfl) (by kernel_rfl) (by kernel_rfl) (by kernel_rfl) (by intro _ _ _ h; exact h) (Or.inl ⟨by rfl, fun W hSw => ?_⟩) hHeld ?_
    rotate_left
    focus ((try dsimp only at hSw); first | (go_simp; done) | (go_simp; with_reducible rfl))
    try simp only [Act.put, List.setIfInBounds_toArray, List.set_cons_zero, List.set_cons_succ]
    refine wpAnyH_take (i := 25) (v := ?_) (by simp only [List.getElem?_toArray, List.getElem?_cons_succ, List.getElem?_cons_zero]; exact rfl) (by kernel_rfl) (by kernel_rfl) (by kernel_rfl) (by intro _ _ _ h; exact h) (Or.inl ⟨by rfl, fun W hSw => ?_⟩) hHeld ?_
    rotate_left
    focus ((try dsimp only at hSw); first | (go_simp; done) | (go_simp; with_reducible rfl))
    try simp only [Act.put, List.setIfInBounds_toArray, List.set_cons_zero, List.set_cons_succ]
    refine wpAnyH_take (i := 26) (v := ?_) (by simp only [List.getElem?_toArray, List.getElem?_cons_succ, List.getElem?_cons_zero]; exact rfl) (by kernel_rfl) (by kernel_rfl) (by kernel_rfl) (by intro _ _ _ h; exact h) (Or.inl ⟨by rfl, fun W hSw => ?_⟩) hHeld ?_
    rotate_left
    focus ((try dsimp only at hSw); first | (go_simp; done) | (go_simp; with_reducible rfl))
    try simp only [Act.put, List.setIfInBounds_toArray, List.set_cons_zero, List.set_cons_succ]
    refine wpAnyH_take (i := 27) (v := ?_) (by simp only [List.getElem?_toArray, List.getElem?_cons_succ, List.getElem?_cons_zero]; exact rfl) (by kernel_rfl) (by kernel_rfl) (by kernel_rfl) (by intro _ _ _ h; exact h) (Or.inl ⟨by rfl, fun W hSw => ?_⟩) hHeld ?_
    rotate_left
    focus ((try dsimp only at hSw); first | (go_simp; done) | (go_simp; with_reducible rfl))
    try simp only [Act.put, List.setIfInBounds_toArray, List.set_cons_zero, List.set_cons_succ]
    refine wpAnyH_take (i := 28) (v := ?_) (by simp only [List.getElem?_toArray, List.getElem?_cons_succ, List.getElem?_cons_zero]; exact rfl) (by kernel_rfl) (by kernel_rfl) (by kernel_rfl) (by intro _ _ _ h; exact h) (Or.inl ⟨by rfl, fun W hSw => ?_⟩) hHeld ?_
    rotate_left
    focus ((try dsimp only at hSw); first | (go_simp; done) | (go_simp; with_reducible rfl))
    try simp only [Act.put, List.setIfInBounds_toArray, List.set_cons_zero, List.set_cons_succ]
    refine wpAnyH_take (i := 29) (v := ?_) (by simp only [List.getElem?_toArray, List.getElem?_cons_succ, List.getElem?_cons_zero]; exact rfl) (by kernel_rfl) (by kernel_rfl) (by kernel_rfl) (by intro _ _ _ h; exact h) (Or.inl ⟨by rfl, fun W hSw => ?_⟩) hHeld ?_
    rotate_left
    focus ((try dsimp only at hSw); first | (go_simp; done) | (go_simp; with_reducible rfl))
    try simp only [Act.put, List.setIfInBounds_toArray, List.set_cons_zero, List.set_cons_succ]
    refine wpAnyH_take (i := 30) (v := ?_) (by simp only [List.getElem?_toArray, List.getElem?_cons_succ, List.getElem?_cons_zero]; exact rfl) (by kernel_rfl) (by kernel_rfl) (by kernel_rfl) (by intro _ _ _ h; exact h) (Or.inl ⟨by rfl, fun W hSw => ?_⟩) hHeld ?_
    rotate_left
    focus ((try dsimp only at hSw); first | (go_simp; done) | (go_simp; with_reducible rfl))
    try simp only [Act.put, List.setIfInBounds_toArray, List.set_cons_zero, List.set_cons_succ]
    refine wpAnyH_take (i := 31) (v := ?_) (by simp only [List.getElem?_toArray, List.getElem?_cons_succ, List.getElem?_cons_zero]; exact rfl) (by kernel_rfl) (by kernel_rfl) (by kernel_rfl) (by intro _ _ _ h; exact h) (Or.inl ⟨by rfl, fun W hSw => ?_⟩) hHeld ?_
    rotate_left
    focus ((try dsimp only at hSw); first | (go_simp; done) | (go_simp; with_reducible rfl))
    try simp only [Act.put, List.setIfInBounds_toArray, List.set_cons_zero, List.set_cons_succ]
    refine wpAnyH_ready (rs := [32]) (by kernel_rfl) (by simp) (AllReadyH.cons (by simp only [List.getElem?_toArray, List.getElem?_cons_succ, List.getElem?_cons_zero]; exact rfl) (fun K hK => ?_) AllReadyH.nil)
    rw [if_pos (by rfl)]
    go_simp
    refine (KL.out _).mono ?_; rintro e wl ⟨rfl, rfl⟩; go_wp2_with fail
    refine hK.out _ _ (hHeld) (fun hHeld => ?_)
    clear hK K
    try simp only [Act.put, List.setIfInBounds_toArray, List.set_cons_zero, List.set_cons_succ]
    refine wpAnyH_take (i := 33) (v := ?_) (by simp only [List.getElem?_toArray, List.getElem?_cons_succ, List.getElem?_cons_zero]; exact rfl) (by kernel_rfl) (by kernel_rfl) (by kernel_rfl) (by intro _ _ _ h; exact h) (Or.inl ⟨by rfl, fun W hSw => ?_⟩) hHeld ?_
    rotate_left
    focus ((try dsimp only at hSw); first | (go_simp; done) | (go_simp; with_reducible rfl))
    try simp only [Act.put, List.setIfInBounds_toArray, List.set_cons_zero, List.set_cons_succ]
    refine wpAnyH_take (i := 34) (v := ?_) (by simp only [List.getElem?_toArray, List.getElem?_cons_succ, List.getElem?_cons_zero]; exact rfl) (by kernel_rfl) (by kernel_rfl) (by kernel_rfl) (by intro _ _ _ h; exact h) (Or.inl ⟨by rfl, fun W hSw => ?_⟩) hHeld ?_
    rotate_left
    focus ((try dsimp only at hSw); first | (go_simp; done) | (go_simp; with_reducible rfl))
    try simp only [Act.put, List.setIfInBounds_toArray, List.set_cons_zero, List.set_cons_succ]
    refine wpAnyH_take (i := 35) (v := ?_) (by simp only [List.getElem?_toArray, List.getElem?_cons_succ, List.getElem?_cons_zero]; exact rfl) (by kernel_rfl) (by kernel_rfl) (by kernel_rfl) (by intro _ _ _ h; exact h) (Or.inl ⟨by rfl, fun W hSw => ?_⟩) hHeld ?_
    rotate_left
    focus ((try dsimp only at hSw); first | (go_simp; done) | (go_simp; with_reducible rfl))
    try simp only [Act.put, List.setIfInBounds_toArray, List.set_cons_zero, List.set_cons_succ]
    refine wpAnyH_take (i := 36) (v := undef) (by simp only [List.getElem?_toArray, List.getElem?_cons_succ, List.getElem?_cons_zero]; exact rfl) (by kernel_rfl) (by kernel_rfl) (by kernel_rfl) (by intro _ _ _ h; exact h) (Or.inr ⟨by rfl, rfl⟩) hHeld ?_
    try simp only [Act.put, List.setIfInBounds_toArray, List.set_cons_zero, List.set_cons_succ]
    refine wpAnyH_take (i := 37) (v := undef) (by simp only [List.getElem?_toArray, List.getElem?_cons_succ, List.getElem?_cons_zero]; exact rfl) (by kernel_rfl) (by kernel_rfl) (by kernel_rfl) (by intro _ _ _ h; exact h) (Or.inr ⟨by rfl, rfl⟩) hHeld ?_
    try simp only [Act.put, List.setIfInBounds_toArray, List.set_cons_zero, List.set_cons_succ]
    refine wpAnyH_take (i := 38) (v := undef) (by simp only [List.getElem?_toArray, List.getElem?_cons_succ, List.getElem?_cons_zero]; exact rfl) (by kernel_rfl) (by kernel_rfl) (by kernel_rfl) (by intro _ _ _ h; exact h) (Or.inr ⟨by rfl, rfl⟩) hHeld ?_
    try simp only [Act.put, List.setIfInBounds_toArray, List.set_cons_zero, List.set_cons_succ]
    refine wpAnyH_take (i := 39) (v := undef) (by simp only [List.getElem?_toArray, List.getElem?_cons_succ, List.getElem?_cons_zero]; exact rfl) (by kernel_rfl) (by kernel_rfl) (by kernel_rfl) (by intro _ _ _ h; exact h) (Or.inr ⟨by rfl, rfl⟩) hHeld ?_
    try simp only [Act.put, List.setIfInBounds_toArray, List.set_cons_zero, List.set_cons_succ]
    refine wpAnyH_take (i := 40) (v := undef) (by simp only [List.getElem?_toArray, List.getElem?_cons_succ, List.getElem?_cons_zero]; exact rfl) (by kernel_rfl) (by kernel_rfl) (by kernel_rfl) (by intro _ _ _ h; exact h) (Or.inr ⟨by rfl, rfl⟩) hHeld ?_
    try simp only [Act.put, List.setIfInBounds_toArray, List.set_cons_zero, List.set_cons_succ]
    refine wpAnyH_take (i := 41) (v := ?_) (by simp only [List.getElem?_toArray, List.getElem?_cons_succ, List.getElem?_cons_zero]; exact rfl) (by kernel_rfl) (by kernel_rfl) (by kernel_rfl) (by intro _ _ _ h; exact h) (Or.inl ⟨by rfl, fun W hSw => ?_⟩) hHeld ?_
    rotate_left
    focus ((try dsimp only at hSw); first | (go_simp; done) | (go_simp; with_reducible rfl))
    try simp only [Act.put, List.setIfInBounds_toArray, List.set_cons_zero, List.set_cons_succ]
    refine wpAnyH_take (i := 42) (v := ?_) (by simp only [List.getElem?_toArray, List.getElem?_cons_succ, List.getElem?_cons_zero]; exact rfl) (by kernel_rfl) (by kernel_rfl) (by kernel_rfl) (by intro _ _ _ h; exact h) (Or.inl ⟨by rfl, fun W hSw => ?_⟩) hHeld ?_
    rotate_left
    focus ((try dsimp only at hSw); first | (go_simp; done) | (go_simp; with_reducible rfl))
    try simp only [Act.put, List.setIfInBounds_toArray, List.set_cons_zero, List.set_cons_succ]
    refine wpAnyH_take (i := 43) (v := undef) (by simp only [List.getElem?_toArray, List.getElem?_cons_succ, List.getElem?_cons_zero]; exact rfl) (by kernel_rfl) (by kernel_rfl) (by kernel_rfl) (by intro _ _ _ h; exact h) (Or.inr ⟨by rfl, rfl⟩) hHeld ?_
    try simp only [Act.put, List.setIfInBounds_toArray, List.set_cons_zero, List.set_cons_succ]
    refine wpAnyH_take (i := 44) (v := undef) (by simp only [List.getElem?_toArray, List.getElem?_cons_succ, List.getElem?_cons_zero]; exact rfl) (by kernel_rfl) (by kernel_rfl) (by kernel_rfl) (by intro _ _ _ h; exact h) (Or.inr ⟨by rfl, rfl⟩) hHeld ?_
    try simp only [Act.put, List.setIfInBounds_toArray, List.set_cons_zero, List.set_cons_succ]
    refine wpAnyH_take (i := 45) (v := undef) (by simp only [List.getElem?_toArray, List.getElem?_cons_succ, List.getElem?_cons_zero]; exact rfl) (by kernel_rfl) (by kernel_rfl) (by kernel_rfl) (by intro _ _ _ h; exact h) (Or.inr ⟨by rfl, rfl⟩) hHeld ?_
    try simp only [Act.put, List.setIfInBounds_toArray, List.set_cons_zero, List.set_cons_succ]
    refine wpAnyH_take (i := 46) (v := undef) (by simp only [List.getElem?_toArray, List.getElem?_cons_succ, List.getElem?_cons_zero]; exact rfl) (by kernel_rfl) (by kernel_rfl) (by kernel_rfl) (by intro _ _ _ h; exact h) (Or.inr ⟨by rfl, rfl⟩) hHeld ?_
    try simp only [Act.put, List.setIfInBounds_toArray, List.set_cons_zero, List.set_cons_succ]
    refine wpAnyH_take (i := 47) (v := undef) (by simp only [List.getElem?_toArray, List.getElem?_cons_succ, List.getElem?_cons_zero]; exact rfl) (by kernel_rfl) (by kernel_rfl) (by kernel_rfl) (by intro _ _ _ h; exact h) (Or.inr ⟨by rfl, rfl⟩) hHeld ?_
    try simp only [Act.put, List.setIfInBounds_toArray, List.set_cons_zero, List.set_cons_succ]
    refine wpAnyH_take (i := 48) (v := ?_) (by simp only [List.getElem?_toArray, List.getElem?_cons_succ, List.getElem?_cons_zero]; exact rfl) (by kernel_rfl) (by kernel_rfl) (by kernel_rfl) (by intro _ _ _ h; exact h) (Or.inl ⟨by rfl, fun W hSw => ?_⟩) hHeld ?_
    rotate_left
    focus ((try dsimp only at hSw); first | (go_simp; done) | (go_simp; with_reducible rfl))
    try simp only [Act.put, List.setIfInBounds_toArray, List.set_cons_zero, List.set_cons_succ]
    refine wpAnyH_take (i := 49) (v := ?_) (by simp only [List.getElem?_toArray, List.getElem?_cons_succ, List.getElem?_cons_zero]; exact rfl) (by kernel_rfl) (by kernel_rfl) (by kernel_rfl) (by intro _ _ _ h; exact h) (Or.inl ⟨by rfl, fun W hSw => ?_⟩) hHeld ?_
    rotate_left
    focus ((try dsimp only at hSw); first | (go_simp; done) | (go_simp; with_reducible rfl))
    try simp only [Act.put, List.setIfInBounds_toArray, List.set_cons_zero, List.set_cons_succ]
    refine wpAnyH_take (i := 50) (v := undef) (by simp only [List.getElem?_toArray, List.getElem?_cons_succ, List.getElem?_cons_zero]; exact rfl) (by kernel_rfl) (by kernel_rfl) (by kernel_rfl) (by intro _ _ _ h; exact h) (Or.inr ⟨by rfl, rfl⟩) hHeld ?_
    try simp only [Act.put, List.setIfInBounds_toArray, List.set_cons_zero, List.set_cons_succ]
    refine wpAnyH_take (i := 51) (v := undef) (by simp only [List.getElem?_toArray, List.getElem?_cons_succ, List.getElem?_cons_zero]; exact rfl) (by kernel_rfl) (by kernel_rfl) (by kernel_rfl) (by intro _ _ _ h; exact h) (Or.inr ⟨by rfl, rfl⟩) hHeld ?_
    try simp only [Act.put, List.setIfInBounds_toArray, List.set_cons_zero, List.set_cons_succ]
    refine wpAnyH_take (i := 52) (v := undef) (by simp only [List.getElem?_toArray, List.getElem?_cons_succ, List.getElem?_cons_zero]; exact rfl) (by kernel_rfl) (by kernel_rfl) (by kernel_rfl) (by intro _ _ _ h; exact h) (Or.inr ⟨by rfl, rfl⟩) hHeld ?_
    try simp only [Act.put, List.setIfInBounds_toArray, List.set_cons_zero, List.set_cons_succ]
    refine wpAnyH_take (i := 53) (v := undef) (by simp only [List.getElem?_toArray, List.getElem?_cons_succ, List.getElem?_cons_zero]; exact rfl) (by kernel_rfl) (by kernel_rfl) (by kernel_rfl) (by intro _ _ _ h; exact h) (Or.inr ⟨by rfl, rfl⟩) hHeld ?_
    try simp only [Act.put, List.setIfInBounds_toArray, List.set_cons_zero, List.set_cons_succ]
    refine wpAnyH_take (i := 54) (v := undef) (by simp only [List.getElem?_toArray, List.getElem?_cons_succ, List.getElem?_cons_zero]; exact rfl) (by kernel_rfl) (by kernel_rfl) (by kernel_rfl) (by intro _ _ _ h; exact h) (Or.inr ⟨by rfl, rfl⟩) hHeld ?_
    try simp only [Act.put, List.setIfInBounds_toArray, List.set_cons_zero, List.set_cons_succ]
    refine wpAnyH_take (i := 55) (v := ?_) (by simp only [List.getElem?_toArray, List.getElem?_cons_succ, List.getElem?_cons_zero]; exact rfl) (by kernel_rfl) (by kernel_rfl) (by kernel_rfl) (by intro _ _ _ h; exact h) (Or.inl ⟨by rfl, fun W hSw => ?_⟩) hHeld ?_
    rotate_left
    focus ((try dsimp only at hSw); first | (go_simp; done) | (go_simp; with_reducible rfl))
    try simp only [Act.put, List.setIfInBounds_toArray, List.set_cons_zero, List.set_cons_succ]
    refine wpAnyH_done (by kernel_rfl) ?_ _
    clear hHeld
    go_wp2
    go_ret2
    exact ⟨by rw [← HR.out]; rfl, HBT.out.drewN 1⟩
  have t4 : decide (m.day > dlong Y m.month) = false := by simpa using q4
  by_cases q5 : m.hour > 23
  · have hR2 : R = (0, false) := by rw [← HR0.out]; unfold dtick; rw [HY.out, if_pos (Or.inr (Or.inr (Or.inr (Or.inr (Or.inl q5)))))]
    have HR := Lib.hid hR2.symm
    clear hR2
    have t5 : decide (m.hour > 23) = true := by simpa using q5
    go_wp2
    refine wp_region_held_drew (S := (fun w' => w'.cell? ⟨mb, 1, none⟩ = some (.int .i64 m.day) ∧ w'.cell? ⟨mb, 2, none⟩ = some (.int .i64 m.month) ∧ w'.cell? ⟨mb, 3, none⟩ = some (.int .i64 Y) ∧ w'.cell? ⟨mb, 4, none⟩ = some (.int .i64 m.hour) ∧ w'.cell? ⟨mb, 5, none⟩ = some (.int .i64 m.minute) ∧ w'.cell? ⟨mb, 6, none⟩ = some (.int .i64 m.second))) (by kernel_rfl) (⟨c1, c2, c3, c4, c5, c6⟩) (fun hHeld => ?_)
    refine wpAnyH_take (i := 0) (v := ?_) (by simp only [List.getElem?_toArray, List.getElem?_cons_zero]; exact rfl) (by kernel_rfl) (by kernel_rfl) (by kernel_rfl) (by intro _ _ _ h; exact h) (Or.inl ⟨by rfl, fun W hSw => ?_⟩) hHeld ?_
    rotate_left
    focus ((try dsimp only at hSw); first | (go_simp; done) | (go_simp; with_reducible rfl))
    try simp only [Act.put, List.setIfInBounds_toArray, List.set_cons_zero, List.set_cons_succ]
    refine wpAnyH_take (i := 1) (v := ?_) (by simp only [List.getElem?_toArray, List.getElem?_cons_succ, List.getElem?_cons_zero]; exact rfl) (by kernel_rfl) (by kernel_rfl) (by kernel_rfl) (by intro _ _ _ h; exact h) (Or.inl ⟨by rfl, fun W hSw => ?_⟩) hHeld ?_
    rotate_left
    focus ((try dsimp only at hSw); first | (go_simp; done) | (go_simp; with_reducible rfl))
    try simp only [Act.put, List.setIfInBounds_toArray, List.set_cons_zero, List.set_cons_succ]
    refine wpAnyH_take (i := 2) (v := ?_) (by simp only [List.getElem?_toArray, List.getElem?_cons_succ, List.getElem?_cons_zero]; exact rfl) (by kernel_rfl) (by kernel_rfl) (by kernel_rfl) (by intro _ _ _ h; exact h) (Or.inl ⟨by rfl, fun W hSw => ?_⟩) hHeld ?_
    rotate_left
    focus ((try dsimp only at hSw); first | (go_simp; done) | (go_simp; with_reducible rfl))
    try simp only [Act.put, List.setIfInBounds_toArray, List.set_cons_zero, List.set_cons_succ]
    refine wpAnyH_take (i := 3) (v := ?_) (by simp only [List.getElem?_toArray, List.getElem?_cons_succ, List.getElem?_cons_zero]; exact rfl) (by kernel_rfl) (by kernel_rfl) (by kernel_rfl) (by intro _ _ _ h; exact h) (Or.inl ⟨by rfl, fun W hSw => ?_⟩) hHeld ?_
    rotate_left
    focus ((try dsimp only at hSw); first | (go_simp; done) | (go_simp; with_reducible rfl))
    try simp only [Act.put, List.setIfInBounds_toArray, List.set_cons_zero, List.set_cons_succ]
    refine wpAnyH_take (i := 4) (v := ?_) (by simp only [List.getElem?_toArray, List.getElem?_cons_succ, List.getElem?_cons_zero]; exact rfl) (by kernel_rfl) (by kernel_rfl) (by kernel_rfl) (by intro _ _ _ h; exact h) (Or.inl ⟨by rfl, fun W hSw => ?_⟩) hHeld ?_
    rotate_left
    focus ((try dsimp only at hSw); first | (go_simp; done) | (go_simp; with_reducible rfl))
    try simp only [Act.put, List.setIfInBounds_toArray, List.set_cons_zero, List.set_cons_succ]
    refine wpAnyH_take (i := 5) (v := ?_) (by simp only [List.getElem?_toArray, List.getElem?_cons_succ, List.getElem?_cons_zero]; exact rfl) (by kernel_rfl) (by kernel_rfl) (by kernel_rfl) (by intro _ _ _ h; exact h) (Or.inl ⟨by rfl, fun W hSw => ?_⟩) hHeld ?_
    rotate_left
    focus ((try dsimp only at hSw); first | (go_simp; done) | (go_simp; with_reducible rfl))
    try simp only [Act.put, List.setIfInBounds_toArray, List.set_cons_zero, List.set_cons_succ]
    refine wpAnyH_take (i := 6) (v := ?_) (by simp only [List.getElem?_toArray, List.getElem?_cons_succ, List.getElem?_cons_zero]; exact rfl) (by kernel_rfl) (by kernel_rfl) (by kernel_rfl) (by intro _ _ _ h; exact h) (Or.inl ⟨by rfl, fun W hSw => ?_⟩) hHeld ?_
    rotate_left
    focus ((try dsimp only at hSw); first | (go_simp; done) | (go_simp; with_reducible rfl))
    try simp only [Act.put, List.setIfInBounds_toArray, List.set_cons_zero, List.set_cons_succ]
    refine wpAnyH_take (i := 7) (v := ?_) (by simp only [List.getElem?_toArray, List.getElem?_cons_succ, List.getElem?_cons_zero]; exact rfl) (by kernel_rfl) (by kernel_rfl) (by kernel_rfl) (by intro _ _ _ h; exact h) (Or.inl ⟨by rfl, fun W hSw => ?_⟩) hHeld ?_
    rotate_left
    focus ((try dsimp only at hSw); first | (go_simp; done) | (go_simp; with_reducible rfl))
    try simp only [Act.put, List.setIfInBounds_toArray, List.set_cons_zero, List.set_cons_succ]
    refine wpAnyH_take (i := 8) (v := ?_) (by simp only [List.getElem?_toArray, List.getElem?_cons_succ, List.getElem?_cons_zero]; exact rfl) (by kernel_rfl) (by kernel_rfl) (by kernel_rfl) (by intro _ _ _ h; exact h) (Or.inl ⟨by rfl, fun W hSw => ?_⟩) hHeld ?_
    rotate_left
    focus ((try dsimp only at hSw); first | (go_simp; done) | (go_simp; with_reducible rfl))
    try simp only [Act.put, List.setIfInBounds_toArray, List.set_cons_zero, List.set_cons_succ]
    refine wpAnyH_take (i := 9) (v := ?_) (by simp only [List.getElem?_toArray, List.getElem?_cons_succ, List.getElem?_cons_zero]; exact rfl) (by kernel_rfl) (by kernel_rfl) (by kernel_rfl) (by intro _ _ _ h; exact h) (Or.inl ⟨by rfl, fun W hSw => ?_⟩) hHeld ?_
    rotate_left
    focus ((try dsimp only at hSw); first | (go_simp; done) | (go_simp; with_reducible rfl))
    try simp only [Act.put, List.setIfInBounds_toArray, List.set_cons_zero, List.set_cons_succ]
    refine wpAnyH_take (i := 10) (v := ?_) (by simp only [List.getElem?_toArray, List.getElem?_cons_succ, List.getElem?_cons_zero]; exact rfl) (by kernel_rfl) (by kernel_rfl) (by kernel_rfl) (by intro _ _ _ h; exact h) (Or.inl ⟨by rfl, fun W hSw => ?_⟩) hHeld ?_
    rotate_left
    focus ((try dsimp only at hSw); first | (go_simp; done) | (go_simp; with_reducible rfl))
    try simp only [Act.put, List.setIfInBounds_toArray, List.set_cons_zero, List.set_cons_succ]
    refine wpAnyH_take (i := 11) (v := ?_) (by simp only [List.getElem?_toArray, List.getElem?_cons_succ, List.getElem?_cons_zero]; exact rfl) (by kernel_rfl) (by kernel_rfl) (by kernel_rfl) (by intro _ _ _ h; exact h) (Or.inl ⟨by rfl, fun W hSw => ?_⟩) hHeld ?_
    rotate_left
    focus ((try dsimp only at hSw); first | (go_simp; done) | (go_simp; with_reducible rfl))
    try simp only [Act.put, List.setIfInBounds_toArray, List.set_cons_zero, List.set_cons_succ]
    refine wpAnyH_take (i := 12) (v := ?_) (by simp only [List.getElem?_toArray, List.getElem?_cons_succ, List.getElem?_cons_zero]; exact rfl) (by kernel_rfl) (by kernel_rfl) (by kernel_rfl) (by intro _ _ _ h; exact h) (Or.inl ⟨by rfl, fun W hSw => ?_⟩) hHeld ?_
    rotate_left
    focus ((try dsimp only at hSw); first | (go_simp; done) | (go_simp; with_reducible rfl))
    try simp only [Act.put, List.setIfInBounds_toArray, List.set_cons_zero, List.set_cons_succ]
    refine wpAnyH_take (i := 13) (v := ?_) (by simp only [List.getElem?_toArray, List.getElem?_cons_succ, List.getElem?_cons_zero]; exact rfl) (by kernel_rfl) (by kernel_rfl) (by kernel_rfl) (by intro _ _ _ h; exact h) (Or.inl ⟨by rfl, fun W hSw => ?_⟩) hHeld ?_
    rotate_left
    focus ((try dsimp only at hSw); first | (go_simp; done) | (go_simp; with_reducible rfl))
    try simp only [Act.put, List.setIfInBounds_toArray, List.set_cons_zero, List.set_cons_succ]
    refine wpAnyH_take (i := 14) (v := ?_) (by simp only [List.getElem?_toArray, List.getElem?_cons_succ, List.getElem?_cons_zero]; exact rfl) (by kernel_rfl) (by kernel_rfl) (by kernel_rfl) (by intro _ _ _ h; exact h) (Or.inl ⟨by rfl, fun W hSw => ?_⟩) hHeld ?_
    rotate_left
    focus ((try dsimp only at hSw); first | (go_simp; done) | (go_simp; with_reducible rfl))
    try simp only [Act.put, List.setIfInBounds_toArray, List.set_cons_zero, List.set_cons_succ]
    refine wpAnyH_take (i := 15) (v := ?_) (by simp only [List.getElem?_toArray, List.getElem?_cons_succ, List.getElem?_cons_zero]; exact rfl) (by kernel_rfl) (by kernel_rfl) (by kernel_rfl) (by intro _ _ _ h; exact h) (Or.inl ⟨by rfl, fun W hSw => ?_⟩) hHeld ?_
    rotate_left
    focus ((try dsimp only at hSw); first | (go_simp; done) | (go_simp; with_reducible rfl))
    try simp only [Act.put, List.setIfInBounds_toArray, List.set_cons_zero, List.set_cons_succ]
    refine wpAnyH_take (i := 16) (v := ?_) (by simp only [List.getElem?_toArray, List.getElem?_cons_succ, List.getElem?_cons_zero]; exact rfl) (by kernel_rfl) (by kernel_rfl) (by kernel_rfl) (by intro _ _ _ h; exact h) (Or.inl ⟨by rfl, fun W hSw => ?_⟩) hHeld ?_
    rotate_left
    focus ((try dsimp only at hSw); first | (go_simp; done) | (go_simp; with_reducible rfl))
    try simp only [Act.put, List.setIfInBounds_toArray, List.set_cons_zero, List.set_cons_succ]
    refine wpAnyH_take (i := 17) (v := ?_) (by simp only [List.getElem?_toArray, List.getElem?_cons_succ, List.getElem?_cons_zero]; exact rfl) (by kernel_rfl) (by kernel_rfl) (by kernel_rfl) (by intro _ _ _ h; exact h) (Or.inl ⟨by rfl, fun W hSw => ?_⟩) hHeld ?_
    rotate_left
    focus ((try dsimp only at hSw); first | (go_simp; done) | (go_simp; with_reducible rfl))
    try simp only [Act.put, List.setIfInBounds_toArray, List.set_cons_zero, List.set_cons_succ]
    refine wpAnyH_take (i := 18) (v := ?_) (by simp only [List.getElem?_toArray, List.getElem?_cons_succ, List.getElem?_cons_zero]; exact rfl) (by kernel_rfl) (by kernel_rfl) (by kernel_rfl) (by intro _ _ _ h; exact h) (Or.inl ⟨by rfl, fun W hSw => ?_⟩) hHeld ?_
    rotate_left
    focus ((try dsimp only at hSw); first | (go_simp; done) | (go_simp; with_reducible rfl))
    try simp only [Act.put, List.setIfInBounds_toArray, List.set_cons_zero, List.set_cons_succ]
    refine wpAnyH_take (i := 19) (v := ?_) (by simp only [List.getElem?_toArray, List.getElem?_cons_succ, List.getElem?_cons_zero]; exact rfl) (by kernel_rfl) (by kernel_rfl) (by kernel_rfl) (by intro _ _ _ h; exact h) (Or.inl ⟨by rfl, fun W hSw => ?_⟩) hHeld ?_
    rotate_left
    focus ((try dsimp only at hSw); first | (go_simp; done) | (go_simp; with_reducible rfl))
    try simp only [Act.put, List.setIfInBounds_toArray, List.set_cons_zero, List.set_cons_succ]
    refine wpAnyH_take (i := 20) (v := ?_) (by simp only [List.getElem?_toArray, List.getElem?_cons_succ, List.getElem?_cons_zero]; exact rfl) (by kernel_rfl) (by kernel_rfl) (by kernel_rfl) (by intro _ _ _ h; exact h) (Or.inl ⟨by rfl, fun W hSw => ?_⟩) hHeld ?_
    rotate_left
    focus ((try dsimp only at hSw); first | (go_simp; done) | (go_simp; with_reducible rfl))
    try simp only [Act.put, List.setIfInBounds_toArray, List.set_cons_zero, List.set_cons_succ]
    refine wpAnyH_take (i := 21) (v := ?_) (by simp only [List.getElem?_toArray, List.getElem?_cons_succ, List.getElem?_cons_zero]; exact rfl) (by kernel_rfl) (by kernel_rfl) (by kernel_rfl) (by intro _ _ _ h; exact h) (Or.inl ⟨by rfl, fun W hSw => ?_⟩) hHeld ?_
    rotate_left
    focus ((try dsimp only at hSw); first | (go_simp; done) | (go_simp; with_reducible rfl))
    try simp only [Act.put, List.setIfInBounds_toArray, List.set_cons_zero, List.set_cons_succ]
    refine wpAnyH_take (i := 22) (v := ?_) (by simp only [List.getElem?_toArray, List.getElem?_cons_succ, List.getElem?_cons_zero]; exact rfl) (by kernel_rfl) (by kernel_rfl) (by kernel_rfl) (by intro _ _ _ h; exact h) (Or.inl ⟨by rfl, fun W hSw => ?_⟩) hHeld ?_
    rotate_left
    focus ((try dsimp only at hSw); first | (go_simp; done) | (go_simp; with_reducible rfl))
    try simp only [Act.put, List.setIfInBounds_toArray, List.set_cons_zero, List.set_cons_succ]
    refine wpAnyH_take (i := 23) (v := ?_) (by simp only [List.getElem?_toArray, List.getElem?_cons_succ, List.getElem?_cons_zero]; exact rfl) (by kernel_rfl) (by kernel_rfl) (by kernel_rfl) (by intro _ _ _ h; exact h) (Or.inl ⟨by rfl, fun W hSw => ?_⟩) hHeld ?_
    rotate_left
    focus ((try dsimp only at hSw); first | (go_simp; done) | (go_simp; with_reducible rfl))
    try simp only [Act.put, List.setIfInBounds_toArray, List.set_cons_zero, List.set_cons_succ]
    refine wpAnyH_take (i := 24) (v := ?_) (by simp only [List.getElem?_toArray, List.getElem?_cons_succ, List.getElem?_cons_zero]; exact rfl) (by kernel_rfl) (by kernel_rfl) (by kernel_rfl) (by intro _ _ _ h; exact h) (Or.inl ⟨by rfl, fun W hSw => ?_⟩) hHeld ?_
    rotate_left
    focus ((try dsimp only at hSw); first | (go_simp; done) | (go_simp; with_reducible rfl))
    try simp only [Act.put, List.setIfInBounds_toArray, List.set_cons_zero, List.set_cons_succ]
    refine wpAnyH_take (i := 25) (v := ?_) (by simp only [List.getElem?_toArray, List.getElem?_cons_succ, List.getElem?_cons_zero]; exact rfl) (by kernel_rfl) (by kernel_rfl) (by kernel_rfl) (by intro _ _ _ h; exact h) (Or.inl ⟨by rfl, fun W hSw => ?_⟩) hHeld ?_
    rotate_left
    focus ((try dsimp only at hSw); first | (go_simp; done) | (go_simp; with_reducible rfl))
    try simp only [Act.put, List.setIfInBounds_toArray, List.set_cons_zero, List.set_cons_succ]
    refine wpAnyH_take (i := 26) (v := ?_) (by simp only [List.getElem?_toArray, List.getElem?_cons_succ, List.getElem?_cons_zero]; exact rfl) (by kernel_rfl) (by kernel_rfl) (by kernel_rfl) (by intro _ _ _ h; exact h) (Or.inl ⟨by rfl, fun W hSw => ?_⟩) hHeld ?_
    rotate_left
    focus ((try dsimp only at hSw); first | (go_simp; done) | (go_simp; with_reducible rfl))
    try simp only [Act.put, List.setIfInBounds_toArray, List.set_cons_zero, List.set_cons_succ]
    refine wpAnyH_take (i := 27) (v := ?_) (by simp only [List.getElem?_toArray, List.getElem?_cons_succ, List.getElem?_cons_zero]; exact rfl) (by kernel_rfl) (by kernel_rfl) (by kernel_rfl) (by intro _ _ _ h; exact h) (Or.inl ⟨by rfl, fun W hSw => ?_⟩) hHeld ?_
    rotate_left
    focus ((try dsimp only at hSw); first | (go_simp; done) | (go_simp; with_reducible rfl))
    try simp only [Act.put, List.setIfInBounds_toArray, List.set_cons_zero, List.set_cons_succ]
    refine wpAnyH_take (i := 28) (v := ?_) (by simp only [List.getElem?_toArray, List.getElem?_cons_succ, List.getElem?_cons_zero]; exact rfl) (by kernel_rfl) (by kernel_rfl) (by kernel_rfl) (by intro _ _ _ h; exact h) (Or.inl ⟨by rfl, fun W hSw => ?_⟩) hHeld ?_
    rotate_left
    focus ((try dsimp only at hSw); first | (go_simp; done) | (go_simp; with_reducible rfl))
    try simp only [Act.put, List.setIfInBounds_toArray, List.set_cons_zero, List.set_cons_succ]
    refine wpAnyH_take (i := 29) (v := ?_) (by simp only [List.getElem?_toArray, List.getElem?_cons_succ, List.getElem?_cons_zero]; exact rfl) (by kernel_rfl) (by kernel_rfl) (by kernel_rfl) (by intro _ _ _ h; exact h) (Or.inl ⟨by rfl, fun W hSw => ?_⟩) hHeld ?_
    rotate_left
    focus ((try dsimp only at hSw); first | (go_simp; done) | (go_simp; with_reducible rfl))
    try simp only [Act.put, List.setIfInBounds_toArray, List.set_cons_zero, List.set_cons_succ]
    refine wpAnyH_take (i := 30) (v := ?_) (by simp only [List.getElem?_toArray, List.getElem?_cons_succ, List.getElem?_cons_zero]; exact rfl) (by kernel_rfl) (by kernel_rfl) (by kernel_rfl) (by intro _ _ _ h; exact h) (Or.inl ⟨by rfl, fun W hSw => ?_⟩) hHeld ?_
    rotate_left
    focus ((try dsimp only at hSw); first | (go_simp; done) | (go_simp; with_reducible rfl))
    try simp only [Act.put, List.setIfInBounds_toArray, List.set_cons_zero, List.set_cons_succ]
    refine wpAnyH_take (i := 31) (v := ?_) (by simp only [List.getElem?_toArray, List.getElem?_cons_succ, List.getElem?_cons_zero]; exact rfl) (by kernel_rfl) (by kernel_rfl) (by kernel_rfl) (by intro _ _ _ h; exact h) (Or.inl ⟨by rfl, fun W hSw => ?_⟩) hHeld ?_
    rotate_left
    focus ((try dsimp only at hSw); first | (go_simp; done) | (go_simp; with_reducible rfl))
    try simp only [Act.put, List.setIfInBounds_toArray, List.set_cons_zero, List.set_cons_succ]
    refine wpAnyH_ready (rs := [32]) (by kernel_rfl) (by simp) (AllReadyH.cons (by simp only [List.getElem?_toArray, List.getElem?_cons_succ, List.getElem?_cons_zero]; exact rfl) (fun K hK => ?_) AllReadyH.nil)
    rw [if_pos (by rfl)]
    go_simp
    refine (KL.out _).mono ?_; rintro e wl ⟨rfl, rfl⟩; go_wp2_with fail
    refine hK.out _ _ (hHeld) (fun hHeld => ?_)
    clear hK K
    try simp only [Act.put, List.setIfInBounds_toArray, List.set_cons_zero, List.set_cons_succ]
    refine wpAnyH_take (i := 33) (v := ?_) (by simp only [List.getElem?_toArray, List.getElem?_cons_succ, List.getElem?_cons_zero]; exact rfl) (by kernel_rfl) (by kernel_rfl) (by kernel_rfl) (by intro _ _ _ h; exact h) (Or.inl ⟨by rfl, fun W hSw => ?_⟩) hHeld ?_
    rotate_left
    focus ((try dsimp only at hSw); first | (go_simp; done) | (go_simp; with_reducible rfl))
    try simp only [Act.put, List.setIfInBounds_toArray, List.set_cons_zero, List.set_cons_succ]
    refine wpAnyH_take (i := 34) (v := ?_) (by simp only [List.getElem?_toArray, List.getElem?_cons_succ, List.getElem?_cons_zero]; exact rfl) (by kernel_rfl) (by kernel_rfl) (by kernel_rfl) (by intro _ _ _ h; exact h) (Or.inl ⟨by rfl, fun W hSw => ?_⟩) hHeld ?_
    rotate_left
    focus ((try dsimp only at hSw); first | (go_simp; done) | (go_simp; with_reducible rfl))
    try simp only [Act.put, List.setIfInBounds_toArray, List.set_cons_zero, List.set_cons_succ]
    refine wpAnyH_take (i := 35) (v := ?_) (by simp only [List.getElem?_toArray, List.getElem?_cons_succ, List.getElem?_cons_zero]; exact rfl) (by kernel_rfl) (by kernel_rfl) (by kernel_rfl) (by intro _ _ _ h; exact h) (Or.inl ⟨by rfl, fun W hSw => ?_⟩) hHeld ?_
    rotate_left
    focus ((try dsimp only at hSw); first | (go_simp; done) | (go_simp; with_reducible rfl))
    try simp only [Act.put, List.setIfInBounds_toArray, List.set_cons_zero, List.set_cons_succ]
    refine wpAnyH_take (i := 36) (v := ?_) (by simp only [List.getElem?_toArray, List.getElem?_cons_succ, List.getElem?_cons_zero]; exact rfl) (by kernel_rfl) (by kernel_rfl) (by kernel_rfl) (by intro _ _ _ h; exact h) (Or.inl ⟨by rfl, fun W hSw => ?_⟩) hHeld ?_
    rotate_left
    focus ((try dsimp only at hSw); first | (go_simp; done) | (go_simp; with_reducible rfl))
    try simp only [Act.put, List.setIfInBounds_toArray, List.set_cons_zero, List.set_cons_succ]
    refine wpAnyH_take (i := 37) (v := ?_) (by simp only [List.getElem?_toArray, List.getElem?_cons_succ, List.getElem?_cons_zero]; exact rfl) (by kernel_rfl) (by kernel_rfl) (by kernel_rfl) (by intro _ _ _ h; exact h) (Or.inl ⟨by rfl, fun W hSw => ?_⟩) hHeld ?_
    rotate_left
    focus ((try dsimp only at hSw); first | (go_simp; done) | (go_simp; with_reducible rfl))
    try simp only [Act.put, List.setIfInBounds_toArray, List.set_cons_zero, List.set_cons_succ]
    refine wpAnyH_take (i := 38) (v := ?_) (by simp only [List.getElem?_toArray, List.getElem?_cons_succ, List.getElem?_cons_zero]; exact rfl) (by kernel_rfl) (by kernel_rfl) (by kernel_rfl) (by intro _ _ _ h; exact h) (Or.inl ⟨by rfl, fun W hSw => ?_⟩) hHeld ?_
    rotate_left
    focus ((try dsimp only at hSw); first | (go_simp; done) | (go_simp; with_reducible rfl))
    try simp only [Act.put, List.setIfInBounds_toArray, List.set_cons_zero, List.set_cons_succ]
    refine wpAnyH_take (i := 39) (v := ?_) (by simp only [List.getElem?_toArray, List.getElem?_cons_succ, List.getElem?_cons_zero]; exact rfl) (by kernel_rfl) (by kernel_rfl) (by kernel_rfl) (by intro _ _ _ h; exact h) (Or.inl ⟨by rfl, fun W hSw => ?_⟩) hHeld ?_
    rotate_left
    focus ((try dsimp only at hSw); first | (go_simp; done) | (go_simp; with_reducible rfl))
    try simp only [Act.put, List.setIfInBounds_toArray, List.set_cons_zero, List.set_cons_succ]
    refine wpAnyH_take (i := 40) (v := ?_) (by simp only [List.getElem?_toArray, List.getElem?_cons_succ, List.getElem?_cons_zero]; exact rfl) (by kernel_rfl) (by kernel_rfl) (by kernel_rfl) (by intro _ _ _ h; exact h) (Or.inl ⟨by rfl, fun W hSw => ?_⟩) hHeld ?_
    rotate_left
    focus ((try dsimp only at hSw); first | (go_simp; done) | (go_simp; with_reducible rfl))
    try simp only [Act.put, List.setIfInBounds_toArray, List.set_cons_zero, List.set_cons_succ]
    refine wpAnyH_take (i := 41) (v := ?_) (by simp only [List.getElem?_toArray, List.getElem?_cons_succ, List.getElem?_cons_zero]; exact rfl) (by kernel_rfl) (by kernel_rfl) (by kernel_rfl) (by intro _ _ _ h; exact h) (Or.inl ⟨by rfl, fun W hSw => ?_⟩) hHeld ?_
    rotate_left
    focus ((try dsimp only at hSw); first | (go_simp; done) | (go_simp; with_reducible rfl))
    try simp only [Act.put, List.setIfInBounds_toArray, List.set_cons_zero, List.set_cons_succ]
    refine wpAnyH_take (i := 42) (v := ?_) (by simp only [List.getElem?_toArray, List.getElem?_cons_succ, List.getElem?_cons_zero]; exact rfl) (by kernel_rfl) (by kernel_rfl) (by kernel_rfl) (by intro _ _ _ h; exact h) (Or.inl ⟨by rfl, fun W hSw => ?_⟩) hHeld ?_
    rotate_left
    focus ((try dsimp only at hSw); first | (go_simp; done) | (go_simp; with_reducible rfl))
    try simp only [Act.put, List.setIfInBounds_toArray, List.set_cons_zero, List.set_cons_succ]
    refine wpAnyH_take (i := 43) (v := undef) (by simp only [List.getElem?_toArray, List.getElem?_cons_succ, List.getElem?_cons_zero]; exact rfl) (by kernel_rfl) (by kernel_rfl) (by kernel_rfl) (by intro _ _ _ h; exact h) (Or.inr ⟨by rfl, rfl⟩) hHeld ?_
    try simp only [Act.put, List.setIfInBounds_toArray, List.set_cons_zero, List.set_cons_succ]
    refine wpAnyH_take (i := 44) (v := undef) (by simp only [List.getElem?_toArray, List.getElem?_cons_succ, List.getElem?_cons_zero]; exact rfl) (by kernel_rfl) (by kernel_rfl) (by kernel_rfl) (by intro _ _ _ h; exact h) (Or.inr ⟨by rfl, rfl⟩) hHeld ?_
    try simp only [Act.put, List.setIfInBounds_toArray, List.set_cons_zero, List.set_cons_succ]
    refine wpAnyH_take (i := 45) (v := undef) (by simp only [List.getElem?_toArray, List.getElem?_cons_succ, List.getElem?_cons_zero]; exact rfl) (by kernel_rfl) (by kernel_rfl) (by kernel_rfl) (by intro _ _ _ h; exact h) (Or.inr ⟨by rfl, rfl⟩) hHeld ?_
    try simp only [Act.put, List.setIfInBounds_toArray, List.set_cons_zero, List.set_cons_succ]
    refine wpAnyH_take (i := 46) (v := undef) (by simp only [List.getElem?_toArray, List.getElem?_cons_succ, List.getElem?_cons_zero]; exact rfl) (by kernel_rfl) (by kernel_rfl) (by kernel_rfl) (by intro _ _ _ h; exact h) (Or.inr ⟨by rfl, rfl⟩) hHeld ?_
    try simp only [Act.put, List.setIfInBounds_toArray, List.set_cons_zero, List.set_cons_succ]
    refine wpAnyH_take (i := 47) (v := undef) (by simp only [List.getElem?_toArray, List.getElem?_cons_succ, List.getElem?_cons_zero]; exact rfl) (by kernel_rfl) (by kernel_rfl) (by kernel_rfl) (by intro _ _ _ h; exact h) (Or.inr ⟨by rfl, rfl⟩) hHeld ?_
    try simp only [Act.put, List.setIfInBounds_toArray, List.set_cons_zero, List.set_cons_succ]
    refine wpAnyH_take (i := 48) (v := ?_) (by simp only [List.getElem?_toArray, List.getElem?_cons_succ, List.getElem?_cons_zero]; exact rfl) (by kernel_rfl) (by kernel_rfl) (by kernel_rfl) (by intro _ _ _ h; exact h) (Or.inl ⟨by rfl, fun W hSw => ?_⟩) hHeld ?_
    rotate_left
    focus ((try dsimp only at hSw); first | (go_simp; done) | (go_simp; with_reducible rfl))
    try simp only [Act.put, List.setIfInBounds_toArray, List.set_cons_zero, List.set_cons_succ]
    refine wpAnyH_take (i := 49) (v := ?_) (by simp only [List.getElem?_toArray, List.getElem?_cons_succ, List.getElem?_cons_zero]; exact rfl) (by kernel_rfl) (by kernel_rfl) (by kernel_rfl) (by intro _ _ _ h; exact h) (Or.inl ⟨by rfl, fun W hSw => ?_⟩) hHeld ?_
    rotate_left
    focus ((try dsimp only at hSw); first | (go_simp; done) | (go_simp; with_reducible rfl))
    try simp only [Act.put, List.setIfInBounds_toArray, List.set_cons_zero, List.set_cons_succ]
    refine wpAnyH_take (i := 50) (v := undef) (by simp only [List.getElem?_toArray, List.getElem?_cons_succ, List.getElem?_cons_zero]; exact rfl) (by kernel_rfl) (by kernel_rfl) (by kernel_rfl) (by intro _ _ _ h; exact h) (Or.inr ⟨by rfl, rfl⟩) hHeld ?_
    try simp only [Act.put, List.setIfInBounds_toArray, List.set_cons_zero, List.set_cons_succ]
    refine wpAnyH_take (i := 51) (v := undef) (by simp only [List.getElem?_toArray, List.getElem?_cons_succ, List.getElem?_cons_zero]; exact rfl) (by kernel_rfl) (by kernel_rfl) (by kernel_rfl) (by intro _ _ _ h; exact h) (Or.inr ⟨by rfl, rfl⟩) hHeld ?_
    try simp only [Act.put, List.setIfInBounds_toArray, List.set_cons_zero, List.set_cons_succ]
    refine wpAnyH_take (i := 52) (v := undef) (by simp only [List.getElem?_toArray, List.getElem?_cons_succ, List.getElem?_cons_zero]; exact rfl) (by kernel_rfl) (by kernel_rfl) (by kernel_rfl) (by intro _ _ _ h; exact h) (Or.inr ⟨by rfl, rfl⟩) hHeld ?_
    try simp only [Act.put, List.setIfInBounds_toArray, List.set_cons_zero, List.set_cons_succ]
    refine wpAnyH_take (i := 53) (v := undef) (by simp only [List.getElem?_toArray, List.getElem?_cons_succ, List.getElem?_cons_zero]; exact rfl) (by kernel_rfl) (by kernel_rfl) (by kernel_rfl) (by intro _ _ _ h; exact h) (Or.inr ⟨by rfl, rfl⟩) hHeld ?_
    try simp only [Act.put, List.setIfInBounds_toArray, List.set_cons_zero, List.set_cons_succ]
    refine wpAnyH_take (i := 54) (v := undef) (by simp only [List.getElem?_toArray, List.getElem?_cons_succ, List.getElem?_cons_zero]; exact rfl) (by kernel_rfl) (by kernel_rfl) (by kernel_rfl) (by intro _ _ _ h; exact h) (Or.inr ⟨by rfl, rfl⟩) hHeld ?_
    try simp only [Act.put, List.setIfInBounds_toArray, List.set_cons_zero, List.set_cons_succ]
    refine wpAnyH_take (i := 55) (v := ?_) (by simp only [List.getElem?_toArray, List.getElem?_cons_succ, List.getElem?_cons_zero]; exact rfl) (by kernel_rfl) (by kernel_rfl) (by kernel_rfl) (by intro _ _ _ h; exact h) (Or.inl ⟨by rfl, fun W hSw => ?_⟩) hHeld ?_
    rotate_left
    focus ((try dsimp only at hSw); first | (go_simp; done) | (go_simp; with_reducible rfl))
    try simp only [Act.put, List.setIfInBounds_toArray, List.set_cons_zero, List.set_cons_succ]
    refine wpAnyH_done (by kernel_rfl) ?_ _
    clear hHeld
    go_wp2
    go_ret2
    exact ⟨by rw [← HR.out]; rfl, HBT.out.drewN 1⟩
  have t5 : decide (m.hour > 23) = false := by simpa using q5
  by_cases q6 : m.minute > 59
  · have hR2 : R = (0, false) := by rw [← HR0.out]; unfold dtick; rw [HY.out, if_pos (Or.inr (Or.inr (Or.inr (Or.inr (Or.inr (Or.inl q6))))))]
    have HR := Lib.hid hR2.symm
    clear hR2
    have t6 : decide (m.minute > 59) = true := by simpa using q6
    go_wp2
    refine wp_region_held_drew (S := (fun w' => w'.cell? ⟨mb, 1, none⟩ = some (.int .i64 m.day) ∧ w'.cell? ⟨mb, 2, none⟩ = some (.int .i64 m.month) ∧ w'.cell? ⟨mb, 3, none⟩ = some (.int .i64 Y) ∧ w'.cell? ⟨mb, 4, none⟩ = some (.int .i64 m.hour) ∧ w'.cell? ⟨mb, 5, none⟩ = some (.int .i64 m.minute) ∧ w'.cell? ⟨mb, 6, none⟩ = some (.int .i64 m.second))) (by kernel_rfl) (⟨c1, c2, c3, c4, c5, c6⟩) (fun hHeld => ?_)
    refine wpAnyH_take (i := 0) (v := ?_) (by simp only [List.getElem?_toArray, List.getElem?_cons_zero]; exact rfl) (by kernel_rfl) (by kernel_rfl) (by kernel_rfl) (by intro _ _ _ h; exact h) (Or.inl ⟨by rfl, fun W hSw => ?_⟩) hHeld ?_
    rotate_left
    focus ((try dsimp only at hSw); first | (go_simp; done) | (go_simp; with_reducible rfl))
    try simp only [Act.put, List.setIfInBounds_toArray, List.set_cons_zero, List.set_cons_succ]
    refine wpAnyH_take (i := 1) (v := ?_) (by simp only [List.getElem?_toArray, List.getElem?_cons_succ, List.getElem?_cons_zero]; exact rfl) (by kernel_rfl) (by kernel_rfl) (by kernel_rfl) (by intro _ _ _ h; exact h) (Or.inl ⟨by rfl, fun W hSw => ?_⟩) hHeld ?_
    rotate_left
    focus ((try dsimp only at hSw); first | (go_simp; done) | (go_simp; with_reducible rfl))
    try simp only [Act.put, List.setIfInBounds_toArray, List.set_cons_zero, List.set_cons_succ]
    refine wpAnyH_take (i := 2) (v := ?_) (by simp only [List.getElem?_toArray, List.getElem?_cons_succ, List.getElem?_cons_zero]; exact rfl) (by kernel_rfl) (by kernel_rfl) (by kernel_rfl) (by intro _ _ _ h; exact h) (Or.inl ⟨by rfl, fun W hSw => ?_⟩) hHeld ?_
    rotate_left
    focus ((try dsimp only at hSw); first | (go_simp; done) | (go_simp; with_reducible rfl))
    try simp only [Act.put, List.setIfInBounds_toArray, List.set_cons_zero, List.set_cons_succ]
    refine wpAnyH_take (i := 3) (v := ?_) (by simp only [List.getElem?_toArray, List.getElem?_cons_succ, List.getElem?_cons_zero]; exact rfl) (by kernel_rfl) (by kernel_rfl) (by kernel_rfl) (by intro _ _ _ h; exact h) (Or.inl ⟨by rfl, fun W hSw => ?_⟩) hHeld ?_
    rotate_left
    focus ((try dsimp only at hSw); first | (go_simp; done) | (go_simp; with_reducible rfl))
    try simp only [Act.put, List.setIfInBounds_toArray, List.set_cons_zero, List.set_cons_succ]
    refine wpAnyH_take (i := 4) (v := ?_) (by simp only [List.getElem?_toArray, List.getElem?_cons_succ, List.getElem?_cons_zero]; exact rfl) (by kernel_rfl) (by kernel_rfl) (by kernel_rfl) (by intro _ _ _ h; exact h) (Or.inl ⟨by rfl, fun W hSw => ?_⟩) hHeld ?_
    rotate_left
    focus ((try dsimp only at hSw); first | (go_simp; done) | (go_simp; with_reducible rfl))
    try simp only [Act.put, List.setIfInBounds_toArray, List.set_cons_zero, List.set_cons_succ]
    refine wpAnyH_take (i := 5) (v := ?_) (by simp only [List.getElem?_toArray, List.getElem?_cons_succ, List.getElem?_cons_zero]; exact rfl) (by kernel_rfl) (by kernel_rfl) (by kernel_rfl) (by intro _ _ _ h; exact h) (Or.inl ⟨by rfl, fun W hSw => ?_⟩) hHeld ?_
    rotate_left
    focus ((try dsimp only at hSw); first | (go_simp; done) | (go_simp; with_reducible rfl))
    try simp only [Act.put, List.setIfInBounds_toArray, List.set_cons_zero, List.set_cons_succ]
    refine wpAnyH_take (i := 6) (v := ?_) (by simp only [List.getElem?_toArray, List.getElem?_cons_succ, List.getElem?_cons_zero]; exact rfl) (by kernel_rfl) (by kernel_rfl) (by kernel_rfl) (by intro _ _ _ h; exact h) (Or.inl ⟨by rfl, fun W hSw => ?_⟩) hHeld ?_
    rotate_left
    focus ((try dsimp only at hSw); first | (go_simp; done) | (go_simp; with_reducible rfl))
    try simp only [Act.put, List.setIfInBounds_toArray, List.set_cons_zero, List.set_cons_succ]
    refine wpAnyH_take (i := 7) (v := ?_) (by simp only [List.getElem?_toArray, List.getElem?_cons_succ, List.getElem?_cons_zero]; exact rfl) (by kernel_rfl) (by kernel_rfl) (by kernel_rfl) (by intro _ _ _ h; exact h) (Or.inl ⟨by rfl, fun W hSw => ?_⟩) hHeld ?_
    rotate_left
    focus ((try dsimp only at hSw); first | (go_simp; done) | (go_simp; with_reducible rfl))
    try simp only [Act.put, List.setIfInBounds_toArray, List.set_cons_zero, List.set_cons_succ]
    refine wpAnyH_take (i := 8) (v := ?_) (by simp only [List.getElem?_toArray, List.getElem?_cons_succ, List.getElem?_cons_zero]; exact rfl) (by kernel_rfl) (by kernel_rfl) (by kernel_rfl) (by intro _ _ _ h; exact h) (Or.inl ⟨by rfl, fun W hSw => ?_⟩) hHeld ?_
    rotate_left
    focus ((try dsimp only at hSw); first | (go_simp; done) | (go_simp; with_reducible rfl))
    try simp only [Act.put, List.setIfInBounds_toArray, List.set_cons_zero, List.set_cons_succ]
    refine wpAnyH_take (i := 9) (v := ?_) (by simp only [List.getElem?_toArray, List.getElem?_cons_succ, List.getElem?_cons_zero]; exact rfl) (by kernel_rfl) (by kernel_rfl) (by kernel_rfl) (by intro _ _ _ h; exact h) (Or.inl ⟨by rfl, fun W hSw => ?_⟩) hHeld ?_
    rotate_left
    focus ((try dsimp only at hSw); first | (go_simp; done) | (go_simp; with_reducible rfl))
    try simp only [Act.put, List.setIfInBounds_toArray, List.set_cons_zero, List.set_cons_succ]
    refine wpAnyH_take (i := 10) (v := ?_) (by simp only [List.getElem?_toArray, List.getElem?_cons_succ, List.getElem?_cons_zero]; exact rfl) (by kernel_rfl) (by kernel_rfl) (by kernel_rfl) (by intro _ _ _ h; exact h) (Or.inl ⟨by rfl, fun W hSw => ?_⟩) hHeld ?_
    rotate_left
    focus ((try dsimp only at hSw); first | (go_simp; done) | (go_simp; with_reducible rfl))
    try simp only [Act.put, List.setIfInBounds_toArray, List.set_cons_zero, List.set_cons_succ]
    refine wpAnyH_take (i := 11) (v := ?_) (by simp only [List.getElem?_toArray, List.getElem?_cons_succ, List.getElem?_cons_zero]; exact rfl) (by kernel_rfl) (by kernel_rfl) (by kernel_rfl) (by intro _ _ _ h; exact h) (Or.inl ⟨by rfl, fun W hSw => ?_⟩) hHeld ?_
    rotate_left
    focus ((try dsimp only at hSw); first | (go_simp; done) | (go_simp; with_reducible rfl))
    try simp only [Act.put, List.setIfInBounds_toArray, List.set_cons_zero, List.set_cons_succ]
    refine wpAnyH_take (i := 12) (v := ?_) (by simp only [List.getElem?_toArray, List.getElem?_cons_succ, List.getElem?_cons_zero]; exact rfl) (by kernel_rfl) (by kernel_rfl) (by kernel_rfl) (by intro _ _ _ h; exact h) (Or.inl ⟨by rfl, fun W hSw => ?_⟩) hHeld ?_
    rotate_left
    focus ((try dsimp only at hSw); first | (go_simp; done) | (go_simp; with_reducible rfl))
    try simp only [Act.put, List.setIfInBounds_toArray, List.set_cons_zero, List.set_cons_succ]
    refine wpAnyH_take (i := 13) (v := ?_) (by simp only [List.getElem?_toArray, List.getElem?_cons_succ, List.getElem?_cons_zero]; exact rfl) (by kernel_rfl) (by kernel_rfl) (by kernel_rfl) (by intro _ _ _ h; exact h) (Or.inl ⟨by rfl, fun W hSw => ?_⟩) hHeld ?_
    rotate_left
    focus ((try dsimp only at hSw); first | (go_simp; done) | (go_simp; with_reducible rfl))
    try simp only [Act.put, List.setIfInBounds_toArray, List.set_cons_zero, List.set_cons_succ]
    refine wpAnyH_take (i := 14) (v := ?_) (by simp only [List.getElem?_toArray, List.getElem?_cons_succ, List.getElem?_cons_zero]; exact rfl) (by kernel_rfl) (by kernel_rfl) (by kernel_rfl) (by intro _ _ _ h; exact h) (Or.inl ⟨by rfl, fun W hSw => ?_⟩) hHeld ?_
    rotate_left
    focus ((try dsimp only at hSw); first | (go_simp; done) | (go_simp; with_reducible rfl))
    try simp only [Act.put, List.setIfInBounds_toArray, List.set_cons_zero, List.set_cons_succ]
    refine wpAnyH_take (i := 15) (v := ?_) (by simp only [List.getElem?_toArray, List.getElem?_cons_succ, List.getElem?_cons_zero]; exact rfl) (by kernel_rfl) (by kernel_rfl) (by kernel_rfl) (by intro _ _ _ h; exact h) (Or.inl ⟨by rfl, fun W hSw => ?_⟩) hHeld ?_
    rotate_left
    focus ((try dsimp only at hSw); first | (go_simp; done) | (go_simp; with_reducible rfl))
    try simp only [Act.put, List.setIfInBounds_toArray, List.set_cons_zero, List.set_cons_succ]
    refine wpAnyH_take (i := 16) (v := ?_) (by simp only [List.getElem?_toArray, List.getElem?_cons_succ, List.getElem?_cons_zero]; exact rfl) (by kernel_rfl) (by kernel_rfl) (by kernel_rfl) (by intro _ _ _ h; exact h) (Or.inl ⟨by rfl, fun W hSw => ?_⟩) hHeld ?_
    rotate_left
    focus ((try dsimp only at hSw); first | (go_simp; done) | (go_simp; with_reducible rfl))
    try simp only [Act.put, List.setIfInBounds_toArray, List.set_cons_zero, List.set_cons_succ]
    refine wpAnyH_take (i := 17) (v := ?_) (by simp only [List.getElem?_toArray, List.getElem?_cons_succ, List.getElem?_cons_zero]; exact rfl) (by kernel_rfl) (by kernel_rfl) (by kernel_rfl) (by intro _ _ _ h; exact h) (Or.inl ⟨by rfl, fun W hSw => ?_⟩) hHeld ?_
    rotate_left
    focus ((try dsimp only at hSw); first | (go_simp; done) | (go_simp; with_reducible rfl))
    try simp only [Act.put, List.setIfInBounds_toArray, List.set_cons_zero, List.set_cons_succ]
    refine wpAnyH_take (i := 18) (v := ?_) (by simp only [List.getElem?_toArray, List.getElem?_cons_succ, List.getElem?_cons_zero]; exact rfl) (by kernel_rfl) (by kernel_rfl) (by kernel_rfl) (by intro _ _ _ h; exact h) (Or.inl ⟨by rfl, fun W hSw => ?_⟩) hHeld ?_
    rotate_left
    focus ((try dsimp only at hSw); first | (go_simp; done) | (go_simp; with_reducible rfl))
    try simp only [Act.put, List.setIfInBounds_toArray, List.set_cons_zero, List.set_cons_succ]
    refine wpAnyH_take (i := 19) (v := ?_) (by simp only [List.getElem?_toArray, List.getElem?_cons_succ, List.getElem?_cons_zero]; exact rfl) (by kernel_rfl) (by kernel_rfl) (by kernel_rfl) (by intro _ _ _ h; exact h) (Or.inl ⟨by rfl, fun W hSw => ?_⟩) hHeld ?_
    rotate_left
    focus ((try dsimp only at hSw); first | (go_simp; done) | (go_simp; with_reducible rfl))
    try simp only [Act.put, List.setIfInBounds_toArray, List.set_cons_zero, List.set_cons_succ]
    refine wpAnyH_take (i := 20) (v := ?_) (by simp only [List.getElem?_toArray, List.getElem?_cons_succ, List.getElem?_cons_zero]; exact rfl) (by kernel_rfl) (by kernel_rfl) (by kernel_rfl) (by intro _ _ _ h; exact h) (Or.inl ⟨by rfl, fun W hSw => ?_⟩) hHeld ?_
    rotate_left
    focus ((try dsimp only at hSw); first | (go_simp; done) | (go_simp; with_reducible rfl))
    try simp only [Act.put, List.setIfInBounds_toArray, List.set_cons_zero, List.set_cons_succ]
    refine wpAnyH_take (i := 21) (v := ?_) (by simp only [List.getElem?_toArray, List.getElem?_cons_succ, List.getElem?_cons_zero]; exact rfl) (by kernel_rfl) (by kernel_rfl) (by kernel_rfl) (by intro _ _ _ h; exact h) (Or.inl ⟨by rfl, fun W hSw => ?_⟩) hHeld ?_
    rotate_left
    focus ((try dsimp only at hSw); first | (go_simp; done) | (go_simp; with_reducible rfl))
    try simp only [Act.put, List.setIfInBounds_toArray, List.set_cons_zero, List.set_cons_succ]
    refine wpAnyH_take (i := 22) (v := ?_) (by simp only [List.getElem?_toArray, List.getElem?_cons_succ, List.getElem?_cons_zero]; exact rfl) (by kernel_rfl) (by kernel_rfl) (by kernel_rfl) (by intro _ _ _ h; exact h) (Or.inl ⟨by rfl, fun W hSw => ?_⟩) hHeld ?_
    rotate_left
    focus ((try dsimp only at hSw); first | (go_simp; done) | (go_simp; with_reducible rfl))
    try simp only [Act.put, List.setIfInBounds_toArray, List.set_cons_zero, List.set_cons_succ]
    refine wpAnyH_take (i := 23) (v := ?_) (by simp only [List.getElem?_toArray, List.getElem?_cons_succ, List.getElem?_cons_zero]; exact rfl) (by kernel_rfl) (by kernel_rfl) (by kernel_rfl) (by intro _ _ _ h; exact h) (Or.inl ⟨by rfl, fun W hSw => ?_⟩) hHeld ?_
    rotate_left
    focus ((try dsimp only at hSw); first | (go_simp; done) | (go_simp; with_reducible rfl))
    try simp only [Act.put, List.setIfInBounds_toArray, List.set_cons_zero, List.set_cons_succ]
    refine wpAnyH_take (i := 24) (v := ?_) (by simp only [List.getElem?_toArray, List.getElem?_cons_succ, List.getElem?_cons_zero]; exact rfl) (by kernel_rfl) (by kernel_rfl) (by kernel_rfl) (by intro _ _ _ h; exact h) (Or.inl ⟨by rfl, fun W hSw => ?_⟩) hHeld ?_
    rotate_left
    focus ((try dsimp only at hSw); first | (go_simp; done) | (go_simp; with_reducible rfl))
    try simp only [Act.put, List.setIfInBounds_toArray, List.set_cons_zero, List.set_cons_succ]
    refine wpAnyH_take (i := 25) (v := ?_) (by simp only [List.getElem?_toArray, List.getElem?_cons_succ, List.getElem?_cons_zero]; exact rfl) (by kernel_rfl) (by kernel_rfl) (by kernel_rfl) (by intro _ _ _ h; exact h) (Or.inl ⟨by rfl, fun W hSw => ?_⟩) hHeld ?_
    rotate_left
    focus ((try dsimp only at hSw); first | (go_simp; done) | (go_simp; with_reducible rfl))
    try simp only [Act.put, List.setIfInBounds_toArray, List.set_cons_zero, List.set_cons_succ]
    refine wpAnyH_take (i := 26) (v := ?_) (by simp only [List.getElem?_toArray, List.getElem?_cons_succ, List.getElem?_cons_zero]; exact rfl) (by kernel_rfl) (by kernel_rfl) (by kernel_rfl) (by intro _ _ _ h; exact h) (Or.inl ⟨by rfl, fun W hSw => ?_⟩) hHeld ?_
    rotate_left
    focus ((try dsimp only at hSw); first | (go_simp; done) | (go_simp; with_reducible rfl))
    try simp only [Act.put, List.setIfInBounds_toArray, List.set_cons_zero, List.set_cons_succ]
    refine wpAnyH_take (i := 27) (v := ?_) (by simp only [List.getElem?_toArray, List.getElem?_cons_succ, List.getElem?_cons_zero]; exact rfl) (by kernel_rfl) (by kernel_rfl) (by kernel_rfl) (by intro _ _ _ h; exact h) (Or.inl ⟨by rfl, fun W hSw => ?_⟩) hHeld ?_
    rotate_left
    focus ((try dsimp only at hSw); first | (go_simp; done) | (go_simp; with_reducible rfl))
    try simp only [Act.put, List.setIfInBounds_toArray, List.set_cons_zero, List.set_cons_succ]
    refine wpAnyH_take (i := 28) (v := ?_) (by simp only [List.getElem?_toArray, List.getElem?_cons_succ, List.getElem?_cons_zero]; exact rfl) (by kernel_rfl) (by kernel_rfl) (by kernel_rfl) (by intro _ _ _ h; exact h) (Or.inl ⟨by rfl, fun W hSw => ?_⟩) hHeld ?_
    rotate_left
    focus ((try dsimp only at hSw); first | (go_simp; done) | (go_simp; with_reducible rfl))
    try simp only [Act.put, List.setIfInBounds_toArray, List.set_cons_zero, List.set_cons_succ]
    refine wpAnyH_take (i := 29) (v := ?_) (by simp only [List.getElem?_toArray, List.getElem?_cons_succ, List.getElem?_cons_zero]; exact rfl) (by kernel_rfl) (by kernel_rfl) (by kernel_rfl) (by intro _ _ _ h; exact h) (Or.inl ⟨by rfl, fun W hSw => ?_⟩) hHeld ?_
    rotate_left
    focus ((try dsimp only at hSw); first | (go_simp; done) | (go_simp; with_reducible rfl))
    try simp only [Act.put, List.setIfInBounds_toArray, List.set_cons_zero, List.set_cons_succ]
    refine wpAnyH_take (i := 30) (v := ?_) (by simp only [List.getElem?_toArray, List.getElem?_cons_succ, List.getElem?_cons_zero]; exact rfl) (by kernel_rfl) (by kernel_rfl) (by kernel_rfl) (by intro _ _ _ h; exact h) (Or.inl ⟨by rfl, fun W hSw => ?_⟩) hHeld ?_
    rotate_left
    focus ((try dsimp only at hSw); first | (go_simp; done) | (go_simp; with_reducible rfl))
    try simp only [Act.put, List.setIfInBounds_toArray, List.set_cons_zero, List.set_cons_succ]
    refine wpAnyH_take (i := 31) (v := ?_) (by simp only [List.getElem?_toArray, List.getElem?_cons_succ, List.getElem?_cons_zero]; exact rfl) (by kernel_rfl) (by kernel_rfl) (by kernel_rfl) (by intro _ _ _ h; exact h) (Or.inl ⟨by rfl, fun W hSw => ?_⟩) hHeld ?_
    rotate_left
    focus ((try dsimp only at hSw); first | (go_simp; done) | (go_simp; with_reducible rfl))
    try simp only [Act.put, List.setIfInBounds_toArray, List.set_cons_zero, List.set_cons_succ]
    refine wpAnyH_ready (rs := [32]) (by kernel_rfl) (by simp) (AllReadyH.cons (by simp only [List.getElem?_toArray, List.getElem?_cons_succ, List.getElem?_cons_zero]; exact rfl) (fun K hK => ?_) AllReadyH.nil)
    rw [if_pos (by rfl)]
    go_simp
    refine (KL.out _).mono ?_; rintro e wl ⟨rfl, rfl⟩; go_wp2_with fail
    refine hK.out _ _ (hHeld) (fun hHeld => ?_)
    clear hK K
    try simp only [Act.put, List.setIfInBounds_toArray, List.set_cons_zero, List.set_cons_succ]
    refine wpAnyH_take (i := 33) (v := ?_) (by simp only [List.getElem?_toArray, List.getElem?_cons_succ, List.getElem?_cons_zero]; exact rfl) (by kernel_rfl) (by kernel_rfl) (by kernel_rfl) (by intro _ _ _ h; exact h) (Or.inl ⟨by rfl, fun W hSw => ?_⟩) hHeld ?_
    rotate_left
    focus ((try dsimp only at hSw); first | (go_simp; done) | (go_simp; with_reducible rfl))
    try simp only [Act.put, List.setIfInBounds_toArray, List.set_cons_zero, List.set_cons_succ]
    refine wpAnyH_take (i := 34) (v := ?_) (by simp only [List.getElem?_toArray, List.getElem?_cons_succ, List.getElem?_cons_zero]; exact rfl) (by kernel_rfl) (by kernel_rfl) (by kernel_rfl) (by intro _ _ _ h; exact h) (Or.inl ⟨by rfl, fun W hSw => ?_⟩) hHeld ?_
    rotate_left
    focus ((try dsimp only at hSw); first | (go_simp; done) | (go_simp; with_reducible rfl))
    try simp only [Act.put, List.setIfInBounds_toArray, List.set_cons_zero, List.set_cons_succ]
    refine wpAnyH_take (i := 35) (v := ?_) (by simp only [List.getElem?_toArray, List.getElem?_cons_succ, List.getElem?_cons_zero]; exact rfl) (by kernel_rfl) (by kernel_rfl) (by kernel_rfl) (by intro _ _ _ h; exact h) (Or.inl ⟨by rfl, fun W hSw => ?_⟩) hHeld ?_
    rotate_left
    focus ((try dsimp only at hSw); first | (go_simp; done) | (go_simp; with_reducible rfl))
    try simp only [Act.put, List.setIfInBounds_toArray, List.set_cons_zero, List.set_cons_succ]
    refine wpAnyH_take (i := 36) (v := ?_) (by simp only [List.getElem?_toArray, List.getElem?_cons_succ, List.getElem?_cons_zero]; exact rfl) (by kernel_rfl) (by kernel_rfl) (by kernel_rfl) (by intro _ _ _ h; exact h) (Or.inl ⟨by rfl, fun W hSw => ?_⟩) hHeld ?_
    rotate_left
    focus ((try dsimp only at hSw); first | (go_simp; done) | (go_simp; with_reducible rfl))
    try simp only [Act.put, List.setIfInBounds_toArray, List.set_cons_zero, List.set_cons_succ]
    refine wpAnyH_take (i := 37) (v := ?_) (by simp only [List.getElem?_toArray, List.getElem?_cons_succ, List.getElem?_cons_zero]; exact rfl) (by kernel_rfl) (by kernel_rfl) (by kernel_rfl) (by intro _ _ _ h; exact h) (Or.inl ⟨by rfl, fun W hSw => ?_⟩) hHeld ?_
    rotate_left
    focus ((try dsimp only at hSw); first | (go_simp; done) | (go_simp; with_reducible rfl))
    try simp only [Act.put, List.setIfInBounds_toArray, List.set_cons_zero, List.set_cons_succ]
    refine wpAnyH_take (i := 38) (v := ?_) (by simp only [List.getElem?_toArray, List.getElem?_cons_succ, List.getElem?_cons_zero]; exact rfl) (by kernel_rfl) (by kernel_rfl) (by kernel_rfl) (by intro _ _ _ h; exact h) (Or.inl ⟨by rfl, fun W hSw => ?_⟩) hHeld ?_
    rotate_left
    focus ((try dsimp only at hSw); first | (go_simp; done) | (go_simp; with_reducible rfl))
    try simp only [Act.put, List.setIfInBounds_toArray, List.set_cons_zero, List.set_cons_succ]
    refine wpAnyH_take (i := 39) (v := ?_) (by simp only [List.getElem?_toArray, List.getElem?_cons_succ, List.getElem?_cons_zero]; exact rfl) (by kernel_rfl) (by kernel_rfl) (by kernel_rfl) (by intro _ _ _ h; exact h) (Or.inl ⟨by rfl, fun W hSw => ?_⟩) hHeld ?_
    rotate_left
    focus ((try dsimp only at hSw); first | (go_simp; done) | (go_simp; with_reducible rfl))
    try simp only [Act.put, List.setIfInBounds_toArray, List.set_cons_zero, List.set_cons_succ]
    refine wpAnyH_take (i := 40) (v := ?_) (by simp only [List.getElem?_toArray, List.getElem?_cons_succ, List.getElem?_cons_zero]; exact rfl) (by kernel_rfl) (by kernel_rfl) (by kernel_rfl) (by intro _ _ _ h; exact h) (Or.inl ⟨by rfl, fun W hSw => ?_⟩) hHeld ?_
    rotate_left
    focus ((try dsimp only at hSw); first | (go_simp; done) | (go_simp; with_reducible rfl))
    try simp only [Act.put, List.setIfInBounds_toArray, List.set_cons_zero, List.set_cons_succ]
    refine wpAnyH_take (i := 41) (v := ?_) (by simp only [List.getElem?_toArray, List.getElem?_cons_succ, List.getElem?_cons_zero]; exact rfl) (by kernel_rfl) (by kernel_rfl) (by kernel_rfl) (by intro _ _ _ h; exact h) (Or.inl ⟨by rfl, fun W hSw => ?_⟩) hHeld ?_
    rotate_left
    focus ((try dsimp only at hSw); first | (go_simp; done) | (go_simp; with_reducible rfl))
    try simp only [Act.put, List.setIfInBounds_toArray, List.set_cons_zero, List.set_cons_succ]
    refine wpAnyH_take (i := 42) (v := ?_) (by simp only [List.getElem?_toArray, List.getElem?_cons_succ, List.getElem?_cons_zero]; exact rfl) (by kernel_rfl) (by kernel_rfl) (by kernel_rfl) (by intro _ _ _ h; exact h) (Or.inl ⟨by rfl, fun W hSw => ?_⟩) hHeld ?_
    rotate_left
    focus ((try dsimp only at hSw); first | (go_simp; done) | (go_simp; with_reducible rfl))
    try simp only [Act.put, List.setIfInBounds_toArray, List.set_cons_zero, List.set_cons_succ]
    refine wpAnyH_take (i := 43) (v := ?_) (by simp only [List.getElem?_toArray, List.getElem?_cons_succ, List.getElem?_cons_zero]; exact rfl) (by kernel_rfl) (by kernel_rfl) (by kernel_rfl) (by intro _ _ _ h; exact h) (Or.inl ⟨by rfl, fun W hSw => ?_⟩) hHeld ?_
    rotate_left
    focus ((try dsimp only at hSw); first | (go_simp; done) | (go_simp; with_reducible rfl))
    try simp only [Act.put, List.setIfInBounds_toArray, List.set_cons_zero, List.set_cons_succ]
    refine wpAnyH_take (i := 44) (v := ?_) (by simp only [List.getElem?_toArray, List.getElem?_cons_succ, List.getElem?_cons_zero]; exact rfl) (by kernel_rfl) (by kernel_rfl) (by kernel_rfl) (by intro _ _ _ h; exact h) (Or.inl ⟨by rfl, fun W hSw => ?_⟩) hHeld ?_
    rotate_left
    focus ((try dsimp only at hSw); first | (go_simp; done) | (go_simp; with_reducible rfl))
    try simp only [Act.put, List.setIfInBounds_toArray, List.set_cons_zero, List.set_cons_succ]
    refine wpAnyH_take (i := 45) (v := ?_) (by simp only [List.getElem?_toArray, List.getElem?_cons_succ, List.getElem?_cons_zero]; exact rfl) (by kernel_rfl) (by kernel_rfl) (by kernel_rfl) (by intro _ _ _ h; exact h) (Or.inl ⟨by rfl, fun W hSw => ?_⟩) hHeld ?_
    rotate_left
    focus ((try dsimp only at hSw); first | (go_simp; done) | (go_simp; with_reducible rfl))
    try simp only [Act.put, List.setIfInBounds_toArray, List.set_cons_zero, List.set_cons_succ]
    refine wpAnyH_take (i := 46) (v := ?_) (by simp only [List.getElem?_toArray, List.getElem?_cons_succ, List.getElem?_cons_zero]; exact rfl) (by kernel_rfl) (by kernel_rfl) (by kernel_rfl) (by intro _ _ _ h; exact h) (Or.inl ⟨by rfl, fun W hSw => ?_⟩) hHeld ?_
    rotate_left
    focus ((try dsimp only at hSw); first | (go_simp; done) | (go_simp; with_reducible rfl))
    try simp only [Act.put, List.setIfInBounds_toArray, List.set_cons_zero, List.set_cons_succ]
    refine wpAnyH_take (i := 47) (v := ?_) (by simp only [List.getElem?_toArray, List.getElem?_cons_succ, List.getElem?_cons_zero]; exact rfl) (by kernel_rfl) (by kernel_rfl) (by kernel_rfl) (by intro _ _ _ h; exact h) (Or.inl ⟨by rfl, fun W hSw => ?_⟩) hHeld ?_
    rotate_left
    focus ((try dsimp only at hSw); first | (go_simp; done) | (go_simp; with_reducible rfl))
    try simp only [Act.put, List.setIfInBounds_toArray, List.set_cons_zero, List.set_cons_succ]
    refine wpAnyH_take (i := 48) (v := ?_) (by simp only [List.getElem?_toArray, List.getElem?_cons_succ, List.getElem?_cons_zero]; exact rfl) (by kernel_rfl) (by kernel_rfl) (by kernel_rfl) (by intro _ _ _ h; exact h) (Or.inl ⟨by rfl, fun W hSw => ?_⟩) hHeld ?_
    rotate_left
    focus ((try dsimp only at hSw); first | (go_simp; done) | (go_simp; with_reducible rfl))
    try simp only [Act.put, List.setIfInBounds_toArray, List.set_cons_zero, List.set_cons_succ]
    refine wpAnyH_take (i := 49) (v := ?_) (by simp only [List.getElem?_toArray, List.getElem?_cons_succ, List.getElem?_cons_zero]; exact rfl) (by kernel_rfl) (by kernel_rfl) (by kernel_rfl) (by intro _ _ _ h; exact h) (Or.inl ⟨by rfl, fun W hSw => ?_⟩) hHeld ?_
    rotate_left
    focus ((try dsimp only at hSw); first | (go_simp; done) | (go_simp; with_reducible rfl))
    try simp only [Act.put, List.setIfInBounds_toArray, List.set_cons_zero, List.set_cons_succ]
    refine wpAnyH_take (i := 50) (v := undef) (by simp only [List.getElem?_toArray, List.getElem?_cons_succ, List.getElem?_cons_zero]; exact rfl) (by kernel_rfl) (by kernel_rfl) (by kernel_rfl) (by intro _ _ _ h; exact h) (Or.inr ⟨by rfl, rfl⟩) hHeld ?_
    try simp only [Act.put, List.setIfInBounds_toArray, List.set_cons_zero, List.set_cons_succ]
    refine wpAnyH_take (i := 51) (v := undef) (by simp only [List.getElem?_toArray, List.getElem?_cons_succ, List.getElem?_cons_zero]; exact rfl) (by kernel_rfl) (by kernel_rfl) (by kernel_rfl) (by intro _ _ _ h; exact h) (Or.inr ⟨by rfl, rfl⟩) hHeld ?_
    try simp only [Act.put, List.setIfInBounds_toArray, List.set_cons_zero, List.set_cons_succ]
    refine wpAnyH_take (i := 52) (v := undef) (by simp only [List.getElem?_toArray, List.getElem?_cons_succ, List.getElem?_cons_zero]; exact rfl) (by kernel_rfl) (by kernel_rfl) (by kernel_rfl) (by intro _ _ _ h; exact h) (Or.inr ⟨by rfl, rfl⟩) hHeld ?_
    try simp only [Act.put, List.setIfInBounds_toArray, List.set_cons_zero, List.set_cons_succ]
    refine wpAnyH_take (i := 53) (v := undef) (by simp only [List.getElem?_toArray, List.getElem?_cons_succ, List.getElem?_cons_zero]; exact rfl) (by kernel_rfl) (by kernel_rfl) (by kernel_rfl) (by intro _ _ _ h; exact h) (Or.inr ⟨by rfl, rfl⟩) hHeld ?_
    try simp only [Act.put, List.setIfInBounds_toArray, List.set_cons_zero, List.set_cons_succ]
    refine wpAnyH_take (i := 54) (v := undef) (by simp only [List.getElem?_toArray, List.getElem?_cons_succ, List.getElem?_cons_zero]; exact rfl) (by kernel_rfl) (by kernel_rfl) (by kernel_rfl) (by intro _ _ _ h; exact h) (Or.inr ⟨by rfl, rfl⟩) hHeld ?_
    try simp only [Act.put, List.setIfInBounds_toArray, List.set_cons_zero, List.set_cons_succ]
    refine wpAnyH_take (i := 55) (v := ?_) (by simp only [List.getElem?_toArray, List.getElem?_cons_succ, List.getElem?_cons_zero]; exact rfl) (by kernel_rfl) (by kernel_rfl) (by kernel_rfl) (by intro _ _ _ h; exact h) (Or.inl ⟨by rfl, fun W hSw => ?_⟩) hHeld ?_
    rotate_left
    focus ((try dsimp only at hSw); first | (go_simp; done) | (go_simp; with_reducible rfl))
    try simp only [Act.put, List.setIfInBounds_toArray, List.set_cons_zero, List.set_cons_succ]
    refine wpAnyH_done (by kernel_rfl) ?_ _
    clear hHeld
    go_wp2
    go_ret2
    exact ⟨by rw [← HR.out]; rfl, HBT.out.drewN 1⟩
  have t6 : decide (m.minute > 59) = false := by simpa using q6
  by_cases q7 : m.second > 59
  · have hR2 : R = (0, false) := by rw [← HR0.out]; unfold dtick; rw [HY.out, if_pos (Or.inr (Or.inr (Or.inr (Or.inr (Or.inr (Or.inr q7))))))]
    have HR := Lib.hid hR2.symm
    clear hR2
    have t7 : decide (m.second > 59) = true := by simpa using q7
    go_wp2
    refine wp_region_held_drew (S := (fun w' => w'.cell? ⟨mb, 1, none⟩ = some (.int .i64 m.day) ∧ w'.cell? ⟨mb, 2, none⟩ = some (.int .i64 m.month) ∧ w'.cell? ⟨mb, 3, none⟩ = some (.int .i64 Y) ∧ w'.cell? ⟨mb, 4, none⟩ = some (.int .i64 m.hour) ∧ w'.cell? ⟨mb, 5, none⟩ = some (.int .i64 m.minute) ∧ w'.cell? ⟨mb, 6, none⟩ = some (.int .i64 m.second))) (by kernel_rfl) (⟨c1, c2, c3, c4, c5, c6⟩) (fun hHeld => ?_)
    refine wpAnyH_take (i := 0) (v := ?_) (by simp only [List.getElem?_toArray, List.getElem?_cons_zero]; exact rfl) (by kernel_rfl) (by kernel_rfl) (by kernel_rfl) (by intro _ _ _ h; exact h) (Or.inl ⟨by rfl, fun W hSw => ?_⟩) hHeld ?_
    rotate_left
    focus ((try dsimp only at hSw); first | (go_simp; done) | (go_simp; with_reducible rfl))
    try simp only [Act.put, List.setIfInBounds_toArray, List.set_cons_zero, List.set_cons_succ]
    refine wpAnyH_take (i := 1) (v := ?_) (by simp only [List.getElem?_toArray, List.getElem?_cons_succ, List.getElem?_cons_zero]; exact rfl) (by kernel_rfl) (by kernel_rfl) (by kernel_rfl) (by intro _ _ _ h; exact h) (Or.inl ⟨by rfl, fun W hSw => ?_⟩) hHeld ?_
    rotate_left
    focus ((try dsimp only at hSw); first | (go_simp; done) | (go_simp; with_reducible rfl))
    try simp only [Act.put, List.setIfInBounds_toArray, List.set_cons_zero, List.set_cons_succ]
    refine wpAnyH_take (i := 2) (v := ?_) (by simp only [List.getElem?_toArray, List.getElem?_cons_succ, List.getElem?_cons_zero]; exact rfl) (by kernel_rfl) (by kernel_rfl) (by kernel_rfl) (by intro _ _ _ h; exact h) (Or.inl ⟨by rfl, fun W hSw => ?_⟩) hHeld ?_
    rotate_left
    focus ((try dsimp only at hSw); first | (go_simp; done) | (go_simp; with_reducible rfl))
    try simp only [Act.put, List.setIfInBounds_toArray, List.set_cons_zero, List.set_cons_succ]
    refine wpAnyH_take (i := 3) (v := ?_) (by simp only [List.getElem?_toArray, List.getElem?_cons_succ, List.getElem?_cons_zero]; exact rfl) (by kernel_rfl) (by kernel_rfl) (by kernel_rfl) (by intro _ _ _ h; exact h) (Or.inl ⟨by rfl, fun W hSw => ?_⟩) hHeld ?_
    rotate_left
    focus ((try dsimp only at hSw); first | (go_simp; done) | (go_simp; with_reducible rfl))
    try simp only [Act.put, List.setIfInBounds_toArray, List.set_cons_zero, List.set_cons_succ]
    refine wpAnyH_take (i := 4) (v := ?_) (by simp only [List.getElem?_toArray, List.getElem?_cons_succ, List.getElem?_cons_zero]; exact rfl) (by kernel_rfl) (by kernel_rfl) (by kernel_rfl) (by intro _ _ _ h; exact h) (Or.inl ⟨by rfl, fun W hSw => ?_⟩) hHeld ?_
    rotate_left
    focus ((try dsimp only at hSw); first | (go_simp; done) | (go_simp; with_reducible rfl))
    try simp only [Act.put, List.setIfInBounds_toArray, List.set_cons_zero, List.set_cons_succ]
    refine wpAnyH_take (i := 5) (v := ?_) (by simp only [List.getElem?_toArray, List.getElem?_cons_succ, List.getElem?_cons_zero]; exact rfl) (by kernel_rfl) (by kernel_rfl) (by kernel_rfl) (by intro _ _ _ h; exact h) (Or.inl ⟨by rfl, fun W hSw => ?_⟩) hHeld ?_
    rotate_left
    focus ((try dsimp only at hSw); first | (go_simp; done) | (go_simp; with_reducible rfl))
    try simp only [Act.put, List.setIfInBounds_toArray, List.set_cons_zero, List.set_cons_succ]
    refine wpAnyH_take (i := 6) (v := ?_) (by simp only [List.getElem?_toArray, List.getElem?_cons_succ, List.getElem?_cons_zero]; exact rfl) (by kernel_rfl) (by kernel_rfl) (by kernel_rfl) (by intro _ _ _ h; exact h) (Or.inl ⟨by rfl, fun W hSw => ?_⟩) hHeld ?_
    rotate_left
    focus ((try dsimp only at hSw); first | (go_simp; done) | (go_simp; with_reducible rfl))
    try simp only [Act.put, List.setIfInBounds_toArray, List.set_cons_zero, List.set_cons_succ]
    refine wpAnyH_take (i := 7) (v := ?_) (by simp only [List.getElem?_toArray, List.getElem?_cons_succ, List.getElem?_cons_zero]; exact rfl) (by kernel_rfl) (by kernel_rfl) (by kernel_rfl) (by intro _ _ _ h; exact h) (Or.inl ⟨by rfl, fun W hSw => ?_⟩) hHeld ?_
    rotate_left
    focus ((try dsimp only at hSw); first | (go_simp; done) | (go_simp; with_reducible rfl))
    try simp only [Act.put, List.setIfInBounds_toArray, List.set_cons_zero, List.set_cons_succ]
    refine wpAnyH_take (i := 8) (v := ?_) (by simp only [List.getElem?_toArray, List.getElem?_cons_succ, List.getElem?_cons_zero]; exact rfl) (by kernel_rfl) (by kernel_rfl) (by kernel_rfl) (by intro _ _ _ h; exact h) (Or.inl ⟨by rfl, fun W hSw => ?_⟩) hHeld ?_
    rotate_left
    focus ((try dsimp only at hSw); first | (go_simp; done) | (go_simp; with_reducible rfl))
    try simp only [Act.put, List.setIfInBounds_toArray, List.set_cons_zero, List.set_cons_succ]
    refine wpAnyH_take (i := 9) (v := ?_) (by simp only [List.getElem?_toArray, List.getElem?_cons_succ, List.getElem?_cons_zero]; exact rfl) (by kernel_rfl) (by kernel_rfl) (by kernel_rfl) (by intro _ _ _ h; exact h) (Or.inl ⟨by rfl, fun W hSw => ?_⟩) hHeld ?_
    rotate_left
    focus ((try dsimp only at hSw); first | (go_simp; done) | (go_simp; with_reducible rfl))
    try simp only [Act.put, List.setIfInBounds_toArray, List.set_cons_zero, List.set_cons_succ]
    refine wpAnyH_take (i := 10) (v := ?_) (by simp only [List.getElem?_toArray, List.getElem?_cons_succ, List.getElem?_cons_zero]; exact rfl) (by kernel_rfl) (by kernel_rfl) (by kernel_rfl) (by intro _ _ _ h; exact h) (Or.inl ⟨by rfl, fun W hSw => ?_⟩) hHeld ?_
    rotate_left
    focus ((try dsimp only at hSw); first | (go_simp; done) | (go_simp; with_reducible rfl))
    try simp only [Act.put, List.setIfInBounds_toArray, List.set_cons_zero, List.set_cons_succ]
    refine wpAnyH_take (i := 11) (v := ?_) (by simp only [List.getElem?_toArray, List.getElem?_cons_succ, List.getElem?_cons_zero]; exact rfl) (by kernel_rfl) (by kernel_rfl) (by kernel_rfl) (by intro _ _ _ h; exact h) (Or.inl ⟨by rfl, fun W hSw => ?_⟩) hHeld ?_
    rotate_left
    focus ((try dsimp only at hSw); first | (go_simp; done) | (go_simp; with_reducible rfl))
    try simp only [Act.put, List.setIfInBounds_toArray, List.set_cons_zero, List.set_cons_succ]
    refine wpAnyH_take (i := 12) (v := ?_) (by simp only [List.getElem?_toArray, List.getElem?_cons_succ, List.getElem?_cons_zero]; exact rfl) (by kernel_rfl) (by kernel_rfl) (by kernel_rfl) (by intro _ _ _ h; exact h) (Or.inl ⟨by rfl, fun W hSw => ?_⟩) hHeld ?_
    rotate_left
    focus ((try dsimp only at hSw); first | (go_simp; done) | (go_simp; with_reducible rfl))
    try simp only [Act.put, List.setIfInBounds_toArray, List.set_cons_zero, List.set_cons_succ]
    refine wpAnyH_take (i := 13) (v := ?_) (by simp only [List.getElem?_toArray, List.getElem?_cons_succ, List.getElem?_cons_zero]; exact rfl) (by kernel_rfl) (by kernel_rfl) (by kernel_rfl) (by intro _ _ _ h; exact h) (Or.inl ⟨by rfl, fun W hSw => ?_⟩) hHeld ?_
    rotate_left
    focus ((try dsimp only at hSw); first | (go_simp; done) | (go_simp; with_reducible rfl))
    try simp only [Act.put, List.setIfInBounds_toArray, List.set_cons_zero, List.set_cons_succ]
    refine wpAnyH_take (i := 14) (v := ?_) (by simp only [List.getElem?_toArray, List.getElem?_cons_succ, List.getElem?_cons_zero]; exact rfl) (by kernel_rfl) (by kernel_rfl) (by kernel_rfl) (by intro _ _ _ h; exact h) (Or.inl ⟨by rfl, fun W hSw => ?_⟩) hHeld ?_
    rotate_left
    focus ((try dsimp only at hSw); first | (go_simp; done) | (go_simp; with_reducible rfl))
    try simp only [Act.put, List.setIfInBounds_toArray, List.set_cons_zero, List.set_cons_succ]
    refine wpAnyH_take (i := 15) (v := ?_) (by simp only [List.getElem?_toArray, List.getElem?_cons_succ, List.getElem?_cons_zero]; exact rfl) (by kernel_rfl) (by kernel_rfl) (by kernel_rfl) (by intro _ _ _ h; exact h) (Or.inl ⟨by rfl, fun W hSw => ?_⟩) hHeld ?_
    rotate_left
    focus ((try dsimp only at hSw); first | (go_simp; done) | (go_simp; with_reducible rfl))
    try simp only [Act.put, List.setIfInBounds_toArray, List.set_cons_zero, List.set_cons_succ]
    refine wpAnyH_take (i := 16) (v := ?_) (by simp only [List.getElem?_toArray, List.getElem?_cons_succ, List.getElem?_cons_zero]; exact rfl) (by kernel_rfl) (by kernel_rfl) (by kernel_rfl) (by intro _ _ _ h; exact h) (Or.inl ⟨by rfl, fun W hSw => ?_⟩) hHeld ?_
    rotate_left
    focus ((try dsimp only at hSw); first | (go_simp; done) | (go_simp; with_reducible rfl))
    try simp only [Act.put, List.setIfInBounds_toArray, List.set_cons_zero, List.set_cons_succ]
    refine wpAnyH_take (i := 17) (v := ?_) (by simp only [List.getElem?_toArray, List.getElem?_cons_succ, List.getElem?_cons_zero]; exact rfl) (by kernel_rfl) (by kernel_rfl) (by kernel_rfl) (by intro _ _ _ h; exact h) (Or.inl ⟨by rfl, fun W hSw => ?_⟩) hHeld ?_
    rotate_left
    focus ((try dsimp only at hSw); first | (go_simp; done) | (go_simp; with_reducible rfl))
    try simp only [Act.put, List.setIfInBounds_toArray, List.set_cons_zero, List.set_cons_succ]
    refine wpAnyH_take (i := 18) (v := ?_) (by simp only [List.getElem?_toArray, List.getElem?_cons_succ, List.getElem?_cons_zero]; exact rfl) (by kernel_rfl) (by kernel_rfl) (by kernel_rfl) (by intro _ _ _ h; exact h) (Or.inl ⟨by rfl, fun W hSw => ?_⟩) hHeld ?_
    rotate_left
    focus ((try dsimp only at hSw); first | (go_simp; done) | (go_simp; with_reducible rfl))
    try simp only [Act.put, List.setIfInBounds_toArray, List.set_cons_zero, List.set_cons_succ]
    refine wpAnyH_take (i := 19) (v := ?_) (by simp only [List.getElem?_toArray, List.getElem?_cons_succ, List.getElem?_cons_zero]; exact rfl) (by kernel_rfl) (by kernel_rfl) (by kernel_rfl) (by intro _ _ _ h; exact h) (Or.inl ⟨by rfl, fun W hSw => ?_⟩) hHeld ?_
    rotate_left
    focus ((try dsimp only at hSw); first | (go_simp; done) | (go_simp; with_reducible rfl))
    try simp only [Act.put, List.setIfInBounds_toArray, List.set_cons_zero, List.set_cons_succ]
    refine wpAnyH_take (i := 20) (v := ?_) (by simp only [List.getElem?_toArray, List.getElem?_cons_succ, List.getElem?_cons_zero]; exact rfl) (by kernel_rfl) (by kernel_rfl) (by kernel_rfl) (by intro _ _ _ h; exact h) (Or.inl ⟨by rfl, fun W hSw => ?_⟩) hHeld ?_
    rotate_left
    focus ((try dsimp only at hSw); first | (go_simp; done) | (go_simp; with_reducible rfl))
    try simp only [Act.put, List.setIfInBounds_toArray, List.set_cons_zero, List.set_cons_succ]
    refine wpAnyH_take (i := 21) (v := ?_) (by simp only [List.getElem?_toArray, List.getElem?_cons_succ, List.getElem?_cons_zero]; exact rfl) (by kernel_rfl) (by kernel_rfl) (by kernel_rfl) (by intro _ _ _ h; exact h) (Or.inl ⟨by rfl, fun W hSw => ?_⟩) hHeld ?_
    rotate_left
    focus ((try dsimp only at hSw); first | (go_simp; done) | (go_simp; with_reducible rfl))
    try simp only [Act.put, List.setIfInBounds_toArray, List.set_cons_zero, List.set_cons_succ]
    refine wpAnyH_take (i := 22) (v := ?_) (by simp only [List.getElem?_toArray, List.getElem?_cons_succ, List.getElem?_cons_zero]; exact rfl) (by kernel_rfl) (by kernel_rfl) (by kernel_rfl) (by intro _ _ _ h; exact h) (Or.inl ⟨by rfl, fun W hSw => ?_⟩) hHeld ?_
    rotate_left
    focus ((try dsimp only at hSw); first | (go_simp; done) | (go_simp; with_reducible rfl))
    try simp only [Act.put, List.setIfInBounds_toArray, List.set_cons_zero, List.set_cons_succ]
    refine wpAnyH_take (i := 23) (v := ?_) (by simp only [List.getElem?_toArray, List.getElem?_cons_succ, List.getElem?_cons_zero]; exact rfl) (by kernel_rfl) (by kernel_rfl) (by kernel_rfl) (by intro _ _ _ h; exact h) (Or.inl ⟨by rfl, fun W hSw => ?_⟩) hHeld ?_
    rotate_left
    focus ((try dsimp only at hSw); first | (go_simp; done) | (go_simp; with_reducible rfl))
    try simp only [Act.put, List.setIfInBounds_toArray, List.set_cons_zero, List.set_cons_succ]
    refine wpAnyH_take (i := 24) (v := ?_) (by simp only [List.getElem?_toArray, List.getElem?_cons_succ, List.getElem?_cons_zero]; exact rfl) (by kernel_rfl) (by kernel_rfl) (by kernel_rfl) (by intro _ _ _ h; exact h) (Or.inl ⟨by rfl, fun W hSw => ?_⟩) hHeld ?_
    rotate_left
    focus ((try dsimp only at hSw); first | (go_simp; done) | (go_simp; with_reducible rfl))
    try simp only [Act.put, List.setIfInBounds_toArray, List.set_cons_zero, List.set_cons_succ]
    refine wpAnyH_take (i := 25) (v := ?_) (by simp only [List.getElem?_toArray, List.getElem?_cons_succ, List.getElem?_cons_zero]; exact rfl) (by kernel_rfl) (by kernel_rfl) (by kernel_rfl) (by intro _ _ _ h; exact h) (Or.inl ⟨by rfl, fun W hSw => ?_⟩) hHeld ?_
    rotate_left
    focus ((try dsimp only at hSw); first | (go_simp; done) | (go_simp; with_reducible rfl))
    try simp only [Act.put, List.setIfInBounds_toArray, List.set_cons_zero, List.set_cons_succ]
    refine wpAnyH_take (i := 26) (v := ?_) (by simp only [List.getElem?_toArray, List.getElem?_cons_succ, List.getElem?_cons_zero]; exact rfl) (by kernel_rfl) (by kernel_rfl) (by kernel_rfl) (by intro _ _ _ h; exact h) (Or.inl ⟨by rfl, fun W hSw => ?_⟩) hHeld ?_
    rotate_left
    focus ((try dsimp only at hSw); first | (go_simp; done) | (go_simp; with_reducible rfl))
    try simp only [Act.put, List.setIfInBounds_toArray, List.set_cons_zero, List.set_cons_succ]
    refine wpAnyH_take (i := 27) (v := ?_) (by simp only [List.getElem?_toArray, List.getElem?_cons_succ, List.getElem?_cons_zero]; exact rfl) (by kernel_rfl) (by kernel_rfl) (by kernel_rfl) (by intro _ _ _ h; exact h) (Or.inl ⟨by rfl, fun W hSw => ?_⟩) hHeld ?_
    rotate_left
    focus ((try dsimp only at hSw); first | (go_simp; done) | (go_simp; with_reducible rfl))
    try simp only [Act.put, List.setIfInBounds_toArray, List.set_cons_zero, List.set_cons_succ]
    refine wpAnyH_take (i := 28) (v := ?_) (by simp only [List.getElem?_toArray, List.getElem?_cons_succ, List.getElem?_cons_zero]; exact rfl) (by kernel_rfl) (by kernel_rfl) (by kernel_rfl) (by intro _ _ _ h; exact h) (Or.inl ⟨by rfl, fun W hSw => ?_⟩) hHeld ?_
    rotate_left
    focus ((try dsimp only at hSw); first | (go_simp; done) | (go_simp; with_reducible rfl))
    try simp only [Act.put, List.setIfInBounds_toArray, List.set_cons_zero, List.set_cons_succ]
    refine wpAnyH_take (i := 29) (v := ?_) (by simp only [List.getElem?_toArray, List.getElem?_cons_succ, List.getElem?_cons_zero]; exact rfl) (by kernel_rfl) (by kernel_rfl) (by kernel_rfl) (by intro _ _ _ h; exact h) (Or.inl ⟨by rfl, fun W hSw => ?_⟩) hHeld ?_
    rotate_left
    focus ((try dsimp only at hSw); first | (go_simp; done) | (go_simp; with_reducible rfl))
    try simp only [Act.put, List.setIfInBounds_toArray, List.set_cons_zero, List.set_cons_succ]
    refine wpAnyH_take (i := 30) (v := ?_) (by simp only [List.getElem?_toArray, List.getElem?_cons_succ, List.getElem?_cons_zero]; exact rfl) (by kernel_rfl) (by kernel_rfl) (by kernel_rfl) (by intro _ _ _ h; exact h) (Or.inl ⟨by rfl, fun W hSw => ?_⟩) hHeld ?_
    rotate_left
    focus ((try dsimp only at hSw); first | (go_simp; done) | (go_simp; with_reducible rfl))
    try simp only [Act.put, List.setIfInBounds_toArray, List.set_cons_zero, List.set_cons_succ]
    refine wpAnyH_take (i := 31) (v := ?_) (by simp only [List.getElem?_toArray, List.getElem?_cons_succ, List.getElem?_cons_zero]; exact rfl) (by kernel_rfl) (by kernel_rfl) (by kernel_rfl) (by intro _ _ _ h; exact h) (Or.inl ⟨by rfl, fun W hSw => ?_⟩) hHeld ?_
    rotate_left
    focus ((try dsimp only at hSw); first | (go_simp; done) | (go_simp; with_reducible rfl))
    try simp only [Act.put, List.setIfInBounds_toArray, List.set_cons_zero, List.set_cons_succ]
    refine wpAnyH_ready (rs := [32]) (by kernel_rfl) (by simp) (AllReadyH.cons (by simp only [List.getElem?_toArray, List.getElem?_cons_succ, List.getElem?_cons_zero]; exact rfl) (fun K hK => ?_) AllReadyH.nil)
    rw [if_pos (by rfl)]
    go_simp
    refine (KL.out _).mono ?_; rintro e wl ⟨rfl, rfl⟩; go_wp2_with fail
    refine hK.out _ _ (hHeld) (fun hHeld => ?_)
    clear hK K
    try simp only [Act.put, List.setIfInBounds_toArray, List.set_cons_zero, List.set_cons_succ]
    refine wpAnyH_take (i := 33) (v := ?_) (by simp only [List.getElem?_toArray, List.getElem?_cons_succ, List.getElem?_cons_zero]; exact rfl) (by kernel_rfl) (by kernel_rfl) (by kernel_rfl) (by intro _ _ _ h; exact h) (Or.inl ⟨by rfl, fun W hSw => ?_⟩) hHeld ?_
    rotate_left
    focus ((try dsimp only at hSw); first | (go_simp; done) | (go_simp; with_reducible rfl))
    try simp only [Act.put, List.setIfInBounds_toArray, List.set_cons_zero, List.set_cons_succ]
    refine wpAnyH_take (i := 34) (v := ?_) (by simp only [List.getElem?_toArray, List.getElem?_cons_succ, List.getElem?_cons_zero]; exact rfl) (by kernel_rfl) (by kernel_rfl) (by kernel_rfl) (by intro _ _ _ h; exact h) (Or.inl ⟨by rfl, fun W hSw => ?_⟩) hHeld ?_
    rotate_left
    focus ((try dsimp only at hSw); first | (go_simp; done) | (go_simp; with_reducible rfl))
    try simp only [Act.put, List.setIfInBounds_toArray, List.set_cons_zero, List.set_cons_succ]
    refine wpAnyH_take (i := 35) (v := ?_) (by simp only [List.getElem?_toArray, List.getElem?_cons_succ, List.getElem?_cons_zero]; exact rfl) (by kernel_rfl) (by kernel_rfl) (by kernel_rfl) (by intro _ _ _ h; exact h) (Or.inl ⟨by rfl, fun W hSw => ?_⟩) hHeld ?_
    rotate_left
    focus ((try dsimp only at hSw); first | (go_simp; done) | (go_simp; with_reducible rfl))
    try simp only [Act.put, List.setIfInBounds_toArray, List.set_cons_zero, List.set_cons_succ]
    refine wpAnyH_take (i := 36) (v := ?_) (by simp only [List.getElem?_toArray, List.getElem?_cons_succ, List.getElem?_cons_zero]; exact rfl) (by kernel_rfl) (by kernel_rfl) (by kernel_rfl) (by intro _ _ _ h; exact h) (Or.inl ⟨by rfl, fun W hSw => ?_⟩) hHeld ?_
    rotate_left
    focus ((try dsimp only at hSw); first | (go_simp; done) | (go_simp; with_reducible rfl))
    try simp only [Act.put, List.setIfInBounds_toArray, List.set_cons_zero, List.set_cons_succ]
    refine wpAnyH_take (i := 37) (v := ?_) (by simp only [List.getElem?_toArray, List.getElem?_cons_succ, List.getElem?_cons_zero]; exact rfl) (by kernel_rfl) (by kernel_rfl) (by kernel_rfl) (by intro _ _ _ h; exact h) (Or.inl ⟨by rfl, fun W hSw => ?_⟩) hHeld ?_
    rotate_left
    focus ((try dsimp only at hSw); first | (go_simp; done) | (go_simp; with_reducible rfl))
    try simp only [Act.put, List.setIfInBounds_toArray, List.set_cons_zero, List.set_cons_succ]
    refine wpAnyH_take (i := 38) (v := ?_) (by simp only [List.getElem?_toArray, List.getElem?_cons_succ, List.getElem?_cons_zero]; exact rfl) (by kernel_rfl) (by kernel_rfl) (by kernel_rfl) (by intro _ _ _ h; exact h) (Or.inl ⟨by rfl, fun W hSw => ?_⟩) hHeld ?_
    rotate_left
    focus ((try dsimp only at hSw); first | (go_simp; done) | (go_simp; with_reducible rfl))
    try simp only [Act.put, List.setIfInBounds_toArray, List.set_cons_zero, List.set_cons_succ]
    refine wpAnyH_take (i := 39) (v := ?_) (by simp only [List.getElem?_toArray, List.getElem?_cons_succ, List.getElem?_cons_zero]; exact rfl) (by kernel_rfl) (by kernel_rfl) (by kernel_rfl) (by intro _ _ _ h; exact h) (Or.inl ⟨by rfl, fun W hSw => ?_⟩) hHeld ?_
    rotate_left
    focus ((try dsimp only at hSw); first | (go_simp; done) | (go_simp; with_reducible rfl))
    try simp only [Act.put, List.setIfInBounds_toArray, List.set_cons_zero, List.set_cons_succ]
    refine wpAnyH_take (i := 40) (v := ?_) (by simp only [List.getElem?_toArray, List.getElem?_cons_succ, List.getElem?_cons_zero]; exact rfl) (by kernel_rfl) (by kernel_rfl) (by kernel_rfl) (by intro _ _ _ h; exact h) (Or.inl ⟨by rfl, fun W hSw => ?_⟩) hHeld ?_
    rotate_left
    focus ((try dsimp only at hSw); first | (go_simp; done) | (go_simp; with_reducible rfl))
    try simp only [Act.put, List.setIfInBounds_toArray, List.set_cons_zero, List.set_cons_succ]
    refine wpAnyH_take (i := 41) (v := ?_) (by simp only [List.getElem?_toArray, List.getElem?_cons_succ, List.getElem?_cons_zero]; exact rfl) (by kernel_rfl) (by kernel_rfl) (by kernel_rfl) (by intro _ _ _ h; exact h) (Or.inl ⟨by rfl, fun W hSw => ?_⟩) hHeld ?_
    rotate_left
    focus ((try dsimp only at hSw); first | (go_simp; done) | (go_simp; with_reducible rfl))
    try simp only [Act.put, List.setIfInBounds_toArray, List.set_cons_zero, List.set_cons_succ]
    refine wpAnyH_take (i := 42) (v := ?_) (by simp only [List.getElem?_toArray, List.getElem?_cons_succ, List.getElem?_cons_zero]; exact rfl) (by kernel_rfl) (by kernel_rfl) (by kernel_rfl) (by intro _ _ _ h; exact h) (Or.inl ⟨by rfl, fun W hSw => ?_⟩) hHeld ?_
    rotate_left
    focus ((try dsimp only at hSw); first | (go_simp; done) | (go_simp; with_reducible rfl))
    try simp only [Act.put, List.setIfInBounds_toArray, List.set_cons_zero, List.set_cons_succ]
    refine wpAnyH_take (i := 43) (v := ?_) (by simp only [List.getElem?_toArray, List.getElem?_cons_succ, List.getElem?_cons_zero]; exact rfl) (by kernel_rfl) (by kernel_rfl) (by kernel_rfl) (by intro _ _ _ h; exact h) (Or.inl ⟨by rfl, fun W hSw => ?_⟩) hHeld ?_
    rotate_left
    focus ((try dsimp only at hSw); first | (go_simp; done) | (go_simp; with_reducible rfl))
    try simp only [Act.put, List.setIfInBounds_toArray, List.set_cons_zero, List.set_cons_succ]
    refine wpAnyH_take (i := 44) (v := ?_) (by simp only [List.getElem?_toArray, List.getElem?_cons_succ, List.getElem?_cons_zero]; exact rfl) (by kernel_rfl) (by kernel_rfl) (by kernel_rfl) (by intro _ _ _ h; exact h) (Or.inl ⟨by rfl, fun W hSw => ?_⟩) hHeld ?_
    rotate_left
    focus ((try dsimp only at hSw); first | (go_simp; done) | (go_simp; with_reducible rfl))
    try simp only [Act.put, List.setIfInBounds_toArray, List.set_cons_zero, List.set_cons_succ]
    refine wpAnyH_take (i := 45) (v := ?_) (by simp only [List.getElem?_toArray, List.getElem?_cons_succ, List.getElem?_cons_zero]; exact rfl) (by kernel_rfl) (by kernel_rfl) (by kernel_rfl) (by intro _ _ _ h; exact h) (Or.inl ⟨by rfl, fun W hSw => ?_⟩) hHeld ?_
    rotate_left
    focus ((try dsimp only at hSw); first | (go_simp; done) | (go_simp; with_reducible rfl))
    try simp only [Act.put, List.setIfInBounds_toArray, List.set_cons_zero, List.set_cons_succ]
    refine wpAnyH_take (i := 46) (v := ?_) (by simp only [List.getElem?_toArray, List.getElem?_cons_succ, List.getElem?_cons_zero]; exact rfl) (by kernel_rfl) (by kernel_rfl) (by kernel_rfl) (by intro _ _ _ h; exact h) (Or.inl ⟨by rfl, fun W hSw => ?_⟩) hHeld ?_
    rotate_left
    focus ((try dsimp only at hSw); first | (go_simp; done) | (go_simp; with_reducible rfl))
    try simp only [Act.put, List.setIfInBounds_toArray, List.set_cons_zero, List.set_cons_succ]
    refine wpAnyH_take (i := 47) (v := ?_) (by simp only [List.getElem?_toArray, List.getElem?_cons_succ, List.getElem?_cons_zero]; exact rfl) (by kernel_rfl) (by kernel_rfl) (by kernel_rfl) (by intro _ _ _ h; exact h) (Or.inl ⟨by rfl, fun W hSw => ?_⟩) hHeld ?_
    rotate_left
    focus ((try dsimp only at hSw); first | (go_simp; done) | (go_simp; with_reducible rfl))
    try simp only [Act.put, List.setIfInBounds_toArray, List.set_cons_zero, List.set_cons_succ]
    refine wpAnyH_take (i := 48) (v := ?_) (by simp only [List.getElem?_toArray, List.getElem?_cons_succ, List.getElem?_cons_zero]; exact rfl) (by kernel_rfl) (by kernel_rfl) (by kernel_rfl) (by intro _ _ _ h; exact h) (Or.inl ⟨by rfl, fun W hSw => ?_⟩) hHeld ?_
    rotate_left
    focus ((try dsimp only at hSw); first | (go_simp; done) | (go_simp; with_reducible rfl))
    try simp only [Act.put, List.setIfInBounds_toArray, List.set_cons_zero, List.set_cons_succ]
    refine wpAnyH_take (i := 49) (v := ?_) (by simp only [List.getElem?_toArray, List.getElem?_cons_succ, List.getElem?_cons_zero]; exact rfl) (by kernel_rfl) (by kernel_rfl) (by kernel_rfl) (by intro _ _ _ h; exact h) (Or.inl ⟨by rfl, fun W hSw => ?_⟩) hHeld ?_
    rotate_left
    focus ((try dsimp only at hSw); first | (go_simp; done) | (go_simp; with_reducible rfl))
    try simp only [Act.put, List.setIfInBounds_toArray, List.set_cons_zero, List.set_cons_succ]
    refine wpAnyH_take (i := 50) (v := ?_) (by simp only [List.getElem?_toArray, List.getElem?_cons_succ, List.getElem?_cons_zero]; exact rfl) (by kernel_rfl) (by kernel_rfl) (by kernel_rfl) (by intro _ _ _ h; exact h) (Or.inl ⟨by rfl, fun W hSw => ?_⟩) hHeld ?_
    rotate_left
    focus ((try dsimp only at hSw); first | (go_simp; done) | (go_simp; with_reducible rfl))
    try simp only [Act.put, List.setIfInBounds_toArray, List.set_cons_zero, List.set_cons_succ]
    refine wpAnyH_take (i := 51) (v := ?_) (by simp only [List.getElem?_toArray, List.getElem?_cons_succ, List.getElem?_cons_zero]; exact rfl) (by kernel_rfl) (by kernel_rfl) (by kernel_rfl) (by intro _ _ _ h; exact h) (Or.inl ⟨by rfl, fun W hSw => ?_⟩) hHeld ?_
    rotate_left
    focus ((try dsimp only at hSw); first | (go_simp; done) | (go_simp; with_reducible rfl))
    try simp only [Act.put, List.setIfInBounds_toArray, List.set_cons_zero, List.set_cons_succ]
    refine wpAnyH_take (i := 52) (v := ?_) (by simp only [List.getElem?_toArray, List.getElem?_cons_succ, List.getElem?_cons_zero]; exact rfl) (by kernel_rfl) (by kernel_rfl) (by kernel_rfl) (by intro _ _ _ h; exact h) (Or.inl ⟨by rfl, fun W hSw => ?_⟩) hHeld ?_
    rotate_left
    focus ((try dsimp only at hSw); first | (go_simp; done) | (go_simp; with_reducible rfl))
    try simp only [Act.put, List.setIfInBounds_toArray, List.set_cons_zero, List.set_cons_succ]
    refine wpAnyH_take (i := 53) (v := ?_) (by simp only [List.getElem?_toArray, List.getElem?_cons_succ, List.getElem?_cons_zero]; exact rfl) (by kernel_rfl) (by kernel_rfl) (by kernel_rfl) (by intro _ _ _ h; exact h) (Or.inl ⟨by rfl, fun W hSw => ?_⟩) hHeld ?_
    rotate_left
    focus ((try dsimp only at hSw); first | (go_simp; done) | (go_simp; with_reducible rfl))
    try simp only [Act.put, List.setIfInBounds_toArray, List.set_cons_zero, List.set_cons_succ]
    refine wpAnyH_take (i := 54) (v := ?_) (by simp only [List.getElem?_toArray, List.getElem?_cons_succ, List.getElem?_cons_zero]; exact rfl) (by kernel_rfl) (by kernel_rfl) (by kernel_rfl) (by intro _ _ _ h; exact h) (Or.inl ⟨by rfl, fun W hSw => ?_⟩) hHeld ?_
    rotate_left
    focus ((try dsimp only at hSw); first | (go_simp; done) | (go_simp; with_reducible rfl))
    try simp only [Act.put, List.setIfInBounds_toArray, List.set_cons_zero, List.set_cons_succ]
    refine wpAnyH_take (i := 55) (v := ?_) (by simp only [List.getElem?_toArray, List.getElem?_cons_succ, List.getElem?_cons_zero]; exact rfl) (by kernel_rfl) (by kernel_rfl) (by kernel_rfl) (by intro _ _ _ h; exact h) (Or.inl ⟨by rfl, fun W hSw => ?_⟩) hHeld ?_
    rotate_left
    focus ((try dsimp only at hSw); first | (go_simp; done) | (go_simp; with_reducible rfl))
    try simp only [Act.put, List.setIfInBounds_toArray, List.set_cons_zero, List.set_cons_succ]
    refine wpAnyH_done (by kernel_rfl) ?_ _
    clear hHeld
    go_wp2
    go_ret2
    exact ⟨by rw [← HR.out]; rfl, HBT.out.drewN 1⟩
  have t7 : decide (m.second > 59) = false := by simpa using q7
  have hRt : R = if (dahead Y + m.day - 1 + dmons Y (m.month.toNat - 1)) % 7 ≠ m.wd then (0, false) else ((dahead Y + m.day - 1 + dmons Y (m.month.toNat - 1)) * 86400 + m.hour * 3600 + m.minute * 60 + m.second, true) := by
    rw [← HR0.out]; unfold dtick; rw [HY.out, if_neg (by omega)]
  have HRT := Lib.hid hRt
  clear hRt
  go_wp2
  refine wp_region_held_drew (S := (fun w' => w'.cell? ⟨mb, 1, none⟩ = some (.int .i64 m.day) ∧ w'.cell? ⟨mb, 2, none⟩ = some (.int .i64 m.month) ∧ w'.cell? ⟨mb, 3, none⟩ = some (.int .i64 Y) ∧ w'.cell? ⟨mb, 4, none⟩ = some (.int .i64 m.hour) ∧ w'.cell? ⟨mb, 5, none⟩ = some (.int .i64 m.minute) ∧ w'.cell? ⟨mb, 6, none⟩ = some (.int .i64 m.second))) (by kernel_rfl) (⟨c1, c2, c3, c4, c5, c6⟩) (fun hHeld => ?_)
  refine wpAnyH_take (i := 0) (v := ?_) (by simp only [List.getElem?_toArray, List.getElem?_cons_zero]; exact rfl) (by kernel_rfl) (by kernel_rfl) (by kernel_rfl) (by intro _ _ _ h; exact h) (Or.inl ⟨by rfl, fun W hSw => ?_⟩) hHeld ?_
  rotate_left
  focus ((try dsimp only at hSw); first | (go_simp; done) | (go_simp; with_reducible rfl))
  try simp only [Act.put, List.setIfInBounds_toArray, List.set_cons_zero, List.set_cons_succ]
  refine wpAnyH_take (i := 1) (v := ?_) (by simp only [List.getElem?_toArray, List.getElem?_cons_succ, List.getElem?_cons_zero]; exact rfl) (by kernel_rfl) (by kernel_rfl) (by kernel_rfl) (by intro _ _ _ h; exact h) (Or.inl ⟨by rfl, fun W hSw => ?_⟩) hHeld ?_
  rotate_left
  focus ((try dsimp only at hSw); first | (go_simp; done) | (go_simp; with_reducible rfl))
  try simp only [Act.put, List.setIfInBounds_toArray, List.set_cons_zero, List.set_cons_succ]
  refine wpAnyH_take (i := 2) (v := ?_) (by simp only [List.getElem?_toArray, List.getElem?_cons_succ, List.getElem?_cons_zero]; exact rfl) (by kernel_rfl) (by kernel_rfl) (by kernel_rfl) (by intro _ _ _ h; exact h) (Or.inl ⟨by rfl, fun W hSw => ?_⟩) hHeld ?_
  rotate_left
  focus ((try dsimp only at hSw); first | (go_simp; done) | (go_simp; with_reducible rfl))
  try simp only [Act.put, List.setIfInBounds_toArray, List.set_cons_zero, List.set_cons_succ]
  refine wpAnyH_take (i := 3) (v := ?_) (by simp only [List.getElem?_toArray, List.getElem?_cons_succ, List.getElem?_cons_zero]; exact rfl) (by kernel_rfl) (by kernel_rfl) (by kernel_rfl) (by intro _ _ _ h; exact h) (Or.inl ⟨by rfl, fun W hSw => ?_⟩) hHeld ?_
  rotate_left
  focus ((try dsimp only at hSw); first | (go_simp; done) | (go_simp; with_reducible rfl))
  try simp only [Act.put, List.setIfInBounds_toArray, List.set_cons_zero, List.set_cons_succ]
  refine wpAnyH_take (i := 4) (v := ?_) (by simp only [List.getElem?_toArray, List.getElem?_cons_succ, List.getElem?_cons_zero]; exact rfl) (by kernel_rfl) (by kernel_rfl) (by kernel_rfl) (by intro _ _ _ h; exact h) (Or.inl ⟨by rfl, fun W hSw => ?_⟩) hHeld ?_
  rotate_left
  focus ((try dsimp only at hSw); first | (go_simp; done) | (go_simp; with_reducible rfl))
  try simp only [Act.put, List.setIfInBounds_toArray, List.set_cons_zero, List.set_cons_succ]
  refine wpAnyH_take (i := 5) (v := ?_) (by simp only [List.getElem?_toArray, List.getElem?_cons_succ, List.getElem?_cons_zero]; exact rfl) (by kernel_rfl) (by kernel_rfl) (by kernel_rfl) (by intro _ _ _ h; exact h) (Or.inl ⟨by rfl, fun W hSw => ?_⟩) hHeld ?_
  rotate_left
  focus ((try dsimp only at hSw); first | (go_simp; done) | (go_simp; with_reducible rfl))
  try simp only [Act.put, List.setIfInBounds_toArray, List.set_cons_zero, List.set_cons_succ]
  refine wpAnyH_take (i := 6) (v := ?_) (by simp only [List.getElem?_toArray, List.getElem?_cons_succ, List.getElem?_cons_zero]; exact rfl) (by kernel_rfl) (by kernel_rfl) (by kernel_rfl) (by intro _ _ _ h; exact h) (Or.inl ⟨by rfl, fun W hSw => ?_⟩) hHeld ?_
  rotate_left
  focus ((try dsimp only at hSw); first | (go_simp; done) | (go_simp; with_reducible rfl))
  try simp only [Act.put, List.setIfInBounds_toArray, List.set_cons_zero, List.set_cons_succ]
  refine wpAnyH_take (i := 7) (v := ?_) (by simp only [List.getElem?_toArray, List.getElem?_cons_succ, List.getElem?_cons_zero]; exact rfl) (by kernel_rfl) (by kernel_rfl) (by kernel_rfl) (by intro _ _ _ h; exact h) (Or.inl ⟨by rfl, fun W hSw => ?_⟩) hHeld ?_
  rotate_left
  focus ((try dsimp only at hSw); first | (go_simp; done) | (go_simp; with_reducible rfl))
  try simp only [Act.put, List.setIfInBounds_toArray, List.set_cons_zero, List.set_cons_succ]
  refine wpAnyH_take (i := 8) (v := ?_) (by simp only [List.getElem?_toArray, List.getElem?_cons_succ, List.getElem?_cons_zero]; exact rfl) (by kernel_rfl) (by kernel_rfl) (by kernel_rfl) (by intro _ _ _ h; exact h) (Or.inl ⟨by rfl, fun W hSw => ?_⟩) hHeld ?_
  rotate_left
  focus ((try dsimp only at hSw); first | (go_simp; done) | (go_simp; with_reducible rfl))
  try simp only [Act.put, List.setIfInBounds_toArray, List.set_cons_zero, List.set_cons_succ]
  refine wpAnyH_take (i := 9) (v := ?_) (by simp only [List.getElem?_toArray, List.getElem?_cons_succ, List.getElem?_cons_zero]; exact rfl) (by kernel_rfl) (by kernel_rfl) (by kernel_rfl) (by intro _ _ _ h; exact h) (Or.inl ⟨by rfl, fun W hSw => ?_⟩) hHeld ?_
  rotate_left
  focus ((try dsimp only at hSw); first | (go_simp; done) | (go_simp; with_reducible rfl))
  try simp only [Act.put, List.setIfInBounds_toArray, List.set_cons_zero, List.set_cons_succ]
  refine wpAnyH_take (i := 10) (v := ?_) (by simp only [List.getElem?_toArray, List.getElem?_cons_succ, List.getElem?_cons_zero]; exact rfl) (by kernel_rfl) (by kernel_rfl) (by kernel_rfl) (by intro _ _ _ h; exact h) (Or.inl ⟨by rfl, fun W hSw => ?_⟩) hHeld ?_
  rotate_left
  focus ((try dsimp only at hSw); first | (go_simp; done) | (go_simp; with_reducible rfl))
  try simp only [Act.put, List.setIfInBounds_toArray, List.set_cons_zero, List.set_cons_succ]
  refine wpAnyH_take (i := 11) (v := ?_) (by simp only [List.getElem?_toArray, List.getElem?_cons_succ, List.getElem?_cons_zero]; exact rfl) (by kernel_rfl) (by kernel_rfl) (by kernel_rfl) (by intro _ _ _ h; exact h) (Or.inl ⟨by rfl, fun W hSw => ?_⟩) hHeld ?_
  rotate_left
  focus ((try dsimp only at hSw); first | (go_simp; done) | (go_simp; with_reducible rfl))
  try simp only [Act.put, List.setIfInBounds_toArray, List.set_cons_zero, List.set_cons_succ]
  refine wpAnyH_take (i := 12) (v := ?_) (by simp only [List.getElem?_toArray, List.getElem?_cons_succ, List.getElem?_cons_zero]; exact rfl) (by kernel_rfl) (by kernel_rfl) (by kernel_rfl) (by intro _ _ _ h; exact h) (Or.inl ⟨by rfl, fun W hSw => ?_⟩) hHeld ?_
  rotate_left
  focus ((try dsimp only at hSw); first | (go_simp; done) | (go_simp; with_reducible rfl))
  try simp only [Act.put, List.setIfInBounds_toArray, List.set_cons_zero, List.set_cons_succ]
  refine wpAnyH_take (i := 13) (v := ?_) (by simp only [List.getElem?_toArray, List.getElem?_cons_succ, List.getElem?_cons_zero]; exact rfl) (by kernel_rfl) (by kernel_rfl) (by kernel_rfl) (by intro _ _ _ h; exact h) (Or.inl ⟨by rfl, fun W hSw => ?_⟩) hHeld ?_
  rotate_left
  focus ((try dsimp only at hSw); first | (go_simp; done) | (go_simp; with_reducible rfl))
  try simp only [Act.put, List.setIfInBounds_toArray, List.set_cons_zero, List.set_cons_succ]
  refine wpAnyH_take (i := 14) (v := ?_) (by simp only [List.getElem?_toArray, List.getElem?_cons_succ, List.getElem?_cons_zero]; exact rfl) (by kernel_rfl) (by kernel_rfl) (by kernel_rfl) (by intro _ _ _ h; exact h) (Or.inl ⟨by rfl, fun W hSw => ?_⟩) hHeld ?_
  rotate_left
  focus ((try dsimp only at hSw); first | (go_simp; done) | (go_simp; with_reducible rfl))
  try simp only [Act.put, List.setIfInBounds_toArray, List.set_cons_zero, List.set_cons_succ]
  refine wpAnyH_take (i := 15) (v := ?_) (by simp only [List.getElem?_toArray, List.getElem?_cons_succ, List.getElem?_cons_zero]; exact rfl) (by kernel_rfl) (by kernel_rfl) (by kernel_rfl) (by intro _ _ _ h; exact h) (Or.inl ⟨by rfl, fun W hSw => ?_⟩) hHeld ?_
  rotate_left
  focus ((try dsimp only at hSw); first | (go_simp; done) | (go_simp; with_reducible rfl))
  try simp only [Act.put, List.setIfInBounds_toArray, List.set_cons_zero, List.set_cons_succ]
  refine wpAnyH_take (i := 16) (v := ?_) (by simp only [List.getElem?_toArray, List.getElem?_cons_succ, List.getElem?_cons_zero]; exact rfl) (by kernel_rfl) (by kernel_rfl) (by kernel_rfl) (by intro _ _ _ h; exact h) (Or.inl ⟨by rfl, fun W hSw => ?_⟩) hHeld ?_
  rotate_left
  focus ((try dsimp only at hSw); first | (go_simp; done) | (go_simp; with_reducible rfl))
  try simp only [Act.put, List.setIfInBounds_toArray, List.set_cons_zero, List.set_cons_succ]
  refine wpAnyH_take (i := 17) (v := ?_) (by simp only [List.getElem?_toArray, List.getElem?_cons_succ, List.getElem?_cons_zero]; exact rfl) (by kernel_rfl) (by kernel_rfl) (by kernel_rfl) (by intro _ _ _ h; exact h) (Or.inl ⟨by rfl, fun W hSw => ?_⟩) hHeld ?_
  rotate_left
  focus ((try dsimp only at hSw); first | (go_simp; done) | (go_simp; with_reducible rfl))
  try simp only [Act.put, List.setIfInBounds_toArray, List.set_cons_zero, List.set_cons_succ]
  refine wpAnyH_take (i := 18) (v := ?_) (by simp only [List.getElem?_toArray, List.getElem?_cons_succ, List.getElem?_cons_zero]; exact rfl) (by kernel_rfl) (by kernel_rfl) (by kernel_rfl) (by intro _ _ _ h; exact h) (Or.inl ⟨by rfl, fun W hSw => ?_⟩) hHeld ?_
  rotate_left
  focus ((try dsimp only at hSw); first | (go_simp; done) | (go_simp; with_reducible rfl))
  try simp only [Act.put, List.setIfInBounds_toArray, List.set_cons_zero, List.set_cons_succ]
  refine wpAnyH_take (i := 19) (v := ?_) (by simp only [List.getElem?_toArray, List.getElem?_cons_succ, List.getElem?_cons_zero]; exact rfl) (by kernel_rfl) (by kernel_rfl) (by kernel_rfl) (by intro _ _ _ h; exact h) (Or.inl ⟨by rfl, fun W hSw => ?_⟩) hHeld ?_
  rotate_left
  focus ((try dsimp only at hSw); first | (go_simp; done) | (go_simp; with_reducible rfl))
  try simp only [Act.put, List.setIfInBounds_toArray, List.set_cons_zero, List.set_cons_succ]
  refine wpAnyH_take (i := 20) (v := ?_) (by simp only [List.getElem?_toArray, List.getElem?_cons_succ, List.getElem?_cons_zero]; exact rfl) (by kernel_rfl) (by kernel_rfl) (by kernel_rfl) (by intro _ _ _ h; exact h) (Or.inl ⟨by rfl, fun W hSw => ?_⟩) hHeld ?_
  rotate_left
  focus ((try dsimp only at hSw); first | (go_simp; done) | (go_simp; with_reducible rfl))
  try simp only [Act.put, List.setIfInBounds_toArray, List.set_cons_zero, List.set_cons_succ]
  refine wpAnyH_take (i := 21) (v := ?_) (by simp only [List.getElem?_toArray, List.getElem?_cons_succ, List.getElem?_cons_zero]; exact rfl) (by kernel_rfl) (by kernel_rfl) (by kernel_rfl) (by intro _ _ _ h; exact h) (Or.inl ⟨by rfl, fun W hSw => ?_⟩) hHeld ?_
  rotate_left
  focus ((try dsimp only at hSw); first | (go_simp; done) | (go_simp; with_reducible rfl))
  try simp only [Act.put, List.setIfInBounds_toArray, List.set_cons_zero, List.set_cons_succ]
  refine wpAnyH_take (i := 22) (v := ?_) (by simp only [List.getElem?_toArray, List.getElem?_cons_succ, List.getElem?_cons_zero]; exact rfl) (by kernel_rfl) (by kernel_rfl) (by kernel_rfl) (by intro _ _ _ h; exact h) (Or.inl ⟨by rfl, fun W hSw => ?_⟩) hHeld ?_
  rotate_left
  focus ((try dsimp only at hSw); first | (go_simp; done) | (go_simp; with_reducible rfl))
  try simp only [Act.put, List.setIfInBounds_toArray, List.set_cons_zero, List.set_cons_succ]
  refine wpAnyH_take (i := 23) (v := ?_) (by simp only [List.getElem?_toArray, List.getElem?_cons_succ, List.getElem?_cons_zero]; exact rfl) (by kernel_rfl) (by kernel_rfl) (by kernel_rfl) (by intro _ _ _ h; exact h) (Or.inl ⟨by rfl, fun W hSw => ?_⟩) hHeld ?_
  rotate_left
  focus ((try dsimp only at hSw); first | (go_simp; done) | (go_simp; with_reducible rfl))
  try simp only [Act.put, List.setIfInBounds_toArray, List.set_cons_zero, List.set_cons_succ]
  refine wpAnyH_take (i := 24) (v := ?_) (by simp only [List.getElem?_toArray, List.getElem?_cons_succ, List.getElem?_cons_zero]; exact rfl) (by kernel_rfl) (by kernel_rfl) (by kernel_rfl) (by intro _ _ _ h; exact h) (Or.inl ⟨by rfl, fun W hSw => ?_⟩) hHeld ?_
  rotate_left
  focus ((try dsimp only at hSw); first | (go_simp; done) | (go_simp; with_reducible rfl))
  try simp only [Act.put, List.setIfInBounds_toArray, List.set_cons_zero, List.set_cons_succ]
  refine wpAnyH_take (i := 25) (v := ?_) (by simp only [List.getElem?_toArray, List.getElem?_cons_succ, List.getElem?_cons_zero]; exact rfl) (by kernel_rfl) (by kernel_rfl) (by kernel_rfl) (by intro _ _ _ h; exact h) (Or.inl ⟨by rfl, fun W hSw => ?_⟩) hHeld ?_
  rotate_left
  focus ((try dsimp only at hSw); first | (go_simp; done) | (go_simp; with_reducible rfl))
  try simp only [Act.put, List.setIfInBounds_toArray, List.set_cons_zero, List.set_cons_succ]
  refine wpAnyH_take (i := 26) (v := ?_) (by simp only [List.getElem?_toArray, List.getElem?_cons_succ, List.getElem?_cons_zero]; exact rfl) (by kernel_rfl) (by kernel_rfl) (by kernel_rfl) (by intro _ _ _ h; exact h) (Or.inl ⟨by rfl, fun W hSw => ?_⟩) hHeld ?_
  rotate_left
  focus ((try dsimp only at hSw); first | (go_simp; done) | (go_simp; with_reducible rfl))
  try simp only [Act.put, List.setIfInBounds_toArray, List.set_cons_zero, List.set_cons_succ]
  refine wpAnyH_take (i := 27) (v := ?_) (by simp only [List.getElem?_toArray, List.getElem?_cons_succ, List.getElem?_cons_zero]; exact rfl) (by kernel_rfl) (by kernel_rfl) (by kernel_rfl) (by intro _ _ _ h; exact h) (Or.inl ⟨by rfl, fun W hSw => ?_⟩) hHeld ?_
  rotate_left
  focus ((try dsimp only at hSw); first | (go_simp; done) | (go_simp; with_reducible rfl))
  try simp only [Act.put, List.setIfInBounds_toArray, List.set_cons_zero, List.set_cons_succ]
  refine wpAnyH_take (i := 28) (v := ?_) (by simp only [List.getElem?_toArray, List.getElem?_cons_succ, List.getElem?_cons_zero]; exact rfl) (by kernel_rfl) (by kernel_rfl) (by kernel_rfl) (by intro _ _ _ h; exact h) (Or.inl ⟨by rfl, fun W hSw => ?_⟩) hHeld ?_
  rotate_left
  focus ((try dsimp only at hSw); first | (go_simp; done) | (go_simp; with_reducible rfl))
  try simp only [Act.put, List.setIfInBounds_toArray, List.set_cons_zero, List.set_cons_succ]
  refine wpAnyH_take (i := 29) (v := ?_) (by simp only [List.getElem?_toArray, List.getElem?_cons_succ, List.getElem?_cons_zero]; exact rfl) (by kernel_rfl) (by kernel_rfl) (by kernel_rfl) (by intro _ _ _ h; exact h) (Or.inl ⟨by rfl, fun W hSw => ?_⟩) hHeld ?_
  rotate_left
  focus ((try dsimp only at hSw); first | (go_simp; done) | (go_simp; with_reducible rfl))
  try simp only [Act.put, List.setIfInBounds_toArray, List.set_cons_zero, List.set_cons_succ]
  refine wpAnyH_take (i := 30) (v := ?_) (by simp only [List.getElem?_toArray, List.getElem?_cons_succ, List.getElem?_cons_zero]; exact rfl) (by kernel_rfl) (by kernel_rfl) (by kernel_rfl) (by intro _ _ _ h; exact h) (Or.inl ⟨by rfl, fun W hSw => ?_⟩) hHeld ?_
  rotate_left
  focus ((try dsimp only at hSw); first | (go_simp; done) | (go_simp; with_reducible rfl))
  try simp only [Act.put, List.setIfInBounds_toArray, List.set_cons_zero, List.set_cons_succ]
  refine wpAnyH_take (i := 31) (v := ?_) (by simp only [List.getElem?_toArray, List.getElem?_cons_succ, List.getElem?_cons_zero]; exact rfl) (by kernel_rfl) (by kernel_rfl) (by kernel_rfl) (by intro _ _ _ h; exact h) (Or.inl ⟨by rfl, fun W hSw => ?_⟩) hHeld ?_
  rotate_left
  focus ((try dsimp only at hSw); first | (go_simp; done) | (go_simp; with_reducible rfl))
  try simp only [Act.put, List.setIfInBounds_toArray, List.set_cons_zero, List.set_cons_succ]
  refine wpAnyH_ready (rs := [32]) (by kernel_rfl) (by simp) (AllReadyH.cons (by simp only [List.getElem?_toArray, List.getElem?_cons_succ, List.getElem?_cons_zero]; exact rfl) (fun K hK => ?_) AllReadyH.nil)
  rw [if_pos (by rfl)]
  go_simp
  refine (KL.out _).mono ?_; rintro e wl ⟨rfl, rfl⟩; go_wp2_with fail
  refine hK.out _ _ (hHeld) (fun hHeld => ?_)
  clear hK K
  try simp only [Act.put, List.setIfInBounds_toArray, List.set_cons_zero, List.set_cons_succ]
  refine wpAnyH_take (i := 33) (v := ?_) (by simp only [List.getElem?_toArray, List.getElem?_cons_succ, List.getElem?_cons_zero]; exact rfl) (by kernel_rfl) (by kernel_rfl) (by kernel_rfl) (by intro _ _ _ h; exact h) (Or.inl ⟨by rfl, fun W hSw => ?_⟩) hHeld ?_
  rotate_left
  focus ((try dsimp only at hSw); first | (go_simp; done) | (go_simp; with_reducible rfl))
  try simp only [Act.put, List.setIfInBounds_toArray, List.set_cons_zero, List.set_cons_succ]
  refine wpAnyH_take (i := 34) (v := ?_) (by simp only [List.getElem?_toArray, List.getElem?_cons_succ, List.getElem?_cons_zero]; exact rfl) (by kernel_rfl) (by kernel_rfl) (by kernel_rfl) (by intro _ _ _ h; exact h) (Or.inl ⟨by rfl, fun W hSw => ?_⟩) hHeld ?_
  rotate_left
  focus ((try dsimp only at hSw); first | (go_simp; done) | (go_simp; with_reducible rfl))
  try simp only [Act.put, List.setIfInBounds_toArray, List.set_cons_zero, List.set_cons_succ]
  refine wpAnyH_take (i := 35) (v := ?_) (by simp only [List.getElem?_toArray, List.getElem?_cons_succ, List.getElem?_cons_zero]; exact rfl) (by kernel_rfl) (by kernel_rfl) (by kernel_rfl) (by intro _ _ _ h; exact h) (Or.inl ⟨by rfl, fun W hSw => ?_⟩) hHeld ?_
  rotate_left
  focus ((try dsimp only at hSw); first | (go_simp; done) | (go_simp; with_reducible rfl))
  try simp only [Act.put, List.setIfInBounds_toArray, List.set_cons_zero, List.set_cons_succ]
  refine wpAnyH_take (i := 36) (v := ?_) (by simp only [List.getElem?_toArray, List.getElem?_cons_succ, List.getElem?_cons_zero]; exact rfl) (by kernel_rfl) (by kernel_rfl) (by kernel_rfl) (by intro _ _ _ h; exact h) (Or.inl ⟨by rfl, fun W hSw => ?_⟩) hHeld ?_
  rotate_left
  focus ((try dsimp only at hSw); first | (go_simp; done) | (go_simp; with_reducible rfl))
  try simp only [Act.put, List.setIfInBounds_toArray, List.set_cons_zero, List.set_cons_succ]
  refine wpAnyH_take (i := 37) (v := ?_) (by simp only [List.getElem?_toArray, List.getElem?_cons_succ, List.getElem?_cons_zero]; exact rfl) (by kernel_rfl) (by kernel_rfl) (by kernel_rfl) (by intro _ _ _ h; exact h) (Or.inl ⟨by rfl, fun W hSw => ?_⟩) hHeld ?_
  rotate_left
  focus ((try dsimp only at hSw); first | (go_simp; done) | (go_simp; with_reducible rfl))
  try simp only [Act.put, List.setIfInBounds_toArray, List.set_cons_zero, List.set_cons_succ]
  refine wpAnyH_take (i := 38) (v := ?_) (by simp only [List.getElem?_toArray, List.getElem?_cons_succ, List.getElem?_cons_zero]; exact rfl) (by kernel_rfl) (by kernel_rfl) (by kernel_rfl) (by intro _ _ _ h; exact h) (Or.inl ⟨by rfl, fun W hSw => ?_⟩) hHeld ?_
  rotate_left
  focus ((try dsimp only at hSw); first | (go_simp; done) | (go_simp; with_reducible rfl))
  try simp only [Act.put, List.setIfInBounds_toArray, List.set_cons_zero, List.set_cons_succ]
  refine wpAnyH_take (i := 39) (v := ?_) (by simp only [List.getElem?_toArray, List.getElem?_cons_succ, List.getElem?_cons_zero]; exact rfl) (by kernel_rfl) (by kernel_rfl) (by kernel_rfl) (by intro _ _ _ h; exact h) (Or.inl ⟨by rfl, fun W hSw => ?_⟩) hHeld ?_
  rotate_left
  focus ((try dsimp only at hSw); first | (go_simp; done) | (go_simp; with_reducible rfl))
  try simp only [Act.put, List.setIfInBounds_toArray, List.set_cons_zero, List.set_cons_succ]
  refine wpAnyH_take (i := 40) (v := ?_) (by simp only [List.getElem?_toArray, List.getElem?_cons_succ, List.getElem?_cons_zero]; exact rfl) (by kernel_rfl) (by kernel_rfl) (by kernel_rfl) (by intro _ _ _ h; exact h) (Or.inl ⟨by rfl, fun W hSw => ?_⟩) hHeld ?_
  rotate_left
  focus ((try dsimp only at hSw); first | (go_simp; done) | (go_simp; with_reducible rfl))
  try simp only [Act.put, List.setIfInBounds_toArray, List.set_cons_zero, List.set_cons_succ]
  refine wpAnyH_take (i := 41) (v := ?_) (by simp only [List.getElem?_toArray, List.getElem?_cons_succ, List.getElem?_cons_zero]; exact rfl) (by kernel_rfl) (by kernel_rfl) (by kernel_rfl) (by intro _ _ _ h; exact h) (Or.inl ⟨by rfl, fun W hSw => ?_⟩) hHeld ?_
  rotate_left
  focus ((try dsimp only at hSw); first | (go_simp; done) | (go_simp; with_reducible rfl))
  try simp only [Act.put, List.setIfInBounds_toArray, List.set_cons_zero, List.set_cons_succ]
  refine wpAnyH_take (i := 42) (v := ?_) (by simp only [List.getElem?_toArray, List.getElem?_cons_succ, List.getElem?_cons_zero]; exact rfl) (by kernel_rfl) (by kernel_rfl) (by kernel_rfl) (by intro _ _ _ h; exact h) (Or.inl ⟨by rfl, fun W hSw => ?_⟩) hHeld ?_
  rotate_left
  focus ((try dsimp only at hSw); first | (go_simp; done) | (go_simp; with_reducible rfl))
  try simp only [Act.put, List.setIfInBounds_toArray, List.set_cons_zero, List.set_cons_succ]
  refine wpAnyH_take (i := 43) (v := ?_) (by simp only [List.getElem?_toArray, List.getElem?_cons_succ, List.getElem?_cons_zero]; exact rfl) (by kernel_rfl) (by kernel_rfl) (by kernel_rfl) (by intro _ _ _ h; exact h) (Or.inl ⟨by rfl, fun W hSw => ?_⟩) hHeld ?_
  rotate_left
  focus ((try dsimp only at hSw); first | (go_simp; done) | (go_simp; with_reducible rfl))
  try simp only [Act.put, List.setIfInBounds_toArray, List.set_cons_zero, List.set_cons_succ]
  refine wpAnyH_take (i := 44) (v := ?_) (by simp only [List.getElem?_toArray, List.getElem?_cons_succ, List.getElem?_cons_zero]; exact rfl) (by kernel_rfl) (by kernel_rfl) (by kernel_rfl) (by intro _ _ _ h; exact h) (Or.inl ⟨by rfl, fun W hSw => ?_⟩) hHeld ?_
  rotate_left
  focus ((try dsimp only at hSw); first | (go_simp; done) | (go_simp; with_reducible rfl))
  try simp only [Act.put, List.setIfInBounds_toArray, List.set_cons_zero, List.set_cons_succ]
  refine wpAnyH_take (i := 45) (v := ?_) (by simp only [List.getElem?_toArray, List.getElem?_cons_succ, List.getElem?_cons_zero]; exact rfl) (by kernel_rfl) (by kernel_rfl) (by kernel_rfl) (by intro _ _ _ h; exact h) (Or.inl ⟨by rfl, fun W hSw => ?_⟩) hHeld ?_
  rotate_left
  focus ((try dsimp only at hSw); first | (go_simp; done) | (go_simp; with_reducible rfl))
  try simp only [Act.put, List.setIfInBounds_toArray, List.set_cons_zero, List.set_cons_succ]
  refine wpAnyH_take (i := 46) (v := ?_) (by simp only [List.getElem?_toArray, List.getElem?_cons_succ, List.getElem?_cons_zero]; exact rfl) (by kernel_rfl) (by kernel_rfl) (by kernel_rfl) (by intro _ _ _ h; exact h) (Or.inl ⟨by rfl, fun W hSw => ?_⟩) hHeld ?_
  rotate_left
  focus ((try dsimp only at hSw); first | (go_simp; done) | (go_simp; with_reducible rfl))
  try simp only [Act.put, List.setIfInBounds_toArray, List.set_cons_zero, List.set_cons_succ]
  refine wpAnyH_take (i := 47) (v := ?_) (by simp only [List.getElem?_toArray, List.getElem?_cons_succ, List.getElem?_cons_zero]; exact rfl) (by kernel_rfl) (by kernel_rfl) (by kernel_rfl) (by intro _ _ _ h; exact h) (Or.inl ⟨by rfl, fun W hSw => ?_⟩) hHeld ?_
  rotate_left
  focus ((try dsimp only at hSw); first | (go_simp; done) | (go_simp; with_reducible rfl))
  try simp only [Act.put, List.setIfInBounds_toArray, List.set_cons_zero, List.set_cons_succ]
  refine wpAnyH_take (i := 48) (v := ?_) (by simp only [List.getElem?_toArray, List.getElem?_cons_succ, List.getElem?_cons_zero]; exact rfl) (by kernel_rfl) (by kernel_rfl) (by kernel_rfl) (by intro _ _ _ h; exact h) (Or.inl ⟨by rfl, fun W hSw => ?_⟩) hHeld ?_
  rotate_left
  focus ((try dsimp only at hSw); first | (go_simp; done) | (go_simp; with_reducible rfl))
  try simp only [Act.put, List.setIfInBounds_toArray, List.set_cons_zero, List.set_cons_succ]
  refine wpAnyH_take (i := 49) (v := ?_) (by simp only [List.getElem?_toArray, List.getElem?_cons_succ, List.getElem?_cons_zero]; exact rfl) (by kernel_rfl) (by kernel_rfl) (by kernel_rfl) (by intro _ _ _ h; exact h) (Or.inl ⟨by rfl, fun W hSw => ?_⟩) hHeld ?_
  rotate_left
  focus ((try dsimp only at hSw); first | (go_simp; done) | (go_simp; with_reducible rfl))
  try simp only [Act.put, List.setIfInBounds_toArray, List.set_cons_zero, List.set_cons_succ]
  refine wpAnyH_take (i := 50) (v := ?_) (by simp only [List.getElem?_toArray, List.getElem?_cons_succ, List.getElem?_cons_zero]; exact rfl) (by kernel_rfl) (by kernel_rfl) (by kernel_rfl) (by intro _ _ _ h; exact h) (Or.inl ⟨by rfl, fun W hSw => ?_⟩) hHeld ?_
  rotate_left
  focus ((try dsimp only at hSw); first | (go_simp; done) | (go_simp; with_reducible rfl))
  try simp only [Act.put, List.setIfInBounds_toArray, List.set_cons_zero, List.set_cons_succ]
  refine wpAnyH_take (i := 51) (v := ?_) (by simp only [List.getElem?_toArray, List.getElem?_cons_succ, List.getElem?_cons_zero]; exact rfl) (by kernel_rfl) (by kernel_rfl) (by kernel_rfl) (by intro _ _ _ h; exact h) (Or.inl ⟨by rfl, fun W hSw => ?_⟩) hHeld ?_
  rotate_left
  focus ((try dsimp only at hSw); first | (go_simp; done) | (go_simp; with_reducible rfl))
  try simp only [Act.put, List.setIfInBounds_toArray, List.set_cons_zero, List.set_cons_succ]
  refine wpAnyH_take (i := 52) (v := ?_) (by simp only [List.getElem?_toArray, List.getElem?_cons_succ, List.getElem?_cons_zero]; exact rfl) (by kernel_rfl) (by kernel_rfl) (by kernel_rfl) (by intro _ _ _ h; exact h) (Or.inl ⟨by rfl, fun W hSw => ?_⟩) hHeld ?_
  rotate_left
  focus ((try dsimp only at hSw); first | (go_simp; done) | (go_simp; with_reducible rfl))
  try simp only [Act.put, List.setIfInBounds_toArray, List.set_cons_zero, List.set_cons_succ]
  refine wpAnyH_take (i := 53) (v := ?_) (by simp only [List.getElem?_toArray, List.getElem?_cons_succ, List.getElem?_cons_zero]; exact rfl) (by kernel_rfl) (by kernel_rfl) (by kernel_rfl) (by intro _ _ _ h; exact h) (Or.inl ⟨by rfl, fun W hSw => ?_⟩) hHeld ?_
  rotate_left
  focus ((try dsimp only at hSw); first | (go_simp; done) | (go_simp; with_reducible rfl))
  try simp only [Act.put, List.setIfInBounds_toArray, List.set_cons_zero, List.set_cons_succ]
  refine wpAnyH_take (i := 54) (v := ?_) (by simp only [List.getElem?_toArray, List.getElem?_cons_succ, List.getElem?_cons_zero]; exact rfl) (by kernel_rfl) (by kernel_rfl) (by kernel_rfl) (by intro _ _ _ h; exact h) (Or.inl ⟨by rfl, fun W hSw => ?_⟩) hHeld ?_
  rotate_left
  focus ((try dsimp only at hSw); first | (go_simp; done) | (go_simp; with_reducible rfl))
  try simp only [Act.put, List.setIfInBounds_toArray, List.set_cons_zero, List.set_cons_succ]
  refine wpAnyH_take (i := 55) (v := ?_) (by simp only [List.getElem?_toArray, List.getElem?_cons_succ, List.getElem?_cons_zero]; exact rfl) (by kernel_rfl) (by kernel_rfl) (by kernel_rfl) (by intro _ _ _ h; exact h) (Or.inl ⟨by rfl, fun W hSw => ?_⟩) hHeld ?_
  rotate_left
  focus ((try dsimp only at hSw); first | (go_simp; done) | (go_simp; with_reducible rfl))
  try simp only [Act.put, List.setIfInBounds_toArray, List.set_cons_zero, List.set_cons_succ]
  refine wpAnyH_done (by kernel_rfl) ?_ _
  clear hHeld
  have ka := fun w' => dahead_any Y (by omega) w'
  have hab := dahead_ge Y (by omega)
  have KA := Lib.hid ka
  clear ka
  obtain ⟨AH, hAH⟩ : ∃ AH, dahead Y = AH := ⟨_, rfl⟩
  rw [hAH] at KA hab
  have HAH := Lib.hid hAH
  clear hAH
  have v1 : IntKind.i64.wrap (AH + m.day) = AH + m.day := by rw [IntKind.wrap_i64]; omega
  have v2 : IntKind.i64.wrap (AH + m.day - 1) = AH + m.day - 1 := by rw [IntKind.wrap_i64]; omega
  go_wp2_with fail
  refine wp_region_held_drew (S := (fun w' => w'.cell? ⟨mb, 0, none⟩ = some (.int .i64 m.wd) ∧ w'.cell? ⟨mb, 1, none⟩ = some (.int .i64 m.day) ∧ w'.cell? ⟨mb, 2, none⟩ = some (.int .i64 m.month) ∧ w'.cell? ⟨mb, 3, none⟩ = some (.int .i64 Y) ∧ w'.cell? ⟨mb, 4, none⟩ = some (.int .i64 m.hour) ∧ w'.cell? ⟨mb, 5, none⟩ = some (.int .i64 m.minute) ∧ w'.cell? ⟨mb, 6, none⟩ = some (.int .i64 m.second))) (by kernel_rfl) (⟨c0, c1, c2, c3, c4, c5, c6⟩) (fun hHeld => ?_)
  refine wpAnyH_take (i := 0) (v := ?_) (by simp only [List.getElem?_toArray, List.getElem?_cons_zero]; exact rfl) (by kernel_rfl) (by kernel_rfl) (by kernel_rfl) (by intro _ _ _ h; exact h) (Or.inl ⟨by rfl, fun W hSw => ?_⟩) hHeld ?_
  rotate_left
  focus ((try dsimp only at hSw); first | (go_simp; done) | (go_simp; with_reducible rfl))
  try simp only [Act.put, List.setIfInBounds_toArray, List.set_cons_zero, List.set_cons_succ]
  refine wpAnyH_take (i := 1) (v := ?_) (by simp only [List.getElem?_toArray, List.getElem?_cons_succ, List.getElem?_cons_zero]; exact rfl) (by kernel_rfl) (by kernel_rfl) (by kernel_rfl) (by intro _ _ _ h; exact h) (Or.inl ⟨by rfl, fun W hSw => ?_⟩) hHeld ?_
  rotate_left
  focus ((try dsimp only at hSw); first | (go_simp; done) | (go_simp; with_reducible rfl))
  try simp only [Act.put, List.setIfInBounds_toArray, List.set_cons_zero, List.set_cons_succ]
  refine wpAnyH_take (i := 2) (v := ?_) (by simp only [List.getElem?_toArray, List.getElem?_cons_succ, List.getElem?_cons_zero]; exact rfl) (by kernel_rfl) (by kernel_rfl) (by kernel_rfl) (by intro _ _ _ h; exact h) (Or.inl ⟨by rfl, fun W hSw => ?_⟩) hHeld ?_
  rotate_left
  focus ((try dsimp only at hSw); first | (go_simp; done) | (go_simp; with_reducible rfl))
  try simp only [Act.put, List.setIfInBounds_toArray, List.set_cons_zero, List.set_cons_succ]
  refine wpAnyH_take (i := 3) (v := ?_) (by simp only [List.getElem?_toArray, List.getElem?_cons_succ, List.getElem?_cons_zero]; exact rfl) (by kernel_rfl) (by kernel_rfl) (by kernel_rfl) (by intro _ _ _ h; exact h) (Or.inl ⟨by rfl, fun W hSw => ?_⟩) hHeld ?_
  rotate_left
  focus ((try dsimp only at hSw); first | (go_simp; done) | (go_simp; with_reducible rfl))
  try simp only [Act.put, List.setIfInBounds_toArray, List.set_cons_zero, List.set_cons_succ]
  refine wpAnyH_take (i := 5) (v := ?_) (by simp only [List.getElem?_toArray, List.getElem?_cons_succ, List.getElem?_cons_zero]; exact rfl) (by kernel_rfl) (by kernel_rfl) (by kernel_rfl) (by intro _ _ _ h; exact h) (Or.inl ⟨by rfl, fun W hSw => ?_⟩) hHeld ?_
  rotate_left
  focus ((try dsimp only at hSw); first | (go_simp; done) | (go_simp; with_reducible rfl))
  try simp only [Act.put, List.setIfInBounds_toArray, List.set_cons_zero, List.set_cons_succ]
  refine wpAnyH_take (i := 6) (v := ?_) (by simp only [List.getElem?_toArray, List.getElem?_cons_succ, List.getElem?_cons_zero]; exact rfl) (by kernel_rfl) (by kernel_rfl) (by kernel_rfl) (by intro _ _ _ h; exact h) (Or.inl ⟨by rfl, fun W hSw => ?_⟩) hHeld ?_
  rotate_left
  focus ((try dsimp only at hSw); first | (go_simp; done) | (go_simp; with_reducible rfl))
  try simp only [Act.put, List.setIfInBounds_toArray, List.set_cons_zero, List.set_cons_succ]
  refine wpAnyH_take (i := 7) (v := ?_) (by simp only [List.getElem?_toArray, List.getElem?_cons_succ, List.getElem?_cons_zero]; exact rfl) (by kernel_rfl) (by kernel_rfl) (by kernel_rfl) (by intro _ _ _ h; exact h) (Or.inl ⟨by rfl, fun W hSw => ?_⟩) hHeld ?_
  rotate_left
  focus ((try dsimp only at hSw); first | (go_simp; done) | (go_simp; with_reducible rfl))
  try simp only [Act.put, List.setIfInBounds_toArray, List.set_cons_zero, List.set_cons_succ]
  refine wpAnyH_take (i := 8) (v := ?_) (by simp only [List.getElem?_toArray, List.getElem?_cons_succ, List.getElem?_cons_zero]; exact rfl) (by kernel_rfl) (by kernel_rfl) (by kernel_rfl) (by intro _ _ _ h; exact h) (Or.inl ⟨by rfl, fun W hSw => ?_⟩) hHeld ?_
  rotate_left
  focus ((try dsimp only at hSw); first | (go_simp; done) | (go_simp; with_reducible rfl))
  try simp only [Act.put, List.setIfInBounds_toArray, List.set_cons_zero, List.set_cons_succ]
  refine wpAnyH_ready (rs := [4]) (by kernel_rfl) (by simp) (AllReadyH.cons (by simp only [List.getElem?_toArray, List.getElem?_cons_succ, List.getElem?_cons_zero]; exact rfl) (fun K hK => ?_) AllReadyH.nil)
  rw [if_pos (by rfl)]
  go_simp
  refine (KA.out _).mono ?_; rintro e wl ⟨rfl, rfl⟩; go_wp2_with fail
  refine hK.out _ _ (hHeld) (fun hHeld => ?_)
  clear hK K
  try simp only [Act.put, List.setIfInBounds_toArray, List.set_cons_zero, List.set_cons_succ]
  refine wpAnyH_take (i := 9) (v := ?_) (by simp only [List.getElem?_toArray, List.getElem?_cons_succ, List.getElem?_cons_zero]; exact rfl) (by kernel_rfl) (by kernel_rfl) (by kernel_rfl) (by intro _ _ _ h; exact h) (Or.inl ⟨by rfl, fun W hSw => ?_⟩) hHeld ?_
  rotate_left
  focus ((try dsimp only at hSw); first | (go_simp; done) | (go_simp; with_reducible rfl))
  try simp only [Act.put, List.setIfInBounds_toArray, List.set_cons_zero, List.set_cons_succ]
  refine wpAnyH_take (i := 10) (v := ?_) (by simp only [List.getElem?_toArray, List.getElem?_cons_succ, List.getElem?_cons_zero]; exact rfl) (by kernel_rfl) (by kernel_rfl) (by kernel_rfl) (by intro _ _ _ h; exact h) (Or.inl ⟨by rfl, fun W hSw => ?_⟩) hHeld ?_
  rotate_left
  focus ((try dsimp only at hSw); first | (go_simp; done) | (go_simp; with_reducible rfl))
  try simp only [Act.put, List.setIfInBounds_toArray, List.set_cons_zero, List.set_cons_succ]
  refine wpAnyH_take (i := 11) (v := ?_) (by simp only [List.getElem?_toArray, List.getElem?_cons_succ, List.getElem?_cons_zero]; exact rfl) (by kernel_rfl) (by kernel_rfl) (by kernel_rfl) (by intro _ _ _ h; exact h) (Or.inl ⟨by rfl, fun W hSw => ?_⟩) hHeld ?_
  rotate_left
  focus ((try dsimp only at hSw); first | (go_simp; done) | (go_simp; with_reducible rfl))
  try simp only [Act.put, List.setIfInBounds_toArray, List.set_cons_zero, List.set_cons_succ]
  refine wpAnyH_done (by kernel_rfl) ?_ _
  clear hHeld
  go_wp2_with fail
  go_loopw [9, 10] (fun d k wr => ∃ j : Nat, k = .int .i64 ((j : Int) + 1) ∧ j ≤ m.month.toNat - 1 ∧ d = .int .i64 (AH + m.day - 1 + dmons Y j) ∧ ∃ q, wr = WZ.drewN q) (fun _ k _ => 20 - (intD k).toNat)
  case atStart => exact ⟨0, rfl, Nat.zero_le _, by simp [dmons], 2, rfl⟩
  case round =>
    obtain ⟨j, rfl, hj, rfl, q, rfl⟩ := hrel
    have hdm := dmons_le Y j
    have hj12 : j ≤ 12 := by omega
    by_cases hjm : (j : Int) + 1 < m.month
    · have t8 : decide ((j : Int) + 1 < m.month) = true := by simpa using hjm
      have kj := dlong_any Y ((j : Int) + 1) hYb (WZ.drewN q)
      have hjl := dlong_le Y ((j : Int) + 1)
      have hdn : dmons Y (j + 1) = dmons Y j + dlong Y ((j : Int) + 1) := rfl
      have u1 : IntKind.i64.wrap (AH + m.day - 1 + dmons Y j + dlong Y ((j : Int) + 1)) = AH + m.day - 1 + dmons Y j + dlong Y ((j : Int) + 1) := by rw [IntKind.wrap_i64]; omega
      have u2 : IntKind.i64.wrap ((j : Int) + 1 + 1) = (j : Int) + 1 + 1 := by rw [IntKind.wrap_i64]; omega
      have KJ := Lib.hid kj; have HDN := Lib.hid hdn
      clear kj hdn
      go_wp2_with fail
      (with_reducible refine KJ.out.mono ?_)
      rintro e wl ⟨rfl, rfl⟩
      go_wp2
      go_roundw
      case rel => exact ⟨j + 1, rfl, by omega, by rw [HDN.out, ← Int.add_assoc], q, rfl⟩
      case measure => simp [intD]; omega
    · have t8 : decide ((j : Int) + 1 < m.month) = false := by simpa using hjm
      have hje : j = m.month.toNat - 1 := by omega
      obtain ⟨D, hD⟩ : ∃ D, AH + m.day - 1 + dmons Y j = D := ⟨_, rfl⟩
      have hDb : 0 ≤ D ∧ D ≤ 10000000 := by omega
      have hRD : R = if D % 7 ≠ m.wd then (0, false) else (D * 86400 + m.hour * 3600 + m.minute * 60 + m.second, true) := by
        rw [HRT.out, HAH.out, ← hje, hD]
      have em : D.tmod 7 = D % 7 := Int.tmod_eq_emod_of_nonneg hDb.1
      rw [hD]
      have HRD := Lib.hid hRD
      have HBE : Hid (ButB mb wy (WZ.drewN q)) := Lib.hid (HBT.out.drewN q)
      clear hje hRD hD hdm hj HRT
      by_cases hwd : D % 7 = m.wd
      · have hR2 : R = (D * 86400 + m.hour * 3600 + m.minute * 60 + m.second, true) := by rw [HRD.out, if_neg (by simpa using hwd)]
        have b1 : (D % 7 == m.wd) = true := by simpa using hwd
        have x1 : IntKind.i64.wrap (D * 86400) = D * 86400 := by rw [IntKind.wrap_i64]; omega
        have x2 : IntKind.i64.wrap (m.hour * 3600) = m.hour * 3600 := by rw [IntKind.wrap_i64]; omega
        have x3 : IntKind.i64.wrap (D * 86400 + m.hour * 3600) = D * 86400 + m.hour * 3600 := by rw [IntKind.wrap_i64]; omega
        have x4 : IntKind.i64.wrap (m.minute * 60) = m.minute * 60 := by rw [IntKind.wrap_i64]; omega
        have x5 : IntKind.i64.wrap (D * 86400 + m.hour * 3600 + m.minute * 60) = D * 86400 + m.hour * 3600 + m.minute * 60 := by rw [IntKind.wrap_i64]; omega
        have x6 : IntKind.i64.wrap (D * 86400 + m.hour * 3600 + m.minute * 60 + m.second) = D * 86400 + m.hour * 3600 + m.minute * 60 + m.second := by rw [IntKind.wrap_i64]; omega
        have HR2 := Lib.hid hR2
        clear hR2
        go_wp2
        go_region
        go_wp2
        go_ret2
        exact ⟨by rw [HR2.out]; rfl, HBE.out.drewN 1⟩
      · have hR2 : R = (0, false) := by rw [HRD.out, if_pos hwd]
        have b1 : (D % 7 == m.wd) = false := by simpa using hwd
        have HR2 := Lib.hid hR2
        clear hR2
        go_wp2
        go_ret2
        exact ⟨by rw [HR2.out]; rfl, HBE.out⟩
end Go.Proofs.YtgmmjhcklhajiaaGreatDoor
/- Dates: all pieces; a text's letters one by one; what a date's pieces can be. -/
namespace Go.Proofs.YtgmmjhcklhajiaaGreatDoor
open Go.RowKit
set_option maxRecDepth 100000

def dletters : List Nat := [119, 87, 68, 69, 109, 89, 121, 72, 73, 83, 44, 32, 58, 71, 77, 84, 45]
theorem dtake_any (c : Nat) (hc : c ∈ dletters) (mb : Nat) (m : Mom) (s : ByteArray) (w : World) (hE : DEnv w) (hm : MomAt mb m w) :
    Calls Tryz.prog 152 #[.pointer (some ⟨mb, 0, none⟩), .int .i32 c, .string s] w fun e w' => e = .returned (.tuple #[.string ⟨(dtake m c s.data.toList).2.1.toArray⟩, .bool (dtake m c s.data.toList).2.2]) ∧ ButB mb w w' ∧ MomAt mb (dtake m c s.data.toList).1 w' := by
  unfold dletters at hc
  simp only [List.mem_cons, List.not_mem_nil, or_false] at hc
  rcases hc with rfl | rfl | rfl | rfl | rfl | rfl | rfl | rfl | rfl | rfl | rfl | rfl | rfl | rfl | rfl | rfl | rfl
  · exact dtake119_any mb m s w hE hm
  · exact dtake87_any mb m s w hE hm
  · exact dtake68_any mb m s w hE hm
  · exact dtake69_any mb m s w hE hm
  · exact dtake109_any mb m s w hE hm
  · exact dtake89_any mb m s w hE hm
  · exact dtake121_any mb m s w hE hm
  · exact dtake72_any mb m s w hE hm
  · exact dtake73_any mb m s w hE hm
  · exact dtake83_any mb m s w hE hm
  · exact dtake44_any mb m s w hE hm
  · exact dtake32_any mb m s w hE hm
  · exact dtake58_any mb m s w hE hm
  · exact dtake71_any mb m s w hE hm
  · exact dtake77_any mb m s w hE hm
  · exact dtake84_any mb m s w hE hm
  · exact dtake45_any mb m s w hE hm
/-- The iterator of a text, wherever it lies. -/
def stepI (w : World) (ib : Nat) (s : ByteArray) (p : Nat) : World := { w with heap := w.heap.setIfInBounds ib (.stringIter s p) }
theorem run_next_at {P : Program} (w : World) (ib : Nat) (s : ByteArray) (pos : Nat) (ty : TypeId) (hi : w.heap[ib]? = some (.stringIter s pos)) (h : pos < s.size) (ha : (s[pos]'h).toNat < 128) :
    (Instr.next (.pointer (some ⟨ib, 0, none⟩)) true ty).run P w = .ok (.tuple #[.bool true, .int .i64 pos, .int .i32 (s[pos]'h).toNat]) (stepI w ib s (pos + 1)) := by
  simp only [Instr.next, getObj, setObj, Sem.run_bind, Sem.run, hi, Result.andThen, h, if_true, decode_ascii s pos h ha]
  have hl : ib < w.heap.size := by
    rcases Nat.lt_or_ge ib w.heap.size with h' | h'
    · exact h'
    · simp [Array.getElem?_eq_none h'] at hi
  simp [goInt, stepI]
theorem run_next_stop {P : Program} (w : World) (ib : Nat) (s : ByteArray) (pos : Nat) (ty : TypeId) (hi : w.heap[ib]? = some (.stringIter s pos)) (h : ¬ pos < s.size) :
    (Instr.next (.pointer (some ⟨ib, 0, none⟩)) true ty).run P w = .ok (.tuple #[.bool false]) w := by
  simp [Instr.next, getObj, Sem.run, hi, h]
theorem stepI_same {w : World} {ib p : Nat} {s : ByteArray} (h : ib < w.heap.size) : (stepI w ib s p).heap[ib]? = some (.stringIter s p) := by
  unfold stepI; simp [h]
theorem stepI_other {w : World} {ib p b : Nat} {s : ByteArray} (h : b ≠ ib) : (stepI w ib s p).heap[b]? = w.heap[b]? := by
  unfold stepI; simp [Array.getElem?_setIfInBounds]; intro e; exact absurd e.symm h
theorem stepI_but (w : World) (ib p : Nat) (s : ByteArray) : ButB ib w (stepI w ib s p) := ⟨rfl, rfl, rfl, by simp [stepI], fun _ _ hn => stepI_other hn⟩

theorem dnum4 (l : List UInt8) (h : l.all dg = true) (n : Nat) (hn : l.length ≤ n) (h4 : n = 1 ∨ n = 2 ∨ n = 4) : 0 ≤ dnum l 0 ∧ dnum l 0 ≤ 9999 ∧ (n ≤ 2 → dnum l 0 ≤ 99) := by
  have hb := dnum_le l h 0 (by omega)
  generalize hL : l.length = L at *
  have : L = 0 ∨ L = 1 ∨ L = 2 ∨ L = 3 ∨ L = 4 := by omega
  rcases this with rfl | rfl | rfl | rfl | rfl <;> simp at hb <;> omega
theorem dnumL_le (s : List UInt8) (n : Nat) (h4 : n = 1 ∨ n = 2 ∨ n = 4) : 0 ≤ (dnumL s n).1 ∧ (dnumL s n).1 ≤ 9999 ∧ (n ≤ 2 → (dnumL s n).1 ≤ 99) := by
  unfold dnumL
  cases decide (s.length < n)
  · cases hd : (s.take n).all dg
    · simp
    · simp only [cond_false, cond_true]
      exact dnum4 (s.take n) hd n (by rw [List.length_take]; omega) h4
  · simp
theorem dname_le (s : List UInt8) (n : Nat) : ∀ (ls : List (List UInt8)) (i : Nat), i + ls.length ≤ 7 → 0 ≤ (dname s n ls i).1 ∧ (dname s n ls i).1 ≤ 6
  | [], i, h => by simp [dname]
  | x :: r, i, h => by
    have ih := dname_le s n r (i + 1) (by rw [List.length_cons] at h; omega)
    rw [dname]
    cases Lib.hasPrefix s (bif decide (0 < n) then x.take n else x)
    · exact ih
    · simp only [cond_true]
      rw [List.length_cons] at h
      omega
theorem dtake_ok {m : Mom} (h : MomOk m) (c : Nat) (hc : c ∈ dletters) (s : List UInt8) (h2 : c = 89 → m.two = false) : MomOk (dtake m c s).1 ∧ (c ≠ 121 → (dtake m c s).1.two = m.two) := by
  have n1 := dnumL_le (s.drop 1) 1 (by omega)
  have n2 := dnumL_le s 2 (by omega)
  have n4 := dnumL_le s 4 (by omega)
  have d0 := dname_le s 0 ddays 0 (by decide)
  have d3 := dname_le s 3 ddays 0 (by decide)
  have hx := dindex_range dmonths (s.take 3)
  have hml : dmonths.length = 36 := rfl
  rw [hml] at hx
  obtain ⟨a1, a2, a3, a4, a5, a6, a7, a8⟩ := h
  unfold dletters at hc
  simp only [List.mem_cons, List.not_mem_nil, or_false] at hc
  unfold dtake
  rcases hc with rfl | rfl | rfl | rfl | rfl | rfl | rfl | rfl | rfl | rfl | rfl | rfl | rfl | rfl | rfl | rfl | rfl
  all_goals simp only [Nat.reduceEqDiff, if_true, if_false]
  · exact ⟨⟨by simp only; omega, a2, a3, a4, a5, a6, a7, a8⟩, fun _ => by first | rfl | trivial⟩
  · exact ⟨⟨by simp only; omega, a2, a3, a4, a5, a6, a7, a8⟩, fun _ => by first | rfl | trivial⟩
  · exact ⟨⟨a1, by simp only; omega, a3, a4, a5, a6, a7, a8⟩, fun _ => by first | rfl | trivial⟩
  · split
    · exact ⟨⟨a1, by simp only; omega, a3, a4, a5, a6, a7, a8⟩, fun _ => by first | rfl | trivial⟩
    · exact ⟨⟨a1, by simp only; omega, a3, a4, a5, a6, a7, a8⟩, fun _ => by first | rfl | trivial⟩
  · split
    · exact ⟨⟨a1, a2, a3, a4, a5, a6, a7, a8⟩, fun _ => by first | rfl | trivial⟩
    · exact ⟨⟨a1, a2, by simp only; omega, a4, a5, a6, a7, a8⟩, fun _ => by first | rfl | trivial⟩
  · exact ⟨⟨a1, a2, a3, by simp only; omega, a5, a6, a7, fun h => by rw [h2 rfl] at h; cases h⟩, fun _ => by first | rfl | trivial⟩
  · exact ⟨⟨a1, a2, a3, by simp only; omega, a5, a6, a7, fun _ => by simp only; omega⟩, fun h => by first | exact absurd rfl h | simp at h⟩
  · exact ⟨⟨a1, a2, a3, a4, by simp only; omega, a6, a7, a8⟩, fun _ => by first | rfl | trivial⟩
  · exact ⟨⟨a1, a2, a3, a4, a5, by simp only; omega, a7, a8⟩, fun _ => by first | rfl | trivial⟩
  · exact ⟨⟨a1, a2, a3, a4, a5, a6, by simp only; omega, a8⟩, fun _ => by first | rfl | trivial⟩
  all_goals
    split <;> exact ⟨⟨a1, a2, a3, a4, a5, a6, a7, a8⟩, fun _ => by first | rfl | trivial⟩
end Go.Proofs.YtgmmjhcklhajiaaGreatDoor
/- Dates: the walk of date.Parse. -/
namespace Go.Proofs.YtgmmjhcklhajiaaGreatDoor
open Go.RowKit
set_option maxRecDepth 100000

def dfs : List (List UInt8) := [dform0, dform1, dform2]
theorem dtick_any (mb : Nat) (m : Mom) (now : Int) (w : World) (hm : MomAt mb m w) (ho : MomOk m) :
    Calls Tryz.prog 153 #[.pointer (some ⟨mb, 0, none⟩), .int .i64 now] w (TickPost mb w (dtick m now)) := by
  cases h : m.two
  · exact dtick_one mb m now w hm ho h
  · exact dtick_two mb m now w hm ho h
/-- A form's letters. -/
def FormOk (f : List UInt8) : Prop := (∀ c ∈ f, c.toNat ∈ dletters) ∧ ((∃ c ∈ f, c.toNat = 89) → ∀ c ∈ f, c.toNat ≠ 121)
theorem dfs_ok : ∀ f ∈ dfs, FormOk f := by
  have h1 : (dfs.all fun f => (f.all fun c => dletters.contains c.toNat) && (!(f.any fun c => c.toNat == 89) || f.all fun c => c.toNat != 121)) = true := by decide +kernel
  intro f hf
  have h2 := List.all_eq_true.1 h1 f hf
  rw [Bool.and_eq_true] at h2
  refine ⟨fun c hc => by simpa using List.all_eq_true.1 h2.1 c hc, fun ⟨c, hc, h89⟩ c' hc' => ?_⟩
  have hany : (f.any fun c => c.toNat == 89) = true := List.any_eq_true.2 ⟨c, hc, by simpa using h89⟩
  rw [hany] at h2
  have h3 := h2.2
  simp only [Bool.not_true, Bool.false_or] at h3
  simpa using List.all_eq_true.1 h3 c' hc'
theorem dpieces_ok : ∀ (f : List UInt8) (m : Mom) (s : List UInt8) (m' : Mom) (r : List UInt8), (∀ c ∈ f, c.toNat ∈ dletters) → ((∃ c ∈ f, c.toNat = 89) → m.two = false ∧ ∀ c ∈ f, c.toNat ≠ 121) → MomOk m → dpieces f m s = some (m', r) → MomOk m'
  | [], m, s, m', r, _, _, h, e => by
    rw [dpieces] at e
    cases e
    exact h
  | c :: f, m, s, m', r, hl, hy, h, e => by
    rw [dpieces] at e
    have hk := dtake_ok h c.toNat (hl c (by simp)) s (fun h89 => (hy ⟨c, by simp, h89⟩).1)
    cases hs : (dtake m c.toNat s).2.2
    · rw [hs] at e; cases e
    · rw [hs] at e
      refine dpieces_ok f _ _ m' r (fun c' hc' => hl c' (by simp [hc'])) (fun ⟨c', hc', h89⟩ => ?_) hk.1 e
      have h2 := hy ⟨c', by simp [hc'], h89⟩
      have hne : c.toNat ≠ 121 := h2.2 c (by simp)
      exact ⟨(hk.2 hne).trans h2.1, fun c'' hc'' => h2.2 c'' (by simp [hc''])⟩
theorem mom0_ok : MomOk mom0 := ⟨by decide, by decide, by decide, by decide, by decide, by decide, by decide, by intro h; cases h⟩
theorem dforms_any (w : World) :
    Calls Tryz.prog 151 #[] w fun e w' => e = .returned (.slice (some ⟨w.heap.size, 0, none⟩) 3 3) ∧ Rd (some ⟨w.heap.size, 0, none⟩) 3 1 (strsV dfs) w' ∧ Below w.heap.size w w' := by
  go_enter Tryz.func151, Tryz.ntmps151
  go_wp2
  go_ret
  refine ⟨rfl, ⟨rfl, fun _ => ⟨_, 0, rfl, by simp, fun j u hu => ?_⟩⟩, (Below.refl _ w).alloc (Nat.le_refl _) _⟩
  rw [Nat.zero_add, World.cell?_alloc_mark]
  simpa [strsV, dfs, dform0, dform1, dform2] using hu
/-- Where a text's iterator stands. -/
def posI (w : World) (ib : Nat) : Nat := match w.heap[ib]? with
  | some (.stringIter _ p) => p
  | _ => 0
theorem posI_of {w : World} {ib p : Nat} {s : ByteArray} (h : w.heap[ib]? = some (.stringIter s p)) : posI w ib = p := by
  unfold posI; rw [h]
theorem dparse_none {s f : List UInt8} {now : Int} {r : List (List UInt8)} (h : dpieces f mom0 s = none) : dparse s now (f :: r) = dparse s now r := by
  rw [dparse, h]
theorem dparse_more {s f : List UInt8} {now : Int} {r : List (List UInt8)} {m : Mom} {c : UInt8} {t : List UInt8} (h : dpieces f mom0 s = some (m, c :: t)) : dparse s now (f :: r) = dparse s now r := by
  rw [dparse, h]
theorem dparse_end {s f : List UInt8} {now : Int} {r : List (List UInt8)} {m : Mom} (h : dpieces f mom0 s = some (m, [])) : dparse s now (f :: r) = if (dtick m now).2 = true then ((dtick m now).1, 0) else dparse s now r := by
  rw [dparse, h]
set_option maxHeartbeats 16000000 in
theorem dparse_any (s : ByteArray) (now : Int) (w : World) (hE : DEnv w) :
    Calls Tryz.prog 101 #[.string s, .int .i64 now] w fun e w' => e = .returned (.tuple #[.int .i64 (dateP s.data.toList now).1, .int .i64 (dateP s.data.toList now).2]) ∧ Below w.heap.size w w' := by
  obtain ⟨R, hR⟩ : ∃ R, dateP s.data.toList now = R := ⟨_, rfl⟩
  rw [hR]
  have hR0 : dparse s.data.toList now dfs = R := hR
  have hok := dfs_ok
  have hl3 : dfs.length = 3 := rfl
  have kf := dforms_any w
  obtain ⟨y, rfl⟩ : ∃ y : List UInt8, s = ⟨y.toArray⟩ := ⟨s.data.toList, (str_of s).symm⟩
  have ey : (⟨y.toArray⟩ : ByteArray).data.toList = y := by simp
  rw [ey] at hR0
  have HR0 := Lib.hid hR0; have HOK := Lib.hid hok; have HL3 := Lib.hid hl3; have KF := Lib.hid kf; have HE := Lib.hid hE
  clear hR hR0 hok hl3 kf hE ey
  generalize dfs = ls at *
  go_enter Tryz.func101, Tryz.ntmps101
  go_wp2_with fail
  go_step3
  go_wp2_with fail
  go_step3
  go_wp2_with fail
  (with_reducible refine KF.out.mono ?_)
  rintro e W1 ⟨rfl, hrd, hb1⟩
  have HE1 := Lib.hid (HE.out.below hb1)
  have HRD := Lib.hid hrd
  have hlow : w.heap.size < W1.heap.size := by
    obtain ⟨b, o, e, hl, _⟩ := hrd.2 (by decide)
    cases e; exact hl
  clear hrd KF
  go_wp2_with fail
  go_loopw [18] (fun i wr => ∃ k : Nat, k ≤ 3 ∧ i = .int .i64 k ∧ Below W1.heap.size W1 wr ∧ Hid (dparse y now (ls.drop k) = R)) (fun i _ => 3 - (intD i).toNat)
  case atStart => exact ⟨0, Nat.zero_le _, rfl, Below.refl _ _, HR0⟩
  case round =>
    obtain ⟨k, hk, rfl, hbr, HP⟩ := hrel
    by_cases hk3 : k < 3
    · have hkl : k < ls.length := by rw [HL3.out]; exact hk3
      obtain ⟨b', o', e, _, d0⟩ := (HRD.out.below hbr).str_at hkl
      cases e
      have hfo := HOK.out ls[k] (List.getElem_mem hkl)
      have hdr : ls.drop k = ls[k] :: ls.drop (k + 1) := List.drop_eq_getElem_cons hkl
      have hP := HP.out
      rw [hdr] at hP
      generalize ls[k] = f at *
      obtain ⟨fo, rfl⟩ : ∃ fo : ByteArray, f = fo.data.toList := ⟨⟨f.toArray⟩, by simp⟩
      rw [str_of, Nat.zero_add] at d0
      have HP2 := Lib.hid hP
      have HFO := Lib.hid hfo
      have i2 : IntKind.i64.wrap ((k : Int) + 1) = ((k + 1 : Nat) : Int) := by rw [IntKind.wrap_i64]; omega
      have i3 : IntKind.i64.wrap (k : Int) = k := by rw [IntKind.wrap_i64]; omega
      have t0 : decide ((k : Int) < 3) = true := by simp; omega
      clear hP hdr hfo HP hkl
      go_wp2_with fail
      obtain ⟨wo, rfl⟩ : ∃ wo : World, wo = wr := ⟨_, rfl⟩
      have hm0 : MomAt wo.heap.size mom0 ((wo.alloc (.cells #[.int .i64 0, .int .i64 0, .int .i64 0, .int .i64 0, .int .i64 0, .int .i64 0, .int .i64 0, .bool false] 176 (0, 0))).iter fo 0) := by
        unfold MomAt World.iter
        exact (Below.heap_alloc _ _ _ (by simp)).trans (heap_new wo _ _ rfl)
      have hi0 : ((wo.alloc (.cells #[.int .i64 0, .int .i64 0, .int .i64 0, .int .i64 0, .int .i64 0, .int .i64 0, .int .i64 0, .bool false] 176 (0, 0))).iter fo 0).heap[wo.heap.size + 1]? = some (.stringIter fo 0) := by
        have := World.iter_heap (wo.alloc (.cells #[.int .i64 0, .int .i64 0, .int .i64 0, .int .i64 0, .int .i64 0, .int .i64 0, .int .i64 0, .bool false] 176 (0, 0))) fo 0
        rw [show (wo.alloc (.cells #[.int .i64 0, .int .i64 0, .int .i64 0, .int .i64 0, .int .i64 0, .int .i64 0, .int .i64 0, .bool false] 176 (0, 0))).heap.size = wo.heap.size + 1 from by simp] at this
        exact this
      have hb0 : Below W1.heap.size W1 ((wo.alloc (.cells #[.int .i64 0, .int .i64 0, .int .i64 0, .int .i64 0, .int .i64 0, .int .i64 0, .int .i64 0, .bool false] 176 (0, 0))).iter fo 0) := (hbr.alloc hbr.size _).alloc (by simp; have := hbr.size; omega) _
      obtain ⟨W2, hW2⟩ : ∃ W2, (wo.alloc (.cells #[.int .i64 0, .int .i64 0, .int .i64 0, .int .i64 0, .int .i64 0, .int .i64 0, .int .i64 0, .bool false] 176 (0, 0))).iter fo 0 = W2 := ⟨_, rfl⟩
      rw [hW2] at hm0 hi0 hb0 ⊢
      have hmbs : W1.heap.size ≤ wo.heap.size := hbr.size
      obtain ⟨mb, hmb⟩ : ∃ mb, wo.heap.size = mb := ⟨_, rfl⟩
      rw [hmb] at hm0 hi0 hmbs ⊢
      obtain ⟨P0, hP0⟩ : ∃ P0, dpieces fo.data.toList mom0 y = P0 := ⟨_, rfl⟩
      have HP0 := Lib.hid hP0; have HM0 := Lib.hid hm0; have HI0 := Lib.hid hi0; have HB0 := Lib.hid hb0
      clear hP0 hm0 hi0 hb0 hW2 hmb d0 hbr
      go_loopw [9] (fun rv wi => ∃ (p : Nat) (m : Mom) (rest : List UInt8), rv = .string ⟨rest.toArray⟩ ∧ p ≤ fo.size ∧ Hid (MomAt mb m wi) ∧ Hid (wi.heap[mb + 1]? = some (.stringIter fo p)) ∧ Hid (Below W1.heap.size W1 wi) ∧ Hid (dpieces (fo.data.toList.drop p) m rest = P0)) (fun _ wi => fo.size - posI wi (mb + 1))
      case atStart => exact ⟨0, mom0, y, rfl, Nat.zero_le _, HM0, HI0, HB0, HP0⟩
      case round =>
        obtain ⟨p, m, rest, rfl, hp, HM, HI, HB, HD⟩ := hrel
        by_cases hpf : p < fo.size
        · have hdc := drop_cons fo p hpf
          have hcm : fo[p] ∈ fo.data.toList := by rw [at_list fo p hpf]; exact List.getElem_mem _
          have hlet := HFO.out.1 fo[p] hcm
          have hasc : fo[p].toNat < 128 := by
            have hall : ∀ c ∈ dletters, c < 128 := by decide
            exact hall _ hlet
          have hnx : ∀ ty, (Instr.next (.pointer (some ⟨mb + 1, 0, none⟩)) true ty).run Tryz.prog wr = .ok (.tuple #[.bool true, .int .i64 p, .int .i32 (fo[p]'hpf).toNat]) (stepI wr (mb + 1) fo (p + 1)) := fun ty => run_next_at wr (mb + 1) fo p ty HI.out hpf hasc
          have hil : mb + 1 < wr.heap.size := by
            rcases Nat.lt_or_ge (mb + 1) wr.heap.size with h' | h'
            · exact h'
            · have := HI.out; simp [Array.getElem?_eq_none h'] at this
          have hm3 : MomAt mb m (stepI wr (mb + 1) fo (p + 1)) := (stepI_other (by omega)).trans HM.out
          have hi3 : (stepI wr (mb + 1) fo (p + 1)).heap[mb + 1]? = some (.stringIter fo (p + 1)) := stepI_same hil
          have hb3 : Below W1.heap.size W1 (stepI wr (mb + 1) fo (p + 1)) := HB.out.trans ((stepI_but wr (mb + 1) (p + 1) fo).below (by omega) HB.out.size)
          have hD := HD.out
          rw [hdc, dpieces] at hD
          obtain ⟨c, hc⟩ : ∃ c, fo[p].toNat = c := ⟨_, rfl⟩
          rw [hc] at hD hlet hnx
          have hsz3 : (stepI wr (mb + 1) fo (p + 1)).heap.size = wr.heap.size := by simp [stepI]
          obtain ⟨W3, hW3⟩ : ∃ W3, stepI wr (mb + 1) fo (p + 1) = W3 := ⟨_, rfl⟩
          rw [hW3] at hnx hm3 hi3 hb3 hsz3
          have kt := dtake_any c hlet mb m ⟨rest.toArray⟩ W3 (HE1.out.below hb3) hm3
          have er : (⟨rest.toArray⟩ : ByteArray).data.toList = rest := by simp
          rw [er] at kt
          have hpos := posI_of HI.out
          generalize dtake m c rest = r at *
          obtain ⟨m', rest', is⟩ := r
          simp only at kt hD
          have KT := Lib.hid kt; have HI3 := Lib.hid hi3; have HB3 := Lib.hid hb3; have HS3 := Lib.hid hsz3; have HPOS := Lib.hid hpos
          clear kt hm3 hi3 hb3 hsz3 hpos hdc hcm hlet hasc hil er hW3 hc HD HM
          cases is
          · simp only [cond_false] at hD
            have HN := Lib.hid hD
            clear hD
            go_wp2_with fail
            (with_reducible refine KT.out.mono ?_)
            rintro e w4 ⟨rfl, hbt, _⟩
            have hb4 : Below W1.heap.size W1 w4 := HB3.out.trans (hbt.below hmbs HB3.out.size)
            have hRn : dparse y now (ls.drop (k + 1)) = R := (dparse_none (HP0.out.trans HN.out.symm)).symm.trans HP2.out
            have HRN := Lib.hid hRn
            clear hRn hbt
            go_wp2
            go_roundw
            case rel => exact ⟨k + 1, hk3, rfl, hb4, HRN⟩
            case measure => simp [intD]; omega
          · simp only [cond_true] at hD
            have HN := Lib.hid hD
            clear hD
            go_wp2_with fail
            (with_reducible refine KT.out.mono ?_)
            rintro e w4 ⟨rfl, hbt, hm4⟩
            have hil3 : mb + 1 < W3.heap.size := by
              rcases Nat.lt_or_ge (mb + 1) W3.heap.size with h' | h'
              · exact h'
              · have := HI3.out; simp [Array.getElem?_eq_none h'] at this
            have hi4 : w4.heap[mb + 1]? = some (.stringIter fo (p + 1)) := (hbt.2.2.2.2 (mb + 1) hil3 (by omega)).trans HI3.out
            have hb4 : Below W1.heap.size W1 w4 := HB3.out.trans (hbt.below hmbs HB3.out.size)
            have hpos4 := posI_of hi4
            have HM4 := Lib.hid hm4; have HI4 := Lib.hid hi4; have HB4 := Lib.hid hb4; have HPOS4 := Lib.hid hpos4
            clear hm4 hi4 hb4 hpos4 hbt hil3
            go_wp2
            go_roundw
            case rel =>
              exact ⟨p + 1, m', rest', rfl, hpf, HM4, HI4, HB4, HN⟩
            case measure => rw [HPOS4.out, HPOS.out]; omega
        · have hpe : p = fo.size := by omega
          subst hpe
          have hst : ∀ ty, (Instr.next (.pointer (some ⟨mb + 1, 0, none⟩)) true ty).run Tryz.prog wr = .ok (.tuple #[.bool false]) wr := fun ty => run_next_stop wr (mb + 1) fo fo.size ty HI.out hpf
          have hD := HD.out
          rw [drop_all fo fo.size (Nat.le_refl _), dpieces] at hD
          have hPF := HP0.out.trans hD.symm
          cases rest with
          | cons c0 t0 =>
            have hRn : dparse y now (ls.drop (k + 1)) = R := (dparse_more hPF).symm.trans HP2.out
            have HRN := Lib.hid hRn
            have HBB := Lib.hid HB.out
            clear hD hPF hRn HD HM HI
            go_wp2
            go_roundw
            case rel => exact ⟨k + 1, hk3, rfl, HBB.out, HRN⟩
            case measure => simp [intD]; omega
          | nil =>
            have hok := dpieces_ok fo.data.toList mom0 y m [] HFO.out.1 (fun h => ⟨rfl, HFO.out.2 h⟩) mom0_ok hPF
            have kt := dtick_any mb m now wr HM.out hok
            have hRn : (if (dtick m now).2 = true then ((dtick m now).1, 0) else dparse y now (ls.drop (k + 1))) = R := (dparse_end hPF).symm.trans HP2.out
            unfold TickPost at kt
            generalize dtick m now = r at *
            obtain ⟨t, is⟩ := r
            simp only at kt hRn
            have KT := Lib.hid kt; have HRN := Lib.hid hRn; have HBB := Lib.hid HB.out
            clear hD hPF hRn HD HM HI kt hok HB
            cases is
            · go_wp2_with fail
              (with_reducible refine KT.out.mono ?_)
              rintro e w4 ⟨rfl, hbt⟩
              have hb4 : Below W1.heap.size W1 w4 := HBB.out.trans (hbt.below hmbs HBB.out.size)
              have hRm : dparse y now (ls.drop (k + 1)) = R := by have := HRN.out; simpa using this
              have HRM := Lib.hid hRm
              clear hRm hbt
              go_wp2
              go_roundw
              case rel => exact ⟨k + 1, hk3, rfl, hb4, HRM⟩
              case measure => simp [intD]; omega
            · go_wp2_with fail
              (with_reducible refine KT.out.mono ?_)
              rintro e w4 ⟨rfl, hbt⟩
              have hb4 : Below W1.heap.size W1 w4 := HBB.out.trans (hbt.below hmbs HBB.out.size)
              have hRm : (t, 0) = R := by have := HRN.out; simpa using this
              have HRM := Lib.hid (And.intro hRm hb4)
              clear hRm hbt hb4
              go_wp2
              rw [Exit.noGoto_ret]
              go_ret2
              exact ⟨by rw [← HRM.out.1]; rfl, hb1.trans (HRM.out.2.mono (Nat.le_of_lt hlow))⟩
    · have hk2 : k = 3 := by omega
      subst hk2
      have hP := HP.out
      rw [List.drop_eq_nil_of_le (by rw [HL3.out]; exact Nat.le_refl _), dparse] at hP
      have HP2 := Lib.hid hP
      clear hP
      go_wp2
      rw [Exit.noGoto_ret]
      go_ret2
      exact ⟨by rw [← HP2.out]; rfl, hb1.trans (hbr.mono (Nat.le_of_lt hlow))⟩
end Go.Proofs.YtgmmjhcklhajiaaGreatDoor
/- The walks of layer 2's functions on numbers: the program's. -/
namespace Go.Proofs.YtgmmjhcklhajiaaGreatDoor
open Go.RowKit

set_option maxHeartbeats 1000000 in
theorem boundU_any (n : Int) (w : World) (h0 : 0 ≤ n) :
    Calls Tryz.prog 61 #[.int .u64 n] w fun e w' => e = .returned (.int .i64 (bnd n)) ∧ w = w' := by
  rcases (by omega : n = 0 ∨ (0 < n ∧ n ≤ 2147483648) ∨ 2147483648 < n) with h | ⟨h, h2⟩ | h
  · subst h
    go_enter Tryz.func61, Tryz.ntmps61
    go_wp2
    all_goals (go_ret; exact ⟨ret_int (by first | rfl | omega), rfl⟩)
  · have Hb := Lib.hid (bnd_in (Int.le_of_lt h) h2)
    go_enter Tryz.func61, Tryz.ntmps61
    go_wp2
    all_goals (go_ret; exact ⟨ret_int (by first | exact Hb.out.symm | (rw [Hb.out]; omega)), rfl⟩)
  · have Hb := Lib.hid (bnd_big h)
    go_enter Tryz.func61, Tryz.ntmps61
    go_wp2
    all_goals (go_ret; exact ⟨ret_int (by first | exact Hb.out.symm | (rw [Hb.out]; omega)), rfl⟩)

set_option maxHeartbeats 1000000 in
theorem of_any (n : Int) (w : World) :
    Calls Tryz.prog 45 #[.int .i64 n] w fun e w' => e = .returned (.int .i64 (bnd n)) ∧ w = w' := by
  go_enter Tryz.func45, Tryz.ntmps45
  go_wp2_with (go_at_call 60; refine (boundI_any _ _).mono ?_; rintro e w' ⟨rfl, rfl⟩)
  go_ret
  exact ⟨rfl, rfl⟩

set_option maxHeartbeats 1000000 in
theorem add_any (a b : Int) (w : World) :
    Calls Tryz.prog 25 #[.int .i64 a, .int .i64 b] w fun e w' => e = .returned (.int .i64 (addB a b)) ∧ w = w' := by
  unfold addB
  have h1 := bnd_lo a; have h2 := bnd_hi a; have h3 := bnd_lo b; have h4 := bnd_hi b
  go_enter Tryz.func25, Tryz.ntmps25
  go_wp2_with (go_at_call 60; refine (boundI_any _ _).mono ?_; rintro e w' ⟨rfl, rfl⟩)
  go_ret
  exact ⟨rfl, rfl⟩


theorem wrapU (a b : Int) (h : a < b) (h' : b - a < 18446744073709551616) : IntKind.u64.wrap (IntKind.u64.wrap b - IntKind.u64.wrap a) = b - a := by
  have e : ∀ x : Int, IntKind.u64.wrap x = x % 18446744073709551616 := fun x => by simp [IntKind.wrap, IntKind.bits, IntKind.signed]
  rw [e, e, e]; omega
set_option maxHeartbeats 1000000 in
theorem since_any (a b : Int) (w : World) (ha : -9223372036854775808 ≤ a) (ha' : a ≤ 9223372036854775807) (hb : -9223372036854775808 ≤ b) (hb' : b ≤ 9223372036854775807) :
    Calls Tryz.prog 26 #[.int .i64 a, .int .i64 b] w fun e w' => e = .returned (.int .i64 (since a b)) ∧ w = w' := by
  unfold since
  by_cases h : b ≤ a
  · have hz : bnd (b - a) = 0 := by
      by_cases e : b - a = 0
      · rw [e]; rfl
      · exact bnd_neg (by omega)
    have Hz := Lib.hid hz; clear hz
    go_enter Tryz.func26, Tryz.ntmps26
    go_wp2
    go_ret
    exact ⟨ret_int (by rw [Hz.out]), rfl⟩
  · go_enter Tryz.func26, Tryz.ntmps26
    go_wp2_with fail
    rw [wrapU a b (by omega) (by omega)]
    refine (boundU_any _ _ (by omega)).mono ?_
    rintro e w' ⟨rfl, rfl⟩
    go_wp2
    go_ret
    exact ⟨rfl, rfl⟩


def TabW (w : World) : Prop := Lib.TabIs Tryz.prog w ("internal/strconv.uint64pow10") .u64 Lib.pow10Tab
theorem TabW.on {w w' : World} (h : TabW w) (hb : Below w.heap.size w w') : TabW w' := Lib.tabBelow_of_tabIs h w' hb
theorem below_grow (w : World) (os : Array Obj) : Below w.heap.size w (Sort.grow w os) :=
  ⟨rfl, rfl, rfl, by show w.heap.size ≤ (w.heap ++ os).size; simp, fun k hk => by show (w.heap ++ os)[k]? = _; rw [Array.getElem?_append_left hk]⟩
set_option maxHeartbeats 2000000 in
theorem put_any (n : Int) (w : World) (ht : TabW w) :
    Calls Tryz.prog 43 #[.int .i64 n] w fun e w' => e = .returned (.string (putS n)) ∧ Below w.heap.size w w' := by
  have h1 := bnd_lo n; have h2 := bnd_hi n
  have hi : (⟨(Lib.itoa (bnd n)).toArray⟩ : ByteArray) = putS n := by unfold Lib.itoa putS; rw [if_neg (by omega)]
  have Hi := Lib.hid hi; have HT := Lib.hid ht; clear hi ht
  go_enter Tryz.func43, Tryz.ntmps43
  go_wp2_with (first | (go_at_call 60; refine (boundI_any _ _).mono ?_; rintro e w' ⟨rfl, rfl⟩) | (go_at_call 96; refine (Tryz.strconv_Itoa _ (by omega) (by omega) _ HT.out).mono ?_; rintro e w' ⟨rfl, k, os, rfl⟩))
  go_ret
  exact ⟨by rw [← Hi.out]; rfl, (Go.below_drewN (Below.refl _ w) k).trans (below_grow (w.drewN k) os)⟩
end Go.Proofs.YtgmmjhcklhajiaaGreatDoor
/- The walks of layer 13's small functions. -/
namespace Go.Proofs.YtgmmjhcklhajiaaGreatDoor
open Go.RowKit
set_option maxRecDepth 100000

theorem number_any (s : ByteArray) (w : World) (hs : s.size ≤ 1000000) :
    Calls Tryz.prog 54 #[.string s] w fun e w' => e = .returned (.int .i64 (numF s.data.toList)) ∧ w = w' := by
  have k1 := delta_any s w hs
  rw [numF_tuple] at k1
  have K1 := Lib.hid k1; clear k1
  go_enter Tryz.func54, Tryz.ntmps54
  go_wp2_with fail
  (with_reducible refine K1.out.mono ?_)
  rintro e w1 ⟨rfl, rfl⟩
  go_wp2
  go_ret
  exact ⟨rfl, rfl⟩

set_option maxHeartbeats 4000000 in
theorem control_any (st mi asked got : Int) (re bo : ByteArray) (A V : Option Addr) (n c m d : Nat) (xs : List Fld) (dev : ByteArray) (w : World) (hM : MaxL w) (hr : Rd A n 2 (fldsV xs) w) (hn : n ≤ 1000) (hs : sumF xs ≤ 800000) :
    Calls Tryz.prog 69 #[entV st re mi A n c bo asked got V m d, .string dev] w fun e w' => e = .returned (ctlV (ctlF xs dev.data.toList)) ∧ Below w.heap.size w w' := by
  obtain ⟨W1, hW1⟩ : ∃ W1, w.alloc (.cells #[.int .i64 st, .string re, .int .i64 mi, .slice A n c, .string bo, .int .i64 asked, .int .i64 got, .slice V m d] 26) = W1 := ⟨_, rfl⟩
  have b1 : Below w.heap.size w W1 := by rw [← hW1]; exact (Below.refl w.heap.size w).alloc (Nat.le_refl _) _
  have z1 : W1.heap.size = w.heap.size + 1 := by rw [← hW1]; simp
  have x1 : W1.heap[w.heap.size]? = some (.cells #[.int .i64 st, .string re, .int .i64 mi, .slice A n c, .string bo, .int .i64 asked, .int .i64 got, .slice V m d] 26 (0, 0)) := by rw [← hW1]; exact heap_new w _ _ rfl
  obtain ⟨W2, hW2⟩ : ∃ W2, W1.alloc (.cells #[.bool false, .bool false, .bool false, .bool false, .int .i64 0, .int .i64 0] 94) = W2 := ⟨_, rfl⟩
  have b2 : Below W1.heap.size W1 W2 := by rw [← hW2]; exact (Below.refl W1.heap.size W1).alloc (Nat.le_refl _) _
  have z2 : W2.heap.size = w.heap.size + 2 := by rw [← hW2]; simp [z1]
  have x2 : W2.heap[w.heap.size + 1]? = some (.cells #[.bool false, .bool false, .bool false, .bool false, .int .i64 0, .int .i64 0] 94 (0, 0)) := by rw [← hW2]; exact heap_new W1 _ _ z1
  have x1 := (b2.block w.heap.size (by omega)).trans x1
  have b1 := bt b1 b2
  have k1 := values_any A n c xs ⟨#[115, 117, 114, 114, 111, 103, 97, 116, 101, 45, 99, 111, 110, 116, 114, 111, 108]⟩ W2 (hr.below b1) (by omega) (fun f hf => by have := sumF_mem hf; omega) (by decide)
  have hvl := valuesL_le xs fSC
  have hvm : ∀ v ∈ valuesL xs fSC, v.length ≤ 900000 := fun v hv => by have := valuesL_sum hv; omega
  have k2 := fun W (hb : Below w.heap.size w W) a c' (h : Rd a (valuesL xs fSC).length 1 (strsV (valuesL xs fSC)) W) => surOf_any a (valuesL xs fSC).length c' (valuesL xs fSC) dev W (hM.below hb) h (by have := hr.fld; omega) hvm
  have he : ofL (valuesL xs fSC) dev.data.toList = ctlF xs dev.data.toList := rfl
  rw [he] at k2
  rw [show (⟨#[115, 117, 114, 114, 111, 103, 97, 116, 101, 45, 99, 111, 110, 116, 114, 111, 108]⟩ : ByteArray).data.toList = fSC from rfl] at k1
  generalize ctlF xs dev.data.toList = out at *
  have x3 := (of_heap x1 3).1
  have hz : w.heap.size + 1 < W2.heap.size := by omega
  have HW1 := Lib.hid hW1; have HW2 := Lib.hid hW2; have K1 := Lib.hid k1; have K2 := Lib.hid k2; have B1 := Lib.hid b1; have X2 := Lib.hid x2
  have Z1 := Lib.hid z1
  generalize valuesL xs fSC = vs at *
  clear hW1 hW2 k1 k2 x1 z2 hr hs hM he b1 b2 hvl hvm x2 z1
  unfold entV
  go_enter Tryz.func69, Tryz.ntmps69
  go_upto_region 1 with (fail)
  rw [HW1.out, HW2.out]
  go_wp2_with fail
  (with_reducible refine K1.out.mono ?_)
  rintro e w1 ⟨a1, c1, rfl, ho1, hb1⟩
  have k3 := K2.out w1 (bt B1.out hb1) _ c1 ho1.rd.2
  have K3 := Lib.hid k3
  have HB := Lib.hid (bt B1.out hb1)
  have Y2 := Lib.hid ((hb1.block (w.heap.size + 1) hz).trans X2.out)
  have hz1 := Nat.lt_of_lt_of_le hz hb1.size
  clear ho1 k3 K2 hb1 B1
  go_wp2_with fail
  (with_reducible refine K3.out.mono ?_)
  rintro e w2 ⟨rfl, hb2⟩
  have y2 := (hb2.block (w.heap.size + 1) hz1).trans Y2.out
  have g0 := of_heap y2 0; have g1 := of_heap y2 1; have g2 := of_heap y2 2; have g3 := of_heap y2 3; have g4 := of_heap y2 4; have g5 := of_heap y2 5
  obtain ⟨g0, f0, gl⟩ := g0; obtain ⟨g1, f1, _⟩ := g1; obtain ⟨g2, f2, _⟩ := g2; obtain ⟨g3, f3, _⟩ := g3; obtain ⟨g4, f4, _⟩ := g4; obtain ⟨g5, f5, _⟩ := g5
  simp only [List.getElem?_toArray, List.getElem?_cons_succ, List.getElem?_cons_zero] at g0 g1 g2 g3 g4 g5
  obtain ⟨o0, o1, o2, o3, o4, o5⟩ := out
  unfold ctlV
  simp only
  have HB2 := Lib.hid (bt HB.out hb2)
  clear y2 Y2 hb2 HB K3 HW1 HW2 X2 Z1
  go_wp2_with fail
  refine bodyPost_ret_by (v := .agg #[.bool o0, .bool o1, .bool o2, .bool o3, .int .i64 o4, .int .i64 o5]) ?_ rfl ?_
  · rw [results_cell_one rfl]
    go_simp
  · exact ⟨rfl, (((((HB2.out.setCell (p := ⟨w.heap.size + 1, 0, none⟩) (Nat.le_succ _) _).setCell (p := ⟨w.heap.size + 1, 1, none⟩) (Nat.le_succ _) _).setCell (p := ⟨w.heap.size + 1, 2, none⟩) (Nat.le_succ _) _).setCell (p := ⟨w.heap.size + 1, 3, none⟩) (Nat.le_succ _) _).setCell (p := ⟨w.heap.size + 1, 4, none⟩) (Nat.le_succ _) _).setCell (p := ⟨w.heap.size + 1, 5, none⟩) (Nat.le_succ _) _⟩

set_option maxHeartbeats 4000000 in
theorem when_any (st mi asked got : Int) (re bo : ByteArray) (A V : Option Addr) (n c m d : Nat) (xs : List Fld) (name : ByteArray) (w : World) (hE : DEnv w) (hr : Rd A n 2 (fldsV xs) w) (hn : n ≤ 1000) (hs : sumF xs ≤ 800000) (hname : name.size ≤ 1000000) :
    Calls Tryz.prog 52 #[entV st re mi A n c bo asked got V m d, .string name] w fun e w' => e = .returned (.tuple #[.int .i64 (whenF xs name.data.toList got).1, .bool (whenF xs name.data.toList got).2]) ∧ Below w.heap.size w w' := by
  obtain ⟨W1, hW1⟩ : ∃ W1, w.alloc (.cells #[.int .i64 st, .string re, .int .i64 mi, .slice A n c, .string bo, .int .i64 asked, .int .i64 got, .slice V m d] 26) = W1 := ⟨_, rfl⟩
  have b1 : Below w.heap.size w W1 := by rw [← hW1]; exact (Below.refl w.heap.size w).alloc (Nat.le_refl _) _
  have z1 : W1.heap.size = w.heap.size + 1 := by rw [← hW1]; simp
  have x1 : W1.heap[w.heap.size]? = some (.cells #[.int .i64 st, .string re, .int .i64 mi, .slice A n c, .string bo, .int .i64 asked, .int .i64 got, .slice V m d] 26 (0, 0)) := by rw [← hW1]; exact heap_new w _ _ rfl
  have k1 := get_any A n c xs name W1 (hr.below b1) (by omega) (by omega) hname
  have k2 := fun W (hb : Below w.heap.size w W) => dparse_any ⟨(getL xs name.data.toList).1.toArray⟩ got W (hE.below hb)
  simp only at k2
  unfold whenF
  unfold getV at k1
  generalize getL xs name.data.toList = g at *
  obtain ⟨gv, gi⟩ := g
  simp only at k1 k2 ⊢
  generalize dateP gv got = r at *
  obtain ⟨t, er⟩ := r
  simp only at k2 ⊢
  have x3 := (of_heap x1 3).1
  have x6 := (of_heap x1 6).1
  have hz : w.heap.size < W1.heap.size := by omega
  have HW1 := Lib.hid hW1; have K1 := Lib.hid k1; have K2 := Lib.hid k2; have B1 := Lib.hid b1
  clear hW1 k1 k2 x1 z1 hr hs hE b1
  cases gi
  · simp only [cond_false]
    unfold entV
    go_enter Tryz.func52, Tryz.ntmps52
    go_wp2_with fail
    rw [HW1.out]
    (with_reducible refine K1.out.mono ?_)
    rintro e w1 ⟨rfl, hb1⟩
    have HB := Lib.hid (bt B1.out hb1)
    clear hb1 x6
    go_wp2
    go_ret2
    exact ⟨rfl, HB.out⟩
  · simp only [cond_true]
    cases hz : (er == 0)
    all_goals
      unfold entV
      go_enter Tryz.func52, Tryz.ntmps52
      go_wp2_with fail
      rw [HW1.out]
      (with_reducible refine K1.out.mono ?_)
      rintro e w1 ⟨rfl, hb1⟩
      have y6 := (hb1.cell (p := ⟨w.heap.size, 6, none⟩) (by assumption)).trans x6
      have k3 := K2.out w1 (bt B1.out hb1)
      have K3 := Lib.hid k3
      have HB := Lib.hid (bt B1.out hb1)
      clear hb1 x6 k3 K2
      go_wp2_with fail
      (with_reducible refine K3.out.mono ?_)
      rintro e w2 ⟨rfl, hb2⟩
      go_wp2
      go_ret2
      exact ⟨rfl, bt HB.out hb2⟩
end Go.Proofs.YtgmmjhcklhajiaaGreatDoor
/- The document's dates in plain words, and that they are the program's; no program in sight. -/
namespace Go.Proofs.YtgmmjhcklhajiaaGreatDoor
set_option maxRecDepth 100000

def rnum (s : List UInt8) (a n : Nat) : Int := if s.length < a + n then -1 else if ((s.drop a).take n).all dg = true then dnum ((s.drop a).take n) 0 else -1
def rmons : List (List UInt8) := [[74, 97, 110], [70, 101, 98], [77, 97, 114], [65, 112, 114], [77, 97, 121], [74, 117, 110], [74, 117, 108], [65, 117, 103], [83, 101, 112], [79, 99, 116], [78, 111, 118], [68, 101, 99]]
def rmonF (t : List UInt8) : List (List UInt8) → Int → Int
  | [], _ => 0
  | x :: r, i => if t = x then i else rmonF t r (i + 1)
def rmonth (s : List UInt8) (a : Nat) : Int := if s.length < a + 3 then 0 else rmonF ((s.drop a).take 3) rmons 1
structure RD where
  year : Int
  month : Int
  day : Int
  hour : Int
  minute : Int
  second : Int
def rmay (d : RD) : Bool := decide (1970 ≤ d.year) && decide (d.year ≤ 9999) && decide (1 ≤ d.month) && decide (d.month ≤ 12) && decide (1 ≤ d.day) && decide (d.day ≤ dlong d.year d.month) && decide (0 ≤ d.hour) && decide (d.hour ≤ 23) && decide (0 ≤ d.minute) && decide (d.minute ≤ 59) && decide (0 ≤ d.second) && decide (d.second ≤ 59)
def rcount (d : RD) : Int := d.day - 1 + dahead d.year + dmons d.year (d.month.toNat - 1)
def rdig : Nat → Int → List UInt8
  | 0, _ => []
  | k + 1, n => rdig k (n / 10) ++ [UInt8.ofNat (48 + (n % 10).toNat)]
def rshort : List (List UInt8) := [[77, 111, 110], [84, 117, 101], [87, 101, 100], [84, 104, 117], [70, 114, 105], [83, 97, 116], [83, 117, 110]]
def rlong : List (List UInt8) := [[77, 111, 110, 100, 97, 121], [84, 117, 101, 115, 100, 97, 121], [87, 101, 100, 110, 101, 115, 100, 97, 121], [84, 104, 117, 114, 115, 100, 97, 121], [70, 114, 105, 100, 97, 121], [83, 97, 116, 117, 114, 100, 97, 121], [83, 117, 110, 100, 97, 121]]
def rwd (names : List (List UInt8)) (n : Int) : List UInt8 := names.getD ((n + 3) % 7).toNat []
def rmon (m : Int) : List UInt8 := rmons.getD (m - 1).toNat []
def rclock (d : RD) : List UInt8 := rdig 2 d.hour ++ (58 :: (rdig 2 d.minute ++ (58 :: rdig 2 d.second)))
def rfixed (d : RD) : List UInt8 := rwd rshort (rcount d) ++ (44 :: 32 :: (rdig 2 d.day ++ (32 :: (rmon d.month ++ (32 :: (rdig 4 d.year ++ (32 :: (rclock d ++ [32, 71, 77, 84]))))))))
def rold (d : RD) : List UInt8 := rwd rlong (rcount d) ++ (44 :: 32 :: (rdig 2 d.day ++ (45 :: (rmon d.month ++ (45 :: (rdig 2 d.year ++ (32 :: (rclock d ++ [32, 71, 77, 84]))))))))
def rplain (d : RD) (blank : Bool) : List UInt8 := rwd rshort (rcount d) ++ (32 :: (rmon d.month ++ (32 :: ((bif blank then 32 :: rdig 1 d.day else rdig 2 d.day) ++ (32 :: (rclock d ++ (32 :: rdig 4 d.year)))))))
def rtick (d : RD) : Int := rcount d * 86400 + (3600 * d.hour + 60 * d.minute + d.second)
def rnear (digits now : Int) : Int := ((dyearO (dnow now)).1 + 50) - ((dyearO (dnow now)).1 + 50 - digits) % 100
def rcomma (s : List UInt8) : Nat := (s.takeWhile (· != 44)).length
def rdA (s : List UInt8) : RD := ⟨rnum s 12 4, rmonth s 8, rnum s 5 2, rnum s 17 2, rnum s 20 2, rnum s 23 2⟩
def rdB (s : List UInt8) (now : Int) : RD := ⟨rnear (rnum s (rcomma s + 9) 2) now, rmonth s (rcomma s + 5), rnum s (rcomma s + 2) 2, rnum s (rcomma s + 12) 2, rnum s (rcomma s + 15) 2, rnum s (rcomma s + 18) 2⟩
def rdC (s : List UInt8) : RD := ⟨rnum s 20 4, rmonth s 4, rnum s 8 2, rnum s 11 2, rnum s 14 2, rnum s 17 2⟩
def rdE (s : List UInt8) : RD := ⟨rnum s 20 4, rmonth s 4, rnum s 9 1, rnum s 11 2, rnum s 14 2, rnum s 17 2⟩
/-- The document's Parse. -/
def rparse (s : List UInt8) (now : Int) : Int × Int :=
  if rmay (rdA s) = true ∧ rfixed (rdA s) = s then (rtick (rdA s), 0)
  else if 0 ≤ rnum s (rcomma s + 9) 2 ∧ rmay (rdB s now) = true ∧ rold (rdB s now) = s then (rtick (rdB s now), 0)
  else if rmay (rdC s) = true ∧ rplain (rdC s) false = s then (rtick (rdC s), 0)
  else if rmay (rdE s) = true ∧ rplain (rdE s) true = s then (rtick (rdE s), 0)
  else (0, 4)

/-! Digits. -/
theorem dg_in {c : UInt8} (h : dg c = true) : 48 ≤ c.toNat ∧ c.toNat ≤ 57 := by
  unfold dg at h; simpa using h
theorem u8_is {c : UInt8} {n : Nat} (h : n = c.toNat) : UInt8.ofNat n = c := by subst h; exact UInt8.ofNat_toNat
theorem dg_of {k : Nat} (h : k ≤ 9) : dg (UInt8.ofNat (48 + k)) = true ∧ (UInt8.ofNat (48 + k)).toNat = 48 + k := by
  have : (UInt8.ofNat (48 + k)).toNat = 48 + k := by rw [UInt8.toNat_ofNat']; omega
  refine ⟨?_, this⟩
  unfold dg; rw [this]; simp; omega
theorem rdig1 {a : UInt8} (ha : dg a = true) : rdig 1 (dnum [a] 0) = [a] := by
  have h1 := dg_in ha
  simp only [dnum, rdig, List.nil_append]
  rw [u8_is (c := a) (by omega)]
theorem rdig2 {a b : UInt8} (ha : dg a = true) (hb : dg b = true) : rdig 2 (dnum [a, b] 0) = [a, b] := by
  have h1 := dg_in ha; have h2 := dg_in hb
  simp only [dnum, rdig, List.nil_append]
  rw [u8_is (c := a) (by omega), u8_is (c := b) (by omega)]
  rfl
theorem rdig4 {a b c d : UInt8} (ha : dg a = true) (hb : dg b = true) (hc : dg c = true) (hd : dg d = true) : rdig 4 (dnum [a, b, c, d] 0) = [a, b, c, d] := by
  have h1 := dg_in ha; have h2 := dg_in hb; have h3 := dg_in hc; have h4 := dg_in hd
  simp only [dnum, rdig, List.nil_append]
  rw [u8_is (c := a) (by omega), u8_is (c := b) (by omega), u8_is (c := c) (by omega), u8_is (c := d) (by omega)]
  rfl
theorem rdig1_is (n : Int) (h : 0 ≤ n) (h9 : n ≤ 9) : ∃ a, rdig 1 n = [a] ∧ dg a = true ∧ dnum [a] 0 = n := by
  obtain ⟨h1, h2⟩ := dg_of (k := (n % 10).toNat) (by omega)
  refine ⟨_, rfl, h1, ?_⟩
  simp only [dnum, h2]
  omega
theorem rdig2_is (n : Int) (h : 0 ≤ n) (h9 : n ≤ 99) : ∃ a b, rdig 2 n = [a, b] ∧ dg a = true ∧ dg b = true ∧ dnum [a, b] 0 = n := by
  obtain ⟨h1, h2⟩ := dg_of (k := (n % 10).toNat) (by omega)
  obtain ⟨h3, h4⟩ := dg_of (k := (n / 10 % 10).toNat) (by omega)
  refine ⟨_, _, rfl, h3, h1, ?_⟩
  simp only [dnum, h2, h4]
  omega
theorem rdig4_is (n : Int) (h : 0 ≤ n) (h9 : n ≤ 9999) : ∃ a b c d, rdig 4 n = [a, b, c, d] ∧ dg a = true ∧ dg b = true ∧ dg c = true ∧ dg d = true ∧ dnum [a, b, c, d] 0 = n := by
  obtain ⟨h1, h2⟩ := dg_of (k := (n % 10).toNat) (by omega)
  obtain ⟨h3, h4⟩ := dg_of (k := (n / 10 % 10).toNat) (by omega)
  obtain ⟨h5, h6⟩ := dg_of (k := (n / 10 / 10 % 10).toNat) (by omega)
  obtain ⟨h7, h8⟩ := dg_of (k := (n / 10 / 10 / 10 % 10).toNat) (by omega)
  refine ⟨_, _, _, _, rfl, h7, h5, h3, h1, ?_⟩
  simp only [dnum, h2, h4, h6, h8]
  omega
theorem dnum2_in {a b : UInt8} (ha : dg a = true) (hb : dg b = true) : 0 ≤ dnum [a, b] 0 ∧ dnum [a, b] 0 ≤ 99 := by
  have h1 := dg_in ha; have h2 := dg_in hb
  simp only [dnum]; omega
theorem dnum1_in {a : UInt8} (ha : dg a = true) : 0 ≤ dnum [a] 0 ∧ dnum [a] 0 ≤ 9 := by
  have h1 := dg_in ha
  simp only [dnum]; omega

/-! The pieces: what a success says, and when there is one. -/
theorem one_ok {s : List UInt8} (h : (dnumL s 1).2.2 = true) : ∃ a t, s = a :: t ∧ dg a = true ∧ dnumL s 1 = (dnum [a] 0, t, true) := by
  match s with
  | [] => simp [dnumL] at h
  | a :: t =>
    unfold dnumL at h ⊢
    have hl : decide ((a :: t).length < 1) = false := by simp
    rw [hl] at h ⊢
    simp only [cond_false, List.take_succ_cons, List.take_zero, List.drop_succ_cons, List.drop_zero] at h ⊢
    cases hd : [a].all dg
    · rw [hd] at h; simp at h
    · refine ⟨a, t, rfl, by simpa using hd, rfl⟩
theorem done_of {a : UInt8} (ha : dg a = true) (t : List UInt8) : dnumL (a :: t) 1 = (dnum [a] 0, t, true) := by
  unfold dnumL
  have hl : decide ((a :: t).length < 1) = false := by simp
  rw [hl]
  simp only [cond_false, List.take_succ_cons, List.take_zero, List.drop_succ_cons, List.drop_zero]
  rw [show [a].all dg = true from by simp [ha]]
  rfl
theorem two_ok {s : List UInt8} (h : (dnumL s 2).2.2 = true) : ∃ a b t, s = a :: b :: t ∧ dg a = true ∧ dg b = true ∧ dnumL s 2 = (dnum [a, b] 0, t, true) := by
  match s with
  | [] => simp [dnumL] at h
  | [a] => simp [dnumL] at h
  | a :: b :: t =>
    unfold dnumL at h ⊢
    have hl : decide ((a :: b :: t).length < 2) = false := by simp
    rw [hl] at h ⊢
    simp only [cond_false, List.take_succ_cons, List.take_zero, List.drop_succ_cons, List.drop_zero] at h ⊢
    cases hd : [a, b].all dg
    · rw [hd] at h; simp at h
    · have h2 : dg a = true ∧ dg b = true := by simpa using hd
      refine ⟨a, b, t, rfl, h2.1, h2.2, rfl⟩
theorem dtwo_of {a b : UInt8} (ha : dg a = true) (hb : dg b = true) (t : List UInt8) : dnumL (a :: b :: t) 2 = (dnum [a, b] 0, t, true) := by
  unfold dnumL
  have hl : decide ((a :: b :: t).length < 2) = false := by simp
  rw [hl]
  simp only [cond_false, List.take_succ_cons, List.take_zero, List.drop_succ_cons, List.drop_zero]
  rw [show [a, b].all dg = true from by simp [ha, hb]]
  rfl
theorem four_ok {s : List UInt8} (h : (dnumL s 4).2.2 = true) : ∃ a b c d t, s = a :: b :: c :: d :: t ∧ dg a = true ∧ dg b = true ∧ dg c = true ∧ dg d = true ∧ dnumL s 4 = (dnum [a, b, c, d] 0, t, true) := by
  match s with
  | [] => simp [dnumL] at h
  | [a] => simp [dnumL] at h
  | [a, b] => simp [dnumL] at h
  | [a, b, c] => simp [dnumL] at h
  | a :: b :: c :: d :: t =>
    unfold dnumL at h ⊢
    have hl : decide ((a :: b :: c :: d :: t).length < 4) = false := by simp
    rw [hl] at h ⊢
    simp only [cond_false, List.take_succ_cons, List.take_zero, List.drop_succ_cons, List.drop_zero] at h ⊢
    cases hd : [a, b, c, d].all dg
    · rw [hd] at h; simp at h
    · have h2 : dg a = true ∧ dg b = true ∧ dg c = true ∧ dg d = true := by simpa using hd
      refine ⟨a, b, c, d, t, rfl, h2.1, h2.2.1, h2.2.2.1, h2.2.2.2, rfl⟩
theorem dfour4_of {a b c d : UInt8} (ha : dg a = true) (hb : dg b = true) (hc : dg c = true) (hd : dg d = true) (t : List UInt8) : dnumL (a :: b :: c :: d :: t) 4 = (dnum [a, b, c, d] 0, t, true) := by
  unfold dnumL
  have hl : decide ((a :: b :: c :: d :: t).length < 4) = false := by simp
  rw [hl]
  simp only [cond_false, List.take_succ_cons, List.take_zero, List.drop_succ_cons, List.drop_zero]
  rw [show [a, b, c, d].all dg = true from by simp [ha, hb, hc, hd]]
  rfl
theorem pre_is {s p : List UInt8} (h : Lib.hasPrefix s p = true) : s = p ++ s.drop p.length := by
  obtain ⟨t, rfl⟩ := List.isPrefixOf_iff_prefix.1 h
  simp
theorem name_ok (n : Nat) : ∀ (l : List (List UInt8)) (i : Nat) (s : List UInt8), (dname s n l i).2.2 = true → ∃ k t, k < l.length ∧ s = (bif decide (0 < n) then (l.getD k []).take n else l.getD k []) ++ t ∧ dname s n l i = (((i + k : Nat) : Int), t, true)
  | [], i, s, h => by simp [dname] at h
  | x :: r, i, s, h => by
    rw [dname] at h ⊢
    cases hp : Lib.hasPrefix s (bif decide (0 < n) then x.take n else x)
    · rw [hp] at h
      simp only [cond_false] at h
      obtain ⟨k, t, h1, h2, h3⟩ := name_ok n r (i + 1) s h
      refine ⟨k + 1, t, by simp; omega, by simpa using h2, ?_⟩
      simp only [cond_false]
      rw [h3]
      congr 1
      omega
    · refine ⟨0, s.drop (bif decide (0 < n) then x.take n else x).length, by simp, by simpa using pre_is hp, ?_⟩
      simp only [cond_true, Nat.add_zero]
theorem short_of (k : Nat) (h : k < 7) (t : List UInt8) : dname ((ddays.getD k []).take 3 ++ t) 3 ddays 0 = ((k : Int), t, true) := by
  match k, h with
  | 0, _ => rfl
  | 1, _ => rfl
  | 2, _ => rfl
  | 3, _ => rfl
  | 4, _ => rfl
  | 5, _ => rfl
  | 6, _ => rfl
theorem long_of (k : Nat) (h : k < 7) (t : List UInt8) : dname (ddays.getD k [] ++ t) 0 ddays 0 = ((k : Int), t, true) := by
  match k, h with
  | 0, _ => rfl
  | 1, _ => rfl
  | 2, _ => rfl
  | 3, _ => rfl
  | 4, _ => rfl
  | 5, _ => rfl
  | 6, _ => rfl
theorem index_occ : ∀ (s sub : List UInt8), 0 ≤ Lib.index s sub → Lib.occAt s sub (Lib.index s sub).toNat = true
  | [], sub, h => by
    cases sub with
    | nil => rfl
    | cons a t => simp [Lib.index] at h
  | b :: l, sub, h => by
    unfold Lib.index at h ⊢
    by_cases hp : sub.isPrefixOf (b :: l) = true
    · rw [if_pos hp]
      exact hp
    · rw [if_neg hp] at h ⊢
      by_cases hm : (Lib.index l sub == -1) = true
      · rw [if_pos hm] at h; simp at h
      · rw [if_neg hm] at h ⊢
        have h2 : 0 ≤ Lib.index l sub := by
          have := Lib.index_ge l sub
          rw [Bool.not_eq_true, beq_eq_false_iff_ne] at hm
          omega
        have ih := index_occ l sub h2
        have e : (Lib.index l sub + 1).toNat = (Lib.index l sub).toNat + 1 := by omega
        rw [e]
        exact ih
theorem month_ok {p q r : UInt8} (h0 : 0 ≤ Lib.index dmonths [p, q, r]) (h3 : Lib.index dmonths [p, q, r] % 3 = 0) : ∃ k : Nat, k < 12 ∧ rmons.getD k [] = [p, q, r] ∧ Lib.index dmonths [p, q, r] = 3 * (k : Int) := by
  have ho := index_occ dmonths [p, q, r] h0
  generalize Lib.index dmonths [p, q, r] = i at *
  obtain ⟨k, hk⟩ : ∃ k : Nat, i = 3 * (k : Int) := ⟨(i / 3).toNat, by omega⟩
  subst hk
  have hroom := Lib.occAt_room ho
  have hl : dmonths.length = 36 := by decide
  have hk : k < 12 := by
    rcases hroom with h | h
    · rw [hl] at h
      simp at h
      omega
    · simp at h
  have e3 : (3 * (k : Int)).toNat = 3 * k := by omega
  rw [e3] at ho
  refine ⟨k, hk, ?_, rfl⟩
  rw [Lib.occAt_iff_take _ _ _ (by rw [hl]; simp; omega)] at ho
  have := beq_iff_eq.1 ho
  rw [← this]
  have hall : ∀ k < 12, rmons.getD k [] = (dmonths.drop (3 * k)).take 3 := by decide
  exact hall k hk
theorem month_of (k : Nat) (hk : k < 12) : Lib.index dmonths (rmons.getD k []) = 3 * (k : Int) := by
  have hall : ∀ k < 12, Lib.index dmonths (rmons.getD k []) = 3 * (k : Int) := by decide
  exact hall k hk
theorem mon_at (k : Nat) (hk : k < 12) : rmonF (rmons.getD k []) rmons 1 = (k : Int) + 1 := by
  have hall : ∀ k < 12, rmonF (rmons.getD k []) rmons 1 = (k : Int) + 1 := by decide
  exact hall k hk
theorem mon_three (k : Nat) (hk : k < 12) : ∃ p q r, rmons.getD k [] = [p, q, r] := by
  have hall : ∀ k < 12, (rmons.getD k []).length = 3 := by decide
  have := hall k hk
  match h : rmons.getD k [], this with
  | [p, q, r], _ => exact ⟨p, q, r, rfl⟩
theorem short_three (k : Nat) (hk : k < 7) : ∃ p q r, (ddays.getD k []).take 3 = [p, q, r] := by
  have hall : ∀ k < 7, ((ddays.getD k []).take 3).length = 3 := by decide
  have := hall k hk
  match h : (ddays.getD k []).take 3, this with
  | [p, q, r], _ => exact ⟨p, q, r, rfl⟩
theorem rwd_short (n : Int) : rwd rshort n = (ddays.getD (n % 7).toNat []).take 3 := by
  have hall : ∀ k < 7, rshort.getD ((k + 3) % 7) [] = (ddays.getD k []).take 3 := by decide
  have := hall (n % 7).toNat (by omega)
  unfold rwd
  rw [← this]
  congr 1
  omega
theorem rwd_long (n : Int) : rwd rlong n = ddays.getD (n % 7).toNat [] := by
  have hall : ∀ k < 7, rlong.getD ((k + 3) % 7) [] = ddays.getD k [] := by decide
  have := hall (n % 7).toNat (by omega)
  unfold rwd
  rw [← this]
  congr 1
  omega
theorem long_plain (k : Nat) (hk : k < 7) (t : List UInt8) : rcomma (ddays.getD k [] ++ 44 :: t) = (ddays.getD k []).length := by
  match k, hk with
  | 0, _ => rfl
  | 1, _ => rfl
  | 2, _ => rfl
  | 3, _ => rfl
  | 4, _ => rfl
  | 5, _ => rfl
  | 6, _ => rfl
theorem days_one : ∀ i < 7, ∀ j < 7, (ddays.getD i []).take 3 = (ddays.getD j []).take 3 → i = j := by decide
theorem days_onel : ∀ i < 7, ∀ j < 7, ddays.getD i [] = ddays.getD j [] → i = j := by decide
end Go.Proofs.YtgmmjhcklhajiaaGreatDoor
/- The document's dates are the program's: plain (printed by wip/tools/rdate.py). -/
namespace Go.Proofs.YtgmmjhcklhajiaaGreatDoor
set_option maxRecDepth 100000

theorem dp_some {c : UInt8} {r : List UInt8} {m : Mom} {s : List UInt8} {x : Mom × List UInt8} (h : dpieces (c :: r) m s = some x) : (dtake m c.toNat s).2.2 = true ∧ dpieces r (dtake m c.toNat s).1 (dtake m c.toNat s).2.1 = some x := by
  rw [dpieces] at h
  cases hb : (dtake m c.toNat s).2.2
  · rw [hb] at h; cases h
  · rw [hb] at h; exact ⟨rfl, h⟩
theorem dp_take {c : UInt8} {r : List UInt8} {m m' : Mom} {s t : List UInt8} (h : dtake m c.toNat s = (m', t, true)) : dpieces (c :: r) m s = dpieces r m' t := by
  rw [dpieces, h]; rfl
theorem tk_D_ok {m : Mom} {s r : List UInt8} {x : Mom × List UInt8} (h : dpieces (68 :: r) m s = some x) : ∃ a b t, s = a :: b :: t ∧ dg a = true ∧ dg b = true ∧ dpieces r { m with day := dnum [a, b] 0 } t = some x := by
  obtain ⟨h1, h2⟩ := dp_some h
  have e : dtake m (68 : UInt8).toNat s = ({ m with day := (dnumL s 2).1 }, (dnumL s 2).2) := rfl
  rw [e] at h1 h2
  obtain ⟨a, b, t, rfl, ha, hb, e2⟩ := two_ok h1
  rw [e2] at h2
  exact ⟨a, b, t, rfl, ha, hb, h2⟩
theorem tk_D_of {a b : UInt8} (ha : dg a = true) (hb : dg b = true) (m : Mom) (r t : List UInt8) : dpieces (68 :: r) m (a :: b :: t) = dpieces r { m with day := dnum [a, b] 0 } t := by
  have e : dtake m (68 : UInt8).toNat (a :: b :: t) = ({ m with day := (dnumL (a :: b :: t) 2).1 }, (dnumL (a :: b :: t) 2).2) := rfl
  rw [dtwo_of ha hb] at e
  exact dp_take e
theorem tk_H_ok {m : Mom} {s r : List UInt8} {x : Mom × List UInt8} (h : dpieces (72 :: r) m s = some x) : ∃ a b t, s = a :: b :: t ∧ dg a = true ∧ dg b = true ∧ dpieces r { m with hour := dnum [a, b] 0 } t = some x := by
  obtain ⟨h1, h2⟩ := dp_some h
  have e : dtake m (72 : UInt8).toNat s = ({ m with hour := (dnumL s 2).1 }, (dnumL s 2).2) := rfl
  rw [e] at h1 h2
  obtain ⟨a, b, t, rfl, ha, hb, e2⟩ := two_ok h1
  rw [e2] at h2
  exact ⟨a, b, t, rfl, ha, hb, h2⟩
theorem tk_H_of {a b : UInt8} (ha : dg a = true) (hb : dg b = true) (m : Mom) (r t : List UInt8) : dpieces (72 :: r) m (a :: b :: t) = dpieces r { m with hour := dnum [a, b] 0 } t := by
  have e : dtake m (72 : UInt8).toNat (a :: b :: t) = ({ m with hour := (dnumL (a :: b :: t) 2).1 }, (dnumL (a :: b :: t) 2).2) := rfl
  rw [dtwo_of ha hb] at e
  exact dp_take e
theorem tk_I_ok {m : Mom} {s r : List UInt8} {x : Mom × List UInt8} (h : dpieces (73 :: r) m s = some x) : ∃ a b t, s = a :: b :: t ∧ dg a = true ∧ dg b = true ∧ dpieces r { m with minute := dnum [a, b] 0 } t = some x := by
  obtain ⟨h1, h2⟩ := dp_some h
  have e : dtake m (73 : UInt8).toNat s = ({ m with minute := (dnumL s 2).1 }, (dnumL s 2).2) := rfl
  rw [e] at h1 h2
  obtain ⟨a, b, t, rfl, ha, hb, e2⟩ := two_ok h1
  rw [e2] at h2
  exact ⟨a, b, t, rfl, ha, hb, h2⟩
theorem tk_I_of {a b : UInt8} (ha : dg a = true) (hb : dg b = true) (m : Mom) (r t : List UInt8) : dpieces (73 :: r) m (a :: b :: t) = dpieces r { m with minute := dnum [a, b] 0 } t := by
  have e : dtake m (73 : UInt8).toNat (a :: b :: t) = ({ m with minute := (dnumL (a :: b :: t) 2).1 }, (dnumL (a :: b :: t) 2).2) := rfl
  rw [dtwo_of ha hb] at e
  exact dp_take e
theorem tk_S_ok {m : Mom} {s r : List UInt8} {x : Mom × List UInt8} (h : dpieces (83 :: r) m s = some x) : ∃ a b t, s = a :: b :: t ∧ dg a = true ∧ dg b = true ∧ dpieces r { m with second := dnum [a, b] 0 } t = some x := by
  obtain ⟨h1, h2⟩ := dp_some h
  have e : dtake m (83 : UInt8).toNat s = ({ m with second := (dnumL s 2).1 }, (dnumL s 2).2) := rfl
  rw [e] at h1 h2
  obtain ⟨a, b, t, rfl, ha, hb, e2⟩ := two_ok h1
  rw [e2] at h2
  exact ⟨a, b, t, rfl, ha, hb, h2⟩
theorem tk_S_of {a b : UInt8} (ha : dg a = true) (hb : dg b = true) (m : Mom) (r t : List UInt8) : dpieces (83 :: r) m (a :: b :: t) = dpieces r { m with second := dnum [a, b] 0 } t := by
  have e : dtake m (83 : UInt8).toNat (a :: b :: t) = ({ m with second := (dnumL (a :: b :: t) 2).1 }, (dnumL (a :: b :: t) 2).2) := rfl
  rw [dtwo_of ha hb] at e
  exact dp_take e
theorem tk_y_ok {m : Mom} {s r : List UInt8} {x : Mom × List UInt8} (h : dpieces (121 :: r) m s = some x) : ∃ a b t, s = a :: b :: t ∧ dg a = true ∧ dg b = true ∧ dpieces r { m with year := dnum [a, b] 0, two := true } t = some x := by
  obtain ⟨h1, h2⟩ := dp_some h
  have e : dtake m (121 : UInt8).toNat s = ({ m with year := (dnumL s 2).1, two := true }, (dnumL s 2).2) := rfl
  rw [e] at h1 h2
  obtain ⟨a, b, t, rfl, ha, hb, e2⟩ := two_ok h1
  rw [e2] at h2
  exact ⟨a, b, t, rfl, ha, hb, h2⟩
theorem tk_y_of {a b : UInt8} (ha : dg a = true) (hb : dg b = true) (m : Mom) (r t : List UInt8) : dpieces (121 :: r) m (a :: b :: t) = dpieces r { m with year := dnum [a, b] 0, two := true } t := by
  have e : dtake m (121 : UInt8).toNat (a :: b :: t) = ({ m with year := (dnumL (a :: b :: t) 2).1, two := true }, (dnumL (a :: b :: t) 2).2) := rfl
  rw [dtwo_of ha hb] at e
  exact dp_take e
theorem tk_Y_ok {m : Mom} {s r : List UInt8} {x : Mom × List UInt8} (h : dpieces (89 :: r) m s = some x) : ∃ a b c d t, s = a :: b :: c :: d :: t ∧ dg a = true ∧ dg b = true ∧ dg c = true ∧ dg d = true ∧ dpieces r { m with year := dnum [a, b, c, d] 0 } t = some x := by
  obtain ⟨h1, h2⟩ := dp_some h
  have e : dtake m (89 : UInt8).toNat s = ({ m with year := (dnumL s 4).1 }, (dnumL s 4).2) := rfl
  rw [e] at h1 h2
  obtain ⟨a, b, c, d, t, rfl, ha, hb, hc, hd, e2⟩ := four_ok h1
  rw [e2] at h2
  exact ⟨a, b, c, d, t, rfl, ha, hb, hc, hd, h2⟩
theorem tk_Y_of {a b c d : UInt8} (ha : dg a = true) (hb : dg b = true) (hc : dg c = true) (hd : dg d = true) (m : Mom) (r t : List UInt8) : dpieces (89 :: r) m (a :: b :: c :: d :: t) = dpieces r { m with year := dnum [a, b, c, d] 0 } t := by
  have e : dtake m (89 : UInt8).toNat (a :: b :: c :: d :: t) = ({ m with year := (dnumL (a :: b :: c :: d :: t) 4).1 }, (dnumL (a :: b :: c :: d :: t) 4).2) := rfl
  rw [dfour4_of ha hb hc hd] at e
  exact dp_take e
theorem tk_w_ok {m : Mom} {s r : List UInt8} {x : Mom × List UInt8} (h : dpieces (119 :: r) m s = some x) : ∃ k t, k < 7 ∧ s = (ddays.getD k []).take 3 ++ t ∧ dpieces r { m with wd := (k : Int) } t = some x := by
  obtain ⟨h1, h2⟩ := dp_some h
  have e : dtake m (119 : UInt8).toNat s = ({ m with wd := (dname s 3 ddays 0).1 }, (dname s 3 ddays 0).2) := rfl
  rw [e] at h1 h2
  obtain ⟨k, t, hk, hs, e2⟩ := name_ok 3 ddays 0 s h1
  rw [e2] at h2
  refine ⟨k, t, hk, hs, ?_⟩
  rw [Nat.zero_add] at h2
  exact h2
theorem tk_w_of (k : Nat) (hk : k < 7) (m : Mom) (r t : List UInt8) : dpieces (119 :: r) m ((ddays.getD k []).take 3 ++ t) = dpieces r { m with wd := (k : Int) } t := by
  have e : dtake m (119 : UInt8).toNat ((ddays.getD k []).take 3 ++ t) = ({ m with wd := (dname ((ddays.getD k []).take 3 ++ t) 3 ddays 0).1 }, (dname ((ddays.getD k []).take 3 ++ t) 3 ddays 0).2) := rfl
  rw [short_of k hk] at e
  exact dp_take e
theorem tk_W_ok {m : Mom} {s r : List UInt8} {x : Mom × List UInt8} (h : dpieces (87 :: r) m s = some x) : ∃ k t, k < 7 ∧ s = ddays.getD k [] ++ t ∧ dpieces r { m with wd := (k : Int) } t = some x := by
  obtain ⟨h1, h2⟩ := dp_some h
  have e : dtake m (87 : UInt8).toNat s = ({ m with wd := (dname s 0 ddays 0).1 }, (dname s 0 ddays 0).2) := rfl
  rw [e] at h1 h2
  obtain ⟨k, t, hk, hs, e2⟩ := name_ok 0 ddays 0 s h1
  rw [e2] at h2
  refine ⟨k, t, hk, hs, ?_⟩
  rw [Nat.zero_add] at h2
  exact h2
theorem tk_W_of (k : Nat) (hk : k < 7) (m : Mom) (r t : List UInt8) : dpieces (87 :: r) m (ddays.getD k [] ++ t) = dpieces r { m with wd := (k : Int) } t := by
  have e : dtake m (87 : UInt8).toNat (ddays.getD k [] ++ t) = ({ m with wd := (dname (ddays.getD k [] ++ t) 0 ddays 0).1 }, (dname (ddays.getD k [] ++ t) 0 ddays 0).2) := rfl
  rw [long_of k hk] at e
  exact dp_take e
theorem tk_m_ok {m : Mom} {s r : List UInt8} {x : Mom × List UInt8} (h : dpieces (109 :: r) m s = some x) : ∃ k t, k < 12 ∧ s = rmons.getD k [] ++ t ∧ dpieces r { m with month := (k : Int) + 1 } t = some x := by
  obtain ⟨h1, h2⟩ := dp_some h
  have e : dtake m (109 : UInt8).toNat s = if s.length < 3 ∨ Lib.index dmonths (s.take 3) < 0 ∨ Lib.index dmonths (s.take 3) % 3 ≠ 0 then (m, [], false) else ({ m with month := Lib.index dmonths (s.take 3) / 3 + 1 }, s.drop 3, true) := rfl
  rw [e] at h1 h2
  by_cases hc : s.length < 3 ∨ Lib.index dmonths (s.take 3) < 0 ∨ Lib.index dmonths (s.take 3) % 3 ≠ 0
  · rw [if_pos hc] at h1; cases h1
  · rw [if_neg hc] at h2
    match s, hc, h2 with
    | [], hc, _ => exact absurd (Or.inl (by decide)) hc
    | [_], hc, _ => exact absurd (Or.inl (by simp)) hc
    | [_, _], hc, _ => exact absurd (Or.inl (by simp)) hc
    | p :: q :: u :: t, hc, h2 =>
      simp only [List.take_succ_cons, List.take_zero, List.drop_succ_cons, List.drop_zero] at hc h2
      obtain ⟨k, hk, hm, hi⟩ := month_ok (p := p) (q := q) (r := u) (by omega) (by omega)
      refine ⟨k, t, hk, by rw [hm]; rfl, ?_⟩
      rw [hi] at h2
      rw [show 3 * (k : Int) / 3 = (k : Int) from by omega] at h2
      exact h2
theorem tk_m_of (k : Nat) (hk : k < 12) (m : Mom) (r t : List UInt8) : dpieces (109 :: r) m (rmons.getD k [] ++ t) = dpieces r { m with month := (k : Int) + 1 } t := by
  obtain ⟨p, q, u, hm⟩ := mon_three k hk
  have hi := month_of k hk
  rw [hm] at hi ⊢
  have e : dtake m (109 : UInt8).toNat (p :: q :: u :: t) = if (p :: q :: u :: t).length < 3 ∨ Lib.index dmonths [p, q, u] < 0 ∨ Lib.index dmonths [p, q, u] % 3 ≠ 0 then (m, [], false) else ({ m with month := Lib.index dmonths [p, q, u] / 3 + 1 }, t, true) := rfl
  rw [if_neg (by rw [hi]; simp; omega), hi, show 3 * (k : Int) / 3 = (k : Int) from by omega] at e
  exact dp_take e
theorem tk_E_ok {m : Mom} {s r : List UInt8} {x : Mom × List UInt8} (h : dpieces (69 :: r) m s = some x) : (∃ a t, s = 32 :: a :: t ∧ dg a = true ∧ dpieces r { m with day := dnum [a] 0 } t = some x) ∨ (∃ a b t, s = a :: b :: t ∧ dg a = true ∧ dg b = true ∧ dpieces r { m with day := dnum [a, b] 0 } t = some x) := by
  obtain ⟨h1, h2⟩ := dp_some h
  have e : dtake m (69 : UInt8).toNat s = if Lib.hasPrefix s [32] = true then ({ m with day := (dnumL (s.drop 1) 1).1 }, (dnumL (s.drop 1) 1).2) else ({ m with day := (dnumL s 2).1 }, (dnumL s 2).2) := rfl
  rw [e] at h1 h2
  by_cases hp : Lib.hasPrefix s [32] = true
  · rw [if_pos hp] at h1 h2
    obtain ⟨a, t, e1, ha, e2⟩ := one_ok h1
    rw [e2] at h2
    have := pre_is hp
    refine Or.inl ⟨a, t, ?_, ha, h2⟩
    rw [this, show s.drop [(32 : UInt8)].length = a :: t from e1]; rfl
  · rw [if_neg hp] at h1 h2
    obtain ⟨a, b, t, rfl, ha, hb, e2⟩ := two_ok h1
    rw [e2] at h2
    exact Or.inr ⟨a, b, t, rfl, ha, hb, h2⟩
theorem tk_E1_of {a : UInt8} (ha : dg a = true) (m : Mom) (r t : List UInt8) : dpieces (69 :: r) m (32 :: a :: t) = dpieces r { m with day := dnum [a] 0 } t := by
  have e : dtake m (69 : UInt8).toNat (32 :: a :: t) = ({ m with day := (dnumL (a :: t) 1).1 }, (dnumL (a :: t) 1).2) := rfl
  rw [done_of ha] at e
  exact dp_take e
theorem tk_E2_of {a b : UInt8} (ha : dg a = true) (hb : dg b = true) (m : Mom) (r t : List UInt8) : dpieces (69 :: r) m (a :: b :: t) = dpieces r { m with day := dnum [a, b] 0 } t := by
  have e : dtake m (69 : UInt8).toNat (a :: b :: t) = if Lib.hasPrefix (a :: b :: t) [32] = true then ({ m with day := (dnumL (b :: t) 1).1 }, (dnumL (b :: t) 1).2) else ({ m with day := (dnumL (a :: b :: t) 2).1 }, (dnumL (a :: b :: t) 2).2) := rfl
  have hp : ¬ Lib.hasPrefix (a :: b :: t) [32] = true := by
    intro h
    have h1 := pre_is h
    have h2 : a = 32 := by
      have := congrArg List.head? h1
      simpa using this
    subst h2
    exact absurd ha (by decide)
  rw [if_neg hp, dtwo_of ha hb] at e
  exact dp_take e
theorem tk_l44_ok {m : Mom} {s r : List UInt8} {x : Mom × List UInt8} (h : dpieces (44 :: r) m s = some x) : ∃ t, s = 44 :: t ∧ dpieces r m t = some x := by
  obtain ⟨h1, h2⟩ := dp_some h
  have e : dtake m (44 : UInt8).toNat s = if Lib.hasPrefix s [44] = true then (m, s.drop 1, true) else (m, s, false) := rfl
  rw [e] at h1 h2
  by_cases hp : Lib.hasPrefix s [44] = true
  · rw [if_pos hp] at h2
    exact ⟨s.drop 1, pre_is hp, h2⟩
  · rw [if_neg hp] at h1; cases h1
theorem tk_l44_of (m : Mom) (r t : List UInt8) : dpieces (44 :: r) m (44 :: t) = dpieces r m t := dp_take rfl
theorem tk_l32_ok {m : Mom} {s r : List UInt8} {x : Mom × List UInt8} (h : dpieces (32 :: r) m s = some x) : ∃ t, s = 32 :: t ∧ dpieces r m t = some x := by
  obtain ⟨h1, h2⟩ := dp_some h
  have e : dtake m (32 : UInt8).toNat s = if Lib.hasPrefix s [32] = true then (m, s.drop 1, true) else (m, s, false) := rfl
  rw [e] at h1 h2
  by_cases hp : Lib.hasPrefix s [32] = true
  · rw [if_pos hp] at h2
    exact ⟨s.drop 1, pre_is hp, h2⟩
  · rw [if_neg hp] at h1; cases h1
theorem tk_l32_of (m : Mom) (r t : List UInt8) : dpieces (32 :: r) m (32 :: t) = dpieces r m t := dp_take rfl
theorem tk_l58_ok {m : Mom} {s r : List UInt8} {x : Mom × List UInt8} (h : dpieces (58 :: r) m s = some x) : ∃ t, s = 58 :: t ∧ dpieces r m t = some x := by
  obtain ⟨h1, h2⟩ := dp_some h
  have e : dtake m (58 : UInt8).toNat s = if Lib.hasPrefix s [58] = true then (m, s.drop 1, true) else (m, s, false) := rfl
  rw [e] at h1 h2
  by_cases hp : Lib.hasPrefix s [58] = true
  · rw [if_pos hp] at h2
    exact ⟨s.drop 1, pre_is hp, h2⟩
  · rw [if_neg hp] at h1; cases h1
theorem tk_l58_of (m : Mom) (r t : List UInt8) : dpieces (58 :: r) m (58 :: t) = dpieces r m t := dp_take rfl
theorem tk_l71_ok {m : Mom} {s r : List UInt8} {x : Mom × List UInt8} (h : dpieces (71 :: r) m s = some x) : ∃ t, s = 71 :: t ∧ dpieces r m t = some x := by
  obtain ⟨h1, h2⟩ := dp_some h
  have e : dtake m (71 : UInt8).toNat s = if Lib.hasPrefix s [71] = true then (m, s.drop 1, true) else (m, s, false) := rfl
  rw [e] at h1 h2
  by_cases hp : Lib.hasPrefix s [71] = true
  · rw [if_pos hp] at h2
    exact ⟨s.drop 1, pre_is hp, h2⟩
  · rw [if_neg hp] at h1; cases h1
theorem tk_l71_of (m : Mom) (r t : List UInt8) : dpieces (71 :: r) m (71 :: t) = dpieces r m t := dp_take rfl
theorem tk_l77_ok {m : Mom} {s r : List UInt8} {x : Mom × List UInt8} (h : dpieces (77 :: r) m s = some x) : ∃ t, s = 77 :: t ∧ dpieces r m t = some x := by
  obtain ⟨h1, h2⟩ := dp_some h
  have e : dtake m (77 : UInt8).toNat s = if Lib.hasPrefix s [77] = true then (m, s.drop 1, true) else (m, s, false) := rfl
  rw [e] at h1 h2
  by_cases hp : Lib.hasPrefix s [77] = true
  · rw [if_pos hp] at h2
    exact ⟨s.drop 1, pre_is hp, h2⟩
  · rw [if_neg hp] at h1; cases h1
theorem tk_l77_of (m : Mom) (r t : List UInt8) : dpieces (77 :: r) m (77 :: t) = dpieces r m t := dp_take rfl
theorem tk_l84_ok {m : Mom} {s r : List UInt8} {x : Mom × List UInt8} (h : dpieces (84 :: r) m s = some x) : ∃ t, s = 84 :: t ∧ dpieces r m t = some x := by
  obtain ⟨h1, h2⟩ := dp_some h
  have e : dtake m (84 : UInt8).toNat s = if Lib.hasPrefix s [84] = true then (m, s.drop 1, true) else (m, s, false) := rfl
  rw [e] at h1 h2
  by_cases hp : Lib.hasPrefix s [84] = true
  · rw [if_pos hp] at h2
    exact ⟨s.drop 1, pre_is hp, h2⟩
  · rw [if_neg hp] at h1; cases h1
theorem tk_l84_of (m : Mom) (r t : List UInt8) : dpieces (84 :: r) m (84 :: t) = dpieces r m t := dp_take rfl
theorem tk_l45_ok {m : Mom} {s r : List UInt8} {x : Mom × List UInt8} (h : dpieces (45 :: r) m s = some x) : ∃ t, s = 45 :: t ∧ dpieces r m t = some x := by
  obtain ⟨h1, h2⟩ := dp_some h
  have e : dtake m (45 : UInt8).toNat s = if Lib.hasPrefix s [45] = true then (m, s.drop 1, true) else (m, s, false) := rfl
  rw [e] at h1 h2
  by_cases hp : Lib.hasPrefix s [45] = true
  · rw [if_pos hp] at h2
    exact ⟨s.drop 1, pre_is hp, h2⟩
  · rw [if_neg hp] at h1; cases h1
theorem tk_l45_of (m : Mom) (r t : List UInt8) : dpieces (45 :: r) m (45 :: t) = dpieces r m t := dp_take rfl
/-- One form. -/
def pform (f s : List UInt8) (now : Int) : Option Int := match dpieces f mom0 s with
  | some (m, []) => if (dtick m now).2 = true then some (dtick m now).1 else none
  | _ => none
theorem pform_some {f s : List UInt8} {now T : Int} (h : pform f s now = some T) : ∃ m, dpieces f mom0 s = some (m, []) ∧ (dtick m now).2 = true ∧ (dtick m now).1 = T := by
  unfold pform at h
  split at h
  · rename_i m hm
    split at h
    · rename_i h2
      exact ⟨m, hm, h2, Option.some.inj h⟩
    · cases h
  · cases h
theorem pform_of {f s : List UInt8} {now : Int} {m : Mom} {d : Int} (h : dpieces f mom0 s = some (m, [])) (h2 : dtick m now = (d, true)) : pform f s now = some d := by
  unfold pform
  rw [h]
  simp only [h2, if_true]
theorem dparse_pf (s f : List UInt8) (now : Int) (r : List (List UInt8)) : dparse s now (f :: r) = match pform f s now with | some T => (T, 0) | none => dparse s now r := by
  rw [dparse, pform]
  cases dpieces f mom0 s with
  | none => rfl
  | some x =>
    obtain ⟨m, t⟩ := x
    cases t with
    | cons c t => rfl
    | nil =>
      simp only
      by_cases h : (dtick m now).2 = true
      · rw [if_pos h, if_pos h]
      · rw [if_neg h, if_neg h]
theorem tick_is (m : Mom) (now : Int) (d : RD) (hd : d = ⟨dyr m now, m.month, m.day, m.hour, m.minute, m.second⟩) (hM : 1 ≤ m.month ∧ m.month ≤ 12) (h0 : 0 ≤ m.hour ∧ 0 ≤ m.minute ∧ 0 ≤ m.second) :
    dtick m now = if rmay d = true ∧ rcount d % 7 = m.wd then (rtick d, true) else (0, false) := by
  subst hd
  unfold dtick rtick rcount
  simp only
  have hmay : rmay ⟨dyr m now, m.month, m.day, m.hour, m.minute, m.second⟩ = true ↔ ¬ (dyr m now < 1970 ∨ dyr m now > 9999 ∨ m.day < 1 ∨ m.day > dlong (dyr m now) m.month ∨ m.hour > 23 ∨ m.minute > 59 ∨ m.second > 59) := by
    unfold rmay
    simp only [Bool.and_eq_true, decide_eq_true_eq]
    omega
  by_cases hc : dyr m now < 1970 ∨ dyr m now > 9999 ∨ m.day < 1 ∨ m.day > dlong (dyr m now) m.month ∨ m.hour > 23 ∨ m.minute > 59 ∨ m.second > 59
  · rw [if_pos hc, if_neg (by rw [hmay]; intro h; exact h.1 hc)]
  · rw [if_neg hc]
    have e : dahead (dyr m now) + m.day - 1 + dmons (dyr m now) (m.month.toNat - 1) = m.day - 1 + dahead (dyr m now) + dmons (dyr m now) (m.month.toNat - 1) := by omega
    rw [e]
    by_cases h7 : (m.day - 1 + dahead (dyr m now) + dmons (dyr m now) (m.month.toNat - 1)) % 7 = m.wd
    · rw [if_neg (by intro h; exact h h7), if_pos ⟨hmay.2 hc, h7⟩]
      congr 1
      omega
    · rw [if_pos h7, if_neg (by intro h; exact h7 h.2)]
theorem sound0 {s : List UInt8} {m : Mom} (h : dpieces dform0 mom0 s = some (m, [])) : ∃ (k j : Nat) (d1 d2 y1 y2 y3 y4 h1 h2 i1 i2 s1 s2 : UInt8), k < 7 ∧ j < 12 ∧ dg d1 = true ∧ dg d2 = true ∧ dg y1 = true ∧ dg y2 = true ∧ dg y3 = true ∧ dg y4 = true ∧ dg h1 = true ∧ dg h2 = true ∧ dg i1 = true ∧ dg i2 = true ∧ dg s1 = true ∧ dg s2 = true ∧ s = (ddays.getD k []).take 3 ++ (44 :: 32 :: d1 :: d2 :: 32 :: (rmons.getD j [] ++ (32 :: y1 :: y2 :: y3 :: y4 :: 32 :: h1 :: h2 :: 58 :: i1 :: i2 :: 58 :: s1 :: s2 :: 32 :: 71 :: 77 :: 84 :: []))) ∧ m = ⟨(k : Int), dnum [d1, d2] 0, (j : Int) + 1, dnum [y1, y2, y3, y4] 0, dnum [h1, h2] 0, dnum [i1, i2] 0, dnum [s1, s2] 0, false⟩ := by
  unfold dform0 at h
  obtain ⟨k, t0, hk, rfl, g0⟩ := tk_w_ok h
  obtain ⟨t1, rfl, g1⟩ := tk_l44_ok g0
  obtain ⟨t2, rfl, g2⟩ := tk_l32_ok g1
  obtain ⟨d1, d2, t3, rfl, hd1, hd2, g3⟩ := tk_D_ok g2
  obtain ⟨t4, rfl, g4⟩ := tk_l32_ok g3
  obtain ⟨j, t5, hj, rfl, g5⟩ := tk_m_ok g4
  obtain ⟨t6, rfl, g6⟩ := tk_l32_ok g5
  obtain ⟨y1, y2, y3, y4, t7, rfl, hy1, hy2, hy3, hy4, g7⟩ := tk_Y_ok g6
  obtain ⟨t8, rfl, g8⟩ := tk_l32_ok g7
  obtain ⟨h1, h2, t9, rfl, hh1, hh2, g9⟩ := tk_H_ok g8
  obtain ⟨t10, rfl, g10⟩ := tk_l58_ok g9
  obtain ⟨i1, i2, t11, rfl, hi1, hi2, g11⟩ := tk_I_ok g10
  obtain ⟨t12, rfl, g12⟩ := tk_l58_ok g11
  obtain ⟨s1, s2, t13, rfl, hs1, hs2, g13⟩ := tk_S_ok g12
  obtain ⟨t14, rfl, g14⟩ := tk_l32_ok g13
  obtain ⟨t15, rfl, g15⟩ := tk_l71_ok g14
  obtain ⟨t16, rfl, g16⟩ := tk_l77_ok g15
  obtain ⟨t17, rfl, g17⟩ := tk_l84_ok g16
  have h' := Option.some.inj g17
  obtain ⟨e1, e2⟩ := Prod.mk.inj h'
  subst e2
  exact ⟨k, j, d1, d2, y1, y2, y3, y4, h1, h2, i1, i2, s1, s2, hk, hj, hd1, hd2, hy1, hy2, hy3, hy4, hh1, hh2, hi1, hi2, hs1, hs2, rfl, e1.symm⟩
theorem sound1 {s : List UInt8} {m : Mom} (h : dpieces dform1 mom0 s = some (m, [])) : ∃ (k j : Nat) (d1 d2 y1 y2 h1 h2 i1 i2 s1 s2 : UInt8), k < 7 ∧ j < 12 ∧ dg d1 = true ∧ dg d2 = true ∧ dg y1 = true ∧ dg y2 = true ∧ dg h1 = true ∧ dg h2 = true ∧ dg i1 = true ∧ dg i2 = true ∧ dg s1 = true ∧ dg s2 = true ∧ s = ddays.getD k [] ++ (44 :: 32 :: d1 :: d2 :: 45 :: (rmons.getD j [] ++ (45 :: y1 :: y2 :: 32 :: h1 :: h2 :: 58 :: i1 :: i2 :: 58 :: s1 :: s2 :: 32 :: 71 :: 77 :: 84 :: []))) ∧ m = ⟨(k : Int), dnum [d1, d2] 0, (j : Int) + 1, dnum [y1, y2] 0, dnum [h1, h2] 0, dnum [i1, i2] 0, dnum [s1, s2] 0, true⟩ := by
  unfold dform1 at h
  obtain ⟨k, t0, hk, rfl, g0⟩ := tk_W_ok h
  obtain ⟨t1, rfl, g1⟩ := tk_l44_ok g0
  obtain ⟨t2, rfl, g2⟩ := tk_l32_ok g1
  obtain ⟨d1, d2, t3, rfl, hd1, hd2, g3⟩ := tk_D_ok g2
  obtain ⟨t4, rfl, g4⟩ := tk_l45_ok g3
  obtain ⟨j, t5, hj, rfl, g5⟩ := tk_m_ok g4
  obtain ⟨t6, rfl, g6⟩ := tk_l45_ok g5
  obtain ⟨y1, y2, t7, rfl, hy1, hy2, g7⟩ := tk_y_ok g6
  obtain ⟨t8, rfl, g8⟩ := tk_l32_ok g7
  obtain ⟨h1, h2, t9, rfl, hh1, hh2, g9⟩ := tk_H_ok g8
  obtain ⟨t10, rfl, g10⟩ := tk_l58_ok g9
  obtain ⟨i1, i2, t11, rfl, hi1, hi2, g11⟩ := tk_I_ok g10
  obtain ⟨t12, rfl, g12⟩ := tk_l58_ok g11
  obtain ⟨s1, s2, t13, rfl, hs1, hs2, g13⟩ := tk_S_ok g12
  obtain ⟨t14, rfl, g14⟩ := tk_l32_ok g13
  obtain ⟨t15, rfl, g15⟩ := tk_l71_ok g14
  obtain ⟨t16, rfl, g16⟩ := tk_l77_ok g15
  obtain ⟨t17, rfl, g17⟩ := tk_l84_ok g16
  have h' := Option.some.inj g17
  obtain ⟨e1, e2⟩ := Prod.mk.inj h'
  subst e2
  exact ⟨k, j, d1, d2, y1, y2, h1, h2, i1, i2, s1, s2, hk, hj, hd1, hd2, hy1, hy2, hh1, hh2, hi1, hi2, hs1, hs2, rfl, e1.symm⟩
theorem sound2 {s : List UInt8} {m : Mom} (h : dpieces dform2 mom0 s = some (m, [])) : (∃ (k j : Nat) (d1 h1 h2 i1 i2 s1 s2 y1 y2 y3 y4 : UInt8), k < 7 ∧ j < 12 ∧ dg d1 = true ∧ dg h1 = true ∧ dg h2 = true ∧ dg i1 = true ∧ dg i2 = true ∧ dg s1 = true ∧ dg s2 = true ∧ dg y1 = true ∧ dg y2 = true ∧ dg y3 = true ∧ dg y4 = true ∧ s = (ddays.getD k []).take 3 ++ (32 :: (rmons.getD j [] ++ (32 :: 32 :: d1 :: 32 :: h1 :: h2 :: 58 :: i1 :: i2 :: 58 :: s1 :: s2 :: 32 :: y1 :: y2 :: y3 :: y4 :: []))) ∧ m = ⟨(k : Int), dnum [d1] 0, (j : Int) + 1, dnum [y1, y2, y3, y4] 0, dnum [h1, h2] 0, dnum [i1, i2] 0, dnum [s1, s2] 0, false⟩) ∨ (∃ (k j : Nat) (d1 d2 h1 h2 i1 i2 s1 s2 y1 y2 y3 y4 : UInt8), k < 7 ∧ j < 12 ∧ dg d1 = true ∧ dg d2 = true ∧ dg h1 = true ∧ dg h2 = true ∧ dg i1 = true ∧ dg i2 = true ∧ dg s1 = true ∧ dg s2 = true ∧ dg y1 = true ∧ dg y2 = true ∧ dg y3 = true ∧ dg y4 = true ∧ s = (ddays.getD k []).take 3 ++ (32 :: (rmons.getD j [] ++ (32 :: d1 :: d2 :: 32 :: h1 :: h2 :: 58 :: i1 :: i2 :: 58 :: s1 :: s2 :: 32 :: y1 :: y2 :: y3 :: y4 :: []))) ∧ m = ⟨(k : Int), dnum [d1, d2] 0, (j : Int) + 1, dnum [y1, y2, y3, y4] 0, dnum [h1, h2] 0, dnum [i1, i2] 0, dnum [s1, s2] 0, false⟩) := by
  unfold dform2 at h
  obtain ⟨k, t0, hk, rfl, g0⟩ := tk_w_ok h
  obtain ⟨t1, rfl, g1⟩ := tk_l32_ok g0
  obtain ⟨j, t2, hj, rfl, g2⟩ := tk_m_ok g1
  obtain ⟨t3, rfl, g3⟩ := tk_l32_ok g2
  rcases tk_E_ok g3 with ⟨d1, t4, rfl, hd1, g90⟩ | ⟨d1, d2, t4, rfl, hd1, hd2, g90⟩
  · left
    obtain ⟨t5, rfl, g91⟩ := tk_l32_ok g90
    obtain ⟨h1, h2, t6, rfl, hh1, hh2, g92⟩ := tk_H_ok g91
    obtain ⟨t7, rfl, g93⟩ := tk_l58_ok g92
    obtain ⟨i1, i2, t8, rfl, hi1, hi2, g94⟩ := tk_I_ok g93
    obtain ⟨t9, rfl, g95⟩ := tk_l58_ok g94
    obtain ⟨s1, s2, t10, rfl, hs1, hs2, g96⟩ := tk_S_ok g95
    obtain ⟨t11, rfl, g97⟩ := tk_l32_ok g96
    obtain ⟨y1, y2, y3, y4, t12, rfl, hy1, hy2, hy3, hy4, g98⟩ := tk_Y_ok g97
    have h' := Option.some.inj g98
    obtain ⟨e1, e2⟩ := Prod.mk.inj h'
    subst e2
    exact ⟨k, j, d1, h1, h2, i1, i2, s1, s2, y1, y2, y3, y4, hk, hj, hd1, hh1, hh2, hi1, hi2, hs1, hs2, hy1, hy2, hy3, hy4, rfl, e1.symm⟩
  · right
    obtain ⟨t5, rfl, g91⟩ := tk_l32_ok g90
    obtain ⟨h1, h2, t6, rfl, hh1, hh2, g92⟩ := tk_H_ok g91
    obtain ⟨t7, rfl, g93⟩ := tk_l58_ok g92
    obtain ⟨i1, i2, t8, rfl, hi1, hi2, g94⟩ := tk_I_ok g93
    obtain ⟨t9, rfl, g95⟩ := tk_l58_ok g94
    obtain ⟨s1, s2, t10, rfl, hs1, hs2, g96⟩ := tk_S_ok g95
    obtain ⟨t11, rfl, g97⟩ := tk_l32_ok g96
    obtain ⟨y1, y2, y3, y4, t12, rfl, hy1, hy2, hy3, hy4, g98⟩ := tk_Y_ok g97
    have h' := Option.some.inj g98
    obtain ⟨e1, e2⟩ := Prod.mk.inj h'
    subst e2
    exact ⟨k, j, d1, d2, h1, h2, i1, i2, s1, s2, y1, y2, y3, y4, hk, hj, hd1, hd2, hh1, hh2, hi1, hi2, hs1, hs2, hy1, hy2, hy3, hy4, rfl, e1.symm⟩
theorem comp0 {k j : Nat} {d1 d2 y1 y2 y3 y4 h1 h2 i1 i2 s1 s2 : UInt8} (hk : k < 7) (hj : j < 12) (hd1 : dg d1 = true) (hd2 : dg d2 = true) (hy1 : dg y1 = true) (hy2 : dg y2 = true) (hy3 : dg y3 = true) (hy4 : dg y4 = true) (hh1 : dg h1 = true) (hh2 : dg h2 = true) (hi1 : dg i1 = true) (hi2 : dg i2 = true) (hs1 : dg s1 = true) (hs2 : dg s2 = true) : dpieces dform0 mom0 ((ddays.getD k []).take 3 ++ (44 :: 32 :: d1 :: d2 :: 32 :: (rmons.getD j [] ++ (32 :: y1 :: y2 :: y3 :: y4 :: 32 :: h1 :: h2 :: 58 :: i1 :: i2 :: 58 :: s1 :: s2 :: 32 :: 71 :: 77 :: 84 :: [])))) = some (⟨(k : Int), dnum [d1, d2] 0, (j : Int) + 1, dnum [y1, y2, y3, y4] 0, dnum [h1, h2] 0, dnum [i1, i2] 0, dnum [s1, s2] 0, false⟩, []) := by
  unfold dform0
  rw [tk_w_of k hk, tk_l44_of, tk_l32_of, tk_D_of hd1 hd2, tk_l32_of, tk_m_of j hj, tk_l32_of, tk_Y_of hy1 hy2 hy3 hy4, tk_l32_of, tk_H_of hh1 hh2, tk_l58_of, tk_I_of hi1 hi2, tk_l58_of, tk_S_of hs1 hs2, tk_l32_of, tk_l71_of, tk_l77_of, tk_l84_of]
  rfl
theorem comp1 {k j : Nat} {d1 d2 y1 y2 h1 h2 i1 i2 s1 s2 : UInt8} (hk : k < 7) (hj : j < 12) (hd1 : dg d1 = true) (hd2 : dg d2 = true) (hy1 : dg y1 = true) (hy2 : dg y2 = true) (hh1 : dg h1 = true) (hh2 : dg h2 = true) (hi1 : dg i1 = true) (hi2 : dg i2 = true) (hs1 : dg s1 = true) (hs2 : dg s2 = true) : dpieces dform1 mom0 (ddays.getD k [] ++ (44 :: 32 :: d1 :: d2 :: 45 :: (rmons.getD j [] ++ (45 :: y1 :: y2 :: 32 :: h1 :: h2 :: 58 :: i1 :: i2 :: 58 :: s1 :: s2 :: 32 :: 71 :: 77 :: 84 :: [])))) = some (⟨(k : Int), dnum [d1, d2] 0, (j : Int) + 1, dnum [y1, y2] 0, dnum [h1, h2] 0, dnum [i1, i2] 0, dnum [s1, s2] 0, true⟩, []) := by
  unfold dform1
  rw [tk_W_of k hk, tk_l44_of, tk_l32_of, tk_D_of hd1 hd2, tk_l45_of, tk_m_of j hj, tk_l45_of, tk_y_of hy1 hy2, tk_l32_of, tk_H_of hh1 hh2, tk_l58_of, tk_I_of hi1 hi2, tk_l58_of, tk_S_of hs1 hs2, tk_l32_of, tk_l71_of, tk_l77_of, tk_l84_of]
  rfl
theorem comp21 {k j : Nat} {d1 h1 h2 i1 i2 s1 s2 y1 y2 y3 y4 : UInt8} (hk : k < 7) (hj : j < 12) (hd1 : dg d1 = true) (hh1 : dg h1 = true) (hh2 : dg h2 = true) (hi1 : dg i1 = true) (hi2 : dg i2 = true) (hs1 : dg s1 = true) (hs2 : dg s2 = true) (hy1 : dg y1 = true) (hy2 : dg y2 = true) (hy3 : dg y3 = true) (hy4 : dg y4 = true) : dpieces dform2 mom0 ((ddays.getD k []).take 3 ++ (32 :: (rmons.getD j [] ++ (32 :: 32 :: d1 :: 32 :: h1 :: h2 :: 58 :: i1 :: i2 :: 58 :: s1 :: s2 :: 32 :: y1 :: y2 :: y3 :: y4 :: [])))) = some (⟨(k : Int), dnum [d1] 0, (j : Int) + 1, dnum [y1, y2, y3, y4] 0, dnum [h1, h2] 0, dnum [i1, i2] 0, dnum [s1, s2] 0, false⟩, []) := by
  unfold dform2
  rw [tk_w_of k hk, tk_l32_of, tk_m_of j hj, tk_l32_of, tk_E1_of hd1, tk_l32_of, tk_H_of hh1 hh2, tk_l58_of, tk_I_of hi1 hi2, tk_l58_of, tk_S_of hs1 hs2, tk_l32_of, tk_Y_of hy1 hy2 hy3 hy4]
  rfl
theorem comp22 {k j : Nat} {d1 d2 h1 h2 i1 i2 s1 s2 y1 y2 y3 y4 : UInt8} (hk : k < 7) (hj : j < 12) (hd1 : dg d1 = true) (hd2 : dg d2 = true) (hh1 : dg h1 = true) (hh2 : dg h2 = true) (hi1 : dg i1 = true) (hi2 : dg i2 = true) (hs1 : dg s1 = true) (hs2 : dg s2 = true) (hy1 : dg y1 = true) (hy2 : dg y2 = true) (hy3 : dg y3 = true) (hy4 : dg y4 = true) : dpieces dform2 mom0 ((ddays.getD k []).take 3 ++ (32 :: (rmons.getD j [] ++ (32 :: d1 :: d2 :: 32 :: h1 :: h2 :: 58 :: i1 :: i2 :: 58 :: s1 :: s2 :: 32 :: y1 :: y2 :: y3 :: y4 :: [])))) = some (⟨(k : Int), dnum [d1, d2] 0, (j : Int) + 1, dnum [y1, y2, y3, y4] 0, dnum [h1, h2] 0, dnum [i1, i2] 0, dnum [s1, s2] 0, false⟩, []) := by
  unfold dform2
  rw [tk_w_of k hk, tk_l32_of, tk_m_of j hj, tk_l32_of, tk_E2_of hd1 hd2, tk_l32_of, tk_H_of hh1 hh2, tk_l58_of, tk_I_of hi1 hi2, tk_l58_of, tk_S_of hs1 hs2, tk_l32_of, tk_Y_of hy1 hy2 hy3 hy4]
  rfl
theorem rnum_two {s t : List UInt8} {n : Nat} {a b : UInt8} (h : s.drop n = a :: b :: t) (ha : dg a = true) (hb : dg b = true) : rnum s n 2 = dnum [a, b] 0 := by
  have hl : n + 2 ≤ s.length := by
    have := congrArg List.length h
    rw [List.length_drop] at this; simp at this; omega
  unfold rnum
  rw [if_neg (by omega), h]
  simp [ha, hb]
theorem rnum_one {s t : List UInt8} {n : Nat} {a : UInt8} (h : s.drop n = a :: t) (ha : dg a = true) : rnum s n 1 = dnum [a] 0 := by
  have hl : n + 1 ≤ s.length := by
    have := congrArg List.length h
    rw [List.length_drop] at this; simp at this; omega
  unfold rnum
  rw [if_neg (by omega), h]
  simp [ha]
theorem rnum_four {s t : List UInt8} {n : Nat} {a b c d : UInt8} (h : s.drop n = a :: b :: c :: d :: t) (ha : dg a = true) (hb : dg b = true) (hc : dg c = true) (hd : dg d = true) : rnum s n 4 = dnum [a, b, c, d] 0 := by
  have hl : n + 4 ≤ s.length := by
    have := congrArg List.length h
    rw [List.length_drop] at this; simp at this; omega
  unfold rnum
  rw [if_neg (by omega), h]
  simp [ha, hb, hc, hd]
theorem rnum_no {s t : List UInt8} {n : Nat} {a : UInt8} (h : s.drop n = a :: t) (ha : dg a = false) : rnum s n 2 = -1 := by
  unfold rnum
  by_cases hl : s.length < n + 2
  · rw [if_pos hl]
  · rw [if_neg hl, h]
    rw [if_neg]
    simp [ha]
theorem rnum_hi2 (s : List UInt8) (n : Nat) : rnum s n 2 ≤ 99 := by
  unfold rnum
  split
  · decide
  · split
    · rename_i hl h
      match he : (s.drop n).take 2, h with
      | [], _ => decide
      | [a], h =>
        have h1 : dg a = true := by simpa using h
        have := dnum1_in h1; omega
      | a :: b :: t, h =>
        have hlen : ((s.drop n).take 2).length ≤ 2 := by rw [List.length_take]; omega
        rw [he] at hlen
        have ht : t = [] := by cases t with
          | nil => rfl
          | cons c t => simp at hlen
        subst ht
        have h1 : dg a = true ∧ dg b = true := by simpa using h
        have := dnum2_in h1.1 h1.2; omega
    · decide
theorem rnum_hi1 (s : List UInt8) (n : Nat) : rnum s n 1 ≤ 9 := by
  unfold rnum
  split
  · decide
  · split
    · rename_i hl h
      match he : (s.drop n).take 1, h with
      | [], _ => decide
      | a :: t, h =>
        have hlen : ((s.drop n).take 1).length ≤ 1 := by rw [List.length_take]; omega
        rw [he] at hlen
        have ht : t = [] := by cases t with
          | nil => rfl
          | cons c t => simp at hlen
        subst ht
        have h1 : dg a = true := by simpa using h
        have := dnum1_in h1; omega
    · decide
theorem rmonth_is {s t : List UInt8} {n j : Nat} (hj : j < 12) (h : s.drop n = rmons.getD j [] ++ t) : rmonth s n = (j : Int) + 1 := by
  obtain ⟨p, q, r, hm⟩ := mon_three j hj
  have hl : n + 3 ≤ s.length := by
    have := congrArg List.length h
    rw [List.length_drop, hm] at this; simp at this; omega
  unfold rmonth
  rw [if_neg (by omega), h, ← mon_at j hj, hm]
  rfl
theorem rdig2_cong {n N : Int} (h : n % 100 = N % 100) : rdig 2 n = rdig 2 N := by
  simp only [rdig, List.nil_append]
  rw [show n / 10 % 10 = N / 10 % 10 from by omega, show n % 10 = N % 10 from by omega]
theorem rmon_at (j : Nat) : rmon ((j : Int) + 1) = rmons.getD j [] := by
  unfold rmon
  rw [show ((j : Int) + 1 - 1).toNat = j from by omega]
theorem rmon_is (m : Int) (h : 1 ≤ m) (h2 : m ≤ 12) : ∃ j : Nat, j < 12 ∧ rmon m = rmons.getD j [] ∧ (j : Int) + 1 = m := ⟨(m - 1).toNat, by omega, rfl, by omega⟩
theorem rmay_is {d : RD} (h : rmay d = true) : 1970 ≤ d.year ∧ d.year ≤ 9999 ∧ 1 ≤ d.month ∧ d.month ≤ 12 ∧ 1 ≤ d.day ∧ d.day ≤ dlong d.year d.month ∧ 0 ≤ d.hour ∧ d.hour ≤ 23 ∧ 0 ≤ d.minute ∧ d.minute ≤ 59 ∧ 0 ≤ d.second ∧ d.second ≤ 59 := by
  unfold rmay at h
  simp only [Bool.and_eq_true, decide_eq_true_eq] at h
  omega
theorem dlong_hi (y m : Int) : dlong y m ≤ 31 := by
  unfold dlong
  split
  · split <;> omega
  · split <;> omega
theorem wd_three (k : Nat) (hk : k < 7) : ((ddays.getD k []).take 3).length = 3 := by
  have hall : ∀ k < 7, ((ddays.getD k []).take 3).length = 3 := by decide
  exact hall k hk
theorem mon_len (k : Nat) (hk : k < 12) : (rmons.getD k []).length = 3 := by
  have hall : ∀ k < 12, (rmons.getD k []).length = 3 := by decide
  exact hall k hk
theorem drop_past (x t : List UInt8) (n i : Nat) (h : n = x.length + i) : (x ++ t).drop n = t.drop i := by
  subst h
  rw [List.drop_append, List.drop_of_length_le (by omega), List.nil_append]
  congr 1
  omega
end Go.Proofs.YtgmmjhcklhajiaaGreatDoor
