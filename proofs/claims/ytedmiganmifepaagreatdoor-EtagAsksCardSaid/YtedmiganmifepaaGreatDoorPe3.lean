/- Joined out of the texts Date6, Date7, Date8, EtagNot, RLow, RValues, RGet04, RDateSpec, Date9, DateP, RWalk1, RWalk2 (wip/tools/merge.py). -/
import Derived.Test.YtedmiganmifepaaGreatDoorPe2
import Derived.Laws.RangeString
import Derived.WalkMore
import Derived.Laws.EntriesVeiled
import Derived.Laws.BytesArg
/- Dates: the walk of tick, of a year of two digits (printed by wip/tools/date5.py). -/
namespace Go.Proofs.YtedmiganmifepaaGreatDoor
open Go.RowKit
set_option maxRecDepth 100000

set_option maxHeartbeats 32000000 in
theorem dtick_two (mb : Nat) (m : Mom) (now : Int) (w : World) (hm : MomAt mb m w) (ho : MomOk m) (h2 : m.two = true) :
    Calls Tryz.prog 53 #[.pointer (some ⟨mb, 0, none⟩), .int .i64 now] w (TickPost mb w (dtick m now)) := by
  obtain ⟨R, hR⟩ : ∃ R, dtick m now = R := ⟨_, rfl⟩
  rw [hR]
  obtain ⟨dn, hdn⟩ : ∃ dn, max 0 (min now 253402300799) / 86400 = dn := ⟨_, rfl⟩
  have hdn0 : dnow now = dn := hdn
  have hdnb : 0 ≤ dn ∧ dn ≤ 3000000 := by omega
  have hwq : IntKind.i64.wrap dn = dn := by rw [IntKind.wrap_i64]; omega
  have HDN := Lib.hid hdn
  have ky := dyear_any dn hdnb w
  have hyg := dyear_ge 9000 dn (1970 + dn / 366)
  obtain ⟨YY, hYY⟩ : ∃ YY, dyear 9000 dn (1970 + dn / 366) = YY := ⟨_, rfl⟩
  have hyo : (dyearO dn).1 = YY := hYY
  rw [hyo] at ky
  rw [hYY] at hyg
  generalize (dyearO dn).2 = rst at *
  have ho2 := ho.two h2
  obtain ⟨oy1, oy2⟩ := ho.year
  have hYb0 : 1970 ≤ YY ∧ YY ≤ 30000 := by omega
  obtain ⟨Y, hY⟩ : ∃ Y, (YY + 50) - ((YY + 50) - m.year) % 100 = Y := ⟨_, rfl⟩
  have hy : dyr m now = Y := by unfold dyr; rw [if_pos h2, hdn0, hyo]; exact hY
  have hYb : 0 ≤ Y ∧ Y ≤ 100000 := by omega
  have em0 : ((YY + 50) - m.year).tmod 100 = ((YY + 50) - m.year) % 100 := Int.tmod_eq_emod_of_nonneg (by omega)
  obtain ⟨md, hmd⟩ : ∃ md, ((YY + 50) - m.year) % 100 = md := ⟨_, rfl⟩
  rw [hmd] at em0 hY
  have w1 : IntKind.i64.wrap (YY + 50) = YY + 50 := by rw [IntKind.wrap_i64]; omega
  have w2 : IntKind.i64.wrap (YY + 50 - m.year) = YY + 50 - m.year := by rw [IntKind.wrap_i64]; omega
  have w3 : IntKind.i64.wrap (YY + 50 - md) = YY + 50 - md := by rw [IntKind.wrap_i64]; omega
  obtain ⟨c0, c1, c2, c3, c4, c5, c6, c7, hf⟩ := hm.cells
  have f3 := hf 3
  rw [h2] at c7
  have HR0 := Lib.hid hR; have HY := Lib.hid hy; have HO := Lib.hid ho; have HM := Lib.hid hm; have KY := Lib.hid ky; have HYE := Lib.hid hY
  obtain ⟨ow1, ow2⟩ := ho.wd
  obtain ⟨od1, od2⟩ := ho.day
  obtain ⟨om1, om2⟩ := ho.month
  obtain ⟨oh1, oh2⟩ := ho.hour
  obtain ⟨on1, on2⟩ := ho.minute
  obtain ⟨os1, os2⟩ := ho.second
  clear hR hy hm ho hf h2 hY hdn0 hdn hyg hYY hyo hmd ky
  go_enter Tryz.func53, Tryz.ntmps53
  go_wp2_with fail
  rw [HDN.out]
  (with_reducible refine KY.out.mono ?_)
  rintro e wy ⟨rfl, rfl⟩
  go_upto_region 5 with (fail)
  rw [HYE.out]
  have hm2 : MomAt mb { m with year := Y } ((wy.drewN 0).setCell ⟨mb, 3, none⟩ (.int .i64 Y)) := HM.out.set3 (q := 0) Y
  have hb2 : ButB mb wy ((wy.drewN 0).setCell ⟨mb, 3, none⟩ (.int .i64 Y)) := ButB.set mb 3 0 wy _
  obtain ⟨WZ, hWZ⟩ : ∃ WZ, wy.setCell ⟨mb, 3, none⟩ (.int .i64 Y) = WZ := ⟨_, rfl⟩
  have hm3 : MomAt mb { m with year := Y } WZ := by rw [← hWZ]; exact hm2
  have hb3 : ButB mb wy WZ := by rw [← hWZ]; exact hb2
  rw [hWZ]
  clear c0 c1 c2 c3 c4 c5 c6 c7 f3 hm2 hb2 hwq em0 w1 w2 w3 hWZ
  obtain ⟨c0, c1, c2, c3, c4, c5, c6, c7, _⟩ := hm3.cells
  simp only at c0 c1 c2 c3 c4 c5 c6 c7
  have HBT := Lib.hid hb3
  clear hm3 hb3
  have kl := fun w' => dlong_any Y m.month hYb w'
  have KL := Lib.hid kl
  clear kl
  have hlb := dlong_le Y m.month
  by_cases q1 : Y < 1970
  · have hR2 : R = (0, false) := by rw [← HR0.out]; unfold dtick; rw [HY.out, if_pos (Or.inl q1)]
    have HR := Lib.hid hR2.symm
    clear hR2
    have t1 : decide (Y < 1970) = true := by simpa using q1
    go_wp2
    go_region
    go_wp2
    go_ret2
    exact ⟨by rw [← HR.out]; rfl, HBT.out.drewN 1⟩
  have t1 : decide (Y < 1970) = false := by simpa using q1
  by_cases q2 : Y > 9999
  · have hR2 : R = (0, false) := by rw [← HR0.out]; unfold dtick; rw [HY.out, if_pos (Or.inr (Or.inl q2))]
    have HR := Lib.hid hR2.symm
    clear hR2
    have t2 : decide (Y > 9999) = true := by simpa using q2
    go_wp2
    go_region
    go_wp2
    go_ret2
    exact ⟨by rw [← HR.out]; rfl, HBT.out.drewN 1⟩
  have t2 : decide (Y > 9999) = false := by simpa using q2
  by_cases q3 : m.day < 1
  · have hR2 : R = (0, false) := by rw [← HR0.out]; unfold dtick; rw [HY.out, if_pos (Or.inr (Or.inr (Or.inl q3)))]
    have HR := Lib.hid hR2.symm
    clear hR2
    have t3 : decide (m.day < 1) = true := by simpa using q3
    go_wp2
    go_region
    go_wp2
    go_ret2
    exact ⟨by rw [← HR.out]; rfl, HBT.out.drewN 1⟩
  have t3 : decide (m.day < 1) = false := by simpa using q3
  by_cases q4 : m.day > dlong Y m.month
  · have hR2 : R = (0, false) := by rw [← HR0.out]; unfold dtick; rw [HY.out, if_pos (Or.inr (Or.inr (Or.inr (Or.inl q4))))]
    have HR := Lib.hid hR2.symm
    clear hR2
    have t4 : decide (m.day > dlong Y m.month) = true := by simpa using q4
    go_wp2
    refine wp_region_held_drew (S := (fun w' => w'.cell? ⟨mb, 1, none⟩ = some (.int .i64 m.day) ∧ w'.cell? ⟨mb, 2, none⟩ = some (.int .i64 m.month) ∧ w'.cell? ⟨mb, 3, none⟩ = some (.int .i64 Y) ∧ w'.cell? ⟨mb, 4, none⟩ = some (.int .i64 m.hour) ∧ w'.cell? ⟨mb, 5, none⟩ = some (.int .i64 m.minute) ∧ w'.cell? ⟨mb, 6, none⟩ = some (.int .i64 m.second))) (by kernel_rfl) (⟨c1, c2, c3, c4, c5, c6⟩) (fun hHeld => ?_)
    refine wpAnyH_take (i := 0) (v := ?_) (by simp only [List.getElem?_toArray, List.getElem?_cons_zero]; exact rfl) (by kernel_rfl) (by kernel_rfl) (by kernel_rfl) (by intro _ _ _ h; exact h) (Or.inl ⟨by rfl, fun W hSw => ?_⟩) hHeld ?_
    rotate_left
    focus ((try dsimp only at hSw); first | (go_simp; done) | (go_simp; with_reducible rfl))
    try simp only [Act.put, List.setIfInBounds_toArray, List.set_cons_zero, List.set_cons_succ]
    refine wpAnyH_take (i := 1) (v := ?_) (by simp only [List.getElem?_toArray, List.getElem?_cons_succ, List.getElem?_cons_zero]; exact rfl) (by kernel_rfl) (by kernel_rfl) (by kernel_rfl) (by intro _ _ _ h; exact h) (Or.inl ⟨by rfl, fun W hSw => ?_⟩) hHeld ?_
    rotate_left
    focus ((try dsimp only at hSw); first | (go_simp; done) | (go_simp; with_reducible rfl))
    try simp only [Act.put, List.setIfInBounds_toArray, List.set_cons_zero, List.set_cons_succ]
    refine wpAnyH_take (i := 2) (v := ?_) (by simp only [List.getElem?_toArray, List.getElem?_cons_succ, List.getElem?_cons_zero]; exact rfl) (by kernel_rfl) (by kernel_rfl) (by kernel_rfl) (by intro _ _ _ h; exact h) (Or.inl ⟨by rfl, fun W hSw => ?_⟩) hHeld ?_
    rotate_left
    focus ((try dsimp only at hSw); first | (go_simp; done) | (go_simp; with_reducible rfl))
    try simp only [Act.put, List.setIfInBounds_toArray, List.set_cons_zero, List.set_cons_succ]
    refine wpAnyH_take (i := 3) (v := ?_) (by simp only [List.getElem?_toArray, List.getElem?_cons_succ, List.getElem?_cons_zero]; exact rfl) (by kernel_rfl) (by kernel_rfl) (by kernel_rfl) (by intro _ _ _ h; exact h) (Or.inl ⟨by rfl, fun W hSw => ?_⟩) hHeld ?_
    rotate_left
    focus ((try dsimp only at hSw); first | (go_simp; done) | (go_simp; with_reducible rfl))
    try simp only [Act.put, List.setIfInBounds_toArray, List.set_cons_zero, List.set_cons_succ]
    refine wpAnyH_take (i := 4) (v := ?_) (by simp only [List.getElem?_toArray, List.getElem?_cons_succ, List.getElem?_cons_zero]; exact rfl) (by kernel_rfl) (by kernel_rfl) (by kernel_rfl) (by intro _ _ _ h; exact h) (Or.inl ⟨by rfl, fun W hSw => ?_⟩) hHeld ?_
    rotate_left
    focus ((try dsimp only at hSw); first | (go_simp; done) | (go_simp; with_reducible rfl))
    try simp only [Act.put, List.setIfInBounds_toArray, List.set_cons_zero, List.set_cons_succ]
    refine wpAnyH_take (i := 5) (v := ?_) (by simp only [List.getElem?_toArray, List.getElem?_cons_succ, List.getElem?_cons_zero]; exact rfl) (by kernel_rfl) (by kernel_rfl) (by kernel_rfl) (by intro _ _ _ h; exact h) (Or.inl ⟨by rfl, fun W hSw => ?_⟩) hHeld ?_
    rotate_left
    focus ((try dsimp only at hSw); first | (go_simp; done) | (go_simp; with_reducible rfl))
    try simp only [Act.put, List.setIfInBounds_toArray, List.set_cons_zero, List.set_cons_succ]
    refine wpAnyH_take (i := 6) (v := ?_) (by simp only [List.getElem?_toArray, List.getElem?_cons_succ, List.getElem?_cons_zero]; exact rfl) (by kernel_rfl) (by kernel_rfl) (by kernel_rfl) (by intro _ _ _ h; exact h) (Or.inl ⟨by rfl, fun W hSw => ?_⟩) hHeld ?_
    rotate_left
    focus ((try dsimp only at hSw); first | (go_simp; done) | (go_simp; with_reducible rfl))
    try simp only [Act.put, List.setIfInBounds_toArray, List.set_cons_zero, List.set_cons_succ]
    refine wpAnyH_take (i := 7) (v := ?_) (by simp only [List.getElem?_toArray, List.getElem?_cons_succ, List.getElem?_cons_zero]; exact rfl) (by kernel_rfl) (by kernel_rfl) (by kernel_rfl) (by intro _ _ _ h; exact h) (Or.inl ⟨by rfl, fun W hSw => ?_⟩) hHeld ?_
    rotate_left
    focus ((try dsimp only at hSw); first | (go_simp; done) | (go_simp; with_reducible rfl))
    try simp only [Act.put, List.setIfInBounds_toArray, List.set_cons_zero, List.set_cons_succ]
    refine wpAnyH_take (i := 8) (v := ?_) (by simp only [List.getElem?_toArray, List.getElem?_cons_succ, List.getElem?_cons_zero]; exact rfl) (by kernel_rfl) (by kernel_rfl) (by kernel_rfl) (by intro _ _ _ h; exact h) (Or.inl ⟨by rfl, fun W hSw => ?_⟩) hHeld ?_
    rotate_left
    focus ((try dsimp only at hSw); first | (go_simp; done) | (go_simp; with_reducible rfl))
    try simp only [Act.put, List.setIfInBounds_toArray, List.set_cons_zero, List.set_cons_succ]
    refine wpAnyH_take (i := 9) (v := ?_) (by simp only [List.getElem?_toArray, List.getElem?_cons_succ, List.getElem?_cons_zero]; exact rfl) (by kernel_rfl) (by kernel_rfl) (by kernel_rfl) (by intro _ _ _ h; exact h) (Or.inl ⟨by rfl, fun W hSw => ?_⟩) hHeld ?_
    rotate_left
    focus ((try dsimp only at hSw); first | (go_simp; done) | (go_simp; with_reducible rfl))
    try simp only [Act.put, List.setIfInBounds_toArray, List.set_cons_zero, List.set_cons_succ]
    refine wpAnyH_take (i := 10) (v := ?_) (by simp only [List.getElem?_toArray, List.getElem?_cons_succ, List.getElem?_cons_zero]; exact rfl) (by kernel_rfl) (by kernel_rfl) (by kernel_rfl) (by intro _ _ _ h; exact h) (Or.inl ⟨by rfl, fun W hSw => ?_⟩) hHeld ?_
    rotate_left
    focus ((try dsimp only at hSw); first | (go_simp; done) | (go_simp; with_reducible rfl))
    try simp only [Act.put, List.setIfInBounds_toArray, List.set_cons_zero, List.set_cons_succ]
    refine wpAnyH_take (i := 11) (v := ?_) (by simp only [List.getElem?_toArray, List.getElem?_cons_succ, List.getElem?_cons_zero]; exact rfl) (by kernel_rfl) (by kernel_rfl) (by kernel_rfl) (by intro _ _ _ h; exact h) (Or.inl ⟨by rfl, fun W hSw => ?_⟩) hHeld ?_
    rotate_left
    focus ((try dsimp only at hSw); first | (go_simp; done) | (go_simp; with_reducible rfl))
    try simp only [Act.put, List.setIfInBounds_toArray, List.set_cons_zero, List.set_cons_succ]
    refine wpAnyH_take (i := 12) (v := ?_) (by simp only [List.getElem?_toArray, List.getElem?_cons_succ, List.getElem?_cons_zero]; exact rfl) (by kernel_rfl) (by kernel_rfl) (by kernel_rfl) (by intro _ _ _ h; exact h) (Or.inl ⟨by rfl, fun W hSw => ?_⟩) hHeld ?_
    rotate_left
    focus ((try dsimp only at hSw); first | (go_simp; done) | (go_simp; with_reducible rfl))
    try simp only [Act.put, List.setIfInBounds_toArray, List.set_cons_zero, List.set_cons_succ]
    refine wpAnyH_take (i := 13) (v := ?_) (by simp only [List.getElem?_toArray, List.getElem?_cons_succ, List.getElem?_cons_zero]; exact rfl) (by kernel_rfl) (by kernel_rfl) (by kernel_rfl) (by intro _ _ _ h; exact h) (Or.inl ⟨by rfl, fun W hSw => ?_⟩) hHeld ?_
    rotate_left
    focus ((try dsimp only at hSw); first | (go_simp; done) | (go_simp; with_reducible rfl))
    try simp only [Act.put, List.setIfInBounds_toArray, List.set_cons_zero, List.set_cons_succ]
    refine wpAnyH_take (i := 14) (v := ?_) (by simp only [List.getElem?_toArray, List.getElem?_cons_succ, List.getElem?_cons_zero]; exact rfl) (by kernel_rfl) (by kernel_rfl) (by kernel_rfl) (by intro _ _ _ h; exact h) (Or.inl ⟨by rfl, fun W hSw => ?_⟩) hHeld ?_
    rotate_left
    focus ((try dsimp only at hSw); first | (go_simp; done) | (go_simp; with_reducible rfl))
    try simp only [Act.put, List.setIfInBounds_toArray, List.set_cons_zero, List.set_cons_succ]
    refine wpAnyH_take (i := 15) (v := ?_) (by simp only [List.getElem?_toArray, List.getElem?_cons_succ, List.getElem?_cons_zero]; exact rfl) (by kernel_rfl) (by kernel_rfl) (by kernel_rfl) (by intro _ _ _ h; exact h) (Or.inl ⟨by rfl, fun W hSw => ?_⟩) hHeld ?_
    rotate_left
    focus ((try dsimp only at hSw); first | (go_simp; done) | (go_simp; with_reducible rfl))
    try simp only [Act.put, List.setIfInBounds_toArray, List.set_cons_zero, List.set_cons_succ]
    refine wpAnyH_take (i := 16) (v := ?_) (by simp only [List.getElem?_toArray, List.getElem?_cons_succ, List.getElem?_cons_zero]; exact rfl) (by kernel_rfl) (by kernel_rfl) (by kernel_rfl) (by intro _ _ _ h; exact h) (Or.inl ⟨by rfl, fun W hSw => ?_⟩) hHeld ?_
    rotate_left
    focus ((try dsimp only at hSw); first | (go_simp; done) | (go_simp; with_reducible rfl))
    try simp only [Act.put, List.setIfInBounds_toArray, List.set_cons_zero, List.set_cons_succ]
    refine wpAnyH_take (i := 17) (v := ?_) (by simp only [List.getElem?_toArray, List.getElem?_cons_succ, List.getElem?_cons_zero]; exact rfl) (by kernel_rfl) (by kernel_rfl) (by kernel_rfl) (by intro _ _ _ h; exact h) (Or.inl ⟨by rfl, fun W hSw => ?_⟩) hHeld ?_
    rotate_left
    focus ((try dsimp only at hSw); first | (go_simp; done) | (go_simp; with_reducible rfl))
    try simp only [Act.put, List.setIfInBounds_toArray, List.set_cons_zero, List.set_cons_succ]
    refine wpAnyH_take (i := 18) (v := ?_) (by simp only [List.getElem?_toArray, List.getElem?_cons_succ, List.getElem?_cons_zero]; exact rfl) (by kernel_rfl) (by kernel_rfl) (by kernel_rfl) (by intro _ _ _ h; exact h) (Or.inl ⟨by rfl, fun W hSw => ?_⟩) hHeld ?_
    rotate_left
    focus ((try dsimp only at hSw); first | (go_simp; done) | (go_simp; with_reducible rfl))
    try simp only [Act.put, List.setIfInBounds_toArray, List.set_cons_zero, List.set_cons_succ]
    refine wpAnyH_take (i := 19) (v := ?_) (by simp only [List.getElem?_toArray, List.getElem?_cons_succ, List.getElem?_cons_zero]; exact rfl) (by kernel_rfl) (by kernel_rfl) (by kernel_rfl) (by intro _ _ _ h; exact h) (Or.inl ⟨by rfl, fun W hSw => ?_⟩) hHeld ?_
    rotate_left
    focus ((try dsimp only at hSw); first | (go_simp; done) | (go_simp; with_reducible rfl))
    try simp only [Act.put, List.setIfInBounds_toArray, List.set_cons_zero, List.set_cons_succ]
    refine wpAnyH_take (i := 20) (v := ?_) (by simp only [List.getElem?_toArray, List.getElem?_cons_succ, List.getElem?_cons_zero]; exact rfl) (by kernel_rfl) (by kernel_rfl) (by kernel_rfl) (by intro _ _ _ h; exact h) (Or.inl ⟨by rfl, fun W hSw => ?_⟩) hHeld ?_
    rotate_left
    focus ((try dsimp only at hSw); first | (go_simp; done) | (go_simp; with_reducible rfl))
    try simp only [Act.put, List.setIfInBounds_toArray, List.set_cons_zero, List.set_cons_succ]
    refine wpAnyH_take (i := 21) (v := ?_) (by simp only [List.getElem?_toArray, List.getElem?_cons_succ, List.getElem?_cons_zero]; exact rfl) (by kernel_rfl) (by kernel_rfl) (by kernel_rfl) (by intro _ _ _ h; exact h) (Or.inl ⟨by rfl, fun W hSw => ?_⟩) hHeld ?_
    rotate_left
    focus ((try dsimp only at hSw); first | (go_simp; done) | (go_simp; with_reducible rfl))
    try simp only [Act.put, List.setIfInBounds_toArray, List.set_cons_zero, List.set_cons_succ]
    refine wpAnyH_take (i := 22) (v := ?_) (by simp only [List.getElem?_toArray, List.getElem?_cons_succ, List.getElem?_cons_zero]; exact rfl) (by kernel_rfl) (by kernel_rfl) (by kernel_rfl) (by intro _ _ _ h; exact h) (Or.inl ⟨by rfl, fun W hSw => ?_⟩) hHeld ?_
    rotate_left
    focus ((try dsimp only at hSw); first | (go_simp; done) | (go_simp; with_reducible rfl))
    try simp only [Act.put, List.setIfInBounds_toArray, List.set_cons_zero, List.set_cons_succ]
    refine wpAnyH_take (i := 23) (v := ?_) (by simp only [List.getElem?_toArray, List.getElem?_cons_succ, List.getElem?_cons_zero]; exact rfl) (by kernel_rfl) (by kernel_rfl) (by kernel_rfl) (by intro _ _ _ h; exact h) (Or.inl ⟨by rfl, fun W hSw => ?_⟩) hHeld ?_
    rotate_left
    focus ((try dsimp only at hSw); first | (go_simp; done) | (go_simp; with_reducible rfl))
    try simp only [Act.put, List.setIfInBounds_toArray, List.set_cons_zero, List.set_cons_succ]
    refine wpAnyH_take (i := 24) (v := ?_) (by simp only [List.getElem?_toArray, List.getElem?_cons_succ, List.getElem?_cons_zero]; exact rfl) (by kernel_rfl) (by kernel_rfl) (by kernel_rfl) (by intro _ _ _ h; exact h) (Or.inl ⟨by rfl, fun W hSw => ?_⟩) hHeld ?_
    rotate_left
    focus ((try dsimp only at hSw); first | (go_simp; done) | (go_simp; with_reducible rfl))
    try simp only [Act.put, List.setIfInBounds_toArray, List.set_cons_zero, List.set_cons_succ]
    refine wpAnyH_take (i := 25) (v := ?_) (by simp only [List.getElem?_toArray, List.getElem?_cons_succ, List.getElem?_cons_zero]; exact rfl) (by kernel_rfl) (by kernel_rfl) (by kernel_rfl) (by intro _ _ _ h; exact h) (Or.inl ⟨by rfl, fun W hSw => ?_⟩) hHeld ?_
    rotate_left
    focus ((try dsimp only at hSw); first | (go_simp; done) | (go_simp; with_reducible rfl))
    try simp only [Act.put, List.setIfInBounds_toArray, List.set_cons_zero, List.set_cons_succ]
    refine wpAnyH_take (i := 26) (v := ?_) (by simp only [List.getElem?_toArray, List.getElem?_cons_succ, List.getElem?_cons_zero]; exact rfl) (by kernel_rfl) (by kernel_rfl) (by kernel_rfl) (by intro _ _ _ h; exact h) (Or.inl ⟨by rfl, fun W hSw => ?_⟩) hHeld ?_
    rotate_left
    focus ((try dsimp only at hSw); first | (go_simp; done) | (go_simp; with_reducible rfl))
    try simp only [Act.put, List.setIfInBounds_toArray, List.set_cons_zero, List.set_cons_succ]
    refine wpAnyH_take (i := 27) (v := ?_) (by simp only [List.getElem?_toArray, List.getElem?_cons_succ, List.getElem?_cons_zero]; exact rfl) (by kernel_rfl) (by kernel_rfl) (by kernel_rfl) (by intro _ _ _ h; exact h) (Or.inl ⟨by rfl, fun W hSw => ?_⟩) hHeld ?_
    rotate_left
    focus ((try dsimp only at hSw); first | (go_simp; done) | (go_simp; with_reducible rfl))
    try simp only [Act.put, List.setIfInBounds_toArray, List.set_cons_zero, List.set_cons_succ]
    refine wpAnyH_take (i := 28) (v := ?_) (by simp only [List.getElem?_toArray, List.getElem?_cons_succ, List.getElem?_cons_zero]; exact rfl) (by kernel_rfl) (by kernel_rfl) (by kernel_rfl) (by intro _ _ _ h; exact h) (Or.inl ⟨by rfl, fun W hSw => ?_⟩) hHeld ?_
    rotate_left
    focus ((try dsimp only at hSw); first | (go_simp; done) | (go_simp; with_reducible rfl))
    try simp only [Act.put, List.setIfInBounds_toArray, List.set_cons_zero, List.set_cons_succ]
    refine wpAnyH_take (i := 29) (v := ?_) (by simp only [List.getElem?_toArray, List.getElem?_cons_succ, List.getElem?_cons_zero]; exact rfl) (by kernel_rfl) (by kernel_rfl) (by kernel_rfl) (by intro _ _ _ h; exact h) (Or.inl ⟨by rfl, fun W hSw => ?_⟩) hHeld ?_
    rotate_left
    focus ((try dsimp only at hSw); first | (go_simp; done) | (go_simp; with_reducible rfl))
    try simp only [Act.put, List.setIfInBounds_toArray, List.set_cons_zero, List.set_cons_succ]
    refine wpAnyH_take (i := 30) (v := ?_) (by simp only [List.getElem?_toArray, List.getElem?_cons_succ, List.getElem?_cons_zero]; exact rfl) (by kernel_rfl) (by kernel_rfl) (by kernel_rfl) (by intro _ _ _ h; exact h) (Or.inl ⟨by rfl, fun W hSw => ?_⟩) hHeld ?_
    rotate_left
    focus ((try dsimp only at hSw); first | (go_simp; done) | (go_simp; with_reducible rfl))
    try simp only [Act.put, List.setIfInBounds_toArray, List.set_cons_zero, List.set_cons_succ]
    refine wpAnyH_take (i := 31) (v := ?_) (by simp only [List.getElem?_toArray, List.getElem?_cons_succ, List.getElem?_cons_zero]; exact rfl) (by kernel_rfl) (by kernel_rfl) (by kernel_rfl) (by intro _ _ _ h; exact h) (Or.inl ⟨by rfl, fun W hSw => ?_⟩) hHeld ?_
    rotate_left
    focus ((try dsimp only at hSw); first | (go_simp; done) | (go_simp; with_reducible rfl))
    try simp only [Act.put, List.setIfInBounds_toArray, List.set_cons_zero, List.set_cons_succ]
    refine wpAnyH_ready (rs := [32]) (by kernel_rfl) (by simp) (AllReadyH.cons (by simp only [List.getElem?_toArray, List.getElem?_cons_succ, List.getElem?_cons_zero]; exact rfl) (fun K hK => ?_) AllReadyH.nil)
    rw [if_pos (by rfl)]
    go_simp
    refine (KL.out _).mono ?_; rintro e wl ⟨rfl, rfl⟩; go_wp2_with fail
    refine hK.out _ _ (hHeld) (fun hHeld => ?_)
    clear hK K
    try simp only [Act.put, List.setIfInBounds_toArray, List.set_cons_zero, List.set_cons_succ]
    refine wpAnyH_take (i := 33) (v := ?_) (by simp only [List.getElem?_toArray, List.getElem?_cons_succ, List.getElem?_cons_zero]; exact rfl) (by kernel_rfl) (by kernel_rfl) (by kernel_rfl) (by intro _ _ _ h; exact h) (Or.inl ⟨by rfl, fun W hSw => ?_⟩) hHeld ?_
    rotate_left
    focus ((try dsimp only at hSw); first | (go_simp; done) | (go_simp; with_reducible rfl))
    try simp only [Act.put, List.setIfInBounds_toArray, List.set_cons_zero, List.set_cons_succ]
    refine wpAnyH_take (i := 34) (v := ?_) (by simp only [List.getElem?_toArray, List.getElem?_cons_succ, List.getElem?_cons_zero]; exact rfl) (by kernel_rfl) (by kernel_rfl) (by kernel_rfl) (by intro _ _ _ h; exact h) (Or.inl ⟨by rfl, fun W hSw => ?_⟩) hHeld ?_
    rotate_left
    focus ((try dsimp only at hSw); first | (go_simp; done) | (go_simp; with_reducible rfl))
    try simp only [Act.put, List.setIfInBounds_toArray, List.set_cons_zero, List.set_cons_succ]
    refine wpAnyH_take (i := 35) (v := ?_) (by simp only [List.getElem?_toArray, List.getElem?_cons_succ, List.getElem?_cons_zero]; exact rfl) (by kernel_rfl) (by kernel_rfl) (by kernel_rfl) (by intro _ _ _ h; exact h) (Or.inl ⟨by rfl, fun W hSw => ?_⟩) hHeld ?_
    rotate_left
    focus ((try dsimp only at hSw); first | (go_simp; done) | (go_simp; with_reducible rfl))
    try simp only [Act.put, List.setIfInBounds_toArray, List.set_cons_zero, List.set_cons_succ]
    refine wpAnyH_take (i := 36) (v := undef) (by simp only [List.getElem?_toArray, List.getElem?_cons_succ, List.getElem?_cons_zero]; exact rfl) (by kernel_rfl) (by kernel_rfl) (by kernel_rfl) (by intro _ _ _ h; exact h) (Or.inr ⟨by rfl, rfl⟩) hHeld ?_
    try simp only [Act.put, List.setIfInBounds_toArray, List.set_cons_zero, List.set_cons_succ]
    refine wpAnyH_take (i := 37) (v := undef) (by simp only [List.getElem?_toArray, List.getElem?_cons_succ, List.getElem?_cons_zero]; exact rfl) (by kernel_rfl) (by kernel_rfl) (by kernel_rfl) (by intro _ _ _ h; exact h) (Or.inr ⟨by rfl, rfl⟩) hHeld ?_
    try simp only [Act.put, List.setIfInBounds_toArray, List.set_cons_zero, List.set_cons_succ]
    refine wpAnyH_take (i := 38) (v := undef) (by simp only [List.getElem?_toArray, List.getElem?_cons_succ, List.getElem?_cons_zero]; exact rfl) (by kernel_rfl) (by kernel_rfl) (by kernel_rfl) (by intro _ _ _ h; exact h) (Or.inr ⟨by rfl, rfl⟩) hHeld ?_
    try simp only [Act.put, List.setIfInBounds_toArray, List.set_cons_zero, List.set_cons_succ]
    refine wpAnyH_take (i := 39) (v := undef) (by simp only [List.getElem?_toArray, List.getElem?_cons_succ, List.getElem?_cons_zero]; exact rfl) (by kernel_rfl) (by kernel_rfl) (by kernel_rfl) (by intro _ _ _ h; exact h) (Or.inr ⟨by rfl, rfl⟩) hHeld ?_
    try simp only [Act.put, List.setIfInBounds_toArray, List.set_cons_zero, List.set_cons_succ]
    refine wpAnyH_take (i := 40) (v := undef) (by simp only [List.getElem?_toArray, List.getElem?_cons_succ, List.getElem?_cons_zero]; exact rfl) (by kernel_rfl) (by kernel_rfl) (by kernel_rfl) (by intro _ _ _ h; exact h) (Or.inr ⟨by rfl, rfl⟩) hHeld ?_
    try simp only [Act.put, List.setIfInBounds_toArray, List.set_cons_zero, List.set_cons_succ]
    refine wpAnyH_take (i := 41) (v := ?_) (by simp only [List.getElem?_toArray, List.getElem?_cons_succ, List.getElem?_cons_zero]; exact rfl) (by kernel_rfl) (by kernel_rfl) (by kernel_rfl) (by intro _ _ _ h; exact h) (Or.inl ⟨by rfl, fun W hSw => ?_⟩) hHeld ?_
    rotate_left
    focus ((try dsimp only at hSw); first | (go_simp; done) | (go_simp; with_reducible rfl))
    try simp only [Act.put, List.setIfInBounds_toArray, List.set_cons_zero, List.set_cons_succ]
    refine wpAnyH_take (i := 42) (v := ?_) (by simp only [List.getElem?_toArray, List.getElem?_cons_succ, List.getElem?_cons_zero]; exact rfl) (by kernel_rfl) (by kernel_rfl) (by kernel_rfl) (by intro _ _ _ h; exact h) (Or.inl ⟨by rfl, fun W hSw => ?_⟩) hHeld ?_
    rotate_left
    focus ((try dsimp only at hSw); first | (go_simp; done) | (go_simp; with_reducible rfl))
    try simp only [Act.put, List.setIfInBounds_toArray, List.set_cons_zero, List.set_cons_succ]
    refine wpAnyH_take (i := 43) (v := undef) (by simp only [List.getElem?_toArray, List.getElem?_cons_succ, List.getElem?_cons_zero]; exact rfl) (by kernel_rfl) (by kernel_rfl) (by kernel_rfl) (by intro _ _ _ h; exact h) (Or.inr ⟨by rfl, rfl⟩) hHeld ?_
    try simp only [Act.put, List.setIfInBounds_toArray, List.set_cons_zero, List.set_cons_succ]
    refine wpAnyH_take (i := 44) (v := undef) (by simp only [List.getElem?_toArray, List.getElem?_cons_succ, List.getElem?_cons_zero]; exact rfl) (by kernel_rfl) (by kernel_rfl) (by kernel_rfl) (by intro _ _ _ h; exact h) (Or.inr ⟨by rfl, rfl⟩) hHeld ?_
    try simp only [Act.put, List.setIfInBounds_toArray, List.set_cons_zero, List.set_cons_succ]
    refine wpAnyH_take (i := 45) (v := undef) (by simp only [List.getElem?_toArray, List.getElem?_cons_succ, List.getElem?_cons_zero]; exact rfl) (by kernel_rfl) (by kernel_rfl) (by kernel_rfl) (by intro _ _ _ h; exact h) (Or.inr ⟨by rfl, rfl⟩) hHeld ?_
    try simp only [Act.put, List.setIfInBounds_toArray, List.set_cons_zero, List.set_cons_succ]
    refine wpAnyH_take (i := 46) (v := undef) (by simp only [List.getElem?_toArray, List.getElem?_cons_succ, List.getElem?_cons_zero]; exact rfl) (by kernel_rfl) (by kernel_rfl) (by kernel_rfl) (by intro _ _ _ h; exact h) (Or.inr ⟨by rfl, rfl⟩) hHeld ?_
    try simp only [Act.put, List.setIfInBounds_toArray, List.set_cons_zero, List.set_cons_succ]
    refine wpAnyH_take (i := 47) (v := undef) (by simp only [List.getElem?_toArray, List.getElem?_cons_succ, List.getElem?_cons_zero]; exact rfl) (by kernel_rfl) (by kernel_rfl) (by kernel_rfl) (by intro _ _ _ h; exact h) (Or.inr ⟨by rfl, rfl⟩) hHeld ?_
    try simp only [Act.put, List.setIfInBounds_toArray, List.set_cons_zero, List.set_cons_succ]
    refine wpAnyH_take (i := 48) (v := ?_) (by simp only [List.getElem?_toArray, List.getElem?_cons_succ, List.getElem?_cons_zero]; exact rfl) (by kernel_rfl) (by kernel_rfl) (by kernel_rfl) (by intro _ _ _ h; exact h) (Or.inl ⟨by rfl, fun W hSw => ?_⟩) hHeld ?_
    rotate_left
    focus ((try dsimp only at hSw); first | (go_simp; done) | (go_simp; with_reducible rfl))
    try simp only [Act.put, List.setIfInBounds_toArray, List.set_cons_zero, List.set_cons_succ]
    refine wpAnyH_take (i := 49) (v := ?_) (by simp only [List.getElem?_toArray, List.getElem?_cons_succ, List.getElem?_cons_zero]; exact rfl) (by kernel_rfl) (by kernel_rfl) (by kernel_rfl) (by intro _ _ _ h; exact h) (Or.inl ⟨by rfl, fun W hSw => ?_⟩) hHeld ?_
    rotate_left
    focus ((try dsimp only at hSw); first | (go_simp; done) | (go_simp; with_reducible rfl))
    try simp only [Act.put, List.setIfInBounds_toArray, List.set_cons_zero, List.set_cons_succ]
    refine wpAnyH_take (i := 50) (v := undef) (by simp only [List.getElem?_toArray, List.getElem?_cons_succ, List.getElem?_cons_zero]; exact rfl) (by kernel_rfl) (by kernel_rfl) (by kernel_rfl) (by intro _ _ _ h; exact h) (Or.inr ⟨by rfl, rfl⟩) hHeld ?_
    try simp only [Act.put, List.setIfInBounds_toArray, List.set_cons_zero, List.set_cons_succ]
    refine wpAnyH_take (i := 51) (v := undef) (by simp only [List.getElem?_toArray, List.getElem?_cons_succ, List.getElem?_cons_zero]; exact rfl) (by kernel_rfl) (by kernel_rfl) (by kernel_rfl) (by intro _ _ _ h; exact h) (Or.inr ⟨by rfl, rfl⟩) hHeld ?_
    try simp only [Act.put, List.setIfInBounds_toArray, List.set_cons_zero, List.set_cons_succ]
    refine wpAnyH_take (i := 52) (v := undef) (by simp only [List.getElem?_toArray, List.getElem?_cons_succ, List.getElem?_cons_zero]; exact rfl) (by kernel_rfl) (by kernel_rfl) (by kernel_rfl) (by intro _ _ _ h; exact h) (Or.inr ⟨by rfl, rfl⟩) hHeld ?_
    try simp only [Act.put, List.setIfInBounds_toArray, List.set_cons_zero, List.set_cons_succ]
    refine wpAnyH_take (i := 53) (v := undef) (by simp only [List.getElem?_toArray, List.getElem?_cons_succ, List.getElem?_cons_zero]; exact rfl) (by kernel_rfl) (by kernel_rfl) (by kernel_rfl) (by intro _ _ _ h; exact h) (Or.inr ⟨by rfl, rfl⟩) hHeld ?_
    try simp only [Act.put, List.setIfInBounds_toArray, List.set_cons_zero, List.set_cons_succ]
    refine wpAnyH_take (i := 54) (v := undef) (by simp only [List.getElem?_toArray, List.getElem?_cons_succ, List.getElem?_cons_zero]; exact rfl) (by kernel_rfl) (by kernel_rfl) (by kernel_rfl) (by intro _ _ _ h; exact h) (Or.inr ⟨by rfl, rfl⟩) hHeld ?_
    try simp only [Act.put, List.setIfInBounds_toArray, List.set_cons_zero, List.set_cons_succ]
    refine wpAnyH_take (i := 55) (v := ?_) (by simp only [List.getElem?_toArray, List.getElem?_cons_succ, List.getElem?_cons_zero]; exact rfl) (by kernel_rfl) (by kernel_rfl) (by kernel_rfl) (by intro _ _ _ h; exact h) (Or.inl ⟨by rfl, fun W hSw => ?_⟩) hHeld ?_
    rotate_left
    focus ((try dsimp only at hSw); first | (go_simp; done) | (go_simp; with_reducible rfl))
    try simp only [Act.put, List.setIfInBounds_toArray, List.set_cons_zero, List.set_cons_succ]
    refine wpAnyH_done (by kernel_rfl) ?_ _
    clear hHeld
    go_wp2
    go_ret2
    exact ⟨by rw [← HR.out]; rfl, HBT.out.drewN 1⟩
  have t4 : decide (m.day > dlong Y m.month) = false := by simpa using q4
  by_cases q5 : m.hour > 23
  · have hR2 : R = (0, false) := by rw [← HR0.out]; unfold dtick; rw [HY.out, if_pos (Or.inr (Or.inr (Or.inr (Or.inr (Or.inl q5)))))]
    have HR := Lib.hid hR2.symm
    clear hR2
    have t5 : decide (m.hour > 23) = true := by simpa using q5
    go_wp2
    refine wp_region_held_drew (S := (fun w' => w'.cell? ⟨mb, 1, none⟩ = some (.int .i64 m.day) ∧ w'.cell? ⟨mb, 2, none⟩ = some (.int .i64 m.month) ∧ w'.cell? ⟨mb, 3, none⟩ = some (.int .i64 Y) ∧ w'.cell? ⟨mb, 4, none⟩ = some (.int .i64 m.hour) ∧ w'.cell? ⟨mb, 5, none⟩ = some (.int .i64 m.minute) ∧ w'.cell? ⟨mb, 6, none⟩ = some (.int .i64 m.second))) (by kernel_rfl) (⟨c1, c2, c3, c4, c5, c6⟩) (fun hHeld => ?_)
    refine wpAnyH_take (i := 0) (v := ?_) (by simp only [List.getElem?_toArray, List.getElem?_cons_zero]; exact rfl) (by kernel_rfl) (by kernel_rfl) (by kernel_rfl) (by intro _ _ _ h; exact h) (Or.inl ⟨by rfl, fun W hSw => ?_⟩) hHeld ?_
    rotate_left
    focus ((try dsimp only at hSw); first | (go_simp; done) | (go_simp; with_reducible rfl))
    try simp only [Act.put, List.setIfInBounds_toArray, List.set_cons_zero, List.set_cons_succ]
    refine wpAnyH_take (i := 1) (v := ?_) (by simp only [List.getElem?_toArray, List.getElem?_cons_succ, List.getElem?_cons_zero]; exact rfl) (by kernel_rfl) (by kernel_rfl) (by kernel_rfl) (by intro _ _ _ h; exact h) (Or.inl ⟨by rfl, fun W hSw => ?_⟩) hHeld ?_
    rotate_left
    focus ((try dsimp only at hSw); first | (go_simp; done) | (go_simp; with_reducible rfl))
    try simp only [Act.put, List.setIfInBounds_toArray, List.set_cons_zero, List.set_cons_succ]
    refine wpAnyH_take (i := 2) (v := ?_) (by simp only [List.getElem?_toArray, List.getElem?_cons_succ, List.getElem?_cons_zero]; exact rfl) (by kernel_rfl) (by kernel_rfl) (by kernel_rfl) (by intro _ _ _ h; exact h) (Or.inl ⟨by rfl, fun W hSw => ?_⟩) hHeld ?_
    rotate_left
    focus ((try dsimp only at hSw); first | (go_simp; done) | (go_simp; with_reducible rfl))
    try simp only [Act.put, List.setIfInBounds_toArray, List.set_cons_zero, List.set_cons_succ]
    refine wpAnyH_take (i := 3) (v := ?_) (by simp only [List.getElem?_toArray, List.getElem?_cons_succ, List.getElem?_cons_zero]; exact rfl) (by kernel_rfl) (by kernel_rfl) (by kernel_rfl) (by intro _ _ _ h; exact h) (Or.inl ⟨by rfl, fun W hSw => ?_⟩) hHeld ?_
    rotate_left
    focus ((try dsimp only at hSw); first | (go_simp; done) | (go_simp; with_reducible rfl))
    try simp only [Act.put, List.setIfInBounds_toArray, List.set_cons_zero, List.set_cons_succ]
    refine wpAnyH_take (i := 4) (v := ?_) (by simp only [List.getElem?_toArray, List.getElem?_cons_succ, List.getElem?_cons_zero]; exact rfl) (by kernel_rfl) (by kernel_rfl) (by kernel_rfl) (by intro _ _ _ h; exact h) (Or.inl ⟨by rfl, fun W hSw => ?_⟩) hHeld ?_
    rotate_left
    focus ((try dsimp only at hSw); first | (go_simp; done) | (go_simp; with_reducible rfl))
    try simp only [Act.put, List.setIfInBounds_toArray, List.set_cons_zero, List.set_cons_succ]
    refine wpAnyH_take (i := 5) (v := ?_) (by simp only [List.getElem?_toArray, List.getElem?_cons_succ, List.getElem?_cons_zero]; exact rfl) (by kernel_rfl) (by kernel_rfl) (by kernel_rfl) (by intro _ _ _ h; exact h) (Or.inl ⟨by rfl, fun W hSw => ?_⟩) hHeld ?_
    rotate_left
    focus ((try dsimp only at hSw); first | (go_simp; done) | (go_simp; with_reducible rfl))
    try simp only [Act.put, List.setIfInBounds_toArray, List.set_cons_zero, List.set_cons_succ]
    refine wpAnyH_take (i := 6) (v := ?_) (by simp only [List.getElem?_toArray, List.getElem?_cons_succ, List.getElem?_cons_zero]; exact rfl) (by kernel_rfl) (by kernel_rfl) (by kernel_rfl) (by intro _ _ _ h; exact h) (Or.inl ⟨by rfl, fun W hSw => ?_⟩) hHeld ?_
    rotate_left
    focus ((try dsimp only at hSw); first | (go_simp; done) | (go_simp; with_reducible rfl))
    try simp only [Act.put, List.setIfInBounds_toArray, List.set_cons_zero, List.set_cons_succ]
    refine wpAnyH_take (i := 7) (v := ?_) (by simp only [List.getElem?_toArray, List.getElem?_cons_succ, List.getElem?_cons_zero]; exact rfl) (by kernel_rfl) (by kernel_rfl) (by kernel_rfl) (by intro _ _ _ h; exact h) (Or.inl ⟨by rfl, fun W hSw => ?_⟩) hHeld ?_
    rotate_left
    focus ((try dsimp only at hSw); first | (go_simp; done) | (go_simp; with_reducible rfl))
    try simp only [Act.put, List.setIfInBounds_toArray, List.set_cons_zero, List.set_cons_succ]
    refine wpAnyH_take (i := 8) (v := ?_) (by simp only [List.getElem?_toArray, List.getElem?_cons_succ, List.getElem?_cons_zero]; exact rfl) (by kernel_rfl) (by kernel_rfl) (by kernel_rfl) (by intro _ _ _ h; exact h) (Or.inl ⟨by rfl, fun W hSw => ?_⟩) hHeld ?_
    rotate_left
    focus ((try dsimp only at hSw); first | (go_simp; done) | (go_simp; with_reducible rfl))
    try simp only [Act.put, List.setIfInBounds_toArray, List.set_cons_zero, List.set_cons_succ]
    refine wpAnyH_take (i := 9) (v := ?_) (by simp only [List.getElem?_toArray, List.getElem?_cons_succ, List.getElem?_cons_zero]; exact rfl) (by kernel_rfl) (by kernel_rfl) (by kernel_rfl) (by intro _ _ _ h; exact h) (Or.inl ⟨by rfl, fun W hSw => ?_⟩) hHeld ?_
    rotate_left
    focus ((try dsimp only at hSw); first | (go_simp; done) | (go_simp; with_reducible rfl))
    try simp only [Act.put, List.setIfInBounds_toArray, List.set_cons_zero, List.set_cons_succ]
    refine wpAnyH_take (i := 10) (v := ?_) (by simp only [List.getElem?_toArray, List.getElem?_cons_succ, List.getElem?_cons_zero]; exact rfl) (by kernel_rfl) (by kernel_rfl) (by kernel_rfl) (by intro _ _ _ h; exact h) (Or.inl ⟨by rfl, fun W hSw => ?_⟩) hHeld ?_
    rotate_left
    focus ((try dsimp only at hSw); first | (go_simp; done) | (go_simp; with_reducible rfl))
    try simp only [Act.put, List.setIfInBounds_toArray, List.set_cons_zero, List.set_cons_succ]
    refine wpAnyH_take (i := 11) (v := ?_) (by simp only [List.getElem?_toArray, List.getElem?_cons_succ, List.getElem?_cons_zero]; exact rfl) (by kernel_rfl) (by kernel_rfl) (by kernel_rfl) (by intro _ _ _ h; exact h) (Or.inl ⟨by rfl, fun W hSw => ?_⟩) hHeld ?_
    rotate_left
    focus ((try dsimp only at hSw); first | (go_simp; done) | (go_simp; with_reducible rfl))
    try simp only [Act.put, List.setIfInBounds_toArray, List.set_cons_zero, List.set_cons_succ]
    refine wpAnyH_take (i := 12) (v := ?_) (by simp only [List.getElem?_toArray, List.getElem?_cons_succ, List.getElem?_cons_zero]; exact rfl) (by kernel_rfl) (by kernel_rfl) (by kernel_rfl) (by intro _ _ _ h; exact h) (Or.inl ⟨by rfl, fun W hSw => ?_⟩) hHeld ?_
    rotate_left
    focus ((try dsimp only at hSw); first | (go_simp; done) | (go_simp; with_reducible rfl))
    try simp only [Act.put, List.setIfInBounds_toArray, List.set_cons_zero, List.set_cons_succ]
    refine wpAnyH_take (i := 13) (v := ?_) (by simp only [List.getElem?_toArray, List.getElem?_cons_succ, List.getElem?_cons_zero]; exact rfl) (by kernel_rfl) (by kernel_rfl) (by kernel_rfl) (by intro _ _ _ h; exact h) (Or.inl ⟨by rfl, fun W hSw => ?_⟩) hHeld ?_
    rotate_left
    focus ((try dsimp only at hSw); first | (go_simp; done) | (go_simp; with_reducible rfl))
    try simp only [Act.put, List.setIfInBounds_toArray, List.set_cons_zero, List.set_cons_succ]
    refine wpAnyH_take (i := 14) (v := ?_) (by simp only [List.getElem?_toArray, List.getElem?_cons_succ, List.getElem?_cons_zero]; exact rfl) (by kernel_rfl) (by kernel_rfl) (by kernel_rfl) (by intro _ _ _ h; exact h) (Or.inl ⟨by rfl, fun W hSw => ?_⟩) hHeld ?_
    rotate_left
    focus ((try dsimp only at hSw); first | (go_simp; done) | (go_simp; with_reducible rfl))
    try simp only [Act.put, List.setIfInBounds_toArray, List.set_cons_zero, List.set_cons_succ]
    refine wpAnyH_take (i := 15) (v := ?_) (by simp only [List.getElem?_toArray, List.getElem?_cons_succ, List.getElem?_cons_zero]; exact rfl) (by kernel_rfl) (by kernel_rfl) (by kernel_rfl) (by intro _ _ _ h; exact h) (Or.inl ⟨by rfl, fun W hSw => ?_⟩) hHeld ?_
    rotate_left
    focus ((try dsimp only at hSw); first | (go_simp; done) | (go_simp; with_reducible rfl))
    try simp only [Act.put, List.setIfInBounds_toArray, List.set_cons_zero, List.set_cons_succ]
    refine wpAnyH_take (i := 16) (v := ?_) (by simp only [List.getElem?_toArray, List.getElem?_cons_succ, List.getElem?_cons_zero]; exact rfl) (by kernel_rfl) (by kernel_rfl) (by kernel_rfl) (by intro _ _ _ h; exact h) (Or.inl ⟨by rfl, fun W hSw => ?_⟩) hHeld ?_
    rotate_left
    focus ((try dsimp only at hSw); first | (go_simp; done) | (go_simp; with_reducible rfl))
    try simp only [Act.put, List.setIfInBounds_toArray, List.set_cons_zero, List.set_cons_succ]
    refine wpAnyH_take (i := 17) (v := ?_) (by simp only [List.getElem?_toArray, List.getElem?_cons_succ, List.getElem?_cons_zero]; exact rfl) (by kernel_rfl) (by kernel_rfl) (by kernel_rfl) (by intro _ _ _ h; exact h) (Or.inl ⟨by rfl, fun W hSw => ?_⟩) hHeld ?_
    rotate_left
    focus ((try dsimp only at hSw); first | (go_simp; done) | (go_simp; with_reducible rfl))
    try simp only [Act.put, List.setIfInBounds_toArray, List.set_cons_zero, List.set_cons_succ]
    refine wpAnyH_take (i := 18) (v := ?_) (by simp only [List.getElem?_toArray, List.getElem?_cons_succ, List.getElem?_cons_zero]; exact rfl) (by kernel_rfl) (by kernel_rfl) (by kernel_rfl) (by intro _ _ _ h; exact h) (Or.inl ⟨by rfl, fun W hSw => ?_⟩) hHeld ?_
    rotate_left
    focus ((try dsimp only at hSw); first | (go_simp; done) | (go_simp; with_reducible rfl))
    try simp only [Act.put, List.setIfInBounds_toArray, List.set_cons_zero, List.set_cons_succ]
    refine wpAnyH_take (i := 19) (v := ?_) (by simp only [List.getElem?_toArray, List.getElem?_cons_succ, List.getElem?_cons_zero]; exact rfl) (by kernel_rfl) (by kernel_rfl) (by kernel_rfl) (by intro _ _ _ h; exact h) (Or.inl ⟨by rfl, fun W hSw => ?_⟩) hHeld ?_
    rotate_left
    focus ((try dsimp only at hSw); first | (go_simp; done) | (go_simp; with_reducible rfl))
    try simp only [Act.put, List.setIfInBounds_toArray, List.set_cons_zero, List.set_cons_succ]
    refine wpAnyH_take (i := 20) (v := ?_) (by simp only [List.getElem?_toArray, List.getElem?_cons_succ, List.getElem?_cons_zero]; exact rfl) (by kernel_rfl) (by kernel_rfl) (by kernel_rfl) (by intro _ _ _ h; exact h) (Or.inl ⟨by rfl, fun W hSw => ?_⟩) hHeld ?_
    rotate_left
    focus ((try dsimp only at hSw); first | (go_simp; done) | (go_simp; with_reducible rfl))
    try simp only [Act.put, List.setIfInBounds_toArray, List.set_cons_zero, List.set_cons_succ]
    refine wpAnyH_take (i := 21) (v := ?_) (by simp only [List.getElem?_toArray, List.getElem?_cons_succ, List.getElem?_cons_zero]; exact rfl) (by kernel_rfl) (by kernel_rfl) (by kernel_rfl) (by intro _ _ _ h; exact h) (Or.inl ⟨by rfl, fun W hSw => ?_⟩) hHeld ?_
    rotate_left
    focus ((try dsimp only at hSw); first | (go_simp; done) | (go_simp; with_reducible rfl))
    try simp only [Act.put, List.setIfInBounds_toArray, List.set_cons_zero, List.set_cons_succ]
    refine wpAnyH_take (i := 22) (v := ?_) (by simp only [List.getElem?_toArray, List.getElem?_cons_succ, List.getElem?_cons_zero]; exact rfl) (by kernel_rfl) (by kernel_rfl) (by kernel_rfl) (by intro _ _ _ h; exact h) (Or.inl ⟨by rfl, fun W hSw => ?_⟩) hHeld ?_
    rotate_left
    focus ((try dsimp only at hSw); first | (go_simp; done) | (go_simp; with_reducible rfl))
    try simp only [Act.put, List.setIfInBounds_toArray, List.set_cons_zero, List.set_cons_succ]
    refine wpAnyH_take (i := 23) (v := ?_) (by simp only [List.getElem?_toArray, List.getElem?_cons_succ, List.getElem?_cons_zero]; exact rfl) (by kernel_rfl) (by kernel_rfl) (by kernel_rfl) (by intro _ _ _ h; exact h) (Or.inl ⟨by rfl, fun W hSw => ?_⟩) hHeld ?_
    rotate_left
    focus ((try dsimp only at hSw); first | (go_simp; done) | (go_simp; with_reducible rfl))
    try simp only [Act.put, List.setIfInBounds_toArray, List.set_cons_zero, List.set_cons_succ]
    refine wpAnyH_take (i := 24) (v := ?_) (by simp only [List.getElem?_toArray, List.getElem?_cons_succ, List.getElem?_cons_zero]; exact rfl) (by kernel_rfl) (by kernel_rfl) (by kernel_rfl) (by intro _ _ _ h; exact h) (Or.inl ⟨by rfl, fun W hSw => ?_⟩) hHeld ?_
    rotate_left
    focus ((try dsimp only at hSw); first | (go_simp; done) | (go_simp; with_reducible rfl))
    try simp only [Act.put, List.setIfInBounds_toArray, List.set_cons_zero, List.set_cons_succ]
    refine wpAnyH_take (i := 25) (v := ?_) (by simp only [List.getElem?_toArray, List.getElem?_cons_succ, List.getElem?_cons_zero]; exact rfl) (by kernel_rfl) (by kernel_rfl) (by kernel_rfl) (by intro _ _ _ h; exact h) (Or.inl ⟨by rfl, fun W hSw => ?_⟩) hHeld ?_
    rotate_left
    focus ((try dsimp only at hSw); first | (go_simp; done) | (go_simp; with_reducible rfl))
    try simp only [Act.put, List.setIfInBounds_toArray, List.set_cons_zero, List.set_cons_succ]
    refine wpAnyH_take (i := 26) (v := ?_) (by simp only [List.getElem?_toArray, List.getElem?_cons_succ, List.getElem?_cons_zero]; exact rfl) (by kernel_rfl) (by kernel_rfl) (by kernel_rfl) (by intro _ _ _ h; exact h) (Or.inl ⟨by rfl, fun W hSw => ?_⟩) hHeld ?_
    rotate_left
    focus ((try dsimp only at hSw); first | (go_simp; done) | (go_simp; with_reducible rfl))
    try simp only [Act.put, List.setIfInBounds_toArray, List.set_cons_zero, List.set_cons_succ]
    refine wpAnyH_take (i := 27) (v := ?_) (by simp only [List.getElem?_toArray, List.getElem?_cons_succ, List.getElem?_cons_zero]; exact rfl) (by kernel_rfl) (by kernel_rfl) (by kernel_rfl) (by intro _ _ _ h; exact h) (Or.inl ⟨by rfl, fun W hSw => ?_⟩) hHeld ?_
    rotate_left
    focus ((try dsimp only at hSw); first | (go_simp; done) | (go_simp; with_reducible rfl))
    try simp only [Act.put, List.setIfInBounds_toArray, List.set_cons_zero, List.set_cons_succ]
    refine wpAnyH_take (i := 28) (v := ?_) (by simp only [List.getElem?_toArray, List.getElem?_cons_succ, List.getElem?_cons_zero]; exact rfl) (by kernel_rfl) (by kernel_rfl) (by kernel_rfl) (by intro _ _ _ h; exact h) (Or.inl ⟨by rfl, fun W hSw => ?_⟩) hHeld ?_
    rotate_left
    focus ((try dsimp only at hSw); first | (go_simp; done) | (go_simp; with_reducible rfl))
    try simp only [Act.put, List.setIfInBounds_toArray, List.set_cons_zero, List.set_cons_succ]
    refine wpAnyH_take (i := 29) (v := ?_) (by simp only [List.getElem?_toArray, List.getElem?_cons_succ, List.getElem?_cons_zero]; exact rfl) (by kernel_rfl) (by kernel_rfl) (by kernel_rfl) (by intro _ _ _ h; exact h) (Or.inl ⟨by rfl, fun W hSw => ?_⟩) hHeld ?_
    rotate_left
    focus ((try dsimp only at hSw); first | (go_simp; done) | (go_simp; with_reducible rfl))
    try simp only [Act.put, List.setIfInBounds_toArray, List.set_cons_zero, List.set_cons_succ]
    refine wpAnyH_take (i := 30) (v := ?_) (by simp only [List.getElem?_toArray, List.getElem?_cons_succ, List.getElem?_cons_zero]; exact rfl) (by kernel_rfl) (by kernel_rfl) (by kernel_rfl) (by intro _ _ _ h; exact h) (Or.inl ⟨by rfl, fun W hSw => ?_⟩) hHeld ?_
    rotate_left
    focus ((try dsimp only at hSw); first | (go_simp; done) | (go_simp; with_reducible rfl))
    try simp only [Act.put, List.setIfInBounds_toArray, List.set_cons_zero, List.set_cons_succ]
    refine wpAnyH_take (i := 31) (v := ?_) (by simp only [List.getElem?_toArray, List.getElem?_cons_succ, List.getElem?_cons_zero]; exact rfl) (by kernel_rfl) (by kernel_rfl) (by kernel_rfl) (by intro _ _ _ h; exact h) (Or.inl ⟨by rfl, fun W hSw => ?_⟩) hHeld ?_
    rotate_left
    focus ((try dsimp only at hSw); first | (go_simp; done) | (go_simp; with_reducible rfl))
    try simp only [Act.put, List.setIfInBounds_toArray, List.set_cons_zero, List.set_cons_succ]
    refine wpAnyH_ready (rs := [32]) (by kernel_rfl) (by simp) (AllReadyH.cons (by simp only [List.getElem?_toArray, List.getElem?_cons_succ, List.getElem?_cons_zero]; exact rfl) (fun K hK => ?_) AllReadyH.nil)
    rw [if_pos (by rfl)]
    go_simp
    refine (KL.out _).mono ?_; rintro e wl ⟨rfl, rfl⟩; go_wp2_with fail
    refine hK.out _ _ (hHeld) (fun hHeld => ?_)
    clear hK K
    try simp only [Act.put, List.setIfInBounds_toArray, List.set_cons_zero, List.set_cons_succ]
    refine wpAnyH_take (i := 33) (v := ?_) (by simp only [List.getElem?_toArray, List.getElem?_cons_succ, List.getElem?_cons_zero]; exact rfl) (by kernel_rfl) (by kernel_rfl) (by kernel_rfl) (by intro _ _ _ h; exact h) (Or.inl ⟨by rfl, fun W hSw => ?_⟩) hHeld ?_
    rotate_left
    focus ((try dsimp only at hSw); first | (go_simp; done) | (go_simp; with_reducible rfl))
    try simp only [Act.put, List.setIfInBounds_toArray, List.set_cons_zero, List.set_cons_succ]
    refine wpAnyH_take (i := 34) (v := ?_) (by simp only [List.getElem?_toArray, List.getElem?_cons_succ, List.getElem?_cons_zero]; exact rfl) (by kernel_rfl) (by kernel_rfl) (by kernel_rfl) (by intro _ _ _ h; exact h) (Or.inl ⟨by rfl, fun W hSw => ?_⟩) hHeld ?_
    rotate_left
    focus ((try dsimp only at hSw); first | (go_simp; done) | (go_simp; with_reducible rfl))
    try simp only [Act.put, List.setIfInBounds_toArray, List.set_cons_zero, List.set_cons_succ]
    refine wpAnyH_take (i := 35) (v := ?_) (by simp only [List.getElem?_toArray, List.getElem?_cons_succ, List.getElem?_cons_zero]; exact rfl) (by kernel_rfl) (by kernel_rfl) (by kernel_rfl) (by intro _ _ _ h; exact h) (Or.inl ⟨by rfl, fun W hSw => ?_⟩) hHeld ?_
    rotate_left
    focus ((try dsimp only at hSw); first | (go_simp; done) | (go_simp; with_reducible rfl))
    try simp only [Act.put, List.setIfInBounds_toArray, List.set_cons_zero, List.set_cons_succ]
    refine wpAnyH_take (i := 36) (v := ?_) (by simp only [List.getElem?_toArray, List.getElem?_cons_succ, List.getElem?_cons_zero]; exact rfl) (by kernel_rfl) (by kernel_rfl) (by kernel_rfl) (by intro _ _ _ h; exact h) (Or.inl ⟨by rfl, fun W hSw => ?_⟩) hHeld ?_
    rotate_left
    focus ((try dsimp only at hSw); first | (go_simp; done) | (go_simp; with_reducible rfl))
    try simp only [Act.put, List.setIfInBounds_toArray, List.set_cons_zero, List.set_cons_succ]
    refine wpAnyH_take (i := 37) (v := ?_) (by simp only [List.getElem?_toArray, List.getElem?_cons_succ, List.getElem?_cons_zero]; exact rfl) (by kernel_rfl) (by kernel_rfl) (by kernel_rfl) (by intro _ _ _ h; exact h) (Or.inl ⟨by rfl, fun W hSw => ?_⟩) hHeld ?_
    rotate_left
    focus ((try dsimp only at hSw); first | (go_simp; done) | (go_simp; with_reducible rfl))
    try simp only [Act.put, List.setIfInBounds_toArray, List.set_cons_zero, List.set_cons_succ]
    refine wpAnyH_take (i := 38) (v := ?_) (by simp only [List.getElem?_toArray, List.getElem?_cons_succ, List.getElem?_cons_zero]; exact rfl) (by kernel_rfl) (by kernel_rfl) (by kernel_rfl) (by intro _ _ _ h; exact h) (Or.inl ⟨by rfl, fun W hSw => ?_⟩) hHeld ?_
    rotate_left
    focus ((try dsimp only at hSw); first | (go_simp; done) | (go_simp; with_reducible rfl))
    try simp only [Act.put, List.setIfInBounds_toArray, List.set_cons_zero, List.set_cons_succ]
    refine wpAnyH_take (i := 39) (v := ?_) (by simp only [List.getElem?_toArray, List.getElem?_cons_succ, List.getElem?_cons_zero]; exact rfl) (by kernel_rfl) (by kernel_rfl) (by kernel_rfl) (by intro _ _ _ h; exact h) (Or.inl ⟨by rfl, fun W hSw => ?_⟩) hHeld ?_
    rotate_left
    focus ((try dsimp only at hSw); first | (go_simp; done) | (go_simp; with_reducible rfl))
    try simp only [Act.put, List.setIfInBounds_toArray, List.set_cons_zero, List.set_cons_succ]
    refine wpAnyH_take (i := 40) (v := ?_) (by simp only [List.getElem?_toArray, List.getElem?_cons_succ, List.getElem?_cons_zero]; exact rfl) (by kernel_rfl) (by kernel_rfl) (by kernel_rfl) (by intro _ _ _ h; exact h) (Or.inl ⟨by rfl, fun W hSw => ?_⟩) hHeld ?_
    rotate_left
    focus ((try dsimp only at hSw); first | (go_simp; done) | (go_simp; with_reducible rfl))
    try simp only [Act.put, List.setIfInBounds_toArray, List.set_cons_zero, List.set_cons_succ]
    refine wpAnyH_take (i := 41) (v := ?_) (by simp only [List.getElem?_toArray, List.getElem?_cons_succ, List.getElem?_cons_zero]; exact rfl) (by kernel_rfl) (by kernel_rfl) (by kernel_rfl) (by intro _ _ _ h; exact h) (Or.inl ⟨by rfl, fun W hSw => ?_⟩) hHeld ?_
    rotate_left
    focus ((try dsimp only at hSw); first | (go_simp; done) | (go_simp; with_reducible rfl))
    try simp only [Act.put, List.setIfInBounds_toArray, List.set_cons_zero, List.set_cons_succ]
    refine wpAnyH_take (i := 42) (v := ?_) (by simp only [List.getElem?_toArray, List.getElem?_cons_succ, List.getElem?_cons_zero]; exact rfl) (by kernel_rfl) (by kernel_rfl) (by kernel_rfl) (by intro _ _ _ h; exact h) (Or.inl ⟨by rfl, fun W hSw => ?_⟩) hHeld ?_
    rotate_left
    focus ((try dsimp only at hSw); first | (go_simp; done) | (go_simp; with_reducible rfl))
    try simp only [Act.put, List.setIfInBounds_toArray, List.set_cons_zero, List.set_cons_succ]
    refine wpAnyH_take (i := 43) (v := undef) (by simp only [List.getElem?_toArray, List.getElem?_cons_succ, List.getElem?_cons_zero]; exact rfl) (by kernel_rfl) (by kernel_rfl) (by kernel_rfl) (by intro _ _ _ h; exact h) (Or.inr ⟨by rfl, rfl⟩) hHeld ?_
    try simp only [Act.put, List.setIfInBounds_toArray, List.set_cons_zero, List.set_cons_succ]
    refine wpAnyH_take (i := 44) (v := undef) (by simp only [List.getElem?_toArray, List.getElem?_cons_succ, List.getElem?_cons_zero]; exact rfl) (by kernel_rfl) (by kernel_rfl) (by kernel_rfl) (by intro _ _ _ h; exact h) (Or.inr ⟨by rfl, rfl⟩) hHeld ?_
    try simp only [Act.put, List.setIfInBounds_toArray, List.set_cons_zero, List.set_cons_succ]
    refine wpAnyH_take (i := 45) (v := undef) (by simp only [List.getElem?_toArray, List.getElem?_cons_succ, List.getElem?_cons_zero]; exact rfl) (by kernel_rfl) (by kernel_rfl) (by kernel_rfl) (by intro _ _ _ h; exact h) (Or.inr ⟨by rfl, rfl⟩) hHeld ?_
    try simp only [Act.put, List.setIfInBounds_toArray, List.set_cons_zero, List.set_cons_succ]
    refine wpAnyH_take (i := 46) (v := undef) (by simp only [List.getElem?_toArray, List.getElem?_cons_succ, List.getElem?_cons_zero]; exact rfl) (by kernel_rfl) (by kernel_rfl) (by kernel_rfl) (by intro _ _ _ h; exact h) (Or.inr ⟨by rfl, rfl⟩) hHeld ?_
    try simp only [Act.put, List.setIfInBounds_toArray, List.set_cons_zero, List.set_cons_succ]
    refine wpAnyH_take (i := 47) (v := undef) (by simp only [List.getElem?_toArray, List.getElem?_cons_succ, List.getElem?_cons_zero]; exact rfl) (by kernel_rfl) (by kernel_rfl) (by kernel_rfl) (by intro _ _ _ h; exact h) (Or.inr ⟨by rfl, rfl⟩) hHeld ?_
    try simp only [Act.put, List.setIfInBounds_toArray, List.set_cons_zero, List.set_cons_succ]
    refine wpAnyH_take (i := 48) (v := ?_) (by simp only [List.getElem?_toArray, List.getElem?_cons_succ, List.getElem?_cons_zero]; exact rfl) (by kernel_rfl) (by kernel_rfl) (by kernel_rfl) (by intro _ _ _ h; exact h) (Or.inl ⟨by rfl, fun W hSw => ?_⟩) hHeld ?_
    rotate_left
    focus ((try dsimp only at hSw); first | (go_simp; done) | (go_simp; with_reducible rfl))
    try simp only [Act.put, List.setIfInBounds_toArray, List.set_cons_zero, List.set_cons_succ]
    refine wpAnyH_take (i := 49) (v := ?_) (by simp only [List.getElem?_toArray, List.getElem?_cons_succ, List.getElem?_cons_zero]; exact rfl) (by kernel_rfl) (by kernel_rfl) (by kernel_rfl) (by intro _ _ _ h; exact h) (Or.inl ⟨by rfl, fun W hSw => ?_⟩) hHeld ?_
    rotate_left
    focus ((try dsimp only at hSw); first | (go_simp; done) | (go_simp; with_reducible rfl))
    try simp only [Act.put, List.setIfInBounds_toArray, List.set_cons_zero, List.set_cons_succ]
    refine wpAnyH_take (i := 50) (v := undef) (by simp only [List.getElem?_toArray, List.getElem?_cons_succ, List.getElem?_cons_zero]; exact rfl) (by kernel_rfl) (by kernel_rfl) (by kernel_rfl) (by intro _ _ _ h; exact h) (Or.inr ⟨by rfl, rfl⟩) hHeld ?_
    try simp only [Act.put, List.setIfInBounds_toArray, List.set_cons_zero, List.set_cons_succ]
    refine wpAnyH_take (i := 51) (v := undef) (by simp only [List.getElem?_toArray, List.getElem?_cons_succ, List.getElem?_cons_zero]; exact rfl) (by kernel_rfl) (by kernel_rfl) (by kernel_rfl) (by intro _ _ _ h; exact h) (Or.inr ⟨by rfl, rfl⟩) hHeld ?_
    try simp only [Act.put, List.setIfInBounds_toArray, List.set_cons_zero, List.set_cons_succ]
    refine wpAnyH_take (i := 52) (v := undef) (by simp only [List.getElem?_toArray, List.getElem?_cons_succ, List.getElem?_cons_zero]; exact rfl) (by kernel_rfl) (by kernel_rfl) (by kernel_rfl) (by intro _ _ _ h; exact h) (Or.inr ⟨by rfl, rfl⟩) hHeld ?_
    try simp only [Act.put, List.setIfInBounds_toArray, List.set_cons_zero, List.set_cons_succ]
    refine wpAnyH_take (i := 53) (v := undef) (by simp only [List.getElem?_toArray, List.getElem?_cons_succ, List.getElem?_cons_zero]; exact rfl) (by kernel_rfl) (by kernel_rfl) (by kernel_rfl) (by intro _ _ _ h; exact h) (Or.inr ⟨by rfl, rfl⟩) hHeld ?_
    try simp only [Act.put, List.setIfInBounds_toArray, List.set_cons_zero, List.set_cons_succ]
    refine wpAnyH_take (i := 54) (v := undef) (by simp only [List.getElem?_toArray, List.getElem?_cons_succ, List.getElem?_cons_zero]; exact rfl) (by kernel_rfl) (by kernel_rfl) (by kernel_rfl) (by intro _ _ _ h; exact h) (Or.inr ⟨by rfl, rfl⟩) hHeld ?_
    try simp only [Act.put, List.setIfInBounds_toArray, List.set_cons_zero, List.set_cons_succ]
    refine wpAnyH_take (i := 55) (v := ?_) (by simp only [List.getElem?_toArray, List.getElem?_cons_succ, List.getElem?_cons_zero]; exact rfl) (by kernel_rfl) (by kernel_rfl) (by kernel_rfl) (by intro _ _ _ h; exact h) (Or.inl ⟨by rfl, fun W hSw => ?_⟩) hHeld ?_
    rotate_left
    focus ((try dsimp only at hSw); first | (go_simp; done) | (go_simp; with_reducible rfl))
    try simp only [Act.put, List.setIfInBounds_toArray, List.set_cons_zero, List.set_cons_succ]
    refine wpAnyH_done (by kernel_rfl) ?_ _
    clear hHeld
    go_wp2
    go_ret2
    exact ⟨by rw [← HR.out]; rfl, HBT.out.drewN 1⟩
  have t5 : decide (m.hour > 23) = false := by simpa using q5
  by_cases q6 : m.minute > 59
  · have hR2 : R = (0, false) := by rw [← HR0.out]; unfold dtick; rw [HY.out, if_pos (Or.inr (Or.inr (Or.inr (Or.inr (Or.inr (Or.inl q6))))))]
    have HR := Lib.hid hR2.symm
    clear hR2
    have t6 : decide (m.minute > 59) = true := by simpa using q6
    go_wp2
    refine wp_region_held_drew (S := (fun w' => w'.cell? ⟨mb, 1, none⟩ = some (.int .i64 m.day) ∧ w'.cell? ⟨mb, 2, none⟩ = some (.int .i64 m.month) ∧ w'.cell? ⟨mb, 3, none⟩ = some (.int .i64 Y) ∧ w'.cell? ⟨mb, 4, none⟩ = some (.int .i64 m.hour) ∧ w'.cell? ⟨mb, 5, none⟩ = some (.int .i64 m.minute) ∧ w'.cell? ⟨mb, 6, none⟩ = some (.int .i64 m.second))) (by kernel_rfl) (⟨c1, c2, c3, c4, c5, c6⟩) (fun hHeld => ?_)
    refine wpAnyH_take (i := 0) (v := ?_) (by simp only [List.getElem?_toArray, List.getElem?_cons_zero]; exact rfl) (by kernel_rfl) (by kernel_rfl) (by kernel_rfl) (by intro _ _ _ h; exact h) (Or.inl ⟨by rfl, fun W hSw => ?_⟩) hHeld ?_
    rotate_left
    focus ((try dsimp only at hSw); first | (go_simp; done) | (go_simp; with_reducible rfl))
    try simp only [Act.put, List.setIfInBounds_toArray, List.set_cons_zero, List.set_cons_succ]
    refine wpAnyH_take (i := 1) (v := ?_) (by simp only [List.getElem?_toArray, List.getElem?_cons_succ, List.getElem?_cons_zero]; exact rfl) (by kernel_rfl) (by kernel_rfl) (by kernel_rfl) (by intro _ _ _ h; exact h) (Or.inl ⟨by rfl, fun W hSw => ?_⟩) hHeld ?_
    rotate_left
    focus ((try dsimp only at hSw); first | (go_simp; done) | (go_simp; with_reducible rfl))
    try simp only [Act.put, List.setIfInBounds_toArray, List.set_cons_zero, List.set_cons_succ]
    refine wpAnyH_take (i := 2) (v := ?_) (by simp only [List.getElem?_toArray, List.getElem?_cons_succ, List.getElem?_cons_zero]; exact rfl) (by kernel_rfl) (by kernel_rfl) (by kernel_rfl) (by intro _ _ _ h; exact h) (Or.inl ⟨by rfl, fun W hSw => ?_⟩) hHeld ?_
    rotate_left
    focus ((try dsimp only at hSw); first | (go_simp; done) | (go_simp; with_reducible rfl))
    try simp only [Act.put, List.setIfInBounds_toArray, List.set_cons_zero, List.set_cons_succ]
    refine wpAnyH_take (i := 3) (v := ?_) (by simp only [List.getElem?_toArray, List.getElem?_cons_succ, List.getElem?_cons_zero]; exact rfl) (by kernel_rfl) (by kernel_rfl) (by kernel_rfl) (by intro _ _ _ h; exact h) (Or.inl ⟨by rfl, fun W hSw => ?_⟩) hHeld ?_
    rotate_left
    focus ((try dsimp only at hSw); first | (go_simp; done) | (go_simp; with_reducible rfl))
    try simp only [Act.put, List.setIfInBounds_toArray, List.set_cons_zero, List.set_cons_succ]
    refine wpAnyH_take (i := 4) (v := ?_) (by simp only [List.getElem?_toArray, List.getElem?_cons_succ, List.getElem?_cons_zero]; exact rfl) (by kernel_rfl) (by kernel_rfl) (by kernel_rfl) (by intro _ _ _ h; exact h) (Or.inl ⟨by rfl, fun W hSw => ?_⟩) hHeld ?_
    rotate_left
    focus ((try dsimp only at hSw); first | (go_simp; done) | (go_simp; with_reducible rfl))
    try simp only [Act.put, List.setIfInBounds_toArray, List.set_cons_zero, List.set_cons_succ]
    refine wpAnyH_take (i := 5) (v := ?_) (by simp only [List.getElem?_toArray, List.getElem?_cons_succ, List.getElem?_cons_zero]; exact rfl) (by kernel_rfl) (by kernel_rfl) (by kernel_rfl) (by intro _ _ _ h; exact h) (Or.inl ⟨by rfl, fun W hSw => ?_⟩) hHeld ?_
    rotate_left
    focus ((try dsimp only at hSw); first | (go_simp; done) | (go_simp; with_reducible rfl))
    try simp only [Act.put, List.setIfInBounds_toArray, List.set_cons_zero, List.set_cons_succ]
    refine wpAnyH_take (i := 6) (v := ?_) (by simp only [List.getElem?_toArray, List.getElem?_cons_succ, List.getElem?_cons_zero]; exact rfl) (by kernel_rfl) (by kernel_rfl) (by kernel_rfl) (by intro _ _ _ h; exact h) (Or.inl ⟨by rfl, fun W hSw => ?_⟩) hHeld ?_
    rotate_left
    focus ((try dsimp only at hSw); first | (go_simp; done) | (go_simp; with_reducible rfl))
    try simp only [Act.put, List.setIfInBounds_toArray, List.set_cons_zero, List.set_cons_succ]
    refine wpAnyH_take (i := 7) (v := ?_) (by simp only [List.getElem?_toArray, List.getElem?_cons_succ, List.getElem?_cons_zero]; exact rfl) (by kernel_rfl) (by kernel_rfl) (by kernel_rfl) (by intro _ _ _ h; exact h) (Or.inl ⟨by rfl, fun W hSw => ?_⟩) hHeld ?_
    rotate_left
    focus ((try dsimp only at hSw); first | (go_simp; done) | (go_simp; with_reducible rfl))
    try simp only [Act.put, List.setIfInBounds_toArray, List.set_cons_zero, List.set_cons_succ]
    refine wpAnyH_take (i := 8) (v := ?_) (by simp only [List.getElem?_toArray, List.getElem?_cons_succ, List.getElem?_cons_zero]; exact rfl) (by kernel_rfl) (by kernel_rfl) (by kernel_rfl) (by intro _ _ _ h; exact h) (Or.inl ⟨by rfl, fun W hSw => ?_⟩) hHeld ?_
    rotate_left
    focus ((try dsimp only at hSw); first | (go_simp; done) | (go_simp; with_reducible rfl))
    try simp only [Act.put, List.setIfInBounds_toArray, List.set_cons_zero, List.set_cons_succ]
    refine wpAnyH_take (i := 9) (v := ?_) (by simp only [List.getElem?_toArray, List.getElem?_cons_succ, List.getElem?_cons_zero]; exact rfl) (by kernel_rfl) (by kernel_rfl) (by kernel_rfl) (by intro _ _ _ h; exact h) (Or.inl ⟨by rfl, fun W hSw => ?_⟩) hHeld ?_
    rotate_left
    focus ((try dsimp only at hSw); first | (go_simp; done) | (go_simp; with_reducible rfl))
    try simp only [Act.put, List.setIfInBounds_toArray, List.set_cons_zero, List.set_cons_succ]
    refine wpAnyH_take (i := 10) (v := ?_) (by simp only [List.getElem?_toArray, List.getElem?_cons_succ, List.getElem?_cons_zero]; exact rfl) (by kernel_rfl) (by kernel_rfl) (by kernel_rfl) (by intro _ _ _ h; exact h) (Or.inl ⟨by rfl, fun W hSw => ?_⟩) hHeld ?_
    rotate_left
    focus ((try dsimp only at hSw); first | (go_simp; done) | (go_simp; with_reducible rfl))
    try simp only [Act.put, List.setIfInBounds_toArray, List.set_cons_zero, List.set_cons_succ]
    refine wpAnyH_take (i := 11) (v := ?_) (by simp only [List.getElem?_toArray, List.getElem?_cons_succ, List.getElem?_cons_zero]; exact rfl) (by kernel_rfl) (by kernel_rfl) (by kernel_rfl) (by intro _ _ _ h; exact h) (Or.inl ⟨by rfl, fun W hSw => ?_⟩) hHeld ?_
    rotate_left
    focus ((try dsimp only at hSw); first | (go_simp; done) | (go_simp; with_reducible rfl))
    try simp only [Act.put, List.setIfInBounds_toArray, List.set_cons_zero, List.set_cons_succ]
    refine wpAnyH_take (i := 12) (v := ?_) (by simp only [List.getElem?_toArray, List.getElem?_cons_succ, List.getElem?_cons_zero]; exact rfl) (by kernel_rfl) (by kernel_rfl) (by kernel_rfl) (by intro _ _ _ h; exact h) (Or.inl ⟨by rfl, fun W hSw => ?_⟩) hHeld ?_
    rotate_left
    focus ((try dsimp only at hSw); first | (go_simp; done) | (go_simp; with_reducible rfl))
    try simp only [Act.put, List.setIfInBounds_toArray, List.set_cons_zero, List.set_cons_succ]
    refine wpAnyH_take (i := 13) (v := ?_) (by simp only [List.getElem?_toArray, List.getElem?_cons_succ, List.getElem?_cons_zero]; exact rfl) (by kernel_rfl) (by kernel_rfl) (by kernel_rfl) (by intro _ _ _ h; exact h) (Or.inl ⟨by rfl, fun W hSw => ?_⟩) hHeld ?_
    rotate_left
    focus ((try dsimp only at hSw); first | (go_simp; done) | (go_simp; with_reducible rfl))
    try simp only [Act.put, List.setIfInBounds_toArray, List.set_cons_zero, List.set_cons_succ]
    refine wpAnyH_take (i := 14) (v := ?_) (by simp only [List.getElem?_toArray, List.getElem?_cons_succ, List.getElem?_cons_zero]; exact rfl) (by kernel_rfl) (by kernel_rfl) (by kernel_rfl) (by intro _ _ _ h; exact h) (Or.inl ⟨by rfl, fun W hSw => ?_⟩) hHeld ?_
    rotate_left
    focus ((try dsimp only at hSw); first | (go_simp; done) | (go_simp; with_reducible rfl))
    try simp only [Act.put, List.setIfInBounds_toArray, List.set_cons_zero, List.set_cons_succ]
    refine wpAnyH_take (i := 15) (v := ?_) (by simp only [List.getElem?_toArray, List.getElem?_cons_succ, List.getElem?_cons_zero]; exact rfl) (by kernel_rfl) (by kernel_rfl) (by kernel_rfl) (by intro _ _ _ h; exact h) (Or.inl ⟨by rfl, fun W hSw => ?_⟩) hHeld ?_
    rotate_left
    focus ((try dsimp only at hSw); first | (go_simp; done) | (go_simp; with_reducible rfl))
    try simp only [Act.put, List.setIfInBounds_toArray, List.set_cons_zero, List.set_cons_succ]
    refine wpAnyH_take (i := 16) (v := ?_) (by simp only [List.getElem?_toArray, List.getElem?_cons_succ, List.getElem?_cons_zero]; exact rfl) (by kernel_rfl) (by kernel_rfl) (by kernel_rfl) (by intro _ _ _ h; exact h) (Or.inl ⟨by rfl, fun W hSw => ?_⟩) hHeld ?_
    rotate_left
    focus ((try dsimp only at hSw); first | (go_simp; done) | (go_simp; with_reducible rfl))
    try simp only [Act.put, List.setIfInBounds_toArray, List.set_cons_zero, List.set_cons_succ]
    refine wpAnyH_take (i := 17) (v := ?_) (by simp only [List.getElem?_toArray, List.getElem?_cons_succ, List.getElem?_cons_zero]; exact rfl) (by kernel_rfl) (by kernel_rfl) (by kernel_rfl) (by intro _ _ _ h; exact h) (Or.inl ⟨by rfl, fun W hSw => ?_⟩) hHeld ?_
    rotate_left
    focus ((try dsimp only at hSw); first | (go_simp; done) | (go_simp; with_reducible rfl))
    try simp only [Act.put, List.setIfInBounds_toArray, List.set_cons_zero, List.set_cons_succ]
    refine wpAnyH_take (i := 18) (v := ?_) (by simp only [List.getElem?_toArray, List.getElem?_cons_succ, List.getElem?_cons_zero]; exact rfl) (by kernel_rfl) (by kernel_rfl) (by kernel_rfl) (by intro _ _ _ h; exact h) (Or.inl ⟨by rfl, fun W hSw => ?_⟩) hHeld ?_
    rotate_left
    focus ((try dsimp only at hSw); first | (go_simp; done) | (go_simp; with_reducible rfl))
    try simp only [Act.put, List.setIfInBounds_toArray, List.set_cons_zero, List.set_cons_succ]
    refine wpAnyH_take (i := 19) (v := ?_) (by simp only [List.getElem?_toArray, List.getElem?_cons_succ, List.getElem?_cons_zero]; exact rfl) (by kernel_rfl) (by kernel_rfl) (by kernel_rfl) (by intro _ _ _ h; exact h) (Or.inl ⟨by rfl, fun W hSw => ?_⟩) hHeld ?_
    rotate_left
    focus ((try dsimp only at hSw); first | (go_simp; done) | (go_simp; with_reducible rfl))
    try simp only [Act.put, List.setIfInBounds_toArray, List.set_cons_zero, List.set_cons_succ]
    refine wpAnyH_take (i := 20) (v := ?_) (by simp only [List.getElem?_toArray, List.getElem?_cons_succ, List.getElem?_cons_zero]; exact rfl) (by kernel_rfl) (by kernel_rfl) (by kernel_rfl) (by intro _ _ _ h; exact h) (Or.inl ⟨by rfl, fun W hSw => ?_⟩) hHeld ?_
    rotate_left
    focus ((try dsimp only at hSw); first | (go_simp; done) | (go_simp; with_reducible rfl))
    try simp only [Act.put, List.setIfInBounds_toArray, List.set_cons_zero, List.set_cons_succ]
    refine wpAnyH_take (i := 21) (v := ?_) (by simp only [List.getElem?_toArray, List.getElem?_cons_succ, List.getElem?_cons_zero]; exact rfl) (by kernel_rfl) (by kernel_rfl) (by kernel_rfl) (by intro _ _ _ h; exact h) (Or.inl ⟨by rfl, fun W hSw => ?_⟩) hHeld ?_
    rotate_left
    focus ((try dsimp only at hSw); first | (go_simp; done) | (go_simp; with_reducible rfl))
    try simp only [Act.put, List.setIfInBounds_toArray, List.set_cons_zero, List.set_cons_succ]
    refine wpAnyH_take (i := 22) (v := ?_) (by simp only [List.getElem?_toArray, List.getElem?_cons_succ, List.getElem?_cons_zero]; exact rfl) (by kernel_rfl) (by kernel_rfl) (by kernel_rfl) (by intro _ _ _ h; exact h) (Or.inl ⟨by rfl, fun W hSw => ?_⟩) hHeld ?_
    rotate_left
    focus ((try dsimp only at hSw); first | (go_simp; done) | (go_simp; with_reducible rfl))
    try simp only [Act.put, List.setIfInBounds_toArray, List.set_cons_zero, List.set_cons_succ]
    refine wpAnyH_take (i := 23) (v := ?_) (by simp only [List.getElem?_toArray, List.getElem?_cons_succ, List.getElem?_cons_zero]; exact rfl) (by kernel_rfl) (by kernel_rfl) (by kernel_rfl) (by intro _ _ _ h; exact h) (Or.inl ⟨by rfl, fun W hSw => ?_⟩) hHeld ?_
    rotate_left
    focus ((try dsimp only at hSw); first | (go_simp; done) | (go_simp; with_reducible rfl))
    try simp only [Act.put, List.setIfInBounds_toArray, List.set_cons_zero, List.set_cons_succ]
    refine wpAnyH_take (i := 24) (v := ?_) (by simp only [List.getElem?_toArray, List.getElem?_cons_succ, List.getElem?_cons_zero]; exact rfl) (by kernel_rfl) (by kernel_rfl) (by kernel_rfl) (by intro _ _ _ h; exact h) (Or.inl ⟨by rfl, fun W hSw => ?_⟩) hHeld ?_
    rotate_left
    focus ((try dsimp only at hSw); first | (go_simp; done) | (go_simp; with_reducible rfl))
    try simp only [Act.put, List.setIfInBounds_toArray, List.set_cons_zero, List.set_cons_succ]
    refine wpAnyH_take (i := 25) (v := ?_) (by simp only [List.getElem?_toArray, List.getElem?_cons_succ, List.getElem?_cons_zero]; exact rfl) (by kernel_rfl) (by kernel_rfl) (by kernel_rfl) (by intro _ _ _ h; exact h) (Or.inl ⟨by rfl, fun W hSw => ?_⟩) hHeld ?_
    rotate_left
    focus ((try dsimp only at hSw); first | (go_simp; done) | (go_simp; with_reducible rfl))
    try simp only [Act.put, List.setIfInBounds_toArray, List.set_cons_zero, List.set_cons_succ]
    refine wpAnyH_take (i := 26) (v := ?_) (by simp only [List.getElem?_toArray, List.getElem?_cons_succ, List.getElem?_cons_zero]; exact rfl) (by kernel_rfl) (by kernel_rfl) (by kernel_rfl) (by intro _ _ _ h; exact h) (Or.inl ⟨by rfl, fun W hSw => ?_⟩) hHeld ?_
    rotate_left
    focus ((try dsimp only at hSw); first | (go_simp; done) | (go_simp; with_reducible rfl))
    try simp only [Act.put, List.setIfInBounds_toArray, List.set_cons_zero, List.set_cons_succ]
    refine wpAnyH_take (i := 27) (v := ?_) (by simp only [List.getElem?_toArray, List.getElem?_cons_succ, List.getElem?_cons_zero]; exact rfl) (by kernel_rfl) (by kernel_rfl) (by kernel_rfl) (by intro _ _ _ h; exact h) (Or.inl ⟨by rfl, fun W hSw => ?_⟩) hHeld ?_
    rotate_left
    focus ((try dsimp only at hSw); first | (go_simp; done) | (go_simp; with_reducible rfl))
    try simp only [Act.put, List.setIfInBounds_toArray, List.set_cons_zero, List.set_cons_succ]
    refine wpAnyH_take (i := 28) (v := ?_) (by simp only [List.getElem?_toArray, List.getElem?_cons_succ, List.getElem?_cons_zero]; exact rfl) (by kernel_rfl) (by kernel_rfl) (by kernel_rfl) (by intro _ _ _ h; exact h) (Or.inl ⟨by rfl, fun W hSw => ?_⟩) hHeld ?_
    rotate_left
    focus ((try dsimp only at hSw); first | (go_simp; done) | (go_simp; with_reducible rfl))
    try simp only [Act.put, List.setIfInBounds_toArray, List.set_cons_zero, List.set_cons_succ]
    refine wpAnyH_take (i := 29) (v := ?_) (by simp only [List.getElem?_toArray, List.getElem?_cons_succ, List.getElem?_cons_zero]; exact rfl) (by kernel_rfl) (by kernel_rfl) (by kernel_rfl) (by intro _ _ _ h; exact h) (Or.inl ⟨by rfl, fun W hSw => ?_⟩) hHeld ?_
    rotate_left
    focus ((try dsimp only at hSw); first | (go_simp; done) | (go_simp; with_reducible rfl))
    try simp only [Act.put, List.setIfInBounds_toArray, List.set_cons_zero, List.set_cons_succ]
    refine wpAnyH_take (i := 30) (v := ?_) (by simp only [List.getElem?_toArray, List.getElem?_cons_succ, List.getElem?_cons_zero]; exact rfl) (by kernel_rfl) (by kernel_rfl) (by kernel_rfl) (by intro _ _ _ h; exact h) (Or.inl ⟨by rfl, fun W hSw => ?_⟩) hHeld ?_
    rotate_left
    focus ((try dsimp only at hSw); first | (go_simp; done) | (go_simp; with_reducible rfl))
    try simp only [Act.put, List.setIfInBounds_toArray, List.set_cons_zero, List.set_cons_succ]
    refine wpAnyH_take (i := 31) (v := ?_) (by simp only [List.getElem?_toArray, List.getElem?_cons_succ, List.getElem?_cons_zero]; exact rfl) (by kernel_rfl) (by kernel_rfl) (by kernel_rfl) (by intro _ _ _ h; exact h) (Or.inl ⟨by rfl, fun W hSw => ?_⟩) hHeld ?_
    rotate_left
    focus ((try dsimp only at hSw); first | (go_simp; done) | (go_simp; with_reducible rfl))
    try simp only [Act.put, List.setIfInBounds_toArray, List.set_cons_zero, List.set_cons_succ]
    refine wpAnyH_ready (rs := [32]) (by kernel_rfl) (by simp) (AllReadyH.cons (by simp only [List.getElem?_toArray, List.getElem?_cons_succ, List.getElem?_cons_zero]; exact rfl) (fun K hK => ?_) AllReadyH.nil)
    rw [if_pos (by rfl)]
    go_simp
    refine (KL.out _).mono ?_; rintro e wl ⟨rfl, rfl⟩; go_wp2_with fail
    refine hK.out _ _ (hHeld) (fun hHeld => ?_)
    clear hK K
    try simp only [Act.put, List.setIfInBounds_toArray, List.set_cons_zero, List.set_cons_succ]
    refine wpAnyH_take (i := 33) (v := ?_) (by simp only [List.getElem?_toArray, List.getElem?_cons_succ, List.getElem?_cons_zero]; exact rfl) (by kernel_rfl) (by kernel_rfl) (by kernel_rfl) (by intro _ _ _ h; exact h) (Or.inl ⟨by rfl, fun W hSw => ?_⟩) hHeld ?_
    rotate_left
    focus ((try dsimp only at hSw); first | (go_simp; done) | (go_simp; with_reducible rfl))
    try simp only [Act.put, List.setIfInBounds_toArray, List.set_cons_zero, List.set_cons_succ]
    refine wpAnyH_take (i := 34) (v := ?_) (by simp only [List.getElem?_toArray, List.getElem?_cons_succ, List.getElem?_cons_zero]; exact rfl) (by kernel_rfl) (by kernel_rfl) (by kernel_rfl) (by intro _ _ _ h; exact h) (Or.inl ⟨by rfl, fun W hSw => ?_⟩) hHeld ?_
    rotate_left
    focus ((try dsimp only at hSw); first | (go_simp; done) | (go_simp; with_reducible rfl))
    try simp only [Act.put, List.setIfInBounds_toArray, List.set_cons_zero, List.set_cons_succ]
    refine wpAnyH_take (i := 35) (v := ?_) (by simp only [List.getElem?_toArray, List.getElem?_cons_succ, List.getElem?_cons_zero]; exact rfl) (by kernel_rfl) (by kernel_rfl) (by kernel_rfl) (by intro _ _ _ h; exact h) (Or.inl ⟨by rfl, fun W hSw => ?_⟩) hHeld ?_
    rotate_left
    focus ((try dsimp only at hSw); first | (go_simp; done) | (go_simp; with_reducible rfl))
    try simp only [Act.put, List.setIfInBounds_toArray, List.set_cons_zero, List.set_cons_succ]
    refine wpAnyH_take (i := 36) (v := ?_) (by simp only [List.getElem?_toArray, List.getElem?_cons_succ, List.getElem?_cons_zero]; exact rfl) (by kernel_rfl) (by kernel_rfl) (by kernel_rfl) (by intro _ _ _ h; exact h) (Or.inl ⟨by rfl, fun W hSw => ?_⟩) hHeld ?_
    rotate_left
    focus ((try dsimp only at hSw); first | (go_simp; done) | (go_simp; with_reducible rfl))
    try simp only [Act.put, List.setIfInBounds_toArray, List.set_cons_zero, List.set_cons_succ]
    refine wpAnyH_take (i := 37) (v := ?_) (by simp only [List.getElem?_toArray, List.getElem?_cons_succ, List.getElem?_cons_zero]; exact rfl) (by kernel_rfl) (by kernel_rfl) (by kernel_rfl) (by intro _ _ _ h; exact h) (Or.inl ⟨by rfl, fun W hSw => ?_⟩) hHeld ?_
    rotate_left
    focus ((try dsimp only at hSw); first | (go_simp; done) | (go_simp; with_reducible rfl))
    try simp only [Act.put, List.setIfInBounds_toArray, List.set_cons_zero, List.set_cons_succ]
    refine wpAnyH_take (i := 38) (v := ?_) (by simp only [List.getElem?_toArray, List.getElem?_cons_succ, List.getElem?_cons_zero]; exact rfl) (by kernel_rfl) (by kernel_rfl) (by kernel_rfl) (by intro _ _ _ h; exact h) (Or.inl ⟨by rfl, fun W hSw => ?_⟩) hHeld ?_
    rotate_left
    focus ((try dsimp only at hSw); first | (go_simp; done) | (go_simp; with_reducible rfl))
    try simp only [Act.put, List.setIfInBounds_toArray, List.set_cons_zero, List.set_cons_succ]
    refine wpAnyH_take (i := 39) (v := ?_) (by simp only [List.getElem?_toArray, List.getElem?_cons_succ, List.getElem?_cons_zero]; exact rfl) (by kernel_rfl) (by kernel_rfl) (by kernel_rfl) (by intro _ _ _ h; exact h) (Or.inl ⟨by rfl, fun W hSw => ?_⟩) hHeld ?_
    rotate_left
    focus ((try dsimp only at hSw); first | (go_simp; done) | (go_simp; with_reducible rfl))
    try simp only [Act.put, List.setIfInBounds_toArray, List.set_cons_zero, List.set_cons_succ]
    refine wpAnyH_take (i := 40) (v := ?_) (by simp only [List.getElem?_toArray, List.getElem?_cons_succ, List.getElem?_cons_zero]; exact rfl) (by kernel_rfl) (by kernel_rfl) (by kernel_rfl) (by intro _ _ _ h; exact h) (Or.inl ⟨by rfl, fun W hSw => ?_⟩) hHeld ?_
    rotate_left
    focus ((try dsimp only at hSw); first | (go_simp; done) | (go_simp; with_reducible rfl))
    try simp only [Act.put, List.setIfInBounds_toArray, List.set_cons_zero, List.set_cons_succ]
    refine wpAnyH_take (i := 41) (v := ?_) (by simp only [List.getElem?_toArray, List.getElem?_cons_succ, List.getElem?_cons_zero]; exact rfl) (by kernel_rfl) (by kernel_rfl) (by kernel_rfl) (by intro _ _ _ h; exact h) (Or.inl ⟨by rfl, fun W hSw => ?_⟩) hHeld ?_
    rotate_left
    focus ((try dsimp only at hSw); first | (go_simp; done) | (go_simp; with_reducible rfl))
    try simp only [Act.put, List.setIfInBounds_toArray, List.set_cons_zero, List.set_cons_succ]
    refine wpAnyH_take (i := 42) (v := ?_) (by simp only [List.getElem?_toArray, List.getElem?_cons_succ, List.getElem?_cons_zero]; exact rfl) (by kernel_rfl) (by kernel_rfl) (by kernel_rfl) (by intro _ _ _ h; exact h) (Or.inl ⟨by rfl, fun W hSw => ?_⟩) hHeld ?_
    rotate_left
    focus ((try dsimp only at hSw); first | (go_simp; done) | (go_simp; with_reducible rfl))
    try simp only [Act.put, List.setIfInBounds_toArray, List.set_cons_zero, List.set_cons_succ]
    refine wpAnyH_take (i := 43) (v := ?_) (by simp only [List.getElem?_toArray, List.getElem?_cons_succ, List.getElem?_cons_zero]; exact rfl) (by kernel_rfl) (by kernel_rfl) (by kernel_rfl) (by intro _ _ _ h; exact h) (Or.inl ⟨by rfl, fun W hSw => ?_⟩) hHeld ?_
    rotate_left
    focus ((try dsimp only at hSw); first | (go_simp; done) | (go_simp; with_reducible rfl))
    try simp only [Act.put, List.setIfInBounds_toArray, List.set_cons_zero, List.set_cons_succ]
    refine wpAnyH_take (i := 44) (v := ?_) (by simp only [List.getElem?_toArray, List.getElem?_cons_succ, List.getElem?_cons_zero]; exact rfl) (by kernel_rfl) (by kernel_rfl) (by kernel_rfl) (by intro _ _ _ h; exact h) (Or.inl ⟨by rfl, fun W hSw => ?_⟩) hHeld ?_
    rotate_left
    focus ((try dsimp only at hSw); first | (go_simp; done) | (go_simp; with_reducible rfl))
    try simp only [Act.put, List.setIfInBounds_toArray, List.set_cons_zero, List.set_cons_succ]
    refine wpAnyH_take (i := 45) (v := ?_) (by simp only [List.getElem?_toArray, List.getElem?_cons_succ, List.getElem?_cons_zero]; exact rfl) (by kernel_rfl) (by kernel_rfl) (by kernel_rfl) (by intro _ _ _ h; exact h) (Or.inl ⟨by rfl, fun W hSw => ?_⟩) hHeld ?_
    rotate_left
    focus ((try dsimp only at hSw); first | (go_simp; done) | (go_simp; with_reducible rfl))
    try simp only [Act.put, List.setIfInBounds_toArray, List.set_cons_zero, List.set_cons_succ]
    refine wpAnyH_take (i := 46) (v := ?_) (by simp only [List.getElem?_toArray, List.getElem?_cons_succ, List.getElem?_cons_zero]; exact rfl) (by kernel_rfl) (by kernel_rfl) (by kernel_rfl) (by intro _ _ _ h; exact h) (Or.inl ⟨by rfl, fun W hSw => ?_⟩) hHeld ?_
    rotate_left
    focus ((try dsimp only at hSw); first | (go_simp; done) | (go_simp; with_reducible rfl))
    try simp only [Act.put, List.setIfInBounds_toArray, List.set_cons_zero, List.set_cons_succ]
    refine wpAnyH_take (i := 47) (v := ?_) (by simp only [List.getElem?_toArray, List.getElem?_cons_succ, List.getElem?_cons_zero]; exact rfl) (by kernel_rfl) (by kernel_rfl) (by kernel_rfl) (by intro _ _ _ h; exact h) (Or.inl ⟨by rfl, fun W hSw => ?_⟩) hHeld ?_
    rotate_left
    focus ((try dsimp only at hSw); first | (go_simp; done) | (go_simp; with_reducible rfl))
    try simp only [Act.put, List.setIfInBounds_toArray, List.set_cons_zero, List.set_cons_succ]
    refine wpAnyH_take (i := 48) (v := ?_) (by simp only [List.getElem?_toArray, List.getElem?_cons_succ, List.getElem?_cons_zero]; exact rfl) (by kernel_rfl) (by kernel_rfl) (by kernel_rfl) (by intro _ _ _ h; exact h) (Or.inl ⟨by rfl, fun W hSw => ?_⟩) hHeld ?_
    rotate_left
    focus ((try dsimp only at hSw); first | (go_simp; done) | (go_simp; with_reducible rfl))
    try simp only [Act.put, List.setIfInBounds_toArray, List.set_cons_zero, List.set_cons_succ]
    refine wpAnyH_take (i := 49) (v := ?_) (by simp only [List.getElem?_toArray, List.getElem?_cons_succ, List.getElem?_cons_zero]; exact rfl) (by kernel_rfl) (by kernel_rfl) (by kernel_rfl) (by intro _ _ _ h; exact h) (Or.inl ⟨by rfl, fun W hSw => ?_⟩) hHeld ?_
    rotate_left
    focus ((try dsimp only at hSw); first | (go_simp; done) | (go_simp; with_reducible rfl))
    try simp only [Act.put, List.setIfInBounds_toArray, List.set_cons_zero, List.set_cons_succ]
    refine wpAnyH_take (i := 50) (v := undef) (by simp only [List.getElem?_toArray, List.getElem?_cons_succ, List.getElem?_cons_zero]; exact rfl) (by kernel_rfl) (by kernel_rfl) (by kernel_rfl) (by intro _ _ _ h; exact h) (Or.inr ⟨by rfl, rfl⟩) hHeld ?_
    try simp only [Act.put, List.setIfInBounds_toArray, List.set_cons_zero, List.set_cons_succ]
    refine wpAnyH_take (i := 51) (v := undef) (by simp only [List.getElem?_toArray, List.getElem?_cons_succ, List.getElem?_cons_zero]; exact rfl) (by kernel_rfl) (by kernel_rfl) (by kernel_rfl) (by intro _ _ _ h; exact h) (Or.inr ⟨by rfl, rfl⟩) hHeld ?_
    try simp only [Act.put, List.setIfInBounds_toArray, List.set_cons_zero, List.set_cons_succ]
    refine wpAnyH_take (i := 52) (v := undef) (by simp only [List.getElem?_toArray, List.getElem?_cons_succ, List.getElem?_cons_zero]; exact rfl) (by kernel_rfl) (by kernel_rfl) (by kernel_rfl) (by intro _ _ _ h; exact h) (Or.inr ⟨by rfl, rfl⟩) hHeld ?_
    try simp only [Act.put, List.setIfInBounds_toArray, List.set_cons_zero, List.set_cons_succ]
    refine wpAnyH_take (i := 53) (v := undef) (by simp only [List.getElem?_toArray, List.getElem?_cons_succ, List.getElem?_cons_zero]; exact rfl) (by kernel_rfl) (by kernel_rfl) (by kernel_rfl) (by intro _ _ _ h; exact h) (Or.inr ⟨by rfl, rfl⟩) hHeld ?_
    try simp only [Act.put, List.setIfInBounds_toArray, List.set_cons_zero, List.set_cons_succ]
    refine wpAnyH_take (i := 54) (v := undef) (by simp only [List.getElem?_toArray, List.getElem?_cons_succ, List.getElem?_cons_zero]; exact rfl) (by kernel_rfl) (by kernel_rfl) (by kernel_rfl) (by intro _ _ _ h; exact h) (Or.inr ⟨by rfl, rfl⟩) hHeld ?_
    try simp only [Act.put, List.setIfInBounds_toArray, List.set_cons_zero, List.set_cons_succ]
    refine wpAnyH_take (i := 55) (v := ?_) (by simp only [List.getElem?_toArray, List.getElem?_cons_succ, List.getElem?_cons_zero]; exact rfl) (by kernel_rfl) (by kernel_rfl) (by kernel_rfl) (by intro _ _ _ h; exact h) (Or.inl ⟨by rfl, fun W hSw => ?_⟩) hHeld ?_
    rotate_left
    focus ((try dsimp only at hSw); first | (go_simp; done) | (go_simp; with_reducible rfl))
    try simp only [Act.put, List.setIfInBounds_toArray, List.set_cons_zero, List.set_cons_succ]
    refine wpAnyH_done (by kernel_rfl) ?_ _
    clear hHeld
    go_wp2
    go_ret2
    exact ⟨by rw [← HR.out]; rfl, HBT.out.drewN 1⟩
  have t6 : decide (m.minute > 59) = false := by simpa using q6
  by_cases q7 : m.second > 59
  · have hR2 : R = (0, false) := by rw [← HR0.out]; unfold dtick; rw [HY.out, if_pos (Or.inr (Or.inr (Or.inr (Or.inr (Or.inr (Or.inr q7))))))]
    have HR := Lib.hid hR2.symm
    clear hR2
    have t7 : decide (m.second > 59) = true := by simpa using q7
    go_wp2
    refine wp_region_held_drew (S := (fun w' => w'.cell? ⟨mb, 1, none⟩ = some (.int .i64 m.day) ∧ w'.cell? ⟨mb, 2, none⟩ = some (.int .i64 m.month) ∧ w'.cell? ⟨mb, 3, none⟩ = some (.int .i64 Y) ∧ w'.cell? ⟨mb, 4, none⟩ = some (.int .i64 m.hour) ∧ w'.cell? ⟨mb, 5, none⟩ = some (.int .i64 m.minute) ∧ w'.cell? ⟨mb, 6, none⟩ = some (.int .i64 m.second))) (by kernel_rfl) (⟨c1, c2, c3, c4, c5, c6⟩) (fun hHeld => ?_)
    refine wpAnyH_take (i := 0) (v := ?_) (by simp only [List.getElem?_toArray, List.getElem?_cons_zero]; exact rfl) (by kernel_rfl) (by kernel_rfl) (by kernel_rfl) (by intro _ _ _ h; exact h) (Or.inl ⟨by rfl, fun W hSw => ?_⟩) hHeld ?_
    rotate_left
    focus ((try dsimp only at hSw); first | (go_simp; done) | (go_simp; with_reducible rfl))
    try simp only [Act.put, List.setIfInBounds_toArray, List.set_cons_zero, List.set_cons_succ]
    refine wpAnyH_take (i := 1) (v := ?_) (by simp only [List.getElem?_toArray, List.getElem?_cons_succ, List.getElem?_cons_zero]; exact rfl) (by kernel_rfl) (by kernel_rfl) (by kernel_rfl) (by intro _ _ _ h; exact h) (Or.inl ⟨by rfl, fun W hSw => ?_⟩) hHeld ?_
    rotate_left
    focus ((try dsimp only at hSw); first | (go_simp; done) | (go_simp; with_reducible rfl))
    try simp only [Act.put, List.setIfInBounds_toArray, List.set_cons_zero, List.set_cons_succ]
    refine wpAnyH_take (i := 2) (v := ?_) (by simp only [List.getElem?_toArray, List.getElem?_cons_succ, List.getElem?_cons_zero]; exact rfl) (by kernel_rfl) (by kernel_rfl) (by kernel_rfl) (by intro _ _ _ h; exact h) (Or.inl ⟨by rfl, fun W hSw => ?_⟩) hHeld ?_
    rotate_left
    focus ((try dsimp only at hSw); first | (go_simp; done) | (go_simp; with_reducible rfl))
    try simp only [Act.put, List.setIfInBounds_toArray, List.set_cons_zero, List.set_cons_succ]
    refine wpAnyH_take (i := 3) (v := ?_) (by simp only [List.getElem?_toArray, List.getElem?_cons_succ, List.getElem?_cons_zero]; exact rfl) (by kernel_rfl) (by kernel_rfl) (by kernel_rfl) (by intro _ _ _ h; exact h) (Or.inl ⟨by rfl, fun W hSw => ?_⟩) hHeld ?_
    rotate_left
    focus ((try dsimp only at hSw); first | (go_simp; done) | (go_simp; with_reducible rfl))
    try simp only [Act.put, List.setIfInBounds_toArray, List.set_cons_zero, List.set_cons_succ]
    refine wpAnyH_take (i := 4) (v := ?_) (by simp only [List.getElem?_toArray, List.getElem?_cons_succ, List.getElem?_cons_zero]; exact rfl) (by kernel_rfl) (by kernel_rfl) (by kernel_rfl) (by intro _ _ _ h; exact h) (Or.inl ⟨by rfl, fun W hSw => ?_⟩) hHeld ?_
    rotate_left
    focus ((try dsimp only at hSw); first | (go_simp; done) | (go_simp; with_reducible rfl))
    try simp only [Act.put, List.setIfInBounds_toArray, List.set_cons_zero, List.set_cons_succ]
    refine wpAnyH_take (i := 5) (v := ?_) (by simp only [List.getElem?_toArray, List.getElem?_cons_succ, List.getElem?_cons_zero]; exact rfl) (by kernel_rfl) (by kernel_rfl) (by kernel_rfl) (by intro _ _ _ h; exact h) (Or.inl ⟨by rfl, fun W hSw => ?_⟩) hHeld ?_
    rotate_left
    focus ((try dsimp only at hSw); first | (go_simp; done) | (go_simp; with_reducible rfl))
    try simp only [Act.put, List.setIfInBounds_toArray, List.set_cons_zero, List.set_cons_succ]
    refine wpAnyH_take (i := 6) (v := ?_) (by simp only [List.getElem?_toArray, List.getElem?_cons_succ, List.getElem?_cons_zero]; exact rfl) (by kernel_rfl) (by kernel_rfl) (by kernel_rfl) (by intro _ _ _ h; exact h) (Or.inl ⟨by rfl, fun W hSw => ?_⟩) hHeld ?_
    rotate_left
    focus ((try dsimp only at hSw); first | (go_simp; done) | (go_simp; with_reducible rfl))
    try simp only [Act.put, List.setIfInBounds_toArray, List.set_cons_zero, List.set_cons_succ]
    refine wpAnyH_take (i := 7) (v := ?_) (by simp only [List.getElem?_toArray, List.getElem?_cons_succ, List.getElem?_cons_zero]; exact rfl) (by kernel_rfl) (by kernel_rfl) (by kernel_rfl) (by intro _ _ _ h; exact h) (Or.inl ⟨by rfl, fun W hSw => ?_⟩) hHeld ?_
    rotate_left
    focus ((try dsimp only at hSw); first | (go_simp; done) | (go_simp; with_reducible rfl))
    try simp only [Act.put, List.setIfInBounds_toArray, List.set_cons_zero, List.set_cons_succ]
    refine wpAnyH_take (i := 8) (v := ?_) (by simp only [List.getElem?_toArray, List.getElem?_cons_succ, List.getElem?_cons_zero]; exact rfl) (by kernel_rfl) (by kernel_rfl) (by kernel_rfl) (by intro _ _ _ h; exact h) (Or.inl ⟨by rfl, fun W hSw => ?_⟩) hHeld ?_
    rotate_left
    focus ((try dsimp only at hSw); first | (go_simp; done) | (go_simp; with_reducible rfl))
    try simp only [Act.put, List.setIfInBounds_toArray, List.set_cons_zero, List.set_cons_succ]
    refine wpAnyH_take (i := 9) (v := ?_) (by simp only [List.getElem?_toArray, List.getElem?_cons_succ, List.getElem?_cons_zero]; exact rfl) (by kernel_rfl) (by kernel_rfl) (by kernel_rfl) (by intro _ _ _ h; exact h) (Or.inl ⟨by rfl, fun W hSw => ?_⟩) hHeld ?_
    rotate_left
    focus ((try dsimp only at hSw); first | (go_simp; done) | (go_simp; with_reducible rfl))
    try simp only [Act.put, List.setIfInBounds_toArray, List.set_cons_zero, List.set_cons_succ]
    refine wpAnyH_take (i := 10) (v := ?_) (by simp only [List.getElem?_toArray, List.getElem?_cons_succ, List.getElem?_cons_zero]; exact rfl) (by kernel_rfl) (by kernel_rfl) (by kernel_rfl) (by intro _ _ _ h; exact h) (Or.inl ⟨by rfl, fun W hSw => ?_⟩) hHeld ?_
    rotate_left
    focus ((try dsimp only at hSw); first | (go_simp; done) | (go_simp; with_reducible rfl))
    try simp only [Act.put, List.setIfInBounds_toArray, List.set_cons_zero, List.set_cons_succ]
    refine wpAnyH_take (i := 11) (v := ?_) (by simp only [List.getElem?_toArray, List.getElem?_cons_succ, List.getElem?_cons_zero]; exact rfl) (by kernel_rfl) (by kernel_rfl) (by kernel_rfl) (by intro _ _ _ h; exact h) (Or.inl ⟨by rfl, fun W hSw => ?_⟩) hHeld ?_
    rotate_left
    focus ((try dsimp only at hSw); first | (go_simp; done) | (go_simp; with_reducible rfl))
    try simp only [Act.put, List.setIfInBounds_toArray, List.set_cons_zero, List.set_cons_succ]
    refine wpAnyH_take (i := 12) (v := ?_) (by simp only [List.getElem?_toArray, List.getElem?_cons_succ, List.getElem?_cons_zero]; exact rfl) (by kernel_rfl) (by kernel_rfl) (by kernel_rfl) (by intro _ _ _ h; exact h) (Or.inl ⟨by rfl, fun W hSw => ?_⟩) hHeld ?_
    rotate_left
    focus ((try dsimp only at hSw); first | (go_simp; done) | (go_simp; with_reducible rfl))
    try simp only [Act.put, List.setIfInBounds_toArray, List.set_cons_zero, List.set_cons_succ]
    refine wpAnyH_take (i := 13) (v := ?_) (by simp only [List.getElem?_toArray, List.getElem?_cons_succ, List.getElem?_cons_zero]; exact rfl) (by kernel_rfl) (by kernel_rfl) (by kernel_rfl) (by intro _ _ _ h; exact h) (Or.inl ⟨by rfl, fun W hSw => ?_⟩) hHeld ?_
    rotate_left
    focus ((try dsimp only at hSw); first | (go_simp; done) | (go_simp; with_reducible rfl))
    try simp only [Act.put, List.setIfInBounds_toArray, List.set_cons_zero, List.set_cons_succ]
    refine wpAnyH_take (i := 14) (v := ?_) (by simp only [List.getElem?_toArray, List.getElem?_cons_succ, List.getElem?_cons_zero]; exact rfl) (by kernel_rfl) (by kernel_rfl) (by kernel_rfl) (by intro _ _ _ h; exact h) (Or.inl ⟨by rfl, fun W hSw => ?_⟩) hHeld ?_
    rotate_left
    focus ((try dsimp only at hSw); first | (go_simp; done) | (go_simp; with_reducible rfl))
    try simp only [Act.put, List.setIfInBounds_toArray, List.set_cons_zero, List.set_cons_succ]
    refine wpAnyH_take (i := 15) (v := ?_) (by simp only [List.getElem?_toArray, List.getElem?_cons_succ, List.getElem?_cons_zero]; exact rfl) (by kernel_rfl) (by kernel_rfl) (by kernel_rfl) (by intro _ _ _ h; exact h) (Or.inl ⟨by rfl, fun W hSw => ?_⟩) hHeld ?_
    rotate_left
    focus ((try dsimp only at hSw); first | (go_simp; done) | (go_simp; with_reducible rfl))
    try simp only [Act.put, List.setIfInBounds_toArray, List.set_cons_zero, List.set_cons_succ]
    refine wpAnyH_take (i := 16) (v := ?_) (by simp only [List.getElem?_toArray, List.getElem?_cons_succ, List.getElem?_cons_zero]; exact rfl) (by kernel_rfl) (by kernel_rfl) (by kernel_rfl) (by intro _ _ _ h; exact h) (Or.inl ⟨by rfl, fun W hSw => ?_⟩) hHeld ?_
    rotate_left
    focus ((try dsimp only at hSw); first | (go_simp; done) | (go_simp; with_reducible rfl))
    try simp only [Act.put, List.setIfInBounds_toArray, List.set_cons_zero, List.set_cons_succ]
    refine wpAnyH_take (i := 17) (v := ?_) (by simp only [List.getElem?_toArray, List.getElem?_cons_succ, List.getElem?_cons_zero]; exact rfl) (by kernel_rfl) (by kernel_rfl) (by kernel_rfl) (by intro _ _ _ h; exact h) (Or.inl ⟨by rfl, fun W hSw => ?_⟩) hHeld ?_
    rotate_left
    focus ((try dsimp only at hSw); first | (go_simp; done) | (go_simp; with_reducible rfl))
    try simp only [Act.put, List.setIfInBounds_toArray, List.set_cons_zero, List.set_cons_succ]
    refine wpAnyH_take (i := 18) (v := ?_) (by simp only [List.getElem?_toArray, List.getElem?_cons_succ, List.getElem?_cons_zero]; exact rfl) (by kernel_rfl) (by kernel_rfl) (by kernel_rfl) (by intro _ _ _ h; exact h) (Or.inl ⟨by rfl, fun W hSw => ?_⟩) hHeld ?_
    rotate_left
    focus ((try dsimp only at hSw); first | (go_simp; done) | (go_simp; with_reducible rfl))
    try simp only [Act.put, List.setIfInBounds_toArray, List.set_cons_zero, List.set_cons_succ]
    refine wpAnyH_take (i := 19) (v := ?_) (by simp only [List.getElem?_toArray, List.getElem?_cons_succ, List.getElem?_cons_zero]; exact rfl) (by kernel_rfl) (by kernel_rfl) (by kernel_rfl) (by intro _ _ _ h; exact h) (Or.inl ⟨by rfl, fun W hSw => ?_⟩) hHeld ?_
    rotate_left
    focus ((try dsimp only at hSw); first | (go_simp; done) | (go_simp; with_reducible rfl))
    try simp only [Act.put, List.setIfInBounds_toArray, List.set_cons_zero, List.set_cons_succ]
    refine wpAnyH_take (i := 20) (v := ?_) (by simp only [List.getElem?_toArray, List.getElem?_cons_succ, List.getElem?_cons_zero]; exact rfl) (by kernel_rfl) (by kernel_rfl) (by kernel_rfl) (by intro _ _ _ h; exact h) (Or.inl ⟨by rfl, fun W hSw => ?_⟩) hHeld ?_
    rotate_left
    focus ((try dsimp only at hSw); first | (go_simp; done) | (go_simp; with_reducible rfl))
    try simp only [Act.put, List.setIfInBounds_toArray, List.set_cons_zero, List.set_cons_succ]
    refine wpAnyH_take (i := 21) (v := ?_) (by simp only [List.getElem?_toArray, List.getElem?_cons_succ, List.getElem?_cons_zero]; exact rfl) (by kernel_rfl) (by kernel_rfl) (by kernel_rfl) (by intro _ _ _ h; exact h) (Or.inl ⟨by rfl, fun W hSw => ?_⟩) hHeld ?_
    rotate_left
    focus ((try dsimp only at hSw); first | (go_simp; done) | (go_simp; with_reducible rfl))
    try simp only [Act.put, List.setIfInBounds_toArray, List.set_cons_zero, List.set_cons_succ]
    refine wpAnyH_take (i := 22) (v := ?_) (by simp only [List.getElem?_toArray, List.getElem?_cons_succ, List.getElem?_cons_zero]; exact rfl) (by kernel_rfl) (by kernel_rfl) (by kernel_rfl) (by intro _ _ _ h; exact h) (Or.inl ⟨by rfl, fun W hSw => ?_⟩) hHeld ?_
    rotate_left
    focus ((try dsimp only at hSw); first | (go_simp; done) | (go_simp; with_reducible rfl))
    try simp only [Act.put, List.setIfInBounds_toArray, List.set_cons_zero, List.set_cons_succ]
    refine wpAnyH_take (i := 23) (v := ?_) (by simp only [List.getElem?_toArray, List.getElem?_cons_succ, List.getElem?_cons_zero]; exact rfl) (by kernel_rfl) (by kernel_rfl) (by kernel_rfl) (by intro _ _ _ h; exact h) (Or.inl ⟨by rfl, fun W hSw => ?_⟩) hHeld ?_
    rotate_left
    focus ((try dsimp only at hSw); first | (go_simp; done) | (go_simp; with_reducible rfl))
    try simp only [Act.put, List.setIfInBounds_toArray, List.set_cons_zero, List.set_cons_succ]
    refine wpAnyH_take (i := 24) (v := ?_) (by simp only [List.getElem?_toArray, List.getElem?_cons_succ, List.getElem?_cons_zero]; exact rfl) (by kernel_rfl) (by kernel_rfl) (by kernel_rfl) (by intro _ _ _ h; exact h) (Or.inl ⟨by rfl, fun W hSw => ?_⟩) hHeld ?_
    rotate_left
    focus ((try dsimp only at hSw); first | (go_simp; done) | (go_simp; with_reducible rfl))
    try simp only [Act.put, List.setIfInBounds_toArray, List.set_cons_zero, List.set_cons_succ]
    refine wpAnyH_take (i := 25) (v := ?_) (by simp only [List.getElem?_toArray, List.getElem?_cons_succ, List.getElem?_cons_zero]; exact rfl) (by kernel_rfl) (by kernel_rfl) (by kernel_rfl) (by intro _ _ _ h; exact h) (Or.inl ⟨by rfl, fun W hSw => ?_⟩) hHeld ?_
    rotate_left
    focus ((try dsimp only at hSw); first | (go_simp; done) | (go_simp; with_reducible rfl))
    try simp only [Act.put, List.setIfInBounds_toArray, List.set_cons_zero, List.set_cons_succ]
    refine wpAnyH_take (i := 26) (v := ?_) (by simp only [List.getElem?_toArray, List.getElem?_cons_succ, List.getElem?_cons_zero]; exact rfl) (by kernel_rfl) (by kernel_rfl) (by kernel_rfl) (by intro _ _ _ h; exact h) (Or.inl ⟨by rfl, fun W hSw => ?_⟩) hHeld ?_
    rotate_left
    focus ((try dsimp only at hSw); first | (go_simp; done) | (go_simp; with_reducible rfl))
    try simp only [Act.put, List.setIfInBounds_toArray, List.set_cons_zero, List.set_cons_succ]
    refine wpAnyH_take (i := 27) (v := ?_) (by simp only [List.getElem?_toArray, List.getElem?_cons_succ, List.getElem?_cons_zero]; exact rfl) (by kernel_rfl) (by kernel_rfl) (by kernel_rfl) (by intro _ _ _ h; exact h) (Or.inl ⟨by rfl, fun W hSw => ?_⟩) hHeld ?_
    rotate_left
    focus ((try dsimp only at hSw); first | (go_simp; done) | (go_simp; with_reducible rfl))
    try simp only [Act.put, List.setIfInBounds_toArray, List.set_cons_zero, List.set_cons_succ]
    refine wpAnyH_take (i := 28) (v := ?_) (by simp only [List.getElem?_toArray, List.getElem?_cons_succ, List.getElem?_cons_zero]; exact rfl) (by kernel_rfl) (by kernel_rfl) (by kernel_rfl) (by intro _ _ _ h; exact h) (Or.inl ⟨by rfl, fun W hSw => ?_⟩) hHeld ?_
    rotate_left
    focus ((try dsimp only at hSw); first | (go_simp; done) | (go_simp; with_reducible rfl))
    try simp only [Act.put, List.setIfInBounds_toArray, List.set_cons_zero, List.set_cons_succ]
    refine wpAnyH_take (i := 29) (v := ?_) (by simp only [List.getElem?_toArray, List.getElem?_cons_succ, List.getElem?_cons_zero]; exact rfl) (by kernel_rfl) (by kernel_rfl) (by kernel_rfl) (by intro _ _ _ h; exact h) (Or.inl ⟨by rfl, fun W hSw => ?_⟩) hHeld ?_
    rotate_left
    focus ((try dsimp only at hSw); first | (go_simp; done) | (go_simp; with_reducible rfl))
    try simp only [Act.put, List.setIfInBounds_toArray, List.set_cons_zero, List.set_cons_succ]
    refine wpAnyH_take (i := 30) (v := ?_) (by simp only [List.getElem?_toArray, List.getElem?_cons_succ, List.getElem?_cons_zero]; exact rfl) (by kernel_rfl) (by kernel_rfl) (by kernel_rfl) (by intro _ _ _ h; exact h) (Or.inl ⟨by rfl, fun W hSw => ?_⟩) hHeld ?_
    rotate_left
    focus ((try dsimp only at hSw); first | (go_simp; done) | (go_simp; with_reducible rfl))
    try simp only [Act.put, List.setIfInBounds_toArray, List.set_cons_zero, List.set_cons_succ]
    refine wpAnyH_take (i := 31) (v := ?_) (by simp only [List.getElem?_toArray, List.getElem?_cons_succ, List.getElem?_cons_zero]; exact rfl) (by kernel_rfl) (by kernel_rfl) (by kernel_rfl) (by intro _ _ _ h; exact h) (Or.inl ⟨by rfl, fun W hSw => ?_⟩) hHeld ?_
    rotate_left
    focus ((try dsimp only at hSw); first | (go_simp; done) | (go_simp; with_reducible rfl))
    try simp only [Act.put, List.setIfInBounds_toArray, List.set_cons_zero, List.set_cons_succ]
    refine wpAnyH_ready (rs := [32]) (by kernel_rfl) (by simp) (AllReadyH.cons (by simp only [List.getElem?_toArray, List.getElem?_cons_succ, List.getElem?_cons_zero]; exact rfl) (fun K hK => ?_) AllReadyH.nil)
    rw [if_pos (by rfl)]
    go_simp
    refine (KL.out _).mono ?_; rintro e wl ⟨rfl, rfl⟩; go_wp2_with fail
    refine hK.out _ _ (hHeld) (fun hHeld => ?_)
    clear hK K
    try simp only [Act.put, List.setIfInBounds_toArray, List.set_cons_zero, List.set_cons_succ]
    refine wpAnyH_take (i := 33) (v := ?_) (by simp only [List.getElem?_toArray, List.getElem?_cons_succ, List.getElem?_cons_zero]; exact rfl) (by kernel_rfl) (by kernel_rfl) (by kernel_rfl) (by intro _ _ _ h; exact h) (Or.inl ⟨by rfl, fun W hSw => ?_⟩) hHeld ?_
    rotate_left
    focus ((try dsimp only at hSw); first | (go_simp; done) | (go_simp; with_reducible rfl))
    try simp only [Act.put, List.setIfInBounds_toArray, List.set_cons_zero, List.set_cons_succ]
    refine wpAnyH_take (i := 34) (v := ?_) (by simp only [List.getElem?_toArray, List.getElem?_cons_succ, List.getElem?_cons_zero]; exact rfl) (by kernel_rfl) (by kernel_rfl) (by kernel_rfl) (by intro _ _ _ h; exact h) (Or.inl ⟨by rfl, fun W hSw => ?_⟩) hHeld ?_
    rotate_left
    focus ((try dsimp only at hSw); first | (go_simp; done) | (go_simp; with_reducible rfl))
    try simp only [Act.put, List.setIfInBounds_toArray, List.set_cons_zero, List.set_cons_succ]
    refine wpAnyH_take (i := 35) (v := ?_) (by simp only [List.getElem?_toArray, List.getElem?_cons_succ, List.getElem?_cons_zero]; exact rfl) (by kernel_rfl) (by kernel_rfl) (by kernel_rfl) (by intro _ _ _ h; exact h) (Or.inl ⟨by rfl, fun W hSw => ?_⟩) hHeld ?_
    rotate_left
    focus ((try dsimp only at hSw); first | (go_simp; done) | (go_simp; with_reducible rfl))
    try simp only [Act.put, List.setIfInBounds_toArray, List.set_cons_zero, List.set_cons_succ]
    refine wpAnyH_take (i := 36) (v := ?_) (by simp only [List.getElem?_toArray, List.getElem?_cons_succ, List.getElem?_cons_zero]; exact rfl) (by kernel_rfl) (by kernel_rfl) (by kernel_rfl) (by intro _ _ _ h; exact h) (Or.inl ⟨by rfl, fun W hSw => ?_⟩) hHeld ?_
    rotate_left
    focus ((try dsimp only at hSw); first | (go_simp; done) | (go_simp; with_reducible rfl))
    try simp only [Act.put, List.setIfInBounds_toArray, List.set_cons_zero, List.set_cons_succ]
    refine wpAnyH_take (i := 37) (v := ?_) (by simp only [List.getElem?_toArray, List.getElem?_cons_succ, List.getElem?_cons_zero]; exact rfl) (by kernel_rfl) (by kernel_rfl) (by kernel_rfl) (by intro _ _ _ h; exact h) (Or.inl ⟨by rfl, fun W hSw => ?_⟩) hHeld ?_
    rotate_left
    focus ((try dsimp only at hSw); first | (go_simp; done) | (go_simp; with_reducible rfl))
    try simp only [Act.put, List.setIfInBounds_toArray, List.set_cons_zero, List.set_cons_succ]
    refine wpAnyH_take (i := 38) (v := ?_) (by simp only [List.getElem?_toArray, List.getElem?_cons_succ, List.getElem?_cons_zero]; exact rfl) (by kernel_rfl) (by kernel_rfl) (by kernel_rfl) (by intro _ _ _ h; exact h) (Or.inl ⟨by rfl, fun W hSw => ?_⟩) hHeld ?_
    rotate_left
    focus ((try dsimp only at hSw); first | (go_simp; done) | (go_simp; with_reducible rfl))
    try simp only [Act.put, List.setIfInBounds_toArray, List.set_cons_zero, List.set_cons_succ]
    refine wpAnyH_take (i := 39) (v := ?_) (by simp only [List.getElem?_toArray, List.getElem?_cons_succ, List.getElem?_cons_zero]; exact rfl) (by kernel_rfl) (by kernel_rfl) (by kernel_rfl) (by intro _ _ _ h; exact h) (Or.inl ⟨by rfl, fun W hSw => ?_⟩) hHeld ?_
    rotate_left
    focus ((try dsimp only at hSw); first | (go_simp; done) | (go_simp; with_reducible rfl))
    try simp only [Act.put, List.setIfInBounds_toArray, List.set_cons_zero, List.set_cons_succ]
    refine wpAnyH_take (i := 40) (v := ?_) (by simp only [List.getElem?_toArray, List.getElem?_cons_succ, List.getElem?_cons_zero]; exact rfl) (by kernel_rfl) (by kernel_rfl) (by kernel_rfl) (by intro _ _ _ h; exact h) (Or.inl ⟨by rfl, fun W hSw => ?_⟩) hHeld ?_
    rotate_left
    focus ((try dsimp only at hSw); first | (go_simp; done) | (go_simp; with_reducible rfl))
    try simp only [Act.put, List.setIfInBounds_toArray, List.set_cons_zero, List.set_cons_succ]
    refine wpAnyH_take (i := 41) (v := ?_) (by simp only [List.getElem?_toArray, List.getElem?_cons_succ, List.getElem?_cons_zero]; exact rfl) (by kernel_rfl) (by kernel_rfl) (by kernel_rfl) (by intro _ _ _ h; exact h) (Or.inl ⟨by rfl, fun W hSw => ?_⟩) hHeld ?_
    rotate_left
    focus ((try dsimp only at hSw); first | (go_simp; done) | (go_simp; with_reducible rfl))
    try simp only [Act.put, List.setIfInBounds_toArray, List.set_cons_zero, List.set_cons_succ]
    refine wpAnyH_take (i := 42) (v := ?_) (by simp only [List.getElem?_toArray, List.getElem?_cons_succ, List.getElem?_cons_zero]; exact rfl) (by kernel_rfl) (by kernel_rfl) (by kernel_rfl) (by intro _ _ _ h; exact h) (Or.inl ⟨by rfl, fun W hSw => ?_⟩) hHeld ?_
    rotate_left
    focus ((try dsimp only at hSw); first | (go_simp; done) | (go_simp; with_reducible rfl))
    try simp only [Act.put, List.setIfInBounds_toArray, List.set_cons_zero, List.set_cons_succ]
    refine wpAnyH_take (i := 43) (v := ?_) (by simp only [List.getElem?_toArray, List.getElem?_cons_succ, List.getElem?_cons_zero]; exact rfl) (by kernel_rfl) (by kernel_rfl) (by kernel_rfl) (by intro _ _ _ h; exact h) (Or.inl ⟨by rfl, fun W hSw => ?_⟩) hHeld ?_
    rotate_left
    focus ((try dsimp only at hSw); first | (go_simp; done) | (go_simp; with_reducible rfl))
    try simp only [Act.put, List.setIfInBounds_toArray, List.set_cons_zero, List.set_cons_succ]
    refine wpAnyH_take (i := 44) (v := ?_) (by simp only [List.getElem?_toArray, List.getElem?_cons_succ, List.getElem?_cons_zero]; exact rfl) (by kernel_rfl) (by kernel_rfl) (by kernel_rfl) (by intro _ _ _ h; exact h) (Or.inl ⟨by rfl, fun W hSw => ?_⟩) hHeld ?_
    rotate_left
    focus ((try dsimp only at hSw); first | (go_simp; done) | (go_simp; with_reducible rfl))
    try simp only [Act.put, List.setIfInBounds_toArray, List.set_cons_zero, List.set_cons_succ]
    refine wpAnyH_take (i := 45) (v := ?_) (by simp only [List.getElem?_toArray, List.getElem?_cons_succ, List.getElem?_cons_zero]; exact rfl) (by kernel_rfl) (by kernel_rfl) (by kernel_rfl) (by intro _ _ _ h; exact h) (Or.inl ⟨by rfl, fun W hSw => ?_⟩) hHeld ?_
    rotate_left
    focus ((try dsimp only at hSw); first | (go_simp; done) | (go_simp; with_reducible rfl))
    try simp only [Act.put, List.setIfInBounds_toArray, List.set_cons_zero, List.set_cons_succ]
    refine wpAnyH_take (i := 46) (v := ?_) (by simp only [List.getElem?_toArray, List.getElem?_cons_succ, List.getElem?_cons_zero]; exact rfl) (by kernel_rfl) (by kernel_rfl) (by kernel_rfl) (by intro _ _ _ h; exact h) (Or.inl ⟨by rfl, fun W hSw => ?_⟩) hHeld ?_
    rotate_left
    focus ((try dsimp only at hSw); first | (go_simp; done) | (go_simp; with_reducible rfl))
    try simp only [Act.put, List.setIfInBounds_toArray, List.set_cons_zero, List.set_cons_succ]
    refine wpAnyH_take (i := 47) (v := ?_) (by simp only [List.getElem?_toArray, List.getElem?_cons_succ, List.getElem?_cons_zero]; exact rfl) (by kernel_rfl) (by kernel_rfl) (by kernel_rfl) (by intro _ _ _ h; exact h) (Or.inl ⟨by rfl, fun W hSw => ?_⟩) hHeld ?_
    rotate_left
    focus ((try dsimp only at hSw); first | (go_simp; done) | (go_simp; with_reducible rfl))
    try simp only [Act.put, List.setIfInBounds_toArray, List.set_cons_zero, List.set_cons_succ]
    refine wpAnyH_take (i := 48) (v := ?_) (by simp only [List.getElem?_toArray, List.getElem?_cons_succ, List.getElem?_cons_zero]; exact rfl) (by kernel_rfl) (by kernel_rfl) (by kernel_rfl) (by intro _ _ _ h; exact h) (Or.inl ⟨by rfl, fun W hSw => ?_⟩) hHeld ?_
    rotate_left
    focus ((try dsimp only at hSw); first | (go_simp; done) | (go_simp; with_reducible rfl))
    try simp only [Act.put, List.setIfInBounds_toArray, List.set_cons_zero, List.set_cons_succ]
    refine wpAnyH_take (i := 49) (v := ?_) (by simp only [List.getElem?_toArray, List.getElem?_cons_succ, List.getElem?_cons_zero]; exact rfl) (by kernel_rfl) (by kernel_rfl) (by kernel_rfl) (by intro _ _ _ h; exact h) (Or.inl ⟨by rfl, fun W hSw => ?_⟩) hHeld ?_
    rotate_left
    focus ((try dsimp only at hSw); first | (go_simp; done) | (go_simp; with_reducible rfl))
    try simp only [Act.put, List.setIfInBounds_toArray, List.set_cons_zero, List.set_cons_succ]
    refine wpAnyH_take (i := 50) (v := ?_) (by simp only [List.getElem?_toArray, List.getElem?_cons_succ, List.getElem?_cons_zero]; exact rfl) (by kernel_rfl) (by kernel_rfl) (by kernel_rfl) (by intro _ _ _ h; exact h) (Or.inl ⟨by rfl, fun W hSw => ?_⟩) hHeld ?_
    rotate_left
    focus ((try dsimp only at hSw); first | (go_simp; done) | (go_simp; with_reducible rfl))
    try simp only [Act.put, List.setIfInBounds_toArray, List.set_cons_zero, List.set_cons_succ]
    refine wpAnyH_take (i := 51) (v := ?_) (by simp only [List.getElem?_toArray, List.getElem?_cons_succ, List.getElem?_cons_zero]; exact rfl) (by kernel_rfl) (by kernel_rfl) (by kernel_rfl) (by intro _ _ _ h; exact h) (Or.inl ⟨by rfl, fun W hSw => ?_⟩) hHeld ?_
    rotate_left
    focus ((try dsimp only at hSw); first | (go_simp; done) | (go_simp; with_reducible rfl))
    try simp only [Act.put, List.setIfInBounds_toArray, List.set_cons_zero, List.set_cons_succ]
    refine wpAnyH_take (i := 52) (v := ?_) (by simp only [List.getElem?_toArray, List.getElem?_cons_succ, List.getElem?_cons_zero]; exact rfl) (by kernel_rfl) (by kernel_rfl) (by kernel_rfl) (by intro _ _ _ h; exact h) (Or.inl ⟨by rfl, fun W hSw => ?_⟩) hHeld ?_
    rotate_left
    focus ((try dsimp only at hSw); first | (go_simp; done) | (go_simp; with_reducible rfl))
    try simp only [Act.put, List.setIfInBounds_toArray, List.set_cons_zero, List.set_cons_succ]
    refine wpAnyH_take (i := 53) (v := ?_) (by simp only [List.getElem?_toArray, List.getElem?_cons_succ, List.getElem?_cons_zero]; exact rfl) (by kernel_rfl) (by kernel_rfl) (by kernel_rfl) (by intro _ _ _ h; exact h) (Or.inl ⟨by rfl, fun W hSw => ?_⟩) hHeld ?_
    rotate_left
    focus ((try dsimp only at hSw); first | (go_simp; done) | (go_simp; with_reducible rfl))
    try simp only [Act.put, List.setIfInBounds_toArray, List.set_cons_zero, List.set_cons_succ]
    refine wpAnyH_take (i := 54) (v := ?_) (by simp only [List.getElem?_toArray, List.getElem?_cons_succ, List.getElem?_cons_zero]; exact rfl) (by kernel_rfl) (by kernel_rfl) (by kernel_rfl) (by intro _ _ _ h; exact h) (Or.inl ⟨by rfl, fun W hSw => ?_⟩) hHeld ?_
    rotate_left
    focus ((try dsimp only at hSw); first | (go_simp; done) | (go_simp; with_reducible rfl))
    try simp only [Act.put, List.setIfInBounds_toArray, List.set_cons_zero, List.set_cons_succ]
    refine wpAnyH_take (i := 55) (v := ?_) (by simp only [List.getElem?_toArray, List.getElem?_cons_succ, List.getElem?_cons_zero]; exact rfl) (by kernel_rfl) (by kernel_rfl) (by kernel_rfl) (by intro _ _ _ h; exact h) (Or.inl ⟨by rfl, fun W hSw => ?_⟩) hHeld ?_
    rotate_left
    focus ((try dsimp only at hSw); first | (go_simp; done) | (go_simp; with_reducible rfl))
    try simp only [Act.put, List.setIfInBounds_toArray, List.set_cons_zero, List.set_cons_succ]
    refine wpAnyH_done (by kernel_rfl) ?_ _
    clear hHeld
    go_wp2
    go_ret2
    exact ⟨by rw [← HR.out]; rfl, HBT.out.drewN 1⟩
  have t7 : decide (m.second > 59) = false := by simpa using q7
  have hRt : R = if (dahead Y + m.day - 1 + dmons Y (m.month.toNat - 1)) % 7 ≠ m.wd then (0, false) else ((dahead Y + m.day - 1 + dmons Y (m.month.toNat - 1)) * 86400 + m.hour * 3600 + m.minute * 60 + m.second, true) := by
    rw [← HR0.out]; unfold dtick; rw [HY.out, if_neg (by omega)]
  have HRT := Lib.hid hRt
  clear hRt
  go_wp2
  refine wp_region_held_drew (S := (fun w' => w'.cell? ⟨mb, 1, none⟩ = some (.int .i64 m.day) ∧ w'.cell? ⟨mb, 2, none⟩ = some (.int .i64 m.month) ∧ w'.cell? ⟨mb, 3, none⟩ = some (.int .i64 Y) ∧ w'.cell? ⟨mb, 4, none⟩ = some (.int .i64 m.hour) ∧ w'.cell? ⟨mb, 5, none⟩ = some (.int .i64 m.minute) ∧ w'.cell? ⟨mb, 6, none⟩ = some (.int .i64 m.second))) (by kernel_rfl) (⟨c1, c2, c3, c4, c5, c6⟩) (fun hHeld => ?_)
  refine wpAnyH_take (i := 0) (v := ?_) (by simp only [List.getElem?_toArray, List.getElem?_cons_zero]; exact rfl) (by kernel_rfl) (by kernel_rfl) (by kernel_rfl) (by intro _ _ _ h; exact h) (Or.inl ⟨by rfl, fun W hSw => ?_⟩) hHeld ?_
  rotate_left
  focus ((try dsimp only at hSw); first | (go_simp; done) | (go_simp; with_reducible rfl))
  try simp only [Act.put, List.setIfInBounds_toArray, List.set_cons_zero, List.set_cons_succ]
  refine wpAnyH_take (i := 1) (v := ?_) (by simp only [List.getElem?_toArray, List.getElem?_cons_succ, List.getElem?_cons_zero]; exact rfl) (by kernel_rfl) (by kernel_rfl) (by kernel_rfl) (by intro _ _ _ h; exact h) (Or.inl ⟨by rfl, fun W hSw => ?_⟩) hHeld ?_
  rotate_left
  focus ((try dsimp only at hSw); first | (go_simp; done) | (go_simp; with_reducible rfl))
  try simp only [Act.put, List.setIfInBounds_toArray, List.set_cons_zero, List.set_cons_succ]
  refine wpAnyH_take (i := 2) (v := ?_) (by simp only [List.getElem?_toArray, List.getElem?_cons_succ, List.getElem?_cons_zero]; exact rfl) (by kernel_rfl) (by kernel_rfl) (by kernel_rfl) (by intro _ _ _ h; exact h) (Or.inl ⟨by rfl, fun W hSw => ?_⟩) hHeld ?_
  rotate_left
  focus ((try dsimp only at hSw); first | (go_simp; done) | (go_simp; with_reducible rfl))
  try simp only [Act.put, List.setIfInBounds_toArray, List.set_cons_zero, List.set_cons_succ]
  refine wpAnyH_take (i := 3) (v := ?_) (by simp only [List.getElem?_toArray, List.getElem?_cons_succ, List.getElem?_cons_zero]; exact rfl) (by kernel_rfl) (by kernel_rfl) (by kernel_rfl) (by intro _ _ _ h; exact h) (Or.inl ⟨by rfl, fun W hSw => ?_⟩) hHeld ?_
  rotate_left
  focus ((try dsimp only at hSw); first | (go_simp; done) | (go_simp; with_reducible rfl))
  try simp only [Act.put, List.setIfInBounds_toArray, List.set_cons_zero, List.set_cons_succ]
  refine wpAnyH_take (i := 4) (v := ?_) (by simp only [List.getElem?_toArray, List.getElem?_cons_succ, List.getElem?_cons_zero]; exact rfl) (by kernel_rfl) (by kernel_rfl) (by kernel_rfl) (by intro _ _ _ h; exact h) (Or.inl ⟨by rfl, fun W hSw => ?_⟩) hHeld ?_
  rotate_left
  focus ((try dsimp only at hSw); first | (go_simp; done) | (go_simp; with_reducible rfl))
  try simp only [Act.put, List.setIfInBounds_toArray, List.set_cons_zero, List.set_cons_succ]
  refine wpAnyH_take (i := 5) (v := ?_) (by simp only [List.getElem?_toArray, List.getElem?_cons_succ, List.getElem?_cons_zero]; exact rfl) (by kernel_rfl) (by kernel_rfl) (by kernel_rfl) (by intro _ _ _ h; exact h) (Or.inl ⟨by rfl, fun W hSw => ?_⟩) hHeld ?_
  rotate_left
  focus ((try dsimp only at hSw); first | (go_simp; done) | (go_simp; with_reducible rfl))
  try simp only [Act.put, List.setIfInBounds_toArray, List.set_cons_zero, List.set_cons_succ]
  refine wpAnyH_take (i := 6) (v := ?_) (by simp only [List.getElem?_toArray, List.getElem?_cons_succ, List.getElem?_cons_zero]; exact rfl) (by kernel_rfl) (by kernel_rfl) (by kernel_rfl) (by intro _ _ _ h; exact h) (Or.inl ⟨by rfl, fun W hSw => ?_⟩) hHeld ?_
  rotate_left
  focus ((try dsimp only at hSw); first | (go_simp; done) | (go_simp; with_reducible rfl))
  try simp only [Act.put, List.setIfInBounds_toArray, List.set_cons_zero, List.set_cons_succ]
  refine wpAnyH_take (i := 7) (v := ?_) (by simp only [List.getElem?_toArray, List.getElem?_cons_succ, List.getElem?_cons_zero]; exact rfl) (by kernel_rfl) (by kernel_rfl) (by kernel_rfl) (by intro _ _ _ h; exact h) (Or.inl ⟨by rfl, fun W hSw => ?_⟩) hHeld ?_
  rotate_left
  focus ((try dsimp only at hSw); first | (go_simp; done) | (go_simp; with_reducible rfl))
  try simp only [Act.put, List.setIfInBounds_toArray, List.set_cons_zero, List.set_cons_succ]
  refine wpAnyH_take (i := 8) (v := ?_) (by simp only [List.getElem?_toArray, List.getElem?_cons_succ, List.getElem?_cons_zero]; exact rfl) (by kernel_rfl) (by kernel_rfl) (by kernel_rfl) (by intro _ _ _ h; exact h) (Or.inl ⟨by rfl, fun W hSw => ?_⟩) hHeld ?_
  rotate_left
  focus ((try dsimp only at hSw); first | (go_simp; done) | (go_simp; with_reducible rfl))
  try simp only [Act.put, List.setIfInBounds_toArray, List.set_cons_zero, List.set_cons_succ]
  refine wpAnyH_take (i := 9) (v := ?_) (by simp only [List.getElem?_toArray, List.getElem?_cons_succ, List.getElem?_cons_zero]; exact rfl) (by kernel_rfl) (by kernel_rfl) (by kernel_rfl) (by intro _ _ _ h; exact h) (Or.inl ⟨by rfl, fun W hSw => ?_⟩) hHeld ?_
  rotate_left
  focus ((try dsimp only at hSw); first | (go_simp; done) | (go_simp; with_reducible rfl))
  try simp only [Act.put, List.setIfInBounds_toArray, List.set_cons_zero, List.set_cons_succ]
  refine wpAnyH_take (i := 10) (v := ?_) (by simp only [List.getElem?_toArray, List.getElem?_cons_succ, List.getElem?_cons_zero]; exact rfl) (by kernel_rfl) (by kernel_rfl) (by kernel_rfl) (by intro _ _ _ h; exact h) (Or.inl ⟨by rfl, fun W hSw => ?_⟩) hHeld ?_
  rotate_left
  focus ((try dsimp only at hSw); first | (go_simp; done) | (go_simp; with_reducible rfl))
  try simp only [Act.put, List.setIfInBounds_toArray, List.set_cons_zero, List.set_cons_succ]
  refine wpAnyH_take (i := 11) (v := ?_) (by simp only [List.getElem?_toArray, List.getElem?_cons_succ, List.getElem?_cons_zero]; exact rfl) (by kernel_rfl) (by kernel_rfl) (by kernel_rfl) (by intro _ _ _ h; exact h) (Or.inl ⟨by rfl, fun W hSw => ?_⟩) hHeld ?_
  rotate_left
  focus ((try dsimp only at hSw); first | (go_simp; done) | (go_simp; with_reducible rfl))
  try simp only [Act.put, List.setIfInBounds_toArray, List.set_cons_zero, List.set_cons_succ]
  refine wpAnyH_take (i := 12) (v := ?_) (by simp only [List.getElem?_toArray, List.getElem?_cons_succ, List.getElem?_cons_zero]; exact rfl) (by kernel_rfl) (by kernel_rfl) (by kernel_rfl) (by intro _ _ _ h; exact h) (Or.inl ⟨by rfl, fun W hSw => ?_⟩) hHeld ?_
  rotate_left
  focus ((try dsimp only at hSw); first | (go_simp; done) | (go_simp; with_reducible rfl))
  try simp only [Act.put, List.setIfInBounds_toArray, List.set_cons_zero, List.set_cons_succ]
  refine wpAnyH_take (i := 13) (v := ?_) (by simp only [List.getElem?_toArray, List.getElem?_cons_succ, List.getElem?_cons_zero]; exact rfl) (by kernel_rfl) (by kernel_rfl) (by kernel_rfl) (by intro _ _ _ h; exact h) (Or.inl ⟨by rfl, fun W hSw => ?_⟩) hHeld ?_
  rotate_left
  focus ((try dsimp only at hSw); first | (go_simp; done) | (go_simp; with_reducible rfl))
  try simp only [Act.put, List.setIfInBounds_toArray, List.set_cons_zero, List.set_cons_succ]
  refine wpAnyH_take (i := 14) (v := ?_) (by simp only [List.getElem?_toArray, List.getElem?_cons_succ, List.getElem?_cons_zero]; exact rfl) (by kernel_rfl) (by kernel_rfl) (by kernel_rfl) (by intro _ _ _ h; exact h) (Or.inl ⟨by rfl, fun W hSw => ?_⟩) hHeld ?_
  rotate_left
  focus ((try dsimp only at hSw); first | (go_simp; done) | (go_simp; with_reducible rfl))
  try simp only [Act.put, List.setIfInBounds_toArray, List.set_cons_zero, List.set_cons_succ]
  refine wpAnyH_take (i := 15) (v := ?_) (by simp only [List.getElem?_toArray, List.getElem?_cons_succ, List.getElem?_cons_zero]; exact rfl) (by kernel_rfl) (by kernel_rfl) (by kernel_rfl) (by intro _ _ _ h; exact h) (Or.inl ⟨by rfl, fun W hSw => ?_⟩) hHeld ?_
  rotate_left
  focus ((try dsimp only at hSw); first | (go_simp; done) | (go_simp; with_reducible rfl))
  try simp only [Act.put, List.setIfInBounds_toArray, List.set_cons_zero, List.set_cons_succ]
  refine wpAnyH_take (i := 16) (v := ?_) (by simp only [List.getElem?_toArray, List.getElem?_cons_succ, List.getElem?_cons_zero]; exact rfl) (by kernel_rfl) (by kernel_rfl) (by kernel_rfl) (by intro _ _ _ h; exact h) (Or.inl ⟨by rfl, fun W hSw => ?_⟩) hHeld ?_
  rotate_left
  focus ((try dsimp only at hSw); first | (go_simp; done) | (go_simp; with_reducible rfl))
  try simp only [Act.put, List.setIfInBounds_toArray, List.set_cons_zero, List.set_cons_succ]
  refine wpAnyH_take (i := 17) (v := ?_) (by simp only [List.getElem?_toArray, List.getElem?_cons_succ, List.getElem?_cons_zero]; exact rfl) (by kernel_rfl) (by kernel_rfl) (by kernel_rfl) (by intro _ _ _ h; exact h) (Or.inl ⟨by rfl, fun W hSw => ?_⟩) hHeld ?_
  rotate_left
  focus ((try dsimp only at hSw); first | (go_simp; done) | (go_simp; with_reducible rfl))
  try simp only [Act.put, List.setIfInBounds_toArray, List.set_cons_zero, List.set_cons_succ]
  refine wpAnyH_take (i := 18) (v := ?_) (by simp only [List.getElem?_toArray, List.getElem?_cons_succ, List.getElem?_cons_zero]; exact rfl) (by kernel_rfl) (by kernel_rfl) (by kernel_rfl) (by intro _ _ _ h; exact h) (Or.inl ⟨by rfl, fun W hSw => ?_⟩) hHeld ?_
  rotate_left
  focus ((try dsimp only at hSw); first | (go_simp; done) | (go_simp; with_reducible rfl))
  try simp only [Act.put, List.setIfInBounds_toArray, List.set_cons_zero, List.set_cons_succ]
  refine wpAnyH_take (i := 19) (v := ?_) (by simp only [List.getElem?_toArray, List.getElem?_cons_succ, List.getElem?_cons_zero]; exact rfl) (by kernel_rfl) (by kernel_rfl) (by kernel_rfl) (by intro _ _ _ h; exact h) (Or.inl ⟨by rfl, fun W hSw => ?_⟩) hHeld ?_
  rotate_left
  focus ((try dsimp only at hSw); first | (go_simp; done) | (go_simp; with_reducible rfl))
  try simp only [Act.put, List.setIfInBounds_toArray, List.set_cons_zero, List.set_cons_succ]
  refine wpAnyH_take (i := 20) (v := ?_) (by simp only [List.getElem?_toArray, List.getElem?_cons_succ, List.getElem?_cons_zero]; exact rfl) (by kernel_rfl) (by kernel_rfl) (by kernel_rfl) (by intro _ _ _ h; exact h) (Or.inl ⟨by rfl, fun W hSw => ?_⟩) hHeld ?_
  rotate_left
  focus ((try dsimp only at hSw); first | (go_simp; done) | (go_simp; with_reducible rfl))
  try simp only [Act.put, List.setIfInBounds_toArray, List.set_cons_zero, List.set_cons_succ]
  refine wpAnyH_take (i := 21) (v := ?_) (by simp only [List.getElem?_toArray, List.getElem?_cons_succ, List.getElem?_cons_zero]; exact rfl) (by kernel_rfl) (by kernel_rfl) (by kernel_rfl) (by intro _ _ _ h; exact h) (Or.inl ⟨by rfl, fun W hSw => ?_⟩) hHeld ?_
  rotate_left
  focus ((try dsimp only at hSw); first | (go_simp; done) | (go_simp; with_reducible rfl))
  try simp only [Act.put, List.setIfInBounds_toArray, List.set_cons_zero, List.set_cons_succ]
  refine wpAnyH_take (i := 22) (v := ?_) (by simp only [List.getElem?_toArray, List.getElem?_cons_succ, List.getElem?_cons_zero]; exact rfl) (by kernel_rfl) (by kernel_rfl) (by kernel_rfl) (by intro _ _ _ h; exact h) (Or.inl ⟨by rfl, fun W hSw => ?_⟩) hHeld ?_
  rotate_left
  focus ((try dsimp only at hSw); first | (go_simp; done) | (go_simp; with_reducible rfl))
  try simp only [Act.put, List.setIfInBounds_toArray, List.set_cons_zero, List.set_cons_succ]
  refine wpAnyH_take (i := 23) (v := ?_) (by simp only [List.getElem?_toArray, List.getElem?_cons_succ, List.getElem?_cons_zero]; exact rfl) (by kernel_rfl) (by kernel_rfl) (by kernel_rfl) (by intro _ _ _ h; exact h) (Or.inl ⟨by rfl, fun W hSw => ?_⟩) hHeld ?_
  rotate_left
  focus ((try dsimp only at hSw); first | (go_simp; done) | (go_simp; with_reducible rfl))
  try simp only [Act.put, List.setIfInBounds_toArray, List.set_cons_zero, List.set_cons_succ]
  refine wpAnyH_take (i := 24) (v := ?_) (by simp only [List.getElem?_toArray, List.getElem?_cons_succ, List.getElem?_cons_zero]; exact rfl) (by kernel_rfl) (by kernel_rfl) (by kernel_rfl) (by intro _ _ _ h; exact h) (Or.inl ⟨by rfl, fun W hSw => ?_⟩) hHeld ?_
  rotate_left
  focus ((try dsimp only at hSw); first | (go_simp; done) | (go_simp; with_reducible rfl))
  try simp only [Act.put, List.setIfInBounds_toArray, List.set_cons_zero, List.set_cons_succ]
  refine wpAnyH_take (i := 25) (v := ?_) (by simp only [List.getElem?_toArray, List.getElem?_cons_succ, List.getElem?_cons_zero]; exact rfl) (by kernel_rfl) (by kernel_rfl) (by kernel_rfl) (by intro _ _ _ h; exact h) (Or.inl ⟨by rfl, fun W hSw => ?_⟩) hHeld ?_
  rotate_left
  focus ((try dsimp only at hSw); first | (go_simp; done) | (go_simp; with_reducible rfl))
  try simp only [Act.put, List.setIfInBounds_toArray, List.set_cons_zero, List.set_cons_succ]
  refine wpAnyH_take (i := 26) (v := ?_) (by simp only [List.getElem?_toArray, List.getElem?_cons_succ, List.getElem?_cons_zero]; exact rfl) (by kernel_rfl) (by kernel_rfl) (by kernel_rfl) (by intro _ _ _ h; exact h) (Or.inl ⟨by rfl, fun W hSw => ?_⟩) hHeld ?_
  rotate_left
  focus ((try dsimp only at hSw); first | (go_simp; done) | (go_simp; with_reducible rfl))
  try simp only [Act.put, List.setIfInBounds_toArray, List.set_cons_zero, List.set_cons_succ]
  refine wpAnyH_take (i := 27) (v := ?_) (by simp only [List.getElem?_toArray, List.getElem?_cons_succ, List.getElem?_cons_zero]; exact rfl) (by kernel_rfl) (by kernel_rfl) (by kernel_rfl) (by intro _ _ _ h; exact h) (Or.inl ⟨by rfl, fun W hSw => ?_⟩) hHeld ?_
  rotate_left
  focus ((try dsimp only at hSw); first | (go_simp; done) | (go_simp; with_reducible rfl))
  try simp only [Act.put, List.setIfInBounds_toArray, List.set_cons_zero, List.set_cons_succ]
  refine wpAnyH_take (i := 28) (v := ?_) (by simp only [List.getElem?_toArray, List.getElem?_cons_succ, List.getElem?_cons_zero]; exact rfl) (by kernel_rfl) (by kernel_rfl) (by kernel_rfl) (by intro _ _ _ h; exact h) (Or.inl ⟨by rfl, fun W hSw => ?_⟩) hHeld ?_
  rotate_left
  focus ((try dsimp only at hSw); first | (go_simp; done) | (go_simp; with_reducible rfl))
  try simp only [Act.put, List.setIfInBounds_toArray, List.set_cons_zero, List.set_cons_succ]
  refine wpAnyH_take (i := 29) (v := ?_) (by simp only [List.getElem?_toArray, List.getElem?_cons_succ, List.getElem?_cons_zero]; exact rfl) (by kernel_rfl) (by kernel_rfl) (by kernel_rfl) (by intro _ _ _ h; exact h) (Or.inl ⟨by rfl, fun W hSw => ?_⟩) hHeld ?_
  rotate_left
  focus ((try dsimp only at hSw); first | (go_simp; done) | (go_simp; with_reducible rfl))
  try simp only [Act.put, List.setIfInBounds_toArray, List.set_cons_zero, List.set_cons_succ]
  refine wpAnyH_take (i := 30) (v := ?_) (by simp only [List.getElem?_toArray, List.getElem?_cons_succ, List.getElem?_cons_zero]; exact rfl) (by kernel_rfl) (by kernel_rfl) (by kernel_rfl) (by intro _ _ _ h; exact h) (Or.inl ⟨by rfl, fun W hSw => ?_⟩) hHeld ?_
  rotate_left
  focus ((try dsimp only at hSw); first | (go_simp; done) | (go_simp; with_reducible rfl))
  try simp only [Act.put, List.setIfInBounds_toArray, List.set_cons_zero, List.set_cons_succ]
  refine wpAnyH_take (i := 31) (v := ?_) (by simp only [List.getElem?_toArray, List.getElem?_cons_succ, List.getElem?_cons_zero]; exact rfl) (by kernel_rfl) (by kernel_rfl) (by kernel_rfl) (by intro _ _ _ h; exact h) (Or.inl ⟨by rfl, fun W hSw => ?_⟩) hHeld ?_
  rotate_left
  focus ((try dsimp only at hSw); first | (go_simp; done) | (go_simp; with_reducible rfl))
  try simp only [Act.put, List.setIfInBounds_toArray, List.set_cons_zero, List.set_cons_succ]
  refine wpAnyH_ready (rs := [32]) (by kernel_rfl) (by simp) (AllReadyH.cons (by simp only [List.getElem?_toArray, List.getElem?_cons_succ, List.getElem?_cons_zero]; exact rfl) (fun K hK => ?_) AllReadyH.nil)
  rw [if_pos (by rfl)]
  go_simp
  refine (KL.out _).mono ?_; rintro e wl ⟨rfl, rfl⟩; go_wp2_with fail
  refine hK.out _ _ (hHeld) (fun hHeld => ?_)
  clear hK K
  try simp only [Act.put, List.setIfInBounds_toArray, List.set_cons_zero, List.set_cons_succ]
  refine wpAnyH_take (i := 33) (v := ?_) (by simp only [List.getElem?_toArray, List.getElem?_cons_succ, List.getElem?_cons_zero]; exact rfl) (by kernel_rfl) (by kernel_rfl) (by kernel_rfl) (by intro _ _ _ h; exact h) (Or.inl ⟨by rfl, fun W hSw => ?_⟩) hHeld ?_
  rotate_left
  focus ((try dsimp only at hSw); first | (go_simp; done) | (go_simp; with_reducible rfl))
  try simp only [Act.put, List.setIfInBounds_toArray, List.set_cons_zero, List.set_cons_succ]
  refine wpAnyH_take (i := 34) (v := ?_) (by simp only [List.getElem?_toArray, List.getElem?_cons_succ, List.getElem?_cons_zero]; exact rfl) (by kernel_rfl) (by kernel_rfl) (by kernel_rfl) (by intro _ _ _ h; exact h) (Or.inl ⟨by rfl, fun W hSw => ?_⟩) hHeld ?_
  rotate_left
  focus ((try dsimp only at hSw); first | (go_simp; done) | (go_simp; with_reducible rfl))
  try simp only [Act.put, List.setIfInBounds_toArray, List.set_cons_zero, List.set_cons_succ]
  refine wpAnyH_take (i := 35) (v := ?_) (by simp only [List.getElem?_toArray, List.getElem?_cons_succ, List.getElem?_cons_zero]; exact rfl) (by kernel_rfl) (by kernel_rfl) (by kernel_rfl) (by intro _ _ _ h; exact h) (Or.inl ⟨by rfl, fun W hSw => ?_⟩) hHeld ?_
  rotate_left
  focus ((try dsimp only at hSw); first | (go_simp; done) | (go_simp; with_reducible rfl))
  try simp only [Act.put, List.setIfInBounds_toArray, List.set_cons_zero, List.set_cons_succ]
  refine wpAnyH_take (i := 36) (v := ?_) (by simp only [List.getElem?_toArray, List.getElem?_cons_succ, List.getElem?_cons_zero]; exact rfl) (by kernel_rfl) (by kernel_rfl) (by kernel_rfl) (by intro _ _ _ h; exact h) (Or.inl ⟨by rfl, fun W hSw => ?_⟩) hHeld ?_
  rotate_left
  focus ((try dsimp only at hSw); first | (go_simp; done) | (go_simp; with_reducible rfl))
  try simp only [Act.put, List.setIfInBounds_toArray, List.set_cons_zero, List.set_cons_succ]
  refine wpAnyH_take (i := 37) (v := ?_) (by simp only [List.getElem?_toArray, List.getElem?_cons_succ, List.getElem?_cons_zero]; exact rfl) (by kernel_rfl) (by kernel_rfl) (by kernel_rfl) (by intro _ _ _ h; exact h) (Or.inl ⟨by rfl, fun W hSw => ?_⟩) hHeld ?_
  rotate_left
  focus ((try dsimp only at hSw); first | (go_simp; done) | (go_simp; with_reducible rfl))
  try simp only [Act.put, List.setIfInBounds_toArray, List.set_cons_zero, List.set_cons_succ]
  refine wpAnyH_take (i := 38) (v := ?_) (by simp only [List.getElem?_toArray, List.getElem?_cons_succ, List.getElem?_cons_zero]; exact rfl) (by kernel_rfl) (by kernel_rfl) (by kernel_rfl) (by intro _ _ _ h; exact h) (Or.inl ⟨by rfl, fun W hSw => ?_⟩) hHeld ?_
  rotate_left
  focus ((try dsimp only at hSw); first | (go_simp; done) | (go_simp; with_reducible rfl))
  try simp only [Act.put, List.setIfInBounds_toArray, List.set_cons_zero, List.set_cons_succ]
  refine wpAnyH_take (i := 39) (v := ?_) (by simp only [List.getElem?_toArray, List.getElem?_cons_succ, List.getElem?_cons_zero]; exact rfl) (by kernel_rfl) (by kernel_rfl) (by kernel_rfl) (by intro _ _ _ h; exact h) (Or.inl ⟨by rfl, fun W hSw => ?_⟩) hHeld ?_
  rotate_left
  focus ((try dsimp only at hSw); first | (go_simp; done) | (go_simp; with_reducible rfl))
  try simp only [Act.put, List.setIfInBounds_toArray, List.set_cons_zero, List.set_cons_succ]
  refine wpAnyH_take (i := 40) (v := ?_) (by simp only [List.getElem?_toArray, List.getElem?_cons_succ, List.getElem?_cons_zero]; exact rfl) (by kernel_rfl) (by kernel_rfl) (by kernel_rfl) (by intro _ _ _ h; exact h) (Or.inl ⟨by rfl, fun W hSw => ?_⟩) hHeld ?_
  rotate_left
  focus ((try dsimp only at hSw); first | (go_simp; done) | (go_simp; with_reducible rfl))
  try simp only [Act.put, List.setIfInBounds_toArray, List.set_cons_zero, List.set_cons_succ]
  refine wpAnyH_take (i := 41) (v := ?_) (by simp only [List.getElem?_toArray, List.getElem?_cons_succ, List.getElem?_cons_zero]; exact rfl) (by kernel_rfl) (by kernel_rfl) (by kernel_rfl) (by intro _ _ _ h; exact h) (Or.inl ⟨by rfl, fun W hSw => ?_⟩) hHeld ?_
  rotate_left
  focus ((try dsimp only at hSw); first | (go_simp; done) | (go_simp; with_reducible rfl))
  try simp only [Act.put, List.setIfInBounds_toArray, List.set_cons_zero, List.set_cons_succ]
  refine wpAnyH_take (i := 42) (v := ?_) (by simp only [List.getElem?_toArray, List.getElem?_cons_succ, List.getElem?_cons_zero]; exact rfl) (by kernel_rfl) (by kernel_rfl) (by kernel_rfl) (by intro _ _ _ h; exact h) (Or.inl ⟨by rfl, fun W hSw => ?_⟩) hHeld ?_
  rotate_left
  focus ((try dsimp only at hSw); first | (go_simp; done) | (go_simp; with_reducible rfl))
  try simp only [Act.put, List.setIfInBounds_toArray, List.set_cons_zero, List.set_cons_succ]
  refine wpAnyH_take (i := 43) (v := ?_) (by simp only [List.getElem?_toArray, List.getElem?_cons_succ, List.getElem?_cons_zero]; exact rfl) (by kernel_rfl) (by kernel_rfl) (by kernel_rfl) (by intro _ _ _ h; exact h) (Or.inl ⟨by rfl, fun W hSw => ?_⟩) hHeld ?_
  rotate_left
  focus ((try dsimp only at hSw); first | (go_simp; done) | (go_simp; with_reducible rfl))
  try simp only [Act.put, List.setIfInBounds_toArray, List.set_cons_zero, List.set_cons_succ]
  refine wpAnyH_take (i := 44) (v := ?_) (by simp only [List.getElem?_toArray, List.getElem?_cons_succ, List.getElem?_cons_zero]; exact rfl) (by kernel_rfl) (by kernel_rfl) (by kernel_rfl) (by intro _ _ _ h; exact h) (Or.inl ⟨by rfl, fun W hSw => ?_⟩) hHeld ?_
  rotate_left
  focus ((try dsimp only at hSw); first | (go_simp; done) | (go_simp; with_reducible rfl))
  try simp only [Act.put, List.setIfInBounds_toArray, List.set_cons_zero, List.set_cons_succ]
  refine wpAnyH_take (i := 45) (v := ?_) (by simp only [List.getElem?_toArray, List.getElem?_cons_succ, List.getElem?_cons_zero]; exact rfl) (by kernel_rfl) (by kernel_rfl) (by kernel_rfl) (by intro _ _ _ h; exact h) (Or.inl ⟨by rfl, fun W hSw => ?_⟩) hHeld ?_
  rotate_left
  focus ((try dsimp only at hSw); first | (go_simp; done) | (go_simp; with_reducible rfl))
  try simp only [Act.put, List.setIfInBounds_toArray, List.set_cons_zero, List.set_cons_succ]
  refine wpAnyH_take (i := 46) (v := ?_) (by simp only [List.getElem?_toArray, List.getElem?_cons_succ, List.getElem?_cons_zero]; exact rfl) (by kernel_rfl) (by kernel_rfl) (by kernel_rfl) (by intro _ _ _ h; exact h) (Or.inl ⟨by rfl, fun W hSw => ?_⟩) hHeld ?_
  rotate_left
  focus ((try dsimp only at hSw); first | (go_simp; done) | (go_simp; with_reducible rfl))
  try simp only [Act.put, List.setIfInBounds_toArray, List.set_cons_zero, List.set_cons_succ]
  refine wpAnyH_take (i := 47) (v := ?_) (by simp only [List.getElem?_toArray, List.getElem?_cons_succ, List.getElem?_cons_zero]; exact rfl) (by kernel_rfl) (by kernel_rfl) (by kernel_rfl) (by intro _ _ _ h; exact h) (Or.inl ⟨by rfl, fun W hSw => ?_⟩) hHeld ?_
  rotate_left
  focus ((try dsimp only at hSw); first | (go_simp; done) | (go_simp; with_reducible rfl))
  try simp only [Act.put, List.setIfInBounds_toArray, List.set_cons_zero, List.set_cons_succ]
  refine wpAnyH_take (i := 48) (v := ?_) (by simp only [List.getElem?_toArray, List.getElem?_cons_succ, List.getElem?_cons_zero]; exact rfl) (by kernel_rfl) (by kernel_rfl) (by kernel_rfl) (by intro _ _ _ h; exact h) (Or.inl ⟨by rfl, fun W hSw => ?_⟩) hHeld ?_
  rotate_left
  focus ((try dsimp only at hSw); first | (go_simp; done) | (go_simp; with_reducible rfl))
  try simp only [Act.put, List.setIfInBounds_toArray, List.set_cons_zero, List.set_cons_succ]
  refine wpAnyH_take (i := 49) (v := ?_) (by simp only [List.getElem?_toArray, List.getElem?_cons_succ, List.getElem?_cons_zero]; exact rfl) (by kernel_rfl) (by kernel_rfl) (by kernel_rfl) (by intro _ _ _ h; exact h) (Or.inl ⟨by rfl, fun W hSw => ?_⟩) hHeld ?_
  rotate_left
  focus ((try dsimp only at hSw); first | (go_simp; done) | (go_simp; with_reducible rfl))
  try simp only [Act.put, List.setIfInBounds_toArray, List.set_cons_zero, List.set_cons_succ]
  refine wpAnyH_take (i := 50) (v := ?_) (by simp only [List.getElem?_toArray, List.getElem?_cons_succ, List.getElem?_cons_zero]; exact rfl) (by kernel_rfl) (by kernel_rfl) (by kernel_rfl) (by intro _ _ _ h; exact h) (Or.inl ⟨by rfl, fun W hSw => ?_⟩) hHeld ?_
  rotate_left
  focus ((try dsimp only at hSw); first | (go_simp; done) | (go_simp; with_reducible rfl))
  try simp only [Act.put, List.setIfInBounds_toArray, List.set_cons_zero, List.set_cons_succ]
  refine wpAnyH_take (i := 51) (v := ?_) (by simp only [List.getElem?_toArray, List.getElem?_cons_succ, List.getElem?_cons_zero]; exact rfl) (by kernel_rfl) (by kernel_rfl) (by kernel_rfl) (by intro _ _ _ h; exact h) (Or.inl ⟨by rfl, fun W hSw => ?_⟩) hHeld ?_
  rotate_left
  focus ((try dsimp only at hSw); first | (go_simp; done) | (go_simp; with_reducible rfl))
  try simp only [Act.put, List.setIfInBounds_toArray, List.set_cons_zero, List.set_cons_succ]
  refine wpAnyH_take (i := 52) (v := ?_) (by simp only [List.getElem?_toArray, List.getElem?_cons_succ, List.getElem?_cons_zero]; exact rfl) (by kernel_rfl) (by kernel_rfl) (by kernel_rfl) (by intro _ _ _ h; exact h) (Or.inl ⟨by rfl, fun W hSw => ?_⟩) hHeld ?_
  rotate_left
  focus ((try dsimp only at hSw); first | (go_simp; done) | (go_simp; with_reducible rfl))
  try simp only [Act.put, List.setIfInBounds_toArray, List.set_cons_zero, List.set_cons_succ]
  refine wpAnyH_take (i := 53) (v := ?_) (by simp only [List.getElem?_toArray, List.getElem?_cons_succ, List.getElem?_cons_zero]; exact rfl) (by kernel_rfl) (by kernel_rfl) (by kernel_rfl) (by intro _ _ _ h; exact h) (Or.inl ⟨by rfl, fun W hSw => ?_⟩) hHeld ?_
  rotate_left
  focus ((try dsimp only at hSw); first | (go_simp; done) | (go_simp; with_reducible rfl))
  try simp only [Act.put, List.setIfInBounds_toArray, List.set_cons_zero, List.set_cons_succ]
  refine wpAnyH_take (i := 54) (v := ?_) (by simp only [List.getElem?_toArray, List.getElem?_cons_succ, List.getElem?_cons_zero]; exact rfl) (by kernel_rfl) (by kernel_rfl) (by kernel_rfl) (by intro _ _ _ h; exact h) (Or.inl ⟨by rfl, fun W hSw => ?_⟩) hHeld ?_
  rotate_left
  focus ((try dsimp only at hSw); first | (go_simp; done) | (go_simp; with_reducible rfl))
  try simp only [Act.put, List.setIfInBounds_toArray, List.set_cons_zero, List.set_cons_succ]
  refine wpAnyH_take (i := 55) (v := ?_) (by simp only [List.getElem?_toArray, List.getElem?_cons_succ, List.getElem?_cons_zero]; exact rfl) (by kernel_rfl) (by kernel_rfl) (by kernel_rfl) (by intro _ _ _ h; exact h) (Or.inl ⟨by rfl, fun W hSw => ?_⟩) hHeld ?_
  rotate_left
  focus ((try dsimp only at hSw); first | (go_simp; done) | (go_simp; with_reducible rfl))
  try simp only [Act.put, List.setIfInBounds_toArray, List.set_cons_zero, List.set_cons_succ]
  refine wpAnyH_done (by kernel_rfl) ?_ _
  clear hHeld
  have ka := fun w' => dahead_any Y (by omega) w'
  have hab := dahead_ge Y (by omega)
  have KA := Lib.hid ka
  clear ka
  obtain ⟨AH, hAH⟩ : ∃ AH, dahead Y = AH := ⟨_, rfl⟩
  rw [hAH] at KA hab
  have HAH := Lib.hid hAH
  clear hAH
  have v1 : IntKind.i64.wrap (AH + m.day) = AH + m.day := by rw [IntKind.wrap_i64]; omega
  have v2 : IntKind.i64.wrap (AH + m.day - 1) = AH + m.day - 1 := by rw [IntKind.wrap_i64]; omega
  go_wp2_with fail
  refine wp_region_held_drew (S := (fun w' => w'.cell? ⟨mb, 0, none⟩ = some (.int .i64 m.wd) ∧ w'.cell? ⟨mb, 1, none⟩ = some (.int .i64 m.day) ∧ w'.cell? ⟨mb, 2, none⟩ = some (.int .i64 m.month) ∧ w'.cell? ⟨mb, 3, none⟩ = some (.int .i64 Y) ∧ w'.cell? ⟨mb, 4, none⟩ = some (.int .i64 m.hour) ∧ w'.cell? ⟨mb, 5, none⟩ = some (.int .i64 m.minute) ∧ w'.cell? ⟨mb, 6, none⟩ = some (.int .i64 m.second))) (by kernel_rfl) (⟨c0, c1, c2, c3, c4, c5, c6⟩) (fun hHeld => ?_)
  refine wpAnyH_take (i := 0) (v := ?_) (by simp only [List.getElem?_toArray, List.getElem?_cons_zero]; exact rfl) (by kernel_rfl) (by kernel_rfl) (by kernel_rfl) (by intro _ _ _ h; exact h) (Or.inl ⟨by rfl, fun W hSw => ?_⟩) hHeld ?_
  rotate_left
  focus ((try dsimp only at hSw); first | (go_simp; done) | (go_simp; with_reducible rfl))
  try simp only [Act.put, List.setIfInBounds_toArray, List.set_cons_zero, List.set_cons_succ]
  refine wpAnyH_take (i := 1) (v := ?_) (by simp only [List.getElem?_toArray, List.getElem?_cons_succ, List.getElem?_cons_zero]; exact rfl) (by kernel_rfl) (by kernel_rfl) (by kernel_rfl) (by intro _ _ _ h; exact h) (Or.inl ⟨by rfl, fun W hSw => ?_⟩) hHeld ?_
  rotate_left
  focus ((try dsimp only at hSw); first | (go_simp; done) | (go_simp; with_reducible rfl))
  try simp only [Act.put, List.setIfInBounds_toArray, List.set_cons_zero, List.set_cons_succ]
  refine wpAnyH_take (i := 2) (v := ?_) (by simp only [List.getElem?_toArray, List.getElem?_cons_succ, List.getElem?_cons_zero]; exact rfl) (by kernel_rfl) (by kernel_rfl) (by kernel_rfl) (by intro _ _ _ h; exact h) (Or.inl ⟨by rfl, fun W hSw => ?_⟩) hHeld ?_
  rotate_left
  focus ((try dsimp only at hSw); first | (go_simp; done) | (go_simp; with_reducible rfl))
  try simp only [Act.put, List.setIfInBounds_toArray, List.set_cons_zero, List.set_cons_succ]
  refine wpAnyH_take (i := 3) (v := ?_) (by simp only [List.getElem?_toArray, List.getElem?_cons_succ, List.getElem?_cons_zero]; exact rfl) (by kernel_rfl) (by kernel_rfl) (by kernel_rfl) (by intro _ _ _ h; exact h) (Or.inl ⟨by rfl, fun W hSw => ?_⟩) hHeld ?_
  rotate_left
  focus ((try dsimp only at hSw); first | (go_simp; done) | (go_simp; with_reducible rfl))
  try simp only [Act.put, List.setIfInBounds_toArray, List.set_cons_zero, List.set_cons_succ]
  refine wpAnyH_take (i := 5) (v := ?_) (by simp only [List.getElem?_toArray, List.getElem?_cons_succ, List.getElem?_cons_zero]; exact rfl) (by kernel_rfl) (by kernel_rfl) (by kernel_rfl) (by intro _ _ _ h; exact h) (Or.inl ⟨by rfl, fun W hSw => ?_⟩) hHeld ?_
  rotate_left
  focus ((try dsimp only at hSw); first | (go_simp; done) | (go_simp; with_reducible rfl))
  try simp only [Act.put, List.setIfInBounds_toArray, List.set_cons_zero, List.set_cons_succ]
  refine wpAnyH_take (i := 6) (v := ?_) (by simp only [List.getElem?_toArray, List.getElem?_cons_succ, List.getElem?_cons_zero]; exact rfl) (by kernel_rfl) (by kernel_rfl) (by kernel_rfl) (by intro _ _ _ h; exact h) (Or.inl ⟨by rfl, fun W hSw => ?_⟩) hHeld ?_
  rotate_left
  focus ((try dsimp only at hSw); first | (go_simp; done) | (go_simp; with_reducible rfl))
  try simp only [Act.put, List.setIfInBounds_toArray, List.set_cons_zero, List.set_cons_succ]
  refine wpAnyH_take (i := 7) (v := ?_) (by simp only [List.getElem?_toArray, List.getElem?_cons_succ, List.getElem?_cons_zero]; exact rfl) (by kernel_rfl) (by kernel_rfl) (by kernel_rfl) (by intro _ _ _ h; exact h) (Or.inl ⟨by rfl, fun W hSw => ?_⟩) hHeld ?_
  rotate_left
  focus ((try dsimp only at hSw); first | (go_simp; done) | (go_simp; with_reducible rfl))
  try simp only [Act.put, List.setIfInBounds_toArray, List.set_cons_zero, List.set_cons_succ]
  refine wpAnyH_take (i := 8) (v := ?_) (by simp only [List.getElem?_toArray, List.getElem?_cons_succ, List.getElem?_cons_zero]; exact rfl) (by kernel_rfl) (by kernel_rfl) (by kernel_rfl) (by intro _ _ _ h; exact h) (Or.inl ⟨by rfl, fun W hSw => ?_⟩) hHeld ?_
  rotate_left
  focus ((try dsimp only at hSw); first | (go_simp; done) | (go_simp; with_reducible rfl))
  try simp only [Act.put, List.setIfInBounds_toArray, List.set_cons_zero, List.set_cons_succ]
  refine wpAnyH_ready (rs := [4]) (by kernel_rfl) (by simp) (AllReadyH.cons (by simp only [List.getElem?_toArray, List.getElem?_cons_succ, List.getElem?_cons_zero]; exact rfl) (fun K hK => ?_) AllReadyH.nil)
  rw [if_pos (by rfl)]
  go_simp
  refine (KA.out _).mono ?_; rintro e wl ⟨rfl, rfl⟩; go_wp2_with fail
  refine hK.out _ _ (hHeld) (fun hHeld => ?_)
  clear hK K
  try simp only [Act.put, List.setIfInBounds_toArray, List.set_cons_zero, List.set_cons_succ]
  refine wpAnyH_take (i := 9) (v := ?_) (by simp only [List.getElem?_toArray, List.getElem?_cons_succ, List.getElem?_cons_zero]; exact rfl) (by kernel_rfl) (by kernel_rfl) (by kernel_rfl) (by intro _ _ _ h; exact h) (Or.inl ⟨by rfl, fun W hSw => ?_⟩) hHeld ?_
  rotate_left
  focus ((try dsimp only at hSw); first | (go_simp; done) | (go_simp; with_reducible rfl))
  try simp only [Act.put, List.setIfInBounds_toArray, List.set_cons_zero, List.set_cons_succ]
  refine wpAnyH_take (i := 10) (v := ?_) (by simp only [List.getElem?_toArray, List.getElem?_cons_succ, List.getElem?_cons_zero]; exact rfl) (by kernel_rfl) (by kernel_rfl) (by kernel_rfl) (by intro _ _ _ h; exact h) (Or.inl ⟨by rfl, fun W hSw => ?_⟩) hHeld ?_
  rotate_left
  focus ((try dsimp only at hSw); first | (go_simp; done) | (go_simp; with_reducible rfl))
  try simp only [Act.put, List.setIfInBounds_toArray, List.set_cons_zero, List.set_cons_succ]
  refine wpAnyH_take (i := 11) (v := ?_) (by simp only [List.getElem?_toArray, List.getElem?_cons_succ, List.getElem?_cons_zero]; exact rfl) (by kernel_rfl) (by kernel_rfl) (by kernel_rfl) (by intro _ _ _ h; exact h) (Or.inl ⟨by rfl, fun W hSw => ?_⟩) hHeld ?_
  rotate_left
  focus ((try dsimp only at hSw); first | (go_simp; done) | (go_simp; with_reducible rfl))
  try simp only [Act.put, List.setIfInBounds_toArray, List.set_cons_zero, List.set_cons_succ]
  refine wpAnyH_done (by kernel_rfl) ?_ _
  clear hHeld
  go_wp2_with fail
  go_loopw [9, 10] (fun d k wr => ∃ j : Nat, k = .int .i64 ((j : Int) + 1) ∧ j ≤ m.month.toNat - 1 ∧ d = .int .i64 (AH + m.day - 1 + dmons Y j) ∧ ∃ q, wr = WZ.drewN q) (fun _ k _ => 20 - (intD k).toNat)
  case atStart => exact ⟨0, rfl, Nat.zero_le _, by simp [dmons], 2, rfl⟩
  case round =>
    obtain ⟨j, rfl, hj, rfl, q, rfl⟩ := hrel
    have hdm := dmons_le Y j
    have hj12 : j ≤ 12 := by omega
    by_cases hjm : (j : Int) + 1 < m.month
    · have t8 : decide ((j : Int) + 1 < m.month) = true := by simpa using hjm
      have kj := dlong_any Y ((j : Int) + 1) hYb (WZ.drewN q)
      have hjl := dlong_le Y ((j : Int) + 1)
      have hdn : dmons Y (j + 1) = dmons Y j + dlong Y ((j : Int) + 1) := rfl
      have u1 : IntKind.i64.wrap (AH + m.day - 1 + dmons Y j + dlong Y ((j : Int) + 1)) = AH + m.day - 1 + dmons Y j + dlong Y ((j : Int) + 1) := by rw [IntKind.wrap_i64]; omega
      have u2 : IntKind.i64.wrap ((j : Int) + 1 + 1) = (j : Int) + 1 + 1 := by rw [IntKind.wrap_i64]; omega
      have KJ := Lib.hid kj; have HDN := Lib.hid hdn
      clear kj hdn
      go_wp2_with fail
      (with_reducible refine KJ.out.mono ?_)
      rintro e wl ⟨rfl, rfl⟩
      go_wp2
      go_roundw
      case rel => exact ⟨j + 1, rfl, by omega, by rw [HDN.out, ← Int.add_assoc], q, rfl⟩
      case measure => simp [intD]; omega
    · have t8 : decide ((j : Int) + 1 < m.month) = false := by simpa using hjm
      have hje : j = m.month.toNat - 1 := by omega
      obtain ⟨D, hD⟩ : ∃ D, AH + m.day - 1 + dmons Y j = D := ⟨_, rfl⟩
      have hDb : 0 ≤ D ∧ D ≤ 10000000 := by omega
      have hRD : R = if D % 7 ≠ m.wd then (0, false) else (D * 86400 + m.hour * 3600 + m.minute * 60 + m.second, true) := by
        rw [HRT.out, HAH.out, ← hje, hD]
      have em : D.tmod 7 = D % 7 := Int.tmod_eq_emod_of_nonneg hDb.1
      rw [hD]
      have HRD := Lib.hid hRD
      have HBE : Hid (ButB mb wy (WZ.drewN q)) := Lib.hid (HBT.out.drewN q)
      clear hje hRD hD hdm hj HRT
      by_cases hwd : D % 7 = m.wd
      · have hR2 : R = (D * 86400 + m.hour * 3600 + m.minute * 60 + m.second, true) := by rw [HRD.out, if_neg (by simpa using hwd)]
        have b1 : (D % 7 == m.wd) = true := by simpa using hwd
        have x1 : IntKind.i64.wrap (D * 86400) = D * 86400 := by rw [IntKind.wrap_i64]; omega
        have x2 : IntKind.i64.wrap (m.hour * 3600) = m.hour * 3600 := by rw [IntKind.wrap_i64]; omega
        have x3 : IntKind.i64.wrap (D * 86400 + m.hour * 3600) = D * 86400 + m.hour * 3600 := by rw [IntKind.wrap_i64]; omega
        have x4 : IntKind.i64.wrap (m.minute * 60) = m.minute * 60 := by rw [IntKind.wrap_i64]; omega
        have x5 : IntKind.i64.wrap (D * 86400 + m.hour * 3600 + m.minute * 60) = D * 86400 + m.hour * 3600 + m.minute * 60 := by rw [IntKind.wrap_i64]; omega
        have x6 : IntKind.i64.wrap (D * 86400 + m.hour * 3600 + m.minute * 60 + m.second) = D * 86400 + m.hour * 3600 + m.minute * 60 + m.second := by rw [IntKind.wrap_i64]; omega
        have HR2 := Lib.hid hR2
        clear hR2
        go_wp2
        go_region
        go_wp2
        go_ret2
        exact ⟨by rw [HR2.out]; rfl, HBE.out.drewN 1⟩
      · have hR2 : R = (0, false) := by rw [HRD.out, if_pos hwd]
        have b1 : (D % 7 == m.wd) = false := by simpa using hwd
        have HR2 := Lib.hid hR2
        clear hR2
        go_wp2
        go_ret2
        exact ⟨by rw [HR2.out]; rfl, HBE.out⟩
end Go.Proofs.YtedmiganmifepaaGreatDoor
/- Dates: all pieces; a text's letters one by one; what a date's pieces can be. -/
namespace Go.Proofs.YtedmiganmifepaaGreatDoor
open Go.RowKit
set_option maxRecDepth 100000

def dletters : List Nat := [119, 87, 68, 69, 109, 89, 121, 72, 73, 83, 44, 32, 58, 71, 77, 84, 45]
theorem dtake_any (c : Nat) (hc : c ∈ dletters) (mb : Nat) (m : Mom) (s : ByteArray) (w : World) (hE : DEnv w) (hm : MomAt mb m w) :
    Calls Tryz.prog 52 #[.pointer (some ⟨mb, 0, none⟩), .int .i32 c, .string s] w fun e w' => e = .returned (.tuple #[.string ⟨(dtake m c s.data.toList).2.1.toArray⟩, .bool (dtake m c s.data.toList).2.2]) ∧ ButB mb w w' ∧ MomAt mb (dtake m c s.data.toList).1 w' := by
  unfold dletters at hc
  simp only [List.mem_cons, List.not_mem_nil, or_false] at hc
  rcases hc with rfl | rfl | rfl | rfl | rfl | rfl | rfl | rfl | rfl | rfl | rfl | rfl | rfl | rfl | rfl | rfl | rfl
  · exact dtake119_any mb m s w hE hm
  · exact dtake87_any mb m s w hE hm
  · exact dtake68_any mb m s w hE hm
  · exact dtake69_any mb m s w hE hm
  · exact dtake109_any mb m s w hE hm
  · exact dtake89_any mb m s w hE hm
  · exact dtake121_any mb m s w hE hm
  · exact dtake72_any mb m s w hE hm
  · exact dtake73_any mb m s w hE hm
  · exact dtake83_any mb m s w hE hm
  · exact dtake44_any mb m s w hE hm
  · exact dtake32_any mb m s w hE hm
  · exact dtake58_any mb m s w hE hm
  · exact dtake71_any mb m s w hE hm
  · exact dtake77_any mb m s w hE hm
  · exact dtake84_any mb m s w hE hm
  · exact dtake45_any mb m s w hE hm
/-- The iterator of a text, wherever it lies. -/
def stepI (w : World) (ib : Nat) (s : ByteArray) (p : Nat) : World := { w with heap := w.heap.setIfInBounds ib (.stringIter s p) }
theorem run_next_at {P : Program} (w : World) (ib : Nat) (s : ByteArray) (pos : Nat) (ty : TypeId) (hi : w.heap[ib]? = some (.stringIter s pos)) (h : pos < s.size) (ha : (s[pos]'h).toNat < 128) :
    (Instr.next (.pointer (some ⟨ib, 0, none⟩)) true ty).run P w = .ok (.tuple #[.bool true, .int .i64 pos, .int .i32 (s[pos]'h).toNat]) (stepI w ib s (pos + 1)) := by
  simp only [Instr.next, getObj, setObj, Sem.run_bind, Sem.run, hi, Result.andThen, h, if_true, decode_ascii s pos h ha]
  have hl : ib < w.heap.size := by
    rcases Nat.lt_or_ge ib w.heap.size with h' | h'
    · exact h'
    · simp [Array.getElem?_eq_none h'] at hi
  simp [goInt, stepI]
theorem run_next_stop {P : Program} (w : World) (ib : Nat) (s : ByteArray) (pos : Nat) (ty : TypeId) (hi : w.heap[ib]? = some (.stringIter s pos)) (h : ¬ pos < s.size) :
    (Instr.next (.pointer (some ⟨ib, 0, none⟩)) true ty).run P w = .ok (.tuple #[.bool false]) w := by
  simp [Instr.next, getObj, Sem.run, hi, h]
theorem stepI_same {w : World} {ib p : Nat} {s : ByteArray} (h : ib < w.heap.size) : (stepI w ib s p).heap[ib]? = some (.stringIter s p) := by
  unfold stepI; simp [h]
theorem stepI_other {w : World} {ib p b : Nat} {s : ByteArray} (h : b ≠ ib) : (stepI w ib s p).heap[b]? = w.heap[b]? := by
  unfold stepI; simp [Array.getElem?_setIfInBounds]; intro e; exact absurd e.symm h
theorem stepI_but (w : World) (ib p : Nat) (s : ByteArray) : ButB ib w (stepI w ib s p) := ⟨rfl, rfl, rfl, by simp [stepI], fun _ _ hn => stepI_other hn⟩

theorem dnum4 (l : List UInt8) (h : l.all dg = true) (n : Nat) (hn : l.length ≤ n) (h4 : n = 1 ∨ n = 2 ∨ n = 4) : 0 ≤ dnum l 0 ∧ dnum l 0 ≤ 9999 ∧ (n ≤ 2 → dnum l 0 ≤ 99) := by
  have hb := dnum_le l h 0 (by omega)
  generalize hL : l.length = L at *
  have : L = 0 ∨ L = 1 ∨ L = 2 ∨ L = 3 ∨ L = 4 := by omega
  rcases this with rfl | rfl | rfl | rfl | rfl <;> simp at hb <;> omega
theorem dnumL_le (s : List UInt8) (n : Nat) (h4 : n = 1 ∨ n = 2 ∨ n = 4) : 0 ≤ (dnumL s n).1 ∧ (dnumL s n).1 ≤ 9999 ∧ (n ≤ 2 → (dnumL s n).1 ≤ 99) := by
  unfold dnumL
  cases decide (s.length < n)
  · cases hd : (s.take n).all dg
    · simp
    · simp only [cond_false, cond_true]
      exact dnum4 (s.take n) hd n (by rw [List.length_take]; omega) h4
  · simp
theorem dname_le (s : List UInt8) (n : Nat) : ∀ (ls : List (List UInt8)) (i : Nat), i + ls.length ≤ 7 → 0 ≤ (dname s n ls i).1 ∧ (dname s n ls i).1 ≤ 6
  | [], i, h => by simp [dname]
  | x :: r, i, h => by
    have ih := dname_le s n r (i + 1) (by rw [List.length_cons] at h; omega)
    rw [dname]
    cases Lib.hasPrefix s (bif decide (0 < n) then x.take n else x)
    · exact ih
    · simp only [cond_true]
      rw [List.length_cons] at h
      omega
theorem dtake_ok {m : Mom} (h : MomOk m) (c : Nat) (hc : c ∈ dletters) (s : List UInt8) (h2 : c = 89 → m.two = false) : MomOk (dtake m c s).1 ∧ (c ≠ 121 → (dtake m c s).1.two = m.two) := by
  have n1 := dnumL_le (s.drop 1) 1 (by omega)
  have n2 := dnumL_le s 2 (by omega)
  have n4 := dnumL_le s 4 (by omega)
  have d0 := dname_le s 0 ddays 0 (by decide)
  have d3 := dname_le s 3 ddays 0 (by decide)
  have hx := dindex_range dmonths (s.take 3)
  have hml : dmonths.length = 36 := rfl
  rw [hml] at hx
  obtain ⟨a1, a2, a3, a4, a5, a6, a7, a8⟩ := h
  unfold dletters at hc
  simp only [List.mem_cons, List.not_mem_nil, or_false] at hc
  unfold dtake
  rcases hc with rfl | rfl | rfl | rfl | rfl | rfl | rfl | rfl | rfl | rfl | rfl | rfl | rfl | rfl | rfl | rfl | rfl
  all_goals simp only [Nat.reduceEqDiff, if_true, if_false]
  · exact ⟨⟨by simp only; omega, a2, a3, a4, a5, a6, a7, a8⟩, fun _ => by first | rfl | trivial⟩
  · exact ⟨⟨by simp only; omega, a2, a3, a4, a5, a6, a7, a8⟩, fun _ => by first | rfl | trivial⟩
  · exact ⟨⟨a1, by simp only; omega, a3, a4, a5, a6, a7, a8⟩, fun _ => by first | rfl | trivial⟩
  · split
    · exact ⟨⟨a1, by simp only; omega, a3, a4, a5, a6, a7, a8⟩, fun _ => by first | rfl | trivial⟩
    · exact ⟨⟨a1, by simp only; omega, a3, a4, a5, a6, a7, a8⟩, fun _ => by first | rfl | trivial⟩
  · split
    · exact ⟨⟨a1, a2, a3, a4, a5, a6, a7, a8⟩, fun _ => by first | rfl | trivial⟩
    · exact ⟨⟨a1, a2, by simp only; omega, a4, a5, a6, a7, a8⟩, fun _ => by first | rfl | trivial⟩
  · exact ⟨⟨a1, a2, a3, by simp only; omega, a5, a6, a7, fun h => by rw [h2 rfl] at h; cases h⟩, fun _ => by first | rfl | trivial⟩
  · exact ⟨⟨a1, a2, a3, by simp only; omega, a5, a6, a7, fun _ => by simp only; omega⟩, fun h => by first | exact absurd rfl h | simp at h⟩
  · exact ⟨⟨a1, a2, a3, a4, by simp only; omega, a6, a7, a8⟩, fun _ => by first | rfl | trivial⟩
  · exact ⟨⟨a1, a2, a3, a4, a5, by simp only; omega, a7, a8⟩, fun _ => by first | rfl | trivial⟩
  · exact ⟨⟨a1, a2, a3, a4, a5, a6, by simp only; omega, a8⟩, fun _ => by first | rfl | trivial⟩
  all_goals
    split <;> exact ⟨⟨a1, a2, a3, a4, a5, a6, a7, a8⟩, fun _ => by first | rfl | trivial⟩
end Go.Proofs.YtedmiganmifepaaGreatDoor
/- Dates: the walk of date.Parse. -/
namespace Go.Proofs.YtedmiganmifepaaGreatDoor
open Go.RowKit
set_option maxRecDepth 100000

def dfs : List (List UInt8) := [dform0, dform1, dform2]
theorem dtick_any (mb : Nat) (m : Mom) (now : Int) (w : World) (hm : MomAt mb m w) (ho : MomOk m) :
    Calls Tryz.prog 53 #[.pointer (some ⟨mb, 0, none⟩), .int .i64 now] w (TickPost mb w (dtick m now)) := by
  cases h : m.two
  · exact dtick_one mb m now w hm ho h
  · exact dtick_two mb m now w hm ho h
/-- A form's letters. -/
def FormOk (f : List UInt8) : Prop := (∀ c ∈ f, c.toNat ∈ dletters) ∧ ((∃ c ∈ f, c.toNat = 89) → ∀ c ∈ f, c.toNat ≠ 121)
theorem dfs_ok : ∀ f ∈ dfs, FormOk f := by
  have h1 : (dfs.all fun f => (f.all fun c => dletters.contains c.toNat) && (!(f.any fun c => c.toNat == 89) || f.all fun c => c.toNat != 121)) = true := by decide +kernel
  intro f hf
  have h2 := List.all_eq_true.1 h1 f hf
  rw [Bool.and_eq_true] at h2
  refine ⟨fun c hc => by simpa using List.all_eq_true.1 h2.1 c hc, fun ⟨c, hc, h89⟩ c' hc' => ?_⟩
  have hany : (f.any fun c => c.toNat == 89) = true := List.any_eq_true.2 ⟨c, hc, by simpa using h89⟩
  rw [hany] at h2
  have h3 := h2.2
  simp only [Bool.not_true, Bool.false_or] at h3
  simpa using List.all_eq_true.1 h3 c' hc'
theorem dpieces_ok : ∀ (f : List UInt8) (m : Mom) (s : List UInt8) (m' : Mom) (r : List UInt8), (∀ c ∈ f, c.toNat ∈ dletters) → ((∃ c ∈ f, c.toNat = 89) → m.two = false ∧ ∀ c ∈ f, c.toNat ≠ 121) → MomOk m → dpieces f m s = some (m', r) → MomOk m'
  | [], m, s, m', r, _, _, h, e => by
    rw [dpieces] at e
    cases e
    exact h
  | c :: f, m, s, m', r, hl, hy, h, e => by
    rw [dpieces] at e
    have hk := dtake_ok h c.toNat (hl c (by simp)) s (fun h89 => (hy ⟨c, by simp, h89⟩).1)
    cases hs : (dtake m c.toNat s).2.2
    · rw [hs] at e; cases e
    · rw [hs] at e
      refine dpieces_ok f _ _ m' r (fun c' hc' => hl c' (by simp [hc'])) (fun ⟨c', hc', h89⟩ => ?_) hk.1 e
      have h2 := hy ⟨c', by simp [hc'], h89⟩
      have hne : c.toNat ≠ 121 := h2.2 c (by simp)
      exact ⟨(hk.2 hne).trans h2.1, fun c'' hc'' => h2.2 c'' (by simp [hc''])⟩
theorem mom0_ok : MomOk mom0 := ⟨by decide, by decide, by decide, by decide, by decide, by decide, by decide, by intro h; cases h⟩
theorem dforms_any (w : World) :
    Calls Tryz.prog 51 #[] w fun e w' => e = .returned (.slice (some ⟨w.heap.size, 0, none⟩) 3 3) ∧ Rd (some ⟨w.heap.size, 0, none⟩) 3 1 (strsV dfs) w' ∧ Below w.heap.size w w' := by
  go_enter Tryz.func51, Tryz.ntmps51
  go_wp2
  go_ret
  refine ⟨rfl, ⟨rfl, fun _ => ⟨_, 0, rfl, by simp, fun j u hu => ?_⟩⟩, (Below.refl _ w).alloc (Nat.le_refl _) _⟩
  rw [Nat.zero_add, World.cell?_alloc_mark]
  simpa [strsV, dfs, dform0, dform1, dform2] using hu
/-- Where a text's iterator stands. -/
def posI (w : World) (ib : Nat) : Nat := match w.heap[ib]? with
  | some (.stringIter _ p) => p
  | _ => 0
theorem posI_of {w : World} {ib p : Nat} {s : ByteArray} (h : w.heap[ib]? = some (.stringIter s p)) : posI w ib = p := by
  unfold posI; rw [h]
theorem dparse_none {s f : List UInt8} {now : Int} {r : List (List UInt8)} (h : dpieces f mom0 s = none) : dparse s now (f :: r) = dparse s now r := by
  rw [dparse, h]
theorem dparse_more {s f : List UInt8} {now : Int} {r : List (List UInt8)} {m : Mom} {c : UInt8} {t : List UInt8} (h : dpieces f mom0 s = some (m, c :: t)) : dparse s now (f :: r) = dparse s now r := by
  rw [dparse, h]
theorem dparse_end {s f : List UInt8} {now : Int} {r : List (List UInt8)} {m : Mom} (h : dpieces f mom0 s = some (m, [])) : dparse s now (f :: r) = if (dtick m now).2 = true then ((dtick m now).1, 0) else dparse s now r := by
  rw [dparse, h]
set_option maxHeartbeats 16000000 in
theorem dparse_any (s : ByteArray) (now : Int) (w : World) (hE : DEnv w) :
    Calls Tryz.prog 31 #[.string s, .int .i64 now] w fun e w' => e = .returned (.tuple #[.int .i64 (dateP s.data.toList now).1, .int .i64 (dateP s.data.toList now).2]) ∧ Below w.heap.size w w' := by
  obtain ⟨R, hR⟩ : ∃ R, dateP s.data.toList now = R := ⟨_, rfl⟩
  rw [hR]
  have hR0 : dparse s.data.toList now dfs = R := hR
  have hok := dfs_ok
  have hl3 : dfs.length = 3 := rfl
  have kf := dforms_any w
  obtain ⟨y, rfl⟩ : ∃ y : List UInt8, s = ⟨y.toArray⟩ := ⟨s.data.toList, (str_of s).symm⟩
  have ey : (⟨y.toArray⟩ : ByteArray).data.toList = y := by simp
  rw [ey] at hR0
  have HR0 := Lib.hid hR0; have HOK := Lib.hid hok; have HL3 := Lib.hid hl3; have KF := Lib.hid kf; have HE := Lib.hid hE
  clear hR hR0 hok hl3 kf hE ey
  generalize dfs = ls at *
  go_enter Tryz.func31, Tryz.ntmps31
  go_wp2_with fail
  go_step3
  go_wp2_with fail
  go_step3
  go_wp2_with fail
  (with_reducible refine KF.out.mono ?_)
  rintro e W1 ⟨rfl, hrd, hb1⟩
  have HE1 := Lib.hid (HE.out.below hb1)
  have HRD := Lib.hid hrd
  have hlow : w.heap.size < W1.heap.size := by
    obtain ⟨b, o, e, hl, _⟩ := hrd.2 (by decide)
    cases e; exact hl
  clear hrd KF
  go_wp2_with fail
  go_loopw [18] (fun i wr => ∃ k : Nat, k ≤ 3 ∧ i = .int .i64 k ∧ Below W1.heap.size W1 wr ∧ Hid (dparse y now (ls.drop k) = R)) (fun i _ => 3 - (intD i).toNat)
  case atStart => exact ⟨0, Nat.zero_le _, rfl, Below.refl _ _, HR0⟩
  case round =>
    obtain ⟨k, hk, rfl, hbr, HP⟩ := hrel
    by_cases hk3 : k < 3
    · have hkl : k < ls.length := by rw [HL3.out]; exact hk3
      obtain ⟨b', o', e, _, d0⟩ := (HRD.out.below hbr).str_at hkl
      cases e
      have hfo := HOK.out ls[k] (List.getElem_mem hkl)
      have hdr : ls.drop k = ls[k] :: ls.drop (k + 1) := List.drop_eq_getElem_cons hkl
      have hP := HP.out
      rw [hdr] at hP
      generalize ls[k] = f at *
      obtain ⟨fo, rfl⟩ : ∃ fo : ByteArray, f = fo.data.toList := ⟨⟨f.toArray⟩, by simp⟩
      rw [str_of, Nat.zero_add] at d0
      have HP2 := Lib.hid hP
      have HFO := Lib.hid hfo
      have i2 : IntKind.i64.wrap ((k : Int) + 1) = ((k + 1 : Nat) : Int) := by rw [IntKind.wrap_i64]; omega
      have i3 : IntKind.i64.wrap (k : Int) = k := by rw [IntKind.wrap_i64]; omega
      have t0 : decide ((k : Int) < 3) = true := by simp; omega
      clear hP hdr hfo HP hkl
      go_wp2_with fail
      obtain ⟨wo, rfl⟩ : ∃ wo : World, wo = wr := ⟨_, rfl⟩
      have hm0 : MomAt wo.heap.size mom0 ((wo.alloc (.cells #[.int .i64 0, .int .i64 0, .int .i64 0, .int .i64 0, .int .i64 0, .int .i64 0, .int .i64 0, .bool false] 87 (0, 0))).iter fo 0) := by
        unfold MomAt World.iter
        exact (Below.heap_alloc _ _ _ (by simp)).trans (heap_new wo _ _ rfl)
      have hi0 : ((wo.alloc (.cells #[.int .i64 0, .int .i64 0, .int .i64 0, .int .i64 0, .int .i64 0, .int .i64 0, .int .i64 0, .bool false] 87 (0, 0))).iter fo 0).heap[wo.heap.size + 1]? = some (.stringIter fo 0) := by
        have := World.iter_heap (wo.alloc (.cells #[.int .i64 0, .int .i64 0, .int .i64 0, .int .i64 0, .int .i64 0, .int .i64 0, .int .i64 0, .bool false] 87 (0, 0))) fo 0
        rw [show (wo.alloc (.cells #[.int .i64 0, .int .i64 0, .int .i64 0, .int .i64 0, .int .i64 0, .int .i64 0, .int .i64 0, .bool false] 87 (0, 0))).heap.size = wo.heap.size + 1 from by simp] at this
        exact this
      have hb0 : Below W1.heap.size W1 ((wo.alloc (.cells #[.int .i64 0, .int .i64 0, .int .i64 0, .int .i64 0, .int .i64 0, .int .i64 0, .int .i64 0, .bool false] 87 (0, 0))).iter fo 0) := (hbr.alloc hbr.size _).alloc (by simp; have := hbr.size; omega) _
      obtain ⟨W2, hW2⟩ : ∃ W2, (wo.alloc (.cells #[.int .i64 0, .int .i64 0, .int .i64 0, .int .i64 0, .int .i64 0, .int .i64 0, .int .i64 0, .bool false] 87 (0, 0))).iter fo 0 = W2 := ⟨_, rfl⟩
      rw [hW2] at hm0 hi0 hb0 ⊢
      have hmbs : W1.heap.size ≤ wo.heap.size := hbr.size
      obtain ⟨mb, hmb⟩ : ∃ mb, wo.heap.size = mb := ⟨_, rfl⟩
      rw [hmb] at hm0 hi0 hmbs ⊢
      obtain ⟨P0, hP0⟩ : ∃ P0, dpieces fo.data.toList mom0 y = P0 := ⟨_, rfl⟩
      have HP0 := Lib.hid hP0; have HM0 := Lib.hid hm0; have HI0 := Lib.hid hi0; have HB0 := Lib.hid hb0
      clear hP0 hm0 hi0 hb0 hW2 hmb d0 hbr
      go_loopw [9] (fun rv wi => ∃ (p : Nat) (m : Mom) (rest : List UInt8), rv = .string ⟨rest.toArray⟩ ∧ p ≤ fo.size ∧ Hid (MomAt mb m wi) ∧ Hid (wi.heap[mb + 1]? = some (.stringIter fo p)) ∧ Hid (Below W1.heap.size W1 wi) ∧ Hid (dpieces (fo.data.toList.drop p) m rest = P0)) (fun _ wi => fo.size - posI wi (mb + 1))
      case atStart => exact ⟨0, mom0, y, rfl, Nat.zero_le _, HM0, HI0, HB0, HP0⟩
      case round =>
        obtain ⟨p, m, rest, rfl, hp, HM, HI, HB, HD⟩ := hrel
        by_cases hpf : p < fo.size
        · have hdc := drop_cons fo p hpf
          have hcm : fo[p] ∈ fo.data.toList := by rw [at_list fo p hpf]; exact List.getElem_mem _
          have hlet := HFO.out.1 fo[p] hcm
          have hasc : fo[p].toNat < 128 := by
            have hall : ∀ c ∈ dletters, c < 128 := by decide
            exact hall _ hlet
          have hnx : ∀ ty, (Instr.next (.pointer (some ⟨mb + 1, 0, none⟩)) true ty).run Tryz.prog wr = .ok (.tuple #[.bool true, .int .i64 p, .int .i32 (fo[p]'hpf).toNat]) (stepI wr (mb + 1) fo (p + 1)) := fun ty => run_next_at wr (mb + 1) fo p ty HI.out hpf hasc
          have hil : mb + 1 < wr.heap.size := by
            rcases Nat.lt_or_ge (mb + 1) wr.heap.size with h' | h'
            · exact h'
            · have := HI.out; simp [Array.getElem?_eq_none h'] at this
          have hm3 : MomAt mb m (stepI wr (mb + 1) fo (p + 1)) := (stepI_other (by omega)).trans HM.out
          have hi3 : (stepI wr (mb + 1) fo (p + 1)).heap[mb + 1]? = some (.stringIter fo (p + 1)) := stepI_same hil
          have hb3 : Below W1.heap.size W1 (stepI wr (mb + 1) fo (p + 1)) := HB.out.trans ((stepI_but wr (mb + 1) (p + 1) fo).below (by omega) HB.out.size)
          have hD := HD.out
          rw [hdc, dpieces] at hD
          obtain ⟨c, hc⟩ : ∃ c, fo[p].toNat = c := ⟨_, rfl⟩
          rw [hc] at hD hlet hnx
          have hsz3 : (stepI wr (mb + 1) fo (p + 1)).heap.size = wr.heap.size := by simp [stepI]
          obtain ⟨W3, hW3⟩ : ∃ W3, stepI wr (mb + 1) fo (p + 1) = W3 := ⟨_, rfl⟩
          rw [hW3] at hnx hm3 hi3 hb3 hsz3
          have kt := dtake_any c hlet mb m ⟨rest.toArray⟩ W3 (HE1.out.below hb3) hm3
          have er : (⟨rest.toArray⟩ : ByteArray).data.toList = rest := by simp
          rw [er] at kt
          have hpos := posI_of HI.out
          generalize dtake m c rest = r at *
          obtain ⟨m', rest', is⟩ := r
          simp only at kt hD
          have KT := Lib.hid kt; have HI3 := Lib.hid hi3; have HB3 := Lib.hid hb3; have HS3 := Lib.hid hsz3; have HPOS := Lib.hid hpos
          clear kt hm3 hi3 hb3 hsz3 hpos hdc hcm hlet hasc hil er hW3 hc HD HM
          cases is
          · simp only [cond_false] at hD
            have HN := Lib.hid hD
            clear hD
            go_wp2_with fail
            (with_reducible refine KT.out.mono ?_)
            rintro e w4 ⟨rfl, hbt, _⟩
            have hb4 : Below W1.heap.size W1 w4 := HB3.out.trans (hbt.below hmbs HB3.out.size)
            have hRn : dparse y now (ls.drop (k + 1)) = R := (dparse_none (HP0.out.trans HN.out.symm)).symm.trans HP2.out
            have HRN := Lib.hid hRn
            clear hRn hbt
            go_wp2
            go_roundw
            case rel => exact ⟨k + 1, hk3, rfl, hb4, HRN⟩
            case measure => simp [intD]; omega
          · simp only [cond_true] at hD
            have HN := Lib.hid hD
            clear hD
            go_wp2_with fail
            (with_reducible refine KT.out.mono ?_)
            rintro e w4 ⟨rfl, hbt, hm4⟩
            have hil3 : mb + 1 < W3.heap.size := by
              rcases Nat.lt_or_ge (mb + 1) W3.heap.size with h' | h'
              · exact h'
              · have := HI3.out; simp [Array.getElem?_eq_none h'] at this
            have hi4 : w4.heap[mb + 1]? = some (.stringIter fo (p + 1)) := (hbt.2.2.2.2 (mb + 1) hil3 (by omega)).trans HI3.out
            have hb4 : Below W1.heap.size W1 w4 := HB3.out.trans (hbt.below hmbs HB3.out.size)
            have hpos4 := posI_of hi4
            have HM4 := Lib.hid hm4; have HI4 := Lib.hid hi4; have HB4 := Lib.hid hb4; have HPOS4 := Lib.hid hpos4
            clear hm4 hi4 hb4 hpos4 hbt hil3
            go_wp2
            go_roundw
            case rel =>
              exact ⟨p + 1, m', rest', rfl, hpf, HM4, HI4, HB4, HN⟩
            case measure => rw [HPOS4.out, HPOS.out]; omega
        · have hpe : p = fo.size := by omega
          subst hpe
          have hst : ∀ ty, (Instr.next (.pointer (some ⟨mb + 1, 0, none⟩)) true ty).run Tryz.prog wr = .ok (.tuple #[.bool false]) wr := fun ty => run_next_stop wr (mb + 1) fo fo.size ty HI.out hpf
          have hD := HD.out
          rw [drop_all fo fo.size (Nat.le_refl _), dpieces] at hD
          have hPF := HP0.out.trans hD.symm
          cases rest with
          | cons c0 t0 =>
            have hRn : dparse y now (ls.drop (k + 1)) = R := (dparse_more hPF).symm.trans HP2.out
            have HRN := Lib.hid hRn
            have HBB := Lib.hid HB.out
            clear hD hPF hRn HD HM HI
            go_wp2
            go_roundw
            case rel => exact ⟨k + 1, hk3, rfl, HBB.out, HRN⟩
            case measure => simp [intD]; omega
          | nil =>
            have hok := dpieces_ok fo.data.toList mom0 y m [] HFO.out.1 (fun h => ⟨rfl, HFO.out.2 h⟩) mom0_ok hPF
            have kt := dtick_any mb m now wr HM.out hok
            have hRn : (if (dtick m now).2 = true then ((dtick m now).1, 0) else dparse y now (ls.drop (k + 1))) = R := (dparse_end hPF).symm.trans HP2.out
            unfold TickPost at kt
            generalize dtick m now = r at *
            obtain ⟨t, is⟩ := r
            simp only at kt hRn
            have KT := Lib.hid kt; have HRN := Lib.hid hRn; have HBB := Lib.hid HB.out
            clear hD hPF hRn HD HM HI kt hok HB
            cases is
            · go_wp2_with fail
              (with_reducible refine KT.out.mono ?_)
              rintro e w4 ⟨rfl, hbt⟩
              have hb4 : Below W1.heap.size W1 w4 := HBB.out.trans (hbt.below hmbs HBB.out.size)
              have hRm : dparse y now (ls.drop (k + 1)) = R := by have := HRN.out; simpa using this
              have HRM := Lib.hid hRm
              clear hRm hbt
              go_wp2
              go_roundw
              case rel => exact ⟨k + 1, hk3, rfl, hb4, HRM⟩
              case measure => simp [intD]; omega
            · go_wp2_with fail
              (with_reducible refine KT.out.mono ?_)
              rintro e w4 ⟨rfl, hbt⟩
              have hb4 : Below W1.heap.size W1 w4 := HBB.out.trans (hbt.below hmbs HBB.out.size)
              have hRm : (t, 0) = R := by have := HRN.out; simpa using this
              have HRM := Lib.hid (And.intro hRm hb4)
              clear hRm hbt hb4
              go_wp2
              rw [Exit.noGoto_ret]
              go_ret2
              exact ⟨by rw [← HRM.out.1]; rfl, hb1.trans (HRM.out.2.mono (Nat.le_of_lt hlow))⟩
    · have hk2 : k = 3 := by omega
      subst hk2
      have hP := HP.out
      rw [List.drop_eq_nil_of_le (by rw [HL3.out]; exact Nat.le_refl _), dparse] at hP
      have HP2 := Lib.hid hP
      clear hP
      go_wp2
      rw [Exit.noGoto_ret]
      go_ret2
      exact ⟨by rw [← HP2.out]; rfl, hb1.trans (hbr.mono (Nat.le_of_lt hlow))⟩
end Go.Proofs.YtedmiganmifepaaGreatDoor
/- The walk of etag.NotModified. -/
namespace Go.Proofs.YtedmiganmifepaaGreatDoor
open Go.RowKit
set_option maxRecDepth 100000

/-- The date that a field tells. -/
def momL (xs : List Fld) (name : List UInt8) (now : Int) : Int × Bool :=
  ((dateP (getL xs name).1 now).1, (getL xs name).2 && (dateP (getL xs name).1 now).2 == 0)
set_option maxHeartbeats 4000000 in
theorem moment_any (A : Option Addr) (n c : Nat) (xs : List Fld) (name : ByteArray) (now : Int) (w : World) (hE : DEnv w) (hr : Rd A n 2 (fldsV xs) w) (hn : n ≤ 1000000) (hs : sumF xs ≤ 1000000) (hname : name.size ≤ 1000000) :
    Calls Tryz.prog 16 #[.slice A n c, .string name, .int .i64 now] w fun e w' => e = .returned (.tuple #[.int .i64 (momL xs name.data.toList now).1, .bool (momL xs name.data.toList now).2]) ∧ Below w.heap.size w w' := by
  have k1 := get_any A n c xs name w hr hn hs hname
  have k2 := fun W (hb : Below w.heap.size w W) => dparse_any ⟨(getL xs name.data.toList).1.toArray⟩ now W (hE.below hb)
  simp only at k2
  unfold momL
  simp only
  unfold getV at k1
  generalize getL xs name.data.toList = g at *
  obtain ⟨gv, gi⟩ := g
  simp only at k1 k2 ⊢
  generalize dateP gv now = r at *
  obtain ⟨t, er⟩ := r
  simp only at k2 ⊢
  have K1 := Lib.hid k1; have K2 := Lib.hid k2; clear k1 k2 hr hs hE
  cases gi <;> cases hz : (er == 0)
  all_goals
    go_enter Tryz.func16, Tryz.ntmps16
    go_wp2_with fail
    (with_reducible refine K1.out.mono ?_)
    rintro e w1 ⟨rfl, hb1⟩
    have k3 := K2.out w1 hb1
    have K3 := Lib.hid k3; clear k3
    go_wp2_with fail
    (with_reducible refine K3.out.mono ?_)
    rintro e w2 ⟨rfl, hb2⟩
    go_wp2
    go_ret2
    exact ⟨rfl, bt hb1 hb2⟩

set_option maxHeartbeats 1000000 in
theorem notf_any (p own : ByteArray) (T : Nat) (w : World) (hp : p.size ≤ 8000) (ho : own.size ≤ 8000) (hT : w.cell? ⟨T, 0, none⟩ = some (.string own)) :
    Calls Tryz.prog 15 #[.string p, .pointer (some ⟨T, 0, none⟩)] w fun e w' => e = .returned (.bool ((ent p).same (ent own))) ∧ Below w.heap.size w w' := by
  have k1 := weak_any p own w hp ho
  generalize (ent p).same (ent own) = r at *
  have K1 := Lib.hid k1; clear k1
  go_enter Tryz.func15, Tryz.ntmps15
  go_wp2_with fail
  (with_reducible refine K1.out.mono ?_)
  rintro e w1 ⟨rfl, hb1⟩
  go_wp2
  go_ret
  exact ⟨rfl, hb1⟩

/-- Is one of them as the other says? -/
def anyE (ls : List (List UInt8)) (own : ByteArray) : Bool := ls.any fun p => (ent ⟨p.toArray⟩).same (ent own)
set_option maxHeartbeats 2000000 in
theorem indexNot_any (A : Option Addr) (n c : Nat) (ls : List (List UInt8)) (own : ByteArray) (T : Nat) (w : World) (hr : Rd A n 1 (strsV ls) w) (hn : n ≤ 1000000) (hl : ∀ x ∈ ls, x.length ≤ 8000) (ho : own.size ≤ 8000) (hT : w.cell? ⟨T, 0, none⟩ = some (.string own)) (hTw : T < w.heap.size) :
    Calls Tryz.prog 30 #[.slice A n c, .func (.func 15) #[] #[.pointer (some ⟨T, 0, none⟩)]] w fun e w' => ∃ i : Int, e = .returned (.int .i64 i) ∧ decide (0 ≤ i) = anyE ls own ∧ Below w.heap.size w w' := by
  obtain rfl := hr.str
  have HR := Lib.hid hr; have HL := Lib.hid hl; clear hr hl
  have HC := Lib.hid (show ∀ p : List UInt8, p.length ≤ 8000 → ∀ W, Below w.heap.size w W → Calls Tryz.prog 15 #[.string ⟨p.toArray⟩, .pointer (some ⟨T, 0, none⟩)] W fun e w' => e = .returned (.bool ((ent ⟨p.toArray⟩).same (ent own))) ∧ Below W.heap.size W w' from
    fun p hp W hb => notf_any ⟨p.toArray⟩ own T W (by rw [Lib.size_eq]; exact hp) ho ((hb.cell (p := ⟨T, 0, none⟩) hTw).trans hT))
  clear hT
  go_enter Tryz.func30, Tryz.ntmps30
  go_wp2_with fail
  go_loopw [8] (fun i wr => ∃ k : Nat, k ≤ ls.length ∧ i = .int .i64 k ∧ Hid (anyE (ls.take k) own = false) ∧ Below w.heap.size w wr) (fun i _ => ls.length - (intOf i).toNat)
  case atStart => exact ⟨0, Nat.zero_le _, rfl, Lib.hid rfl, Below.refl _ _⟩
  case round =>
    obtain ⟨k, hk, rfl, HA, hbw⟩ := hrel
    by_cases hlt : k < ls.length
    · obtain ⟨b, o, rfl, hl, c1⟩ := (HR.out.below hbw).str_at (k := k) hlt
      have hv := HL.out ls[k] (List.getElem_mem _)
      have hbad : (ent ⟨ls[k].toArray⟩).same (ent own) = true → Hid (decide ((0 : Int) ≤ (k : Int)) = anyE ls own) := by
        intro h
        refine Lib.hid ?_
        have : anyE ls own = true := by unfold anyE; rw [List.any_eq_true]; exact ⟨ls[k], List.getElem_mem _, h⟩
        rw [this]; simp
      have hgood : (ent ⟨ls[k].toArray⟩).same (ent own) = false → Hid (anyE (ls.take (k + 1)) own = false) := by
        intro h
        refine Lib.hid ?_
        have h0 := HA.out
        unfold anyE at h0 ⊢
        rw [List.take_succ_eq_append_getElem hlt, List.any_append, h0]
        simp [h]
      generalize ls[k] = p at *
      have k1 := HC.out p hv wr hbw
      have HBAD := Lib.hid hbad; have HGOOD := Lib.hid hgood; clear hbad hgood HA
      cases hq : (ent ⟨p.toArray⟩).same (ent own)
      · rw [hq] at k1
        have hf := HGOOD.out hq
        have K1 := Lib.hid k1; clear k1 hq
        go_wp2_with fail
        (with_reducible refine K1.out.mono ?_)
        rintro e w1 ⟨rfl, hb1⟩
        go_wp2
        go_roundw
        case rel => exact ⟨k + 1, by omega, by go_num, hf, bt hbw hb1⟩
        case measure => simp [intOf]; omega
      · rw [hq] at k1
        have hf := HBAD.out hq
        have K1 := Lib.hid k1; clear k1 hq
        go_wp2_with fail
        (with_reducible refine K1.out.mono ?_)
        rintro e w1 ⟨rfl, hb1⟩
        go_wp2
        go_ret
        exact ⟨k, rfl, hf.out, bt hbw hb1⟩
    · have hke : k = ls.length := by omega
      subst hke
      have ha := HA.out
      rw [List.take_length] at ha
      have HA2 := Lib.hid ha; clear ha HA
      go_wp2
      go_ret
      exact ⟨-1, rfl, by rw [HA2.out]; rfl, hbw⟩
set_option maxHeartbeats 1000000 in
theorem containsNot_any (A : Option Addr) (n c : Nat) (ls : List (List UInt8)) (own : ByteArray) (T : Nat) (w : World) (hr : Rd A n 1 (strsV ls) w) (hn : n ≤ 1000000) (hl : ∀ x ∈ ls, x.length ≤ 8000) (ho : own.size ≤ 8000) (hT : w.cell? ⟨T, 0, none⟩ = some (.string own)) (hTw : T < w.heap.size) :
    Calls Tryz.prog 14 #[.slice A n c, .func (.func 15) #[] #[.pointer (some ⟨T, 0, none⟩)]] w fun e w' => e = .returned (.bool (anyE ls own)) ∧ Below w.heap.size w w' := by
  have k1 := indexNot_any A n c ls own T w hr hn hl ho hT hTw
  have K1 := Lib.hid k1; clear k1
  go_enter Tryz.func14, Tryz.ntmps14
  go_wp2_with fail
  (with_reducible refine K1.out.mono ?_)
  rintro e w1 ⟨i, rfl, hi, hb1⟩
  have HI := Lib.hid hi; clear hi
  go_wp2
  go_ret
  exact ⟨by rw [← HI.out]; rfl, hb1⟩

/-- Is what a client has still so? -/
def notModL (req rep : List Fld) (now : Int) : Bool :=
  bif (getL req [105, 102, 45, 110, 111, 110, 101, 45, 109, 97, 116, 99, 104]).1 == [42] then true
  else bif (getL req [105, 102, 45, 110, 111, 110, 101, 45, 109, 97, 116, 99, 104]).2 then
    anyE (etagL (getL req [105, 102, 45, 110, 111, 110, 101, 45, 109, 97, 116, 99, 104]).1).1 ⟨(getL rep [101, 116, 97, 103]).1.toArray⟩
  else (momL req [105, 102, 45, 109, 111, 100, 105, 102, 105, 101, 100, 45, 115, 105, 110, 99, 101] now).2 && (momL rep [108, 97, 115, 116, 45, 109, 111, 100, 105, 102, 105, 101, 100] now).2 && decide ((momL rep [108, 97, 115, 116, 45, 109, 111, 100, 105, 102, 105, 101, 100] now).1 ≤ (momL req [105, 102, 45, 109, 111, 100, 105, 102, 105, 101, 100, 45, 115, 105, 110, 99, 101] now).1)
theorem etagL_small (s : List UInt8) (h : s.length ≤ 8000) : (etagL s).1.length ≤ 1000000 ∧ ∀ x ∈ (etagL s).1, x.length ≤ 8000 := by
  have htot := split_total 44 s
  have hcn : (splitL 44 s).1.length ≤ 64 := split_len s
  have he : etagL s = bif (splitL 44 s).2 == 0 && (!(splitL 44 s).1.isEmpty && (splitL 44 s).1.all entOk) then ((splitL 44 s).1, 0) else ([], 4) := rfl
  rw [he]
  cases (splitL 44 s).2 == 0 && (!(splitL 44 s).1.isEmpty && (splitL 44 s).1.all entOk)
  · exact ⟨by simp, by simp⟩
  · refine ⟨by show (splitL 44 s).1.length ≤ 1000000; omega, fun x hx => ?_⟩
    have := total_mem (show x ∈ (splitL 44 s).1 from hx)
    omega

set_option maxHeartbeats 16000000 in
theorem notMod_any (A B : Option Addr) (n c m d : Nat) (st mi : Int) (re bo : ByteArray) (xs ys : List Fld) (now : Int) (w : World) (hE : DEnv w) (hr : Rd A n 2 (fldsV xs) w) (hq : Rd B m 2 (fldsV ys) w) (hn : n ≤ 100) (hm : m ≤ 100) (hs : sumF xs ≤ 7000) (hsq : sumF ys ≤ 7000) :
    Calls Tryz.prog 6 #[.slice A n c, .agg #[.int .i64 st, .string re, .int .i64 mi, .slice B m d, .string bo], .int .i64 now] w fun e w' => e = .returned (.bool (notModL xs ys now)) ∧ Below w.heap.size w w' := by
  have hxn := hr.fld
  have hyn := hq.fld
  obtain ⟨W0, hW0⟩ : ∃ W0, w.alloc (.cells #[.int .i64 st, .string re, .int .i64 mi, .slice B m d, .string bo] 26) = W0 := ⟨_, rfl⟩
  have hB0 : Below w.heap.size w W0 := by rw [← hW0]; exact (Below.refl w.heap.size w).alloc (Nat.le_refl _) _
  have hV0 : W0.cell? ⟨w.heap.size, 3, none⟩ = some (.slice B m d) := by rw [← hW0]; exact World.cell?_alloc_mark w _ _ _ 3
  have hz0 : W0.heap.size = w.heap.size + 1 := by rw [← hW0]; simp
  have g1 := fun (name : ByteArray) (h : name.size ≤ 1000000) W (hb : Below w.heap.size w W) => get_any A n c xs name W (hr.below hb) (by omega) (by omega) h
  have g2 := fun (name : ByteArray) (h : name.size ≤ 1000000) W (hb : Below w.heap.size w W) => get_any B m d ys name W (hq.below hb) (by omega) (by omega) h
  have m1 := fun (name : ByteArray) (h : name.size ≤ 1000000) W (hb : Below w.heap.size w W) => moment_any A n c xs name now W (hE.below hb) (hr.below hb) (by omega) (by omega) h
  have m2 := fun (name : ByteArray) (h : name.size ≤ 1000000) W (hb : Below w.heap.size w W) => moment_any B m d ys name now W (hE.below hb) (hq.below hb) (by omega) (by omega) h
  have b1 := getL_le xs [105, 102, 45, 110, 111, 110, 101, 45, 109, 97, 116, 99, 104]
  have b2 := getL_le ys [101, 116, 97, 103]
  have G1 := Lib.hid (g1 ⟨#[105, 102, 45, 110, 111, 110, 101, 45, 109, 97, 116, 99, 104]⟩ (by decide))
  have G2 := Lib.hid (g2 ⟨#[101, 116, 97, 103]⟩ (by decide))
  have M1 := Lib.hid (m1 ⟨#[105, 102, 45, 109, 111, 100, 105, 102, 105, 101, 100, 45, 115, 105, 110, 99, 101]⟩ (by decide))
  have M2 := Lib.hid (m2 ⟨#[108, 97, 115, 116, 45, 109, 111, 100, 105, 102, 105, 101, 100]⟩ (by decide))
  clear g1 g2 m1 m2 hr hq hE
  have e0 := fun (s : List UInt8) (h : s.length ≤ 8000) => etagL_small s h
  unfold notModL
  simp only at G1 G2 M1 M2
  generalize getL ys [101, 116, 97, 103] = own at *
  generalize getL xs [105, 102, 45, 110, 111, 110, 101, 45, 109, 97, 116, 99, 104] = non at *
  generalize momL xs [105, 102, 45, 109, 111, 100, 105, 102, 105, 101, 100, 45, 115, 105, 110, 99, 101] now = since at *
  generalize momL ys [108, 97, 115, 116, 45, 109, 111, 100, 105, 102, 105, 101, 100] now = last at *
  obtain ⟨ov, oi⟩ := own
  obtain ⟨nv, ni⟩ := non
  obtain ⟨t1, i1⟩ := since
  obtain ⟨t2, i2⟩ := last
  unfold getV at G1 G2
  simp only at G1 G2 M1 M2 b1 b2 ⊢
  have hnv : nv.length ≤ 8000 := by omega
  have hov : ov.length ≤ 8000 := by omega
  have k3 := fun W => elist_any ⟨nv.toArray⟩ W (by rw [Lib.size_eq]; exact hnv)
  simp only at k3
  have e1 := e0 nv hnv
  clear e0 b1 b2 hnv hxn hyn hn hm hs hsq
  have e2 : (⟨nv.toArray⟩ : ByteArray).toList = nv := by rw [Lib.toList_data]
  have HW0 := Lib.hid hW0; have HZ0 := Lib.hid hz0; have K3 := Lib.hid k3; have E1 := Lib.hid e1; have HOV := Lib.hid hov; have HB0 := Lib.hid hB0; have HV0 := Lib.hid hV0
  clear hW0 hz0 k3 e1 hov hB0 hV0
  cases hst : (nv == [42])
  · cases ni
    · go_enter Tryz.func6, Tryz.ntmps6
      go_wp2_with fail
      rw [HW0.out]
      (with_reducible refine (G1.out _ HB0.out).mono ?_)
      rintro e w1 ⟨rfl, hb1⟩
      have hB1 := HB0.out.trans (hb1.mono HB0.out.size)
      have hc1 := (hb1.cell (p := ⟨w.heap.size, 3, none⟩) (by have := HZ0.out; show w.heap.size < W0.heap.size; omega)).trans HV0.out
      go_wp2_with fail
      (with_reducible refine (M1.out _ hB1).mono ?_)
      rintro e w2 ⟨rfl, hb2⟩
      have hB2 := bt hB1 hb2
      have hc2 := (hb2.cell (p := ⟨w.heap.size, 3, none⟩) (by have := HZ0.out; have := hb1.size; show w.heap.size < w1.heap.size; omega)).trans hc1
      clear hc1
      go_wp2_with fail
      (with_reducible refine (M2.out _ hB2).mono ?_)
      rintro e w3 ⟨rfl, hb3⟩
      have hB3 := bt hB2 hb3
      clear hc2 hb3 hB2 hb2 hB1 hb1 K3 G2
      cases i1 <;> cases i2
      all_goals
        go_wp2
        go_ret
        exact ⟨rfl, hB3⟩
    · go_enter Tryz.func6, Tryz.ntmps6
      go_wp2_with fail
      rw [HW0.out]
      (with_reducible refine (G1.out _ HB0.out).mono ?_)
      rintro e w1 ⟨rfl, hb1⟩
      have hB1 := HB0.out.trans (hb1.mono HB0.out.size)
      have hc1 := (hb1.cell (p := ⟨w.heap.size, 3, none⟩) (by have := HZ0.out; show w.heap.size < W0.heap.size; omega)).trans HV0.out
      go_wp2_with fail
      (with_reducible refine (G2.out _ hB1).mono ?_)
      rintro e w2 ⟨rfl, hb2⟩
      have hB2 := bt hB1 hb2
      clear hc1 M1 M2 G1 G2
      go_wp2_with fail
      (with_reducible refine (K3.out _).mono ?_)
      rintro e w3 ⟨a3, c3, rfl, ho3, hb3⟩
      have hal := (Below.refl w2.heap.size w2).alloc (Nat.le_refl _) (.cells #[.string ⟨ov.toArray⟩] 9)
      have hT := World.cell?_alloc_mark w2 #[.string ⟨ov.toArray⟩] 9 (0, 0) 0
      generalize hX : w2.alloc (.cells #[.string ⟨ov.toArray⟩] 9) = X at hT hal ho3 hb3
      have hXs : X.heap.size = w2.heap.size + 1 := by rw [← hX]; simp
      have hT3 : w3.cell? ⟨w2.heap.size, 0, none⟩ = some (.string ⟨ov.toArray⟩) := (hb3.cell (p := ⟨w2.heap.size, 0, none⟩) (by show w2.heap.size < X.heap.size; omega)).trans hT
      have k4 := containsNot_any a3 _ c3 (etagL nv).1 ⟨ov.toArray⟩ w2.heap.size w3 ho3.rd.2 E1.out.1 E1.out.2 (by rw [Lib.size_eq]; exact HOV.out) hT3 (by have := hb3.size; omega)
      have K4 := Lib.hid k4
      have hB3 := bt hB2 (hal.trans (hb3.mono (by omega)))
      clear k4 hT3 hT ho3 hXs hX hal hb3 hB2 hB1 hb1 hb2 K3
      go_wp2_with fail
      (with_reducible refine K4.out.mono ?_)
      rintro e w4 ⟨rfl, hb4⟩
      go_wp2
      go_ret
      exact ⟨rfl, bt hB3 hb4⟩
  · go_enter Tryz.func6, Tryz.ntmps6
    go_wp2_with fail
    rw [HW0.out]
    (with_reducible refine (G1.out _ HB0.out).mono ?_)
    rintro e w1 ⟨rfl, hb1⟩
    have hB1 := HB0.out.trans (hb1.mono HB0.out.size)
    clear M1 M2 G1 G2 K3
    go_wp2
    go_ret
    exact ⟨rfl, hB1⟩
end Go.Proofs.YtedmiganmifepaaGreatDoor
/- The walks of the document's Lower, Same. -/
namespace Go.Proofs.YtedmiganmifepaaGreatDoor
open Go.RowKit

theorem uByte : (Tryz.prog.info? 5).map (fun i => (i.zero, i.size, i.bytes)) = some (some (.int .u8 0), 1, 1) := by kernel_rfl
/-- A slice of bytes that the call made: it owns these. -/
def OwnB (B : Nat) (v : Value) (l : List UInt8) (w : World) : Prop := w.ownsRow B 5 1 v l.length (l.map fun c => Value.int .u8 c.toNat)
theorem OwnB.conv {B : Nat} {v : Value} {l : List UInt8} {w : World} (h : OwnB B v l w) : (convert 74 9 v).run Tryz.prog w = .ok (.string ⟨l.toArray⟩) w := by
  rcases h.2 with ⟨rfl, h0⟩ | ⟨g, cap, cur, rfl, hg, hb, hnc, hcm, hcs, htake⟩
  · have hl : l = [] := List.eq_nil_of_length_eq_zero h0
    subst hl
    exact run_convert_bytes_nil (P := Tryz.prog) w 74 5 Tryz.underlying74 Tryz.underlying5 0 0 9 Tryz.underlying9
  · have hc := run_convert_bytes_arg (P := Tryz.prog) w 74 5 Tryz.underlying74 Tryz.underlying5 g 0 l.length cap (l.map fun c => (c.toNat : Int)) (by simp) (by
      intro i hi
      have := h.cells (g := g) rfl i (.int .u8 (l[i].toNat : Int)) (by simp [hi])
      rw [show (⟨g, 0, none⟩ : Addr).add i = ⟨g, i, none⟩ from by unfold Addr.add; split <;> simp_all] at this
      rw [Nat.zero_add, this]; simp [List.getD, hi]) 9 Tryz.underlying9
    rw [hc]
    have e : strOfNums (l.map fun c => (c.toNat : Int)) = ⟨l.toArray⟩ := by
      apply str_eq; rw [strOfNums_data, List.map_map]
      show List.map _ l = l
      conv => rhs; rw [← List.map_id l]
      apply List.map_congr_left; intro c _; simp
    rw [e]

set_option maxRecDepth 100000 in
set_option maxHeartbeats 2000000 in
theorem rlower_wide (s : ByteArray) (w : World) (hs : s.size ≤ 140737488351232) :
    Calls Tryz.prog 54 #[.string s] w fun e w' => e = .returned (.string ⟨(lowerL s.data.toList).toArray⟩) ∧ Below w.heap.size w w' := by
  obtain ⟨i0, hi, hz0, hz1, hz2⟩ := info_parts uByte
  go_enter Tryz.func54, Tryz.ntmps54
  go_wp2
  go_loopw [4, 3] (fun i b wr => ∃ k : Nat, k ≤ s.size ∧ i = .int .i64 k ∧ OwnB w.heap.size b (lowerL (s.data.toList.take k)) wr ∧ Below w.heap.size w wr) (fun i _ _ => s.size - (intOf i).toNat)
  case atStart => exact ⟨0, Nat.zero_le _, rfl, World.ownsRow_nil _ _ _ _, Below.refl _ _⟩
  case round =>
    obtain ⟨k, hk, rfl, hO, hbw⟩ := hrel
    have HO := Lib.hid hO; clear hO
    by_cases hlt : k < s.size
    · have hu := u8_lt s[k]
      obtain ⟨n, hn, hn0, hn255⟩ : ∃ n : Int, ((lowb s[k]).toNat : Int) = n ∧ 0 ≤ n ∧ n < 256 := ⟨_, rfl, by omega, u8_lt _⟩
      have hnext : lowerL (s.data.toList.take (k + 1)) = lowerL (s.data.toList.take k) ++ [lowb s[k]] := by
        rw [take_snoc s k hlt]; unfold lowerL; simp
      have hlen : (lowerL (s.data.toList.take k)).length < 140737488351232 := by unfold lowerL; rw [List.length_map, List.length_take, ← Lib.size_eq]; omega
      have HN := Lib.hid hnext; have Hn := Lib.hid hn; clear hnext hn
      have hown := HO.out
      unfold OwnB at hown
      have HW := Lib.hid hown; clear hown
      have key : ∀ (v' : Value) (w1 : World), w1.ownsRow w.heap.size 5 1 v' ((lowerL (s.data.toList.take k)).length + 1) ((lowerL (s.data.toList.take k)).map (fun c => Value.int .u8 c.toNat) ++ [.int .u8 n]) → OwnB w.heap.size v' (lowerL (s.data.toList.take (k + 1))) w1 := by
        intro v' w1 h; unfold OwnB; rw [HN.out, List.length_append, List.length_singleton, List.map_append]; rw [← Hn.out] at h; exact h
      have HK := Lib.hid key; clear key
      cases c1 : decide (65 ≤ (s[k].toNat : Int)) <;> cases c2 : decide ((s[k].toNat : Int) ≤ 90)
      · exfalso; simp at c1 c2; omega
      · have e : n = (s[k].toNat : Int) := by rw [← Hn.out, lowb_no s[k] (by rw [c1, c2]; rfl)]
        subst e
        go_wp2_with (at_builtin; refine wpList_append_own _ rfl _ _ 74 rfl w.heap.size 5 i0 (.int .u8 0) 1 1 Tryz.underlying74 hi hz0 hz1 hz2 rfl (by decide) _ _ _ rfl (HW.out.alloc _) ⟨wr.heap.size, 0, none⟩ 1 1 [.int .u8 (s[k].toNat : Int)] rfl rfl ?c1 ?c2 ?c3 ?c4 ?c5 ?_)
        case c1 =>
          intro j u hj
          match j, hj with
          | 0, hj => simp at hj; subst hj; simp [Addr.add]
        case c2 => intro u hu; simp at hu; subst hu; rfl
        case c3 => unfold maxLen; omega
        case c4 => omega
        case c5 => have := hbw.size; simp; omega
        intro v' w1 hown' hgrow _
        have hO2 := HK.out v' w1 hown'
        have hb2 : Below w.heap.size w w1 := (hbw.alloc hbw.size _).grown hgrow (by have := hbw.size; simp; omega) (fun j hj => (HW.out.lt j hj).1)
        have HO2 := Lib.hid hO2; clear hO2 hown' hgrow
        go_wp2
        go_roundw
        case rel => exact ⟨k + 1, by omega, by go_num, HO2.out, hb2⟩
        case measure => simp [intOf]; omega
      · have e : n = (s[k].toNat : Int) := by rw [← Hn.out, lowb_no s[k] (by rw [c1, c2]; rfl)]
        subst e
        go_wp2_with (at_builtin; refine wpList_append_own _ rfl _ _ 74 rfl w.heap.size 5 i0 (.int .u8 0) 1 1 Tryz.underlying74 hi hz0 hz1 hz2 rfl (by decide) _ _ _ rfl (HW.out.alloc _) ⟨wr.heap.size, 0, none⟩ 1 1 [.int .u8 (s[k].toNat : Int)] rfl rfl ?c1 ?c2 ?c3 ?c4 ?c5 ?_)
        case c1 =>
          intro j u hj
          match j, hj with
          | 0, hj => simp at hj; subst hj; simp [Addr.add]
        case c2 => intro u hu; simp at hu; subst hu; rfl
        case c3 => unfold maxLen; omega
        case c4 => omega
        case c5 => have := hbw.size; simp; omega
        intro v' w1 hown' hgrow _
        have hO2 := HK.out v' w1 hown'
        have hb2 : Below w.heap.size w w1 := (hbw.alloc hbw.size _).grown hgrow (by have := hbw.size; simp; omega) (fun j hj => (HW.out.lt j hj).1)
        have HO2 := Lib.hid hO2; clear hO2 hown' hgrow
        go_wp2
        go_roundw
        case rel => exact ⟨k + 1, by omega, by go_num, HO2.out, hb2⟩
        case measure => simp [intOf]; omega
      · have e : n = (s[k].toNat : Int) + 32 := by rw [← Hn.out, lowb_yes s[k] c1 c2]
        subst e
        go_wp2_with (at_builtin; refine wpList_append_own _ rfl _ _ 74 rfl w.heap.size 5 i0 (.int .u8 0) 1 1 Tryz.underlying74 hi hz0 hz1 hz2 rfl (by decide) _ _ _ rfl (HW.out.alloc _) ⟨wr.heap.size, 0, none⟩ 1 1 [.int .u8 ((s[k].toNat : Int) + 32)] rfl rfl ?c1 ?c2 ?c3 ?c4 ?c5 ?_)
        case c1 =>
          intro j u hj
          match j, hj with
          | 0, hj => simp at hj; subst hj; simp [Addr.add]
        case c2 => intro u hu; simp at hu; subst hu; rfl
        case c3 => unfold maxLen; omega
        case c4 => omega
        case c5 => have := hbw.size; simp; omega
        intro v' w1 hown' hgrow _
        have hO2 := HK.out v' w1 hown'
        have hb2 : Below w.heap.size w w1 := (hbw.alloc hbw.size _).grown hgrow (by have := hbw.size; simp; omega) (fun j hj => (HW.out.lt j hj).1)
        have HO2 := Lib.hid hO2; clear hO2 hown' hgrow
        go_wp2
        go_roundw
        case rel => exact ⟨k + 1, by omega, by go_num, HO2.out, hb2⟩
        case measure => simp [intOf]; omega
    · have hc := HO.out.conv
      have hke : s.data.toList.take k = s.data.toList := take_all s k (by omega)
      rw [hke] at hc
      go_wp2
      go_ret
      exact ⟨rfl, hbw⟩
theorem rlower_any (s : ByteArray) (w : World) (hs : s.size ≤ 1000000) :
    Calls Tryz.prog 54 #[.string s] w fun e w' => e = .returned (.string ⟨(lowerL s.data.toList).toArray⟩) ∧ Below w.heap.size w w' := rlower_wide s w (by omega)
end Go.Proofs.YtedmiganmifepaaGreatDoor
/- The walk of the document's Values (layer 4). -/
namespace Go.Proofs.YtedmiganmifepaaGreatDoor
open Go.RowKit

set_option maxRecDepth 100000 in
set_option maxHeartbeats 2000000 in
theorem rvalues_any (A : Option Addr) (n c : Nat) (xs : List Fld) (name : ByteArray) (w : World) (hr : Rd A n 2 (fldsV xs) w) (hn : n ≤ 1000000) (hs : ∀ f ∈ xs, f.1.length ≤ 1000000) (hname : name.size ≤ 1000000) :
    Calls Tryz.prog 32 #[.slice A n c, .string name] w (TextsPost w (valuesL xs name.data.toList)) := by
  have hB := Below.refl w.heap.size w
  obtain rfl := hr.fld
  have HR := Lib.hid hr; have HS := Lib.hid hs; clear hr hs
  have k2 := fun w => rlower_any name w hname
  have K2 := Lib.hid k2; clear k2
  go_enter Tryz.func32, Tryz.ntmps32
  go_wp2
  go_loopw [6, 5] (fun i out wr => ∃ k : Nat, k ≤ xs.length ∧ i = .int .i64 k ∧ Hid (OwnS w.heap.size out (valuesL (xs.take k) name.data.toList) wr) ∧ Below w.heap.size w wr) (fun i _ _ => xs.length - (intOf i).toNat)
  case atStart => exact ⟨0, Nat.zero_le _, rfl, Lib.hid (OwnS.nil _ _), hB⟩
  case round =>
    clear hB
    obtain ⟨k, hk, rfl, HO, hbw⟩ := hrel
    by_cases hlt : k < xs.length
    · obtain ⟨b, o, rfl, hl, c1, c2⟩ := (HR.out.below hbw).fld_at (k := k) (by omega)
      have hf1 := HS.out xs[k] (List.getElem_mem _)
      have hsn := valuesL_snoc (xs.take k) xs[k] name.data.toList
      rw [← take_snocL xs k (by omega)] at hsn
      have k1 := fun w => rlower_any ⟨(xs[k]).1.toArray⟩ w (by rw [Lib.size_eq]; exact hf1)
      have hvl := valuesL_le (xs.take k) name.data.toList
      rw [List.length_take] at hvl
      generalize xs[k] = f at *
      obtain ⟨f1, f2⟩ := f
      simp only at c1 c2 k1 hsn
      have Hsn := Lib.hid hsn; have K1 := Lib.hid k1; clear hsn k1 hf1
      cases hq : (lowerL f1 == lowerL name.data.toList)
      · have hnx := Hsn.out
        rw [hq, if_neg (by decide)] at hnx
        have HN : Hid (OwnS w.heap.size u5 (valuesL (xs.take (k + 1)) name.data.toList) wr) := by rw [hnx]; exact HO
        have Hq := Lib.hid hq; clear hnx hq Hsn
        go_wp2_with fail
        refine (K1.out _).mono ?_
        rintro e w1 ⟨rfl, hb1⟩
        go_wp2_with fail
        refine (K2.out _).mono ?_
        rintro e w2 ⟨rfl, hb2⟩
        have q1 := Hq.out
        go_wp2
        have hb3 : Below w.heap.size w w2 := (hbw.trans (hb1.mono hbw.size)).trans (hb2.mono (by have := hbw.size; have := hb1.size; omega))
        go_roundw
        case rel => exact ⟨k + 1, by omega, by go_num, Lib.hid ((HN.out.below hb1).below hb2), hb3⟩
        case measure => simp [intOf]; omega
      · have hnx := Hsn.out
        rw [hq, if_pos rfl] at hnx
        have Hnx := Lib.hid hnx
        have Hq := Lib.hid hq; clear hnx hq Hsn
        go_wp2_with fail
        refine (K1.out _).mono ?_
        rintro e w1 ⟨rfl, hb1⟩
        go_wp2_with fail
        refine (K2.out _).mono ?_
        rintro e w2 ⟨rfl, hb2⟩
        have q1 := Hq.out
        have hb3 : Below w.heap.size w w2 := (hbw.trans (hb1.mono hbw.size)).trans (hb2.mono (by have := hbw.size; have := hb1.size; omega))
        have d2 := (hb2.cell (p := ⟨b, o + k * 2 + 1, none⟩) (by have := hb1.size; show b < _; omega)).trans ((hb1.cell (p := ⟨b, o + k * 2 + 1, none⟩) hl).trans c2)
        have HO1 := Lib.hid ((HO.out.below hb1).below hb2)
        go_wp2_with (at_builtin; refine app_str w.heap.size f2 HO1.out hb3.size (by omega) rfl _ _ rfl rfl rfl ?_)
        intro v' w3 hO2 hb4 _
        have hb5 := hb3.trans hb4
        have HO2 : Hid (OwnS w.heap.size v' (valuesL (xs.take (k + 1)) name.data.toList) w3) := by rw [Hnx.out]; exact Lib.hid hO2
        clear hO2 hb4 hb3 hb2 hb1 d2 q1
        go_wp2
        go_roundw
        case rel => exact ⟨k + 1, by omega, by go_num, HO2, hb5⟩
        case measure => simp [intOf]; omega
    · have hke : k = xs.length := by omega
      subst hke
      have ho := HO.out
      rw [List.take_length] at ho
      obtain ⟨a, cap, rfl⟩ := ho.shape
      have HO1 := Lib.hid ho; clear ho HO
      go_wp2
      go_ret
      exact ⟨a, cap, rfl, HO1.out, hbw⟩
end Go.Proofs.YtedmiganmifepaaGreatDoor
/- The document's Get, Texts; a copy of a list (layer 4). -/
namespace Go.Proofs.YtedmiganmifepaaGreatDoor
open Go.RowKit
set_option maxRecDepth 100000

/-- Join from the left. -/
theorem join_last (sep x : List UInt8) : ∀ ls : List (List UInt8), Lib.join (ls ++ [x]) sep = bif ls.isEmpty then x else Lib.join ls sep ++ sep ++ x
  | [] => by simp [Lib.join]
  | [a] => by simp [Lib.join]
  | a :: b :: r => by
    have ih := join_last sep x (b :: r)
    have e : ∀ (a b : List UInt8) (l : List (List UInt8)), Lib.join (a :: b :: l) sep = a ++ (sep ++ Lib.join (b :: l) sep) := fun _ _ _ => rfl
    simp only [List.cons_append] at ih ⊢
    rw [e, ih, e]
    simp
theorem join_take (sep : List UInt8) (ls : List (List UInt8)) (k : Nat) (h : k < ls.length) : Lib.join (ls.take (k + 1)) sep = bif decide (k = 0) then ls[k] else Lib.join (ls.take k) sep ++ sep ++ ls[k] := by
  rw [List.take_succ_eq_append_getElem h, join_last]
  by_cases h0 : k = 0
  · subst h0; simp
  · have : (ls.take k).isEmpty = false := by
      rw [List.isEmpty_eq_false_iff]; intro e
      have h1 := congrArg List.length e
      rw [List.length_take, List.length_nil] at h1; omega
    rw [this, decide_eq_false h0]

set_option maxHeartbeats 4000000 in
theorem rget_any (A : Option Addr) (n c : Nat) (xs : List Fld) (name : ByteArray) (w : World) (hr : Rd A n 2 (fldsV xs) w) (hn : n ≤ 1000000) (hs : sumF xs ≤ 1000000) (hname : name.size ≤ 1000000) :
    Calls Tryz.prog 17 #[.slice A n c, .string name] w fun e w' => e = .returned (getV (getL xs name.data.toList)) ∧ Below w.heap.size w w' := by
  have k1 := rvalues_any A n c xs name w hr hn (fun f hf => by have := sumF_mem hf; omega) hname
  have hv := total_values xs name.data.toList
  have hvl := valuesL_le xs name.data.toList
  have hxn := hr.fld
  unfold getL getV
  simp only
  generalize valuesL xs name.data.toList = ls at *
  have hjt := join_take [44, 32] ls
  have hjl : ∀ k, k ≤ ls.length → (Lib.join (ls.take k) [44, 32]).length ≤ 4000000 := by
    intro k hk
    have h1 := join_le [44, 32] (ls.take k)
    have h2 : total (ls.take k) ≤ total ls := by
      unfold total
      conv => rhs; rw [← List.take_append_drop k ls, List.map_append, List.sum_append]
      omega
    have h3 : (ls.take k).length ≤ ls.length := by rw [List.length_take]; omega
    rw [show ([44, 32] : List UInt8).length = 2 from rfl] at h1
    omega
  have hml : ∀ l ∈ ls, l.length ≤ 1000000 := fun l hl => by have := total_mem hl; omega
  have hfin : Lib.join (ls.take ls.length) [44, 32] = Lib.join ls [44, 32] := by rw [List.take_length]
  have hln : ls.length ≤ 1000000 := by omega
  have K1 := Lib.hid k1; have HJT := Lib.hid hjt; have HJL := Lib.hid hjl; have HML := Lib.hid hml; have HF := Lib.hid hfin
  clear k1 hv hvl hxn hr hs hn hname hjt hjl hml hfin
  generalize Lib.join ls [44, 32] = tot at *
  go_enter Tryz.func17, Tryz.ntmps17
  go_wp2_with fail
  refine K1.out.mono ?_
  rintro e w1 ⟨a1, c1, rfl, ho1, hb1⟩
  have HO := Lib.hid ho1; clear ho1 K1
  go_wp2_with fail
  go_loopw [8, 7] (fun i s wr => ∃ (k : Nat) (l : List UInt8), k ≤ ls.length ∧ i = .int .i64 k ∧ s = .string ⟨l.toArray⟩ ∧ Hid (l = Lib.join (ls.take k) [44, 32]) ∧ Below w1.heap.size w1 wr) (fun i _ _ => ls.length - (intOf i).toNat)
  case atStart => exact ⟨0, [], Nat.zero_le _, rfl, rfl, Lib.hid rfl, Below.refl _ _⟩
  case round =>
    obtain ⟨k, l, hk, rfl, rfl, HE, hbw⟩ := hrel
    by_cases hlt : k < ls.length
    · obtain ⟨b, o, rfl, hl, e1⟩ := ((HO.out.below hbw).rd.2).str_at (k := k) hlt
      have hjt := HJT.out k hlt
      have hx := HML.out ls[k] (List.getElem_mem _)
      have hl4 := HJL.out k hk
      rw [← HE.out] at hl4 hjt
      generalize ls[k] = x at *
      have zl : (⟨l.toArray⟩ : ByteArray).size = l.length := by rw [Lib.size_eq]
      have zx : (⟨x.toArray⟩ : ByteArray).size = x.length := by rw [Lib.size_eq]
      by_cases h0 : k = 0
      · subst h0
        rw [decide_eq_true rfl, cond_true] at hjt
        have hl0 : l = [] := HE.out
        subst hl0
        have hem : (⟨#[]⟩ : ByteArray) ++ ⟨x.toArray⟩ = ⟨x.toArray⟩ := by apply str_eq; simp [ByteArray.data_append]
        have HJ := Lib.hid hjt; have HEM := Lib.hid hem
        rw [Nat.add_zero] at e1
        clear hjt hem HE HJT HJL
        go_wp2
        go_roundw
        case rel => exact ⟨1, x, by omega, by go_num, congrArg Value.string HEM.out, Lib.hid HJ.out.symm, hbw⟩
        case measure => simp [intOf]; omega
      · rw [decide_eq_false h0, cond_false] at hjt
        have hem : ((⟨l.toArray⟩ : ByteArray) ++ ⟨#[44, 32]⟩) ++ ⟨x.toArray⟩ = ⟨(l ++ [44, 32] ++ x).toArray⟩ := by apply str_eq; simp [ByteArray.data_append]
        have HJ := Lib.hid hjt; have HEM := Lib.hid hem
        clear hjt hem HE HJT HJL
        go_wp2
        go_roundw
        case rel => exact ⟨k + 1, l ++ [44, 32] ++ x, by omega, by go_num, by rw [HEM.out], Lib.hid HJ.out.symm, hbw⟩
        case measure => simp [intOf]; omega
    · have hke : k = ls.length := by omega
      subst hke
      have he := HE.out
      rw [HF.out] at he
      subst he
      clear HE HJT HJL HML HF
      go_wp2
      go_ret2
      refine ⟨?_, bt hb1 hbw⟩
      simp
end Go.Proofs.YtedmiganmifepaaGreatDoor
/- The document's dates in plain words, and that they are the program's; no program in sight. -/
namespace Go.Proofs.YtedmiganmifepaaGreatDoor
set_option maxRecDepth 100000

def rnum (s : List UInt8) (a n : Nat) : Int := if s.length < a + n then -1 else if ((s.drop a).take n).all dg = true then dnum ((s.drop a).take n) 0 else -1
def rmons : List (List UInt8) := [[74, 97, 110], [70, 101, 98], [77, 97, 114], [65, 112, 114], [77, 97, 121], [74, 117, 110], [74, 117, 108], [65, 117, 103], [83, 101, 112], [79, 99, 116], [78, 111, 118], [68, 101, 99]]
def rmonF (t : List UInt8) : List (List UInt8) → Int → Int
  | [], _ => 0
  | x :: r, i => if t = x then i else rmonF t r (i + 1)
def rmonth (s : List UInt8) (a : Nat) : Int := if s.length < a + 3 then 0 else rmonF ((s.drop a).take 3) rmons 1
structure RD where
  year : Int
  month : Int
  day : Int
  hour : Int
  minute : Int
  second : Int
def rmay (d : RD) : Bool := decide (1970 ≤ d.year) && decide (d.year ≤ 9999) && decide (1 ≤ d.month) && decide (d.month ≤ 12) && decide (1 ≤ d.day) && decide (d.day ≤ dlong d.year d.month) && decide (0 ≤ d.hour) && decide (d.hour ≤ 23) && decide (0 ≤ d.minute) && decide (d.minute ≤ 59) && decide (0 ≤ d.second) && decide (d.second ≤ 59)
def rcount (d : RD) : Int := d.day - 1 + dahead d.year + dmons d.year (d.month.toNat - 1)
def rdig : Nat → Int → List UInt8
  | 0, _ => []
  | k + 1, n => rdig k (n / 10) ++ [UInt8.ofNat (48 + (n % 10).toNat)]
def rshort : List (List UInt8) := [[77, 111, 110], [84, 117, 101], [87, 101, 100], [84, 104, 117], [70, 114, 105], [83, 97, 116], [83, 117, 110]]
def rlong : List (List UInt8) := [[77, 111, 110, 100, 97, 121], [84, 117, 101, 115, 100, 97, 121], [87, 101, 100, 110, 101, 115, 100, 97, 121], [84, 104, 117, 114, 115, 100, 97, 121], [70, 114, 105, 100, 97, 121], [83, 97, 116, 117, 114, 100, 97, 121], [83, 117, 110, 100, 97, 121]]
def rwd (names : List (List UInt8)) (n : Int) : List UInt8 := names.getD ((n + 3) % 7).toNat []
def rmon (m : Int) : List UInt8 := rmons.getD (m - 1).toNat []
def rclock (d : RD) : List UInt8 := rdig 2 d.hour ++ (58 :: (rdig 2 d.minute ++ (58 :: rdig 2 d.second)))
def rfixed (d : RD) : List UInt8 := rwd rshort (rcount d) ++ (44 :: 32 :: (rdig 2 d.day ++ (32 :: (rmon d.month ++ (32 :: (rdig 4 d.year ++ (32 :: (rclock d ++ [32, 71, 77, 84]))))))))
def rold (d : RD) : List UInt8 := rwd rlong (rcount d) ++ (44 :: 32 :: (rdig 2 d.day ++ (45 :: (rmon d.month ++ (45 :: (rdig 2 d.year ++ (32 :: (rclock d ++ [32, 71, 77, 84]))))))))
def rplain (d : RD) (blank : Bool) : List UInt8 := rwd rshort (rcount d) ++ (32 :: (rmon d.month ++ (32 :: ((bif blank then 32 :: rdig 1 d.day else rdig 2 d.day) ++ (32 :: (rclock d ++ (32 :: rdig 4 d.year)))))))
def rtick (d : RD) : Int := rcount d * 86400 + (3600 * d.hour + 60 * d.minute + d.second)
def rnear (digits now : Int) : Int := ((dyearO (dnow now)).1 + 50) - ((dyearO (dnow now)).1 + 50 - digits) % 100
def rcomma (s : List UInt8) : Nat := (s.takeWhile (· != 44)).length
def rdA (s : List UInt8) : RD := ⟨rnum s 12 4, rmonth s 8, rnum s 5 2, rnum s 17 2, rnum s 20 2, rnum s 23 2⟩
def rdB (s : List UInt8) (now : Int) : RD := ⟨rnear (rnum s (rcomma s + 9) 2) now, rmonth s (rcomma s + 5), rnum s (rcomma s + 2) 2, rnum s (rcomma s + 12) 2, rnum s (rcomma s + 15) 2, rnum s (rcomma s + 18) 2⟩
def rdC (s : List UInt8) : RD := ⟨rnum s 20 4, rmonth s 4, rnum s 8 2, rnum s 11 2, rnum s 14 2, rnum s 17 2⟩
def rdE (s : List UInt8) : RD := ⟨rnum s 20 4, rmonth s 4, rnum s 9 1, rnum s 11 2, rnum s 14 2, rnum s 17 2⟩
/-- The document's Parse. -/
def rparse (s : List UInt8) (now : Int) : Int × Int :=
  if rmay (rdA s) = true ∧ rfixed (rdA s) = s then (rtick (rdA s), 0)
  else if 0 ≤ rnum s (rcomma s + 9) 2 ∧ rmay (rdB s now) = true ∧ rold (rdB s now) = s then (rtick (rdB s now), 0)
  else if rmay (rdC s) = true ∧ rplain (rdC s) false = s then (rtick (rdC s), 0)
  else if rmay (rdE s) = true ∧ rplain (rdE s) true = s then (rtick (rdE s), 0)
  else (0, 4)

/-! Digits. -/
theorem dg_in {c : UInt8} (h : dg c = true) : 48 ≤ c.toNat ∧ c.toNat ≤ 57 := by
  unfold dg at h; simpa using h
theorem u8_is {c : UInt8} {n : Nat} (h : n = c.toNat) : UInt8.ofNat n = c := by subst h; exact UInt8.ofNat_toNat
theorem dg_of {k : Nat} (h : k ≤ 9) : dg (UInt8.ofNat (48 + k)) = true ∧ (UInt8.ofNat (48 + k)).toNat = 48 + k := by
  have : (UInt8.ofNat (48 + k)).toNat = 48 + k := by rw [UInt8.toNat_ofNat']; omega
  refine ⟨?_, this⟩
  unfold dg; rw [this]; simp; omega
theorem rdig1 {a : UInt8} (ha : dg a = true) : rdig 1 (dnum [a] 0) = [a] := by
  have h1 := dg_in ha
  simp only [dnum, rdig, List.nil_append]
  rw [u8_is (c := a) (by omega)]
theorem rdig2 {a b : UInt8} (ha : dg a = true) (hb : dg b = true) : rdig 2 (dnum [a, b] 0) = [a, b] := by
  have h1 := dg_in ha; have h2 := dg_in hb
  simp only [dnum, rdig, List.nil_append]
  rw [u8_is (c := a) (by omega), u8_is (c := b) (by omega)]
  rfl
theorem rdig4 {a b c d : UInt8} (ha : dg a = true) (hb : dg b = true) (hc : dg c = true) (hd : dg d = true) : rdig 4 (dnum [a, b, c, d] 0) = [a, b, c, d] := by
  have h1 := dg_in ha; have h2 := dg_in hb; have h3 := dg_in hc; have h4 := dg_in hd
  simp only [dnum, rdig, List.nil_append]
  rw [u8_is (c := a) (by omega), u8_is (c := b) (by omega), u8_is (c := c) (by omega), u8_is (c := d) (by omega)]
  rfl
theorem rdig1_is (n : Int) (h : 0 ≤ n) (h9 : n ≤ 9) : ∃ a, rdig 1 n = [a] ∧ dg a = true ∧ dnum [a] 0 = n := by
  obtain ⟨h1, h2⟩ := dg_of (k := (n % 10).toNat) (by omega)
  refine ⟨_, rfl, h1, ?_⟩
  simp only [dnum, h2]
  omega
theorem rdig2_is (n : Int) (h : 0 ≤ n) (h9 : n ≤ 99) : ∃ a b, rdig 2 n = [a, b] ∧ dg a = true ∧ dg b = true ∧ dnum [a, b] 0 = n := by
  obtain ⟨h1, h2⟩ := dg_of (k := (n % 10).toNat) (by omega)
  obtain ⟨h3, h4⟩ := dg_of (k := (n / 10 % 10).toNat) (by omega)
  refine ⟨_, _, rfl, h3, h1, ?_⟩
  simp only [dnum, h2, h4]
  omega
theorem rdig4_is (n : Int) (h : 0 ≤ n) (h9 : n ≤ 9999) : ∃ a b c d, rdig 4 n = [a, b, c, d] ∧ dg a = true ∧ dg b = true ∧ dg c = true ∧ dg d = true ∧ dnum [a, b, c, d] 0 = n := by
  obtain ⟨h1, h2⟩ := dg_of (k := (n % 10).toNat) (by omega)
  obtain ⟨h3, h4⟩ := dg_of (k := (n / 10 % 10).toNat) (by omega)
  obtain ⟨h5, h6⟩ := dg_of (k := (n / 10 / 10 % 10).toNat) (by omega)
  obtain ⟨h7, h8⟩ := dg_of (k := (n / 10 / 10 / 10 % 10).toNat) (by omega)
  refine ⟨_, _, _, _, rfl, h7, h5, h3, h1, ?_⟩
  simp only [dnum, h2, h4, h6, h8]
  omega
theorem dnum2_in {a b : UInt8} (ha : dg a = true) (hb : dg b = true) : 0 ≤ dnum [a, b] 0 ∧ dnum [a, b] 0 ≤ 99 := by
  have h1 := dg_in ha; have h2 := dg_in hb
  simp only [dnum]; omega
theorem dnum1_in {a : UInt8} (ha : dg a = true) : 0 ≤ dnum [a] 0 ∧ dnum [a] 0 ≤ 9 := by
  have h1 := dg_in ha
  simp only [dnum]; omega

/-! The pieces: what a success says, and when there is one. -/
theorem one_ok {s : List UInt8} (h : (dnumL s 1).2.2 = true) : ∃ a t, s = a :: t ∧ dg a = true ∧ dnumL s 1 = (dnum [a] 0, t, true) := by
  match s with
  | [] => simp [dnumL] at h
  | a :: t =>
    unfold dnumL at h ⊢
    have hl : decide ((a :: t).length < 1) = false := by simp
    rw [hl] at h ⊢
    simp only [cond_false, List.take_succ_cons, List.take_zero, List.drop_succ_cons, List.drop_zero] at h ⊢
    cases hd : [a].all dg
    · rw [hd] at h; simp at h
    · refine ⟨a, t, rfl, by simpa using hd, rfl⟩
theorem done_of {a : UInt8} (ha : dg a = true) (t : List UInt8) : dnumL (a :: t) 1 = (dnum [a] 0, t, true) := by
  unfold dnumL
  have hl : decide ((a :: t).length < 1) = false := by simp
  rw [hl]
  simp only [cond_false, List.take_succ_cons, List.take_zero, List.drop_succ_cons, List.drop_zero]
  rw [show [a].all dg = true from by simp [ha]]
  rfl
theorem two_ok {s : List UInt8} (h : (dnumL s 2).2.2 = true) : ∃ a b t, s = a :: b :: t ∧ dg a = true ∧ dg b = true ∧ dnumL s 2 = (dnum [a, b] 0, t, true) := by
  match s with
  | [] => simp [dnumL] at h
  | [a] => simp [dnumL] at h
  | a :: b :: t =>
    unfold dnumL at h ⊢
    have hl : decide ((a :: b :: t).length < 2) = false := by simp
    rw [hl] at h ⊢
    simp only [cond_false, List.take_succ_cons, List.take_zero, List.drop_succ_cons, List.drop_zero] at h ⊢
    cases hd : [a, b].all dg
    · rw [hd] at h; simp at h
    · have h2 : dg a = true ∧ dg b = true := by simpa using hd
      refine ⟨a, b, t, rfl, h2.1, h2.2, rfl⟩
theorem dtwo_of {a b : UInt8} (ha : dg a = true) (hb : dg b = true) (t : List UInt8) : dnumL (a :: b :: t) 2 = (dnum [a, b] 0, t, true) := by
  unfold dnumL
  have hl : decide ((a :: b :: t).length < 2) = false := by simp
  rw [hl]
  simp only [cond_false, List.take_succ_cons, List.take_zero, List.drop_succ_cons, List.drop_zero]
  rw [show [a, b].all dg = true from by simp [ha, hb]]
  rfl
theorem four_ok {s : List UInt8} (h : (dnumL s 4).2.2 = true) : ∃ a b c d t, s = a :: b :: c :: d :: t ∧ dg a = true ∧ dg b = true ∧ dg c = true ∧ dg d = true ∧ dnumL s 4 = (dnum [a, b, c, d] 0, t, true) := by
  match s with
  | [] => simp [dnumL] at h
  | [a] => simp [dnumL] at h
  | [a, b] => simp [dnumL] at h
  | [a, b, c] => simp [dnumL] at h
  | a :: b :: c :: d :: t =>
    unfold dnumL at h ⊢
    have hl : decide ((a :: b :: c :: d :: t).length < 4) = false := by simp
    rw [hl] at h ⊢
    simp only [cond_false, List.take_succ_cons, List.take_zero, List.drop_succ_cons, List.drop_zero] at h ⊢
    cases hd : [a, b, c, d].all dg
    · rw [hd] at h; simp at h
    · have h2 : dg a = true ∧ dg b = true ∧ dg c = true ∧ dg d = true := by simpa using hd
      refine ⟨a, b, c, d, t, rfl, h2.1, h2.2.1, h2.2.2.1, h2.2.2.2, rfl⟩
theorem dfour4_of {a b c d : UInt8} (ha : dg a = true) (hb : dg b = true) (hc : dg c = true) (hd : dg d = true) (t : List UInt8) : dnumL (a :: b :: c :: d :: t) 4 = (dnum [a, b, c, d] 0, t, true) := by
  unfold dnumL
  have hl : decide ((a :: b :: c :: d :: t).length < 4) = false := by simp
  rw [hl]
  simp only [cond_false, List.take_succ_cons, List.take_zero, List.drop_succ_cons, List.drop_zero]
  rw [show [a, b, c, d].all dg = true from by simp [ha, hb, hc, hd]]
  rfl
theorem pre_is {s p : List UInt8} (h : Lib.hasPrefix s p = true) : s = p ++ s.drop p.length := by
  obtain ⟨t, rfl⟩ := List.isPrefixOf_iff_prefix.1 h
  simp
theorem name_ok (n : Nat) : ∀ (l : List (List UInt8)) (i : Nat) (s : List UInt8), (dname s n l i).2.2 = true → ∃ k t, k < l.length ∧ s = (bif decide (0 < n) then (l.getD k []).take n else l.getD k []) ++ t ∧ dname s n l i = (((i + k : Nat) : Int), t, true)
  | [], i, s, h => by simp [dname] at h
  | x :: r, i, s, h => by
    rw [dname] at h ⊢
    cases hp : Lib.hasPrefix s (bif decide (0 < n) then x.take n else x)
    · rw [hp] at h
      simp only [cond_false] at h
      obtain ⟨k, t, h1, h2, h3⟩ := name_ok n r (i + 1) s h
      refine ⟨k + 1, t, by simp; omega, by simpa using h2, ?_⟩
      simp only [cond_false]
      rw [h3]
      congr 1
      omega
    · refine ⟨0, s.drop (bif decide (0 < n) then x.take n else x).length, by simp, by simpa using pre_is hp, ?_⟩
      simp only [cond_true, Nat.add_zero]
theorem short_of (k : Nat) (h : k < 7) (t : List UInt8) : dname ((ddays.getD k []).take 3 ++ t) 3 ddays 0 = ((k : Int), t, true) := by
  match k, h with
  | 0, _ => rfl
  | 1, _ => rfl
  | 2, _ => rfl
  | 3, _ => rfl
  | 4, _ => rfl
  | 5, _ => rfl
  | 6, _ => rfl
theorem long_of (k : Nat) (h : k < 7) (t : List UInt8) : dname (ddays.getD k [] ++ t) 0 ddays 0 = ((k : Int), t, true) := by
  match k, h with
  | 0, _ => rfl
  | 1, _ => rfl
  | 2, _ => rfl
  | 3, _ => rfl
  | 4, _ => rfl
  | 5, _ => rfl
  | 6, _ => rfl
theorem index_occ : ∀ (s sub : List UInt8), 0 ≤ Lib.index s sub → Lib.occAt s sub (Lib.index s sub).toNat = true
  | [], sub, h => by
    cases sub with
    | nil => rfl
    | cons a t => simp [Lib.index] at h
  | b :: l, sub, h => by
    unfold Lib.index at h ⊢
    by_cases hp : sub.isPrefixOf (b :: l) = true
    · rw [if_pos hp]
      exact hp
    · rw [if_neg hp] at h ⊢
      by_cases hm : (Lib.index l sub == -1) = true
      · rw [if_pos hm] at h; simp at h
      · rw [if_neg hm] at h ⊢
        have h2 : 0 ≤ Lib.index l sub := by
          have := Lib.index_ge l sub
          rw [Bool.not_eq_true, beq_eq_false_iff_ne] at hm
          omega
        have ih := index_occ l sub h2
        have e : (Lib.index l sub + 1).toNat = (Lib.index l sub).toNat + 1 := by omega
        rw [e]
        exact ih
theorem month_ok {p q r : UInt8} (h0 : 0 ≤ Lib.index dmonths [p, q, r]) (h3 : Lib.index dmonths [p, q, r] % 3 = 0) : ∃ k : Nat, k < 12 ∧ rmons.getD k [] = [p, q, r] ∧ Lib.index dmonths [p, q, r] = 3 * (k : Int) := by
  have ho := index_occ dmonths [p, q, r] h0
  generalize Lib.index dmonths [p, q, r] = i at *
  obtain ⟨k, hk⟩ : ∃ k : Nat, i = 3 * (k : Int) := ⟨(i / 3).toNat, by omega⟩
  subst hk
  have hroom := Lib.occAt_room ho
  have hl : dmonths.length = 36 := by decide
  have hk : k < 12 := by
    rcases hroom with h | h
    · rw [hl] at h
      simp at h
      omega
    · simp at h
  have e3 : (3 * (k : Int)).toNat = 3 * k := by omega
  rw [e3] at ho
  refine ⟨k, hk, ?_, rfl⟩
  rw [Lib.occAt_iff_take _ _ _ (by rw [hl]; simp; omega)] at ho
  have := beq_iff_eq.1 ho
  rw [← this]
  have hall : ∀ k < 12, rmons.getD k [] = (dmonths.drop (3 * k)).take 3 := by decide
  exact hall k hk
theorem month_of (k : Nat) (hk : k < 12) : Lib.index dmonths (rmons.getD k []) = 3 * (k : Int) := by
  have hall : ∀ k < 12, Lib.index dmonths (rmons.getD k []) = 3 * (k : Int) := by decide
  exact hall k hk
theorem mon_at (k : Nat) (hk : k < 12) : rmonF (rmons.getD k []) rmons 1 = (k : Int) + 1 := by
  have hall : ∀ k < 12, rmonF (rmons.getD k []) rmons 1 = (k : Int) + 1 := by decide
  exact hall k hk
theorem mon_three (k : Nat) (hk : k < 12) : ∃ p q r, rmons.getD k [] = [p, q, r] := by
  have hall : ∀ k < 12, (rmons.getD k []).length = 3 := by decide
  have := hall k hk
  match h : rmons.getD k [], this with
  | [p, q, r], _ => exact ⟨p, q, r, rfl⟩
theorem short_three (k : Nat) (hk : k < 7) : ∃ p q r, (ddays.getD k []).take 3 = [p, q, r] := by
  have hall : ∀ k < 7, ((ddays.getD k []).take 3).length = 3 := by decide
  have := hall k hk
  match h : (ddays.getD k []).take 3, this with
  | [p, q, r], _ => exact ⟨p, q, r, rfl⟩
theorem rwd_short (n : Int) : rwd rshort n = (ddays.getD (n % 7).toNat []).take 3 := by
  have hall : ∀ k < 7, rshort.getD ((k + 3) % 7) [] = (ddays.getD k []).take 3 := by decide
  have := hall (n % 7).toNat (by omega)
  unfold rwd
  rw [← this]
  congr 1
  omega
theorem rwd_long (n : Int) : rwd rlong n = ddays.getD (n % 7).toNat [] := by
  have hall : ∀ k < 7, rlong.getD ((k + 3) % 7) [] = ddays.getD k [] := by decide
  have := hall (n % 7).toNat (by omega)
  unfold rwd
  rw [← this]
  congr 1
  omega
theorem long_plain (k : Nat) (hk : k < 7) (t : List UInt8) : rcomma (ddays.getD k [] ++ 44 :: t) = (ddays.getD k []).length := by
  match k, hk with
  | 0, _ => rfl
  | 1, _ => rfl
  | 2, _ => rfl
  | 3, _ => rfl
  | 4, _ => rfl
  | 5, _ => rfl
  | 6, _ => rfl
theorem days_one : ∀ i < 7, ∀ j < 7, (ddays.getD i []).take 3 = (ddays.getD j []).take 3 → i = j := by decide
theorem days_onel : ∀ i < 7, ∀ j < 7, ddays.getD i [] = ddays.getD j [] → i = j := by decide
end Go.Proofs.YtedmiganmifepaaGreatDoor
/- Dates: the walk of two. -/
namespace Go.Proofs.YtedmiganmifepaaGreatDoor
open Go.RowKit
set_option maxRecDepth 100000

def dtwo (n : Int) : List UInt8 := [UInt8.ofNat (48 + n / 10 % 10).toNat, UInt8.ofNat (48 + n % 10).toNat]
end Go.Proofs.YtedmiganmifepaaGreatDoor
/- Dates: what date.Put says, in plain words. -/
namespace Go.Proofs.YtedmiganmifepaaGreatDoor
open Go.RowKit
set_option maxRecDepth 100000

/-- The month of a day of a year, and what is left. -/
def dmon (y : Int) : Nat → Int → Int → Int × Int
  | 0, r, m => (r, m)
  | f + 1, r, m => if dlong y m ≤ r then dmon y f (r - dlong y m) (m + 1) else (r, m)
def dputD (d s : Int) : List UInt8 :=
  ((ddays.getD (d % 7).toNat []).take 3) ++ [44, 32] ++ dtwo ((dmon (dyearO d).1 12 (dyearO d).2 1).1 + 1) ++ [32] ++ ((dmonths.drop (3 * (dmon (dyearO d).1 12 (dyearO d).2 1).2.toNat - 3)).take 3) ++ [32] ++ dtwo ((dyearO d).1 / 100) ++ dtwo (dyearO d).1 ++ [32] ++ dtwo (s / 3600) ++ [58] ++ dtwo (s / 60 % 60) ++ [58] ++ dtwo (s % 60) ++ [32, 71, 77, 84]
/-- A tick's date. -/
def dputL (t : Int) : List UInt8 := if t < 0 ∨ 253402300799 < t then [] else dputD (t / 86400) (t % 86400)
theorem dputL_1000 : dputL 1000 = [84, 104, 117, 44, 32, 48, 49, 32, 74, 97, 110, 32, 49, 57, 55, 48, 32, 48, 48, 58, 49, 54, 58, 52, 48, 32, 71, 77, 84] := by decide +kernel
theorem dyear_end : ∀ (f : Nat) (d y : Int), 1970 ≤ y → d < 365 * (y - 1970) + 365 * f → dahead y ≤ d → dahead (dyear f d y) ≤ d ∧ d < dahead (dyear f d y + 1) ∧ 1970 ≤ dyear f d y
  | 0, d, y, hy, hf, ha => by have := dahead_ge y hy; omega
  | f + 1, d, y, hy, hf, ha => by
    rw [dyear]
    split
    · rename_i h
      exact dyear_end f d (y + 1) (by omega) (by omega) h
    · exact ⟨ha, by omega, hy⟩
theorem dahead_leap (y : Int) : dahead (y + 1) - dahead y = 365 + (if dleap y = true then 1 else 0) := by
  unfold dahead dleap
  by_cases h4 : y % 4 = 0
  · by_cases h100 : y % 100 = 0
    · by_cases h400 : y % 400 = 0
      · simp [h4, h100, h400]; omega
      · simp [h4, h100, h400]; omega
    · simp [h4, h100]; omega
  · have h400 : ¬ y % 400 = 0 := by omega
    simp [h4, h400]; omega
theorem dmons_12 (y : Int) : dmons y 12 = 365 + (if dleap y = true then 1 else 0) := by
  simp only [dmons, dlong]
  cases dleap y <;> simp
/-- The year of a day, and what is left of it. -/
theorem dyearO_ok (d : Int) (hd : 0 ≤ d ∧ d ≤ 2932896) : 1970 ≤ (dyearO d).1 ∧ (dyearO d).1 ≤ 9999 ∧ 0 ≤ (dyearO d).2 ∧ (dyearO d).2 < dmons (dyearO d).1 12 := by
  have h := dyear_end 9000 d (1970 + d / 366) (by omega) (by omega) (by have := (dahead_ge (1970 + d / 366) (by omega)).2; omega)
  unfold dyearO
  simp only
  generalize dyear 9000 d (1970 + d / 366) = Y at *
  have hl := dahead_leap Y
  rw [dmons_12]
  have hY : Y ≤ 9999 := by
    have h10 : dahead 10000 = 2932897 := by decide
    rcases Int.lt_or_le Y 10000 with h' | h'
    · omega
    · have hm : dahead 10000 ≤ dahead Y := by unfold dahead; omega
      omega
  exact ⟨h.2.2, hY, by omega, by omega⟩
end Go.Proofs.YtedmiganmifepaaGreatDoor
/- The document's dates: the walks of Leap, Days, num. -/
namespace Go.Proofs.YtedmiganmifepaaGreatDoor
open Go.RowKit
set_option maxRecDepth 100000

set_option maxHeartbeats 2000000 in
theorem ileap_any (y : Int) (hy : 0 ≤ y ∧ y ≤ 100000) (w : World) :
    Calls Tryz.prog 78 #[.int .i64 y] w fun e w' => e = .returned (.bool (dleap y)) ∧ w' = w := by
  have e4 : y.tmod 4 = y % 4 := Int.tmod_eq_emod_of_nonneg hy.1
  have e100 : y.tmod 100 = y % 100 := Int.tmod_eq_emod_of_nonneg hy.1
  have e400 : y.tmod 400 = y % 400 := Int.tmod_eq_emod_of_nonneg hy.1
  obtain ⟨R, hR⟩ : ∃ R, dleap y = R := ⟨_, rfl⟩
  rw [hR]
  unfold dleap at hR
  have HR := Lib.hid hR
  clear hR
  by_cases h400 : y % 400 = 0
  · have h4 : y % 4 = 0 := by omega
    have hx : R = true := by rw [← HR.out]; simp [h4, h400]
    subst hx
    clear HR h4
    go_enter Tryz.func78, Tryz.ntmps78
    go_wp2
    go_ret
    exact ⟨rfl, rfl⟩
  · by_cases h4 : y % 4 = 0
    · by_cases h100 : y % 100 = 0
      · have hx : R = false := by rw [← HR.out]; simp [h4, h100, h400]
        subst hx
        clear HR
        go_enter Tryz.func78, Tryz.ntmps78
        go_wp2
        go_ret
        exact ⟨by first | rfl | simp [h400], rfl⟩
      · have hx : R = true := by rw [← HR.out]; simp [h4, h100]
        subst hx
        clear HR
        go_enter Tryz.func78, Tryz.ntmps78
        go_wp2
        go_ret
        exact ⟨by first | rfl | simp [h100], rfl⟩
    · have hx : R = false := by rw [← HR.out]; simp [h4, h400]
      subst hx
      clear HR
      go_enter Tryz.func78, Tryz.ntmps78
      go_wp2
      go_ret
      exact ⟨by first | rfl | simp [h400], rfl⟩

/-- The months' days, as the document lays them. -/
def mlens : Array Value := #[.int .i64 31, .int .i64 28, .int .i64 31, .int .i64 30, .int .i64 31, .int .i64 30, .int .i64 31, .int .i64 31, .int .i64 30, .int .i64 31, .int .i64 30, .int .i64 31]
theorem mlens_at (y m : Int) (hm : 1 ≤ m ∧ m ≤ 12) (h2 : m = 2 → dleap y = false) : mlens[(m - 1).toNat]? = some (.int .i64 (dlong y m)) := by
  have hm' : m = 1 ∨ m = 2 ∨ m = 3 ∨ m = 4 ∨ m = 5 ∨ m = 6 ∨ m = 7 ∨ m = 8 ∨ m = 9 ∨ m = 10 ∨ m = 11 ∨ m = 12 := by omega
  rcases hm' with rfl | rfl | rfl | rfl | rfl | rfl | rfl | rfl | rfl | rfl | rfl | rfl
  · rfl
  · have : dlong y 2 = 28 := by unfold dlong; rw [if_pos rfl, h2 rfl]; rfl
    rw [this]; rfl
  all_goals rfl
set_option maxHeartbeats 4000000 in
theorem idays_any (y m : Int) (hy : 0 ≤ y ∧ y ≤ 100000) (hm : 1 ≤ m ∧ m ≤ 12) (w : World) :
    Calls Tryz.prog 58 #[.int .i64 y, .int .i64 m] w fun e w' => e = .returned (.int .i64 (dlong y m)) ∧ Below w.heap.size w w' := by
  obtain ⟨W1, hW1⟩ : ∃ W1, w.alloc (.cells mlens 3) = W1 := ⟨_, rfl⟩
  have b1 : Below w.heap.size w W1 := by rw [← hW1]; exact (Below.refl w.heap.size w).alloc (Nat.le_refl _) _
  have x1 : W1.heap[w.heap.size]? = some (.cells mlens 3 (0, 0)) := by rw [← hW1]; exact heap_new w _ _ rfl
  have k := ileap_any y hy W1
  have hw1 : IntKind.i64.wrap (m - 1) = m - 1 := by rw [IntKind.wrap_i64]; omega
  have hi1 : decide ((m - 1 : Int) < 0) = false := by simp; omega
  have hi2 : decide ((m - 1 : Int) ≥ 12) = false := by simp; omega
  unfold mlens at hW1
  by_cases h2 : m = 2
  · subst h2
    have hx : dlong y 2 = if dleap y = true then 29 else 28 := by unfold dlong; rw [if_pos rfl]
    have c1 := (of_heap x1 1).1
    have c1' : W1.cell? ⟨w.heap.size, 1, none⟩ = some (.int .i64 28) := c1
    rw [hx]
    generalize dleap y = b at *
    have K := Lib.hid k; have HW1 := Lib.hid hW1
    clear k hx c1 x1 hW1
    cases b
    · go_enter Tryz.func58, Tryz.ntmps58
      go_upto_region 2 with (fail)
      rw [HW1.out]
      go_wp2_with fail
      (with_reducible refine K.out.mono ?_)
      rintro e w1 ⟨rfl, rfl⟩
      go_wp2
      go_ret
      exact ⟨rfl, b1⟩
    · go_enter Tryz.func58, Tryz.ntmps58
      go_upto_region 2 with (fail)
      rw [HW1.out]
      go_wp2_with fail
      (with_reducible refine K.out.mono ?_)
      rintro e w1 ⟨rfl, rfl⟩
      go_wp2
      go_ret
      exact ⟨rfl, b1⟩
  · have hc := (of_heap x1 (m - 1).toNat).1
    rw [mlens_at y m hm (fun h => absurd h h2)] at hc
    generalize dlong y m = out at *
    obtain ⟨q, hq⟩ : ∃ q : Nat, m = q + 1 := ⟨(m - 1).toNat, by omega⟩
    subst hq
    have e1 : ((q : Int) + 1 - 1).toNat = q := by omega
    rw [e1] at hc
    have t2 : ((q : Int) + 1 == 2) = false := by simp; omega
    have hq12 : q < 12 := by omega
    have hwq : IntKind.i64.wrap ((q : Int) + 1 - 1) = (q : Int) := by rw [IntKind.wrap_i64]; omega
    have HW1 := Lib.hid hW1
    clear k x1 hW1 hw1 hi1 hi2 e1
    go_enter Tryz.func58, Tryz.ntmps58
    go_upto_region 2 with (fail)
    rw [HW1.out]
    go_wp2
    go_ret
    exact ⟨rfl, b1⟩

theorem drop_snoc (s : ByteArray) (a j : Nat) (h : a + j < s.size) : (s.data.toList.drop a).take (j + 1) = (s.data.toList.drop a).take j ++ [s[a + j]] := by
  rw [List.take_succ_eq_append_getElem (by rw [List.length_drop, ← Lib.size_eq]; omega), List.getElem_drop]; rfl
set_option maxHeartbeats 4000000 in
theorem inum_any (s : ByteArray) (a n : Nat) (ha : a ≤ 1000000000) (hn : n ≤ 4) (w : World) :
    Calls Tryz.prog 35 #[.string s, .int .i64 a, .int .i64 n] w fun e w' => e = .returned (.int .i64 (rnum s.data.toList a n)) ∧ w' = w := by
  obtain ⟨R, hR⟩ : ∃ R, rnum s.data.toList a n = R := ⟨_, rfl⟩
  rw [hR]
  unfold rnum at hR
  rw [← Lib.size_eq] at hR
  have hwn : IntKind.i64.wrap ((a : Int) + n) = (a : Int) + n := by rw [IntKind.wrap_i64]; omega
  have t0 : decide ((a : Int) < 0) = false := by simp
  by_cases hlt : s.size < a + n
  · rw [if_pos hlt] at hR
    subst hR
    have t1 : decide ((a : Int) + n > s.size) = true := by simp; omega
    go_enter Tryz.func35, Tryz.ntmps35
    go_wp2
    go_ret
    exact ⟨rfl, rfl⟩
  · have t1 : decide ((a : Int) + n > s.size) = false := by simp; omega
    rw [if_neg hlt] at hR
    have HR := Lib.hid hR
    clear hR
    go_enter Tryz.func35, Tryz.ntmps35
    go_wp2_with fail
    go_loopw [7, 8] (fun k i wr => ∃ j : Nat, j ≤ n ∧ i = .int .i64 ((a + j : Nat) : Int) ∧ (∃ v, k = .int .i64 v ∧ Hid (v = dnum ((s.data.toList.drop a).take j) 0)) ∧ Hid (((s.data.toList.drop a).take j).all dg = true) ∧ wr = w) (fun _ i _ => a + n - (intD i).toNat)
    case atStart => exact ⟨0, Nat.zero_le _, rfl, ⟨0, rfl, Lib.hid (by simp [dnum])⟩, Lib.hid (by simp), rfl⟩
    case round =>
      obtain ⟨j, hj, rfl, ⟨v, rfl, HV⟩, HALL, rfl⟩ := hrel
      by_cases hjn : j < n
      · have hjs : a + j < s.size := by omega
        have hu := u8_lt s[a + j]
        have hts := drop_snoc s a j hjs
        have t3 : decide (((a + j : Nat) : Int) < (a : Int) + n) = true := by simp; omega
        cases hdg : dg s[a + j]
        · have hbad : ((s.data.toList.drop a).take n).all dg = false := by
            rw [List.all_eq_false]
            refine ⟨s[a + j], ?_, by simp [hdg]⟩
            rw [List.mem_take_iff_getElem]
            exact ⟨j, by rw [List.length_drop, ← Lib.size_eq]; omega, by rw [List.getElem_drop]; rfl⟩
          have hR2 : R = -1 := by rw [← HR.out, hbad]; rfl
          have hI := dgI s[a + j]
          rw [hdg] at hI
          subst hR2
          have hcase : (s[a + j].toNat : Int) < 48 ∨ (¬ (s[a + j].toNat : Int) < 48 ∧ 57 < (s[a + j].toNat : Int)) := by
            have := hI
            simp at this
            omega
          clear hI hdg hbad hts HR
          generalize hP : a + j = P at *
          rcases hcase with hc | ⟨hc1, hc2⟩
          · have t1 : decide ((s[P].toNat : Int) < 48) = true := by simpa using hc
            go_wp2
            go_ret
            exact ⟨rfl, rfl⟩
          · have t1 : decide ((s[P].toNat : Int) < 48) = false := by simpa using hc1
            have t2 : decide ((s[P].toNat : Int) > 57) = true := by simpa using hc2
            go_wp2
            go_ret
            exact ⟨rfl, rfl⟩
        · have hI := dgI s[a + j]
          rw [hdg] at hI
          have hc : 48 ≤ (s[a + j].toNat : Int) ∧ (s[a + j].toNat : Int) ≤ 57 := by
            have := hI.symm
            simp at this
            omega
          have hb := dnum_le ((s.data.toList.drop a).take j) HALL.out 0 (by omega)
          rw [← HV.out] at hb
          have hl4 : ((s.data.toList.drop a).take j).length ≤ 3 := by rw [List.length_take]; omega
          have hp : ((10 : Int)) ^ ((s.data.toList.drop a).take j).length ≤ 1000 := by
            generalize ((s.data.toList.drop a).take j).length = L at hl4
            have h4 : L = 0 ∨ L = 1 ∨ L = 2 ∨ L = 3 := by omega
            rcases h4 with rfl | rfl | rfl | rfl <;> decide
          have hv : 0 ≤ v ∧ v ≤ 1000 := by omega
          have hnext : 10 * v + ((s[a + j].toNat : Int) - 48) = dnum ((s.data.toList.drop a).take (j + 1)) 0 := by rw [hts, dnum_snoc, ← HV.out]
          have hall : ((s.data.toList.drop a).take (j + 1)).all dg = true := by rw [hts, List.all_append, HALL.out]; simp [hdg]
          have HN := Lib.hid hnext; have HA2 := Lib.hid hall
          clear hI hdg hb hp hl4 hnext hall hts HV HALL HR
          generalize hP : a + j = P at *
          have hP1 : ((a + (j + 1) : Nat) : Int) = ((P + 1 : Nat) : Int) := by omega
          have t1 : decide ((s[P].toNat : Int) < 48) = false := by simp; omega
          have t2 : decide ((s[P].toNat : Int) > 57) = false := by simp; omega
          have hw1 : IntKind.i64.wrap (10 * v) = 10 * v := by rw [IntKind.wrap_i64]; omega
          have hw2 : IntKind.u8.wrap ((s[P].toNat : Int) - 48) = (s[P].toNat : Int) - 48 := by rw [IntKind.wrap_u8]; omega
          have hw3 : IntKind.i64.wrap ((s[P].toNat : Int) - 48) = (s[P].toNat : Int) - 48 := by rw [IntKind.wrap_i64]; omega
          have hw4 : IntKind.i64.wrap (10 * v + ((s[P].toNat : Int) - 48)) = 10 * v + ((s[P].toNat : Int) - 48) := by rw [IntKind.wrap_i64]; omega
          have hw5 : IntKind.i64.wrap ((P : Int) + 1) = ((P + 1 : Nat) : Int) := by rw [IntKind.wrap_i64]; omega
          have HP := Lib.hid hP; have HP1 := Lib.hid hP1
          clear hP hP1
          go_wp2
          go_roundw
          case rel => exact ⟨j + 1, hjn, by rw [HP1.out]; rfl, ⟨_, rfl, HN⟩, HA2, trivial⟩
          case measure => have := HP.out; simp [intD]; omega
      · have hjn2 : j = n := by omega
        subst hjn2
        have hR2 : R = v := by rw [← HR.out, HALL.out, ← HV.out]; rfl
        have t3 : decide (((a + j : Nat) : Int) < (a : Int) + j) = false := by simp
        subst hR2
        clear HR HALL HV
        go_wp2
        go_ret
        exact ⟨rfl, rfl⟩
end Go.Proofs.YtedmiganmifepaaGreatDoor
/- The document's dates: the walk of Count. -/
namespace Go.Proofs.YtedmiganmifepaaGreatDoor
open Go.RowKit
set_option maxRecDepth 100000

set_option maxHeartbeats 8000000 in
theorem icount_any (Y Mo D h mi s : Int) (hY : 1970 ≤ Y ∧ Y ≤ 9999) (hMo : 1 ≤ Mo ∧ Mo ≤ 12) (hD : 1 ≤ D ∧ D ≤ 31) (w : World) :
    Calls Tryz.prog 60 #[.agg #[.int .i64 Y, .int .i64 Mo, .int .i64 D, .int .i64 h, .int .i64 mi, .int .i64 s]] w fun e w' => e = .returned (.int .i64 (rcount ⟨Y, Mo, D, h, mi, s⟩)) ∧ Below w.heap.size w w' := by
  obtain ⟨N, rfl⟩ : ∃ N : Nat, Y = 1970 + N := ⟨(Y - 1970).toNat, by omega⟩
  obtain ⟨M, rfl⟩ : ∃ M : Nat, Mo = (M : Int) + 1 := ⟨(Mo - 1).toNat, by omega⟩
  obtain ⟨R, hR⟩ : ∃ R, rcount ⟨1970 + N, (M : Int) + 1, D, h, mi, s⟩ = R := ⟨_, rfl⟩
  rw [hR]
  have hR2 : R = D - 1 + dahead (1970 + N) + dmons (1970 + N) M := by
    rw [← hR]; unfold rcount
    simp only
    rw [show (((M : Int) + 1).toNat - 1) = M by omega]
  clear hR
  obtain ⟨W1, hW1⟩ : ∃ W1, w.alloc (.cells #[.int .i64 (1970 + N), .int .i64 ((M : Int) + 1), .int .i64 D, .int .i64 h, .int .i64 mi, .int .i64 s] 65) = W1 := ⟨_, rfl⟩
  have b1 : Below w.heap.size w W1 := by rw [← hW1]; exact (Below.refl w.heap.size w).alloc (Nat.le_refl _) _
  have x1 : W1.heap[w.heap.size]? = some (.cells #[.int .i64 (1970 + N), .int .i64 ((M : Int) + 1), .int .i64 D, .int .i64 h, .int .i64 mi, .int .i64 s] 65 (0, 0)) := by rw [← hW1]; exact heap_new w _ _ rfl
  have c0 := (of_heap x1 0).1; have c1 := (of_heap x1 1).1; have c2 := (of_heap x1 2).1; have hEl := (of_heap x1 0).2.2
  simp only [List.getElem?_toArray, List.getElem?_cons_succ, List.getElem?_cons_zero] at c0 c1 c2
  have hwD : IntKind.i64.wrap (D - 1) = D - 1 := by rw [IntKind.wrap_i64]; omega
  have HW1 := Lib.hid hW1; have HR := Lib.hid hR2
  clear hW1 x1 hR2
  go_enter Tryz.func60, Tryz.ntmps60
  go_upto_region 1 with (fail)
  rw [HW1.out]
  go_wp2_with fail
  go_loopw [3, 4] (fun n y wr => ∃ k : Nat, k ≤ N ∧ y = .int .i64 (1970 + k) ∧ (∃ z, n = .int .i64 z ∧ Hid (z = D - 1 + dahead (1970 + k))) ∧ W1 = wr) (fun _ y _ => N + 1970 - (intD y).toNat)
  case atStart => exact ⟨0, Nat.zero_le _, rfl, ⟨D - 1, rfl, Lib.hid (by have : dahead (1970 + ((0 : Nat) : Int)) = 0 := by decide
                                                                         omega)⟩, rfl⟩
  case round =>
    obtain ⟨k, hk, rfl, ⟨z, rfl, HZ⟩, rfl⟩ := hrel
    have hge := dahead_ge (1970 + k) (by omega)
    have hzz := HZ.out
    by_cases hlt : k < N
    · have t1 : decide ((1970 + (k : Int)) < 1970 + N) = true := by simp; omega
      have hdl := dahead_leap (1970 + k)
      have kl := ileap_any (1970 + k) (by omega) W1
      have e1 : (1970 + (k : Int)) + 1 = 1970 + ((k + 1 : Nat) : Int) := by omega
      rw [e1] at hdl
      have hw1 : IntKind.i64.wrap (z + 365) = z + 365 := by rw [IntKind.wrap_i64]; omega
      have hw2 : IntKind.i64.wrap (z + 365 + 1) = z + 365 + 1 := by rw [IntKind.wrap_i64]; omega
      have hw3 : IntKind.i64.wrap (1970 + (k : Int) + 1) = 1970 + ((k + 1 : Nat) : Int) := by rw [e1, IntKind.wrap_i64]; omega
      cases hb : dleap (1970 + k)
      · rw [hb] at kl hdl
        have hn : z + 365 = D - 1 + dahead (1970 + ((k + 1 : Nat) : Int)) := by rw [if_neg (by simp)] at hdl; omega
        have HN := Lib.hid hn; have KL := Lib.hid kl
        clear hn kl hdl e1 hb hge hzz HZ hw2
        go_wp2_with fail
        (with_reducible refine KL.out.mono ?_)
        rintro e w2 ⟨rfl, rfl⟩
        go_wp2
        go_roundw
        case rel => exact ⟨k + 1, hlt, rfl, ⟨_, rfl, HN⟩, trivial⟩
        case measure => simp [intD]; omega
      · rw [hb] at kl hdl
        have hn : z + 365 + 1 = D - 1 + dahead (1970 + ((k + 1 : Nat) : Int)) := by rw [if_pos rfl] at hdl; omega
        have HN := Lib.hid hn; have KL := Lib.hid kl
        clear hn kl hdl e1 hb hge hzz HZ
        go_wp2_with fail
        (with_reducible refine KL.out.mono ?_)
        rintro e w2 ⟨rfl, rfl⟩
        go_wp2
        go_roundw
        case rel => exact ⟨k + 1, hlt, rfl, ⟨_, rfl, HN⟩, trivial⟩
        case measure => simp [intD]; omega
    · have hke : k = N := by omega
      subst hke
      have hRz : R = z + dmons (1970 + k) M := by rw [HR.out, hzz]
      have hzb : 0 ≤ z ∧ z ≤ 3000000 := by omega
      have HR := Lib.hid hRz
      clear hRz hge hzz HZ hlt
      go_wp2_with fail
      go_loopw [3, 5] (fun n m wr => ∃ j : Nat, j ≤ M ∧ m = .int .i64 ((j : Int) + 1) ∧ (∃ v, n = .int .i64 v ∧ Hid (v = z + dmons (1970 + k) j)) ∧ Below W1.heap.size W1 wr) (fun _ m _ => M + 1 - (intD m).toNat)
      case atStart => exact ⟨0, Nat.zero_le _, rfl, ⟨z, rfl, Lib.hid (by simp [dmons])⟩, Below.refl _ _⟩
      case round =>
        obtain ⟨j, hj, rfl, ⟨v, rfl, HV⟩, hbw⟩ := hrel
        have g0 := (hbw.cell (p := ⟨w.heap.size, 0, none⟩) hEl).trans c0
        have g1 := (hbw.cell (p := ⟨w.heap.size, 1, none⟩) hEl).trans c1
        have hdm := dmons_le (1970 + k) j
        have hvv := HV.out
        by_cases hlt : j < M
        · have t1 : decide (((j : Int) + 1) < (M : Int) + 1) = true := by simp; omega
          have hdl := dlong_le (1970 + k) ((j : Int) + 1)
          have kd := idays_any (1970 + k) ((j : Int) + 1) (by omega) (by omega) wr
          have hst : dmons (1970 + (k : Int)) (j + 1) = dmons (1970 + k) j + dlong (1970 + k) ((j : Int) + 1) := rfl
          generalize dlong (1970 + (k : Int)) ((j : Int) + 1) = q at *
          have hw1 : IntKind.i64.wrap (v + q) = v + q := by rw [IntKind.wrap_i64]; omega
          have hw2 : IntKind.i64.wrap ((j : Int) + 1 + 1) = ((j + 1 : Nat) : Int) + 1 := by rw [IntKind.wrap_i64]; omega
          have hn : v + q = z + dmons (1970 + k) (j + 1) := by omega
          have HN := Lib.hid hn; have KD := Lib.hid kd
          clear hn kd hst hdl hdm hvv HV
          go_wp2_with fail
          (with_reducible refine KD.out.mono ?_)
          rintro e w2 ⟨rfl, hb2⟩
          have hB2 := hbw.trans (hb2.mono hbw.size)
          go_wp2
          go_roundw
          case rel => exact ⟨j + 1, hlt, rfl, ⟨_, rfl, HN⟩, hB2⟩
          case measure => simp [intD]; omega
        · have hje : j = M := by omega
          subst hje
          have t1 : decide (((j : Int) + 1) < (j : Int) + 1) = false := by simp
          have hx : R = v := by rw [HR.out, hvv]
          subst hx
          clear HR HV hvv hdm
          go_wp2
          go_ret
          exact ⟨rfl, bt b1 hbw⟩
end Go.Proofs.YtedmiganmifepaaGreatDoor
