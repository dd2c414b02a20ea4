/- Joined out of the texts Date6, Date7, Date8, RefAsk, May, ParseSpec, Cut, Parse, RMay, ROne, Check04, Build, Bytes, Put04, Date9, DateP (wip/tools/merge.py). -/
import Derived.Test.YtgmmjhcklhajiaaGreatDoorPm3
import Derived.Laws.RangeString
import Derived.WalkMore
import Derived.Laws.EntriesVeiled
import Derived.Lib.CutLaws
import Derived.Lib.IndexMore
import Derived.Lib.IndexLaws
import Derived.Test.YtgmmjhcklhajiaaGreatDoorShelf
import Derived.Laws.ResultCell
import Derived.Deep.RegionHeld3
import Derived.Lib.FrozenHead2
import Derived.Lib.OthersKept
import Derived.Shelf.Strings.BuilderK
import Derived.Lib.AppendStr
/- Dates: the walk of tick, of a year of two digits (printed by wip/tools/date5.py). -/
namespace Go.Proofs.YtgmmjhcklhajiaaGreatDoor
open Go.RowKit
set_option maxRecDepth 100000

set_option maxHeartbeats 32000000 in
theorem dtick_two (mb : Nat) (m : Mom) (now : Int) (w : World) (hm : MomAt mb m w) (ho : MomOk m) (h2 : m.two = true) :
    Calls Tryz.prog 153 #[.pointer (some ⟨mb, 0, none⟩), .int .i64 now] w (TickPost mb w (dtick m now)) := by
  obtain ⟨R, hR⟩ : ∃ R, dtick m now = R := ⟨_, rfl⟩
  rw [hR]
  obtain ⟨dn, hdn⟩ : ∃ dn, max 0 (min now 253402300799) / 86400 = dn := ⟨_, rfl⟩
  have hdn0 : dnow now = dn := hdn
  have hdnb : 0 ≤ dn ∧ dn ≤ 3000000 := by omega
  have hwq : IntKind.i64.wrap dn = dn := by rw [IntKind.wrap_i64]; omega
  have HDN := Lib.hid hdn
  have ky := dyear_any dn hdnb w
  have hyg := dyear_ge 9000 dn (1970 + dn / 366)
  obtain ⟨YY, hYY⟩ : ∃ YY, dyear 9000 dn (1970 + dn / 366) = YY := ⟨_, rfl⟩
  have hyo : (dyearO dn).1 = YY := hYY
  rw [hyo] at ky
  rw [hYY] at hyg
  generalize (dyearO dn).2 = rst at *
  have ho2 := ho.two h2
  obtain ⟨oy1, oy2⟩ := ho.year
  have hYb0 : 1970 ≤ YY ∧ YY ≤ 30000 := by omega
  obtain ⟨Y, hY⟩ : ∃ Y, (YY + 50) - ((YY + 50) - m.year) % 100 = Y := ⟨_, rfl⟩
  have hy : dyr m now = Y := by unfold dyr; rw [if_pos h2, hdn0, hyo]; exact hY
  have hYb : 0 ≤ Y ∧ Y ≤ 100000 := by omega
  have em0 : ((YY + 50) - m.year).tmod 100 = ((YY + 50) - m.year) % 100 := Int.tmod_eq_emod_of_nonneg (by omega)
  obtain ⟨md, hmd⟩ : ∃ md, ((YY + 50) - m.year) % 100 = md := ⟨_, rfl⟩
  rw [hmd] at em0 hY
  have w1 : IntKind.i64.wrap (YY + 50) = YY + 50 := by rw [IntKind.wrap_i64]; omega
  have w2 : IntKind.i64.wrap (YY + 50 - m.year) = YY + 50 - m.year := by rw [IntKind.wrap_i64]; omega
  have w3 : IntKind.i64.wrap (YY + 50 - md) = YY + 50 - md := by rw [IntKind.wrap_i64]; omega
  obtain ⟨c0, c1, c2, c3, c4, c5, c6, c7, hf⟩ := hm.cells
  have f3 := hf 3
  rw [h2] at c7
  have HR0 := Lib.hid hR; have HY := Lib.hid hy; have HO := Lib.hid ho; have HM := Lib.hid hm; have KY := Lib.hid ky; have HYE := Lib.hid hY
  obtain ⟨ow1, ow2⟩ := ho.wd
  obtain ⟨od1, od2⟩ := ho.day
  obtain ⟨om1, om2⟩ := ho.month
  obtain ⟨oh1, oh2⟩ := ho.hour
  obtain ⟨on1, on2⟩ := ho.minute
  obtain ⟨os1, os2⟩ := ho.second
  clear hR hy hm ho hf h2 hY hdn0 hdn hyg hYY hyo hmd ky
  go_enter Tryz.func153, Tryz.ntmps153
  go_wp2_with fail
  rw [HDN.out]
  (with_reducible refine KY.out.mono ?_)
  rintro e wy ⟨rfl, rfl⟩
  go_upto_region 5 with (fail)
  rw [HYE.out]
  have hm2 : MomAt mb { m with year := Y } ((wy.drewN 0).setCell ⟨mb, 3, none⟩ (.int .i64 Y)) := HM.out.set3 (q := 0) Y
  have hb2 : ButB mb wy ((wy.drewN 0).setCell ⟨mb, 3, none⟩ (.int .i64 Y)) := ButB.set mb 3 0 wy _
  obtain ⟨WZ, hWZ⟩ : ∃ WZ, wy.setCell ⟨mb, 3, none⟩ (.int .i64 Y) = WZ := ⟨_, rfl⟩
  have hm3 : MomAt mb { m with year := Y } WZ := by rw [← hWZ]; exact hm2
  have hb3 : ButB mb wy WZ := by rw [← hWZ]; exact hb2
  rw [hWZ]
  clear c0 c1 c2 c3 c4 c5 c6 c7 f3 hm2 hb2 hwq em0 w1 w2 w3 hWZ
  obtain ⟨c0, c1, c2, c3, c4, c5, c6, c7, _⟩ := hm3.cells
  simp only at c0 c1 c2 c3 c4 c5 c6 c7
  have HBT := Lib.hid hb3
  clear hm3 hb3
  have kl := fun w' => dlong_any Y m.month hYb w'
  have KL := Lib.hid kl
  clear kl
  have hlb := dlong_le Y m.month
  by_cases q1 : Y < 1970
  · have hR2 : R = (0, false) := by rw [← HR0.out]; unfold dtick; rw [HY.out, if_pos (Or.inl q1)]
    have HR := Lib.hid hR2.symm
    clear hR2
    have t1 : decide (Y < 1970) = true := by simpa using q1
    go_wp2
    go_region
    go_wp2
    go_ret2
    exact ⟨by rw [← HR.out]; rfl, HBT.out.drewN 1⟩
  have t1 : decide (Y < 1970) = false := by simpa using q1
  by_cases q2 : Y > 9999
  · have hR2 : R = (0, false) := by rw [← HR0.out]; unfold dtick; rw [HY.out, if_pos (Or.inr (Or.inl q2))]
    have HR := Lib.hid hR2.symm
    clear hR2
    have t2 : decide (Y > 9999) = true := by simpa using q2
    go_wp2
    go_region
    go_wp2
    go_ret2
    exact ⟨by rw [← HR.out]; rfl, HBT.out.drewN 1⟩
  have t2 : decide (Y > 9999) = false := by simpa using q2
  by_cases q3 : m.day < 1
  · have hR2 : R = (0, false) := by rw [← HR0.out]; unfold dtick; rw [HY.out, if_pos (Or.inr (Or.inr (Or.inl q3)))]
    have HR := Lib.hid hR2.symm
    clear hR2
    have t3 : decide (m.day < 1) = true := by simpa using q3
    go_wp2
    go_region
    go_wp2
    go_ret2
    exact ⟨by rw [← HR.out]; rfl, HBT.out.drewN 1⟩
  have t3 : decide (m.day < 1) = false := by simpa using q3
  by_cases q4 : m.day > dlong Y m.month
  · have hR2 : R = (0, false) := by rw [← HR0.out]; unfold dtick; rw [HY.out, if_pos (Or.inr (Or.inr (Or.inr (Or.inl q4))))]
    have HR := Lib.hid hR2.symm
    clear hR2
    have t4 : decide (m.day > dlong Y m.month) = true := by simpa using q4
    go_wp2
    refine wp_region_held_drew (S := (fun w' => w'.cell? ⟨mb, 1, none⟩ = some (.int .i64 m.day) ∧ w'.cell? ⟨mb, 2, none⟩ = some (.int .i64 m.month) ∧ w'.cell? ⟨mb, 3, none⟩ = some (.int .i64 Y) ∧ w'.cell? ⟨mb, 4, none⟩ = some (.int .i64 m.hour) ∧ w'.cell? ⟨mb, 5, none⟩ = some (.int .i64 m.minute) ∧ w'.cell? ⟨mb, 6, none⟩ = some (.int .i64 m.second))) (by kernel_rfl) (⟨c1, c2, c3, c4, c5, c6⟩) (fun hHeld => ?_)
    refine wpAnyH_take (i := 0) (v := ?_) (by simp only [List.getElem?_toArray, List.getElem?_cons_zero]; exact rfl) (by kernel_rfl) (by kernel_rfl) (by kernel_rfl) (by intro _ _ _ h; exact h) (Or.inl ⟨by rfl, fun W hSw => ?_⟩) hHeld ?_
    rotate_left
    focus ((try dsimp only at hSw); first | (go_simp; done) | (go_simp; with_reducible rfl))
    try simp only [Act.put, List.setIfInBounds_toArray, List.set_cons_zero, List.set_cons_succ]
    refine wpAnyH_take (i := 1) (v := ?_) (by simp only [List.getElem?_toArray, List.getElem?_cons_succ, List.getElem?_cons_zero]; exact rfl) (by kernel_rfl) (by kernel_rfl) (by kernel_rfl) (by intro _ _ _ h; exact h) (Or.inl ⟨by rfl, fun W hSw => ?_⟩) hHeld ?_
    rotate_left
    focus ((try dsimp only at hSw); first | (go_simp; done) | (go_simp; with_reducible rfl))
    try simp only [Act.put, List.setIfInBounds_toArray, List.set_cons_zero, List.set_cons_succ]
    refine wpAnyH_take (i := 2) (v := ?_) (by simp only [List.getElem?_toArray, List.getElem?_cons_succ, List.getElem?_cons_zero]; exact rfl) (by kernel_rfl) (by kernel_rfl) (by kernel_rfl) (by intro _ _ _ h; exact h) (Or.inl ⟨by rfl, fun W hSw => ?_⟩) hHeld ?_
    rotate_left
    focus ((try dsimp only at hSw); first | (go_simp; done) | (go_simp; with_reducible rfl))
    try simp only [Act.put, List.setIfInBounds_toArray, List.set_cons_zero, List.set_cons_succ]
    refine wpAnyH_take (i := 3) (v := ?_) (by simp only [List.getElem?_toArray, List.getElem?_cons_succ, List.getElem?_cons_zero]; exact rfl) (by kernel_rfl) (by kernel_rfl) (by kernel_rfl) (by intro _ _ _ h; exact h) (Or.inl ⟨by rfl, fun W hSw => ?_⟩) hHeld ?_
    rotate_left
    focus ((try dsimp only at hSw); first | (go_simp; done) | (go_simp; with_reducible rfl))
    try simp only [Act.put, List.setIfInBounds_toArray, List.set_cons_zero, List.set_cons_succ]
    refine wpAnyH_take (i := 4) (v := ?_) (by simp only [List.getElem?_toArray, List.getElem?_cons_succ, List.getElem?_cons_zero]; exact rfl) (by kernel_rfl) (by kernel_rfl) (by kernel_rfl) (by intro _ _ _ h; exact h) (Or.inl ⟨by rfl, fun W hSw => ?_⟩) hHeld ?_
    rotate_left
    focus ((try dsimp only at hSw); first | (go_simp; done) | (go_simp; with_reducible rfl))
    try simp only [Act.put, List.setIfInBounds_toArray, List.set_cons_zero, List.set_cons_succ]
    refine wpAnyH_take (i := 5) (v := ?_) (by simp only [List.getElem?_toArray, List.getElem?_cons_succ, List.getElem?_cons_zero]; exact rfl) (by kernel_rfl) (by kernel_rfl) (by kernel_rfl) (by intro _ _ _ h; exact h) (Or.inl ⟨by rfl, fun W hSw => ?_⟩) hHeld ?_
    rotate_left
    focus ((try dsimp only at hSw); first | (go_simp; done) | (go_simp; with_reducible rfl))
    try simp only [Act.put, List.setIfInBounds_toArray, List.set_cons_zero, List.set_cons_succ]
    refine wpAnyH_take (i := 6) (v := ?_) (by simp only [List.getElem?_toArray, List.getElem?_cons_succ, List.getElem?_cons_zero]; exact rfl) (by kernel_rfl) (by kernel_rfl) (by kernel_rfl) (by intro _ _ _ h; exact h) (Or.inl ⟨by rfl, fun W hSw => ?_⟩) hHeld ?_
    rotate_left
    focus ((try dsimp only at hSw); first | (go_simp; done) | (go_simp; with_reducible rfl))
    try simp only [Act.put, List.setIfInBounds_toArray, List.set_cons_zero, List.set_cons_succ]
    refine wpAnyH_take (i := 7) (v := ?_) (by simp only [List.getElem?_toArray, List.getElem?_cons_succ, List.getElem?_cons_zero]; exact rfl) (by kernel_rfl) (by kernel_rfl) (by kernel_rfl) (by intro _ _ _ h; exact h) (Or.inl ⟨by rfl, fun W hSw => ?_⟩) hHeld ?_
    rotate_left
    focus ((try dsimp only at hSw); first | (go_simp; done) | (go_simp; with_reducible rfl))
    try simp only [Act.put, List.setIfInBounds_toArray, List.set_cons_zero, List.set_cons_succ]
    refine wpAnyH_take (i := 8) (v := ?_) (by simp only [List.getElem?_toArray, List.getElem?_cons_succ, List.getElem?_cons_zero]; exact rfl) (by kernel_rfl) (by kernel_rfl) (by kernel_rfl) (by intro _ _ _ h; exact h) (Or.inl ⟨by rfl, fun W hSw => ?_⟩) hHeld ?_
    rotate_left
    focus ((try dsimp only at hSw); first | (go_simp; done) | (go_simp; with_reducible rfl))
    try simp only [Act.put, List.setIfInBounds_toArray, List.set_cons_zero, List.set_cons_succ]
    refine wpAnyH_take (i := 9) (v := ?_) (by simp only [List.getElem?_toArray, List.getElem?_cons_succ, List.getElem?_cons_zero]; exact rfl) (by kernel_rfl) (by kernel_rfl) (by kernel_rfl) (by intro _ _ _ h; exact h) (Or.inl ⟨by rfl, fun W hSw => ?_⟩) hHeld ?_
    rotate_left
    focus ((try dsimp only at hSw); first | (go_simp; done) | (go_simp; with_reducible rfl))
    try simp only [Act.put, List.setIfInBounds_toArray, List.set_cons_zero, List.set_cons_succ]
    refine wpAnyH_take (i := 10) (v := ?_) (by simp only [List.getElem?_toArray, List.getElem?_cons_succ, List.getElem?_cons_zero]; exact rfl) (by kernel_rfl) (by kernel_rfl) (by kernel_rfl) (by intro _ _ _ h; exact h) (Or.inl ⟨by rfl, fun W hSw => ?_⟩) hHeld ?_
    rotate_left
    focus ((try dsimp only at hSw); first | (go_simp; done) | (go_simp; with_reducible rfl))
    try simp only [Act.put, List.setIfInBounds_toArray, List.set_cons_zero, List.set_cons_succ]
    refine wpAnyH_take (i := 11) (v := ?_) (by simp only [List.getElem?_toArray, List.getElem?_cons_succ, List.getElem?_cons_zero]; exact rfl) (by kernel_rfl) (by kernel_rfl) (by kernel_rfl) (by intro _ _ _ h; exact h) (Or.inl ⟨by rfl, fun W hSw => ?_⟩) hHeld ?_
    rotate_left
    focus ((try dsimp only at hSw); first | (go_simp; done) | (go_simp; with_reducible rfl))
    try simp only [Act.put, List.setIfInBounds_toArray, List.set_cons_zero, List.set_cons_succ]
    refine wpAnyH_take (i := 12) (v := ?_) (by simp only [List.getElem?_toArray, List.getElem?_cons_succ, List.getElem?_cons_zero]; exact rfl) (by kernel_rfl) (by kernel_rfl) (by kernel_rfl) (by intro _ _ _ h; exact h) (Or.inl ⟨by rfl, fun W hSw => ?_⟩) hHeld ?_
    rotate_left
    focus ((try dsimp only at hSw); first | (go_simp; done) | (go_simp; with_reducible rfl))
    try simp only [Act.put, List.setIfInBounds_toArray, List.set_cons_zero, List.set_cons_succ]
    refine wpAnyH_take (i := 13) (v := ?_) (by simp only [List.getElem?_toArray, List.getElem?_cons_succ, List.getElem?_cons_zero]; exact rfl) (by kernel_rfl) (by kernel_rfl) (by kernel_rfl) (by intro _ _ _ h; exact h) (Or.inl ⟨by rfl, fun W hSw => ?_⟩) hHeld ?_
    rotate_left
    focus ((try dsimp only at hSw); first | (go_simp; done) | (go_simp; with_reducible rfl))
    try simp only [Act.put, List.setIfInBounds_toArray, List.set_cons_zero, List.set_cons_succ]
    refine wpAnyH_take (i := 14) (v := ?_) (by simp only [List.getElem?_toArray, List.getElem?_cons_succ, List.getElem?_cons_zero]; exact rfl) (by kernel_rfl) (by kernel_rfl) (by kernel_rfl) (by intro _ _ _ h; exact h) (Or.inl ⟨by rfl, fun W hSw => ?_⟩) hHeld ?_
    rotate_left
    focus ((try dsimp only at hSw); first | (go_simp; done) | (go_simp; with_reducible rfl))
    try simp only [Act.put, List.setIfInBounds_toArray, List.set_cons_zero, List.set_cons_succ]
    refine wpAnyH_take (i := 15) (v := ?_) (by simp only [List.getElem?_toArray, List.getElem?_cons_succ, List.getElem?_cons_zero]; exact rfl) (by kernel_rfl) (by kernel_rfl) (by kernel_rfl) (by intro _ _ _ h; exact h) (Or.inl ⟨by rfl, fun W hSw => ?_⟩) hHeld ?_
    rotate_left
    focus ((try dsimp only at hSw); first | (go_simp; done) | (go_simp; with_reducible rfl))
    try simp only [Act.put, List.setIfInBounds_toArray, List.set_cons_zero, List.set_cons_succ]
    refine wpAnyH_take (i := 16) (v := ?_) (by simp only [List.getElem?_toArray, List.getElem?_cons_succ, List.getElem?_cons_zero]; exact rfl) (by kernel_rfl) (by kernel_rfl) (by kernel_rfl) (by intro _ _ _ h; exact h) (Or.inl ⟨by rfl, fun W hSw => ?_⟩) hHeld ?_
    rotate_left
    focus ((try dsimp only at hSw); first | (go_simp; done) | (go_simp; with_reducible rfl))
    try simp only [Act.put, List.setIfInBounds_toArray, List.set_cons_zero, List.set_cons_succ]
    refine wpAnyH_take (i := 17) (v := ?_) (by simp only [List.getElem?_toArray, List.getElem?_cons_succ, List.getElem?_cons_zero]; exact rfl) (by kernel_rfl) (by kernel_rfl) (by kernel_rfl) (by intro _ _ _ h; exact h) (Or.inl ⟨by rfl, fun W hSw => ?_⟩) hHeld ?_
    rotate_left
    focus ((try dsimp only at hSw); first | (go_simp; done) | (go_simp; with_reducible rfl))
    try simp only [Act.put, List.setIfInBounds_toArray, List.set_cons_zero, List.set_cons_succ]
    refine wpAnyH_take (i := 18) (v := ?_) (by simp only [List.getElem?_toArray, List.getElem?_cons_succ, List.getElem?_cons_zero]; exact rfl) (by kernel_rfl) (by kernel_rfl) (by kernel_rfl) (by intro _ _ _ h; exact h) (Or.inl ⟨by rfl, fun W hSw => ?_⟩) hHeld ?_
    rotate_left
    focus ((try dsimp only at hSw); first | (go_simp; done) | (go_simp; with_reducible rfl))
    try simp only [Act.put, List.setIfInBounds_toArray, List.set_cons_zero, List.set_cons_succ]
    refine wpAnyH_take (i := 19) (v := ?_) (by simp only [List.getElem?_toArray, List.getElem?_cons_succ, List.getElem?_cons_zero]; exact rfl) (by kernel_rfl) (by kernel_rfl) (by kernel_rfl) (by intro _ _ _ h; exact h) (Or.inl ⟨by rfl, fun W hSw => ?_⟩) hHeld ?_
    rotate_left
    focus ((try dsimp only at hSw); first | (go_simp; done) | (go_simp; with_reducible rfl))
    try simp only [Act.put, List.setIfInBounds_toArray, List.set_cons_zero, List.set_cons_succ]
    refine wpAnyH_take (i := 20) (v := ?_) (by simp only [List.getElem?_toArray, List.getElem?_cons_succ, List.getElem?_cons_zero]; exact rfl) (by kernel_rfl) (by kernel_rfl) (by kernel_rfl) (by intro _ _ _ h; exact h) (Or.inl ⟨by rfl, fun W hSw => ?_⟩) hHeld ?_
    rotate_left
    focus ((try dsimp only at hSw); first | (go_simp; done) | (go_simp; with_reducible rfl))
    try simp only [Act.put, List.setIfInBounds_toArray, List.set_cons_zero, List.set_cons_succ]
    refine wpAnyH_take (i := 21) (v := ?_) (by simp only [List.getElem?_toArray, List.getElem?_cons_succ, List.getElem?_cons_zero]; exact rfl) (by kernel_rfl) (by kernel_rfl) (by kernel_rfl) (by intro _ _ _ h; exact h) (Or.inl ⟨by rfl, fun W hSw => ?_⟩) hHeld ?_
    rotate_left
    focus ((try dsimp only at hSw); first | (go_simp; done) | (go_simp; with_reducible rfl))
    try simp only [Act.put, List.setIfInBounds_toArray, List.set_cons_zero, List.set_cons_succ]
    refine wpAnyH_take (i := 22) (v := ?_) (by simp only [List.getElem?_toArray, List.getElem?_cons_succ, List.getElem?_cons_zero]; exact rfl) (by kernel_rfl) (by kernel_rfl) (by kernel_rfl) (by intro _ _ _ h; exact h) (Or.inl ⟨by rfl, fun W hSw => ?_⟩) hHeld ?_
    rotate_left
    focus ((try dsimp only at hSw); first | (go_simp; done) | (go_simp; with_reducible rfl))
    try simp only [Act.put, List.setIfInBounds_toArray, List.set_cons_zero, List.set_cons_succ]
    refine wpAnyH_take (i := 23) (v := ?_) (by simp only [List.getElem?_toArray, List.getElem?_cons_succ, List.getElem?_cons_zero]; exact rfl) (by kernel_rfl) (by kernel_rfl) (by kernel_rfl) (by intro _ _ _ h; exact h) (Or.inl ⟨by rfl, fun W hSw => ?_⟩) hHeld ?_
    rotate_left
    focus ((try dsimp only at hSw); first | (go_simp; done) | (go_simp; with_reducible rfl))
    try simp only [Act.put, List.setIfInBounds_toArray, List.set_cons_zero, List.set_cons_succ]
    refine wpAnyH_take (i := 24) (v := ?_) (by simp only [List.getElem?_toArray, List.getElem?_cons_succ, List.getElem?_cons_zero]; exact rfl) (by kernel_rfl) (by kernel_rfl) (by kernel_rfl) (by intro _ _ _ h; exact h) (Or.inl ⟨by rfl, fun W hSw => ?_⟩) hHeld ?_
    rotate_left
    focus ((try dsimp only at hSw); first | (go_simp; done) | (go_simp; with_reducible rfl))
    try simp only [Act.put, List.setIfInBounds_toArray, List.set_cons_zero, List.set_cons_succ]
    refine wpAnyH_take (i := 25) (v := ?_) (by simp only [List.getElem?_toArray, List.getElem?_cons_succ, List.getElem?_cons_zero]; exact rfl) (by kernel_rfl) (by kernel_rfl) (by kernel_rfl) (by intro _ _ _ h; exact h) (Or.inl ⟨by rfl, fun W hSw => ?_⟩) hHeld ?_
    rotate_left
    focus ((try dsimp only at hSw); first | (go_simp; done) | (go_simp; with_reducible rfl))
    try simp only [Act.put, List.setIfInBounds_toArray, List.set_cons_zero, List.set_cons_succ]
    refine wpAnyH_take (i := 26) (v := ?_) (by simp only [List.getElem?_toArray, List.getElem?_cons_succ, List.getElem?_cons_zero]; exact rfl) (by kernel_rfl) (by kernel_rfl) (by kernel_rfl) (by intro _ _ _ h; exact h) (Or.inl ⟨by rfl, fun W hSw => ?_⟩) hHeld ?_
    rotate_left
    focus ((try dsimp only at hSw); first | (go_simp; done) | (go_simp; with_reducible rfl))
    try simp only [Act.put, List.setIfInBounds_toArray, List.set_cons_zero, List.set_cons_succ]
    refine wpAnyH_take (i := 27) (v := ?_) (by simp only [List.getElem?_toArray, List.getElem?_cons_succ, List.getElem?_cons_zero]; exact rfl) (by kernel_rfl) (by kernel_rfl) (by kernel_rfl) (by intro _ _ _ h; exact h) (Or.inl ⟨by rfl, fun W hSw => ?_⟩) hHeld ?_
    rotate_left
    focus ((try dsimp only at hSw); first | (go_simp; done) | (go_simp; with_reducible rfl))
    try simp only [Act.put, List.setIfInBounds_toArray, List.set_cons_zero, List.set_cons_succ]
    refine wpAnyH_take (i := 28) (v := ?_) (by simp only [List.getElem?_toArray, List.getElem?_cons_succ, List.getElem?_cons_zero]; exact rfl) (by kernel_rfl) (by kernel_rfl) (by kernel_rfl) (by intro _ _ _ h; exact h) (Or.inl ⟨by rfl, fun W hSw => ?_⟩) hHeld ?_
    rotate_left
    focus ((try dsimp only at hSw); first | (go_simp; done) | (go_simp; with_reducible rfl))
    try simp only [Act.put, List.setIfInBounds_toArray, List.set_cons_zero, List.set_cons_succ]
    refine wpAnyH_take (i := 29) (v := ?_) (by simp only [List.getElem?_toArray, List.getElem?_cons_succ, List.getElem?_cons_zero]; exact rfl) (by kernel_rfl) (by kernel_rfl) (by kernel_rfl) (by intro _ _ _ h; exact h) (Or.inl ⟨by rfl, fun W hSw => ?_⟩) hHeld ?_
    rotate_left
    focus ((try dsimp only at hSw); first | (go_simp; done) | (go_simp; with_reducible rfl))
    try simp only [Act.put, List.setIfInBounds_toArray, List.set_cons_zero, List.set_cons_succ]
    refine wpAnyH_take (i := 30) (v := ?_) (by simp only [List.getElem?_toArray, List.getElem?_cons_succ, List.getElem?_cons_zero]; exact rfl) (by kernel_rfl) (by kernel_rfl) (by kernel_rfl) (by intro _ _ _ h; exact h) (Or.inl ⟨by rfl, fun W hSw => ?_⟩) hHeld ?_
    rotate_left
    focus ((try dsimp only at hSw); first | (go_simp; done) | (go_simp; with_reducible rfl))
    try simp only [Act.put, List.setIfInBounds_toArray, List.set_cons_zero, List.set_cons_succ]
    refine wpAnyH_take (i := 31) (v := ?_) (by simp only [List.getElem?_toArray, List.getElem?_cons_succ, List.getElem?_cons_zero]; exact rfl) (by kernel_rfl) (by kernel_rfl) (by kernel_rfl) (by intro _ _ _ h; exact h) (Or.inl ⟨by rfl, fun W hSw => ?_⟩) hHeld ?_
    rotate_left
    focus ((try dsimp only at hSw); first | (go_simp; done) | (go_simp; with_reducible rfl))
    try simp only [Act.put, List.setIfInBounds_toArray, List.set_cons_zero, List.set_cons_succ]
    refine wpAnyH_ready (rs := [32]) (by kernel_rfl) (by simp) (AllReadyH.cons (by simp only [List.getElem?_toArray, List.getElem?_cons_succ, List.getElem?_cons_zero]; exact rfl) (fun K hK => ?_) AllReadyH.nil)
    rw [if_pos (by rfl)]
    go_simp
    refine (KL.out _).mono ?_; rintro e wl ⟨rfl, rfl⟩; go_wp2_with fail
    refine hK.out _ _ (hHeld) (fun hHeld => ?_)
    clear hK K
    try simp only [Act.put, List.setIfInBounds_toArray, List.set_cons_zero, List.set_cons_succ]
    refine wpAnyH_take (i := 33) (v := ?_) (by simp only [List.getElem?_toArray, List.getElem?_cons_succ, List.getElem?_cons_zero]; exact rfl) (by kernel_rfl) (by kernel_rfl) (by kernel_rfl) (by intro _ _ _ h; exact h) (Or.inl ⟨by rfl, fun W hSw => ?_⟩) hHeld ?_
    rotate_left
    focus ((try dsimp only at hSw); first | (go_simp; done) | (go_simp; with_reducible rfl))
    try simp only [Act.put, List.setIfInBounds_toArray, List.set_cons_zero, List.set_cons_succ]
    refine wpAnyH_take (i := 34) (v := ?_) (by simp only [List.getElem?_toArray, List.getElem?_cons_succ, List.getElem?_cons_zero]; exact rfl) (by kernel_rfl) (by kernel_rfl) (by kernel_rfl) (by intro _ _ _ h; exact h) (Or.inl ⟨by rfl, fun W hSw => ?_⟩) hHeld ?_
    rotate_left
    focus ((try dsimp only at hSw); first | (go_simp; done) | (go_simp; with_reducible rfl))
    try simp only [Act.put, List.setIfInBounds_toArray, List.set_cons_zero, List.set_cons_succ]
    refine wpAnyH_take (i := 35) (v := ?_) (by simp only [List.getElem?_toArray, List.getElem?_cons_succ, List.getElem?_cons_zero]; exact rfl) (by kernel_rfl) (by kernel_rfl) (by kernel_rfl) (by intro _ _ _ h; exact h) (Or.inl ⟨by rfl, fun W hSw => ?_⟩) hHeld ?_
    rotate_left
    focus ((try dsimp only at hSw); first | (go_simp; done) | (go_simp; with_reducible rfl))
    try simp only [Act.put, List.setIfInBounds_toArray, List.set_cons_zero, List.set_cons_succ]
    refine wpAnyH_take (i := 36) (v := undef) (by simp only [List.getElem?_toArray, List.getElem?_cons_succ, List.getElem?_cons_zero]; exact rfl) (by kernel_rfl) (by kernel_rfl) (by kernel_rfl) (by intro _ _ _ h; exact h) (Or.inr ⟨by rfl, rfl⟩) hHeld ?_
    try simp only [Act.put, List.setIfInBounds_toArray, List.set_cons_zero, List.set_cons_succ]
    refine wpAnyH_take (i := 37) (v := undef) (by simp only [List.getElem?_toArray, List.getElem?_cons_succ, List.getElem?_cons_zero]; exact rfl) (by kernel_rfl) (by kernel_rfl) (by kernel_rfl) (by intro _ _ _ h; exact h) (Or.inr ⟨by rfl, rfl⟩) hHeld ?_
    try simp only [Act.put, List.setIfInBounds_toArray, List.set_cons_zero, List.set_cons_succ]
    refine wpAnyH_take (i := 38) (v := undef) (by simp only [List.getElem?_toArray, List.getElem?_cons_succ, List.getElem?_cons_zero]; exact rfl) (by kernel_rfl) (by kernel_rfl) (by kernel_rfl) (by intro _ _ _ h; exact h) (Or.inr ⟨by rfl, rfl⟩) hHeld ?_
    try simp only [Act.put, List.setIfInBounds_toArray, List.set_cons_zero, List.set_cons_succ]
    refine wpAnyH_take (i := 39) (v := undef) (by simp only [List.getElem?_toArray, List.getElem?_cons_succ, List.getElem?_cons_zero]; exact rfl) (by kernel_rfl) (by kernel_rfl) (by kernel_rfl) (by intro _ _ _ h; exact h) (Or.inr ⟨by rfl, rfl⟩) hHeld ?_
    try simp only [Act.put, List.setIfInBounds_toArray, List.set_cons_zero, List.set_cons_succ]
    refine wpAnyH_take (i := 40) (v := undef) (by simp only [List.getElem?_toArray, List.getElem?_cons_succ, List.getElem?_cons_zero]; exact rfl) (by kernel_rfl) (by kernel_rfl) (by kernel_rfl) (by intro _ _ _ h; exact h) (Or.inr ⟨by rfl, rfl⟩) hHeld ?_
    try simp only [Act.put, List.setIfInBounds_toArray, List.set_cons_zero, List.set_cons_succ]
    refine wpAnyH_take (i := 41) (v := ?_) (by simp only [List.getElem?_toArray, List.getElem?_cons_succ, List.getElem?_cons_zero]; exact rfl) (by kernel_rfl) (by kernel_rfl) (by kernel_rfl) (by intro _ _ _ h; exact h) (Or.inl ⟨by rfl, fun W hSw => ?_⟩) hHeld ?_
    rotate_left
    focus ((try dsimp only at hSw); first | (go_simp; done) | (go_simp; with_reducible rfl))
    try simp only [Act.put, List.setIfInBounds_toArray, List.set_cons_zero, List.set_cons_succ]
    refine wpAnyH_take (i := 42) (v := ?_) (by simp only [List.getElem?_toArray, List.getElem?_cons_succ, List.getElem?_cons_zero]; exact rfl) (by kernel_rfl) (by kernel_rfl) (by kernel_rfl) (by intro _ _ _ h; exact h) (Or.inl ⟨by rfl, fun W hSw => ?_⟩) hHeld ?_
    rotate_left
    focus ((try dsimp only at hSw); first | (go_simp; done) | (go_simp; with_reducible rfl))
    try simp only [Act.put, List.setIfInBounds_toArray, List.set_cons_zero, List.set_cons_succ]
    refine wpAnyH_take (i := 43) (v := undef) (by simp only [List.getElem?_toArray, List.getElem?_cons_succ, List.getElem?_cons_zero]; exact rfl) (by kernel_rfl) (by kernel_rfl) (by kernel_rfl) (by intro _ _ _ h; exact h) (Or.inr ⟨by rfl, rfl⟩) hHeld ?_
    try simp only [Act.put, List.setIfInBounds_toArray, List.set_cons_zero, List.set_cons_succ]
    refine wpAnyH_take (i := 44) (v := undef) (by simp only [List.getElem?_toArray, List.getElem?_cons_succ, List.getElem?_cons_zero]; exact rfl) (by kernel_rfl) (by kernel_rfl) (by kernel_rfl) (by intro _ _ _ h; exact h) (Or.inr ⟨by rfl, rfl⟩) hHeld ?_
    try simp only [Act.put, List.setIfInBounds_toArray, List.set_cons_zero, List.set_cons_succ]
    refine wpAnyH_take (i := 45) (v := undef) (by simp only [List.getElem?_toArray, List.getElem?_cons_succ, List.getElem?_cons_zero]; exact rfl) (by kernel_rfl) (by kernel_rfl) (by kernel_rfl) (by intro _ _ _ h; exact h) (Or.inr ⟨by rfl, rfl⟩) hHeld ?_
    try simp only [Act.put, List.setIfInBounds_toArray, List.set_cons_zero, List.set_cons_succ]
    refine wpAnyH_take (i := 46) (v := undef) (by simp only [List.getElem?_toArray, List.getElem?_cons_succ, List.getElem?_cons_zero]; exact rfl) (by kernel_rfl) (by kernel_rfl) (by kernel_rfl) (by intro _ _ _ h; exact h) (Or.inr ⟨by rfl, rfl⟩) hHeld ?_
    try simp only [Act.put, List.setIfInBounds_toArray, List.set_cons_zero, List.set_cons_succ]
    refine wpAnyH_take (i := 47) (v := undef) (by simp only [List.getElem?_toArray, List.getElem?_cons_succ, List.getElem?_cons_zero]; exact rfl) (by kernel_rfl) (by kernel_rfl) (by kernel_rfl) (by intro _ _ _ h; exact h) (Or.inr ⟨by rfl, rfl⟩) hHeld ?_
    try simp only [Act.put, List.setIfInBounds_toArray, List.set_cons_zero, List.set_cons_succ]
    refine wpAnyH_take (i := 48) (v := ?_) (by simp only [List.getElem?_toArray, List.getElem?_cons_succ, List.getElem?_cons_zero]; exact rfl) (by kernel_rfl) (by kernel_rfl) (by kernel_rfl) (by intro _ _ _ h; exact h) (Or.inl ⟨by rfl, fun W hSw => ?_⟩) hHeld ?_
    rotate_left
    focus ((try dsimp only at hSw); first | (go_simp; done) | (go_simp; with_reducible rfl))
    try simp only [Act.put, List.setIfInBounds_toArray, List.set_cons_zero, List.set_cons_succ]
    refine wpAnyH_take (i := 49) (v := ?_) (by simp only [List.getElem?_toArray, List.getElem?_cons_succ, List.getElem?_cons_zero]; exact rfl) (by kernel_rfl) (by kernel_rfl) (by kernel_rfl) (by intro _ _ _ h; exact h) (Or.inl ⟨by rfl, fun W hSw => ?_⟩) hHeld ?_
    rotate_left
    focus ((try dsimp only at hSw); first | (go_simp; done) | (go_simp; with_reducible rfl))
    try simp only [Act.put, List.setIfInBounds_toArray, List.set_cons_zero, List.set_cons_succ]
    refine wpAnyH_take (i := 50) (v := undef) (by simp only [List.getElem?_toArray, List.getElem?_cons_succ, List.getElem?_cons_zero]; exact rfl) (by kernel_rfl) (by kernel_rfl) (by kernel_rfl) (by intro _ _ _ h; exact h) (Or.inr ⟨by rfl, rfl⟩) hHeld ?_
    try simp only [Act.put, List.setIfInBounds_toArray, List.set_cons_zero, List.set_cons_succ]
    refine wpAnyH_take (i := 51) (v := undef) (by simp only [List.getElem?_toArray, List.getElem?_cons_succ, List.getElem?_cons_zero]; exact rfl) (by kernel_rfl) (by kernel_rfl) (by kernel_rfl) (by intro _ _ _ h; exact h) (Or.inr ⟨by rfl, rfl⟩) hHeld ?_
    try simp only [Act.put, List.setIfInBounds_toArray, List.set_cons_zero, List.set_cons_succ]
    refine wpAnyH_take (i := 52) (v := undef) (by simp only [List.getElem?_toArray, List.getElem?_cons_succ, List.getElem?_cons_zero]; exact rfl) (by kernel_rfl) (by kernel_rfl) (by kernel_rfl) (by intro _ _ _ h; exact h) (Or.inr ⟨by rfl, rfl⟩) hHeld ?_
    try simp only [Act.put, List.setIfInBounds_toArray, List.set_cons_zero, List.set_cons_succ]
    refine wpAnyH_take (i := 53) (v := undef) (by simp only [List.getElem?_toArray, List.getElem?_cons_succ, List.getElem?_cons_zero]; exact rfl) (by kernel_rfl) (by kernel_rfl) (by kernel_rfl) (by intro _ _ _ h; exact h) (Or.inr ⟨by rfl, rfl⟩) hHeld ?_
    try simp only [Act.put, List.setIfInBounds_toArray, List.set_cons_zero, List.set_cons_succ]
    refine wpAnyH_take (i := 54) (v := undef) (by simp only [List.getElem?_toArray, List.getElem?_cons_succ, List.getElem?_cons_zero]; exact rfl) (by kernel_rfl) (by kernel_rfl) (by kernel_rfl) (by intro _ _ _ h; exact h) (Or.inr ⟨by rfl, rfl⟩) hHeld ?_
    try simp only [Act.put, List.setIfInBounds_toArray, List.set_cons_zero, List.set_cons_succ]
    refine wpAnyH_take (i := 55) (v := ?_) (by simp only [List.getElem?_toArray, List.getElem?_cons_succ, List.getElem?_cons_zero]; exact rfl) (by kernel_rfl) (by kernel_rfl) (by kernel_rfl) (by intro _ _ _ h; exact h) (Or.inl ⟨by rfl, fun W hSw => ?_⟩) hHeld ?_
    rotate_left
    focus ((try dsimp only at hSw); first | (go_simp; done) | (go_simp; with_reducible rfl))
    try simp only [Act.put, List.setIfInBounds_toArray, List.set_cons_zero, List.set_cons_succ]
    refine wpAnyH_done (by kernel_rfl) ?_ _
    clear hHeld
    go_wp2
    go_ret2
    exact ⟨by rw [← HR.out]; rfl, HBT.out.drewN 1⟩
  have t4 : decide (m.day > dlong Y m.month) = false := by simpa using q4
  by_cases q5 : m.hour > 23
  · have hR2 : R = (0, false) := by rw [← HR0.out]; unfold dtick; rw [HY.out, if_pos (Or.inr (Or.inr (Or.inr (Or.inr (Or.inl q5)))))]
    have HR := Lib.hid hR2.symm
    clear hR2
    have t5 : decide (m.hour > 23) = true := by simpa using q5
    go_wp2
    refine wp_region_held_drew (S := (fun w' => w'.cell? ⟨mb, 1, none⟩ = some (.int .i64 m.day) ∧ w'.cell? ⟨mb, 2, none⟩ = some (.int .i64 m.month) ∧ w'.cell? ⟨mb, 3, none⟩ = some (.int .i64 Y) ∧ w'.cell? ⟨mb, 4, none⟩ = some (.int .i64 m.hour) ∧ w'.cell? ⟨mb, 5, none⟩ = some (.int .i64 m.minute) ∧ w'.cell? ⟨mb, 6, none⟩ = some (.int .i64 m.second))) (by kernel_rfl) (⟨c1, c2, c3, c4, c5, c6⟩) (fun hHeld => ?_)
    refine wpAnyH_take (i := 0) (v := ?_) (by simp only [List.getElem?_toArray, List.getElem?_cons_zero]; exact rfl) (by kernel_rfl) (by kernel_rfl) (by kernel_rfl) (by intro _ _ _ h; exact h) (Or.inl ⟨by rfl, fun W hSw => ?_⟩) hHeld ?_
    rotate_left
    focus ((try dsimp only at hSw); first | (go_simp; done) | (go_simp; with_reducible rfl))
    try simp only [Act.put, List.setIfInBounds_toArray, List.set_cons_zero, List.set_cons_succ]
    refine wpAnyH_take (i := 1) (v := ?_) (by simp only [List.getElem?_toArray, List.getElem?_cons_succ, List.getElem?_cons_zero]; exact rfl) (by kernel_rfl) (by kernel_rfl) (by kernel_rfl) (by intro _ _ _ h; exact h) (Or.inl ⟨by rfl, fun W hSw => ?_⟩) hHeld ?_
    rotate_left
    focus ((try dsimp only at hSw); first | (go_simp; done) | (go_simp; with_reducible rfl))
    try simp only [Act.put, List.setIfInBounds_toArray, List.set_cons_zero, List.set_cons_succ]
    refine wpAnyH_take (i := 2) (v := ?_) (by simp only [List.getElem?_toArray, List.getElem?_cons_succ, List.getElem?_cons_zero]; exact rfl) (by kernel_rfl) (by kernel_rfl) (by kernel_rfl) (by intro _ _ _ h; exact h) (Or.inl ⟨by rfl, fun W hSw => ?_⟩) hHeld ?_
    rotate_left
    focus ((try dsimp only at hSw); first | (go_simp; done) | (go_simp; with_reducible rfl))
    try simp only [Act.put, List.setIfInBounds_toArray, List.set_cons_zero, List.set_cons_succ]
    refine wpAnyH_take (i := 3) (v := ?_) (by simp only [List.getElem?_toArray, List.getElem?_cons_succ, List.getElem?_cons_zero]; exact rfl) (by kernel_rfl) (by kernel_rfl) (by kernel_rfl) (by intro _ _ _ h; exact h) (Or.inl ⟨by rfl, fun W hSw => ?_⟩) hHeld ?_
    rotate_left
    focus ((try dsimp only at hSw); first | (go_simp; done) | (go_simp; with_reducible rfl))
    try simp only [Act.put, List.setIfInBounds_toArray, List.set_cons_zero, List.set_cons_succ]
    refine wpAnyH_take (i := 4) (v := ?_) (by simp only [List.getElem?_toArray, List.getElem?_cons_succ, List.getElem?_cons_zero]; exact rfl) (by kernel_rfl) (by kernel_rfl) (by kernel_rfl) (by intro _ _ _ h; exact h) (Or.inl ⟨by rfl, fun W hSw => ?_⟩) hHeld ?_
    rotate_left
    focus ((try dsimp only at hSw); first | (go_simp; done) | (go_simp; with_reducible rfl))
    try simp only [Act.put, List.setIfInBounds_toArray, List.set_cons_zero, List.set_cons_succ]
    refine wpAnyH_take (i := 5) (v := ?_) (by simp only [List.getElem?_toArray, List.getElem?_cons_succ, List.getElem?_cons_zero]; exact rfl) (by kernel_rfl) (by kernel_rfl) (by kernel_rfl) (by intro _ _ _ h; exact h) (Or.inl ⟨by rfl, fun W hSw => ?_⟩) hHeld ?_
    rotate_left
    focus ((try dsimp only at hSw); first | (go_simp; done) | (go_simp; with_reducible rfl))
    try simp only [Act.put, List.setIfInBounds_toArray, List.set_cons_zero, List.set_cons_succ]
    refine wpAnyH_take (i := 6) (v := ?_) (by simp only [List.getElem?_toArray, List.getElem?_cons_succ, List.getElem?_cons_zero]; exact rfl) (by kernel_rfl) (by kernel_rfl) (by kernel_rfl) (by intro _ _ _ h; exact h) (Or.inl ⟨by rfl, fun W hSw => ?_⟩) hHeld ?_
    rotate_left
    focus ((try dsimp only at hSw); first | (go_simp; done) | (go_simp; with_reducible rfl))
    try simp only [Act.put, List.setIfInBounds_toArray, List.set_cons_zero, List.set_cons_succ]
    refine wpAnyH_take (i := 7) (v := ?_) (by simp only [List.getElem?_toArray, List.getElem?_cons_succ, List.getElem?_cons_zero]; exact rfl) (by kernel_rfl) (by kernel_rfl) (by kernel_rfl) (by intro _ _ _ h; exact h) (Or.inl ⟨by rfl, fun W hSw => ?_⟩) hHeld ?_
    rotate_left
    focus ((try dsimp only at hSw); first | (go_simp; done) | (go_simp; with_reducible rfl))
    try simp only [Act.put, List.setIfInBounds_toArray, List.set_cons_zero, List.set_cons_succ]
    refine wpAnyH_take (i := 8) (v := ?_) (by simp only [List.getElem?_toArray, List.getElem?_cons_succ, List.getElem?_cons_zero]; exact rfl) (by kernel_rfl) (by kernel_rfl) (by kernel_rfl) (by intro _ _ _ h; exact h) (Or.inl ⟨by rfl, fun W hSw => ?_⟩) hHeld ?_
    rotate_left
    focus ((try dsimp only at hSw); first | (go_simp; done) | (go_simp; with_reducible rfl))
    try simp only [Act.put, List.setIfInBounds_toArray, List.set_cons_zero, List.set_cons_succ]
    refine wpAnyH_take (i := 9) (v := ?_) (by simp only [List.getElem?_toArray, List.getElem?_cons_succ, List.getElem?_cons_zero]; exact rfl) (by kernel_rfl) (by kernel_rfl) (by kernel_rfl) (by intro _ _ _ h; exact h) (Or.inl ⟨by rfl, fun W hSw => ?_⟩) hHeld ?_
    rotate_left
    focus ((try dsimp only at hSw); first | (go_simp; done) | (go_simp; with_reducible rfl))
    try simp only [Act.put, List.setIfInBounds_toArray, List.set_cons_zero, List.set_cons_succ]
    refine wpAnyH_take (i := 10) (v := ?_) (by simp only [List.getElem?_toArray, List.getElem?_cons_succ, List.getElem?_cons_zero]; exact rfl) (by kernel_rfl) (by kernel_rfl) (by kernel_rfl) (by intro _ _ _ h; exact h) (Or.inl ⟨by rfl, fun W hSw => ?_⟩) hHeld ?_
    rotate_left
    focus ((try dsimp only at hSw); first | (go_simp; done) | (go_simp; with_reducible rfl))
    try simp only [Act.put, List.setIfInBounds_toArray, List.set_cons_zero, List.set_cons_succ]
    refine wpAnyH_take (i := 11) (v := ?_) (by simp only [List.getElem?_toArray, List.getElem?_cons_succ, List.getElem?_cons_zero]; exact rfl) (by kernel_rfl) (by kernel_rfl) (by kernel_rfl) (by intro _ _ _ h; exact h) (Or.inl ⟨by rfl, fun W hSw => ?_⟩) hHeld ?_
    rotate_left
    focus ((try dsimp only at hSw); first | (go_simp; done) | (go_simp; with_reducible rfl))
    try simp only [Act.put, List.setIfInBounds_toArray, List.set_cons_zero, List.set_cons_succ]
    refine wpAnyH_take (i := 12) (v := ?_) (by simp only [List.getElem?_toArray, List.getElem?_cons_succ, List.getElem?_cons_zero]; exact rfl) (by kernel_rfl) (by kernel_rfl) (by kernel_rfl) (by intro _ _ _ h; exact h) (Or.inl ⟨by rfl, fun W hSw => ?_⟩) hHeld ?_
    rotate_left
    focus ((try dsimp only at hSw); first | (go_simp; done) | (go_simp; with_reducible rfl))
    try simp only [Act.put, List.setIfInBounds_toArray, List.set_cons_zero, List.set_cons_succ]
    refine wpAnyH_take (i := 13) (v := ?_) (by simp only [List.getElem?_toArray, List.getElem?_cons_succ, List.getElem?_cons_zero]; exact rfl) (by kernel_rfl) (by kernel_rfl) (by kernel_rfl) (by intro _ _ _ h; exact h) (Or.inl ⟨by rfl, fun W hSw => ?_⟩) hHeld ?_
    rotate_left
    focus ((try dsimp only at hSw); first | (go_simp; done) | (go_simp; with_reducible rfl))
    try simp only [Act.put, List.setIfInBounds_toArray, List.set_cons_zero, List.set_cons_succ]
    refine wpAnyH_take (i := 14) (v := ?_) (by simp only [List.getElem?_toArray, List.getElem?_cons_succ, List.getElem?_cons_zero]; exact rfl) (by kernel_rfl) (by kernel_rfl) (by kernel_rfl) (by intro _ _ _ h; exact h) (Or.inl ⟨by rfl, fun W hSw => ?_⟩) hHeld ?_
    rotate_left
    focus ((try dsimp only at hSw); first | (go_simp; done) | (go_simp; with_reducible rfl))
    try simp only [Act.put, List.setIfInBounds_toArray, List.set_cons_zero, List.set_cons_succ]
    refine wpAnyH_take (i := 15) (v := ?_) (by simp only [List.getElem?_toArray, List.getElem?_cons_succ, List.getElem?_cons_zero]; exact rfl) (by kernel_rfl) (by kernel_rfl) (by kernel_rfl) (by intro _ _ _ h; exact h) (Or.inl ⟨by rfl, fun W hSw => ?_⟩) hHeld ?_
    rotate_left
    focus ((try dsimp only at hSw); first | (go_simp; done) | (go_simp; with_reducible rfl))
    try simp only [Act.put, List.setIfInBounds_toArray, List.set_cons_zero, List.set_cons_succ]
    refine wpAnyH_take (i := 16) (v := ?_) (by simp only [List.getElem?_toArray, List.getElem?_cons_succ, List.getElem?_cons_zero]; exact rfl) (by kernel_rfl) (by kernel_rfl) (by kernel_rfl) (by intro _ _ _ h; exact h) (Or.inl ⟨by rfl, fun W hSw => ?_⟩) hHeld ?_
    rotate_left
    focus ((try dsimp only at hSw); first | (go_simp; done) | (go_simp; with_reducible rfl))
    try simp only [Act.put, List.setIfInBounds_toArray, List.set_cons_zero, List.set_cons_succ]
    refine wpAnyH_take (i := 17) (v := ?_) (by simp only [List.getElem?_toArray, List.getElem?_cons_succ, List.getElem?_cons_zero]; exact rfl) (by kernel_rfl) (by kernel_rfl) (by kernel_rfl) (by intro _ _ _ h; exact h) (Or.inl ⟨by rfl, fun W hSw => ?_⟩) hHeld ?_
    rotate_left
    focus ((try dsimp only at hSw); first | (go_simp; done) | (go_simp; with_reducible rfl))
    try simp only [Act.put, List.setIfInBounds_toArray, List.set_cons_zero, List.set_cons_succ]
    refine wpAnyH_take (i := 18) (v := ?_) (by simp only [List.getElem?_toArray, List.getElem?_cons_succ, List.getElem?_cons_zero]; exact rfl) (by kernel_rfl) (by kernel_rfl) (by kernel_rfl) (by intro _ _ _ h; exact h) (Or.inl ⟨by rfl, fun W hSw => ?_⟩) hHeld ?_
    rotate_left
    focus ((try dsimp only at hSw); first | (go_simp; done) | (go_simp; with_reducible rfl))
    try simp only [Act.put, List.setIfInBounds_toArray, List.set_cons_zero, List.set_cons_succ]
    refine wpAnyH_take (i := 19) (v := ?_) (by simp only [List.getElem?_toArray, List.getElem?_cons_succ, List.getElem?_cons_zero]; exact rfl) (by kernel_rfl) (by kernel_rfl) (by kernel_rfl) (by intro _ _ _ h; exact h) (Or.inl ⟨by rfl, fun W hSw => ?_⟩) hHeld ?_
    rotate_left
    focus ((try dsimp only at hSw); first | (go_simp; done) | (go_simp; with_reducible rfl))
    try simp only [Act.put, List.setIfInBounds_toArray, List.set_cons_zero, List.set_cons_succ]
    refine wpAnyH_take (i := 20) (v := ?_) (by simp only [List.getElem?_toArray, List.getElem?_cons_succ, List.getElem?_cons_zero]; exact rfl) (by kernel_rfl) (by kernel_rfl) (by kernel_rfl) (by intro _ _ _ h; exact h) (Or.inl ⟨by rfl, fun W hSw => ?_⟩) hHeld ?_
    rotate_left
    focus ((try dsimp only at hSw); first | (go_simp; done) | (go_simp; with_reducible rfl))
    try simp only [Act.put, List.setIfInBounds_toArray, List.set_cons_zero, List.set_cons_succ]
    refine wpAnyH_take (i := 21) (v := ?_) (by simp only [List.getElem?_toArray, List.getElem?_cons_succ, List.getElem?_cons_zero]; exact rfl) (by kernel_rfl) (by kernel_rfl) (by kernel_rfl) (by intro _ _ _ h; exact h) (Or.inl ⟨by rfl, fun W hSw => ?_⟩) hHeld ?_
    rotate_left
    focus ((try dsimp only at hSw); first | (go_simp; done) | (go_simp; with_reducible rfl))
    try simp only [Act.put, List.setIfInBounds_toArray, List.set_cons_zero, List.set_cons_succ]
    refine wpAnyH_take (i := 22) (v := ?_) (by simp only [List.getElem?_toArray, List.getElem?_cons_succ, List.getElem?_cons_zero]; exact rfl) (by kernel_rfl) (by kernel_rfl) (by kernel_rfl) (by intro _ _ _ h; exact h) (Or.inl ⟨by rfl, fun W hSw => ?_⟩) hHeld ?_
    rotate_left
    focus ((try dsimp only at hSw); first | (go_simp; done) | (go_simp; with_reducible rfl))
    try simp only [Act.put, List.setIfInBounds_toArray, List.set_cons_zero, List.set_cons_succ]
    refine wpAnyH_take (i := 23) (v := ?_) (by simp only [List.getElem?_toArray, List.getElem?_cons_succ, List.getElem?_cons_zero]; exact rfl) (by kernel_rfl) (by kernel_rfl) (by kernel_rfl) (by intro _ _ _ h; exact h) (Or.inl ⟨by rfl, fun W hSw => ?_⟩) hHeld ?_
    rotate_left
    focus ((try dsimp only at hSw); first | (go_simp; done) | (go_simp; with_reducible rfl))
    try simp only [Act.put, List.setIfInBounds_toArray, List.set_cons_zero, List.set_cons_succ]
    refine wpAnyH_take (i := 24) (v := ?_) (by simp only [List.getElem?_toArray, List.getElem?_cons_succ, List.getElem?_cons_zero]; exact rfl) (by kernel_rfl) (by kernel_rfl) (by kernel_rfl) (by intro _ _ _ h; exact h) (Or.inl ⟨by rfl, fun W hSw => ?_⟩) hHeld ?_
    rotate_left
    focus ((try dsimp only at hSw); first | (go_simp; done) | (go_simp; with_reducible rfl))
    try simp only [Act.put, List.setIfInBounds_toArray, List.set_cons_zero, List.set_cons_succ]
    refine wpAnyH_take (i := 25) (v := ?_) (by simp only [List.getElem?_toArray, List.getElem?_cons_succ, List.getElem?_cons_zero]; exact rfl) (by kernel_rfl) (by kernel_rfl) (by kernel_rfl) (by intro _ _ _ h; exact h) (Or.inl ⟨by rfl, fun W hSw => ?_⟩) hHeld ?_
    rotate_left
    focus ((try dsimp only at hSw); first | (go_simp; done) | (go_simp; with_reducible rfl))
    try simp only [Act.put, List.setIfInBounds_toArray, List.set_cons_zero, List.set_cons_succ]
    refine wpAnyH_take (i := 26) (v := ?_) (by simp only [List.getElem?_toArray, List.getElem?_cons_succ, List.getElem?_cons_zero]; exact rfl) (by kernel_rfl) (by kernel_rfl) (by kernel_rfl) (by intro _ _ _ h; exact h) (Or.inl ⟨by rfl, fun W hSw => ?_⟩) hHeld ?_
    rotate_left
    focus ((try dsimp only at hSw); first | (go_simp; done) | (go_simp; with_reducible rfl))
    try simp only [Act.put, List.setIfInBounds_toArray, List.set_cons_zero, List.set_cons_succ]
    refine wpAnyH_take (i := 27) (v := ?_) (by simp only [List.getElem?_toArray, List.getElem?_cons_succ, List.getElem?_cons_zero]; exact rfl) (by kernel_rfl) (by kernel_rfl) (by kernel_rfl) (by intro _ _ _ h; exact h) (Or.inl ⟨by rfl, fun W hSw => ?_⟩) hHeld ?_
    rotate_left
    focus ((try dsimp only at hSw); first | (go_simp; done) | (go_simp; with_reducible rfl))
    try simp only [Act.put, List.setIfInBounds_toArray, List.set_cons_zero, List.set_cons_succ]
    refine wpAnyH_take (i := 28) (v := ?_) (by simp only [List.getElem?_toArray, List.getElem?_cons_succ, List.getElem?_cons_zero]; exact rfl) (by kernel_rfl) (by kernel_rfl) (by kernel_rfl) (by intro _ _ _ h; exact h) (Or.inl ⟨by rfl, fun W hSw => ?_⟩) hHeld ?_
    rotate_left
    focus ((try dsimp only at hSw); first | (go_simp; done) | (go_simp; with_reducible rfl))
    try simp only [Act.put, List.setIfInBounds_toArray, List.set_cons_zero, List.set_cons_succ]
    refine wpAnyH_take (i := 29) (v := ?_) (by simp only [List.getElem?_toArray, List.getElem?_cons_succ, List.getElem?_cons_zero]; exact rfl) (by kernel_rfl) (by kernel_rfl) (by kernel_rfl) (by intro _ _ _ h; exact h) (Or.inl ⟨by rfl, fun W hSw => ?_⟩) hHeld ?_
    rotate_left
    focus ((try dsimp only at hSw); first | (go_simp; done) | (go_simp; with_reducible rfl))
    try simp only [Act.put, List.setIfInBounds_toArray, List.set_cons_zero, List.set_cons_succ]
    refine wpAnyH_take (i := 30) (v := ?_) (by simp only [List.getElem?_toArray, List.getElem?_cons_succ, List.getElem?_cons_zero]; exact rfl) (by kernel_rfl) (by kernel_rfl) (by kernel_rfl) (by intro _ _ _ h; exact h) (Or.inl ⟨by rfl, fun W hSw => ?_⟩) hHeld ?_
    rotate_left
    focus ((try dsimp only at hSw); first | (go_simp; done) | (go_simp; with_reducible rfl))
    try simp only [Act.put, List.setIfInBounds_toArray, List.set_cons_zero, List.set_cons_succ]
    refine wpAnyH_take (i := 31) (v := ?_) (by simp only [List.getElem?_toArray, List.getElem?_cons_succ, List.getElem?_cons_zero]; exact rfl) (by kernel_rfl) (by kernel_rfl) (by kernel_rfl) (by intro _ _ _ h; exact h) (Or.inl ⟨by rfl, fun W hSw => ?_⟩) hHeld ?_
    rotate_left
    focus ((try dsimp only at hSw); first | (go_simp; done) | (go_simp; with_reducible rfl))
    try simp only [Act.put, List.setIfInBounds_toArray, List.set_cons_zero, List.set_cons_succ]
    refine wpAnyH_ready (rs := [32]) (by kernel_rfl) (by simp) (AllReadyH.cons (by simp only [List.getElem?_toArray, List.getElem?_cons_succ, List.getElem?_cons_zero]; exact rfl) (fun K hK => ?_) AllReadyH.nil)
    rw [if_pos (by rfl)]
    go_simp
    refine (KL.out _).mono ?_; rintro e wl ⟨rfl, rfl⟩; go_wp2_with fail
    refine hK.out _ _ (hHeld) (fun hHeld => ?_)
    clear hK K
    try simp only [Act.put, List.setIfInBounds_toArray, List.set_cons_zero, List.set_cons_succ]
    refine wpAnyH_take (i := 33) (v := ?_) (by simp only [List.getElem?_toArray, List.getElem?_cons_succ, List.getElem?_cons_zero]; exact rfl) (by kernel_rfl) (by kernel_rfl) (by kernel_rfl) (by intro _ _ _ h; exact h) (Or.inl ⟨by rfl, fun W hSw => ?_⟩) hHeld ?_
    rotate_left
    focus ((try dsimp only at hSw); first | (go_simp; done) | (go_simp; with_reducible rfl))
    try simp only [Act.put, List.setIfInBounds_toArray, List.set_cons_zero, List.set_cons_succ]
    refine wpAnyH_take (i := 34) (v := ?_) (by simp only [List.getElem?_toArray, List.getElem?_cons_succ, List.getElem?_cons_zero]; exact rfl) (by kernel_rfl) (by kernel_rfl) (by kernel_rfl) (by intro _ _ _ h; exact h) (Or.inl ⟨by rfl, fun W hSw => ?_⟩) hHeld ?_
    rotate_left
    focus ((try dsimp only at hSw); first | (go_simp; done) | (go_simp; with_reducible rfl))
    try simp only [Act.put, List.setIfInBounds_toArray, List.set_cons_zero, List.set_cons_succ]
    refine wpAnyH_take (i := 35) (v := ?_) (by simp only [List.getElem?_toArray, List.getElem?_cons_succ, List.getElem?_cons_zero]; exact rfl) (by kernel_rfl) (by kernel_rfl) (by kernel_rfl) (by intro _ _ _ h; exact h) (Or.inl ⟨by rfl, fun W hSw => ?_⟩) hHeld ?_
    rotate_left
    focus ((try dsimp only at hSw); first | (go_simp; done) | (go_simp; with_reducible rfl))
    try simp only [Act.put, List.setIfInBounds_toArray, List.set_cons_zero, List.set_cons_succ]
    refine wpAnyH_take (i := 36) (v := ?_) (by simp only [List.getElem?_toArray, List.getElem?_cons_succ, List.getElem?_cons_zero]; exact rfl) (by kernel_rfl) (by kernel_rfl) (by kernel_rfl) (by intro _ _ _ h; exact h) (Or.inl ⟨by rfl, fun W hSw => ?_⟩) hHeld ?_
    rotate_left
    focus ((try dsimp only at hSw); first | (go_simp; done) | (go_simp; with_reducible rfl))
    try simp only [Act.put, List.setIfInBounds_toArray, List.set_cons_zero, List.set_cons_succ]
    refine wpAnyH_take (i := 37) (v := ?_) (by simp only [List.getElem?_toArray, List.getElem?_cons_succ, List.getElem?_cons_zero]; exact rfl) (by kernel_rfl) (by kernel_rfl) (by kernel_rfl) (by intro _ _ _ h; exact h) (Or.inl ⟨by rfl, fun W hSw => ?_⟩) hHeld ?_
    rotate_left
    focus ((try dsimp only at hSw); first | (go_simp; done) | (go_simp; with_reducible rfl))
    try simp only [Act.put, List.setIfInBounds_toArray, List.set_cons_zero, List.set_cons_succ]
    refine wpAnyH_take (i := 38) (v := ?_) (by simp only [List.getElem?_toArray, List.getElem?_cons_succ, List.getElem?_cons_zero]; exact rfl) (by kernel_rfl) (by kernel_rfl) (by kernel_rfl) (by intro _ _ _ h; exact h) (Or.inl ⟨by rfl, fun W hSw => ?_⟩) hHeld ?_
    rotate_left
    focus ((try dsimp only at hSw); first | (go_simp; done) | (go_simp; with_reducible rfl))
    try simp only [Act.put, List.setIfInBounds_toArray, List.set_cons_zero, List.set_cons_succ]
    refine wpAnyH_take (i := 39) (v := ?_) (by simp only [List.getElem?_toArray, List.getElem?_cons_succ, List.getElem?_cons_zero]; exact rfl) (by kernel_rfl) (by kernel_rfl) (by kernel_rfl) (by intro _ _ _ h; exact h) (Or.inl ⟨by rfl, fun W hSw => ?_⟩) hHeld ?_
    rotate_left
    focus ((try dsimp only at hSw); first | (go_simp; done) | (go_simp; with_reducible rfl))
    try simp only [Act.put, List.setIfInBounds_toArray, List.set_cons_zero, List.set_cons_succ]
    refine wpAnyH_take (i := 40) (v := ?_) (by simp only [List.getElem?_toArray, List.getElem?_cons_succ, List.getElem?_cons_zero]; exact rfl) (by kernel_rfl) (by kernel_rfl) (by kernel_rfl) (by intro _ _ _ h; exact h) (Or.inl ⟨by rfl, fun W hSw => ?_⟩) hHeld ?_
    rotate_left
    focus ((try dsimp only at hSw); first | (go_simp; done) | (go_simp; with_reducible rfl))
    try simp only [Act.put, List.setIfInBounds_toArray, List.set_cons_zero, List.set_cons_succ]
    refine wpAnyH_take (i := 41) (v := ?_) (by simp only [List.getElem?_toArray, List.getElem?_cons_succ, List.getElem?_cons_zero]; exact rfl) (by kernel_rfl) (by kernel_rfl) (by kernel_rfl) (by intro _ _ _ h; exact h) (Or.inl ⟨by rfl, fun W hSw => ?_⟩) hHeld ?_
    rotate_left
    focus ((try dsimp only at hSw); first | (go_simp; done) | (go_simp; with_reducible rfl))
    try simp only [Act.put, List.setIfInBounds_toArray, List.set_cons_zero, List.set_cons_succ]
    refine wpAnyH_take (i := 42) (v := ?_) (by simp only [List.getElem?_toArray, List.getElem?_cons_succ, List.getElem?_cons_zero]; exact rfl) (by kernel_rfl) (by kernel_rfl) (by kernel_rfl) (by intro _ _ _ h; exact h) (Or.inl ⟨by rfl, fun W hSw => ?_⟩) hHeld ?_
    rotate_left
    focus ((try dsimp only at hSw); first | (go_simp; done) | (go_simp; with_reducible rfl))
    try simp only [Act.put, List.setIfInBounds_toArray, List.set_cons_zero, List.set_cons_succ]
    refine wpAnyH_take (i := 43) (v := undef) (by simp only [List.getElem?_toArray, List.getElem?_cons_succ, List.getElem?_cons_zero]; exact rfl) (by kernel_rfl) (by kernel_rfl) (by kernel_rfl) (by intro _ _ _ h; exact h) (Or.inr ⟨by rfl, rfl⟩) hHeld ?_
    try simp only [Act.put, List.setIfInBounds_toArray, List.set_cons_zero, List.set_cons_succ]
    refine wpAnyH_take (i := 44) (v := undef) (by simp only [List.getElem?_toArray, List.getElem?_cons_succ, List.getElem?_cons_zero]; exact rfl) (by kernel_rfl) (by kernel_rfl) (by kernel_rfl) (by intro _ _ _ h; exact h) (Or.inr ⟨by rfl, rfl⟩) hHeld ?_
    try simp only [Act.put, List.setIfInBounds_toArray, List.set_cons_zero, List.set_cons_succ]
    refine wpAnyH_take (i := 45) (v := undef) (by simp only [List.getElem?_toArray, List.getElem?_cons_succ, List.getElem?_cons_zero]; exact rfl) (by kernel_rfl) (by kernel_rfl) (by kernel_rfl) (by intro _ _ _ h; exact h) (Or.inr ⟨by rfl, rfl⟩) hHeld ?_
    try simp only [Act.put, List.setIfInBounds_toArray, List.set_cons_zero, List.set_cons_succ]
    refine wpAnyH_take (i := 46) (v := undef) (by simp only [List.getElem?_toArray, List.getElem?_cons_succ, List.getElem?_cons_zero]; exact rfl) (by kernel_rfl) (by kernel_rfl) (by kernel_rfl) (by intro _ _ _ h; exact h) (Or.inr ⟨by rfl, rfl⟩) hHeld ?_
    try simp only [Act.put, List.setIfInBounds_toArray, List.set_cons_zero, List.set_cons_succ]
    refine wpAnyH_take (i := 47) (v := undef) (by simp only [List.getElem?_toArray, List.getElem?_cons_succ, List.getElem?_cons_zero]; exact rfl) (by kernel_rfl) (by kernel_rfl) (by kernel_rfl) (by intro _ _ _ h; exact h) (Or.inr ⟨by rfl, rfl⟩) hHeld ?_
    try simp only [Act.put, List.setIfInBounds_toArray, List.set_cons_zero, List.set_cons_succ]
    refine wpAnyH_take (i := 48) (v := ?_) (by simp only [List.getElem?_toArray, List.getElem?_cons_succ, List.getElem?_cons_zero]; exact rfl) (by kernel_rfl) (by kernel_rfl) (by kernel_rfl) (by intro _ _ _ h; exact h) (Or.inl ⟨by rfl, fun W hSw => ?_⟩) hHeld ?_
    rotate_left
    focus ((try dsimp only at hSw); first | (go_simp; done) | (go_simp; with_reducible rfl))
    try simp only [Act.put, List.setIfInBounds_toArray, List.set_cons_zero, List.set_cons_succ]
    refine wpAnyH_take (i := 49) (v := ?_) (by simp only [List.getElem?_toArray, List.getElem?_cons_succ, List.getElem?_cons_zero]; exact rfl) (by kernel_rfl) (by kernel_rfl) (by kernel_rfl) (by intro _ _ _ h; exact h) (Or.inl ⟨by rfl, fun W hSw => ?_⟩) hHeld ?_
    rotate_left
    focus ((try dsimp only at hSw); first | (go_simp; done) | (go_simp; with_reducible rfl))
    try simp only [Act.put, List.setIfInBounds_toArray, List.set_cons_zero, List.set_cons_succ]
    refine wpAnyH_take (i := 50) (v := undef) (by simp only [List.getElem?_toArray, List.getElem?_cons_succ, List.getElem?_cons_zero]; exact rfl) (by kernel_rfl) (by kernel_rfl) (by kernel_rfl) (by intro _ _ _ h; exact h) (Or.inr ⟨by rfl, rfl⟩) hHeld ?_
    try simp only [Act.put, List.setIfInBounds_toArray, List.set_cons_zero, List.set_cons_succ]
    refine wpAnyH_take (i := 51) (v := undef) (by simp only [List.getElem?_toArray, List.getElem?_cons_succ, List.getElem?_cons_zero]; exact rfl) (by kernel_rfl) (by kernel_rfl) (by kernel_rfl) (by intro _ _ _ h; exact h) (Or.inr ⟨by rfl, rfl⟩) hHeld ?_
    try simp only [Act.put, List.setIfInBounds_toArray, List.set_cons_zero, List.set_cons_succ]
    refine wpAnyH_take (i := 52) (v := undef) (by simp only [List.getElem?_toArray, List.getElem?_cons_succ, List.getElem?_cons_zero]; exact rfl) (by kernel_rfl) (by kernel_rfl) (by kernel_rfl) (by intro _ _ _ h; exact h) (Or.inr ⟨by rfl, rfl⟩) hHeld ?_
    try simp only [Act.put, List.setIfInBounds_toArray, List.set_cons_zero, List.set_cons_succ]
    refine wpAnyH_take (i := 53) (v := undef) (by simp only [List.getElem?_toArray, List.getElem?_cons_succ, List.getElem?_cons_zero]; exact rfl) (by kernel_rfl) (by kernel_rfl) (by kernel_rfl) (by intro _ _ _ h; exact h) (Or.inr ⟨by rfl, rfl⟩) hHeld ?_
    try simp only [Act.put, List.setIfInBounds_toArray, List.set_cons_zero, List.set_cons_succ]
    refine wpAnyH_take (i := 54) (v := undef) (by simp only [List.getElem?_toArray, List.getElem?_cons_succ, List.getElem?_cons_zero]; exact rfl) (by kernel_rfl) (by kernel_rfl) (by kernel_rfl) (by intro _ _ _ h; exact h) (Or.inr ⟨by rfl, rfl⟩) hHeld ?_
    try simp only [Act.put, List.setIfInBounds_toArray, List.set_cons_zero, List.set_cons_succ]
    refine wpAnyH_take (i := 55) (v := ?_) (by simp only [List.getElem?_toArray, List.getElem?_cons_succ, List.getElem?_cons_zero]; exact rfl) (by kernel_rfl) (by kernel_rfl) (by kernel_rfl) (by intro _ _ _ h; exact h) (Or.inl ⟨by rfl, fun W hSw => ?_⟩) hHeld ?_
    rotate_left
    focus ((try dsimp only at hSw); first | (go_simp; done) | (go_simp; with_reducible rfl))
    try simp only [Act.put, List.setIfInBounds_toArray, List.set_cons_zero, List.set_cons_succ]
    refine wpAnyH_done (by kernel_rfl) ?_ _
    clear hHeld
    go_wp2
    go_ret2
    exact ⟨by rw [← HR.out]; rfl, HBT.out.drewN 1⟩
  have t5 : decide (m.hour > 23) = false := by simpa using q5
  by_cases q6 : m.minute > 59
  · have hR2 : R = (0, false) := by rw [← HR0.out]; unfold dtick; rw [HY.out, if_pos (Or.inr (Or.inr (Or.inr (Or.inr (Or.inr (Or.inl q6))))))]
    have HR := Lib.hid hR2.symm
    clear hR2
    have t6 : decide (m.minute > 59) = true := by simpa using q6
    go_wp2
    refine wp_region_held_drew (S := (fun w' => w'.cell? ⟨mb, 1, none⟩ = some (.int .i64 m.day) ∧ w'.cell? ⟨mb, 2, none⟩ = some (.int .i64 m.month) ∧ w'.cell? ⟨mb, 3, none⟩ = some (.int .i64 Y) ∧ w'.cell? ⟨mb, 4, none⟩ = some (.int .i64 m.hour) ∧ w'.cell? ⟨mb, 5, none⟩ = some (.int .i64 m.minute) ∧ w'.cell? ⟨mb, 6, none⟩ = some (.int .i64 m.second))) (by kernel_rfl) (⟨c1, c2, c3, c4, c5, c6⟩) (fun hHeld => ?_)
    refine wpAnyH_take (i := 0) (v := ?_) (by simp only [List.getElem?_toArray, List.getElem?_cons_zero]; exact rfl) (by kernel_rfl) (by kernel_rfl) (by kernel_rfl) (by intro _ _ _ h; exact h) (Or.inl ⟨by rfl, fun W hSw => ?_⟩) hHeld ?_
    rotate_left
    focus ((try dsimp only at hSw); first | (go_simp; done) | (go_simp; with_reducible rfl))
    try simp only [Act.put, List.setIfInBounds_toArray, List.set_cons_zero, List.set_cons_succ]
    refine wpAnyH_take (i := 1) (v := ?_) (by simp only [List.getElem?_toArray, List.getElem?_cons_succ, List.getElem?_cons_zero]; exact rfl) (by kernel_rfl) (by kernel_rfl) (by kernel_rfl) (by intro _ _ _ h; exact h) (Or.inl ⟨by rfl, fun W hSw => ?_⟩) hHeld ?_
    rotate_left
    focus ((try dsimp only at hSw); first | (go_simp; done) | (go_simp; with_reducible rfl))
    try simp only [Act.put, List.setIfInBounds_toArray, List.set_cons_zero, List.set_cons_succ]
    refine wpAnyH_take (i := 2) (v := ?_) (by simp only [List.getElem?_toArray, List.getElem?_cons_succ, List.getElem?_cons_zero]; exact rfl) (by kernel_rfl) (by kernel_rfl) (by kernel_rfl) (by intro _ _ _ h; exact h) (Or.inl ⟨by rfl, fun W hSw => ?_⟩) hHeld ?_
    rotate_left
    focus ((try dsimp only at hSw); first | (go_simp; done) | (go_simp; with_reducible rfl))
    try simp only [Act.put, List.setIfInBounds_toArray, List.set_cons_zero, List.set_cons_succ]
    refine wpAnyH_take (i := 3) (v := ?_) (by simp only [List.getElem?_toArray, List.getElem?_cons_succ, List.getElem?_cons_zero]; exact rfl) (by kernel_rfl) (by kernel_rfl) (by kernel_rfl) (by intro _ _ _ h; exact h) (Or.inl ⟨by rfl, fun W hSw => ?_⟩) hHeld ?_
    rotate_left
    focus ((try dsimp only at hSw); first | (go_simp; done) | (go_simp; with_reducible rfl))
    try simp only [Act.put, List.setIfInBounds_toArray, List.set_cons_zero, List.set_cons_succ]
    refine wpAnyH_take (i := 4) (v := ?_) (by simp only [List.getElem?_toArray, List.getElem?_cons_succ, List.getElem?_cons_zero]; exact rfl) (by kernel_rfl) (by kernel_rfl) (by kernel_rfl) (by intro _ _ _ h; exact h) (Or.inl ⟨by rfl, fun W hSw => ?_⟩) hHeld ?_
    rotate_left
    focus ((try dsimp only at hSw); first | (go_simp; done) | (go_simp; with_reducible rfl))
    try simp only [Act.put, List.setIfInBounds_toArray, List.set_cons_zero, List.set_cons_succ]
    refine wpAnyH_take (i := 5) (v := ?_) (by simp only [List.getElem?_toArray, List.getElem?_cons_succ, List.getElem?_cons_zero]; exact rfl) (by kernel_rfl) (by kernel_rfl) (by kernel_rfl) (by intro _ _ _ h; exact h) (Or.inl ⟨by rfl, fun W hSw => ?_⟩) hHeld ?_
    rotate_left
    focus ((try dsimp only at hSw); first | (go_simp; done) | (go_simp; with_reducible rfl))
    try simp only [Act.put, List.setIfInBounds_toArray, List.set_cons_zero, List.set_cons_succ]
    refine wpAnyH_take (i := 6) (v := ?_) (by simp only [List.getElem?_toArray, List.getElem?_cons_succ, List.getElem?_cons_zero]; exact rfl) (by kernel_rfl) (by kernel_rfl) (by kernel_rfl) (by intro _ _ _ h; exact h) (Or.inl ⟨by rfl, fun W hSw => ?_⟩) hHeld ?_
    rotate_left
    focus ((try dsimp only at hSw); first | (go_simp; done) | (go_simp; with_reducible rfl))
    try simp only [Act.put, List.setIfInBounds_toArray, List.set_cons_zero, List.set_cons_succ]
    refine wpAnyH_take (i := 7) (v := ?_) (by simp only [List.getElem?_toArray, List.getElem?_cons_succ, List.getElem?_cons_zero]; exact rfl) (by kernel_rfl) (by kernel_rfl) (by kernel_rfl) (by intro _ _ _ h; exact h) (Or.inl ⟨by rfl, fun W hSw => ?_⟩) hHeld ?_
    rotate_left
    focus ((try dsimp only at hSw); first | (go_simp; done) | (go_simp; with_reducible rfl))
    try simp only [Act.put, List.setIfInBounds_toArray, List.set_cons_zero, List.set_cons_succ]
    refine wpAnyH_take (i := 8) (v := ?_) (by simp only [List.getElem?_toArray, List.getElem?_cons_succ, List.getElem?_cons_zero]; exact rfl) (by kernel_rfl) (by kernel_rfl) (by kernel_rfl) (by intro _ _ _ h; exact h) (Or.inl ⟨by rfl, fun W hSw => ?_⟩) hHeld ?_
    rotate_left
    focus ((try dsimp only at hSw); first | (go_simp; done) | (go_simp; with_reducible rfl))
    try simp only [Act.put, List.setIfInBounds_toArray, List.set_cons_zero, List.set_cons_succ]
    refine wpAnyH_take (i := 9) (v := ?_) (by simp only [List.getElem?_toArray, List.getElem?_cons_succ, List.getElem?_cons_zero]; exact rfl) (by kernel_rfl) (by kernel_rfl) (by kernel_rfl) (by intro _ _ _ h; exact h) (Or.inl ⟨by rfl, fun W hSw => ?_⟩) hHeld ?_
    rotate_left
    focus ((try dsimp only at hSw); first | (go_simp; done) | (go_simp; with_reducible rfl))
    try simp only [Act.put, List.setIfInBounds_toArray, List.set_cons_zero, List.set_cons_succ]
    refine wpAnyH_take (i := 10) (v := ?_) (by simp only [List.getElem?_toArray, List.getElem?_cons_succ, List.getElem?_cons_zero]; exact rfl) (by kernel_rfl) (by kernel_rfl) (by kernel_rfl) (by intro _ _ _ h; exact h) (Or.inl ⟨by rfl, fun W hSw => ?_⟩) hHeld ?_
    rotate_left
    focus ((try dsimp only at hSw); first | (go_simp; done) | (go_simp; with_reducible rfl))
    try simp only [Act.put, List.setIfInBounds_toArray, List.set_cons_zero, List.set_cons_succ]
    refine wpAnyH_take (i := 11) (v := ?_) (by simp only [List.getElem?_toArray, List.getElem?_cons_succ, List.getElem?_cons_zero]; exact rfl) (by kernel_rfl) (by kernel_rfl) (by kernel_rfl) (by intro _ _ _ h; exact h) (Or.inl ⟨by rfl, fun W hSw => ?_⟩) hHeld ?_
    rotate_left
    focus ((try dsimp only at hSw); first | (go_simp; done) | (go_simp; with_reducible rfl))
    try simp only [Act.put, List.setIfInBounds_toArray, List.set_cons_zero, List.set_cons_succ]
    refine wpAnyH_take (i := 12) (v := ?_) (by simp only [List.getElem?_toArray, List.getElem?_cons_succ, List.getElem?_cons_zero]; exact rfl) (by kernel_rfl) (by kernel_rfl) (by kernel_rfl) (by intro _ _ _ h; exact h) (Or.inl ⟨by rfl, fun W hSw => ?_⟩) hHeld ?_
    rotate_left
    focus ((try dsimp only at hSw); first | (go_simp; done) | (go_simp; with_reducible rfl))
    try simp only [Act.put, List.setIfInBounds_toArray, List.set_cons_zero, List.set_cons_succ]
    refine wpAnyH_take (i := 13) (v := ?_) (by simp only [List.getElem?_toArray, List.getElem?_cons_succ, List.getElem?_cons_zero]; exact rfl) (by kernel_rfl) (by kernel_rfl) (by kernel_rfl) (by intro _ _ _ h; exact h) (Or.inl ⟨by rfl, fun W hSw => ?_⟩) hHeld ?_
    rotate_left
    focus ((try dsimp only at hSw); first | (go_simp; done) | (go_simp; with_reducible rfl))
    try simp only [Act.put, List.setIfInBounds_toArray, List.set_cons_zero, List.set_cons_succ]
    refine wpAnyH_take (i := 14) (v := ?_) (by simp only [List.getElem?_toArray, List.getElem?_cons_succ, List.getElem?_cons_zero]; exact rfl) (by kernel_rfl) (by kernel_rfl) (by kernel_rfl) (by intro _ _ _ h; exact h) (Or.inl ⟨by rfl, fun W hSw => ?_⟩) hHeld ?_
    rotate_left
    focus ((try dsimp only at hSw); first | (go_simp; done) | (go_simp; with_reducible rfl))
    try simp only [Act.put, List.setIfInBounds_toArray, List.set_cons_zero, List.set_cons_succ]
    refine wpAnyH_take (i := 15) (v := ?_) (by simp only [List.getElem?_toArray, List.getElem?_cons_succ, List.getElem?_cons_zero]; exact rfl) (by kernel_rfl) (by kernel_rfl) (by kernel_rfl) (by intro _ _ _ h; exact h) (Or.inl ⟨by rfl, fun W hSw => ?_⟩) hHeld ?_
    rotate_left
    focus ((try dsimp only at hSw); first | (go_simp; done) | (go_simp; with_reducible rfl))
    try simp only [Act.put, List.setIfInBounds_toArray, List.set_cons_zero, List.set_cons_succ]
    refine wpAnyH_take (i := 16) (v := ?_) (by simp only [List.getElem?_toArray, List.getElem?_cons_succ, List.getElem?_cons_zero]; exact rfl) (by kernel_rfl) (by kernel_rfl) (by kernel_rfl) (by intro _ _ _ h; exact h) (Or.inl ⟨by rfl, fun W hSw => ?_⟩) hHeld ?_
    rotate_left
    focus ((try dsimp only at hSw); first | (go_simp; done) | (go_simp; with_reducible rfl))
    try simp only [Act.put, List.setIfInBounds_toArray, List.set_cons_zero, List.set_cons_succ]
    refine wpAnyH_take (i := 17) (v := ?_) (by simp only [List.getElem?_toArray, List.getElem?_cons_succ, List.getElem?_cons_zero]; exact rfl) (by kernel_rfl) (by kernel_rfl) (by kernel_rfl) (by intro _ _ _ h; exact h) (Or.inl ⟨by rfl, fun W hSw => ?_⟩) hHeld ?_
    rotate_left
    focus ((try dsimp only at hSw); first | (go_simp; done) | (go_simp; with_reducible rfl))
    try simp only [Act.put, List.setIfInBounds_toArray, List.set_cons_zero, List.set_cons_succ]
    refine wpAnyH_take (i := 18) (v := ?_) (by simp only [List.getElem?_toArray, List.getElem?_cons_succ, List.getElem?_cons_zero]; exact rfl) (by kernel_rfl) (by kernel_rfl) (by kernel_rfl) (by intro _ _ _ h; exact h) (Or.inl ⟨by rfl, fun W hSw => ?_⟩) hHeld ?_
    rotate_left
    focus ((try dsimp only at hSw); first | (go_simp; done) | (go_simp; with_reducible rfl))
    try simp only [Act.put, List.setIfInBounds_toArray, List.set_cons_zero, List.set_cons_succ]
    refine wpAnyH_take (i := 19) (v := ?_) (by simp only [List.getElem?_toArray, List.getElem?_cons_succ, List.getElem?_cons_zero]; exact rfl) (by kernel_rfl) (by kernel_rfl) (by kernel_rfl) (by intro _ _ _ h; exact h) (Or.inl ⟨by rfl, fun W hSw => ?_⟩) hHeld ?_
    rotate_left
    focus ((try dsimp only at hSw); first | (go_simp; done) | (go_simp; with_reducible rfl))
    try simp only [Act.put, List.setIfInBounds_toArray, List.set_cons_zero, List.set_cons_succ]
    refine wpAnyH_take (i := 20) (v := ?_) (by simp only [List.getElem?_toArray, List.getElem?_cons_succ, List.getElem?_cons_zero]; exact rfl) (by kernel_rfl) (by kernel_rfl) (by kernel_rfl) (by intro _ _ _ h; exact h) (Or.inl ⟨by rfl, fun W hSw => ?_⟩) hHeld ?_
    rotate_left
    focus ((try dsimp only at hSw); first | (go_simp; done) | (go_simp; with_reducible rfl))
    try simp only [Act.put, List.setIfInBounds_toArray, List.set_cons_zero, List.set_cons_succ]
    refine wpAnyH_take (i := 21) (v := ?_) (by simp only [List.getElem?_toArray, List.getElem?_cons_succ, List.getElem?_cons_zero]; exact rfl) (by kernel_rfl) (by kernel_rfl) (by kernel_rfl) (by intro _ _ _ h; exact h) (Or.inl ⟨by rfl, fun W hSw => ?_⟩) hHeld ?_
    rotate_left
    focus ((try dsimp only at hSw); first | (go_simp; done) | (go_simp; with_reducible rfl))
    try simp only [Act.put, List.setIfInBounds_toArray, List.set_cons_zero, List.set_cons_succ]
    refine wpAnyH_take (i := 22) (v := ?_) (by simp only [List.getElem?_toArray, List.getElem?_cons_succ, List.getElem?_cons_zero]; exact rfl) (by kernel_rfl) (by kernel_rfl) (by kernel_rfl) (by intro _ _ _ h; exact h) (Or.inl ⟨by rfl, fun W hSw => ?_⟩) hHeld ?_
    rotate_left
    focus ((try dsimp only at hSw); first | (go_simp; done) | (go_simp; with_reducible rfl))
    try simp only [Act.put, List.setIfInBounds_toArray, List.set_cons_zero, List.set_cons_succ]
    refine wpAnyH_take (i := 23) (v := ?_) (by simp only [List.getElem?_toArray, List.getElem?_cons_succ, List.getElem?_cons_zero]; exact rfl) (by kernel_rfl) (by kernel_rfl) (by kernel_rfl) (by intro _ _ _ h; exact h) (Or.inl ⟨by rfl, fun W hSw => ?_⟩) hHeld ?_
    rotate_left
    focus ((try dsimp only at hSw); first | (go_simp; done) | (go_simp; with_reducible rfl))
    try simp only [Act.put, List.setIfInBounds_toArray, List.set_cons_zero, List.set_cons_succ]
    refine wpAnyH_take (i := 24) (v := ?_) (by simp only [List.getElem?_toArray, List.getElem?_cons_succ, List.getElem?_cons_zero]; exact rfl) (by kernel_rfl) (by kernel_rfl) (by kernel_rfl) (by intro _ _ _ h; exact h) (Or.inl ⟨by rfl, fun W hSw => ?_⟩) hHeld ?_
    rotate_left
    focus ((try dsimp only at hSw); first | (go_simp; done) | (go_simp; with_reducible rfl))
    try simp only [Act.put, List.setIfInBounds_toArray, List.set_cons_zero, List.set_cons_succ]
    refine wpAnyH_take (i := 25) (v := ?_) (by simp only [List.getElem?_toArray, List.getElem?_cons_succ, List.getElem?_cons_zero]; exact rfl) (by kernel_rfl) (by kernel_rfl) (by kernel_rfl) (by intro _ _ _ h; exact h) (Or.inl ⟨by rfl, fun W hSw => ?_⟩) hHeld ?_
    rotate_left
    focus ((try dsimp only at hSw); first | (go_simp; done) | (go_simp; with_reducible rfl))
    try simp only [Act.put, List.setIfInBounds_toArray, List.set_cons_zero, List.set_cons_succ]
    refine wpAnyH_take (i := 26) (v := ?_) (by simp only [List.getElem?_toArray, List.getElem?_cons_succ, List.getElem?_cons_zero]; exact rfl) (by kernel_rfl) (by kernel_rfl) (by kernel_rfl) (by intro _ _ _ h; exact h) (Or.inl ⟨by rfl, fun W hSw => ?_⟩) hHeld ?_
    rotate_left
    focus ((try dsimp only at hSw); first | (go_simp; done) | (go_simp; with_reducible rfl))
    try simp only [Act.put, List.setIfInBounds_toArray, List.set_cons_zero, List.set_cons_succ]
    refine wpAnyH_take (i := 27) (v := ?_) (by simp only [List.getElem?_toArray, List.getElem?_cons_succ, List.getElem?_cons_zero]; exact rfl) (by kernel_rfl) (by kernel_rfl) (by kernel_rfl) (by intro _ _ _ h; exact h) (Or.inl ⟨by rfl, fun W hSw => ?_⟩) hHeld ?_
    rotate_left
    focus ((try dsimp only at hSw); first | (go_simp; done) | (go_simp; with_reducible rfl))
    try simp only [Act.put, List.setIfInBounds_toArray, List.set_cons_zero, List.set_cons_succ]
    refine wpAnyH_take (i := 28) (v := ?_) (by simp only [List.getElem?_toArray, List.getElem?_cons_succ, List.getElem?_cons_zero]; exact rfl) (by kernel_rfl) (by kernel_rfl) (by kernel_rfl) (by intro _ _ _ h; exact h) (Or.inl ⟨by rfl, fun W hSw => ?_⟩) hHeld ?_
    rotate_left
    focus ((try dsimp only at hSw); first | (go_simp; done) | (go_simp; with_reducible rfl))
    try simp only [Act.put, List.setIfInBounds_toArray, List.set_cons_zero, List.set_cons_succ]
    refine wpAnyH_take (i := 29) (v := ?_) (by simp only [List.getElem?_toArray, List.getElem?_cons_succ, List.getElem?_cons_zero]; exact rfl) (by kernel_rfl) (by kernel_rfl) (by kernel_rfl) (by intro _ _ _ h; exact h) (Or.inl ⟨by rfl, fun W hSw => ?_⟩) hHeld ?_
    rotate_left
    focus ((try dsimp only at hSw); first | (go_simp; done) | (go_simp; with_reducible rfl))
    try simp only [Act.put, List.setIfInBounds_toArray, List.set_cons_zero, List.set_cons_succ]
    refine wpAnyH_take (i := 30) (v := ?_) (by simp only [List.getElem?_toArray, List.getElem?_cons_succ, List.getElem?_cons_zero]; exact rfl) (by kernel_rfl) (by kernel_rfl) (by kernel_rfl) (by intro _ _ _ h; exact h) (Or.inl ⟨by rfl, fun W hSw => ?_⟩) hHeld ?_
    rotate_left
    focus ((try dsimp only at hSw); first | (go_simp; done) | (go_simp; with_reducible rfl))
    try simp only [Act.put, List.setIfInBounds_toArray, List.set_cons_zero, List.set_cons_succ]
    refine wpAnyH_take (i := 31) (v := ?_) (by simp only [List.getElem?_toArray, List.getElem?_cons_succ, List.getElem?_cons_zero]; exact rfl) (by kernel_rfl) (by kernel_rfl) (by kernel_rfl) (by intro _ _ _ h; exact h) (Or.inl ⟨by rfl, fun W hSw => ?_⟩) hHeld ?_
    rotate_left
    focus ((try dsimp only at hSw); first | (go_simp; done) | (go_simp; with_reducible rfl))
    try simp only [Act.put, List.setIfInBounds_toArray, List.set_cons_zero, List.set_cons_succ]
    refine wpAnyH_ready (rs := [32]) (by kernel_rfl) (by simp) (AllReadyH.cons (by simp only [List.getElem?_toArray, List.getElem?_cons_succ, List.getElem?_cons_zero]; exact rfl) (fun K hK => ?_) AllReadyH.nil)
    rw [if_pos (by rfl)]
    go_simp
    refine (KL.out _).mono ?_; rintro e wl ⟨rfl, rfl⟩; go_wp2_with fail
    refine hK.out _ _ (hHeld) (fun hHeld => ?_)
    clear hK K
    try simp only [Act.put, List.setIfInBounds_toArray, List.set_cons_zero, List.set_cons_succ]
    refine wpAnyH_take (i := 33) (v := ?_) (by simp only [List.getElem?_toArray, List.getElem?_cons_succ, List.getElem?_cons_zero]; exact rfl) (by kernel_rfl) (by kernel_rfl) (by kernel_rfl) (by intro _ _ _ h; exact h) (Or.inl ⟨by rfl, fun W hSw => ?_⟩) hHeld ?_
    rotate_left
    focus ((try dsimp only at hSw); first | (go_simp; done) | (go_simp; with_reducible rfl))
    try simp only [Act.put, List.setIfInBounds_toArray, List.set_cons_zero, List.set_cons_succ]
    refine wpAnyH_take (i := 34) (v := ?_) (by simp only [List.getElem?_toArray, List.getElem?_cons_succ, List.getElem?_cons_zero]; exact rfl) (by kernel_rfl) (by kernel_rfl) (by kernel_rfl) (by intro _ _ _ h; exact h) (Or.inl ⟨by rfl, fun W hSw => ?_⟩) hHeld ?_
    rotate_left
    focus ((try dsimp only at hSw); first | (go_simp; done) | (go_simp; with_reducible rfl))
    try simp only [Act.put, List.setIfInBounds_toArray, List.set_cons_zero, List.set_cons_succ]
    refine wpAnyH_take (i := 35) (v := ?_) (by simp only [List.getElem?_toArray, List.getElem?_cons_succ, List.getElem?_cons_zero]; exact rfl) (by kernel_rfl) (by kernel_rfl) (by kernel_rfl) (by intro _ _ _ h; exact h) (Or.inl ⟨by rfl, fun W hSw => ?_⟩) hHeld ?_
    rotate_left
    focus ((try dsimp only at hSw); first | (go_simp; done) | (go_simp; with_reducible rfl))
    try simp only [Act.put, List.setIfInBounds_toArray, List.set_cons_zero, List.set_cons_succ]
    refine wpAnyH_take (i := 36) (v := ?_) (by simp only [List.getElem?_toArray, List.getElem?_cons_succ, List.getElem?_cons_zero]; exact rfl) (by kernel_rfl) (by kernel_rfl) (by kernel_rfl) (by intro _ _ _ h; exact h) (Or.inl ⟨by rfl, fun W hSw => ?_⟩) hHeld ?_
    rotate_left
    focus ((try dsimp only at hSw); first | (go_simp; done) | (go_simp; with_reducible rfl))
    try simp only [Act.put, List.setIfInBounds_toArray, List.set_cons_zero, List.set_cons_succ]
    refine wpAnyH_take (i := 37) (v := ?_) (by simp only [List.getElem?_toArray, List.getElem?_cons_succ, List.getElem?_cons_zero]; exact rfl) (by kernel_rfl) (by kernel_rfl) (by kernel_rfl) (by intro _ _ _ h; exact h) (Or.inl ⟨by rfl, fun W hSw => ?_⟩) hHeld ?_
    rotate_left
    focus ((try dsimp only at hSw); first | (go_simp; done) | (go_simp; with_reducible rfl))
    try simp only [Act.put, List.setIfInBounds_toArray, List.set_cons_zero, List.set_cons_succ]
    refine wpAnyH_take (i := 38) (v := ?_) (by simp only [List.getElem?_toArray, List.getElem?_cons_succ, List.getElem?_cons_zero]; exact rfl) (by kernel_rfl) (by kernel_rfl) (by kernel_rfl) (by intro _ _ _ h; exact h) (Or.inl ⟨by rfl, fun W hSw => ?_⟩) hHeld ?_
    rotate_left
    focus ((try dsimp only at hSw); first | (go_simp; done) | (go_simp; with_reducible rfl))
    try simp only [Act.put, List.setIfInBounds_toArray, List.set_cons_zero, List.set_cons_succ]
    refine wpAnyH_take (i := 39) (v := ?_) (by simp only [List.getElem?_toArray, List.getElem?_cons_succ, List.getElem?_cons_zero]; exact rfl) (by kernel_rfl) (by kernel_rfl) (by kernel_rfl) (by intro _ _ _ h; exact h) (Or.inl ⟨by rfl, fun W hSw => ?_⟩) hHeld ?_
    rotate_left
    focus ((try dsimp only at hSw); first | (go_simp; done) | (go_simp; with_reducible rfl))
    try simp only [Act.put, List.setIfInBounds_toArray, List.set_cons_zero, List.set_cons_succ]
    refine wpAnyH_take (i := 40) (v := ?_) (by simp only [List.getElem?_toArray, List.getElem?_cons_succ, List.getElem?_cons_zero]; exact rfl) (by kernel_rfl) (by kernel_rfl) (by kernel_rfl) (by intro _ _ _ h; exact h) (Or.inl ⟨by rfl, fun W hSw => ?_⟩) hHeld ?_
    rotate_left
    focus ((try dsimp only at hSw); first | (go_simp; done) | (go_simp; with_reducible rfl))
    try simp only [Act.put, List.setIfInBounds_toArray, List.set_cons_zero, List.set_cons_succ]
    refine wpAnyH_take (i := 41) (v := ?_) (by simp only [List.getElem?_toArray, List.getElem?_cons_succ, List.getElem?_cons_zero]; exact rfl) (by kernel_rfl) (by kernel_rfl) (by kernel_rfl) (by intro _ _ _ h; exact h) (Or.inl ⟨by rfl, fun W hSw => ?_⟩) hHeld ?_
    rotate_left
    focus ((try dsimp only at hSw); first | (go_simp; done) | (go_simp; with_reducible rfl))
    try simp only [Act.put, List.setIfInBounds_toArray, List.set_cons_zero, List.set_cons_succ]
    refine wpAnyH_take (i := 42) (v := ?_) (by simp only [List.getElem?_toArray, List.getElem?_cons_succ, List.getElem?_cons_zero]; exact rfl) (by kernel_rfl) (by kernel_rfl) (by kernel_rfl) (by intro _ _ _ h; exact h) (Or.inl ⟨by rfl, fun W hSw => ?_⟩) hHeld ?_
    rotate_left
    focus ((try dsimp only at hSw); first | (go_simp; done) | (go_simp; with_reducible rfl))
    try simp only [Act.put, List.setIfInBounds_toArray, List.set_cons_zero, List.set_cons_succ]
    refine wpAnyH_take (i := 43) (v := ?_) (by simp only [List.getElem?_toArray, List.getElem?_cons_succ, List.getElem?_cons_zero]; exact rfl) (by kernel_rfl) (by kernel_rfl) (by kernel_rfl) (by intro _ _ _ h; exact h) (Or.inl ⟨by rfl, fun W hSw => ?_⟩) hHeld ?_
    rotate_left
    focus ((try dsimp only at hSw); first | (go_simp; done) | (go_simp; with_reducible rfl))
    try simp only [Act.put, List.setIfInBounds_toArray, List.set_cons_zero, List.set_cons_succ]
    refine wpAnyH_take (i := 44) (v := ?_) (by simp only [List.getElem?_toArray, List.getElem?_cons_succ, List.getElem?_cons_zero]; exact rfl) (by kernel_rfl) (by kernel_rfl) (by kernel_rfl) (by intro _ _ _ h; exact h) (Or.inl ⟨by rfl, fun W hSw => ?_⟩) hHeld ?_
    rotate_left
    focus ((try dsimp only at hSw); first | (go_simp; done) | (go_simp; with_reducible rfl))
    try simp only [Act.put, List.setIfInBounds_toArray, List.set_cons_zero, List.set_cons_succ]
    refine wpAnyH_take (i := 45) (v := ?_) (by simp only [List.getElem?_toArray, List.getElem?_cons_succ, List.getElem?_cons_zero]; exact rfl) (by kernel_rfl) (by kernel_rfl) (by kernel_rfl) (by intro _ _ _ h; exact h) (Or.inl ⟨by rfl, fun W hSw => ?_⟩) hHeld ?_
    rotate_left
    focus ((try dsimp only at hSw); first | (go_simp; done) | (go_simp; with_reducible rfl))
    try simp only [Act.put, List.setIfInBounds_toArray, List.set_cons_zero, List.set_cons_succ]
    refine wpAnyH_take (i := 46) (v := ?_) (by simp only [List.getElem?_toArray, List.getElem?_cons_succ, List.getElem?_cons_zero]; exact rfl) (by kernel_rfl) (by kernel_rfl) (by kernel_rfl) (by intro _ _ _ h; exact h) (Or.inl ⟨by rfl, fun W hSw => ?_⟩) hHeld ?_
    rotate_left
    focus ((try dsimp only at hSw); first | (go_simp; done) | (go_simp; with_reducible rfl))
    try simp only [Act.put, List.setIfInBounds_toArray, List.set_cons_zero, List.set_cons_succ]
    refine wpAnyH_take (i := 47) (v := ?_) (by simp only [List.getElem?_toArray, List.getElem?_cons_succ, List.getElem?_cons_zero]; exact rfl) (by kernel_rfl) (by kernel_rfl) (by kernel_rfl) (by intro _ _ _ h; exact h) (Or.inl ⟨by rfl, fun W hSw => ?_⟩) hHeld ?_
    rotate_left
    focus ((try dsimp only at hSw); first | (go_simp; done) | (go_simp; with_reducible rfl))
    try simp only [Act.put, List.setIfInBounds_toArray, List.set_cons_zero, List.set_cons_succ]
    refine wpAnyH_take (i := 48) (v := ?_) (by simp only [List.getElem?_toArray, List.getElem?_cons_succ, List.getElem?_cons_zero]; exact rfl) (by kernel_rfl) (by kernel_rfl) (by kernel_rfl) (by intro _ _ _ h; exact h) (Or.inl ⟨by rfl, fun W hSw => ?_⟩) hHeld ?_
    rotate_left
    focus ((try dsimp only at hSw); first | (go_simp; done) | (go_simp; with_reducible rfl))
    try simp only [Act.put, List.setIfInBounds_toArray, List.set_cons_zero, List.set_cons_succ]
    refine wpAnyH_take (i := 49) (v := ?_) (by simp only [List.getElem?_toArray, List.getElem?_cons_succ, List.getElem?_cons_zero]; exact rfl) (by kernel_rfl) (by kernel_rfl) (by kernel_rfl) (by intro _ _ _ h; exact h) (Or.inl ⟨by rfl, fun W hSw => ?_⟩) hHeld ?_
    rotate_left
    focus ((try dsimp only at hSw); first | (go_simp; done) | (go_simp; with_reducible rfl))
    try simp only [Act.put, List.setIfInBounds_toArray, List.set_cons_zero, List.set_cons_succ]
    refine wpAnyH_take (i := 50) (v := undef) (by simp only [List.getElem?_toArray, List.getElem?_cons_succ, List.getElem?_cons_zero]; exact rfl) (by kernel_rfl) (by kernel_rfl) (by kernel_rfl) (by intro _ _ _ h; exact h) (Or.inr ⟨by rfl, rfl⟩) hHeld ?_
    try simp only [Act.put, List.setIfInBounds_toArray, List.set_cons_zero, List.set_cons_succ]
    refine wpAnyH_take (i := 51) (v := undef) (by simp only [List.getElem?_toArray, List.getElem?_cons_succ, List.getElem?_cons_zero]; exact rfl) (by kernel_rfl) (by kernel_rfl) (by kernel_rfl) (by intro _ _ _ h; exact h) (Or.inr ⟨by rfl, rfl⟩) hHeld ?_
    try simp only [Act.put, List.setIfInBounds_toArray, List.set_cons_zero, List.set_cons_succ]
    refine wpAnyH_take (i := 52) (v := undef) (by simp only [List.getElem?_toArray, List.getElem?_cons_succ, List.getElem?_cons_zero]; exact rfl) (by kernel_rfl) (by kernel_rfl) (by kernel_rfl) (by intro _ _ _ h; exact h) (Or.inr ⟨by rfl, rfl⟩) hHeld ?_
    try simp only [Act.put, List.setIfInBounds_toArray, List.set_cons_zero, List.set_cons_succ]
    refine wpAnyH_take (i := 53) (v := undef) (by simp only [List.getElem?_toArray, List.getElem?_cons_succ, List.getElem?_cons_zero]; exact rfl) (by kernel_rfl) (by kernel_rfl) (by kernel_rfl) (by intro _ _ _ h; exact h) (Or.inr ⟨by rfl, rfl⟩) hHeld ?_
    try simp only [Act.put, List.setIfInBounds_toArray, List.set_cons_zero, List.set_cons_succ]
    refine wpAnyH_take (i := 54) (v := undef) (by simp only [List.getElem?_toArray, List.getElem?_cons_succ, List.getElem?_cons_zero]; exact rfl) (by kernel_rfl) (by kernel_rfl) (by kernel_rfl) (by intro _ _ _ h; exact h) (Or.inr ⟨by rfl, rfl⟩) hHeld ?_
    try simp only [Act.put, List.setIfInBounds_toArray, List.set_cons_zero, List.set_cons_succ]
    refine wpAnyH_take (i := 55) (v := ?_) (by simp only [List.getElem?_toArray, List.getElem?_cons_succ, List.getElem?_cons_zero]; exact rfl) (by kernel_rfl) (by kernel_rfl) (by kernel_rfl) (by intro _ _ _ h; exact h) (Or.inl ⟨by rfl, fun W hSw => ?_⟩) hHeld ?_
    rotate_left
    focus ((try dsimp only at hSw); first | (go_simp; done) | (go_simp; with_reducible rfl))
    try simp only [Act.put, List.setIfInBounds_toArray, List.set_cons_zero, List.set_cons_succ]
    refine wpAnyH_done (by kernel_rfl) ?_ _
    clear hHeld
    go_wp2
    go_ret2
    exact ⟨by rw [← HR.out]; rfl, HBT.out.drewN 1⟩
  have t6 : decide (m.minute > 59) = false := by simpa using q6
  by_cases q7 : m.second > 59
  · have hR2 : R = (0, false) := by rw [← HR0.out]; unfold dtick; rw [HY.out, if_pos (Or.inr (Or.inr (Or.inr (Or.inr (Or.inr (Or.inr q7))))))]
    have HR := Lib.hid hR2.symm
    clear hR2
    have t7 : decide (m.second > 59) = true := by simpa using q7
    go_wp2
    refine wp_region_held_drew (S := (fun w' => w'.cell? ⟨mb, 1, none⟩ = some (.int .i64 m.day) ∧ w'.cell? ⟨mb, 2, none⟩ = some (.int .i64 m.month) ∧ w'.cell? ⟨mb, 3, none⟩ = some (.int .i64 Y) ∧ w'.cell? ⟨mb, 4, none⟩ = some (.int .i64 m.hour) ∧ w'.cell? ⟨mb, 5, none⟩ = some (.int .i64 m.minute) ∧ w'.cell? ⟨mb, 6, none⟩ = some (.int .i64 m.second))) (by kernel_rfl) (⟨c1, c2, c3, c4, c5, c6⟩) (fun hHeld => ?_)
    refine wpAnyH_take (i := 0) (v := ?_) (by simp only [List.getElem?_toArray, List.getElem?_cons_zero]; exact rfl) (by kernel_rfl) (by kernel_rfl) (by kernel_rfl) (by intro _ _ _ h; exact h) (Or.inl ⟨by rfl, fun W hSw => ?_⟩) hHeld ?_
    rotate_left
    focus ((try dsimp only at hSw); first | (go_simp; done) | (go_simp; with_reducible rfl))
    try simp only [Act.put, List.setIfInBounds_toArray, List.set_cons_zero, List.set_cons_succ]
    refine wpAnyH_take (i := 1) (v := ?_) (by simp only [List.getElem?_toArray, List.getElem?_cons_succ, List.getElem?_cons_zero]; exact rfl) (by kernel_rfl) (by kernel_rfl) (by kernel_rfl) (by intro _ _ _ h; exact h) (Or.inl ⟨by rfl, fun W hSw => ?_⟩) hHeld ?_
    rotate_left
    focus ((try dsimp only at hSw); first | (go_simp; done) | (go_simp; with_reducible rfl))
    try simp only [Act.put, List.setIfInBounds_toArray, List.set_cons_zero, List.set_cons_succ]
    refine wpAnyH_take (i := 2) (v := ?_) (by simp only [List.getElem?_toArray, List.getElem?_cons_succ, List.getElem?_cons_zero]; exact rfl) (by kernel_rfl) (by kernel_rfl) (by kernel_rfl) (by intro _ _ _ h; exact h) (Or.inl ⟨by rfl, fun W hSw => ?_⟩) hHeld ?_
    rotate_left
    focus ((try dsimp only at hSw); first | (go_simp; done) | (go_simp; with_reducible rfl))
    try simp only [Act.put, List.setIfInBounds_toArray, List.set_cons_zero, List.set_cons_succ]
    refine wpAnyH_take (i := 3) (v := ?_) (by simp only [List.getElem?_toArray, List.getElem?_cons_succ, List.getElem?_cons_zero]; exact rfl) (by kernel_rfl) (by kernel_rfl) (by kernel_rfl) (by intro _ _ _ h; exact h) (Or.inl ⟨by rfl, fun W hSw => ?_⟩) hHeld ?_
    rotate_left
    focus ((try dsimp only at hSw); first | (go_simp; done) | (go_simp; with_reducible rfl))
    try simp only [Act.put, List.setIfInBounds_toArray, List.set_cons_zero, List.set_cons_succ]
    refine wpAnyH_take (i := 4) (v := ?_) (by simp only [List.getElem?_toArray, List.getElem?_cons_succ, List.getElem?_cons_zero]; exact rfl) (by kernel_rfl) (by kernel_rfl) (by kernel_rfl) (by intro _ _ _ h; exact h) (Or.inl ⟨by rfl, fun W hSw => ?_⟩) hHeld ?_
    rotate_left
    focus ((try dsimp only at hSw); first | (go_simp; done) | (go_simp; with_reducible rfl))
    try simp only [Act.put, List.setIfInBounds_toArray, List.set_cons_zero, List.set_cons_succ]
    refine wpAnyH_take (i := 5) (v := ?_) (by simp only [List.getElem?_toArray, List.getElem?_cons_succ, List.getElem?_cons_zero]; exact rfl) (by kernel_rfl) (by kernel_rfl) (by kernel_rfl) (by intro _ _ _ h; exact h) (Or.inl ⟨by rfl, fun W hSw => ?_⟩) hHeld ?_
    rotate_left
    focus ((try dsimp only at hSw); first | (go_simp; done) | (go_simp; with_reducible rfl))
    try simp only [Act.put, List.setIfInBounds_toArray, List.set_cons_zero, List.set_cons_succ]
    refine wpAnyH_take (i := 6) (v := ?_) (by simp only [List.getElem?_toArray, List.getElem?_cons_succ, List.getElem?_cons_zero]; exact rfl) (by kernel_rfl) (by kernel_rfl) (by kernel_rfl) (by intro _ _ _ h; exact h) (Or.inl ⟨by rfl, fun W hSw => ?_⟩) hHeld ?_
    rotate_left
    focus ((try dsimp only at hSw); first | (go_simp; done) | (go_simp; with_reducible rfl))
    try simp only [Act.put, List.setIfInBounds_toArray, List.set_cons_zero, List.set_cons_succ]
    refine wpAnyH_take (i := 7) (v := ?_) (by simp only [List.getElem?_toArray, List.getElem?_cons_succ, List.getElem?_cons_zero]; exact rfl) (by kernel_rfl) (by kernel_rfl) (by kernel_rfl) (by intro _ _ _ h; exact h) (Or.inl ⟨by rfl, fun W hSw => ?_⟩) hHeld ?_
    rotate_left
    focus ((try dsimp only at hSw); first | (go_simp; done) | (go_simp; with_reducible rfl))
    try simp only [Act.put, List.setIfInBounds_toArray, List.set_cons_zero, List.set_cons_succ]
    refine wpAnyH_take (i := 8) (v := ?_) (by simp only [List.getElem?_toArray, List.getElem?_cons_succ, List.getElem?_cons_zero]; exact rfl) (by kernel_rfl) (by kernel_rfl) (by kernel_rfl) (by intro _ _ _ h; exact h) (Or.inl ⟨by rfl, fun W hSw => ?_⟩) hHeld ?_
    rotate_left
    focus ((try dsimp only at hSw); first | (go_simp; done) | (go_simp; with_reducible rfl))
    try simp only [Act.put, List.setIfInBounds_toArray, List.set_cons_zero, List.set_cons_succ]
    refine wpAnyH_take (i := 9) (v := ?_) (by simp only [List.getElem?_toArray, List.getElem?_cons_succ, List.getElem?_cons_zero]; exact rfl) (by kernel_rfl) (by kernel_rfl) (by kernel_rfl) (by intro _ _ _ h; exact h) (Or.inl ⟨by rfl, fun W hSw => ?_⟩) hHeld ?_
    rotate_left
    focus ((try dsimp only at hSw); first | (go_simp; done) | (go_simp; with_reducible rfl))
    try simp only [Act.put, List.setIfInBounds_toArray, List.set_cons_zero, List.set_cons_succ]
    refine wpAnyH_take (i := 10) (v := ?_) (by simp only [List.getElem?_toArray, List.getElem?_cons_succ, List.getElem?_cons_zero]; exact rfl) (by kernel_rfl) (by kernel_rfl) (by kernel_rfl) (by intro _ _ _ h; exact h) (Or.inl ⟨by rfl, fun W hSw => ?_⟩) hHeld ?_
    rotate_left
    focus ((try dsimp only at hSw); first | (go_simp; done) | (go_simp; with_reducible rfl))
    try simp only [Act.put, List.setIfInBounds_toArray, List.set_cons_zero, List.set_cons_succ]
    refine wpAnyH_take (i := 11) (v := ?_) (by simp only [List.getElem?_toArray, List.getElem?_cons_succ, List.getElem?_cons_zero]; exact rfl) (by kernel_rfl) (by kernel_rfl) (by kernel_rfl) (by intro _ _ _ h; exact h) (Or.inl ⟨by rfl, fun W hSw => ?_⟩) hHeld ?_
    rotate_left
    focus ((try dsimp only at hSw); first | (go_simp; done) | (go_simp; with_reducible rfl))
    try simp only [Act.put, List.setIfInBounds_toArray, List.set_cons_zero, List.set_cons_succ]
    refine wpAnyH_take (i := 12) (v := ?_) (by simp only [List.getElem?_toArray, List.getElem?_cons_succ, List.getElem?_cons_zero]; exact rfl) (by kernel_rfl) (by kernel_rfl) (by kernel_rfl) (by intro _ _ _ h; exact h) (Or.inl ⟨by rfl, fun W hSw => ?_⟩) hHeld ?_
    rotate_left
    focus ((try dsimp only at hSw); first | (go_simp; done) | (go_simp; with_reducible rfl))
    try simp only [Act.put, List.setIfInBounds_toArray, List.set_cons_zero, List.set_cons_succ]
    refine wpAnyH_take (i := 13) (v := ?_) (by simp only [List.getElem?_toArray, List.getElem?_cons_succ, List.getElem?_cons_zero]; exact rfl) (by kernel_rfl) (by kernel_rfl) (by kernel_rfl) (by intro _ _ _ h; exact h) (Or.inl ⟨by rfl, fun W hSw => ?_⟩) hHeld ?_
    rotate_left
    focus ((try dsimp only at hSw); first | (go_simp; done) | (go_simp; with_reducible rfl))
    try simp only [Act.put, List.setIfInBounds_toArray, List.set_cons_zero, List.set_cons_succ]
    refine wpAnyH_take (i := 14) (v := ?_) (by simp only [List.getElem?_toArray, List.getElem?_cons_succ, List.getElem?_cons_zero]; exact rfl) (by kernel_rfl) (by kernel_rfl) (by kernel_rfl) (by intro _ _ _ h; exact h) (Or.inl ⟨by rfl, fun W hSw => ?_⟩) hHeld ?_
    rotate_left
    focus ((try dsimp only at hSw); first | (go_simp; done) | (go_simp; with_reducible rfl))
    try simp only [Act.put, List.setIfInBounds_toArray, List.set_cons_zero, List.set_cons_succ]
    refine wpAnyH_take (i := 15) (v := ?_) (by simp only [List.getElem?_toArray, List.getElem?_cons_succ, List.getElem?_cons_zero]; exact rfl) (by kernel_rfl) (by kernel_rfl) (by kernel_rfl) (by intro _ _ _ h; exact h) (Or.inl ⟨by rfl, fun W hSw => ?_⟩) hHeld ?_
    rotate_left
    focus ((try dsimp only at hSw); first | (go_simp; done) | (go_simp; with_reducible rfl))
    try simp only [Act.put, List.setIfInBounds_toArray, List.set_cons_zero, List.set_cons_succ]
    refine wpAnyH_take (i := 16) (v := ?_) (by simp only [List.getElem?_toArray, List.getElem?_cons_succ, List.getElem?_cons_zero]; exact rfl) (by kernel_rfl) (by kernel_rfl) (by kernel_rfl) (by intro _ _ _ h; exact h) (Or.inl ⟨by rfl, fun W hSw => ?_⟩) hHeld ?_
    rotate_left
    focus ((try dsimp only at hSw); first | (go_simp; done) | (go_simp; with_reducible rfl))
    try simp only [Act.put, List.setIfInBounds_toArray, List.set_cons_zero, List.set_cons_succ]
    refine wpAnyH_take (i := 17) (v := ?_) (by simp only [List.getElem?_toArray, List.getElem?_cons_succ, List.getElem?_cons_zero]; exact rfl) (by kernel_rfl) (by kernel_rfl) (by kernel_rfl) (by intro _ _ _ h; exact h) (Or.inl ⟨by rfl, fun W hSw => ?_⟩) hHeld ?_
    rotate_left
    focus ((try dsimp only at hSw); first | (go_simp; done) | (go_simp; with_reducible rfl))
    try simp only [Act.put, List.setIfInBounds_toArray, List.set_cons_zero, List.set_cons_succ]
    refine wpAnyH_take (i := 18) (v := ?_) (by simp only [List.getElem?_toArray, List.getElem?_cons_succ, List.getElem?_cons_zero]; exact rfl) (by kernel_rfl) (by kernel_rfl) (by kernel_rfl) (by intro _ _ _ h; exact h) (Or.inl ⟨by rfl, fun W hSw => ?_⟩) hHeld ?_
    rotate_left
    focus ((try dsimp only at hSw); first | (go_simp; done) | (go_simp; with_reducible rfl))
    try simp only [Act.put, List.setIfInBounds_toArray, List.set_cons_zero, List.set_cons_succ]
    refine wpAnyH_take (i := 19) (v := ?_) (by simp only [List.getElem?_toArray, List.getElem?_cons_succ, List.getElem?_cons_zero]; exact rfl) (by kernel_rfl) (by kernel_rfl) (by kernel_rfl) (by intro _ _ _ h; exact h) (Or.inl ⟨by rfl, fun W hSw => ?_⟩) hHeld ?_
    rotate_left
    focus ((try dsimp only at hSw); first | (go_simp; done) | (go_simp; with_reducible rfl))
    try simp only [Act.put, List.setIfInBounds_toArray, List.set_cons_zero, List.set_cons_succ]
    refine wpAnyH_take (i := 20) (v := ?_) (by simp only [List.getElem?_toArray, List.getElem?_cons_succ, List.getElem?_cons_zero]; exact rfl) (by kernel_rfl) (by kernel_rfl) (by kernel_rfl) (by intro _ _ _ h; exact h) (Or.inl ⟨by rfl, fun W hSw => ?_⟩) hHeld ?_
    rotate_left
    focus ((try dsimp only at hSw); first | (go_simp; done) | (go_simp; with_reducible rfl))
    try simp only [Act.put, List.setIfInBounds_toArray, List.set_cons_zero, List.set_cons_succ]
    refine wpAnyH_take (i := 21) (v := ?_) (by simp only [List.getElem?_toArray, List.getElem?_cons_succ, List.getElem?_cons_zero]; exact rfl) (by kernel_rfl) (by kernel_rfl) (by kernel_rfl) (by intro _ _ _ h; exact h) (Or.inl ⟨by rfl, fun W hSw => ?_⟩) hHeld ?_
    rotate_left
    focus ((try dsimp only at hSw); first | (go_simp; done) | (go_simp; with_reducible rfl))
    try simp only [Act.put, List.setIfInBounds_toArray, List.set_cons_zero, List.set_cons_succ]
    refine wpAnyH_take (i := 22) (v := ?_) (by simp only [List.getElem?_toArray, List.getElem?_cons_succ, List.getElem?_cons_zero]; exact rfl) (by kernel_rfl) (by kernel_rfl) (by kernel_rfl) (by intro _ _ _ h; exact h) (Or.inl ⟨by rfl, fun W hSw => ?_⟩) hHeld ?_
    rotate_left
    focus ((try dsimp only at hSw); first | (go_simp; done) | (go_simp; with_reducible rfl))
    try simp only [Act.put, List.setIfInBounds_toArray, List.set_cons_zero, List.set_cons_succ]
    refine wpAnyH_take (i := 23) (v := ?_) (by simp only [List.getElem?_toArray, List.getElem?_cons_succ, List.getElem?_cons_zero]; exact rfl) (by kernel_rfl) (by kernel_rfl) (by kernel_rfl) (by intro _ _ _ h; exact h) (Or.inl ⟨by rfl, fun W hSw => ?_⟩) hHeld ?_
    rotate_left
    focus ((try dsimp only at hSw); first | (go_simp; done) | (go_simp; with_reducible rfl))
    try simp only [Act.put, List.setIfInBounds_toArray, List.set_cons_zero, List.set_cons_succ]
    refine wpAnyH_take (i := 24) (v := ?_) (by simp only [List.getElem?_toArray, List.getElem?_cons_succ, List.getElem?_cons_zero]; exact rfl) (by kernel_rfl) (by kernel_rfl) (by kernel_rfl) (by intro _ _ _ h; exact h) (Or.inl ⟨by rfl, fun W hSw => ?_⟩) hHeld ?_
    rotate_left
    focus ((try dsimp only at hSw); first | (go_simp; done) | (go_simp; with_reducible rfl))
    try simp only [Act.put, List.setIfInBounds_toArray, List.set_cons_zero, List.set_cons_succ]
    refine wpAnyH_take (i := 25) (v := ?_) (by simp only [List.getElem?_toArray, List.getElem?_cons_succ, List.getElem?_cons_zero]; exact rfl) (by kernel_rfl) (by kernel_rfl) (by kernel_rfl) (by intro _ _ _ h; exact h) (Or.inl ⟨by rfl, fun W hSw => ?_⟩) hHeld ?_
    rotate_left
    focus ((try dsimp only at hSw); first | (go_simp; done) | (go_simp; with_reducible rfl))
    try simp only [Act.put, List.setIfInBounds_toArray, List.set_cons_zero, List.set_cons_succ]
    refine wpAnyH_take (i := 26) (v := ?_) (by simp only [List.getElem?_toArray, List.getElem?_cons_succ, List.getElem?_cons_zero]; exact rfl) (by kernel_rfl) (by kernel_rfl) (by kernel_rfl) (by intro _ _ _ h; exact h) (Or.inl ⟨by rfl, fun W hSw => ?_⟩) hHeld ?_
    rotate_left
    focus ((try dsimp only at hSw); first | (go_simp; done) | (go_simp; with_reducible rfl))
    try simp only [Act.put, List.setIfInBounds_toArray, List.set_cons_zero, List.set_cons_succ]
    refine wpAnyH_take (i := 27) (v := ?_) (by simp only [List.getElem?_toArray, List.getElem?_cons_succ, List.getElem?_cons_zero]; exact rfl) (by kernel_rfl) (by kernel_rfl) (by kernel_rfl) (by intro _ _ _ h; exact h) (Or.inl ⟨by rfl, fun W hSw => ?_⟩) hHeld ?_
    rotate_left
    focus ((try dsimp only at hSw); first | (go_simp; done) | (go_simp; with_reducible rfl))
    try simp only [Act.put, List.setIfInBounds_toArray, List.set_cons_zero, List.set_cons_succ]
    refine wpAnyH_take (i := 28) (v := ?_) (by simp only [List.getElem?_toArray, List.getElem?_cons_succ, List.getElem?_cons_zero]; exact rfl) (by kernel_rfl) (by kernel_rfl) (by kernel_rfl) (by intro _ _ _ h; exact h) (Or.inl ⟨by rfl, fun W hSw => ?_⟩) hHeld ?_
    rotate_left
    focus ((try dsimp only at hSw); first | (go_simp; done) | (go_simp; with_reducible rfl))
    try simp only [Act.put, List.setIfInBounds_toArray, List.set_cons_zero, List.set_cons_succ]
    refine wpAnyH_take (i := 29) (v := ?_) (by simp only [List.getElem?_toArray, List.getElem?_cons_succ, List.getElem?_cons_zero]; exact rfl) (by kernel_rfl) (by kernel_rfl) (by kernel_rfl) (by intro _ _ _ h; exact h) (Or.inl ⟨by rfl, fun W hSw => ?_⟩) hHeld ?_
    rotate_left
    focus ((try dsimp only at hSw); first | (go_simp; done) | (go_simp; with_reducible rfl))
    try simp only [Act.put, List.setIfInBounds_toArray, List.set_cons_zero, List.set_cons_succ]
    refine wpAnyH_take (i := 30) (v := ?_) (by simp only [List.getElem?_toArray, List.getElem?_cons_succ, List.getElem?_cons_zero]; exact rfl) (by kernel_rfl) (by kernel_rfl) (by kernel_rfl) (by intro _ _ _ h; exact h) (Or.inl ⟨by rfl, fun W hSw => ?_⟩) hHeld ?_
    rotate_left
    focus ((try dsimp only at hSw); first | (go_simp; done) | (go_simp; with_reducible rfl))
    try simp only [Act.put, List.setIfInBounds_toArray, List.set_cons_zero, List.set_cons_succ]
    refine wpAnyH_take (i := 31) (v := ?_) (by simp only [List.getElem?_toArray, List.getElem?_cons_succ, List.getElem?_cons_zero]; exact rfl) (by kernel_rfl) (by kernel_rfl) (by kernel_rfl) (by intro _ _ _ h; exact h) (Or.inl ⟨by rfl, fun W hSw => ?_⟩) hHeld ?_
    rotate_left
    focus ((try dsimp only at hSw); first | (go_simp; done) | (go_simp; with_reducible rfl))
    try simp only [Act.put, List.setIfInBounds_toArray, List.set_cons_zero, List.set_cons_succ]
    refine wpAnyH_ready (rs := [32]) (by kernel_rfl) (by simp) (AllReadyH.cons (by simp only [List.getElem?_toArray, List.getElem?_cons_succ, List.getElem?_cons_zero]; exact rfl) (fun K hK => ?_) AllReadyH.nil)
    rw [if_pos (by rfl)]
    go_simp
    refine (KL.out _).mono ?_; rintro e wl ⟨rfl, rfl⟩; go_wp2_with fail
    refine hK.out _ _ (hHeld) (fun hHeld => ?_)
    clear hK K
    try simp only [Act.put, List.setIfInBounds_toArray, List.set_cons_zero, List.set_cons_succ]
    refine wpAnyH_take (i := 33) (v := ?_) (by simp only [List.getElem?_toArray, List.getElem?_cons_succ, List.getElem?_cons_zero]; exact rfl) (by kernel_rfl) (by kernel_rfl) (by kernel_rfl) (by intro _ _ _ h; exact h) (Or.inl ⟨by rfl, fun W hSw => ?_⟩) hHeld ?_
    rotate_left
    focus ((try dsimp only at hSw); first | (go_simp; done) | (go_simp; with_reducible rfl))
    try simp only [Act.put, List.setIfInBounds_toArray, List.set_cons_zero, List.set_cons_succ]
    refine wpAnyH_take (i := 34) (v := ?_) (by simp only [List.getElem?_toArray, List.getElem?_cons_succ, List.getElem?_cons_zero]; exact rfl) (by kernel_rfl) (by kernel_rfl) (by kernel_rfl) (by intro _ _ _ h; exact h) (Or.inl ⟨by rfl, fun W hSw => ?_⟩) hHeld ?_
    rotate_left
    focus ((try dsimp only at hSw); first | (go_simp; done) | (go_simp; with_reducible rfl))
    try simp only [Act.put, List.setIfInBounds_toArray, List.set_cons_zero, List.set_cons_succ]
    refine wpAnyH_take (i := 35) (v := ?_) (by simp only [List.getElem?_toArray, List.getElem?_cons_succ, List.getElem?_cons_zero]; exact rfl) (by kernel_rfl) (by kernel_rfl) (by kernel_rfl) (by intro _ _ _ h; exact h) (Or.inl ⟨by rfl, fun W hSw => ?_⟩) hHeld ?_
    rotate_left
    focus ((try dsimp only at hSw); first | (go_simp; done) | (go_simp; with_reducible rfl))
    try simp only [Act.put, List.setIfInBounds_toArray, List.set_cons_zero, List.set_cons_succ]
    refine wpAnyH_take (i := 36) (v := ?_) (by simp only [List.getElem?_toArray, List.getElem?_cons_succ, List.getElem?_cons_zero]; exact rfl) (by kernel_rfl) (by kernel_rfl) (by kernel_rfl) (by intro _ _ _ h; exact h) (Or.inl ⟨by rfl, fun W hSw => ?_⟩) hHeld ?_
    rotate_left
    focus ((try dsimp only at hSw); first | (go_simp; done) | (go_simp; with_reducible rfl))
    try simp only [Act.put, List.setIfInBounds_toArray, List.set_cons_zero, List.set_cons_succ]
    refine wpAnyH_take (i := 37) (v := ?_) (by simp only [List.getElem?_toArray, List.getElem?_cons_succ, List.getElem?_cons_zero]; exact rfl) (by kernel_rfl) (by kernel_rfl) (by kernel_rfl) (by intro _ _ _ h; exact h) (Or.inl ⟨by rfl, fun W hSw => ?_⟩) hHeld ?_
    rotate_left
    focus ((try dsimp only at hSw); first | (go_simp; done) | (go_simp; with_reducible rfl))
    try simp only [Act.put, List.setIfInBounds_toArray, List.set_cons_zero, List.set_cons_succ]
    refine wpAnyH_take (i := 38) (v := ?_) (by simp only [List.getElem?_toArray, List.getElem?_cons_succ, List.getElem?_cons_zero]; exact rfl) (by kernel_rfl) (by kernel_rfl) (by kernel_rfl) (by intro _ _ _ h; exact h) (Or.inl ⟨by rfl, fun W hSw => ?_⟩) hHeld ?_
    rotate_left
    focus ((try dsimp only at hSw); first | (go_simp; done) | (go_simp; with_reducible rfl))
    try simp only [Act.put, List.setIfInBounds_toArray, List.set_cons_zero, List.set_cons_succ]
    refine wpAnyH_take (i := 39) (v := ?_) (by simp only [List.getElem?_toArray, List.getElem?_cons_succ, List.getElem?_cons_zero]; exact rfl) (by kernel_rfl) (by kernel_rfl) (by kernel_rfl) (by intro _ _ _ h; exact h) (Or.inl ⟨by rfl, fun W hSw => ?_⟩) hHeld ?_
    rotate_left
    focus ((try dsimp only at hSw); first | (go_simp; done) | (go_simp; with_reducible rfl))
    try simp only [Act.put, List.setIfInBounds_toArray, List.set_cons_zero, List.set_cons_succ]
    refine wpAnyH_take (i := 40) (v := ?_) (by simp only [List.getElem?_toArray, List.getElem?_cons_succ, List.getElem?_cons_zero]; exact rfl) (by kernel_rfl) (by kernel_rfl) (by kernel_rfl) (by intro _ _ _ h; exact h) (Or.inl ⟨by rfl, fun W hSw => ?_⟩) hHeld ?_
    rotate_left
    focus ((try dsimp only at hSw); first | (go_simp; done) | (go_simp; with_reducible rfl))
    try simp only [Act.put, List.setIfInBounds_toArray, List.set_cons_zero, List.set_cons_succ]
    refine wpAnyH_take (i := 41) (v := ?_) (by simp only [List.getElem?_toArray, List.getElem?_cons_succ, List.getElem?_cons_zero]; exact rfl) (by kernel_rfl) (by kernel_rfl) (by kernel_rfl) (by intro _ _ _ h; exact h) (Or.inl ⟨by rfl, fun W hSw => ?_⟩) hHeld ?_
    rotate_left
    focus ((try dsimp only at hSw); first | (go_simp; done) | (go_simp; with_reducible rfl))
    try simp only [Act.put, List.setIfInBounds_toArray, List.set_cons_zero, List.set_cons_succ]
    refine wpAnyH_take (i := 42) (v := ?_) (by simp only [List.getElem?_toArray, List.getElem?_cons_succ, List.getElem?_cons_zero]; exact rfl) (by kernel_rfl) (by kernel_rfl) (by kernel_rfl) (by intro _ _ _ h; exact h) (Or.inl ⟨by rfl, fun W hSw => ?_⟩) hHeld ?_
    rotate_left
    focus ((try dsimp only at hSw); first | (go_simp; done) | (go_simp; with_reducible rfl))
    try simp only [Act.put, List.setIfInBounds_toArray, List.set_cons_zero, List.set_cons_succ]
    refine wpAnyH_take (i := 43) (v := ?_) (by simp only [List.getElem?_toArray, List.getElem?_cons_succ, List.getElem?_cons_zero]; exact rfl) (by kernel_rfl) (by kernel_rfl) (by kernel_rfl) (by intro _ _ _ h; exact h) (Or.inl ⟨by rfl, fun W hSw => ?_⟩) hHeld ?_
    rotate_left
    focus ((try dsimp only at hSw); first | (go_simp; done) | (go_simp; with_reducible rfl))
    try simp only [Act.put, List.setIfInBounds_toArray, List.set_cons_zero, List.set_cons_succ]
    refine wpAnyH_take (i := 44) (v := ?_) (by simp only [List.getElem?_toArray, List.getElem?_cons_succ, List.getElem?_cons_zero]; exact rfl) (by kernel_rfl) (by kernel_rfl) (by kernel_rfl) (by intro _ _ _ h; exact h) (Or.inl ⟨by rfl, fun W hSw => ?_⟩) hHeld ?_
    rotate_left
    focus ((try dsimp only at hSw); first | (go_simp; done) | (go_simp; with_reducible rfl))
    try simp only [Act.put, List.setIfInBounds_toArray, List.set_cons_zero, List.set_cons_succ]
    refine wpAnyH_take (i := 45) (v := ?_) (by simp only [List.getElem?_toArray, List.getElem?_cons_succ, List.getElem?_cons_zero]; exact rfl) (by kernel_rfl) (by kernel_rfl) (by kernel_rfl) (by intro _ _ _ h; exact h) (Or.inl ⟨by rfl, fun W hSw => ?_⟩) hHeld ?_
    rotate_left
    focus ((try dsimp only at hSw); first | (go_simp; done) | (go_simp; with_reducible rfl))
    try simp only [Act.put, List.setIfInBounds_toArray, List.set_cons_zero, List.set_cons_succ]
    refine wpAnyH_take (i := 46) (v := ?_) (by simp only [List.getElem?_toArray, List.getElem?_cons_succ, List.getElem?_cons_zero]; exact rfl) (by kernel_rfl) (by kernel_rfl) (by kernel_rfl) (by intro _ _ _ h; exact h) (Or.inl ⟨by rfl, fun W hSw => ?_⟩) hHeld ?_
    rotate_left
    focus ((try dsimp only at hSw); first | (go_simp; done) | (go_simp; with_reducible rfl))
    try simp only [Act.put, List.setIfInBounds_toArray, List.set_cons_zero, List.set_cons_succ]
    refine wpAnyH_take (i := 47) (v := ?_) (by simp only [List.getElem?_toArray, List.getElem?_cons_succ, List.getElem?_cons_zero]; exact rfl) (by kernel_rfl) (by kernel_rfl) (by kernel_rfl) (by intro _ _ _ h; exact h) (Or.inl ⟨by rfl, fun W hSw => ?_⟩) hHeld ?_
    rotate_left
    focus ((try dsimp only at hSw); first | (go_simp; done) | (go_simp; with_reducible rfl))
    try simp only [Act.put, List.setIfInBounds_toArray, List.set_cons_zero, List.set_cons_succ]
    refine wpAnyH_take (i := 48) (v := ?_) (by simp only [List.getElem?_toArray, List.getElem?_cons_succ, List.getElem?_cons_zero]; exact rfl) (by kernel_rfl) (by kernel_rfl) (by kernel_rfl) (by intro _ _ _ h; exact h) (Or.inl ⟨by rfl, fun W hSw => ?_⟩) hHeld ?_
    rotate_left
    focus ((try dsimp only at hSw); first | (go_simp; done) | (go_simp; with_reducible rfl))
    try simp only [Act.put, List.setIfInBounds_toArray, List.set_cons_zero, List.set_cons_succ]
    refine wpAnyH_take (i := 49) (v := ?_) (by simp only [List.getElem?_toArray, List.getElem?_cons_succ, List.getElem?_cons_zero]; exact rfl) (by kernel_rfl) (by kernel_rfl) (by kernel_rfl) (by intro _ _ _ h; exact h) (Or.inl ⟨by rfl, fun W hSw => ?_⟩) hHeld ?_
    rotate_left
    focus ((try dsimp only at hSw); first | (go_simp; done) | (go_simp; with_reducible rfl))
    try simp only [Act.put, List.setIfInBounds_toArray, List.set_cons_zero, List.set_cons_succ]
    refine wpAnyH_take (i := 50) (v := ?_) (by simp only [List.getElem?_toArray, List.getElem?_cons_succ, List.getElem?_cons_zero]; exact rfl) (by kernel_rfl) (by kernel_rfl) (by kernel_rfl) (by intro _ _ _ h; exact h) (Or.inl ⟨by rfl, fun W hSw => ?_⟩) hHeld ?_
    rotate_left
    focus ((try dsimp only at hSw); first | (go_simp; done) | (go_simp; with_reducible rfl))
    try simp only [Act.put, List.setIfInBounds_toArray, List.set_cons_zero, List.set_cons_succ]
    refine wpAnyH_take (i := 51) (v := ?_) (by simp only [List.getElem?_toArray, List.getElem?_cons_succ, List.getElem?_cons_zero]; exact rfl) (by kernel_rfl) (by kernel_rfl) (by kernel_rfl) (by intro _ _ _ h; exact h) (Or.inl ⟨by rfl, fun W hSw => ?_⟩) hHeld ?_
    rotate_left
    focus ((try dsimp only at hSw); first | (go_simp; done) | (go_simp; with_reducible rfl))
    try simp only [Act.put, List.setIfInBounds_toArray, List.set_cons_zero, List.set_cons_succ]
    refine wpAnyH_take (i := 52) (v := ?_) (by simp only [List.getElem?_toArray, List.getElem?_cons_succ, List.getElem?_cons_zero]; exact rfl) (by kernel_rfl) (by kernel_rfl) (by kernel_rfl) (by intro _ _ _ h; exact h) (Or.inl ⟨by rfl, fun W hSw => ?_⟩) hHeld ?_
    rotate_left
    focus ((try dsimp only at hSw); first | (go_simp; done) | (go_simp; with_reducible rfl))
    try simp only [Act.put, List.setIfInBounds_toArray, List.set_cons_zero, List.set_cons_succ]
    refine wpAnyH_take (i := 53) (v := ?_) (by simp only [List.getElem?_toArray, List.getElem?_cons_succ, List.getElem?_cons_zero]; exact rfl) (by kernel_rfl) (by kernel_rfl) (by kernel_rfl) (by intro _ _ _ h; exact h) (Or.inl ⟨by rfl, fun W hSw => ?_⟩) hHeld ?_
    rotate_left
    focus ((try dsimp only at hSw); first | (go_simp; done) | (go_simp; with_reducible rfl))
    try simp only [Act.put, List.setIfInBounds_toArray, List.set_cons_zero, List.set_cons_succ]
    refine wpAnyH_take (i := 54) (v := ?_) (by simp only [List.getElem?_toArray, List.getElem?_cons_succ, List.getElem?_cons_zero]; exact rfl) (by kernel_rfl) (by kernel_rfl) (by kernel_rfl) (by intro _ _ _ h; exact h) (Or.inl ⟨by rfl, fun W hSw => ?_⟩) hHeld ?_
    rotate_left
    focus ((try dsimp only at hSw); first | (go_simp; done) | (go_simp; with_reducible rfl))
    try simp only [Act.put, List.setIfInBounds_toArray, List.set_cons_zero, List.set_cons_succ]
    refine wpAnyH_take (i := 55) (v := ?_) (by simp only [List.getElem?_toArray, List.getElem?_cons_succ, List.getElem?_cons_zero]; exact rfl) (by kernel_rfl) (by kernel_rfl) (by kernel_rfl) (by intro _ _ _ h; exact h) (Or.inl ⟨by rfl, fun W hSw => ?_⟩) hHeld ?_
    rotate_left
    focus ((try dsimp only at hSw); first | (go_simp; done) | (go_simp; with_reducible rfl))
    try simp only [Act.put, List.setIfInBounds_toArray, List.set_cons_zero, List.set_cons_succ]
    refine wpAnyH_done (by kernel_rfl) ?_ _
    clear hHeld
    go_wp2
    go_ret2
    exact ⟨by rw [← HR.out]; rfl, HBT.out.drewN 1⟩
  have t7 : decide (m.second > 59) = false := by simpa using q7
  have hRt : R = if (dahead Y + m.day - 1 + dmons Y (m.month.toNat - 1)) % 7 ≠ m.wd then (0, false) else ((dahead Y + m.day - 1 + dmons Y (m.month.toNat - 1)) * 86400 + m.hour * 3600 + m.minute * 60 + m.second, true) := by
    rw [← HR0.out]; unfold dtick; rw [HY.out, if_neg (by omega)]
  have HRT := Lib.hid hRt
  clear hRt
  go_wp2
  refine wp_region_held_drew (S := (fun w' => w'.cell? ⟨mb, 1, none⟩ = some (.int .i64 m.day) ∧ w'.cell? ⟨mb, 2, none⟩ = some (.int .i64 m.month) ∧ w'.cell? ⟨mb, 3, none⟩ = some (.int .i64 Y) ∧ w'.cell? ⟨mb, 4, none⟩ = some (.int .i64 m.hour) ∧ w'.cell? ⟨mb, 5, none⟩ = some (.int .i64 m.minute) ∧ w'.cell? ⟨mb, 6, none⟩ = some (.int .i64 m.second))) (by kernel_rfl) (⟨c1, c2, c3, c4, c5, c6⟩) (fun hHeld => ?_)
  refine wpAnyH_take (i := 0) (v := ?_) (by simp only [List.getElem?_toArray, List.getElem?_cons_zero]; exact rfl) (by kernel_rfl) (by kernel_rfl) (by kernel_rfl) (by intro _ _ _ h; exact h) (Or.inl ⟨by rfl, fun W hSw => ?_⟩) hHeld ?_
  rotate_left
  focus ((try dsimp only at hSw); first | (go_simp; done) | (go_simp; with_reducible rfl))
  try simp only [Act.put, List.setIfInBounds_toArray, List.set_cons_zero, List.set_cons_succ]
  refine wpAnyH_take (i := 1) (v := ?_) (by simp only [List.getElem?_toArray, List.getElem?_cons_succ, List.getElem?_cons_zero]; exact rfl) (by kernel_rfl) (by kernel_rfl) (by kernel_rfl) (by intro _ _ _ h; exact h) (Or.inl ⟨by rfl, fun W hSw => ?_⟩) hHeld ?_
  rotate_left
  focus ((try dsimp only at hSw); first | (go_simp; done) | (go_simp; with_reducible rfl))
  try simp only [Act.put, List.setIfInBounds_toArray, List.set_cons_zero, List.set_cons_succ]
  refine wpAnyH_take (i := 2) (v := ?_) (by simp only [List.getElem?_toArray, List.getElem?_cons_succ, List.getElem?_cons_zero]; exact rfl) (by kernel_rfl) (by kernel_rfl) (by kernel_rfl) (by intro _ _ _ h; exact h) (Or.inl ⟨by rfl, fun W hSw => ?_⟩) hHeld ?_
  rotate_left
  focus ((try dsimp only at hSw); first | (go_simp; done) | (go_simp; with_reducible rfl))
  try simp only [Act.put, List.setIfInBounds_toArray, List.set_cons_zero, List.set_cons_succ]
  refine wpAnyH_take (i := 3) (v := ?_) (by simp only [List.getElem?_toArray, List.getElem?_cons_succ, List.getElem?_cons_zero]; exact rfl) (by kernel_rfl) (by kernel_rfl) (by kernel_rfl) (by intro _ _ _ h; exact h) (Or.inl ⟨by rfl, fun W hSw => ?_⟩) hHeld ?_
  rotate_left
  focus ((try dsimp only at hSw); first | (go_simp; done) | (go_simp; with_reducible rfl))
  try simp only [Act.put, List.setIfInBounds_toArray, List.set_cons_zero, List.set_cons_succ]
  refine wpAnyH_take (i := 4) (v := ?_) (by simp only [List.getElem?_toArray, List.getElem?_cons_succ, List.getElem?_cons_zero]; exact rfl) (by kernel_rfl) (by kernel_rfl) (by kernel_rfl) (by intro _ _ _ h; exact h) (Or.inl ⟨by rfl, fun W hSw => ?_⟩) hHeld ?_
  rotate_left
  focus ((try dsimp only at hSw); first | (go_simp; done) | (go_simp; with_reducible rfl))
  try simp only [Act.put, List.setIfInBounds_toArray, List.set_cons_zero, List.set_cons_succ]
  refine wpAnyH_take (i := 5) (v := ?_) (by simp only [List.getElem?_toArray, List.getElem?_cons_succ, List.getElem?_cons_zero]; exact rfl) (by kernel_rfl) (by kernel_rfl) (by kernel_rfl) (by intro _ _ _ h; exact h) (Or.inl ⟨by rfl, fun W hSw => ?_⟩) hHeld ?_
  rotate_left
  focus ((try dsimp only at hSw); first | (go_simp; done) | (go_simp; with_reducible rfl))
  try simp only [Act.put, List.setIfInBounds_toArray, List.set_cons_zero, List.set_cons_succ]
  refine wpAnyH_take (i := 6) (v := ?_) (by simp only [List.getElem?_toArray, List.getElem?_cons_succ, List.getElem?_cons_zero]; exact rfl) (by kernel_rfl) (by kernel_rfl) (by kernel_rfl) (by intro _ _ _ h; exact h) (Or.inl ⟨by rfl, fun W hSw => ?_⟩) hHeld ?_
  rotate_left
  focus ((try dsimp only at hSw); first | (go_simp; done) | (go_simp; with_reducible rfl))
  try simp only [Act.put, List.setIfInBounds_toArray, List.set_cons_zero, List.set_cons_succ]
  refine wpAnyH_take (i := 7) (v := ?_) (by simp only [List.getElem?_toArray, List.getElem?_cons_succ, List.getElem?_cons_zero]; exact rfl) (by kernel_rfl) (by kernel_rfl) (by kernel_rfl) (by intro _ _ _ h; exact h) (Or.inl ⟨by rfl, fun W hSw => ?_⟩) hHeld ?_
  rotate_left
  focus ((try dsimp only at hSw); first | (go_simp; done) | (go_simp; with_reducible rfl))
  try simp only [Act.put, List.setIfInBounds_toArray, List.set_cons_zero, List.set_cons_succ]
  refine wpAnyH_take (i := 8) (v := ?_) (by simp only [List.getElem?_toArray, List.getElem?_cons_succ, List.getElem?_cons_zero]; exact rfl) (by kernel_rfl) (by kernel_rfl) (by kernel_rfl) (by intro _ _ _ h; exact h) (Or.inl ⟨by rfl, fun W hSw => ?_⟩) hHeld ?_
  rotate_left
  focus ((try dsimp only at hSw); first | (go_simp; done) | (go_simp; with_reducible rfl))
  try simp only [Act.put, List.setIfInBounds_toArray, List.set_cons_zero, List.set_cons_succ]
  refine wpAnyH_take (i := 9) (v := ?_) (by simp only [List.getElem?_toArray, List.getElem?_cons_succ, List.getElem?_cons_zero]; exact rfl) (by kernel_rfl) (by kernel_rfl) (by kernel_rfl) (by intro _ _ _ h; exact h) (Or.inl ⟨by rfl, fun W hSw => ?_⟩) hHeld ?_
  rotate_left
  focus ((try dsimp only at hSw); first | (go_simp; done) | (go_simp; with_reducible rfl))
  try simp only [Act.put, List.setIfInBounds_toArray, List.set_cons_zero, List.set_cons_succ]
  refine wpAnyH_take (i := 10) (v := ?_) (by simp only [List.getElem?_toArray, List.getElem?_cons_succ, List.getElem?_cons_zero]; exact rfl) (by kernel_rfl) (by kernel_rfl) (by kernel_rfl) (by intro _ _ _ h; exact h) (Or.inl ⟨by rfl, fun W hSw => ?_⟩) hHeld ?_
  rotate_left
  focus ((try dsimp only at hSw); first | (go_simp; done) | (go_simp; with_reducible rfl))
  try simp only [Act.put, List.setIfInBounds_toArray, List.set_cons_zero, List.set_cons_succ]
  refine wpAnyH_take (i := 11) (v := ?_) (by simp only [List.getElem?_toArray, List.getElem?_cons_succ, List.getElem?_cons_zero]; exact rfl) (by kernel_rfl) (by kernel_rfl) (by kernel_rfl) (by intro _ _ _ h; exact h) (Or.inl ⟨by rfl, fun W hSw => ?_⟩) hHeld ?_
  rotate_left
  focus ((try dsimp only at hSw); first | (go_simp; done) | (go_simp; with_reducible rfl))
  try simp only [Act.put, List.setIfInBounds_toArray, List.set_cons_zero, List.set_cons_succ]
  refine wpAnyH_take (i := 12) (v := ?_) (by simp only [List.getElem?_toArray, List.getElem?_cons_succ, List.getElem?_cons_zero]; exact rfl) (by kernel_rfl) (by kernel_rfl) (by kernel_rfl) (by intro _ _ _ h; exact h) (Or.inl ⟨by rfl, fun W hSw => ?_⟩) hHeld ?_
  rotate_left
  focus ((try dsimp only at hSw); first | (go_simp; done) | (go_simp; with_reducible rfl))
  try simp only [Act.put, List.setIfInBounds_toArray, List.set_cons_zero, List.set_cons_succ]
  refine wpAnyH_take (i := 13) (v := ?_) (by simp only [List.getElem?_toArray, List.getElem?_cons_succ, List.getElem?_cons_zero]; exact rfl) (by kernel_rfl) (by kernel_rfl) (by kernel_rfl) (by intro _ _ _ h; exact h) (Or.inl ⟨by rfl, fun W hSw => ?_⟩) hHeld ?_
  rotate_left
  focus ((try dsimp only at hSw); first | (go_simp; done) | (go_simp; with_reducible rfl))
  try simp only [Act.put, List.setIfInBounds_toArray, List.set_cons_zero, List.set_cons_succ]
  refine wpAnyH_take (i := 14) (v := ?_) (by simp only [List.getElem?_toArray, List.getElem?_cons_succ, List.getElem?_cons_zero]; exact rfl) (by kernel_rfl) (by kernel_rfl) (by kernel_rfl) (by intro _ _ _ h; exact h) (Or.inl ⟨by rfl, fun W hSw => ?_⟩) hHeld ?_
  rotate_left
  focus ((try dsimp only at hSw); first | (go_simp; done) | (go_simp; with_reducible rfl))
  try simp only [Act.put, List.setIfInBounds_toArray, List.set_cons_zero, List.set_cons_succ]
  refine wpAnyH_take (i := 15) (v := ?_) (by simp only [List.getElem?_toArray, List.getElem?_cons_succ, List.getElem?_cons_zero]; exact rfl) (by kernel_rfl) (by kernel_rfl) (by kernel_rfl) (by intro _ _ _ h; exact h) (Or.inl ⟨by rfl, fun W hSw => ?_⟩) hHeld ?_
  rotate_left
  focus ((try dsimp only at hSw); first | (go_simp; done) | (go_simp; with_reducible rfl))
  try simp only [Act.put, List.setIfInBounds_toArray, List.set_cons_zero, List.set_cons_succ]
  refine wpAnyH_take (i := 16) (v := ?_) (by simp only [List.getElem?_toArray, List.getElem?_cons_succ, List.getElem?_cons_zero]; exact rfl) (by kernel_rfl) (by kernel_rfl) (by kernel_rfl) (by intro _ _ _ h; exact h) (Or.inl ⟨by rfl, fun W hSw => ?_⟩) hHeld ?_
  rotate_left
  focus ((try dsimp only at hSw); first | (go_simp; done) | (go_simp; with_reducible rfl))
  try simp only [Act.put, List.setIfInBounds_toArray, List.set_cons_zero, List.set_cons_succ]
  refine wpAnyH_take (i := 17) (v := ?_) (by simp only [List.getElem?_toArray, List.getElem?_cons_succ, List.getElem?_cons_zero]; exact rfl) (by kernel_rfl) (by kernel_rfl) (by kernel_rfl) (by intro _ _ _ h; exact h) (Or.inl ⟨by rfl, fun W hSw => ?_⟩) hHeld ?_
  rotate_left
  focus ((try dsimp only at hSw); first | (go_simp; done) | (go_simp; with_reducible rfl))
  try simp only [Act.put, List.setIfInBounds_toArray, List.set_cons_zero, List.set_cons_succ]
  refine wpAnyH_take (i := 18) (v := ?_) (by simp only [List.getElem?_toArray, List.getElem?_cons_succ, List.getElem?_cons_zero]; exact rfl) (by kernel_rfl) (by kernel_rfl) (by kernel_rfl) (by intro _ _ _ h; exact h) (Or.inl ⟨by rfl, fun W hSw => ?_⟩) hHeld ?_
  rotate_left
  focus ((try dsimp only at hSw); first | (go_simp; done) | (go_simp; with_reducible rfl))
  try simp only [Act.put, List.setIfInBounds_toArray, List.set_cons_zero, List.set_cons_succ]
  refine wpAnyH_take (i := 19) (v := ?_) (by simp only [List.getElem?_toArray, List.getElem?_cons_succ, List.getElem?_cons_zero]; exact rfl) (by kernel_rfl) (by kernel_rfl) (by kernel_rfl) (by intro _ _ _ h; exact h) (Or.inl ⟨by rfl, fun W hSw => ?_⟩) hHeld ?_
  rotate_left
  focus ((try dsimp only at hSw); first | (go_simp; done) | (go_simp; with_reducible rfl))
  try simp only [Act.put, List.setIfInBounds_toArray, List.set_cons_zero, List.set_cons_succ]
  refine wpAnyH_take (i := 20) (v := ?_) (by simp only [List.getElem?_toArray, List.getElem?_cons_succ, List.getElem?_cons_zero]; exact rfl) (by kernel_rfl) (by kernel_rfl) (by kernel_rfl) (by intro _ _ _ h; exact h) (Or.inl ⟨by rfl, fun W hSw => ?_⟩) hHeld ?_
  rotate_left
  focus ((try dsimp only at hSw); first | (go_simp; done) | (go_simp; with_reducible rfl))
  try simp only [Act.put, List.setIfInBounds_toArray, List.set_cons_zero, List.set_cons_succ]
  refine wpAnyH_take (i := 21) (v := ?_) (by simp only [List.getElem?_toArray, List.getElem?_cons_succ, List.getElem?_cons_zero]; exact rfl) (by kernel_rfl) (by kernel_rfl) (by kernel_rfl) (by intro _ _ _ h; exact h) (Or.inl ⟨by rfl, fun W hSw => ?_⟩) hHeld ?_
  rotate_left
  focus ((try dsimp only at hSw); first | (go_simp; done) | (go_simp; with_reducible rfl))
  try simp only [Act.put, List.setIfInBounds_toArray, List.set_cons_zero, List.set_cons_succ]
  refine wpAnyH_take (i := 22) (v := ?_) (by simp only [List.getElem?_toArray, List.getElem?_cons_succ, List.getElem?_cons_zero]; exact rfl) (by kernel_rfl) (by kernel_rfl) (by kernel_rfl) (by intro _ _ _ h; exact h) (Or.inl ⟨by rfl, fun W hSw => ?_⟩) hHeld ?_
  rotate_left
  focus ((try dsimp only at hSw); first | (go_simp; done) | (go_simp; with_reducible rfl))
  try simp only [Act.put, List.setIfInBounds_toArray, List.set_cons_zero, List.set_cons_succ]
  refine wpAnyH_take (i := 23) (v := ?_) (by simp only [List.getElem?_toArray, List.getElem?_cons_succ, List.getElem?_cons_zero]; exact rfl) (by kernel_rfl) (by kernel_rfl) (by kernel_rfl) (by intro _ _ _ h; exact h) (Or.inl ⟨by rfl, fun W hSw => ?_⟩) hHeld ?_
  rotate_left
  focus ((try dsimp only at hSw); first | (go_simp; done) | (go_simp; with_reducible rfl))
  try simp only [Act.put, List.setIfInBounds_toArray, List.set_cons_zero, List.set_cons_succ]
  refine wpAnyH_take (i := 24) (v := ?_) (by simp only [List.getElem?_toArray, List.getElem?_cons_succ, List.getElem?_cons_zero]; exact rfl) (by kernel_rfl) (by kernel_rfl) (by kernel_rfl) (by intro _ _ _ h; exact h) (Or.inl ⟨by rfl, fun W hSw => ?_⟩) hHeld ?_
  rotate_left
  focus ((try dsimp only at hSw); first | (go_simp; done) | (go_simp; with_reducible rfl))
  try simp only [Act.put, List.setIfInBounds_toArray, List.set_cons_zero, List.set_cons_succ]
  refine wpAnyH_take (i := 25) (v := ?_) (by simp only [List.getElem?_toArray, List.getElem?_cons_succ, List.getElem?_cons_zero]; exact rfl) (by kernel_rfl) (by kernel_rfl) (by kernel_rfl) (by intro _ _ _ h; exact h) (Or.inl ⟨by rfl, fun W hSw => ?_⟩) hHeld ?_
  rotate_left
  focus ((try dsimp only at hSw); first | (go_simp; done) | (go_simp; with_reducible rfl))
  try simp only [Act.put, List.setIfInBounds_toArray, List.set_cons_zero, List.set_cons_succ]
  refine wpAnyH_take (i := 26) (v := ?_) (by simp only [List.getElem?_toArray, List.getElem?_cons_succ, List.getElem?_cons_zero]; exact rfl) (by kernel_rfl) (by kernel_rfl) (by kernel_rfl) (by intro _ _ _ h; exact h) (Or.inl ⟨by rfl, fun W hSw => ?_⟩) hHeld ?_
  rotate_left
  focus ((try dsimp only at hSw); first | (go_simp; done) | (go_simp; with_reducible rfl))
  try simp only [Act.put, List.setIfInBounds_toArray, List.set_cons_zero, List.set_cons_succ]
  refine wpAnyH_take (i := 27) (v := ?_) (by simp only [List.getElem?_toArray, List.getElem?_cons_succ, List.getElem?_cons_zero]; exact rfl) (by kernel_rfl) (by kernel_rfl) (by kernel_rfl) (by intro _ _ _ h; exact h) (Or.inl ⟨by rfl, fun W hSw => ?_⟩) hHeld ?_
  rotate_left
  focus ((try dsimp only at hSw); first | (go_simp; done) | (go_simp; with_reducible rfl))
  try simp only [Act.put, List.setIfInBounds_toArray, List.set_cons_zero, List.set_cons_succ]
  refine wpAnyH_take (i := 28) (v := ?_) (by simp only [List.getElem?_toArray, List.getElem?_cons_succ, List.getElem?_cons_zero]; exact rfl) (by kernel_rfl) (by kernel_rfl) (by kernel_rfl) (by intro _ _ _ h; exact h) (Or.inl ⟨by rfl, fun W hSw => ?_⟩) hHeld ?_
  rotate_left
  focus ((try dsimp only at hSw); first | (go_simp; done) | (go_simp; with_reducible rfl))
  try simp only [Act.put, List.setIfInBounds_toArray, List.set_cons_zero, List.set_cons_succ]
  refine wpAnyH_take (i := 29) (v := ?_) (by simp only [List.getElem?_toArray, List.getElem?_cons_succ, List.getElem?_cons_zero]; exact rfl) (by kernel_rfl) (by kernel_rfl) (by kernel_rfl) (by intro _ _ _ h; exact h) (Or.inl ⟨by rfl, fun W hSw => ?_⟩) hHeld ?_
  rotate_left
  focus ((try dsimp only at hSw); first | (go_simp; done) | (go_simp; with_reducible rfl))
  try simp only [Act.put, List.setIfInBounds_toArray, List.set_cons_zero, List.set_cons_succ]
  refine wpAnyH_take (i := 30) (v := ?_) (by simp only [List.getElem?_toArray, List.getElem?_cons_succ, List.getElem?_cons_zero]; exact rfl) (by kernel_rfl) (by kernel_rfl) (by kernel_rfl) (by intro _ _ _ h; exact h) (Or.inl ⟨by rfl, fun W hSw => ?_⟩) hHeld ?_
  rotate_left
  focus ((try dsimp only at hSw); first | (go_simp; done) | (go_simp; with_reducible rfl))
  try simp only [Act.put, List.setIfInBounds_toArray, List.set_cons_zero, List.set_cons_succ]
  refine wpAnyH_take (i := 31) (v := ?_) (by simp only [List.getElem?_toArray, List.getElem?_cons_succ, List.getElem?_cons_zero]; exact rfl) (by kernel_rfl) (by kernel_rfl) (by kernel_rfl) (by intro _ _ _ h; exact h) (Or.inl ⟨by rfl, fun W hSw => ?_⟩) hHeld ?_
  rotate_left
  focus ((try dsimp only at hSw); first | (go_simp; done) | (go_simp; with_reducible rfl))
  try simp only [Act.put, List.setIfInBounds_toArray, List.set_cons_zero, List.set_cons_succ]
  refine wpAnyH_ready (rs := [32]) (by kernel_rfl) (by simp) (AllReadyH.cons (by simp only [List.getElem?_toArray, List.getElem?_cons_succ, List.getElem?_cons_zero]; exact rfl) (fun K hK => ?_) AllReadyH.nil)
  rw [if_pos (by rfl)]
  go_simp
  refine (KL.out _).mono ?_; rintro e wl ⟨rfl, rfl⟩; go_wp2_with fail
  refine hK.out _ _ (hHeld) (fun hHeld => ?_)
  clear hK K
  try simp only [Act.put, List.setIfInBounds_toArray, List.set_cons_zero, List.set_cons_succ]
  refine wpAnyH_take (i := 33) (v := ?_) (by simp only [List.getElem?_toArray, List.getElem?_cons_succ, List.getElem?_cons_zero]; exact rfl) (by kernel_rfl) (by kernel_rfl) (by kernel_rfl) (by intro _ _ _ h; exact h) (Or.inl ⟨by rfl, fun W hSw => ?_⟩) hHeld ?_
  rotate_left
  focus ((try dsimp only at hSw); first | (go_simp; done) | (go_simp; with_reducible rfl))
  try simp only [Act.put, List.setIfInBounds_toArray, List.set_cons_zero, List.set_cons_succ]
  refine wpAnyH_take (i := 34) (v := ?_) (by simp only [List.getElem?_toArray, List.getElem?_cons_succ, List.getElem?_cons_zero]; exact rfl) (by kernel_rfl) (by kernel_rfl) (by kernel_rfl) (by intro _ _ _ h; exact h) (Or.inl ⟨by rfl, fun W hSw => ?_⟩) hHeld ?_
  rotate_left
  focus ((try dsimp only at hSw); first | (go_simp; done) | (go_simp; with_reducible rfl))
  try simp only [Act.put, List.setIfInBounds_toArray, List.set_cons_zero, List.set_cons_succ]
  refine wpAnyH_take (i := 35) (v := ?_) (by simp only [List.getElem?_toArray, List.getElem?_cons_succ, List.getElem?_cons_zero]; exact rfl) (by kernel_rfl) (by kernel_rfl) (by kernel_rfl) (by intro _ _ _ h; exact h) (Or.inl ⟨by rfl, fun W hSw => ?_⟩) hHeld ?_
  rotate_left
  focus ((try dsimp only at hSw); first | (go_simp; done) | (go_simp; with_reducible rfl))
  try simp only [Act.put, List.setIfInBounds_toArray, List.set_cons_zero, List.set_cons_succ]
  refine wpAnyH_take (i := 36) (v := ?_) (by simp only [List.getElem?_toArray, List.getElem?_cons_succ, List.getElem?_cons_zero]; exact rfl) (by kernel_rfl) (by kernel_rfl) (by kernel_rfl) (by intro _ _ _ h; exact h) (Or.inl ⟨by rfl, fun W hSw => ?_⟩) hHeld ?_
  rotate_left
  focus ((try dsimp only at hSw); first | (go_simp; done) | (go_simp; with_reducible rfl))
  try simp only [Act.put, List.setIfInBounds_toArray, List.set_cons_zero, List.set_cons_succ]
  refine wpAnyH_take (i := 37) (v := ?_) (by simp only [List.getElem?_toArray, List.getElem?_cons_succ, List.getElem?_cons_zero]; exact rfl) (by kernel_rfl) (by kernel_rfl) (by kernel_rfl) (by intro _ _ _ h; exact h) (Or.inl ⟨by rfl, fun W hSw => ?_⟩) hHeld ?_
  rotate_left
  focus ((try dsimp only at hSw); first | (go_simp; done) | (go_simp; with_reducible rfl))
  try simp only [Act.put, List.setIfInBounds_toArray, List.set_cons_zero, List.set_cons_succ]
  refine wpAnyH_take (i := 38) (v := ?_) (by simp only [List.getElem?_toArray, List.getElem?_cons_succ, List.getElem?_cons_zero]; exact rfl) (by kernel_rfl) (by kernel_rfl) (by kernel_rfl) (by intro _ _ _ h; exact h) (Or.inl ⟨by rfl, fun W hSw => ?_⟩) hHeld ?_
  rotate_left
  focus ((try dsimp only at hSw); first | (go_simp; done) | (go_simp; with_reducible rfl))
  try simp only [Act.put, List.setIfInBounds_toArray, List.set_cons_zero, List.set_cons_succ]
  refine wpAnyH_take (i := 39) (v := ?_) (by simp only [List.getElem?_toArray, List.getElem?_cons_succ, List.getElem?_cons_zero]; exact rfl) (by kernel_rfl) (by kernel_rfl) (by kernel_rfl) (by intro _ _ _ h; exact h) (Or.inl ⟨by rfl, fun W hSw => ?_⟩) hHeld ?_
  rotate_left
  focus ((try dsimp only at hSw); first | (go_simp; done) | (go_simp; with_reducible rfl))
  try simp only [Act.put, List.setIfInBounds_toArray, List.set_cons_zero, List.set_cons_succ]
  refine wpAnyH_take (i := 40) (v := ?_) (by simp only [List.getElem?_toArray, List.getElem?_cons_succ, List.getElem?_cons_zero]; exact rfl) (by kernel_rfl) (by kernel_rfl) (by kernel_rfl) (by intro _ _ _ h; exact h) (Or.inl ⟨by rfl, fun W hSw => ?_⟩) hHeld ?_
  rotate_left
  focus ((try dsimp only at hSw); first | (go_simp; done) | (go_simp; with_reducible rfl))
  try simp only [Act.put, List.setIfInBounds_toArray, List.set_cons_zero, List.set_cons_succ]
  refine wpAnyH_take (i := 41) (v := ?_) (by simp only [List.getElem?_toArray, List.getElem?_cons_succ, List.getElem?_cons_zero]; exact rfl) (by kernel_rfl) (by kernel_rfl) (by kernel_rfl) (by intro _ _ _ h; exact h) (Or.inl ⟨by rfl, fun W hSw => ?_⟩) hHeld ?_
  rotate_left
  focus ((try dsimp only at hSw); first | (go_simp; done) | (go_simp; with_reducible rfl))
  try simp only [Act.put, List.setIfInBounds_toArray, List.set_cons_zero, List.set_cons_succ]
  refine wpAnyH_take (i := 42) (v := ?_) (by simp only [List.getElem?_toArray, List.getElem?_cons_succ, List.getElem?_cons_zero]; exact rfl) (by kernel_rfl) (by kernel_rfl) (by kernel_rfl) (by intro _ _ _ h; exact h) (Or.inl ⟨by rfl, fun W hSw => ?_⟩) hHeld ?_
  rotate_left
  focus ((try dsimp only at hSw); first | (go_simp; done) | (go_simp; with_reducible rfl))
  try simp only [Act.put, List.setIfInBounds_toArray, List.set_cons_zero, List.set_cons_succ]
  refine wpAnyH_take (i := 43) (v := ?_) (by simp only [List.getElem?_toArray, List.getElem?_cons_succ, List.getElem?_cons_zero]; exact rfl) (by kernel_rfl) (by kernel_rfl) (by kernel_rfl) (by intro _ _ _ h; exact h) (Or.inl ⟨by rfl, fun W hSw => ?_⟩) hHeld ?_
  rotate_left
  focus ((try dsimp only at hSw); first | (go_simp; done) | (go_simp; with_reducible rfl))
  try simp only [Act.put, List.setIfInBounds_toArray, List.set_cons_zero, List.set_cons_succ]
  refine wpAnyH_take (i := 44) (v := ?_) (by simp only [List.getElem?_toArray, List.getElem?_cons_succ, List.getElem?_cons_zero]; exact rfl) (by kernel_rfl) (by kernel_rfl) (by kernel_rfl) (by intro _ _ _ h; exact h) (Or.inl ⟨by rfl, fun W hSw => ?_⟩) hHeld ?_
  rotate_left
  focus ((try dsimp only at hSw); first | (go_simp; done) | (go_simp; with_reducible rfl))
  try simp only [Act.put, List.setIfInBounds_toArray, List.set_cons_zero, List.set_cons_succ]
  refine wpAnyH_take (i := 45) (v := ?_) (by simp only [List.getElem?_toArray, List.getElem?_cons_succ, List.getElem?_cons_zero]; exact rfl) (by kernel_rfl) (by kernel_rfl) (by kernel_rfl) (by intro _ _ _ h; exact h) (Or.inl ⟨by rfl, fun W hSw => ?_⟩) hHeld ?_
  rotate_left
  focus ((try dsimp only at hSw); first | (go_simp; done) | (go_simp; with_reducible rfl))
  try simp only [Act.put, List.setIfInBounds_toArray, List.set_cons_zero, List.set_cons_succ]
  refine wpAnyH_take (i := 46) (v := ?_) (by simp only [List.getElem?_toArray, List.getElem?_cons_succ, List.getElem?_cons_zero]; exact rfl) (by kernel_rfl) (by kernel_rfl) (by kernel_rfl) (by intro _ _ _ h; exact h) (Or.inl ⟨by rfl, fun W hSw => ?_⟩) hHeld ?_
  rotate_left
  focus ((try dsimp only at hSw); first | (go_simp; done) | (go_simp; with_reducible rfl))
  try simp only [Act.put, List.setIfInBounds_toArray, List.set_cons_zero, List.set_cons_succ]
  refine wpAnyH_take (i := 47) (v := ?_) (by simp only [List.getElem?_toArray, List.getElem?_cons_succ, List.getElem?_cons_zero]; exact rfl) (by kernel_rfl) (by kernel_rfl) (by kernel_rfl) (by intro _ _ _ h; exact h) (Or.inl ⟨by rfl, fun W hSw => ?_⟩) hHeld ?_
  rotate_left
  focus ((try dsimp only at hSw); first | (go_simp; done) | (go_simp; with_reducible rfl))
  try simp only [Act.put, List.setIfInBounds_toArray, List.set_cons_zero, List.set_cons_succ]
  refine wpAnyH_take (i := 48) (v := ?_) (by simp only [List.getElem?_toArray, List.getElem?_cons_succ, List.getElem?_cons_zero]; exact rfl) (by kernel_rfl) (by kernel_rfl) (by kernel_rfl) (by intro _ _ _ h; exact h) (Or.inl ⟨by rfl, fun W hSw => ?_⟩) hHeld ?_
  rotate_left
  focus ((try dsimp only at hSw); first | (go_simp; done) | (go_simp; with_reducible rfl))
  try simp only [Act.put, List.setIfInBounds_toArray, List.set_cons_zero, List.set_cons_succ]
  refine wpAnyH_take (i := 49) (v := ?_) (by simp only [List.getElem?_toArray, List.getElem?_cons_succ, List.getElem?_cons_zero]; exact rfl) (by kernel_rfl) (by kernel_rfl) (by kernel_rfl) (by intro _ _ _ h; exact h) (Or.inl ⟨by rfl, fun W hSw => ?_⟩) hHeld ?_
  rotate_left
  focus ((try dsimp only at hSw); first | (go_simp; done) | (go_simp; with_reducible rfl))
  try simp only [Act.put, List.setIfInBounds_toArray, List.set_cons_zero, List.set_cons_succ]
  refine wpAnyH_take (i := 50) (v := ?_) (by simp only [List.getElem?_toArray, List.getElem?_cons_succ, List.getElem?_cons_zero]; exact rfl) (by kernel_rfl) (by kernel_rfl) (by kernel_rfl) (by intro _ _ _ h; exact h) (Or.inl ⟨by rfl, fun W hSw => ?_⟩) hHeld ?_
  rotate_left
  focus ((try dsimp only at hSw); first | (go_simp; done) | (go_simp; with_reducible rfl))
  try simp only [Act.put, List.setIfInBounds_toArray, List.set_cons_zero, List.set_cons_succ]
  refine wpAnyH_take (i := 51) (v := ?_) (by simp only [List.getElem?_toArray, List.getElem?_cons_succ, List.getElem?_cons_zero]; exact rfl) (by kernel_rfl) (by kernel_rfl) (by kernel_rfl) (by intro _ _ _ h; exact h) (Or.inl ⟨by rfl, fun W hSw => ?_⟩) hHeld ?_
  rotate_left
  focus ((try dsimp only at hSw); first | (go_simp; done) | (go_simp; with_reducible rfl))
  try simp only [Act.put, List.setIfInBounds_toArray, List.set_cons_zero, List.set_cons_succ]
  refine wpAnyH_take (i := 52) (v := ?_) (by simp only [List.getElem?_toArray, List.getElem?_cons_succ, List.getElem?_cons_zero]; exact rfl) (by kernel_rfl) (by kernel_rfl) (by kernel_rfl) (by intro _ _ _ h; exact h) (Or.inl ⟨by rfl, fun W hSw => ?_⟩) hHeld ?_
  rotate_left
  focus ((try dsimp only at hSw); first | (go_simp; done) | (go_simp; with_reducible rfl))
  try simp only [Act.put, List.setIfInBounds_toArray, List.set_cons_zero, List.set_cons_succ]
  refine wpAnyH_take (i := 53) (v := ?_) (by simp only [List.getElem?_toArray, List.getElem?_cons_succ, List.getElem?_cons_zero]; exact rfl) (by kernel_rfl) (by kernel_rfl) (by kernel_rfl) (by intro _ _ _ h; exact h) (Or.inl ⟨by rfl, fun W hSw => ?_⟩) hHeld ?_
  rotate_left
  focus ((try dsimp only at hSw); first | (go_simp; done) | (go_simp; with_reducible rfl))
  try simp only [Act.put, List.setIfInBounds_toArray, List.set_cons_zero, List.set_cons_succ]
  refine wpAnyH_take (i := 54) (v := ?_) (by simp only [List.getElem?_toArray, List.getElem?_cons_succ, List.getElem?_cons_zero]; exact rfl) (by kernel_rfl) (by kernel_rfl) (by kernel_rfl) (by intro _ _ _ h; exact h) (Or.inl ⟨by rfl, fun W hSw => ?_⟩) hHeld ?_
  rotate_left
  focus ((try dsimp only at hSw); first | (go_simp; done) | (go_simp; with_reducible rfl))
  try simp only [Act.put, List.setIfInBounds_toArray, List.set_cons_zero, List.set_cons_succ]
  refine wpAnyH_take (i := 55) (v := ?_) (by simp only [List.getElem?_toArray, List.getElem?_cons_succ, List.getElem?_cons_zero]; exact rfl) (by kernel_rfl) (by kernel_rfl) (by kernel_rfl) (by intro _ _ _ h; exact h) (Or.inl ⟨by rfl, fun W hSw => ?_⟩) hHeld ?_
  rotate_left
  focus ((try dsimp only at hSw); first | (go_simp; done) | (go_simp; with_reducible rfl))
  try simp only [Act.put, List.setIfInBounds_toArray, List.set_cons_zero, List.set_cons_succ]
  refine wpAnyH_done (by kernel_rfl) ?_ _
  clear hHeld
  have ka := fun w' => dahead_any Y (by omega) w'
  have hab := dahead_ge Y (by omega)
  have KA := Lib.hid ka
  clear ka
  obtain ⟨AH, hAH⟩ : ∃ AH, dahead Y = AH := ⟨_, rfl⟩
  rw [hAH] at KA hab
  have HAH := Lib.hid hAH
  clear hAH
  have v1 : IntKind.i64.wrap (AH + m.day) = AH + m.day := by rw [IntKind.wrap_i64]; omega
  have v2 : IntKind.i64.wrap (AH + m.day - 1) = AH + m.day - 1 := by rw [IntKind.wrap_i64]; omega
  go_wp2_with fail
  refine wp_region_held_drew (S := (fun w' => w'.cell? ⟨mb, 0, none⟩ = some (.int .i64 m.wd) ∧ w'.cell? ⟨mb, 1, none⟩ = some (.int .i64 m.day) ∧ w'.cell? ⟨mb, 2, none⟩ = some (.int .i64 m.month) ∧ w'.cell? ⟨mb, 3, none⟩ = some (.int .i64 Y) ∧ w'.cell? ⟨mb, 4, none⟩ = some (.int .i64 m.hour) ∧ w'.cell? ⟨mb, 5, none⟩ = some (.int .i64 m.minute) ∧ w'.cell? ⟨mb, 6, none⟩ = some (.int .i64 m.second))) (by kernel_rfl) (⟨c0, c1, c2, c3, c4, c5, c6⟩) (fun hHeld => ?_)
  refine wpAnyH_take (i := 0) (v := ?_) (by simp only [List.getElem?_toArray, List.getElem?_cons_zero]; exact rfl) (by kernel_rfl) (by kernel_rfl) (by kernel_rfl) (by intro _ _ _ h; exact h) (Or.inl ⟨by rfl, fun W hSw => ?_⟩) hHeld ?_
  rotate_left
  focus ((try dsimp only at hSw); first | (go_simp; done) | (go_simp; with_reducible rfl))
  try simp only [Act.put, List.setIfInBounds_toArray, List.set_cons_zero, List.set_cons_succ]
  refine wpAnyH_take (i := 1) (v := ?_) (by simp only [List.getElem?_toArray, List.getElem?_cons_succ, List.getElem?_cons_zero]; exact rfl) (by kernel_rfl) (by kernel_rfl) (by kernel_rfl) (by intro _ _ _ h; exact h) (Or.inl ⟨by rfl, fun W hSw => ?_⟩) hHeld ?_
  rotate_left
  focus ((try dsimp only at hSw); first | (go_simp; done) | (go_simp; with_reducible rfl))
  try simp only [Act.put, List.setIfInBounds_toArray, List.set_cons_zero, List.set_cons_succ]
  refine wpAnyH_take (i := 2) (v := ?_) (by simp only [List.getElem?_toArray, List.getElem?_cons_succ, List.getElem?_cons_zero]; exact rfl) (by kernel_rfl) (by kernel_rfl) (by kernel_rfl) (by intro _ _ _ h; exact h) (Or.inl ⟨by rfl, fun W hSw => ?_⟩) hHeld ?_
  rotate_left
  focus ((try dsimp only at hSw); first | (go_simp; done) | (go_simp; with_reducible rfl))
  try simp only [Act.put, List.setIfInBounds_toArray, List.set_cons_zero, List.set_cons_succ]
  refine wpAnyH_take (i := 3) (v := ?_) (by simp only [List.getElem?_toArray, List.getElem?_cons_succ, List.getElem?_cons_zero]; exact rfl) (by kernel_rfl) (by kernel_rfl) (by kernel_rfl) (by intro _ _ _ h; exact h) (Or.inl ⟨by rfl, fun W hSw => ?_⟩) hHeld ?_
  rotate_left
  focus ((try dsimp only at hSw); first | (go_simp; done) | (go_simp; with_reducible rfl))
  try simp only [Act.put, List.setIfInBounds_toArray, List.set_cons_zero, List.set_cons_succ]
  refine wpAnyH_take (i := 5) (v := ?_) (by simp only [List.getElem?_toArray, List.getElem?_cons_succ, List.getElem?_cons_zero]; exact rfl) (by kernel_rfl) (by kernel_rfl) (by kernel_rfl) (by intro _ _ _ h; exact h) (Or.inl ⟨by rfl, fun W hSw => ?_⟩) hHeld ?_
  rotate_left
  focus ((try dsimp only at hSw); first | (go_simp; done) | (go_simp; with_reducible rfl))
  try simp only [Act.put, List.setIfInBounds_toArray, List.set_cons_zero, List.set_cons_succ]
  refine wpAnyH_take (i := 6) (v := ?_) (by simp only [List.getElem?_toArray, List.getElem?_cons_succ, List.getElem?_cons_zero]; exact rfl) (by kernel_rfl) (by kernel_rfl) (by kernel_rfl) (by intro _ _ _ h; exact h) (Or.inl ⟨by rfl, fun W hSw => ?_⟩) hHeld ?_
  rotate_left
  focus ((try dsimp only at hSw); first | (go_simp; done) | (go_simp; with_reducible rfl))
  try simp only [Act.put, List.setIfInBounds_toArray, List.set_cons_zero, List.set_cons_succ]
  refine wpAnyH_take (i := 7) (v := ?_) (by simp only [List.getElem?_toArray, List.getElem?_cons_succ, List.getElem?_cons_zero]; exact rfl) (by kernel_rfl) (by kernel_rfl) (by kernel_rfl) (by intro _ _ _ h; exact h) (Or.inl ⟨by rfl, fun W hSw => ?_⟩) hHeld ?_
  rotate_left
  focus ((try dsimp only at hSw); first | (go_simp; done) | (go_simp; with_reducible rfl))
  try simp only [Act.put, List.setIfInBounds_toArray, List.set_cons_zero, List.set_cons_succ]
  refine wpAnyH_take (i := 8) (v := ?_) (by simp only [List.getElem?_toArray, List.getElem?_cons_succ, List.getElem?_cons_zero]; exact rfl) (by kernel_rfl) (by kernel_rfl) (by kernel_rfl) (by intro _ _ _ h; exact h) (Or.inl ⟨by rfl, fun W hSw => ?_⟩) hHeld ?_
  rotate_left
  focus ((try dsimp only at hSw); first | (go_simp; done) | (go_simp; with_reducible rfl))
  try simp only [Act.put, List.setIfInBounds_toArray, List.set_cons_zero, List.set_cons_succ]
  refine wpAnyH_ready (rs := [4]) (by kernel_rfl) (by simp) (AllReadyH.cons (by simp only [List.getElem?_toArray, List.getElem?_cons_succ, List.getElem?_cons_zero]; exact rfl) (fun K hK => ?_) AllReadyH.nil)
  rw [if_pos (by rfl)]
  go_simp
  refine (KA.out _).mono ?_; rintro e wl ⟨rfl, rfl⟩; go_wp2_with fail
  refine hK.out _ _ (hHeld) (fun hHeld => ?_)
  clear hK K
  try simp only [Act.put, List.setIfInBounds_toArray, List.set_cons_zero, List.set_cons_succ]
  refine wpAnyH_take (i := 9) (v := ?_) (by simp only [List.getElem?_toArray, List.getElem?_cons_succ, List.getElem?_cons_zero]; exact rfl) (by kernel_rfl) (by kernel_rfl) (by kernel_rfl) (by intro _ _ _ h; exact h) (Or.inl ⟨by rfl, fun W hSw => ?_⟩) hHeld ?_
  rotate_left
  focus ((try dsimp only at hSw); first | (go_simp; done) | (go_simp; with_reducible rfl))
  try simp only [Act.put, List.setIfInBounds_toArray, List.set_cons_zero, List.set_cons_succ]
  refine wpAnyH_take (i := 10) (v := ?_) (by simp only [List.getElem?_toArray, List.getElem?_cons_succ, List.getElem?_cons_zero]; exact rfl) (by kernel_rfl) (by kernel_rfl) (by kernel_rfl) (by intro _ _ _ h; exact h) (Or.inl ⟨by rfl, fun W hSw => ?_⟩) hHeld ?_
  rotate_left
  focus ((try dsimp only at hSw); first | (go_simp; done) | (go_simp; with_reducible rfl))
  try simp only [Act.put, List.setIfInBounds_toArray, List.set_cons_zero, List.set_cons_succ]
  refine wpAnyH_take (i := 11) (v := ?_) (by simp only [List.getElem?_toArray, List.getElem?_cons_succ, List.getElem?_cons_zero]; exact rfl) (by kernel_rfl) (by kernel_rfl) (by kernel_rfl) (by intro _ _ _ h; exact h) (Or.inl ⟨by rfl, fun W hSw => ?_⟩) hHeld ?_
  rotate_left
  focus ((try dsimp only at hSw); first | (go_simp; done) | (go_simp; with_reducible rfl))
  try simp only [Act.put, List.setIfInBounds_toArray, List.set_cons_zero, List.set_cons_succ]
  refine wpAnyH_done (by kernel_rfl) ?_ _
  clear hHeld
  go_wp2_with fail
  go_loopw [9, 10] (fun d k wr => ∃ j : Nat, k = .int .i64 ((j : Int) + 1) ∧ j ≤ m.month.toNat - 1 ∧ d = .int .i64 (AH + m.day - 1 + dmons Y j) ∧ ∃ q, wr = WZ.drewN q) (fun _ k _ => 20 - (intD k).toNat)
  case atStart => exact ⟨0, rfl, Nat.zero_le _, by simp [dmons], 2, rfl⟩
  case round =>
    obtain ⟨j, rfl, hj, rfl, q, rfl⟩ := hrel
    have hdm := dmons_le Y j
    have hj12 : j ≤ 12 := by omega
    by_cases hjm : (j : Int) + 1 < m.month
    · have t8 : decide ((j : Int) + 1 < m.month) = true := by simpa using hjm
      have kj := dlong_any Y ((j : Int) + 1) hYb (WZ.drewN q)
      have hjl := dlong_le Y ((j : Int) + 1)
      have hdn : dmons Y (j + 1) = dmons Y j + dlong Y ((j : Int) + 1) := rfl
      have u1 : IntKind.i64.wrap (AH + m.day - 1 + dmons Y j + dlong Y ((j : Int) + 1)) = AH + m.day - 1 + dmons Y j + dlong Y ((j : Int) + 1) := by rw [IntKind.wrap_i64]; omega
      have u2 : IntKind.i64.wrap ((j : Int) + 1 + 1) = (j : Int) + 1 + 1 := by rw [IntKind.wrap_i64]; omega
      have KJ := Lib.hid kj; have HDN := Lib.hid hdn
      clear kj hdn
      go_wp2_with fail
      (with_reducible refine KJ.out.mono ?_)
      rintro e wl ⟨rfl, rfl⟩
      go_wp2
      go_roundw
      case rel => exact ⟨j + 1, rfl, by omega, by rw [HDN.out, ← Int.add_assoc], q, rfl⟩
      case measure => simp [intD]; omega
    · have t8 : decide ((j : Int) + 1 < m.month) = false := by simpa using hjm
      have hje : j = m.month.toNat - 1 := by omega
      obtain ⟨D, hD⟩ : ∃ D, AH + m.day - 1 + dmons Y j = D := ⟨_, rfl⟩
      have hDb : 0 ≤ D ∧ D ≤ 10000000 := by omega
      have hRD : R = if D % 7 ≠ m.wd then (0, false) else (D * 86400 + m.hour * 3600 + m.minute * 60 + m.second, true) := by
        rw [HRT.out, HAH.out, ← hje, hD]
      have em : D.tmod 7 = D % 7 := Int.tmod_eq_emod_of_nonneg hDb.1
      rw [hD]
      have HRD := Lib.hid hRD
      have HBE : Hid (ButB mb wy (WZ.drewN q)) := Lib.hid (HBT.out.drewN q)
      clear hje hRD hD hdm hj HRT
      by_cases hwd : D % 7 = m.wd
      · have hR2 : R = (D * 86400 + m.hour * 3600 + m.minute * 60 + m.second, true) := by rw [HRD.out, if_neg (by simpa using hwd)]
        have b1 : (D % 7 == m.wd) = true := by simpa using hwd
        have x1 : IntKind.i64.wrap (D * 86400) = D * 86400 := by rw [IntKind.wrap_i64]; omega
        have x2 : IntKind.i64.wrap (m.hour * 3600) = m.hour * 3600 := by rw [IntKind.wrap_i64]; omega
        have x3 : IntKind.i64.wrap (D * 86400 + m.hour * 3600) = D * 86400 + m.hour * 3600 := by rw [IntKind.wrap_i64]; omega
        have x4 : IntKind.i64.wrap (m.minute * 60) = m.minute * 60 := by rw [IntKind.wrap_i64]; omega
        have x5 : IntKind.i64.wrap (D * 86400 + m.hour * 3600 + m.minute * 60) = D * 86400 + m.hour * 3600 + m.minute * 60 := by rw [IntKind.wrap_i64]; omega
        have x6 : IntKind.i64.wrap (D * 86400 + m.hour * 3600 + m.minute * 60 + m.second) = D * 86400 + m.hour * 3600 + m.minute * 60 + m.second := by rw [IntKind.wrap_i64]; omega
        have HR2 := Lib.hid hR2
        clear hR2
        go_wp2
        go_region
        go_wp2
        go_ret2
        exact ⟨by rw [HR2.out]; rfl, HBE.out.drewN 1⟩
      · have hR2 : R = (0, false) := by rw [HRD.out, if_pos hwd]
        have b1 : (D % 7 == m.wd) = false := by simpa using hwd
        have HR2 := Lib.hid hR2
        clear hR2
        go_wp2
        go_ret2
        exact ⟨by rw [HR2.out]; rfl, HBE.out⟩
end Go.Proofs.YtgmmjhcklhajiaaGreatDoor
/- Dates: all pieces; a text's letters one by one; what a date's pieces can be. -/
namespace Go.Proofs.YtgmmjhcklhajiaaGreatDoor
open Go.RowKit
set_option maxRecDepth 100000

def dletters : List Nat := [119, 87, 68, 69, 109, 89, 121, 72, 73, 83, 44, 32, 58, 71, 77, 84, 45]
theorem dtake_any (c : Nat) (hc : c ∈ dletters) (mb : Nat) (m : Mom) (s : ByteArray) (w : World) (hE : DEnv w) (hm : MomAt mb m w) :
    Calls Tryz.prog 152 #[.pointer (some ⟨mb, 0, none⟩), .int .i32 c, .string s] w fun e w' => e = .returned (.tuple #[.string ⟨(dtake m c s.data.toList).2.1.toArray⟩, .bool (dtake m c s.data.toList).2.2]) ∧ ButB mb w w' ∧ MomAt mb (dtake m c s.data.toList).1 w' := by
  unfold dletters at hc
  simp only [List.mem_cons, List.not_mem_nil, or_false] at hc
  rcases hc with rfl | rfl | rfl | rfl | rfl | rfl | rfl | rfl | rfl | rfl | rfl | rfl | rfl | rfl | rfl | rfl | rfl
  · exact dtake119_any mb m s w hE hm
  · exact dtake87_any mb m s w hE hm
  · exact dtake68_any mb m s w hE hm
  · exact dtake69_any mb m s w hE hm
  · exact dtake109_any mb m s w hE hm
  · exact dtake89_any mb m s w hE hm
  · exact dtake121_any mb m s w hE hm
  · exact dtake72_any mb m s w hE hm
  · exact dtake73_any mb m s w hE hm
  · exact dtake83_any mb m s w hE hm
  · exact dtake44_any mb m s w hE hm
  · exact dtake32_any mb m s w hE hm
  · exact dtake58_any mb m s w hE hm
  · exact dtake71_any mb m s w hE hm
  · exact dtake77_any mb m s w hE hm
  · exact dtake84_any mb m s w hE hm
  · exact dtake45_any mb m s w hE hm
/-- The iterator of a text, wherever it lies. -/
def stepI (w : World) (ib : Nat) (s : ByteArray) (p : Nat) : World := { w with heap := w.heap.setIfInBounds ib (.stringIter s p) }
theorem run_next_at {P : Program} (w : World) (ib : Nat) (s : ByteArray) (pos : Nat) (ty : TypeId) (hi : w.heap[ib]? = some (.stringIter s pos)) (h : pos < s.size) (ha : (s[pos]'h).toNat < 128) :
    (Instr.next (.pointer (some ⟨ib, 0, none⟩)) true ty).run P w = .ok (.tuple #[.bool true, .int .i64 pos, .int .i32 (s[pos]'h).toNat]) (stepI w ib s (pos + 1)) := by
  simp only [Instr.next, getObj, setObj, Sem.run_bind, Sem.run, hi, Result.andThen, h, if_true, decode_ascii s pos h ha]
  have hl : ib < w.heap.size := by
    rcases Nat.lt_or_ge ib w.heap.size with h' | h'
    · exact h'
    · simp [Array.getElem?_eq_none h'] at hi
  simp [goInt, stepI]
theorem run_next_stop {P : Program} (w : World) (ib : Nat) (s : ByteArray) (pos : Nat) (ty : TypeId) (hi : w.heap[ib]? = some (.stringIter s pos)) (h : ¬ pos < s.size) :
    (Instr.next (.pointer (some ⟨ib, 0, none⟩)) true ty).run P w = .ok (.tuple #[.bool false]) w := by
  simp [Instr.next, getObj, Sem.run, hi, h]
theorem stepI_same {w : World} {ib p : Nat} {s : ByteArray} (h : ib < w.heap.size) : (stepI w ib s p).heap[ib]? = some (.stringIter s p) := by
  unfold stepI; simp [h]
theorem stepI_other {w : World} {ib p b : Nat} {s : ByteArray} (h : b ≠ ib) : (stepI w ib s p).heap[b]? = w.heap[b]? := by
  unfold stepI; simp [Array.getElem?_setIfInBounds]; intro e; exact absurd e.symm h
theorem stepI_but (w : World) (ib p : Nat) (s : ByteArray) : ButB ib w (stepI w ib s p) := ⟨rfl, rfl, rfl, by simp [stepI], fun _ _ hn => stepI_other hn⟩

theorem dnum4 (l : List UInt8) (h : l.all dg = true) (n : Nat) (hn : l.length ≤ n) (h4 : n = 1 ∨ n = 2 ∨ n = 4) : 0 ≤ dnum l 0 ∧ dnum l 0 ≤ 9999 ∧ (n ≤ 2 → dnum l 0 ≤ 99) := by
  have hb := dnum_le l h 0 (by omega)
  generalize hL : l.length = L at *
  have : L = 0 ∨ L = 1 ∨ L = 2 ∨ L = 3 ∨ L = 4 := by omega
  rcases this with rfl | rfl | rfl | rfl | rfl <;> simp at hb <;> omega
theorem dnumL_le (s : List UInt8) (n : Nat) (h4 : n = 1 ∨ n = 2 ∨ n = 4) : 0 ≤ (dnumL s n).1 ∧ (dnumL s n).1 ≤ 9999 ∧ (n ≤ 2 → (dnumL s n).1 ≤ 99) := by
  unfold dnumL
  cases decide (s.length < n)
  · cases hd : (s.take n).all dg
    · simp
    · simp only [cond_false, cond_true]
      exact dnum4 (s.take n) hd n (by rw [List.length_take]; omega) h4
  · simp
theorem dname_le (s : List UInt8) (n : Nat) : ∀ (ls : List (List UInt8)) (i : Nat), i + ls.length ≤ 7 → 0 ≤ (dname s n ls i).1 ∧ (dname s n ls i).1 ≤ 6
  | [], i, h => by simp [dname]
  | x :: r, i, h => by
    have ih := dname_le s n r (i + 1) (by rw [List.length_cons] at h; omega)
    rw [dname]
    cases Lib.hasPrefix s (bif decide (0 < n) then x.take n else x)
    · exact ih
    · simp only [cond_true]
      rw [List.length_cons] at h
      omega
theorem dtake_ok {m : Mom} (h : MomOk m) (c : Nat) (hc : c ∈ dletters) (s : List UInt8) (h2 : c = 89 → m.two = false) : MomOk (dtake m c s).1 ∧ (c ≠ 121 → (dtake m c s).1.two = m.two) := by
  have n1 := dnumL_le (s.drop 1) 1 (by omega)
  have n2 := dnumL_le s 2 (by omega)
  have n4 := dnumL_le s 4 (by omega)
  have d0 := dname_le s 0 ddays 0 (by decide)
  have d3 := dname_le s 3 ddays 0 (by decide)
  have hx := dindex_range dmonths (s.take 3)
  have hml : dmonths.length = 36 := rfl
  rw [hml] at hx
  obtain ⟨a1, a2, a3, a4, a5, a6, a7, a8⟩ := h
  unfold dletters at hc
  simp only [List.mem_cons, List.not_mem_nil, or_false] at hc
  unfold dtake
  rcases hc with rfl | rfl | rfl | rfl | rfl | rfl | rfl | rfl | rfl | rfl | rfl | rfl | rfl | rfl | rfl | rfl | rfl
  all_goals simp only [Nat.reduceEqDiff, if_true, if_false]
  · exact ⟨⟨by simp only; omega, a2, a3, a4, a5, a6, a7, a8⟩, fun _ => by first | rfl | trivial⟩
  · exact ⟨⟨by simp only; omega, a2, a3, a4, a5, a6, a7, a8⟩, fun _ => by first | rfl | trivial⟩
  · exact ⟨⟨a1, by simp only; omega, a3, a4, a5, a6, a7, a8⟩, fun _ => by first | rfl | trivial⟩
  · split
    · exact ⟨⟨a1, by simp only; omega, a3, a4, a5, a6, a7, a8⟩, fun _ => by first | rfl | trivial⟩
    · exact ⟨⟨a1, by simp only; omega, a3, a4, a5, a6, a7, a8⟩, fun _ => by first | rfl | trivial⟩
  · split
    · exact ⟨⟨a1, a2, a3, a4, a5, a6, a7, a8⟩, fun _ => by first | rfl | trivial⟩
    · exact ⟨⟨a1, a2, by simp only; omega, a4, a5, a6, a7, a8⟩, fun _ => by first | rfl | trivial⟩
  · exact ⟨⟨a1, a2, a3, by simp only; omega, a5, a6, a7, fun h => by rw [h2 rfl] at h; cases h⟩, fun _ => by first | rfl | trivial⟩
  · exact ⟨⟨a1, a2, a3, by simp only; omega, a5, a6, a7, fun _ => by simp only; omega⟩, fun h => by first | exact absurd rfl h | simp at h⟩
  · exact ⟨⟨a1, a2, a3, a4, by simp only; omega, a6, a7, a8⟩, fun _ => by first | rfl | trivial⟩
  · exact ⟨⟨a1, a2, a3, a4, a5, by simp only; omega, a7, a8⟩, fun _ => by first | rfl | trivial⟩
  · exact ⟨⟨a1, a2, a3, a4, a5, a6, by simp only; omega, a8⟩, fun _ => by first | rfl | trivial⟩
  all_goals
    split <;> exact ⟨⟨a1, a2, a3, a4, a5, a6, a7, a8⟩, fun _ => by first | rfl | trivial⟩
end Go.Proofs.YtgmmjhcklhajiaaGreatDoor
/- Dates: the walk of date.Parse. -/
namespace Go.Proofs.YtgmmjhcklhajiaaGreatDoor
open Go.RowKit
set_option maxRecDepth 100000

def dfs : List (List UInt8) := [dform0, dform1, dform2]
theorem dtick_any (mb : Nat) (m : Mom) (now : Int) (w : World) (hm : MomAt mb m w) (ho : MomOk m) :
    Calls Tryz.prog 153 #[.pointer (some ⟨mb, 0, none⟩), .int .i64 now] w (TickPost mb w (dtick m now)) := by
  cases h : m.two
  · exact dtick_one mb m now w hm ho h
  · exact dtick_two mb m now w hm ho h
/-- A form's letters. -/
def FormOk (f : List UInt8) : Prop := (∀ c ∈ f, c.toNat ∈ dletters) ∧ ((∃ c ∈ f, c.toNat = 89) → ∀ c ∈ f, c.toNat ≠ 121)
theorem dfs_ok : ∀ f ∈ dfs, FormOk f := by
  have h1 : (dfs.all fun f => (f.all fun c => dletters.contains c.toNat) && (!(f.any fun c => c.toNat == 89) || f.all fun c => c.toNat != 121)) = true := by decide +kernel
  intro f hf
  have h2 := List.all_eq_true.1 h1 f hf
  rw [Bool.and_eq_true] at h2
  refine ⟨fun c hc => by simpa using List.all_eq_true.1 h2.1 c hc, fun ⟨c, hc, h89⟩ c' hc' => ?_⟩
  have hany : (f.any fun c => c.toNat == 89) = true := List.any_eq_true.2 ⟨c, hc, by simpa using h89⟩
  rw [hany] at h2
  have h3 := h2.2
  simp only [Bool.not_true, Bool.false_or] at h3
  simpa using List.all_eq_true.1 h3 c' hc'
theorem dpieces_ok : ∀ (f : List UInt8) (m : Mom) (s : List UInt8) (m' : Mom) (r : List UInt8), (∀ c ∈ f, c.toNat ∈ dletters) → ((∃ c ∈ f, c.toNat = 89) → m.two = false ∧ ∀ c ∈ f, c.toNat ≠ 121) → MomOk m → dpieces f m s = some (m', r) → MomOk m'
  | [], m, s, m', r, _, _, h, e => by
    rw [dpieces] at e
    cases e
    exact h
  | c :: f, m, s, m', r, hl, hy, h, e => by
    rw [dpieces] at e
    have hk := dtake_ok h c.toNat (hl c (by simp)) s (fun h89 => (hy ⟨c, by simp, h89⟩).1)
    cases hs : (dtake m c.toNat s).2.2
    · rw [hs] at e; cases e
    · rw [hs] at e
      refine dpieces_ok f _ _ m' r (fun c' hc' => hl c' (by simp [hc'])) (fun ⟨c', hc', h89⟩ => ?_) hk.1 e
      have h2 := hy ⟨c', by simp [hc'], h89⟩
      have hne : c.toNat ≠ 121 := h2.2 c (by simp)
      exact ⟨(hk.2 hne).trans h2.1, fun c'' hc'' => h2.2 c'' (by simp [hc''])⟩
theorem mom0_ok : MomOk mom0 := ⟨by decide, by decide, by decide, by decide, by decide, by decide, by decide, by intro h; cases h⟩
theorem dforms_any (w : World) :
    Calls Tryz.prog 151 #[] w fun e w' => e = .returned (.slice (some ⟨w.heap.size, 0, none⟩) 3 3) ∧ Rd (some ⟨w.heap.size, 0, none⟩) 3 1 (strsV dfs) w' ∧ Below w.heap.size w w' := by
  go_enter Tryz.func151, Tryz.ntmps151
  go_wp2
  go_ret
  refine ⟨rfl, ⟨rfl, fun _ => ⟨_, 0, rfl, by simp, fun j u hu => ?_⟩⟩, (Below.refl _ w).alloc (Nat.le_refl _) _⟩
  rw [Nat.zero_add, World.cell?_alloc_mark]
  simpa [strsV, dfs, dform0, dform1, dform2] using hu
/-- Where a text's iterator stands. -/
def posI (w : World) (ib : Nat) : Nat := match w.heap[ib]? with
  | some (.stringIter _ p) => p
  | _ => 0
theorem posI_of {w : World} {ib p : Nat} {s : ByteArray} (h : w.heap[ib]? = some (.stringIter s p)) : posI w ib = p := by
  unfold posI; rw [h]
theorem dparse_none {s f : List UInt8} {now : Int} {r : List (List UInt8)} (h : dpieces f mom0 s = none) : dparse s now (f :: r) = dparse s now r := by
  rw [dparse, h]
theorem dparse_more {s f : List UInt8} {now : Int} {r : List (List UInt8)} {m : Mom} {c : UInt8} {t : List UInt8} (h : dpieces f mom0 s = some (m, c :: t)) : dparse s now (f :: r) = dparse s now r := by
  rw [dparse, h]
theorem dparse_end {s f : List UInt8} {now : Int} {r : List (List UInt8)} {m : Mom} (h : dpieces f mom0 s = some (m, [])) : dparse s now (f :: r) = if (dtick m now).2 = true then ((dtick m now).1, 0) else dparse s now r := by
  rw [dparse, h]
set_option maxHeartbeats 16000000 in
theorem dparse_any (s : ByteArray) (now : Int) (w : World) (hE : DEnv w) :
    Calls Tryz.prog 101 #[.string s, .int .i64 now] w fun e w' => e = .returned (.tuple #[.int .i64 (dateP s.data.toList now).1, .int .i64 (dateP s.data.toList now).2]) ∧ Below w.heap.size w w' := by
  obtain ⟨R, hR⟩ : ∃ R, dateP s.data.toList now = R := ⟨_, rfl⟩
  rw [hR]
  have hR0 : dparse s.data.toList now dfs = R := hR
  have hok := dfs_ok
  have hl3 : dfs.length = 3 := rfl
  have kf := dforms_any w
  obtain ⟨y, rfl⟩ : ∃ y : List UInt8, s = ⟨y.toArray⟩ := ⟨s.data.toList, (str_of s).symm⟩
  have ey : (⟨y.toArray⟩ : ByteArray).data.toList = y := by simp
  rw [ey] at hR0
  have HR0 := Lib.hid hR0; have HOK := Lib.hid hok; have HL3 := Lib.hid hl3; have KF := Lib.hid kf; have HE := Lib.hid hE
  clear hR hR0 hok hl3 kf hE ey
  generalize dfs = ls at *
  go_enter Tryz.func101, Tryz.ntmps101
  go_wp2_with fail
  go_step3
  go_wp2_with fail
  go_step3
  go_wp2_with fail
  (with_reducible refine KF.out.mono ?_)
  rintro e W1 ⟨rfl, hrd, hb1⟩
  have HE1 := Lib.hid (HE.out.below hb1)
  have HRD := Lib.hid hrd
  have hlow : w.heap.size < W1.heap.size := by
    obtain ⟨b, o, e, hl, _⟩ := hrd.2 (by decide)
    cases e; exact hl
  clear hrd KF
  go_wp2_with fail
  go_loopw [18] (fun i wr => ∃ k : Nat, k ≤ 3 ∧ i = .int .i64 k ∧ Below W1.heap.size W1 wr ∧ Hid (dparse y now (ls.drop k) = R)) (fun i _ => 3 - (intD i).toNat)
  case atStart => exact ⟨0, Nat.zero_le _, rfl, Below.refl _ _, HR0⟩
  case round =>
    obtain ⟨k, hk, rfl, hbr, HP⟩ := hrel
    by_cases hk3 : k < 3
    · have hkl : k < ls.length := by rw [HL3.out]; exact hk3
      obtain ⟨b', o', e, _, d0⟩ := (HRD.out.below hbr).str_at hkl
      cases e
      have hfo := HOK.out ls[k] (List.getElem_mem hkl)
      have hdr : ls.drop k = ls[k] :: ls.drop (k + 1) := List.drop_eq_getElem_cons hkl
      have hP := HP.out
      rw [hdr] at hP
      generalize ls[k] = f at *
      obtain ⟨fo, rfl⟩ : ∃ fo : ByteArray, f = fo.data.toList := ⟨⟨f.toArray⟩, by simp⟩
      rw [str_of, Nat.zero_add] at d0
      have HP2 := Lib.hid hP
      have HFO := Lib.hid hfo
      have i2 : IntKind.i64.wrap ((k : Int) + 1) = ((k + 1 : Nat) : Int) := by rw [IntKind.wrap_i64]; omega
      have i3 : IntKind.i64.wrap (k : Int) = k := by rw [IntKind.wrap_i64]; omega
      have t0 : decide ((k : Int) < 3) = true := by simp; omega
      clear hP hdr hfo HP hkl
      go_wp2_with fail
      obtain ⟨wo, rfl⟩ : ∃ wo : World, wo = wr := ⟨_, rfl⟩
      have hm0 : MomAt wo.heap.size mom0 ((wo.alloc (.cells #[.int .i64 0, .int .i64 0, .int .i64 0, .int .i64 0, .int .i64 0, .int .i64 0, .int .i64 0, .bool false] 176 (0, 0))).iter fo 0) := by
        unfold MomAt World.iter
        exact (Below.heap_alloc _ _ _ (by simp)).trans (heap_new wo _ _ rfl)
      have hi0 : ((wo.alloc (.cells #[.int .i64 0, .int .i64 0, .int .i64 0, .int .i64 0, .int .i64 0, .int .i64 0, .int .i64 0, .bool false] 176 (0, 0))).iter fo 0).heap[wo.heap.size + 1]? = some (.stringIter fo 0) := by
        have := World.iter_heap (wo.alloc (.cells #[.int .i64 0, .int .i64 0, .int .i64 0, .int .i64 0, .int .i64 0, .int .i64 0, .int .i64 0, .bool false] 176 (0, 0))) fo 0
        rw [show (wo.alloc (.cells #[.int .i64 0, .int .i64 0, .int .i64 0, .int .i64 0, .int .i64 0, .int .i64 0, .int .i64 0, .bool false] 176 (0, 0))).heap.size = wo.heap.size + 1 from by simp] at this
        exact this
      have hb0 : Below W1.heap.size W1 ((wo.alloc (.cells #[.int .i64 0, .int .i64 0, .int .i64 0, .int .i64 0, .int .i64 0, .int .i64 0, .int .i64 0, .bool false] 176 (0, 0))).iter fo 0) := (hbr.alloc hbr.size _).alloc (by simp; have := hbr.size; omega) _
      obtain ⟨W2, hW2⟩ : ∃ W2, (wo.alloc (.cells #[.int .i64 0, .int .i64 0, .int .i64 0, .int .i64 0, .int .i64 0, .int .i64 0, .int .i64 0, .bool false] 176 (0, 0))).iter fo 0 = W2 := ⟨_, rfl⟩
      rw [hW2] at hm0 hi0 hb0 ⊢
      have hmbs : W1.heap.size ≤ wo.heap.size := hbr.size
      obtain ⟨mb, hmb⟩ : ∃ mb, wo.heap.size = mb := ⟨_, rfl⟩
      rw [hmb] at hm0 hi0 hmbs ⊢
      obtain ⟨P0, hP0⟩ : ∃ P0, dpieces fo.data.toList mom0 y = P0 := ⟨_, rfl⟩
      have HP0 := Lib.hid hP0; have HM0 := Lib.hid hm0; have HI0 := Lib.hid hi0; have HB0 := Lib.hid hb0
      clear hP0 hm0 hi0 hb0 hW2 hmb d0 hbr
      go_loopw [9] (fun rv wi => ∃ (p : Nat) (m : Mom) (rest : List UInt8), rv = .string ⟨rest.toArray⟩ ∧ p ≤ fo.size ∧ Hid (MomAt mb m wi) ∧ Hid (wi.heap[mb + 1]? = some (.stringIter fo p)) ∧ Hid (Below W1.heap.size W1 wi) ∧ Hid (dpieces (fo.data.toList.drop p) m rest = P0)) (fun _ wi => fo.size - posI wi (mb + 1))
      case atStart => exact ⟨0, mom0, y, rfl, Nat.zero_le _, HM0, HI0, HB0, HP0⟩
      case round =>
        obtain ⟨p, m, rest, rfl, hp, HM, HI, HB, HD⟩ := hrel
        by_cases hpf : p < fo.size
        · have hdc := drop_cons fo p hpf
          have hcm : fo[p] ∈ fo.data.toList := by rw [at_list fo p hpf]; exact List.getElem_mem _
          have hlet := HFO.out.1 fo[p] hcm
          have hasc : fo[p].toNat < 128 := by
            have hall : ∀ c ∈ dletters, c < 128 := by decide
            exact hall _ hlet
          have hnx : ∀ ty, (Instr.next (.pointer (some ⟨mb + 1, 0, none⟩)) true ty).run Tryz.prog wr = .ok (.tuple #[.bool true, .int .i64 p, .int .i32 (fo[p]'hpf).toNat]) (stepI wr (mb + 1) fo (p + 1)) := fun ty => run_next_at wr (mb + 1) fo p ty HI.out hpf hasc
          have hil : mb + 1 < wr.heap.size := by
            rcases Nat.lt_or_ge (mb + 1) wr.heap.size with h' | h'
            · exact h'
            · have := HI.out; simp [Array.getElem?_eq_none h'] at this
          have hm3 : MomAt mb m (stepI wr (mb + 1) fo (p + 1)) := (stepI_other (by omega)).trans HM.out
          have hi3 : (stepI wr (mb + 1) fo (p + 1)).heap[mb + 1]? = some (.stringIter fo (p + 1)) := stepI_same hil
          have hb3 : Below W1.heap.size W1 (stepI wr (mb + 1) fo (p + 1)) := HB.out.trans ((stepI_but wr (mb + 1) (p + 1) fo).below (by omega) HB.out.size)
          have hD := HD.out
          rw [hdc, dpieces] at hD
          obtain ⟨c, hc⟩ : ∃ c, fo[p].toNat = c := ⟨_, rfl⟩
          rw [hc] at hD hlet hnx
          have hsz3 : (stepI wr (mb + 1) fo (p + 1)).heap.size = wr.heap.size := by simp [stepI]
          obtain ⟨W3, hW3⟩ : ∃ W3, stepI wr (mb + 1) fo (p + 1) = W3 := ⟨_, rfl⟩
          rw [hW3] at hnx hm3 hi3 hb3 hsz3
          have kt := dtake_any c hlet mb m ⟨rest.toArray⟩ W3 (HE1.out.below hb3) hm3
          have er : (⟨rest.toArray⟩ : ByteArray).data.toList = rest := by simp
          rw [er] at kt
          have hpos := posI_of HI.out
          generalize dtake m c rest = r at *
          obtain ⟨m', rest', is⟩ := r
          simp only at kt hD
          have KT := Lib.hid kt; have HI3 := Lib.hid hi3; have HB3 := Lib.hid hb3; have HS3 := Lib.hid hsz3; have HPOS := Lib.hid hpos
          clear kt hm3 hi3 hb3 hsz3 hpos hdc hcm hlet hasc hil er hW3 hc HD HM
          cases is
          · simp only [cond_false] at hD
            have HN := Lib.hid hD
            clear hD
            go_wp2_with fail
            (with_reducible refine KT.out.mono ?_)
            rintro e w4 ⟨rfl, hbt, _⟩
            have hb4 : Below W1.heap.size W1 w4 := HB3.out.trans (hbt.below hmbs HB3.out.size)
            have hRn : dparse y now (ls.drop (k + 1)) = R := (dparse_none (HP0.out.trans HN.out.symm)).symm.trans HP2.out
            have HRN := Lib.hid hRn
            clear hRn hbt
            go_wp2
            go_roundw
            case rel => exact ⟨k + 1, hk3, rfl, hb4, HRN⟩
            case measure => simp [intD]; omega
          · simp only [cond_true] at hD
            have HN := Lib.hid hD
            clear hD
            go_wp2_with fail
            (with_reducible refine KT.out.mono ?_)
            rintro e w4 ⟨rfl, hbt, hm4⟩
            have hil3 : mb + 1 < W3.heap.size := by
              rcases Nat.lt_or_ge (mb + 1) W3.heap.size with h' | h'
              · exact h'
              · have := HI3.out; simp [Array.getElem?_eq_none h'] at this
            have hi4 : w4.heap[mb + 1]? = some (.stringIter fo (p + 1)) := (hbt.2.2.2.2 (mb + 1) hil3 (by omega)).trans HI3.out
            have hb4 : Below W1.heap.size W1 w4 := HB3.out.trans (hbt.below hmbs HB3.out.size)
            have hpos4 := posI_of hi4
            have HM4 := Lib.hid hm4; have HI4 := Lib.hid hi4; have HB4 := Lib.hid hb4; have HPOS4 := Lib.hid hpos4
            clear hm4 hi4 hb4 hpos4 hbt hil3
            go_wp2
            go_roundw
            case rel =>
              exact ⟨p + 1, m', rest', rfl, hpf, HM4, HI4, HB4, HN⟩
            case measure => rw [HPOS4.out, HPOS.out]; omega
        · have hpe : p = fo.size := by omega
          subst hpe
          have hst : ∀ ty, (Instr.next (.pointer (some ⟨mb + 1, 0, none⟩)) true ty).run Tryz.prog wr = .ok (.tuple #[.bool false]) wr := fun ty => run_next_stop wr (mb + 1) fo fo.size ty HI.out hpf
          have hD := HD.out
          rw [drop_all fo fo.size (Nat.le_refl _), dpieces] at hD
          have hPF := HP0.out.trans hD.symm
          cases rest with
          | cons c0 t0 =>
            have hRn : dparse y now (ls.drop (k + 1)) = R := (dparse_more hPF).symm.trans HP2.out
            have HRN := Lib.hid hRn
            have HBB := Lib.hid HB.out
            clear hD hPF hRn HD HM HI
            go_wp2
            go_roundw
            case rel => exact ⟨k + 1, hk3, rfl, HBB.out, HRN⟩
            case measure => simp [intD]; omega
          | nil =>
            have hok := dpieces_ok fo.data.toList mom0 y m [] HFO.out.1 (fun h => ⟨rfl, HFO.out.2 h⟩) mom0_ok hPF
            have kt := dtick_any mb m now wr HM.out hok
            have hRn : (if (dtick m now).2 = true then ((dtick m now).1, 0) else dparse y now (ls.drop (k + 1))) = R := (dparse_end hPF).symm.trans HP2.out
            unfold TickPost at kt
            generalize dtick m now = r at *
            obtain ⟨t, is⟩ := r
            simp only at kt hRn
            have KT := Lib.hid kt; have HRN := Lib.hid hRn; have HBB := Lib.hid HB.out
            clear hD hPF hRn HD HM HI kt hok HB
            cases is
            · go_wp2_with fail
              (with_reducible refine KT.out.mono ?_)
              rintro e w4 ⟨rfl, hbt⟩
              have hb4 : Below W1.heap.size W1 w4 := HBB.out.trans (hbt.below hmbs HBB.out.size)
              have hRm : dparse y now (ls.drop (k + 1)) = R := by have := HRN.out; simpa using this
              have HRM := Lib.hid hRm
              clear hRm hbt
              go_wp2
              go_roundw
              case rel => exact ⟨k + 1, hk3, rfl, hb4, HRM⟩
              case measure => simp [intD]; omega
            · go_wp2_with fail
              (with_reducible refine KT.out.mono ?_)
              rintro e w4 ⟨rfl, hbt⟩
              have hb4 : Below W1.heap.size W1 w4 := HBB.out.trans (hbt.below hmbs HBB.out.size)
              have hRm : (t, 0) = R := by have := HRN.out; simpa using this
              have HRM := Lib.hid (And.intro hRm hb4)
              clear hRm hbt hb4
              go_wp2
              rw [Exit.noGoto_ret]
              go_ret2
              exact ⟨by rw [← HRM.out.1]; rfl, hb1.trans (HRM.out.2.mono (Nat.le_of_lt hlow))⟩
    · have hk2 : k = 3 := by omega
      subst hk2
      have hP := HP.out
      rw [List.drop_eq_nil_of_le (by rw [HL3.out]; exact Nat.le_refl _), dparse] at hP
      have HP2 := Lib.hid hP
      clear hP
      go_wp2
      rw [Exit.noGoto_ret]
      go_ret2
      exact ⟨by rw [← HP2.out]; rfl, hb1.trans (hbr.mono (Nat.le_of_lt hlow))⟩
end Go.Proofs.YtgmmjhcklhajiaaGreatDoor
/- The walk of refresh.Ask. -/
namespace Go.Proofs.YtgmmjhcklhajiaaGreatDoor
open Go.RowKit
set_option maxRecDepth 100000

set_option maxHeartbeats 1000000 in
theorem ask2_any (s : ByteArray) (w : World) (hs : s.size ≤ 8000) :
    Calls Tryz.prog 98 #[.string s] w fun e w' => e = .returned (.bool (ent s).right) ∧ Below w.heap.size w w' := by
  have k1 := parse_any s w hs
  unfold Ent.parse at k1
  cases h : (ent s).right
  all_goals
    rw [h] at k1
    simp only [cond_true, cond_false] at k1
    have K1 := Lib.hid k1; clear k1 h
    go_enter Tryz.func98, Tryz.ntmps98
    go_wp2_with fail
    (with_reducible refine K1.out.mono ?_)
    rintro e w1 ⟨rfl, hb1⟩
    go_wp2
    go_ret
    exact ⟨rfl, hb1⟩
set_option maxHeartbeats 1000000 in
theorem ask3_any (s : ByteArray) (E : Nat) (got : Int) (w : World) (hD : DEnv w) (hE : w.cell? ⟨E, 6, none⟩ = some (.int .i64 got)) :
    Calls Tryz.prog 100 #[.string s, .pointer (some ⟨E, 0, none⟩)] w fun e w' => e = .returned (.bool ((dateP s.data.toList got).2 == 0)) ∧ Below w.heap.size w w' := by
  have k1 := dparse_any s got w hD
  generalize dateP s.data.toList got = r at *
  obtain ⟨t, er⟩ := r
  simp only at k1 ⊢
  have K1 := Lib.hid k1; clear k1 hD
  go_enter Tryz.func100, Tryz.ntmps100
  go_wp2_with fail
  (with_reducible refine K1.out.mono ?_)
  rintro e w1 ⟨rfl, hb1⟩
  go_wp2
  go_ret
  exact ⟨rfl, hb1⟩

/-- The list that add appends to, in a block of its own. -/
def OutF (T : Nat) (fs : List Fld) (w : World) : Prop := ∃ v, w.heap[T]? = some (.cells #[v] 22 (0, 0)) ∧ OwnF (T + 1) v fs w
theorem OutF.lt {T : Nat} {fs : List Fld} {w : World} (h : OutF T fs w) : T < w.heap.size := by
  obtain ⟨v, h, _⟩ := h
  rcases Nat.lt_or_ge T w.heap.size with h' | h'
  · exact h'
  · simp [Array.getElem?_eq_none h'] at h
theorem OutF.below {T : Nat} {fs : List Fld} {w w' : World} (h : OutF T fs w) (hb : Below w.heap.size w w') : OutF T fs w' := by
  have hl := h.lt
  obtain ⟨v, h1, h2⟩ := h
  exact ⟨v, (hb.block T hl).trans h1, h2.below hb⟩
/-- What add adds. -/
def askP (xs : List Fld) (name frm : List UInt8) (q : List UInt8 → Bool) : List Fld := bif (getL xs frm).2 && q (getL xs frm).1 then [(name, (getL xs frm).1)] else []
set_option maxHeartbeats 4000000 in
theorem addE_any (E T : Nat) (name frm : ByteArray) (q : List UInt8 → Bool) (A : Option Addr) (n c : Nat) (xs fs : List Fld) (w : World) (ho : OutF T fs w) (hE : w.cell? ⟨E, 3, none⟩ = some (.slice A n c)) (hr : Rd A n 2 (fldsV xs) w) (hn : n ≤ 1000000) (hs : sumF xs ≤ 1000000) (hf : frm.size ≤ 1000000) (hfs : fs.length ≤ 1000)
    (hq : ∀ W, Below w.heap.size w W → Calls Tryz.prog 98 #[.string ⟨(getL xs frm.data.toList).1.toArray⟩] W fun e w' => e = .returned (.bool (q (getL xs frm.data.toList).1)) ∧ Below W.heap.size W w') :
    Calls Tryz.prog 97 #[.string name, .string frm, .func (.func 98) #[] #[], .pointer (some ⟨E, 0, none⟩), .pointer (some ⟨T, 0, none⟩)] w fun e w' => e = .returned (.tuple #[]) ∧ OutF T (fs ++ askP xs name.data.toList frm.data.toList q) w' ∧ Below T w w' := by
  have hTw := ho.lt
  have k1 := get_any A n c xs frm w hr hn hs hf
  unfold askP
  unfold getV at k1
  generalize getL xs frm.data.toList = g at *
  obtain ⟨gv, gi⟩ := g
  simp only at k1 hq ⊢
  have K1 := Lib.hid k1; have HQ := Lib.hid hq; have HO := Lib.hid ho
  clear k1 hq ho hr hs
  cases gi
  · go_enter Tryz.func97, Tryz.ntmps97
    go_wp2_with fail
    (with_reducible refine K1.out.mono ?_)
    rintro e w1 ⟨rfl, hb1⟩
    clear HQ K1
    go_wp2
    go_end0
    exact ⟨rfl, by simpa using HO.out.below hb1, hb1.mono (Nat.le_of_lt hTw)⟩
  · cases hqv : q gv
    all_goals
      rw [hqv] at HQ
      go_enter Tryz.func97, Tryz.ntmps97
      go_wp2_with fail
      (with_reducible refine K1.out.mono ?_)
      rintro e w1 ⟨rfl, hb1⟩
      have k2 := HQ.out w1 hb1
      have K2 := Lib.hid k2
      clear k2 HQ K1
      go_wp2_with fail
      (with_reducible refine K2.out.mono ?_)
      rintro e w2 ⟨rfl, hb2⟩
      have hb12 := bt hb1 hb2
      have ho2 := HO.out.below hb12
      clear K2 HO hb1 hb2
    · go_wp2
      go_end0
      exact ⟨rfl, by simpa using ho2, hb12.mono (Nat.le_of_lt hTw)⟩
    · obtain ⟨v, h1, h2⟩ := ho2
      obtain ⟨va, vc, rfl⟩ := h2.shape
      have e0 : w2.cell? ⟨T, 0, none⟩ = some (.slice va fs.length vc) := (of_heap h1 0).1
      have e1 : w2.frozen? ⟨T, 0, none⟩ = false := (of_heap h1 0).2.1
      have hT2 := Nat.lt_of_lt_of_le hTw hb12.size
      have H1 := Lib.hid h1; have H2 := Lib.hid h2
      clear h1 h2
      obtain ⟨nm, rfl⟩ : ∃ y : List UInt8, name = ⟨y.toArray⟩ := ⟨name.data.toList, (str_of name).symm⟩
      go_wp2_with (at_builtin; refine app_fld (T + 1) (nm, gv) H2.out (by omega) (by omega) rfl _ _ rfl rfl rfl ?_)
      intro v' w3 hO' hb' hfar'
      obtain ⟨va', vc', rfl⟩ := hO'.shape
      have t0 := (hb'.cell (p := ⟨T, 0, none⟩) (Nat.lt_succ_self T)).trans e0
      have t1 := (hb'.frozen (p := ⟨T, 0, none⟩) (Nat.lt_succ_self T)).trans e1
      have h3 := (hb'.block T (Nat.lt_succ_self T)).trans H1.out
      rw [List.length_append, List.length_singleton] at hO'
      have HO3 := Lib.hid hO'; have H3 := Lib.hid h3; have HB := Lib.hid ((hb12.mono (Nat.le_of_lt hTw)).trans (hb'.mono (Nat.le_succ T)))
      clear hO' h3 hb' hb12 hfar' H1 H2 e0 e1
      go_wp2
      go_end0
      refine ⟨rfl, ⟨_, heap_set H3.out, ?_⟩, HB.out.setCell (p := ⟨T, 0, none⟩) (Nat.le_refl T) _⟩
      exact ownsRow_setCell_below (a := ⟨T, 0, none⟩) HO3.out (Nat.lt_succ_self T) _
set_option maxHeartbeats 4000000 in
theorem addD_any (E T : Nat) (name frm : ByteArray) (q : List UInt8 → Bool) (A : Option Addr) (n c : Nat) (xs fs : List Fld) (w : World) (ho : OutF T fs w) (hE : w.cell? ⟨E, 3, none⟩ = some (.slice A n c)) (hr : Rd A n 2 (fldsV xs) w) (hn : n ≤ 1000000) (hs : sumF xs ≤ 1000000) (hf : frm.size ≤ 1000000) (hfs : fs.length ≤ 1000)
    (hq : ∀ W, Below w.heap.size w W → Calls Tryz.prog 100 #[.string ⟨(getL xs frm.data.toList).1.toArray⟩, .pointer (some ⟨E, 0, none⟩)] W fun e w' => e = .returned (.bool (q (getL xs frm.data.toList).1)) ∧ Below W.heap.size W w') :
    Calls Tryz.prog 97 #[.string name, .string frm, .func (.func 100) #[] #[.pointer (some ⟨E, 0, none⟩)], .pointer (some ⟨E, 0, none⟩), .pointer (some ⟨T, 0, none⟩)] w fun e w' => e = .returned (.tuple #[]) ∧ OutF T (fs ++ askP xs name.data.toList frm.data.toList q) w' ∧ Below T w w' := by
  have hTw := ho.lt
  have k1 := get_any A n c xs frm w hr hn hs hf
  unfold askP
  unfold getV at k1
  generalize getL xs frm.data.toList = g at *
  obtain ⟨gv, gi⟩ := g
  simp only at k1 hq ⊢
  have K1 := Lib.hid k1; have HQ := Lib.hid hq; have HO := Lib.hid ho
  clear k1 hq ho hr hs
  cases gi
  · go_enter Tryz.func97, Tryz.ntmps97
    go_wp2_with fail
    (with_reducible refine K1.out.mono ?_)
    rintro e w1 ⟨rfl, hb1⟩
    clear HQ K1
    go_wp2
    go_end0
    exact ⟨rfl, by simpa using HO.out.below hb1, hb1.mono (Nat.le_of_lt hTw)⟩
  · cases hqv : q gv
    all_goals
      rw [hqv] at HQ
      go_enter Tryz.func97, Tryz.ntmps97
      go_wp2_with fail
      (with_reducible refine K1.out.mono ?_)
      rintro e w1 ⟨rfl, hb1⟩
      have k2 := HQ.out w1 hb1
      have K2 := Lib.hid k2
      clear k2 HQ K1
      go_wp2_with fail
      (with_reducible refine K2.out.mono ?_)
      rintro e w2 ⟨rfl, hb2⟩
      have hb12 := bt hb1 hb2
      have ho2 := HO.out.below hb12
      clear K2 HO hb1 hb2
    · go_wp2
      go_end0
      exact ⟨rfl, by simpa using ho2, hb12.mono (Nat.le_of_lt hTw)⟩
    · obtain ⟨v, h1, h2⟩ := ho2
      obtain ⟨va, vc, rfl⟩ := h2.shape
      have e0 : w2.cell? ⟨T, 0, none⟩ = some (.slice va fs.length vc) := (of_heap h1 0).1
      have e1 : w2.frozen? ⟨T, 0, none⟩ = false := (of_heap h1 0).2.1
      have hT2 := Nat.lt_of_lt_of_le hTw hb12.size
      have H1 := Lib.hid h1; have H2 := Lib.hid h2
      clear h1 h2
      obtain ⟨nm, rfl⟩ : ∃ y : List UInt8, name = ⟨y.toArray⟩ := ⟨name.data.toList, (str_of name).symm⟩
      go_wp2_with (at_builtin; refine app_fld (T + 1) (nm, gv) H2.out (by omega) (by omega) rfl _ _ rfl rfl rfl ?_)
      intro v' w3 hO' hb' hfar'
      obtain ⟨va', vc', rfl⟩ := hO'.shape
      have t0 := (hb'.cell (p := ⟨T, 0, none⟩) (Nat.lt_succ_self T)).trans e0
      have t1 := (hb'.frozen (p := ⟨T, 0, none⟩) (Nat.lt_succ_self T)).trans e1
      have h3 := (hb'.block T (Nat.lt_succ_self T)).trans H1.out
      rw [List.length_append, List.length_singleton] at hO'
      have HO3 := Lib.hid hO'; have H3 := Lib.hid h3; have HB := Lib.hid ((hb12.mono (Nat.le_of_lt hTw)).trans (hb'.mono (Nat.le_succ T)))
      clear hO' h3 hb' hb12 hfar' H1 H2 e0 e1
      go_wp2
      go_end0
      refine ⟨rfl, ⟨_, heap_set H3.out, ?_⟩, HB.out.setCell (p := ⟨T, 0, none⟩) (Nat.le_refl T) _⟩
      exact ownsRow_setCell_below (a := ⟨T, 0, none⟩) HO3.out (Nat.lt_succ_self T) _
/-- What is asked about an entry. -/
def askL (xs : List Fld) (got : Int) : List Fld :=
  askP xs [73, 102, 45, 78, 111, 110, 101, 45, 77, 97, 116, 99, 104] [101, 116, 97, 103] (fun v => (ent ⟨v.toArray⟩).right) ++ askP xs [73, 102, 45, 77, 111, 100, 105, 102, 105, 101, 100, 45, 83, 105, 110, 99, 101] [108, 97, 115, 116, 45, 109, 111, 100, 105, 102, 105, 101, 100] (fun v => (dateP v got).2 == 0)
theorem askP_len (xs : List Fld) (a b : List UInt8) (q : List UInt8 → Bool) : (askP xs a b q).length ≤ 1 := by
  unfold askP; cases (getL xs b).2 && q (getL xs b).1 <;> simp
set_option maxHeartbeats 8000000 in
theorem ask_any (st mi asked got : Int) (re bo : ByteArray) (A V : Option Addr) (n c m d : Nat) (xs : List Fld) (w : World) (hD : DEnv w) (hr : Rd A n 2 (fldsV xs) w) (hn : n ≤ 100) (hs : sumF xs ≤ 7000) :
    Calls Tryz.prog 46 #[.agg #[.int .i64 st, .string re, .int .i64 mi, .slice A n c, .string bo, .int .i64 asked, .int .i64 got, .slice V m d]] w (FieldsPost w (askL xs got)) := by
  obtain ⟨W0, hW0⟩ : ∃ W0, w.alloc (.cells #[.int .i64 st, .string re, .int .i64 mi, .slice A n c, .string bo, .int .i64 asked, .int .i64 got, .slice V m d] 26) = W0 := ⟨_, rfl⟩
  have b0 : Below w.heap.size w W0 := by rw [← hW0]; exact (Below.refl w.heap.size w).alloc (Nat.le_refl _) _
  have c0 : W0.cell? ⟨w.heap.size, 3, none⟩ = some (.slice A n c) := by rw [← hW0]; exact World.cell?_alloc_mark w _ _ _ 3
  have d0 : W0.cell? ⟨w.heap.size, 6, none⟩ = some (.int .i64 got) := by rw [← hW0]; exact World.cell?_alloc_mark w _ _ _ 6
  have z0 : W0.heap.size = w.heap.size + 1 := by rw [← hW0]; simp
  obtain ⟨W1, hW1⟩ : ∃ W1, W0.alloc (.cells #[.slice none 0 0] 22) = W1 := ⟨_, rfl⟩
  have b1 : Below W0.heap.size W0 W1 := by rw [← hW1]; exact (Below.refl _ W0).alloc (Nat.le_refl _) _
  have z1 : W1.heap.size = w.heap.size + 2 := by rw [← hW1]; simp [z0]
  have o1 : OutF (w.heap.size + 1) [] W1 := by
    rw [← hW1]
    exact ⟨_, heap_new W0 _ _ z0, OwnF.nil _ _⟩
  have c1 := (b1.cell (p := ⟨w.heap.size, 3, none⟩) (by show w.heap.size < W0.heap.size; omega)).trans c0
  have d1 := (b1.cell (p := ⟨w.heap.size, 6, none⟩) (by show w.heap.size < W0.heap.size; omega)).trans d0
  have hB1 : Below w.heap.size w W1 := bt b0 b1
  have hxn := hr.fld
  have hgb := fun nm : List UInt8 => getL_le xs nm
  have k1 := addE_any w.heap.size (w.heap.size + 1) ⟨#[73, 102, 45, 78, 111, 110, 101, 45, 77, 97, 116, 99, 104]⟩ ⟨#[101, 116, 97, 103]⟩ (fun v => (ent ⟨v.toArray⟩).right) A n c xs [] W1 o1 c1 (hr.below hB1) (by omega) (by omega) (by decide) (by simp)
    (fun W hb => ask2_any _ W (by rw [Lib.size_eq]; have := hgb [101, 116, 97, 103]; show (getL xs [101, 116, 97, 103]).1.length ≤ 8000; omega))
  have k2 := fun (W : World) (hb : Below (w.heap.size + 1) W1 W) (fs : List Fld) (hf : fs.length ≤ 1) (ho : OutF (w.heap.size + 1) fs W) => addD_any w.heap.size (w.heap.size + 1) ⟨#[73, 102, 45, 77, 111, 100, 105, 102, 105, 101, 100, 45, 83, 105, 110, 99, 101]⟩ ⟨#[108, 97, 115, 116, 45, 109, 111, 100, 105, 102, 105, 101, 100]⟩ (fun v => (dateP v got).2 == 0) A n c xs fs W ho
    ((hb.cell (p := ⟨w.heap.size, 3, none⟩) (Nat.lt_succ_self _)).trans c1) (hr.below (hB1.trans (hb.mono (Nat.le_succ _)))) (by omega) (by omega) (by decide) (by omega)
    (fun Y hy => by
      have hw : Below w.heap.size w Y := bt (hB1.trans (hb.mono (Nat.le_succ _))) hy
      exact ask3_any _ w.heap.size got Y (hD.below hw) ((hy.cell (p := ⟨w.heap.size, 6, none⟩) (by have := hb.size; show w.heap.size < W.heap.size; omega)).trans ((hb.cell (p := ⟨w.heap.size, 6, none⟩) (Nat.lt_succ_self _)).trans d1)))
  have hl := askP_len xs [73, 102, 45, 78, 111, 110, 101, 45, 77, 97, 116, 99, 104] [101, 116, 97, 103] fun v => (ent ⟨v.toArray⟩).right
  have HB1 := Lib.hid hB1; have HW := Lib.hid hW0; have HW1 := Lib.hid hW1; have K1 := Lib.hid k1; have K2 := Lib.hid k2; have HL := Lib.hid hl
  unfold askL
  generalize (askP xs [73, 102, 45, 78, 111, 110, 101, 45, 77, 97, 116, 99, 104] [101, 116, 97, 103] fun v => (ent ⟨v.toArray⟩).right) = p1 at *
  generalize (askP xs [73, 102, 45, 77, 111, 100, 105, 102, 105, 101, 100, 45, 83, 105, 110, 99, 101] [108, 97, 115, 116, 45, 109, 111, 100, 105, 102, 105, 101, 100] fun v => (dateP v got).2 == 0) = p2 at *
  clear hB1 hW0 hW1 k1 k2 hl hgb hxn c1 d1 o1 b1 c0 d0 b0 hr hs hD
  go_enter Tryz.func46, Tryz.ntmps46
  go_wp2_with fail
  rw [HW.out, HW1.out]
  (with_reducible refine K1.out.mono ?_)
  rintro e w1 ⟨rfl, ho1, hb1⟩
  simp only [List.nil_append] at ho1
  have k3 := K2.out w1 hb1 _ HL.out ho1
  have K3 := Lib.hid k3
  clear k3 ho1 K1 K2
  go_wp2_with fail
  (with_reducible refine K3.out.mono ?_)
  rintro e w2 ⟨rfl, ho2, hb2⟩
  obtain ⟨v, h1, h2⟩ := ho2
  obtain ⟨va, vc, rfl⟩ := h2.shape
  obtain ⟨e0, e1, e2⟩ := of_heap h1 0
  have hB2 : Below w.heap.size w w2 := HB1.out.trans ((hb1.mono (Nat.le_succ _)).trans (hb2.mono (Nat.le_succ _)))
  clear K3 HL hb1 hb2
  have e0' : w2.cell? ⟨w.heap.size + 1, 0, none⟩ = some (.slice va (p1 ++ p2).length vc) := e0
  have hF : FieldsPost w (p1 ++ p2) (.returned (.slice va (p1 ++ p2).length vc)) (w2.setCell ⟨w.heap.size + 1, 0, none⟩ (.slice va (p1 ++ p2).length vc)) :=
    ⟨va, vc, rfl, OwnF.base (ownsRow_setCell_below (a := ⟨w.heap.size + 1, 0, none⟩) h2 (Nat.lt_succ_self _) _) (by omega), hB2.setCell (p := ⟨w.heap.size + 1, 0, none⟩) (Nat.le_succ _) _⟩
  rw [List.length_append] at hF e0'
  have HF := Lib.hid hF
  clear h1 h2 e0 hF hB2 HW HW1 HB1
  go_wp2_with fail
  refine bodyPost_ret_by (v := .slice va (p1.length + p2.length) vc) ?_ rfl HF.out
  rw [results_cell_one rfl]
  go_simp
end Go.Proofs.YtgmmjhcklhajiaaGreatDoor
/- May a field be: the plain law and the walks. -/
namespace Go.Proofs.YtgmmjhcklhajiaaGreatDoor
open Go.RowKit
set_option maxRecDepth 100000

def fvalb (c : UInt8) : Bool := !((decide (c.toNat < 32) && c.toNat != 9) || c.toNat == 127)
def fvalL (v : List UInt8) : Bool := v.all fvalb && (trimL v == v)
def mayL (f : Fld) : Bool := tokenL f.1 && fvalL f.2

theorem fval_no {c : UInt8} (h : fvalb c = false) : (decide ((c.toNat : Int) < 32) = true ∧ ((c.toNat : Int) != 9) = true ∧ ((c.toNat : Int) == 127) = false) ∨ (decide ((c.toNat : Int) < 32) = false ∧ ((c.toNat : Int) == 127) = true) := by
  simp [fvalb] at h
  by_cases h2 : (c.toNat : Int) = 127
  · right; simp; omega
  · left; simp; omega
theorem fval_yes {c : UInt8} (h : fvalb c = true) : ((c.toNat : Int) == 127) = false ∧ ((decide ((c.toNat : Int) < 32) = true ∧ ((c.toNat : Int) != 9) = false) ∨ decide ((c.toNat : Int) < 32) = false) := by
  simp [fvalb] at h
  refine ⟨by simp; omega, ?_⟩
  by_cases h2 : (c.toNat : Int) < 32
  · left; simp; omega
  · right; simp; omega

set_option maxHeartbeats 2000000 in
theorem fvalue_any (s : ByteArray) (w : World) (hs : s.size ≤ 1000000) :
    Calls Tryz.prog 196 #[.string s] w fun e w' => e = .returned (.bool (fvalL s.data.toList)) ∧ Below w.heap.size w w' := by
  have hB : ∀ k (h : k < s.size), fvalb s[k] = false → fvalL s.data.toList = false := by
    intro k h hk; unfold fvalL; rw [all_bad fvalb s k h hk]; rfl
  have hQ : ∀ k, (s.data.toList.take k).all fvalb = true → s.size ≤ k → fvalL s.data.toList = (trimL s.data.toList == s.data.toList) := by
    intro k h hk; rw [take_all s k hk] at h; unfold fvalL; rw [h]; rfl
  have hT := fun w => trim_any s w hs
  have HB := Lib.hid hB; have HQ := Lib.hid hQ; have HT := Lib.hid hT
  clear hB hQ hT
  generalize fvalL s.data.toList = out at *
  generalize trimL s.data.toList = tl at *
  have hbb := Below.refl w.heap.size w
  go_enter Tryz.func196, Tryz.ntmps196
  go_wp2
  go_loop [7] (fun i => ∃ k : Nat, k ≤ s.size ∧ i = .int .i64 k ∧ Hid ((s.data.toList.take k).all fvalb = true)) (fun i => s.size - (intOf i).toNat)
  case atStart => exact ⟨0, Nat.zero_le _, rfl, by show _ = _; simp⟩
  case round =>
    obtain ⟨k, hk, rfl, Hall⟩ := hrel
    by_cases hlt : k < s.size
    · cases hp : fvalb s[k]
      · have hf := HB.out k hlt hp
        have Hf := Lib.hid hf; clear hf
        rcases fval_no hp with ⟨c1, c2, c3⟩ | ⟨c1, c3⟩
        all_goals
          clear hp
          go_wp2
          go_ret
          exact ⟨by rw [Hf.out]; rfl, hbb⟩
      · have hn : (s.data.toList.take (k + 1)).all fvalb = true := by rw [all_snoc fvalb s k hlt, Hall.out, hp]; rfl
        have Hn := Lib.hid hn; clear hn
        obtain ⟨c3, ⟨c1, c2⟩ | c1⟩ := fval_yes hp
        all_goals
          clear hp
          go_wp2
          go_round
          case rel => exact ⟨k + 1, by omega, by go_num, Hn⟩
          case measure => simp [intOf]; omega
    · have hf := HQ.out k Hall.out (by omega)
      have Hf := Lib.hid hf; clear hf
      go_wp2_with fail
      refine (HT.out _).mono ?_
      rintro e w1 ⟨rfl, hb1⟩
      go_wp2
      go_ret
      exact ⟨by rw [Hf.out]; simp [Lib.toList_data], hb1⟩

set_option maxHeartbeats 2000000 in
theorem fmay_any (n v : ByteArray) (w : World) (hn : n.size ≤ 1000000) (hv : v.size ≤ 1000000) :
    Calls Tryz.prog 154 #[.agg #[.string n, .string v]] w fun e w' => e = .returned (.bool (mayL (n.data.toList, v.data.toList))) ∧ Below w.heap.size w w' := by
  have k1 := fun w => token_any n w hn
  have k2 := fun w => fvalue_any v w hv
  unfold mayL
  simp only
  generalize tokenL n.data.toList = t at *
  generalize fvalL v.data.toList = f at *
  have K1 := Lib.hid k1; have K2 := Lib.hid k2; clear k1 k2
  have hB : Below w.heap.size w (w.alloc (.cells #[.string n, .string v] 55)) := (Below.refl w.heap.size w).alloc (Nat.le_refl _) _
  cases t
  · go_enter Tryz.func154, Tryz.ntmps154
    go_wp2_with fail
    refine (K1.out _).mono ?_
    rintro e w1 ⟨rfl, rfl⟩
    go_wp2
    go_ret
    exact ⟨rfl, hB⟩
  · go_enter Tryz.func154, Tryz.ntmps154
    go_wp2_with fail
    refine (K1.out _).mono ?_
    rintro e w1 ⟨rfl, rfl⟩
    go_wp2_with fail
    refine (K2.out _).mono ?_
    rintro e w1 ⟨rfl, hb1⟩
    go_wp2
    go_ret
    exact ⟨by simp, hB.trans (hb1.mono (by simp))⟩
end Go.Proofs.YtgmmjhcklhajiaaGreatDoor
/- The fields of a text: the plain law. -/
namespace Go.Proofs.YtgmmjhcklhajiaaGreatDoor

def crlf : List UInt8 := [13, 10]
def oneF (l : List UInt8) : Fld := ((Lib.cut l [58]).1, trimL (Lib.cut l [58]).2.1)
def longL (f : Fld) : Bool := decide (2048 < f.1.length + 2 + f.2.length)
/-- Why a line is no field. -/
def oneE (l : List UInt8) : Int := bif decide (2048 < l.length) then 3 else bif (!(Lib.cut l [58]).2.2) || !mayL (oneF l) then 4 else bif longL (oneF l) then 3 else 0
def parF : Nat → List UInt8 → List Fld → List Fld × Int
  | 0, _, acc => (acc, 0)
  | n + 1, s, acc => bif s.isEmpty then (acc, 0) else bif !(Lib.cut s crlf).2.2 then ([], 4) else bif acc.length == 64 then ([], 3) else
    bif oneE (Lib.cut s crlf).1 != 0 then ([], oneE (Lib.cut s crlf).1) else parF n (Lib.cut s crlf).2.1 (acc ++ [oneF (Lib.cut s crlf).1])
def parR (s : List UInt8) (acc : List Fld) : List Fld × Int := parF (s.length + 1) s acc
def parseL (s : List UInt8) : List Fld × Int := parR s []

theorem cut_yes {s sep : List UInt8} (h : (Lib.cut s sep).2.2 = true) : (Lib.cut s sep).1.length + sep.length + (Lib.cut s sep).2.1.length = s.length ∧ 0 ≤ Lib.index s sep := by
  unfold Lib.cut at *
  by_cases h0 : 0 ≤ Lib.index s sep
  · have h1 := Lib.index_room s sep h0
    rw [if_pos h0] at *
    refine ⟨?_, h0⟩
    simp; omega
  · rw [if_neg h0] at h; cases h
theorem cut_le (s sep : List UInt8) : (Lib.cut s sep).1.length ≤ s.length ∧ (Lib.cut s sep).2.1.length ≤ s.length := by
  unfold Lib.cut
  by_cases h0 : 0 ≤ Lib.index s sep
  · rw [if_pos h0]; simp; omega
  · rw [if_neg h0]; simp
theorem parF_fuel : ∀ (n m : Nat) (s : List UInt8) (acc : List Fld), s.length < n → s.length < m → parF n s acc = parF m s acc
  | 0, _, _, _, h, _ => absurd h (by omega)
  | _ + 1, 0, _, _, _, h => absurd h (by omega)
  | n + 1, m + 1, s, acc, h1, h2 => by
    unfold parF
    cases hs : s.isEmpty <;> simp only [cond_true, cond_false]
    cases hc : (Lib.cut s crlf).2.2 <;> simp only [Bool.not_true, Bool.not_false, cond_true, cond_false]
    have h3 := (cut_yes hc).1
    have h4 : crlf.length = 2 := rfl
    rw [parF_fuel n m _ _ (by omega) (by omega)]
theorem parR_nil (acc : List Fld) : parR [] acc = (acc, 0) := rfl
theorem parR_step (s : List UInt8) (acc : List Fld) (hs : s.isEmpty = false) : parR s acc = bif !(Lib.cut s crlf).2.2 then ([], 4) else bif acc.length == 64 then ([], 3) else
    bif oneE (Lib.cut s crlf).1 != 0 then ([], oneE (Lib.cut s crlf).1) else parR (Lib.cut s crlf).2.1 (acc ++ [oneF (Lib.cut s crlf).1]) := by
  conv => lhs; unfold parR parF
  rw [hs, cond_false]
  cases hc : (Lib.cut s crlf).2.2 <;> simp only [Bool.not_true, Bool.not_false, cond_true, cond_false]
  have h3 := (cut_yes hc).1
  have h4 : crlf.length = 2 := rfl
  unfold parR
  rw [parF_fuel s.length _ _ _ (by omega) (Nat.lt_succ_self _)]
end Go.Proofs.YtgmmjhcklhajiaaGreatDoor
/- strings.Cut. -/
namespace Go.Proofs.YtgmmjhcklhajiaaGreatDoor
open Go.RowKit
set_option maxRecDepth 100000

theorem cut_any (s sep : ByteArray) (w : World) (h : MaxL w) (hs : s.size ≤ 1000000) :
    Calls Tryz.prog 180 #[.string s, .string sep] w fun e w' => e = .returned (.tuple #[.string ⟨(Lib.cut s.data.toList sep.data.toList).1.toArray⟩, .string ⟨(Lib.cut s.data.toList sep.data.toList).2.1.toArray⟩, .bool (Lib.cut s.data.toList sep.data.toList).2.2]) ∧ Below w.heap.size w w' := by
  obtain ⟨_, m, hm⟩ := h
  refine (Tryz.strings_Cut s sep m w (by omega) hm).mono ?_
  rintro e w' ⟨rfl, n, rfl⟩
  exact ⟨rfl, Go.below_drewN (Below.refl _ _) _⟩

end Go.Proofs.YtgmmjhcklhajiaaGreatDoor
/- The walk of fields.Parse. -/
namespace Go.Proofs.YtgmmjhcklhajiaaGreatDoor
open Go.RowKit
set_option maxRecDepth 100000

def szOf : Value → Nat
  | .string b => b.size
  | _ => 0
/-- Fields and a reason, handed back. -/
def FErrPost (w : World) (r : List Fld × Int) (e : Ending) (w' : World) : Prop :=
  ∃ a cap, e = .returned (.tuple #[.slice a r.1.length cap, .int .i64 r.2]) ∧ OwnF w.heap.size (.slice a r.1.length cap) r.1 w' ∧ Below w.heap.size w w'
theorem FErrPost.none {w w' : World} {n : Int} (h : Below w.heap.size w w') : FErrPost w ([], n) (.returned (.tuple #[.slice none 0 0, .int .i64 n])) w' :=
  ⟨Option.none, 0, rfl, OwnF.nil _ _, h⟩

set_option maxHeartbeats 2000000 in
theorem line_any (n v : ByteArray) (w : World) (hn : n.size ≤ 1000000) (hv : v.size ≤ 1000000) :
    Calls Tryz.prog 104 #[.agg #[.string n, .string v]] w fun e w' => e = .returned (.string ⟨(n.data.toList ++ ([58, 32] ++ v.data.toList)).toArray⟩) ∧ Below w.heap.size w w' := by
  have hB : Below w.heap.size w (w.alloc (.cells #[.string n, .string v] 55)) := (Below.refl w.heap.size w).alloc (Nat.le_refl _) _
  have he : (n ++ ⟨#[58, 32]⟩ : ByteArray) ++ v = ⟨(n.data.toList ++ ([58, 32] ++ v.data.toList)).toArray⟩ := by
    apply str_eq; simp [ByteArray.data_append]
  rw [← he]; clear he
  go_enter Tryz.func104, Tryz.ntmps104
  go_wp2
  go_ret
  exact ⟨rfl, hB⟩

theorem one_len (l : List UInt8) : (oneF l).1.length ≤ l.length ∧ (oneF l).2.length ≤ l.length := by
  have h := cut_le l [58]
  have h2 := trimL_le (Lib.cut l [58]).2.1
  unfold oneF
  exact ⟨h.1, by simp only; omega⟩

end Go.Proofs.YtgmmjhcklhajiaaGreatDoor
/- The document's word on whether a field may be. -/
namespace Go.Proofs.YtgmmjhcklhajiaaGreatDoor
open Go.RowKit
set_option maxRecDepth 100000

theorem trim_head {c : UInt8} {r : List UInt8} (h : trimL (c :: r) = c :: r) : blanks.contains c = false := by
  unfold trimL Lib.trimS Lib.trimLeftS at h
  cases hb : blanks.contains c
  · rfl
  · exfalso
    have h2 : ∀ l : List UInt8, l.dropWhile (blanks.contains ·) = c :: r → False := by
      intro l
      induction l with
      | nil => intro h; cases h
      | cons x y ih =>
        intro h
        cases hx : blanks.contains x
        · rw [List.dropWhile_cons_of_neg (by rw [hx]; decide)] at h
          cases h; rw [hb] at hx; cases hx
        · rw [List.dropWhile_cons_of_pos hx] at h
          exact ih h
    exact h2 _ h
theorem trim_last {c : UInt8} {r : List UInt8} (h : trimL (r ++ [c]) = r ++ [c]) : blanks.contains c = false := by
  unfold trimL Lib.trimS Lib.trimLeftS Lib.trimRightS at h
  cases hb : blanks.contains c
  · rfl
  · exfalso
    have e : (r ++ [c]).reverse = c :: r.reverse := by simp
    rw [e, List.dropWhile_cons_of_pos (by exact hb)] at h
    have h1 := congrArg List.length h
    have h2 := (List.dropWhile_sublist (blanks.contains ·) (l := (r.reverse.dropWhile (blanks.contains ·)).reverse)).length_le
    have h3 := (List.dropWhile_sublist (blanks.contains ·) (l := r.reverse)).length_le
    simp at h1 h2 h3
    omega
/-- A blank at either end: no value. -/
theorem fval_edge (s : ByteArray) (k : Nat) (h : k < s.size) (he : k = 0 ∨ k = s.size - 1) (hb : blanks.contains s[k] = true) : fvalL s.data.toList = false := by
  unfold fvalL
  have : (trimL s.data.toList == s.data.toList) = false := by
    rw [beq_eq_false_iff_ne]
    intro ht
    have hl : k < s.data.toList.length := by rw [← Lib.size_eq]; exact h
    have hk : s[k] = s.data.toList[k] := at_list s k h
    rw [hk] at hb
    have hsz := Lib.size_eq s
    clear hk
    rcases he with rfl | rfl
    · generalize s.data.toList = l at *
      cases l with
      | nil => simp at hl
      | cons c r =>
        have := trim_head ht
        simp only [List.getElem_cons_zero] at hb
        rw [hb] at this; cases this
    · generalize s.data.toList = l at *
      rcases List.eq_nil_or_concat l with rfl | ⟨r, c, rfl⟩
      · simp at hl
      · rw [List.concat_eq_append] at ht hsz
        have := trim_last ht
        have he : (r.concat c)[s.size - 1] = c := by
          rw [List.length_append, List.length_singleton] at hsz
          simp only [List.concat_eq_append]
          rw [List.getElem_append_right (by omega)]
          simp
        rw [he, this] at hb; cases hb
  rw [this, Bool.and_false]
theorem fval_edges (s : ByteArray) (h : s.data.toList.all fvalb = true) (h1 : ∀ k (h : k < s.size), (k = 0 ∨ k = s.size - 1) → blanks.contains s[k] = false) : fvalL s.data.toList = true := by
  unfold fvalL
  rw [h]
  by_cases h0 : 0 < s.size
  · have hc := trim_cut s 0 s.size (Nat.zero_le _) (Nat.le_refl _) (fun j _ hj => absurd hj (by omega)) (fun hs _ => h1 0 hs (Or.inl rfl)) (fun j hj hj2 => absurd hj2 (by omega)) (fun _ hj => h1 _ hj (Or.inr rfl))
    have he : s.extract 0 s.size = s := by simp
    rw [he] at hc
    have := congrArg (fun b : ByteArray => b.data.toList) hc
    simp only at this
    rw [← this]; simp
  · have : s.data.toList = [] := List.length_eq_zero_iff.1 (by rw [← Lib.size_eq]; omega)
    rw [this]; rfl

theorem blank_yes {c : UInt8} (h : blanks.contains c = true) : ((c.toNat : Int) == 32) = true ∨ (((c.toNat : Int) == 32) = false ∧ ((c.toNat : Int) == 9) = true) := by
  rw [← blank_eq] at h; unfold blankI at h
  cases h1 : ((c.toNat : Int) == 32)
  · right; rw [h1] at h; exact ⟨rfl, by simpa using h⟩
  · left; rfl
theorem blank_no {c : UInt8} (h : blanks.contains c = false) : ((c.toNat : Int) == 32) = false ∧ ((c.toNat : Int) == 9) = false := by
  rw [← blank_eq] at h; unfold blankI at h
  simpa using h

end Go.Proofs.YtgmmjhcklhajiaaGreatDoor
/- The document's word on one line. -/
namespace Go.Proofs.YtgmmjhcklhajiaaGreatDoor
open Go.RowKit
set_option maxRecDepth 100000

theorem occ1 (l : List UInt8) (c : UInt8) (i : Nat) : Lib.occAt l [c] i = (l[i]? == some c) := by
  unfold Lib.occAt
  cases h : l.drop i with
  | nil =>
    have : l[i]? = none := by rw [List.getElem?_eq_none_iff]; have := congrArg List.length h; simp at this; omega
    rw [this]; rfl
  | cons x r =>
    have : l[i]? = some x := by
      have := congrArg (·[0]?) h
      simpa using this
    rw [this]
    simp [List.isPrefixOf]
    rw [Bool.eq_iff_iff]; simp; exact eq_comm
theorem at_opt (s : ByteArray) (j : Nat) (h : j < s.size) : s.data.toList[j]? = some s[j] := by
  rw [at_list s j h]; simp
theorem cut58_hit (s : ByteArray) (k : Nat) (hk : k < s.size) (h : s[k] = 58) (hno : ∀ j (hj : j < s.size), j < k → s[j] ≠ 58) : Lib.cut s.data.toList [58] = (s.data.toList.take k, s.data.toList.drop (k + 1), true) := by
  have hi : Lib.index s.data.toList [58] = k := by
    refine Lib.index_first (by rw [← Lib.size_eq]; omega) (by rw [occ1, at_opt s k hk, h]; rfl) (fun j hj => ?_)
    rw [occ1, at_opt s j (by omega), beq_eq_false_iff_ne]
    intro e; exact hno j (by omega) hj (by injection e)
  unfold Lib.cut
  rw [hi, if_pos (by omega)]
  simp
theorem cut58_miss (s : ByteArray) (hno : ∀ j (hj : j < s.size), s[j] ≠ 58) : Lib.cut s.data.toList [58] = (s.data.toList, [], false) := by
  have hi : Lib.index s.data.toList [58] = -1 := by
    refine Lib.index_none (fun j hj => ?_)
    rw [occ1]
    by_cases hl : j < s.size
    · rw [at_opt s j hl, beq_eq_false_iff_ne]
      intro e; exact hno j hl (by injection e)
    · rw [List.getElem?_eq_none (by rw [← Lib.size_eq]; omega)]; rfl
  unfold Lib.cut
  rw [hi, if_neg (by omega)]

/-- What one line is. -/
def oneV (l : List UInt8) : Value := bif oneE l == 0 then .tuple #[.agg #[.string ⟨(oneF l).1.toArray⟩, .string ⟨(oneF l).2.toArray⟩], .int .i64 0] else .tuple #[.agg #[.string ⟨#[]⟩, .string ⟨#[]⟩], .int .i64 (oneE l)]
end Go.Proofs.YtgmmjhcklhajiaaGreatDoor
/- Which lists of fields may be: the plain law, and both walks. -/
namespace Go.Proofs.YtgmmjhcklhajiaaGreatDoor
open Go.RowKit
set_option maxRecDepth 100000

def chkR : List Fld → Int
  | [] => 0
  | f :: r => bif !mayL f then 4 else bif longL f then 3 else chkR r
def checkL (xs : List Fld) : Int := bif decide (64 < xs.length) then 3 else chkR xs
theorem chkR_drop (xs : List Fld) (k : Nat) (h : k < xs.length) : chkR (xs.drop k) = bif !mayL xs[k] then 4 else bif longL xs[k] then 3 else chkR (xs.drop (k + 1)) := by
  rw [List.drop_eq_getElem_cons h]; rfl
theorem mk_list (l : List UInt8) : (⟨l.toArray⟩ : ByteArray).data.toList = l := by simp
theorem mk_size (l : List UInt8) : (⟨l.toArray⟩ : ByteArray).size = l.length := by rw [Lib.size_eq]

set_option maxHeartbeats 4000000 in
theorem check4_any (A : Option Addr) (n c : Nat) (xs : List Fld) (w : World) (hr : Rd A n 2 (fldsV xs) w) (hn : n ≤ 1000000) (hs : sumF xs ≤ 1000000) :
    Calls Tryz.prog 102 #[.slice A n c] w fun e w' => e = .returned (.int .i64 (checkL xs)) ∧ Below w.heap.size w w' := by
  obtain rfl := hr.fld
  have hB := Below.refl w.heap.size w
  by_cases h64 : xs.length ≤ 64
  · have hT : chkR (xs.drop 0) = checkL xs := by unfold checkL; rw [show decide (64 < xs.length) = false from by simp; omega]; rfl
    have hS := fun f (hf : f ∈ xs) => Nat.le_trans (sumF_mem hf) hs
    have hD := chkR_drop xs
    generalize checkL xs = tot at *
    have HR := Lib.hid hr; have HS := Lib.hid hS; have HD := Lib.hid hD; have HT0 := Lib.hid hT; clear hr hs hS hT hD
    go_enter Tryz.func102, Tryz.ntmps102
    go_wp2
    go_loopw [10] (fun i wr => ∃ k : Nat, k ≤ xs.length ∧ i = .int .i64 k ∧ Below w.heap.size w wr ∧ Hid (chkR (xs.drop k) = tot)) (fun i _ => xs.length - (intOf i).toNat)
    case atStart => exact ⟨0, Nat.zero_le _, rfl, hB, HT0⟩
    case round =>
      clear hB HT0
      obtain ⟨k, hk, rfl, hbw, HT⟩ := hrel
      by_cases hlt : k < xs.length
      · obtain ⟨b, o, rfl, hl, c1, c2⟩ := (HR.out.below hbw).fld_at (k := k) hlt
        have hf := HS.out xs[k] (List.getElem_mem _)
        have ht := HD.out k hlt
        rw [HT.out] at ht
        generalize xs[k] = f at *
        obtain ⟨f1, f2⟩ := f
        simp only at c1 c2 hf
        have k1 := fun w => fmay_any ⟨f1.toArray⟩ ⟨f2.toArray⟩ w (by rw [mk_size]; omega) (by rw [mk_size]; omega)
        have k2 := fun w => line_any ⟨f1.toArray⟩ ⟨f2.toArray⟩ w (by rw [mk_size]; omega) (by rw [mk_size]; omega)
        simp only at k1 k2
        have hlg : longL (f1, f2) = decide (2048 < f1.length + 2 + f2.length) := rfl
        have hln : (⟨(f1 ++ ([58, 32] ++ f2)).toArray⟩ : ByteArray).size = f1.length + 2 + f2.length := by
          rw [mk_size]; simp; omega
        generalize (⟨(f1 ++ ([58, 32] ++ f2)).toArray⟩ : ByteArray) = ln at *
        have K1 := Lib.hid k1; have K2 := Lib.hid k2; clear k1 k2
        have hAl := hbw.alloc hbw.size (.cells #[.string ⟨f1.toArray⟩, .string ⟨f2.toArray⟩] 55)
        cases hm : mayL (f1, f2)
        · rw [hm] at ht K1
          have ht2 : tot = 4 := ht
          subst ht2
          clear HT HD ht hlg hm
          go_wp2_with fail
          refine (K1.out _).mono ?_
          rintro e w1 ⟨rfl, hb1⟩
          go_wp2
          go_ret
          exact ⟨rfl, hAl.trans (hb1.mono hAl.size)⟩
        · rw [hm] at ht K1
          have ht2 : tot = bif longL (f1, f2) then 3 else chkR (xs.drop (k + 1)) := ht
          have HT2 := Lib.hid ht2; have HL := Lib.hid hlg
          clear HT HD ht ht2 hm hlg
          go_wp2_with fail
          refine (K1.out _).mono ?_
          rintro e w1 ⟨rfl, hb1⟩
          have hB1 := hAl.trans (hb1.mono hAl.size)
          have d0 : w1.cell? ⟨wr.heap.size, 0, none⟩ = some (.string ⟨f1.toArray⟩) := (hb1.cell (p := ⟨wr.heap.size, 0, none⟩) (by simp)).trans (World.cell?_alloc_mark wr _ _ _ 0)
          have d1 : w1.cell? ⟨wr.heap.size, 1, none⟩ = some (.string ⟨f2.toArray⟩) := (hb1.cell (p := ⟨wr.heap.size, 1, none⟩) (by simp)).trans (World.cell?_alloc_mark wr _ _ _ 1)
          clear hb1 hAl
          go_wp2_with fail
          refine (K2.out _).mono ?_
          rintro e w2 ⟨rfl, hb2⟩
          have hB2 := bt hB1 hb2
          by_cases hll : ln.size ≤ 2048
          · have hz : longL (f1, f2) = false := by rw [HL.out]; simp; omega
            have ht3 := HT2.out
            rw [hz] at ht3
            have HT3 : Hid (chkR (xs.drop (k + 1)) = tot) := Lib.hid ht3.symm
            clear ht3 hz HT2 HL
            go_wp2_with fail
            go_roundw
            case rel => exact ⟨k + 1, by omega, by go_num, hB2, HT3⟩
            case measure => simp [intOf]; omega
          · have hz : longL (f1, f2) = true := by rw [HL.out]; simp; omega
            have ht3 := HT2.out
            rw [hz] at ht3
            have ht4 : tot = 3 := ht3
            subst ht4
            clear ht3 hz HT2 HL
            go_wp2_with fail
            go_ret
            exact ⟨rfl, hB2⟩
      · have hke : k = xs.length := by omega
        subst hke
        have ht := HT.out
        rw [List.drop_length] at ht
        have ht2 : tot = 0 := ht.symm
        subst ht2
        clear HT HD ht
        go_wp2
        go_ret
        exact ⟨rfl, hbw⟩
  · have hT : checkL xs = 3 := by unfold checkL; rw [show decide (64 < xs.length) = true from by simp; omega]; rfl
    rw [hT]
    clear hT
    go_enter Tryz.func102, Tryz.ntmps102
    go_wp2
    go_ret
    exact ⟨rfl, hB⟩

end Go.Proofs.YtgmmjhcklhajiaaGreatDoor
/- strings.Builder's writers at this seat: the copy check, WriteByte, WriteString. The library's own contracts ask a body of the copy check that is not the one here (its last branch is refused by the loader), so they are walked anew with the library's laws on append. -/
namespace Go.Proofs.YtgmmjhcklhajiaaGreatDoor
open Go.RowKit
set_option maxRecDepth 100000

theorem bSize : (Tryz.prog.info? 127).map (·.size) = some 2 := by kernel_rfl
theorem bLies : liesAt Tryz.prog Tryz.prog.depth 127 (2 / Tryz.prog.cellsOf 127) 0 127 1 = true := by kernel_rfl
theorem bByte : (Tryz.prog.info? 5).map (fun i => (i.zero, i.size, i.bytes)) = some (some (.int .u8 0), 1, 1) := by kernel_rfl

set_option maxHeartbeats 1000000 in
theorem copyCheck_used (b : Nat) (w : World) (h0 : w.cell? ⟨b, 0, none⟩ = some (.pointer (some ⟨b, 0, none⟩))) :
    Calls Tryz.prog 155 #[.pointer (some ⟨b, 0, none⟩)] w fun e w' => e = .returned (.tuple #[]) ∧ w = w' := by
  obtain ⟨j, hj, _⟩ := Option.map_eq_some_iff.1 bSize
  go_enter Tryz.func155, Tryz.ntmps155
  go_wp2
  rw [Lib.run_neq_ptr_same w _ Tryz.underlying124 hj]
  go_wp2
  go_end0
  exact ⟨rfl, rfl⟩

set_option maxHeartbeats 1000000 in
theorem copyCheck_fresh (b : Nat) (w : World) (h0 : w.cell? ⟨b, 0, none⟩ = some (.pointer none)) (hsh : w.shape? b = some (127, 2)) (hfz : w.frozen? ⟨b, 0, none⟩ = false) :
    Calls Tryz.prog 155 #[.pointer (some ⟨b, 0, none⟩)] w fun e w' => e = .returned (.tuple #[]) ∧ w.setCell ⟨b, 0, none⟩ (.pointer (some ⟨b, 0, none⟩)) = w' := by
  obtain ⟨j, hj, hjs⟩ := Option.map_eq_some_iff.1 bSize
  go_enter Tryz.func155, Tryz.ntmps155
  go_wp2
  rw [Lib.run_to_unsafe w ⟨b, 0, none⟩ Tryz.underlying124 Tryz.underlying210 hj (by rw [hjs]; decide) hsh (Nat.zero_lt_succ 1)]
  simp only [Result.andThen]
  rw [Oper.upon_value]
  go_wp2
  rw [run_callFunc_extern Tryz.func197 (by kernel_rfl) (by kernel_rfl) (by kernel_rfl) (e := Extern.AbiNoEscape.same) (by kernel_rfl)]
  rw [Lib.run_noEscape]
  simp only [Result.andThen]
  rw [Oper.upon_value]
  go_wp2
  rw [Lib.run_from_unsafe w ⟨b, 0, none⟩ Tryz.underlying210 Tryz.underlying124 hj hsh bLies]
  simp only [Result.andThen]
  rw [Oper.upon_value]
  go_wp2
  go_end0
  exact ⟨rfl, rfl⟩

/-- A builder in block b, the call's own from B on, that holds these bytes. -/
def IsB (B b : Nat) (l : List UInt8) (w : World) : Prop := Lib.IsBuilderF 127 5 B b (Lib.byteCells l) w

theorem copyCheck_any (B b : Nat) (bs : List Value) (w : World) (h : Lib.IsBuilderF 127 5 B b bs w) :
    Calls Tryz.prog 155 #[.pointer (some ⟨b, 0, none⟩)] w fun e w' => e = .returned (.tuple #[]) ∧ Lib.BuilderAtF 127 5 B b (.pointer (some ⟨b, 0, none⟩)) bs w' ∧ Below B w w' ∧ Lib.OthersKept 5 (some b) w w' := by
  rcases h with h | h
  · refine (copyCheck_fresh b w h.cell0 h.shape h.frozen0).mono ?_
    rintro e w' ⟨rfl, rfl⟩
    exact ⟨rfl, h.used _, (Below.refl B w).setCell (p := ⟨b, 0, none⟩) h.1 _, (Lib.OthersKept.refl _ _ w).setCell ⟨b, 0, none⟩ rfl _⟩
  · refine (copyCheck_used b w h.cell0).mono ?_
    rintro e w' ⟨rfl, rfl⟩
    exact ⟨rfl, h, Below.refl B _, Lib.OthersKept.refl _ _ _⟩

theorem IsB.lt {B b : Nat} {l : List UInt8} {w : World} (h : IsB B b l w) : b < w.heap.size := by
  rcases h with h | h <;> exact h.lt

set_option maxHeartbeats 2000000 in
set_option maxRecDepth 100000 in
theorem writeByte_any (B b : Nat) (l : List UInt8) (c : UInt8) (w : World) (h : IsB B b l w) (hlen : l.length + 1 ≤ 140737488355328) (hBw : B ≤ w.heap.size) :
    Calls Tryz.prog 223 #[.pointer (some ⟨b, 0, none⟩), .int .u8 c.toNat] w fun e w' => e = .returned .nilIface ∧ IsB B b (l ++ [c]) w' ∧ Below B w w' ∧ Lib.OthersKept 5 (some b) w w' := by
  unfold IsB at *
  have hlb := Lib.byteCells_length l
  have hap : Lib.byteCells (l ++ [c]) = Lib.byteCells l ++ [.int .u8 c.toNat] := by rw [Lib.byteCells_append]; rfl
  rw [hap]; clear hap
  generalize Lib.byteCells l = bs at *
  obtain ⟨n, hn⟩ : ∃ n : Int, n = c.toNat := ⟨_, rfl⟩
  rw [← hn]; clear hn
  have Hlb := Lib.hid hlb; clear hlb
  obtain ⟨i0, hi, hz0, hz1, hz2⟩ := info_parts bByte
  go_enter Tryz.func223, Tryz.ntmps223
  go_wp2_with (go_at_call 155; refine (copyCheck_any B b bs _ h).mono ?_)
  rintro e w1 ⟨rfl, h1, hb1, hk1⟩
  obtain ⟨hB, v, hbk, hown, hne⟩ := h1
  have c0 : w1.cell? ⟨b, 0, none⟩ = some (.pointer (some ⟨b, 0, none⟩)) := by rw [Lib.cell_of_heap hbk]; rfl
  have c1 : w1.cell? ⟨b, 1, none⟩ = some v := by rw [Lib.cell_of_heap hbk]; rfl
  go_wp2_with (at_builtin; refine wpList_append_ownF _ rfl _ _ 125 rfl B 5 i0 (.int .u8 0) 1 1 Tryz.underlying125 hi hz0 hz1 hz2 rfl (by decide) _ _ _ rfl (hown.alloc _) ⟨w1.heap.size, 0, none⟩ 1 1 [.int .u8 n] rfl rfl ?c1 ?c2 ?c3 ?c4 ?c5 ?_)
  case c1 =>
    intro j u hj
    match j, hj with
    | 0, hj => simp at hj; subst hj; simp [Addr.add]
  case c2 => intro u hu; simp at hu; subst hu; rfl
  case c3 => have := Hlb.out; unfold maxLen; omega
  case c4 => have := Hlb.out; omega
  case c5 => have := hb1.size; simp; omega
  intro v' w2 hown' hgrow _
  have hlt : b < w1.heap.size := by
    rcases Nat.lt_or_ge b w1.heap.size with h' | h'
    · exact h'
    · simp [Array.getElem?_eq_none h'] at hbk
  have hb2 : w2.heap[b]? = some (.cells #[.pointer (some ⟨b, 0, none⟩), v] 127 (0, 0)) := by
    rw [hgrow.block b (by simp; omega) (fun e => hne e.symm), Lib.alloc_old w1 _ b hlt]
    exact hbk
  have d0 : w2.cell? ⟨b, 0, none⟩ = some (.pointer (some ⟨b, 0, none⟩)) := by rw [Lib.cell_of_heap hb2]; rfl
  have d1 : w2.cell? ⟨b, 1, none⟩ = some v := by rw [Lib.cell_of_heap hb2]; rfl
  have f1 : w2.frozen? ⟨b, 1, none⟩ = false := Lib.frozen_of_heap hb2 1
  obtain ⟨g, cap, rfl⟩ : ∃ g cap, v' = .slice (some ⟨g, 0, none⟩) (bs.length + 1) cap := by
    rcases hown'.2 with ⟨_, h0⟩ | ⟨g, cap, cur, fz, hv, _⟩
    · omega
    · exact ⟨g, cap, hv⟩
  go_wp2
  go_ret
  refine ⟨rfl, Or.inr ?_, ?_, ((hk1.alloc _).grown hgrow (Lib.ownsRowF_kind (hown.alloc _))).setCell ⟨b, 1, none⟩ rfl _⟩
  · exact Lib.BuilderAtF.put (T := 127) (e := 5) hB hb2 (bs' := bs ++ [.int .u8 n]) (by simpa using hown') (by decide)
  · exact ((hb1.alloc (by have := hb1.size; omega) _).grown hgrow (by have := hb1.size; simp; omega) (fun k hk => (hown.lt k hk).1)).setCell (p := ⟨b, 1, none⟩) hB _

set_option maxHeartbeats 2000000 in
set_option maxRecDepth 100000 in
theorem writeString_any (B b : Nat) (l : List UInt8) (s : ByteArray) (w : World) (h : IsB B b l w) (hlen : l.length + s.size ≤ 140737488355328) (hBw : B ≤ w.heap.size) :
    Calls Tryz.prog 103 #[.pointer (some ⟨b, 0, none⟩), .string s] w fun e w' => e = .returned (.tuple #[.int .i64 s.size, .nilIface]) ∧ IsB B b (l ++ s.data.toList) w' ∧ Below B w w' ∧ Lib.OthersKept 5 (some b) w w' := by
  unfold IsB at *
  have hlb := Lib.byteCells_length l
  have hap : Lib.byteCells (l ++ s.data.toList) = Lib.byteCells l ++ Lib.strCells s := by rw [Lib.byteCells_append]; rfl
  rw [hap]; clear hap
  generalize Lib.byteCells l = bs at *
  have Hlb := Lib.hid hlb; clear hlb
  obtain ⟨i0, hi, hz0, hz1, hz2⟩ := info_parts bByte
  go_enter Tryz.func103, Tryz.ntmps103
  go_wp2_with (go_at_call 155; refine (copyCheck_any B b bs _ h).mono ?_)
  rintro e w1 ⟨rfl, h1, hb1, hk1⟩
  obtain ⟨hB, v, hbk, hown, hne⟩ := h1
  have c0 : w1.cell? ⟨b, 0, none⟩ = some (.pointer (some ⟨b, 0, none⟩)) := by rw [Lib.cell_of_heap hbk]; rfl
  have c1 : w1.cell? ⟨b, 1, none⟩ = some v := by rw [Lib.cell_of_heap hbk]; rfl
  go_wp2_with (at_builtin; refine Lib.wpList_append_own_stringF _ rfl _ _ 125 9 rfl B 5 i0 Tryz.underlying125 Tryz.underlying9 hi hz0 hz1 hz2 _ _ _ rfl hown s rfl ?c3 ?c4 ?c5 ?_)
  case c3 => have := Hlb.out; unfold maxLen; omega
  case c4 => have := Hlb.out; omega
  case c5 => have := hb1.size; omega
  intro v' w2 hown' hgrow _
  have hlt : b < w1.heap.size := by
    rcases Nat.lt_or_ge b w1.heap.size with h' | h'
    · exact h'
    · simp [Array.getElem?_eq_none h'] at hbk
  have hb2 : w2.heap[b]? = some (.cells #[.pointer (some ⟨b, 0, none⟩), v] 127 (0, 0)) := by
    rw [hgrow.block b hlt (fun e => hne e.symm)]
    exact hbk
  have d0 : w2.cell? ⟨b, 0, none⟩ = some (.pointer (some ⟨b, 0, none⟩)) := by rw [Lib.cell_of_heap hb2]; rfl
  have d1 : w2.cell? ⟨b, 1, none⟩ = some v := by rw [Lib.cell_of_heap hb2]; rfl
  have f1 : w2.frozen? ⟨b, 1, none⟩ = false := Lib.frozen_of_heap hb2 1
  obtain ⟨ao, n', cap, rfl⟩ : ∃ ao n' cap, v' = .slice ao n' cap := by
    rcases hown'.2 with ⟨hv, _⟩ | ⟨g, cap, cur, fz, hv, _⟩
    · exact ⟨_, _, _, hv⟩
    · exact ⟨_, _, _, hv⟩
  go_wp2
  go_ret2
  refine ⟨rfl, Or.inr ?_, ?_, (hk1.grown hgrow (Lib.ownsRowF_kind hown)).setCell ⟨b, 1, none⟩ rfl _⟩
  · exact Lib.BuilderAtF.put (T := 127) (e := 5) hB hb2 (bs' := bs ++ Lib.strCells s) (by simpa [Lib.strCells_length] using hown') (by decide)
  · exact (hb1.grown hgrow (by have := hb1.size; omega) (fun k hk => (hown.lt k hk).1)).setCell (p := ⟨b, 1, none⟩) hB _
end Go.Proofs.YtgmmjhcklhajiaaGreatDoor
/- Bytes appended to a slice that the call made: a string, and new bytes. A builder behind other calls. -/
namespace Go.Proofs.YtgmmjhcklhajiaaGreatDoor
open Go.RowKit

theorem OwnB.shape {B : Nat} {v : Value} {l : List UInt8} {w : World} (h : OwnB B v l w) : ∃ a cap, v = .slice a l.length cap := by
  rcases h.2 with ⟨rfl, h0⟩ | ⟨g, cap, cur, rfl, _⟩
  · exact ⟨none, 0, by rw [h0]⟩
  · exact ⟨_, _, rfl⟩
theorem OwnB.nil (B : Nat) (w : World) : OwnB B (.slice none 0 0) [] w := World.ownsRow_nil _ _ _ _
theorem OwnB.below {B : Nat} {v : Value} {l : List UInt8} {w w1 : World} (h : OwnB B v l w) (hb : Below w.heap.size w w1) : OwnB B v l w1 := by
  obtain ⟨h1, h2⟩ := h
  refine ⟨h1, ?_⟩
  rcases h2 with h2 | ⟨g, cap, cur, hv, hg, hh, r⟩
  · exact Or.inl h2
  · refine Or.inr ⟨g, cap, cur, hv, hg, ?_, r⟩
    have hlt : g < w.heap.size := by
      rcases Nat.lt_or_ge g w.heap.size with h' | h'
      · exact h'
      · simp [Array.getElem?_eq_none h'] at hh
    rw [hb.block g hlt]; exact hh
theorem app_bstr {ops : Array Oper} {rest : List Oper} {o : Oper} {a : Act} {Q : Exit → Act → World → Prop} (B : Nat) (s : ByteArray) {w : World} {v : Value} {l : List UInt8} (hown : OwnB B v l w) (hB : B ≤ w.heap.size) (hn : l.length + s.size ≤ 1000000000)
    (hgd : o.guard = none) (sl x : Operand) (ho : o.op = .call { callee := .builtin .append, args := #[sl, x], argTypes := #[125, 9] })
    (hs : a.eval sl = v) (hx : a.eval x = .string s)
    (hK : ∀ v' w1, OwnB B v' (l ++ s.data.toList) w1 → Below B w w1 → wpList Tryz.prog ops Q rest (a.put o.dst v') w1) :
    wpList Tryz.prog ops Q (o :: rest) a w := by
  obtain ⟨i0, hi, hz0, hz1, hz2⟩ := info_parts uByte
  unfold OwnB at hown
  refine Lib.wpList_append_own_string _ hgd sl x 125 9 ho B 5 i0 Tryz.underlying125 Tryz.underlying9 hi hz0 hz1 hz2 v l.length _ hs hown s hx (by unfold maxLen; omega) (by omega) hB ?_
  intro v' w1 h1 h2 _
  refine hK v' w1 ?_ ((Below.refl B w).grown h2 hB (fun j hj => (hown.lt j hj).1))
  unfold OwnB
  rw [List.length_append, ← Lib.size_eq, List.map_append]
  exact h1
theorem app_bnew {ops : Array Oper} {rest : List Oper} {o : Oper} {a : Act} {Q : Exit → Act → World → Prop} (B : Nat) (ys : List UInt8) (cs : Array Value) (hcs : cs.toList = ys.map fun c => Value.int .u8 c.toNat) {w : World} {v : Value} {l : List UInt8} (hown : OwnB B v l w) (hB : B ≤ w.heap.size) (hn : l.length + ys.length ≤ 1000000000)
    (hgd : o.guard = none) (sl x : Operand) (ho : o.op = .call { callee := .builtin .append, args := #[sl, x], argTypes := #[125, 125] })
    (hs : a.eval sl = v) (hx : a.eval x = .slice (some ⟨w.heap.size, 0, none⟩) ys.length ys.length)
    (hK : ∀ v' w1, OwnB B v' (l ++ ys) w1 → Below B w w1 → wpList Tryz.prog ops Q rest (a.put o.dst v') w1) :
    wpList Tryz.prog ops Q (o :: rest) a (w.alloc (.cells cs 5)) := by
  obtain ⟨i0, hi, hz0, hz1, hz2⟩ := info_parts uByte
  unfold OwnB at hown
  refine wpList_append_own _ hgd sl x 125 ho B 5 i0 (.int .u8 0) 1 1 Tryz.underlying125 hi hz0 hz1 hz2 rfl (by decide) v l.length _ hs (hown.alloc _) ⟨w.heap.size, 0, none⟩ ys.length ys.length (ys.map fun c => Value.int .u8 c.toNat) hx (by simp) ?c1 ?c2 (by unfold maxLen; omega) (by omega) (by simp; omega) ?_
  case c1 =>
    intro j u hj
    have e : (⟨w.heap.size, 0, none⟩ : Addr).add j = ⟨w.heap.size, j, none⟩ := by unfold Addr.add; split <;> simp_all
    rw [e, World.cell?_alloc_mark, ← hj, ← hcs]; simp
  case c2 => intro u hu; obtain ⟨c, _, rfl⟩ := List.mem_map.1 hu; rfl
  intro v' w1 h1 h2 _
  refine hK v' w1 ?_ (((Below.refl B w).alloc hB _).grown h2 (by simp; omega) (fun j hj => (hown.lt j hj).1))
  unfold OwnB
  rw [List.length_append, List.map_append]
  exact h1

theorem IsB.below {B b : Nat} {l : List UInt8} {w w' : World} (h : IsB B b l w) (hb : Below w.heap.size w w') : IsB B b l w' := by
  have key : ∀ p, Lib.BuilderAtF 127 5 B b p (Lib.byteCells l) w → Lib.BuilderAtF 127 5 B b p (Lib.byteCells l) w' := by
    rintro p ⟨hB, v, hbk, hown, hne⟩
    have hl : ∀ (g : Nat) (o : Obj), w.heap[g]? = some o → g < w.heap.size := by
      intro g o hg
      rcases Nat.lt_or_ge g w.heap.size with h' | h'
      · exact h'
      · simp [Array.getElem?_eq_none h'] at hg
    refine ⟨hB, v, by rw [hb.block b (hl _ _ hbk)]; exact hbk, ?_, hne⟩
    obtain ⟨h1, h2⟩ := hown
    refine ⟨h1, ?_⟩
    rcases h2 with h2 | ⟨g, cap, cur, fz, hv, hg, hh, r⟩
    · exact Or.inl h2
    · exact Or.inr ⟨g, cap, cur, fz, hv, hg, by rw [hb.block g (hl _ _ hh)]; exact hh, r⟩
  rcases h with h | h
  · exact Or.inl (key _ h)
  · exact Or.inr (key _ h)
end Go.Proofs.YtgmmjhcklhajiaaGreatDoor
/- The text of a list of fields: the plain law, and both walks. -/
namespace Go.Proofs.YtgmmjhcklhajiaaGreatDoor
open Go.RowKit
set_option maxRecDepth 100000

def fldB (f : Fld) : List UInt8 := (f.1 ++ ([58, 32] ++ f.2)) ++ [13, 10]
def putP (xs : List Fld) : List UInt8 := xs.flatMap fldB
def putL (xs : List Fld) : List UInt8 := bif checkL xs != 0 then [] else putP xs
theorem putP_snoc (xs : List Fld) (k : Nat) (h : k < xs.length) : putP (xs.take (k + 1)) = putP (xs.take k) ++ fldB xs[k] := by
  unfold putP; rw [List.take_succ_eq_append_getElem h, List.flatMap_append]; simp
theorem putP_len (xs : List Fld) : (putP xs).length = sumF xs + 4 * xs.length := by
  unfold putP sumF
  induction xs with
  | nil => rfl
  | cons x r ih => rw [List.flatMap_cons, List.length_append, ih, List.map_cons, List.sum_cons, List.length_cons]; unfold fldB; simp; omega
theorem fresh_B4 (w : World) : IsB w.heap.size w.heap.size [] (w.alloc (.cells #[.pointer none, .slice none 0 0] 127)) :=
  Lib.IsBuilderF.of (Lib.fresh_isBuilder 127 5 w)

set_option maxHeartbeats 8000000 in
theorem put4_any (A : Option Addr) (n c : Nat) (xs : List Fld) (w : World) (hr : Rd A n 2 (fldsV xs) w) (hn : n ≤ 1000000) (hs : sumF xs ≤ 1000000) :
    Calls Tryz.prog 48 #[.slice A n c] w fun e w' => e = .returned (.string ⟨(putL xs).toArray⟩) ∧ Below w.heap.size w w' := by
  have k1 := check4_any A n c xs w hr hn hs
  have hxn := hr.fld
  by_cases hc : checkL xs = 0
  · have hp : putL xs = putP xs := by unfold putL; rw [hc]; rfl
    rw [hp]
    rw [hc] at k1
    have hsn := putP_snoc xs
    have hlen : ∀ k, (putP (xs.take k)).length ≤ 10000000 := by
      intro k
      have h1 := putP_len (xs.take k); have h2 := sumF_take xs k
      have h3 : (xs.take k).length ≤ xs.length := by rw [List.length_take]; omega
      omega
    have hS := fun f (hf : f ∈ xs) => Nat.le_trans (sumF_mem hf) hs
    obtain rfl := hxn
    have hT : putP (xs.take xs.length) = putP xs := by rw [List.take_length]
    have hT0 : putP (xs.take 0) = [] := rfl
    have HT := Lib.hid hT; have HT0 := Lib.hid hT0; have K1 := Lib.hid k1; have HR := Lib.hid hr; have HS := Lib.hid hS; have HSN := Lib.hid hsn; have HL := Lib.hid hlen
    clear k1 hr hs hc hp hsn hlen hS hT hT0
    generalize putP xs = tot at *
    go_enter Tryz.func48, Tryz.ntmps48
    go_wp2_with fail
    refine K1.out.mono ?_
    rintro e w1 ⟨rfl, hb1⟩
    have hR1 := HR.out.below hb1
    have HR1 := Lib.hid hR1; clear hR1 HR K1
    have hI := fresh_B4 w1
    have hal := (Below.refl w1.heap.size w1).alloc (Nat.le_refl _) (.cells #[.pointer none, .slice none 0 0] 127)
    have HI := Lib.hid hI; clear hI
    go_wp2_with fail
    go_loopw [11] (fun i wr => ∃ k : Nat, k ≤ xs.length ∧ i = .int .i64 k ∧ Below w1.heap.size w1 wr ∧ Hid (IsB w1.heap.size w1.heap.size (putP (xs.take k)) wr)) (fun i _ => xs.length - (intOf i).toNat)
    case atStart => exact ⟨0, Nat.zero_le _, rfl, hal, by rw [HT0.out]; exact HI⟩
    case round =>
      clear hal HI HT0
      obtain ⟨k, hk, rfl, hbw, HB⟩ := hrel
      by_cases hlt : k < xs.length
      · obtain ⟨b, o, rfl, hl, c1, c2⟩ := (HR1.out.below hbw).fld_at (k := k) hlt
        have hf := HS.out xs[k] (List.getElem_mem _)
        have hsn := HSN.out k hlt
        generalize xs[k] = f at *
        obtain ⟨f1, f2⟩ := f
        simp only at c1 c2 hf
        have k2 := fun w => line_any ⟨f1.toArray⟩ ⟨f2.toArray⟩ w (by rw [mk_size]; omega) (by rw [mk_size]; omega)
        simp only at k2
        have hll : (f1 ++ ([58, 32] ++ f2)).length ≤ 1000002 := by simp; omega
        have hsn2 : putP (xs.take (k + 1)) = (putP (xs.take k) ++ (f1 ++ ([58, 32] ++ f2))) ++ [13, 10] := by rw [hsn]; unfold fldB; simp
        generalize f1 ++ ([58, 32] ++ f2) = ln at *
        have hle := HL.out k
        have HSN2 := Lib.hid hsn2; have K2 := Lib.hid k2
        clear hsn hsn2 k2
        have hAl := hbw.alloc hbw.size (.cells #[.string ⟨f1.toArray⟩, .string ⟨f2.toArray⟩] 55)
        go_wp2_with fail
        refine (K2.out _).mono ?_
        rintro e w2 ⟨rfl, hb2⟩
        have hB2 := hAl.trans (hb2.mono hAl.size)
        have hI2 := (HB.out.below ((Below.refl wr.heap.size wr).alloc (Nat.le_refl _) (.cells #[.string ⟨f1.toArray⟩, .string ⟨f2.toArray⟩] 55))).below hb2
        have k3 := writeString_any w1.heap.size w1.heap.size (putP (xs.take k)) ⟨ln.toArray⟩ w2 hI2 (by rw [mk_size]; omega) hB2.size
        have K3 := Lib.hid k3; clear k3 hI2 hb2 hAl K2
        go_wp2_with fail
        refine K3.out.mono ?_
        rintro e w3 ⟨rfl, hI3, hb3, -⟩
        have hB3 := hB2.trans hb3
        have k4 := writeString_any w1.heap.size w1.heap.size _ ⟨#[13, 10]⟩ w3 hI3 (by rw [List.length_append, show (⟨#[13, 10]⟩ : ByteArray).size = 2 from rfl]; omega) hB3.size
        have K4 := Lib.hid k4; clear k4 hI3 hb3 K3
        go_wp2_with fail
        refine K4.out.mono ?_
        rintro e w4 ⟨rfl, hI4, hb4, -⟩
        have hB4 := hB3.trans hb4
        have HI4 : Hid (IsB w1.heap.size w1.heap.size (putP (xs.take (k + 1))) w4) := by rw [HSN2.out]; exact Lib.hid hI4
        clear hI4 hb4 K4
        go_wp2_with fail
        go_roundw
        case rel => exact ⟨k + 1, by omega, by go_num, hB4, HI4⟩
        case measure => simp [intOf]; omega
      · have hke : k = xs.length := by omega
        subst hke
        have hI := HB.out
        rw [HT.out] at hI
        have k5 := Tryz.Builder_String_any_k w1.heap.size w1.heap.size tot wr hI hbw.size
        have K5 := Lib.hid k5; clear k5 hI
        go_wp2_with fail
        refine K5.out.mono ?_
        rintro e w5 ⟨rfl, -, hb5, -⟩
        go_wp2
        go_ret
        exact ⟨rfl, bt hb1 (hbw.trans hb5)⟩
  · have hp : putL xs = [] := by
      unfold putL; rw [show (checkL xs != 0) = true from by simp [hc]]; rfl
    rw [hp]
    have hne : (checkL xs != 0) = true := by simp [hc]
    clear hc hp hxn
    generalize checkL xs = ck at *
    have K1 := Lib.hid k1; clear k1 hr hn hs
    go_enter Tryz.func48, Tryz.ntmps48
    go_wp2_with fail
    refine K1.out.mono ?_
    rintro e w1 ⟨rfl, hb1⟩
    go_wp2
    go_ret
    exact ⟨rfl, hb1⟩

end Go.Proofs.YtgmmjhcklhajiaaGreatDoor
/- Dates: the walk of two. -/
namespace Go.Proofs.YtgmmjhcklhajiaaGreatDoor
open Go.RowKit
set_option maxRecDepth 100000

def dtwo (n : Int) : List UInt8 := [UInt8.ofNat (48 + n / 10 % 10).toNat, UInt8.ofNat (48 + n % 10).toNat]
set_option maxHeartbeats 4000000 in
theorem dtwo_any (n : Int) (hn : 0 ≤ n ∧ n ≤ 9999) (w : World) :
    Calls Tryz.prog 95 #[.int .i64 n] w fun e w' => e = .returned (.string ⟨(dtwo n).toArray⟩) ∧ Below w.heap.size w w' := by
  have e1 : n.tdiv 10 = n / 10 := Int.tdiv_eq_ediv_of_nonneg hn.1
  have e2 : (n / 10).tmod 10 = n / 10 % 10 := Int.tmod_eq_emod_of_nonneg (by omega)
  have e3 : n.tmod 10 = n % 10 := Int.tmod_eq_emod_of_nonneg hn.1
  obtain ⟨a, ha⟩ : ∃ a : Nat, (a : Int) = n / 10 % 10 := ⟨(n / 10 % 10).toNat, by omega⟩
  obtain ⟨b, hb⟩ : ∃ b : Nat, (b : Int) = n % 10 := ⟨(n % 10).toNat, by omega⟩
  have ha9 : a ≤ 9 := by omega
  have hb9 : b ≤ 9 := by omega
  have hx : dtwo n = [UInt8.ofNat (48 + a), UInt8.ofNat (48 + b)] := by
    unfold dtwo
    rw [← ha, ← hb]
    congr 2
  rw [hx]
  have w0 : IntKind.i64.wrap (n / 10) = n / 10 := by rw [IntKind.wrap_i64]; omega
  have w1 : IntKind.i64.wrap (48 + (a : Int)) = 48 + (a : Int) := by rw [IntKind.wrap_i64]; omega
  have w2 : IntKind.i64.wrap (48 + (b : Int)) = 48 + (b : Int) := by rw [IntKind.wrap_i64]; omega
  have w3 : IntKind.u8.wrap (48 + (a : Int)) = 48 + (a : Int) := by rw [IntKind.wrap_u8]; omega
  have w4 : IntKind.u8.wrap (48 + (b : Int)) = 48 + (b : Int) := by rw [IntKind.wrap_u8]; omega
  have u1 : n / 10 % 10 = (a : Int) := ha.symm
  have u2 : n % 10 = (b : Int) := hb.symm
  rw [u1] at e2
  rw [u2] at e3
  clear hx ha hb
  have t1 : (UInt8.ofNat (48 + a)).toNat = 48 + a := by rw [UInt8.toNat_ofNat']; omega
  have t2 : (UInt8.ofNat (48 + b)).toNat = 48 + b := by rw [UInt8.toNat_ofNat']; omega
  generalize UInt8.ofNat (48 + a) = c1 at *
  generalize UInt8.ofNat (48 + b) = c2 at *
  have hcv : (convert 125 9 (.slice (some ⟨w.heap.size, 0, none⟩) 2 2)).run Tryz.prog (w.alloc (.cells #[.int .u8 (48 + (a : Int)), .int .u8 (48 + (b : Int))] 5 (0, 0))) = .ok (.string ⟨#[c1, c2]⟩) (w.alloc (.cells #[.int .u8 (48 + (a : Int)), .int .u8 (48 + (b : Int))] 5 (0, 0))) := by
    refine run_convert_bytes_back (P := Tryz.prog) _ 125 9 5 ⟨w.heap.size, 0, none⟩ 2 [c1, c2] Tryz.underlying125 Tryz.underlying5 Tryz.underlying9 ?_
    intro j hj
    rw [Addr.add_lit, Nat.zero_add, World.cell?_alloc_mark]
    match j, hj with
    | 0, _ => simp [t1]
    | 1, _ => simp [t2]
  clear t1 t2
  go_enter Tryz.func95, Tryz.ntmps95
  go_wp2
  go_ret
  exact ⟨rfl, (Below.refl _ w).alloc (Nat.le_refl _) _⟩
end Go.Proofs.YtgmmjhcklhajiaaGreatDoor
/- Dates: what date.Put says, in plain words. -/
namespace Go.Proofs.YtgmmjhcklhajiaaGreatDoor
open Go.RowKit
set_option maxRecDepth 100000

/-- The month of a day of a year, and what is left. -/
def dmon (y : Int) : Nat → Int → Int → Int × Int
  | 0, r, m => (r, m)
  | f + 1, r, m => if dlong y m ≤ r then dmon y f (r - dlong y m) (m + 1) else (r, m)
def dputD (d s : Int) : List UInt8 :=
  ((ddays.getD (d % 7).toNat []).take 3) ++ [44, 32] ++ dtwo ((dmon (dyearO d).1 12 (dyearO d).2 1).1 + 1) ++ [32] ++ ((dmonths.drop (3 * (dmon (dyearO d).1 12 (dyearO d).2 1).2.toNat - 3)).take 3) ++ [32] ++ dtwo ((dyearO d).1 / 100) ++ dtwo (dyearO d).1 ++ [32] ++ dtwo (s / 3600) ++ [58] ++ dtwo (s / 60 % 60) ++ [58] ++ dtwo (s % 60) ++ [32, 71, 77, 84]
/-- A tick's date. -/
def dputL (t : Int) : List UInt8 := if t < 0 ∨ 253402300799 < t then [] else dputD (t / 86400) (t % 86400)
theorem dputL_1000 : dputL 1000 = [84, 104, 117, 44, 32, 48, 49, 32, 74, 97, 110, 32, 49, 57, 55, 48, 32, 48, 48, 58, 49, 54, 58, 52, 48, 32, 71, 77, 84] := by decide +kernel
theorem dyear_end : ∀ (f : Nat) (d y : Int), 1970 ≤ y → d < 365 * (y - 1970) + 365 * f → dahead y ≤ d → dahead (dyear f d y) ≤ d ∧ d < dahead (dyear f d y + 1) ∧ 1970 ≤ dyear f d y
  | 0, d, y, hy, hf, ha => by have := dahead_ge y hy; omega
  | f + 1, d, y, hy, hf, ha => by
    rw [dyear]
    split
    · rename_i h
      exact dyear_end f d (y + 1) (by omega) (by omega) h
    · exact ⟨ha, by omega, hy⟩
theorem dahead_leap (y : Int) : dahead (y + 1) - dahead y = 365 + (if dleap y = true then 1 else 0) := by
  unfold dahead dleap
  by_cases h4 : y % 4 = 0
  · by_cases h100 : y % 100 = 0
    · by_cases h400 : y % 400 = 0
      · simp [h4, h100, h400]; omega
      · simp [h4, h100, h400]; omega
    · simp [h4, h100]; omega
  · have h400 : ¬ y % 400 = 0 := by omega
    simp [h4, h400]; omega
theorem dmons_12 (y : Int) : dmons y 12 = 365 + (if dleap y = true then 1 else 0) := by
  simp only [dmons, dlong]
  cases dleap y <;> simp
/-- The year of a day, and what is left of it. -/
theorem dyearO_ok (d : Int) (hd : 0 ≤ d ∧ d ≤ 2932896) : 1970 ≤ (dyearO d).1 ∧ (dyearO d).1 ≤ 9999 ∧ 0 ≤ (dyearO d).2 ∧ (dyearO d).2 < dmons (dyearO d).1 12 := by
  have h := dyear_end 9000 d (1970 + d / 366) (by omega) (by omega) (by have := (dahead_ge (1970 + d / 366) (by omega)).2; omega)
  unfold dyearO
  simp only
  generalize dyear 9000 d (1970 + d / 366) = Y at *
  have hl := dahead_leap Y
  rw [dmons_12]
  have hY : Y ≤ 9999 := by
    have h10 : dahead 10000 = 2932897 := by decide
    rcases Int.lt_or_le Y 10000 with h' | h'
    · omega
    · have hm : dahead 10000 ≤ dahead Y := by unfold dahead; omega
      omega
  exact ⟨h.2.2, hY, by omega, by omega⟩
end Go.Proofs.YtgmmjhcklhajiaaGreatDoor
