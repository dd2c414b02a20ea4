/- Joined out of the texts RDateTop, FreshIn, Box8, Fresh2, Fresh3, FreshLife, Fresh4, OwnF, Entry13, Is13, Awake13, TabOf, DEnv, Few13, Kept, Del04, Set04, SetsSpec, HopSpec, WithSpec, FreshLaw, Open (wip/tools/merge.py). -/
import Derived.Test.YtgmmjhcklhajiaaGreatDoorPa5
import Derived.Laws.EntriesVeiled
import Derived.Deep.RegionHeld3
import Derived.WalkMore
import Derived.Deep.RegionLaw
import Derived.BigRegion
import Derived.IntWalk
import Derived.Lib.LaidU8
import Derived.MakeChecks
import Derived.Laws.OwnMore
/- The document's dates are the program's: the forms, and both (printed by wip/tools/rdate.py). -/
namespace Go.Proofs.YtgmmjhcklhajiaaGreatDoor
set_option maxRecDepth 100000

theorem claim0_s {s : List UInt8} {now T : Int} (h : pform dform0 s now = some T) : rmay (rdA s) = true ∧ rfixed (rdA s) = s ∧ T = rtick (rdA s) := by
  obtain ⟨m, hm, q2, q3⟩ := pform_some h
  obtain ⟨k, j, d1, d2, y1, y2, y3, y4, h1, h2, i1, i2, s1, s2, hk, hj, hd1, hd2, hy1, hy2, hy3, hy4, hh1, hh2, hi1, hi2, hs1, hs2, rfl, rfl⟩ := sound0 hm
  obtain ⟨p, q, r, hw⟩ := short_three k hk
  obtain ⟨u, v, x, hmn⟩ := mon_three j hj
  have n1 := dnum2_in hh1 hh2; have n2 := dnum2_in hi1 hi2; have n3 := dnum2_in hs1 hs2
  have ht := tick_is (⟨(k : Int), dnum [d1, d2] 0, (j : Int) + 1, dnum [y1, y2, y3, y4] 0, dnum [h1, h2] 0, dnum [i1, i2] 0, dnum [s1, s2] 0, false⟩ : Mom) now (⟨dnum [y1, y2, y3, y4] 0, (j : Int) + 1, dnum [d1, d2] 0, dnum [h1, h2] 0, dnum [i1, i2] 0, dnum [s1, s2] 0⟩ : RD) rfl ⟨by show (1 : Int) ≤ (j : Int) + 1; omega, by show (j : Int) + 1 ≤ 12; omega⟩ ⟨n1.1, n2.1, n3.1⟩
  rw [ht] at q2 q3
  by_cases hc : rmay (⟨dnum [y1, y2, y3, y4] 0, (j : Int) + 1, dnum [d1, d2] 0, dnum [h1, h2] 0, dnum [i1, i2] 0, dnum [s1, s2] 0⟩ : RD) = true ∧ rcount (⟨dnum [y1, y2, y3, y4] 0, (j : Int) + 1, dnum [d1, d2] 0, dnum [h1, h2] 0, dnum [i1, i2] 0, dnum [s1, s2] 0⟩ : RD) % 7 = (k : Int)
  rotate_left
  · rw [if_neg hc] at q2; cases q2
  rw [if_pos hc] at q3
  have hcd : (rcount (⟨dnum [y1, y2, y3, y4] 0, (j : Int) + 1, dnum [d1, d2] 0, dnum [h1, h2] 0, dnum [i1, i2] 0, dnum [s1, s2] 0⟩ : RD) % 7).toNat = k := by rw [hc.2]; omega
  have eA : rdA ((ddays.getD k []).take 3 ++ (44 :: 32 :: d1 :: d2 :: 32 :: (rmons.getD j [] ++ (32 :: y1 :: y2 :: y3 :: y4 :: 32 :: h1 :: h2 :: 58 :: i1 :: i2 :: 58 :: s1 :: s2 :: 32 :: 71 :: 77 :: 84 :: [])))) = (⟨dnum [y1, y2, y3, y4] 0, (j : Int) + 1, dnum [d1, d2] 0, dnum [h1, h2] 0, dnum [i1, i2] 0, dnum [s1, s2] 0⟩ : RD) := by
    unfold rdA
    rw [hw]
    rw [rmonth_is (n := 8) hj (by rw [hmn]; rfl)]
    rw [hmn]
    rw [rnum_four (n := 12) rfl hy1 hy2 hy3 hy4, rnum_two (n := 5) rfl hd1 hd2, rnum_two (n := 17) rfl hh1 hh2, rnum_two (n := 20) rfl hi1 hi2, rnum_two (n := 23) rfl hs1 hs2]
  rw [eA]
  refine ⟨hc.1, ?_, q3.symm⟩
  unfold rfixed rclock
  rw [rwd_short, hcd, rmon_at]
  simp only [rdig2 hd1 hd2, rdig2 hh1 hh2, rdig2 hi1 hi2, rdig2 hs1 hs2, rdig4 hy1 hy2 hy3 hy4]
  rfl
theorem claim1_s {s : List UInt8} {now T : Int} (h : pform dform1 s now = some T) : 0 ≤ rnum s (rcomma s + 9) 2 ∧ rmay (rdB s now) = true ∧ rold (rdB s now) = s ∧ T = rtick (rdB s now) := by
  obtain ⟨m, hm, q2, q3⟩ := pform_some h
  obtain ⟨k, j, d1, d2, y1, y2, h1, h2, i1, i2, s1, s2, hk, hj, hd1, hd2, hy1, hy2, hh1, hh2, hi1, hi2, hs1, hs2, rfl, rfl⟩ := sound1 hm
  obtain ⟨u, v, x, hmn⟩ := mon_three j hj
  have n1 := dnum2_in hh1 hh2; have n2 := dnum2_in hi1 hi2; have n3 := dnum2_in hs1 hs2
  have ht := tick_is (⟨(k : Int), dnum [d1, d2] 0, (j : Int) + 1, dnum [y1, y2] 0, dnum [h1, h2] 0, dnum [i1, i2] 0, dnum [s1, s2] 0, true⟩ : Mom) now (⟨rnear (dnum [y1, y2] 0) now, (j : Int) + 1, dnum [d1, d2] 0, dnum [h1, h2] 0, dnum [i1, i2] 0, dnum [s1, s2] 0⟩ : RD) rfl ⟨by show (1 : Int) ≤ (j : Int) + 1; omega, by show (j : Int) + 1 ≤ 12; omega⟩ ⟨n1.1, n2.1, n3.1⟩
  rw [ht] at q2 q3
  by_cases hc : rmay (⟨rnear (dnum [y1, y2] 0) now, (j : Int) + 1, dnum [d1, d2] 0, dnum [h1, h2] 0, dnum [i1, i2] 0, dnum [s1, s2] 0⟩ : RD) = true ∧ rcount (⟨rnear (dnum [y1, y2] 0) now, (j : Int) + 1, dnum [d1, d2] 0, dnum [h1, h2] 0, dnum [i1, i2] 0, dnum [s1, s2] 0⟩ : RD) % 7 = (k : Int)
  rotate_left
  · rw [if_neg hc] at q2; cases q2
  rw [if_pos hc] at q3
  have hcd : (rcount (⟨rnear (dnum [y1, y2] 0) now, (j : Int) + 1, dnum [d1, d2] 0, dnum [h1, h2] 0, dnum [i1, i2] 0, dnum [s1, s2] 0⟩ : RD) % 7).toNat = k := by rw [hc.2]; omega
  have hcm := long_plain k hk (32 :: d1 :: d2 :: 45 :: (rmons.getD j [] ++ (45 :: y1 :: y2 :: 32 :: h1 :: h2 :: 58 :: i1 :: i2 :: 58 :: s1 :: s2 :: [32, 71, 77, 84])))
  have hdp : ∀ i, List.drop ((ddays.getD k []).length + i) (ddays.getD k [] ++ (44 :: 32 :: d1 :: d2 :: 45 :: (rmons.getD j [] ++ (45 :: y1 :: y2 :: 32 :: h1 :: h2 :: 58 :: i1 :: i2 :: 58 :: s1 :: s2 :: 32 :: 71 :: 77 :: 84 :: [])))) = List.drop i (44 :: 32 :: d1 :: d2 :: 45 :: (rmons.getD j [] ++ (45 :: y1 :: y2 :: 32 :: h1 :: h2 :: 58 :: i1 :: i2 :: 58 :: s1 :: s2 :: [32, 71, 77, 84]))) := fun i => drop_past _ _ _ i rfl
  have e9 : rnum (ddays.getD k [] ++ (44 :: 32 :: d1 :: d2 :: 45 :: (rmons.getD j [] ++ (45 :: y1 :: y2 :: 32 :: h1 :: h2 :: 58 :: i1 :: i2 :: 58 :: s1 :: s2 :: 32 :: 71 :: 77 :: 84 :: [])))) ((ddays.getD k []).length + 9) 2 = dnum [y1, y2] 0 := rnum_two (by rw [hdp, hmn]; rfl) hy1 hy2
  have eA : rdB (ddays.getD k [] ++ (44 :: 32 :: d1 :: d2 :: 45 :: (rmons.getD j [] ++ (45 :: y1 :: y2 :: 32 :: h1 :: h2 :: 58 :: i1 :: i2 :: 58 :: s1 :: s2 :: 32 :: 71 :: 77 :: 84 :: [])))) now = (⟨rnear (dnum [y1, y2] 0) now, (j : Int) + 1, dnum [d1, d2] 0, dnum [h1, h2] 0, dnum [i1, i2] 0, dnum [s1, s2] 0⟩ : RD) := by
    unfold rdB
    rw [hcm, e9]
    rw [rmonth_is (n := (ddays.getD k []).length + 5) hj (by rw [hdp]; rfl)]
    rw [rnum_two (n := (ddays.getD k []).length + 2) (by rw [hdp]; rfl) hd1 hd2]
    rw [rnum_two (n := (ddays.getD k []).length + 12) (by rw [hdp, hmn]; rfl) hh1 hh2, rnum_two (n := (ddays.getD k []).length + 15) (by rw [hdp, hmn]; rfl) hi1 hi2, rnum_two (n := (ddays.getD k []).length + 18) (by rw [hdp, hmn]; rfl) hs1 hs2]
  rw [eA, hcm, e9]
  refine ⟨(dnum2_in hy1 hy2).1, hc.1, ?_, q3.symm⟩
  unfold rold rclock
  rw [rwd_long, hcd, rmon_at]
  have hyy : rdig 2 (rnear (dnum [y1, y2] 0) now) = [y1, y2] := by
    refine (rdig2_cong (N := dnum [y1, y2] 0) ?_).trans (rdig2 hy1 hy2)
    have := dnum2_in hy1 hy2
    unfold rnear
    omega
  simp only [rdig2 hd1 hd2, rdig2 hh1 hh2, rdig2 hi1 hi2, rdig2 hs1 hs2, hyy]
  rfl
theorem claim2_s {s : List UInt8} {now T : Int} (h : pform dform2 s now = some T) : (rmay (rdC s) = true ∧ rplain (rdC s) false = s ∧ T = rtick (rdC s)) ∨ (rmay (rdC s) = false ∧ rmay (rdE s) = true ∧ rplain (rdE s) true = s ∧ T = rtick (rdE s)) := by
  obtain ⟨m, hm, q2, q3⟩ := pform_some h
  rcases sound2 hm with hs | hs
  · obtain ⟨k, j, d1, h1, h2, i1, i2, s1, s2, y1, y2, y3, y4, hk, hj, hd1, hh1, hh2, hi1, hi2, hs1, hs2, hy1, hy2, hy3, hy4, rfl, rfl⟩ := hs
    obtain ⟨p, q, r, hw⟩ := short_three k hk
    obtain ⟨u, v, x, hmn⟩ := mon_three j hj
    have n1 := dnum2_in hh1 hh2; have n2 := dnum2_in hi1 hi2; have n3 := dnum2_in hs1 hs2
    have ht := tick_is (⟨(k : Int), dnum [d1] 0, (j : Int) + 1, dnum [y1, y2, y3, y4] 0, dnum [h1, h2] 0, dnum [i1, i2] 0, dnum [s1, s2] 0, false⟩ : Mom) now (⟨dnum [y1, y2, y3, y4] 0, (j : Int) + 1, dnum [d1] 0, dnum [h1, h2] 0, dnum [i1, i2] 0, dnum [s1, s2] 0⟩ : RD) rfl ⟨by show (1 : Int) ≤ (j : Int) + 1; omega, by show (j : Int) + 1 ≤ 12; omega⟩ ⟨n1.1, n2.1, n3.1⟩
    rw [ht] at q2 q3
    by_cases hc : rmay (⟨dnum [y1, y2, y3, y4] 0, (j : Int) + 1, dnum [d1] 0, dnum [h1, h2] 0, dnum [i1, i2] 0, dnum [s1, s2] 0⟩ : RD) = true ∧ rcount (⟨dnum [y1, y2, y3, y4] 0, (j : Int) + 1, dnum [d1] 0, dnum [h1, h2] 0, dnum [i1, i2] 0, dnum [s1, s2] 0⟩ : RD) % 7 = (k : Int)
    rotate_left
    · rw [if_neg hc] at q2; cases q2
    rw [if_pos hc] at q3
    have hcd : (rcount (⟨dnum [y1, y2, y3, y4] 0, (j : Int) + 1, dnum [d1] 0, dnum [h1, h2] 0, dnum [i1, i2] 0, dnum [s1, s2] 0⟩ : RD) % 7).toNat = k := by rw [hc.2]; omega
    have eA : rdE ((ddays.getD k []).take 3 ++ (32 :: (rmons.getD j [] ++ (32 :: 32 :: d1 :: 32 :: h1 :: h2 :: 58 :: i1 :: i2 :: 58 :: s1 :: s2 :: 32 :: y1 :: y2 :: y3 :: y4 :: [])))) = (⟨dnum [y1, y2, y3, y4] 0, (j : Int) + 1, dnum [d1] 0, dnum [h1, h2] 0, dnum [i1, i2] 0, dnum [s1, s2] 0⟩ : RD) := by
      unfold rdE
      rw [hw]
      rw [rmonth_is (n := 4) hj (by rw [hmn]; rfl)]
      rw [hmn]
      rw [rnum_four (n := 20) rfl hy1 hy2 hy3 hy4, rnum_one (n := 9) rfl hd1, rnum_two (n := 11) rfl hh1 hh2, rnum_two (n := 14) rfl hi1 hi2, rnum_two (n := 17) rfl hs1 hs2]
    have hno : rmay (rdC ((ddays.getD k []).take 3 ++ (32 :: (rmons.getD j [] ++ (32 :: 32 :: d1 :: 32 :: h1 :: h2 :: 58 :: i1 :: i2 :: 58 :: s1 :: s2 :: 32 :: y1 :: y2 :: y3 :: y4 :: []))))) = false := by
      have e : rnum ((ddays.getD k []).take 3 ++ (32 :: (rmons.getD j [] ++ (32 :: 32 :: d1 :: 32 :: h1 :: h2 :: 58 :: i1 :: i2 :: 58 :: s1 :: s2 :: 32 :: y1 :: y2 :: y3 :: y4 :: [])))) 8 2 = -1 := by rw [hw, hmn]; exact rnum_no (a := 32) rfl (by decide)
      unfold rmay rdC
      simp only [e]
      simp
    rw [eA]
    refine Or.inr ⟨hno, hc.1, ?_, q3.symm⟩
    unfold rplain rclock
    rw [rwd_short, hcd, rmon_at]
    simp only [rdig1 hd1, rdig2 hh1 hh2, rdig2 hi1 hi2, rdig2 hs1 hs2, rdig4 hy1 hy2 hy3 hy4]
    rfl
  · obtain ⟨k, j, d1, d2, h1, h2, i1, i2, s1, s2, y1, y2, y3, y4, hk, hj, hd1, hd2, hh1, hh2, hi1, hi2, hs1, hs2, hy1, hy2, hy3, hy4, rfl, rfl⟩ := hs
    obtain ⟨p, q, r, hw⟩ := short_three k hk
    obtain ⟨u, v, x, hmn⟩ := mon_three j hj
    have n1 := dnum2_in hh1 hh2; have n2 := dnum2_in hi1 hi2; have n3 := dnum2_in hs1 hs2
    have ht := tick_is (⟨(k : Int), dnum [d1, d2] 0, (j : Int) + 1, dnum [y1, y2, y3, y4] 0, dnum [h1, h2] 0, dnum [i1, i2] 0, dnum [s1, s2] 0, false⟩ : Mom) now (⟨dnum [y1, y2, y3, y4] 0, (j : Int) + 1, dnum [d1, d2] 0, dnum [h1, h2] 0, dnum [i1, i2] 0, dnum [s1, s2] 0⟩ : RD) rfl ⟨by show (1 : Int) ≤ (j : Int) + 1; omega, by show (j : Int) + 1 ≤ 12; omega⟩ ⟨n1.1, n2.1, n3.1⟩
    rw [ht] at q2 q3
    by_cases hc : rmay (⟨dnum [y1, y2, y3, y4] 0, (j : Int) + 1, dnum [d1, d2] 0, dnum [h1, h2] 0, dnum [i1, i2] 0, dnum [s1, s2] 0⟩ : RD) = true ∧ rcount (⟨dnum [y1, y2, y3, y4] 0, (j : Int) + 1, dnum [d1, d2] 0, dnum [h1, h2] 0, dnum [i1, i2] 0, dnum [s1, s2] 0⟩ : RD) % 7 = (k : Int)
    rotate_left
    · rw [if_neg hc] at q2; cases q2
    rw [if_pos hc] at q3
    have hcd : (rcount (⟨dnum [y1, y2, y3, y4] 0, (j : Int) + 1, dnum [d1, d2] 0, dnum [h1, h2] 0, dnum [i1, i2] 0, dnum [s1, s2] 0⟩ : RD) % 7).toNat = k := by rw [hc.2]; omega
    have eA : rdC ((ddays.getD k []).take 3 ++ (32 :: (rmons.getD j [] ++ (32 :: d1 :: d2 :: 32 :: h1 :: h2 :: 58 :: i1 :: i2 :: 58 :: s1 :: s2 :: 32 :: y1 :: y2 :: y3 :: y4 :: [])))) = (⟨dnum [y1, y2, y3, y4] 0, (j : Int) + 1, dnum [d1, d2] 0, dnum [h1, h2] 0, dnum [i1, i2] 0, dnum [s1, s2] 0⟩ : RD) := by
      unfold rdC
      rw [hw]
      rw [rmonth_is (n := 4) hj (by rw [hmn]; rfl)]
      rw [hmn]
      rw [rnum_four (n := 20) rfl hy1 hy2 hy3 hy4, rnum_two (n := 8) rfl hd1 hd2, rnum_two (n := 11) rfl hh1 hh2, rnum_two (n := 14) rfl hi1 hi2, rnum_two (n := 17) rfl hs1 hs2]
    rw [eA]
    refine Or.inl ⟨hc.1, ?_, q3.symm⟩
    unfold rplain rclock
    rw [rwd_short, hcd, rmon_at]
    simp only [rdig2 hd1 hd2, rdig2 hh1 hh2, rdig2 hi1 hi2, rdig2 hs1 hs2, rdig4 hy1 hy2 hy3 hy4]
    rfl
theorem claim0_c (d : RD) (now : Int) (h : rmay d = true) : pform dform0 (rfixed d) now = some (rtick d) := by
  obtain ⟨a1, a2, a3, a4, a5, a6, a7, a8, a9, a10, a11, a12⟩ := rmay_is h
  have hl := dlong_hi d.year d.month
  obtain ⟨y1, y2, y3, y4, ry, hy1, hy2, hy3, hy4, ey⟩ := rdig4_is d.year (by omega) (by omega)
  obtain ⟨d1, d2, rd, hd1, hd2, ed⟩ := rdig2_is d.day (by omega) (by omega)
  obtain ⟨h1, h2, rh, hh1, hh2, eh⟩ := rdig2_is d.hour (by omega) (by omega)
  obtain ⟨i1, i2, ri, hi1, hi2, ei⟩ := rdig2_is d.minute (by omega) (by omega)
  obtain ⟨s1, s2, rs, hs1, hs2, es⟩ := rdig2_is d.second (by omega) (by omega)
  obtain ⟨j, hj, rm, em⟩ := rmon_is d.month (by omega) (by omega)
  have hk : (rcount d % 7).toNat < 7 := by omega
  have hkc : (((rcount d % 7).toNat : Nat) : Int) = rcount d % 7 := by omega
  have hp := comp0 hk hj hd1 hd2 hy1 hy2 hy3 hy4 hh1 hh2 hi1 hi2 hs1 hs2
  rw [ey, ed, eh, ei, es, em, hkc] at hp
  unfold rfixed rclock
  rw [rwd_short, rm, rh, ri, rs, ry]
  rw [rd]
  refine pform_of hp ?_
  rw [tick_is _ now d ?_ ⟨by show 1 ≤ d.month; omega, by show d.month ≤ 12; omega⟩ ⟨by show 0 ≤ d.hour; omega, by show 0 ≤ d.minute; omega, by show 0 ≤ d.second; omega⟩]
  · rw [if_pos ⟨h, rfl⟩]
  · rfl
theorem claim1_c (d : RD) (now : Int) (h : rmay d = true) {N : Int} (hy : d.year = rnear N now) : pform dform1 (rold d) now = some (rtick d) := by
  obtain ⟨a1, a2, a3, a4, a5, a6, a7, a8, a9, a10, a11, a12⟩ := rmay_is h
  have hl := dlong_hi d.year d.month
  obtain ⟨y1, y2, ry, hy1, hy2, ey⟩ := rdig2_is (d.year % 100) (by omega) (by omega)
  have ryy : rdig 2 d.year = [y1, y2] := by rw [← ry]; exact rdig2_cong (by omega)
  obtain ⟨d1, d2, rd, hd1, hd2, ed⟩ := rdig2_is d.day (by omega) (by omega)
  obtain ⟨h1, h2, rh, hh1, hh2, eh⟩ := rdig2_is d.hour (by omega) (by omega)
  obtain ⟨i1, i2, ri, hi1, hi2, ei⟩ := rdig2_is d.minute (by omega) (by omega)
  obtain ⟨s1, s2, rs, hs1, hs2, es⟩ := rdig2_is d.second (by omega) (by omega)
  obtain ⟨j, hj, rm, em⟩ := rmon_is d.month (by omega) (by omega)
  have hk : (rcount d % 7).toNat < 7 := by omega
  have hkc : (((rcount d % 7).toNat : Nat) : Int) = rcount d % 7 := by omega
  have hp := comp1 hk hj hd1 hd2 hy1 hy2 hh1 hh2 hi1 hi2 hs1 hs2
  rw [ey, ed, eh, ei, es, em, hkc] at hp
  unfold rold rclock
  rw [rwd_long, rm, rh, ri, rs, ryy]
  rw [rd]
  refine pform_of hp ?_
  rw [tick_is _ now d ?_ ⟨by show 1 ≤ d.month; omega, by show d.month ≤ 12; omega⟩ ⟨by show 0 ≤ d.hour; omega, by show 0 ≤ d.minute; omega, by show 0 ≤ d.second; omega⟩]
  · rw [if_pos ⟨h, rfl⟩]
  · show d = (⟨rnear (d.year % 100) now, d.month, d.day, d.hour, d.minute, d.second⟩ : RD)
    have : rnear (d.year % 100) now = d.year := by
      rw [hy]
      unfold rnear
      omega
    rw [this]
theorem claim2_c (d : RD) (now : Int) (h : rmay d = true) : pform dform2 (rplain d false) now = some (rtick d) := by
  obtain ⟨a1, a2, a3, a4, a5, a6, a7, a8, a9, a10, a11, a12⟩ := rmay_is h
  have hl := dlong_hi d.year d.month
  obtain ⟨y1, y2, y3, y4, ry, hy1, hy2, hy3, hy4, ey⟩ := rdig4_is d.year (by omega) (by omega)
  obtain ⟨d1, d2, rd, hd1, hd2, ed⟩ := rdig2_is d.day (by omega) (by omega)
  obtain ⟨h1, h2, rh, hh1, hh2, eh⟩ := rdig2_is d.hour (by omega) (by omega)
  obtain ⟨i1, i2, ri, hi1, hi2, ei⟩ := rdig2_is d.minute (by omega) (by omega)
  obtain ⟨s1, s2, rs, hs1, hs2, es⟩ := rdig2_is d.second (by omega) (by omega)
  obtain ⟨j, hj, rm, em⟩ := rmon_is d.month (by omega) (by omega)
  have hk : (rcount d % 7).toNat < 7 := by omega
  have hkc : (((rcount d % 7).toNat : Nat) : Int) = rcount d % 7 := by omega
  have hp := comp22 hk hj hd1 hd2 hh1 hh2 hi1 hi2 hs1 hs2 hy1 hy2 hy3 hy4
  rw [ey, ed, eh, ei, es, em, hkc] at hp
  unfold rplain rclock
  rw [rwd_short, rm, rh, ri, rs, ry]
  simp only [cond_false, rd]
  refine pform_of hp ?_
  rw [tick_is _ now d ?_ ⟨by show 1 ≤ d.month; omega, by show d.month ≤ 12; omega⟩ ⟨by show 0 ≤ d.hour; omega, by show 0 ≤ d.minute; omega, by show 0 ≤ d.second; omega⟩]
  · rw [if_pos ⟨h, rfl⟩]
  · rfl
theorem claim2_e (d : RD) (now : Int) (h : rmay d = true) (h9 : d.day ≤ 9) : pform dform2 (rplain d true) now = some (rtick d) := by
  obtain ⟨a1, a2, a3, a4, a5, a6, a7, a8, a9, a10, a11, a12⟩ := rmay_is h
  have hl := dlong_hi d.year d.month
  obtain ⟨y1, y2, y3, y4, ry, hy1, hy2, hy3, hy4, ey⟩ := rdig4_is d.year (by omega) (by omega)
  obtain ⟨d1, rd, hd1, ed⟩ := rdig1_is d.day (by omega) (by omega)
  obtain ⟨h1, h2, rh, hh1, hh2, eh⟩ := rdig2_is d.hour (by omega) (by omega)
  obtain ⟨i1, i2, ri, hi1, hi2, ei⟩ := rdig2_is d.minute (by omega) (by omega)
  obtain ⟨s1, s2, rs, hs1, hs2, es⟩ := rdig2_is d.second (by omega) (by omega)
  obtain ⟨j, hj, rm, em⟩ := rmon_is d.month (by omega) (by omega)
  have hk : (rcount d % 7).toNat < 7 := by omega
  have hkc : (((rcount d % 7).toNat : Nat) : Int) = rcount d % 7 := by omega
  have hp := comp21 hk hj hd1 hh1 hh2 hi1 hi2 hs1 hs2 hy1 hy2 hy3 hy4
  rw [ey, ed, eh, ei, es, em, hkc] at hp
  unfold rplain rclock
  rw [rwd_short, rm, rh, ri, rs, ry]
  simp only [cond_true, rd]
  refine pform_of hp ?_
  rw [tick_is _ now d ?_ ⟨by show 1 ≤ d.month; omega, by show d.month ≤ 12; omega⟩ ⟨by show 0 ≤ d.hour; omega, by show 0 ≤ d.minute; omega, by show 0 ≤ d.second; omega⟩]
  · rw [if_pos ⟨h, rfl⟩]
  · rfl
/-- THE DOCUMENT'S DATE IS THE PROGRAM'S. -/
theorem date_eq (s : List UInt8) (now : Int) : dateP s now = rparse s now := by
  unfold dateP
  rw [dparse_pf, dparse_pf, dparse_pf]
  unfold rparse
  by_cases hA : rmay (rdA s) = true ∧ rfixed (rdA s) = s
  · rw [if_pos hA]
    have h := claim0_c (rdA s) now hA.1
    rw [hA.2] at h
    rw [h]
  · rw [if_neg hA]
    have h0 : pform dform0 s now = none := by
      cases h : pform dform0 s now with
      | none => rfl
      | some T => obtain ⟨h1, h2, _⟩ := claim0_s h; exact absurd ⟨h1, h2⟩ hA
    rw [h0]
    simp only
    by_cases hB : 0 ≤ rnum s (rcomma s + 9) 2 ∧ rmay (rdB s now) = true ∧ rold (rdB s now) = s
    · rw [if_pos hB]
      have h := claim1_c (rdB s now) now hB.2.1 rfl
      rw [hB.2.2] at h
      rw [h]
    · rw [if_neg hB]
      have h1 : pform dform1 s now = none := by
        cases h : pform dform1 s now with
        | none => rfl
        | some T => obtain ⟨h1, h2, h3, _⟩ := claim1_s h; exact absurd ⟨h1, h2, h3⟩ hB
      rw [h1]
      simp only
      by_cases hC : rmay (rdC s) = true ∧ rplain (rdC s) false = s
      · rw [if_pos hC]
        have h := claim2_c (rdC s) now hC.1
        rw [hC.2] at h
        rw [h]
      · rw [if_neg hC]
        by_cases hE : rmay (rdE s) = true ∧ rplain (rdE s) true = s
        · rw [if_pos hE]
          have h := claim2_e (rdE s) now hE.1 (rnum_hi1 _ _)
          rw [hE.2] at h
          rw [h]
        · rw [if_neg hE]
          have h2 : pform dform2 s now = none := by
            cases h : pform dform2 s now with
            | none => rfl
            | some T =>
              rcases claim2_s h with ⟨h1, h2, _⟩ | ⟨_, h1, h2, _⟩
              · exact absurd ⟨h1, h2⟩ hC
              · exact absurd ⟨h1, h2⟩ hE
          rw [h2]
          rfl
end Go.Proofs.YtgmmjhcklhajiaaGreatDoor
/- How long what is told of a reply may be; its dates are ticks. -/
namespace Go.Proofs.YtgmmjhcklhajiaaGreatDoor
open Go.RowKit

theorem dlist_lens {vs : List (List UInt8)} {B : Nat} (hv : ∀ v ∈ vs, v.length ≤ B) : ∀ d ∈ dlistL vs, d.name.length ≤ B + 8 ∧ d.value.length ≤ B + 8 := by
  intro d hd
  unfold dlistL at hd
  obtain ⟨v, hv1, hd⟩ := List.mem_flatMap.1 hd
  unfold dirsOf at hd
  obtain ⟨p, hp, hd⟩ := List.mem_filterMap.1 hd
  have hpl : p.length ≤ v.length + 8 := by
    unfold pcsL at hp
    cases hz : ((splitL 44 v).2 == 0)
    · rw [hz, cond_false, List.mem_singleton] at hp
      subst hp
      show 8 ≤ _
      omega
    · rw [hz, cond_true] at hp
      have h1 := total_mem hp
      have h2 := split_total 44 v
      omega
  have h3 := said_lens hd
  have := hv v hv1
  omega
theorem rtick_in {d : RD} (h : rmay d = true) : 0 ≤ rtick d ∧ rtick d ≤ 400000000000 := by
  obtain ⟨h1, h2, h3, h4, h5, h6, h7, h8, h9, h10, h11, h12⟩ := rmay_is h
  have hl := dlong_hi d.year d.month
  have ha := dahead_ge d.year h1
  have hm := dmons_le d.year (d.month.toNat - 1)
  have hk : ((d.month.toNat - 1 : Nat) : Int) ≤ 11 := by omega
  unfold rtick rcount
  generalize dmons d.year (d.month.toNat - 1) = a at *
  generalize dahead d.year = b at *
  omega
theorem dateP_in (s : List UInt8) (now : Int) : 0 ≤ (dateP s now).1 ∧ (dateP s now).1 ≤ 400000000000 := by
  rw [date_eq]
  unfold rparse
  split
  · rename_i h; exact rtick_in h.1
  · split
    · rename_i h; exact rtick_in h.2.1
    · split
      · rename_i h; exact rtick_in h.1
      · split
        · rename_i h; exact rtick_in h.1
        · simp
theorem whenF_in (xs : List Fld) (nm : List UInt8) (got : Int) : 0 ≤ (whenF xs nm got).1 ∧ (whenF xs nm got).1 ≤ 400000000000 := by
  unfold whenF
  cases (getL xs nm).2
  · simp
  · exact dateP_in _ _
end Go.Proofs.YtgmmjhcklhajiaaGreatDoor
/- Blocks of eight cells. -/
namespace Go.Proofs.YtgmmjhcklhajiaaGreatDoor
open Go.RowKit
/-- Eight cells of a block. -/
def Box8 (b : Nat) (v0 v1 v2 v3 v4 v5 v6 v7 : Value) (w : World) : Prop :=
  b < w.heap.size ∧ w.cell? ⟨b, 0, none⟩ = some v0 ∧ w.cell? ⟨b, 1, none⟩ = some v1 ∧ w.cell? ⟨b, 2, none⟩ = some v2 ∧ w.cell? ⟨b, 3, none⟩ = some v3 ∧ w.cell? ⟨b, 4, none⟩ = some v4 ∧ w.cell? ⟨b, 5, none⟩ = some v5 ∧ w.cell? ⟨b, 6, none⟩ = some v6 ∧ w.cell? ⟨b, 7, none⟩ = some v7
theorem Box8.below {b : Nat} {v0 v1 v2 v3 v4 v5 v6 v7 : Value} {w w' : World} (h : Box8 b v0 v1 v2 v3 v4 v5 v6 v7 w) (hb : Below w.heap.size w w') : Box8 b v0 v1 v2 v3 v4 v5 v6 v7 w' := by
  obtain ⟨h0, h1, h2, h3, h4, h5, h6, h7, h8⟩ := h
  exact ⟨Nat.lt_of_lt_of_le h0 hb.size, (hb.cell (p := ⟨b, 0, none⟩) h0).trans h1, (hb.cell (p := ⟨b, 1, none⟩) h0).trans h2, (hb.cell (p := ⟨b, 2, none⟩) h0).trans h3, (hb.cell (p := ⟨b, 3, none⟩) h0).trans h4, (hb.cell (p := ⟨b, 4, none⟩) h0).trans h5, (hb.cell (p := ⟨b, 5, none⟩) h0).trans h6, (hb.cell (p := ⟨b, 6, none⟩) h0).trans h7, (hb.cell (p := ⟨b, 7, none⟩) h0).trans h8⟩
theorem zero8_after {wr w5 : World} {v0 v1 v2 v3 v4 v5 v6 v7 : Value} {T : TypeId} (h : Below ((wr.alloc (.cells #[v0, v1, v2, v3, v4, v5, v6, v7] T)).drew).heap.size (wr.alloc (.cells #[v0, v1, v2, v3, v4, v5, v6, v7] T)).drew w5) :
    (w5.cell? ⟨wr.heap.size, 0, none⟩ = some v0 ∧ w5.cell? ⟨wr.heap.size, 1, none⟩ = some v1 ∧ w5.cell? ⟨wr.heap.size, 2, none⟩ = some v2 ∧ w5.cell? ⟨wr.heap.size, 3, none⟩ = some v3 ∧ w5.cell? ⟨wr.heap.size, 4, none⟩ = some v4 ∧ w5.cell? ⟨wr.heap.size, 5, none⟩ = some v5 ∧ w5.cell? ⟨wr.heap.size, 6, none⟩ = some v6 ∧ w5.cell? ⟨wr.heap.size, 7, none⟩ = some v7) ∧
    (∀ j, w5.frozen? ⟨wr.heap.size, j, none⟩ = false) ∧ w5.heap[wr.heap.size]? = some (.cells #[v0, v1, v2, v3, v4, v5, v6, v7] T (0, 0)) := by
  have hs : wr.heap.size < ((wr.alloc (.cells #[v0, v1, v2, v3, v4, v5, v6, v7] T)).drew).heap.size := by simp
  have hc : ∀ j, w5.cell? ⟨wr.heap.size, j, none⟩ = #[v0, v1, v2, v3, v4, v5, v6, v7][j]? := fun j => (h.cell (p := ⟨wr.heap.size, j, none⟩) hs).trans (World.cell?_alloc_mark wr _ _ _ j)
  refine ⟨⟨hc 0, hc 1, hc 2, hc 3, hc 4, hc 5, hc 6, hc 7⟩, fun j => ?_, (h.block _ hs).trans (heap_new wr _ _ rfl)⟩
  refine (h.frozen (p := ⟨wr.heap.size, j, none⟩) hs).trans ?_
  exact (World.frozen?_alloc_mark wr _ _ _ _ j).trans (by simp)
theorem heap_setN {w : World} {b j : Nat} {v : Value} {cs : Array Value} {T : TypeId} {m : Nat × Nat} (h : w.heap[b]? = some (.cells cs T m)) : (w.setCell ⟨b, j, none⟩ v).heap[b]? = some (.cells (cs.setIfInBounds j v) T m) := by
  simp [World.setCell, Array.getElem?_modify, h]
def set8 (w5 : World) (g : Nat) (v0 v1 v2 v3 v4 v5 v6 v7 : Value) : World := ((((((((w5.setCell ⟨g, 0, none⟩ v0).setCell ⟨g, 1, none⟩ v1).setCell ⟨g, 2, none⟩ v2).setCell ⟨g, 3, none⟩ v3).setCell ⟨g, 4, none⟩ v4).setCell ⟨g, 5, none⟩ v5).setCell ⟨g, 6, none⟩ v6).setCell ⟨g, 7, none⟩ v7)
theorem setCell_grown (w : World) (g j : Nat) (v : Value) : w.grownBy (w.setCell ⟨g, j, none⟩ v) (some g) :=
  ⟨rfl, rfl, rfl, by simp, fun k _ hne => Below.heap_setCell _ _ _ _ (by exact fun e => hne (by rw [e]))⟩
theorem set8_grown (w5 : World) (g : Nat) (v0 v1 v2 v3 v4 v5 v6 v7 : Value) : w5.grownBy (set8 w5 g v0 v1 v2 v3 v4 v5 v6 v7) (some g) := by
  have h0 := setCell_grown w5 g 0 v0
  have h1 := h0.trans (setCell_grown _ g 1 v1)
  have h2 := h1.trans (setCell_grown _ g 2 v2)
  have h3 := h2.trans (setCell_grown _ g 3 v3)
  have h4 := h3.trans (setCell_grown _ g 4 v4)
  have h5 := h4.trans (setCell_grown _ g 5 v5)
  have h6 := h5.trans (setCell_grown _ g 6 v6)
  have h7 := h6.trans (setCell_grown _ g 7 v7)
  unfold set8
  with_reducible exact h7
theorem set8_below {wr w5 : World} {g : Nat} (h : Below g wr w5) (v0 v1 v2 v3 v4 v5 v6 v7 : Value) : Below g wr (set8 w5 g v0 v1 v2 v3 v4 v5 v6 v7) := by
  unfold set8
  exact (((((((h.setCell (Nat.le_refl _) _).setCell (Nat.le_refl _) _).setCell (Nat.le_refl _) _).setCell (Nat.le_refl _) _).setCell (Nat.le_refl _) _).setCell (Nat.le_refl _) _).setCell (Nat.le_refl _) _).setCell (Nat.le_refl _) _
theorem set8_box {w5 : World} {g : Nat} {z0 z1 z2 z3 z4 z5 z6 z7 : Value} {T : TypeId} (h : w5.heap[g]? = some (.cells #[z0, z1, z2, z3, z4, z5, z6, z7] T (0, 0))) (v0 v1 v2 v3 v4 v5 v6 v7 : Value) : Box8 g v0 v1 v2 v3 v4 v5 v6 v7 (set8 w5 g v0 v1 v2 v3 v4 v5 v6 v7) := by
  have h0 := heap_setN (j := 0) (v := v0) h
  have h1 := heap_setN (j := 1) (v := v1) h0
  have h2 := heap_setN (j := 2) (v := v2) h1
  have h3 := heap_setN (j := 3) (v := v3) h2
  have h4 := heap_setN (j := 4) (v := v4) h3
  have h5 := heap_setN (j := 5) (v := v5) h4
  have h6 := heap_setN (j := 6) (v := v6) h5
  have h7 := heap_setN (j := 7) (v := v7) h6
  clear h0 h1 h2 h3 h4 h5 h6
  have e : (((((((((#[z0, z1, z2, z3, z4, z5, z6, z7] : Array Value).setIfInBounds 0 v0).setIfInBounds 1 v1).setIfInBounds 2 v2).setIfInBounds 3 v3).setIfInBounds 4 v4).setIfInBounds 5 v5).setIfInBounds 6 v6).setIfInBounds 7 v7) = #[v0, v1, v2, v3, v4, v5, v6, v7] := by simp only [List.setIfInBounds_toArray, List.set_cons_zero, List.set_cons_succ]
  rw [e] at h7
  have hs : set8 w5 g v0 v1 v2 v3 v4 v5 v6 v7 = set8 w5 g v0 v1 v2 v3 v4 v5 v6 v7 := rfl
  conv at hs => lhs; unfold set8
  rw [hs] at h7
  generalize set8 w5 g v0 v1 v2 v3 v4 v5 v6 v7 = X at *
  have hc : ∀ j, X.cell? ⟨g, j, none⟩ = #[v0, v1, v2, v3, v4, v5, v6, v7][j]? := fun j => (of_heap h7 j).1
  exact ⟨(of_heap h7 0).2.2, hc 0, hc 1, hc 2, hc 3, hc 4, hc 5, hc 6, hc 7⟩
end Go.Proofs.YtgmmjhcklhajiaaGreatDoor
/- The walks of layer 13's rules. -/
namespace Go.Proofs.YtgmmjhcklhajiaaGreatDoor
open Go.RowKit
set_option maxRecDepth 100000

set_option maxHeartbeats 4000000 in
theorem surrogate_any (st mi asked got : Int) (re bo : ByteArray) (A V : Option Addr) (n c m d : Nat) (xs : List Fld) (dev : ByteArray) (w : World) (hM : MaxL w) (hr : Rd A n 2 (fldsV xs) w) (hn : n ≤ 1000) (hs : sumF xs ≤ 800000) :
    Calls Tryz.prog 62 #[entV st re mi A n c bo asked got V m d, .string dev] w fun e w' => e = .returned (.tuple #[.int .i64 (surF xs dev.data.toList).1, .bool (surF xs dev.data.toList).2]) ∧ Below w.heap.size w w' := by
  obtain ⟨W1, hW1⟩ : ∃ W1, w.alloc (.cells #[.int .i64 st, .string re, .int .i64 mi, .slice A n c, .string bo, .int .i64 asked, .int .i64 got, .slice V m d] 26) = W1 := ⟨_, rfl⟩
  have b1 : Below w.heap.size w W1 := by rw [← hW1]; exact (Below.refl w.heap.size w).alloc (Nat.le_refl _) _
  have x1 : W1.heap[w.heap.size]? = some (.cells #[.int .i64 st, .string re, .int .i64 mi, .slice A n c, .string bo, .int .i64 asked, .int .i64 got, .slice V m d] 26 (0, 0)) := by rw [← hW1]; exact heap_new w _ _ rfl
  have k1 := control_any st mi asked got re bo A V n c m d xs dev W1 (hM.below b1) (hr.below b1) hn hs
  unfold surF
  generalize ctlF xs dev.data.toList = k at *
  obtain ⟨a, b, e, h, ag, ex⟩ := k
  unfold ctlV at k1
  simp only at k1 ⊢
  have k2 := fun W => of_any ag W
  have c0 := (of_heap x1 0).1; have c1 := (of_heap x1 1).1; have c2 := (of_heap x1 2).1; have c3 := (of_heap x1 3).1; have c4 := (of_heap x1 4).1; have c5 := (of_heap x1 5).1; have c6 := (of_heap x1 6).1; have c7 := (of_heap x1 7).1
  simp only [List.getElem?_toArray, List.getElem?_cons_succ, List.getElem?_cons_zero] at c0 c1 c2 c3 c4 c5 c6 c7
  have K1 := Lib.hid k1; have K2 := Lib.hid k2; have HW1 := Lib.hid hW1; have B1 := Lib.hid b1
  clear k1 k2 hr hs hM hW1 b1 x1
  unfold entV at *
  go_enter Tryz.func62, Tryz.ntmps62
  go_wp2_with fail
  rw [HW1.out]
  (with_reducible refine K1.out.mono ?_)
  rintro e1 w1 ⟨rfl, hb1⟩
  obtain ⟨W2, hW2⟩ : ∃ W2, w1.alloc (.cells #[.bool a, .bool b, .bool e, .bool h, .int .i64 ag, .int .i64 ex] 94) = W2 := ⟨_, rfl⟩
  have b2 : Below w1.heap.size w1 W2 := by rw [← hW2]; exact (Below.refl w1.heap.size w1).alloc (Nat.le_refl _) _
  have x2 : W2.heap[w1.heap.size]? = some (.cells #[.bool a, .bool b, .bool e, .bool h, .int .i64 ag, .int .i64 ex] 94 (0, 0)) := by rw [← hW2]; exact heap_new w1 _ _ rfl
  have d3 := (of_heap x2 3).1; have d4 := (of_heap x2 4).1
  simp only [List.getElem?_toArray, List.getElem?_cons_succ, List.getElem?_cons_zero] at d3 d4
  have HB := Lib.hid (bt (bt B1.out hb1) b2); have HW2 := Lib.hid hW2
  clear hb1 b2 hW2 x2 K1 B1 c0 c1 c2 c3 c4 c5 c6 c7 HW1
  go_upto_region 2 with (fail)
  rw [HW2.out]
  go_quiet (first | (go_at_call 45; with_reducible exact (K2.out _).mono (fun _ _ ⟨h1, h2⟩ => ⟨h1, _, h2.symm⟩)))
  go_wp2
  go_ret2
  exact ⟨rfl, Go.below_drewN HB.out _⟩

theorem named_any (nm : ByteArray) (none : Bool) (w : World) :
    Calls Tryz.prog 63 #[.string nm, .bool none] w fun e w' => e = .returned (.agg #[.func (.func 117) #[] #[.pointer (some ⟨w.heap.size, 0, .none⟩), .pointer (some ⟨w.heap.size + 1, 0, .none⟩)]]) ∧ w'.cell? ⟨w.heap.size, 0, .none⟩ = some (.string nm) ∧ w'.cell? ⟨w.heap.size + 1, 0, .none⟩ = some (.bool none) ∧ w.heap.size + 1 < w'.heap.size ∧ Below w.heap.size w w' := by
  go_enter Tryz.func63, Tryz.ntmps63
  obtain ⟨W1, hW1⟩ : ∃ W1, w.alloc (.cells #[.string nm] 9) = W1 := ⟨_, rfl⟩
  have b1 : Below w.heap.size w W1 := by rw [← hW1]; exact (Below.refl w.heap.size w).alloc (Nat.le_refl _) _
  have z1 : W1.heap.size = w.heap.size + 1 := by rw [← hW1]; simp
  have c1 : W1.cell? ⟨w.heap.size, 0, .none⟩ = some (.string nm) := by rw [← hW1]; exact World.cell?_alloc_mark w _ _ _ 0
  obtain ⟨W2, hW2⟩ : ∃ W2, W1.alloc (.cells #[.bool none] 4) = W2 := ⟨_, rfl⟩
  have b2 : Below W1.heap.size W1 W2 := by rw [← hW2]; exact (Below.refl W1.heap.size W1).alloc (Nat.le_refl _) _
  have z2 : W2.heap.size = w.heap.size + 2 := by rw [← hW2]; simp [z1]
  have c2 : W2.cell? ⟨w.heap.size + 1, 0, .none⟩ = some (.bool none) := by rw [← hW2, ← z1]; exact World.cell?_alloc_mark W1 _ _ _ 0
  have b3 := (Below.refl W2.heap.size W2).alloc (Nat.le_refl _) (.cells #[.func (.func 117) #[] #[.pointer (some ⟨w.heap.size, 0, .none⟩), .pointer (some ⟨w.heap.size + 1, 0, .none⟩)]] 84)
  have d1 := (b3.cell (p := ⟨w.heap.size, 0, .none⟩) (by show w.heap.size < _; omega)).trans ((b2.cell (p := ⟨w.heap.size, 0, .none⟩) (by show w.heap.size < _; omega)).trans c1)
  have d2 := (b3.cell (p := ⟨w.heap.size + 1, 0, .none⟩) (by show w.heap.size + 1 < _; omega)).trans c2
  have d3 := b3.size
  have HW1 := Lib.hid hW1; have HW2 := Lib.hid hW2; have HB := Lib.hid (bt (bt b1 b2) b3)
  have D1 := Lib.hid d1; have D2 := Lib.hid d2; have Z2 := Lib.hid z2; have D3 := Lib.hid d3
  clear hW1 hW2 b1 b2 b3 c1 c2 d1 d2 z1 z2 d3
  go_wp2_with fail
  rw [HW1.out, HW2.out]
  refine bodyPost_ret_by (v := .agg #[.func (.func 117) #[] #[.pointer (some ⟨w.heap.size, 0, .none⟩), .pointer (some ⟨w.heap.size + 1, 0, .none⟩)]]) ?_ rfl ?_
  · rw [results_cell_one rfl]
    rw [← HW2.out, ← HW1.out]
    go_simp
  · exact ⟨rfl, D1.out, D2.out, by have := Z2.out; have := D3.out; omega, HB.out⟩

set_option maxHeartbeats 8000000 in
theorem rule_any (N B : Nat) (nm : List UInt8) (none : Bool) (st mi asked got : Int) (re bo : ByteArray) (A V : Option Addr) (n c m d : Nat) (xs : List Fld) (dev : ByteArray) (w : World) (hM : MaxL w) (hr : Rd A n 2 (fldsV xs) w) (hn : n ≤ 1000) (hs : sumF xs ≤ 800000) (hnm : nm.length ≤ 100)
    (hN : w.cell? ⟨N, 0, .none⟩ = some (.string ⟨nm.toArray⟩)) (hB : w.cell? ⟨B, 0, .none⟩ = some (.bool none)) (hNl : N < w.heap.size) (hBl : B < w.heap.size) :
    Calls Tryz.prog 117 #[entV st re mi A n c bo asked got V m d, .string dev, .pointer (some ⟨N, 0, .none⟩), .pointer (some ⟨B, 0, .none⟩)] w fun e w' => e = .returned (.tuple #[.int .i64 (ruleF none nm xs).1, .bool (ruleF none nm xs).2]) ∧ Below w.heap.size w w' := by
  obtain ⟨W1, hW1⟩ : ∃ W1, w.alloc (.cells #[.int .i64 st, .string re, .int .i64 mi, .slice A n c, .string bo, .int .i64 asked, .int .i64 got, .slice V m d] 26) = W1 := ⟨_, rfl⟩
  have b1 : Below w.heap.size w W1 := by rw [← hW1]; exact (Below.refl w.heap.size w).alloc (Nat.le_refl _) _
  have x1 : W1.heap[w.heap.size]? = some (.cells #[.int .i64 st, .string re, .int .i64 mi, .slice A n c, .string bo, .int .i64 asked, .int .i64 got, .slice V m d] 26 (0, 0)) := by rw [← hW1]; exact heap_new w _ _ rfl
  have k1 := fun W (hb : Below W1.heap.size W1 W) => values_any A n c xs ⟨#[99, 97, 99, 104, 101, 45, 99, 111, 110, 116, 114, 111, 108]⟩ W (hr.below (bt b1 hb)) (by omega) (fun f hf => by have := sumF_mem hf; omega) (by decide)
  have hvl := valuesL_le xs fCC
  have hvm : ∀ v ∈ valuesL xs fCC, v.length ≤ 900000 := fun v hv => by have := valuesL_sum hv; omega
  rw [show (⟨#[99, 97, 99, 104, 101, 45, 99, 111, 110, 116, 114, 111, 108]⟩ : ByteArray).data.toList = fCC from rfl] at k1
  have k2 := fun W (hb : Below w.heap.size w W) a c' (h : Rd a (valuesL xs fCC).length 1 (strsV (valuesL xs fCC)) W) => dlist_any a (valuesL xs fCC).length c' (valuesL xs fCC) W (hM.below hb) h (by have := hr.fld; omega) (fun v hv => by have := hvm v hv; omega)
  have hgd := dlist_lens (B := 900000) hvm
  have hfw := dlistL_few (valuesL xs fCC)
  have hfl := hr.fld
  have hrf : ruleF none nm xs = match findO (dlistL (valuesL xs fCC)) nm with | some d => (bif none then 0 else numF d.value, true) | Option.none => (0, false) := rfl
  rw [hrf]
  clear hrf
  have hvd : ∀ d, findO (dlistL (valuesL xs fCC)) nm = some d → d.value.length ≤ 1000000 := fun d hd => by have := (hgd d (List.mem_of_find?_eq_some hd)).2; omega
  have hcap : (dlistL (valuesL xs fCC)).length ≤ 1000000 := by omega
  have hnd : ∀ d ∈ dlistL (valuesL xs fCC), d.name.length ≤ 140737488351232 := fun d hd => by have := (hgd d hd).1; omega
  generalize dlistL (valuesL xs fCC) = ds at *
  have k3 := fun W a c' (h : Rd a ds.length 4 (dirsV ds) W) => find_any a ds.length c' ds ⟨nm.toArray⟩ W h hcap hnd (by rw [Lib.size_eq]; show nm.length ≤ _; omega)
  simp only at k3
  have k4 := fun (d : Dir) (hd : findO ds nm = some d) W => number_any ⟨d.value.toArray⟩ W (by rw [Lib.size_eq]; exact hvd d hd)
  have x3 := (of_heap x1 3).1
  have hEl := (of_heap x1 3).2.2
  simp only [List.getElem?_toArray, List.getElem?_cons_succ, List.getElem?_cons_zero] at x3
  have n1 := (b1.cell (p := ⟨N, 0, .none⟩) hNl).trans hN
  have n2 := (b1.cell (p := ⟨B, 0, .none⟩) hBl).trans hB
  have hNl1 := Nat.lt_of_lt_of_le hNl b1.size
  have hBl1 := Nat.lt_of_lt_of_le hBl b1.size
  generalize valuesL xs fCC = vs at *
  generalize findO ds nm = o at *
  have HW1 := Lib.hid hW1; have K1 := Lib.hid k1; have K2 := Lib.hid k2; have K3 := Lib.hid k3; have K4 := Lib.hid k4; have B1 := Lib.hid b1
  clear hW1 k1 k2 k3 k4 x1 hr hs hM b1 hvl hvm hN hB hgd hfw hfl hvd hcap hnd
  unfold entV
  have kc : ∀ w', Below W1.heap.size W1 w' → w'.cell? ⟨w.heap.size, 3, .none⟩ = some (.slice A n c) ∧ w'.cell? ⟨N, 0, .none⟩ = some (.string ⟨nm.toArray⟩) ∧ Below W1.heap.size W1 w' := fun w' hb => ⟨(hb.cell (p := ⟨w.heap.size, 3, .none⟩) hEl).trans x3, (hb.cell (p := ⟨N, 0, .none⟩) hNl1).trans n1, hb⟩
  have KC := Lib.hid kc
  have hd0 : Below W1.heap.size W1 W1.drew := (Below.refl _ _).drew
  clear kc
  go_enter Tryz.func117, Tryz.ntmps117
  go_upto_region 1 with (fail)
  rw [HW1.out]
  go_wp2_with fail
  unfold saidV at *
  cases o with
  | none =>
    simp only at K3
    have k7 := fun W => number_any ⟨#[]⟩ W (by decide)
    have hn0 : numF (⟨#[]⟩ : ByteArray).data.toList = 0 := rfl
    rw [hn0] at k7
    have K7 := Lib.hid k7
    clear k7 K4
    refine wp_region_held_drew (S := (fun w' => w'.cell? ⟨w.heap.size, 3, .none⟩ = some (.slice A n c) ∧ w'.cell? ⟨N, 0, .none⟩ = some (.string ⟨nm.toArray⟩) ∧ Below W1.heap.size W1 w')) (by kernel_rfl) (KC.out _ hd0) (fun hHeld => ?_)
    refine wpAnyH_take (i := 0) (v := ?_) (by simp only [List.getElem?_toArray, List.getElem?_cons_zero]; exact rfl) (by kernel_rfl) (by kernel_rfl) (by kernel_rfl) (by intro _ _ _ h; exact h) (Or.inl ⟨by rfl, fun W hSw => ?_⟩) hHeld ?_
    rotate_left
    focus ((try dsimp only at hSw); first | (go_simp; done) | (go_simp; with_reducible rfl))
    try simp only [Act.put, List.setIfInBounds_toArray, List.set_cons_zero, List.set_cons_succ]
    refine wpAnyH_take (i := 1) (v := ?_) (by simp only [List.getElem?_toArray, List.getElem?_cons_succ, List.getElem?_cons_zero]; exact rfl) (by kernel_rfl) (by kernel_rfl) (by kernel_rfl) (by intro _ _ _ h; exact h) (Or.inl ⟨by rfl, fun W hSw => ?_⟩) hHeld ?_
    rotate_left
    focus ((try dsimp only at hSw); first | (go_simp; done) | (go_simp; with_reducible rfl))
    try simp only [Act.put, List.setIfInBounds_toArray, List.set_cons_zero, List.set_cons_succ]
    refine wpAnyH_take (i := 2) (v := ?_) (by simp only [List.getElem?_toArray, List.getElem?_cons_succ, List.getElem?_cons_zero]; exact rfl) (by kernel_rfl) (by kernel_rfl) (by kernel_rfl) (by intro _ _ _ h; exact h) (Or.inl ⟨by rfl, fun W hSw => ?_⟩) hHeld ?_
    rotate_left
    focus ((try dsimp only at hSw); first | (go_simp; done) | (go_simp; with_reducible rfl))
    try simp only [Act.put, List.setIfInBounds_toArray, List.set_cons_zero, List.set_cons_succ]
    refine wpAnyH_take (i := 5) (v := ?_) (by simp only [List.getElem?_toArray, List.getElem?_cons_succ, List.getElem?_cons_zero]; exact rfl) (by kernel_rfl) (by kernel_rfl) (by kernel_rfl) (by intro _ _ _ h; exact h) (Or.inl ⟨by rfl, fun W hSw => ?_⟩) hHeld ?_
    rotate_left
    focus ((try dsimp only at hSw); first | (go_simp; done) | (go_simp; with_reducible rfl))
    try simp only [Act.put, List.setIfInBounds_toArray, List.set_cons_zero, List.set_cons_succ]
    refine wpAnyH_ready (rs := [3, 10]) (by kernel_rfl) (by simp) (AllReadyH.cons (by simp only [List.getElem?_toArray, List.getElem?_cons_succ, List.getElem?_cons_zero]; exact rfl) (fun K hK => ?_) (AllReadyH.cons (by simp only [List.getElem?_toArray, List.getElem?_cons_succ, List.getElem?_cons_zero]; exact rfl) (fun K hK => ?_) AllReadyH.nil))
    · rw [if_pos (by rfl)]
      go_simp
      (with_reducible refine (K1.out _ hd0).mono ?_)
      rintro e w1 ⟨a1, c1, rfl, ho1, hb1⟩
      have hd1 := bt hd0 hb1
      have ho1 := ho1.rd.2
      go_wp2_with fail
      refine hK.out _ _ (KC.out _ hd1) (fun hHeld => ?_)
      clear hK K
      try simp only [Act.put, List.setIfInBounds_toArray, List.set_cons_zero, List.set_cons_succ]
      refine wpAnyH_ready (rs := [4, 10]) (by kernel_rfl) (by simp) (AllReadyH.cons (by simp only [List.getElem?_toArray, List.getElem?_cons_succ, List.getElem?_cons_zero]; exact rfl) (fun K hK => ?_) (AllReadyH.cons (by simp only [List.getElem?_toArray, List.getElem?_cons_succ, List.getElem?_cons_zero]; exact rfl) (fun K hK => ?_) AllReadyH.nil))
      · rw [if_pos (by rfl)]
        go_simp
        (with_reducible refine (K2.out _ (bt B1.out hd1) _ c1 (ho1)).mono ?_)
        rintro e w2 ⟨a2, c2, rfl, ho2, hb2⟩
        have hd2 := bt hd1 hb2
        have ho2 := ho2.rd.2
        go_wp2_with fail
        refine hK.out _ _ (KC.out _ hd2) (fun hHeld => ?_)
        clear hK K
        try simp only [Act.put, List.setIfInBounds_toArray, List.set_cons_zero, List.set_cons_succ]
        refine wpAnyH_ready (rs := [6, 10]) (by kernel_rfl) (by simp) (AllReadyH.cons (by simp only [List.getElem?_toArray, List.getElem?_cons_succ, List.getElem?_cons_zero]; exact rfl) (fun K hK => ?_) (AllReadyH.cons (by simp only [List.getElem?_toArray, List.getElem?_cons_succ, List.getElem?_cons_zero]; exact rfl) (fun K hK => ?_) AllReadyH.nil))
        · rw [if_pos (by rfl)]
          go_simp
          (with_reducible refine (K3.out _ a2 c2 (ho2)).mono ?_)
          rintro e w3 ⟨rfl, hb3⟩
          have hd3 := bt hd2 hb3
          go_wp2_with fail
          refine hK.out _ _ (KC.out _ hd3) (fun hHeld => ?_)
          clear hK K
          try simp only [Act.put, List.setIfInBounds_toArray, List.set_cons_zero, List.set_cons_succ]
          refine wpAnyH_take (i := 7) (v := ?_) (by simp only [List.getElem?_toArray, List.getElem?_cons_succ, List.getElem?_cons_zero]; exact rfl) (by kernel_rfl) (by kernel_rfl) (by kernel_rfl) (by intro _ _ _ h; exact h) (Or.inl ⟨by rfl, fun W hSw => ?_⟩) hHeld ?_
          rotate_left
          focus ((try dsimp only at hSw); first | (go_simp; done) | (go_simp; with_reducible rfl))
          try simp only [Act.put, List.setIfInBounds_toArray, List.set_cons_zero, List.set_cons_succ]
          refine wpAnyH_take (i := 8) (v := ?_) (by simp only [List.getElem?_toArray, List.getElem?_cons_succ, List.getElem?_cons_zero]; exact rfl) (by kernel_rfl) (by kernel_rfl) (by kernel_rfl) (by intro _ _ _ h; exact h) (Or.inl ⟨by rfl, fun W hSw => ?_⟩) hHeld ?_
          rotate_left
          focus ((try dsimp only at hSw); first | (go_simp; done) | (go_simp; with_reducible rfl))
          try simp only [Act.put, List.setIfInBounds_toArray, List.set_cons_zero, List.set_cons_succ]
          refine wpAnyH_take (i := 9) (v := ?_) (by simp only [List.getElem?_toArray, List.getElem?_cons_succ, List.getElem?_cons_zero]; exact rfl) (by kernel_rfl) (by kernel_rfl) (by kernel_rfl) (by intro _ _ _ h; exact h) (Or.inl ⟨by rfl, fun W hSw => ?_⟩) hHeld ?_
          rotate_left
          focus ((try dsimp only at hSw); first | (go_simp; done) | (go_simp; with_reducible rfl))
          try simp only [Act.put, List.setIfInBounds_toArray, List.set_cons_zero, List.set_cons_succ]
          refine wpAnyH_ready (rs := [10]) (by kernel_rfl) (by simp) (AllReadyH.cons (by simp only [List.getElem?_toArray, List.getElem?_cons_succ, List.getElem?_cons_zero]; exact rfl) (fun K hK => ?_) AllReadyH.nil)
          rw [if_pos (by rfl)]
          go_simp
          have hal3 := hd3.alloc hd3.size (.cells #[.string ⟨#[]⟩, .string ⟨#[]⟩, .bool false, .string ⟨#[]⟩] 90)
          refine hK.out _ _ (KC.out _ hal3) (fun hHeld => ?_)
          clear hK K
          try simp only [Act.put, List.setIfInBounds_toArray, List.set_cons_zero, List.set_cons_succ]
          refine wpAnyH_ready (rs := [11]) (by kernel_rfl) (by simp) (AllReadyH.cons (by simp only [List.getElem?_toArray, List.getElem?_cons_succ, List.getElem?_cons_zero]; exact rfl) (fun K hK => ?_) AllReadyH.nil)
          rw [if_pos (by rfl)]
          go_simp
          have hfin := hd3.alloc hd3.size (.cells #[.string ⟨#[]⟩, .string ⟨#[]⟩, .bool false, .string ⟨#[]⟩] 90)
          refine hK.out _ _ (KC.out _ hfin) (fun hHeld => ?_)
          clear hK K
          try simp only [Act.put, List.setIfInBounds_toArray, List.set_cons_zero, List.set_cons_succ]
          have e1 : (w3.alloc (.cells #[.string ⟨#[]⟩, .string ⟨#[]⟩, .bool false, .string ⟨#[]⟩] 90)).cell? ⟨w3.heap.size, 1, .none⟩ = some (.string ⟨#[]⟩) := World.cell?_alloc_mark w3 _ _ _ 1
          refine wpAnyH_take (i := 12) (v := ?_) (by simp only [List.getElem?_toArray, List.getElem?_cons_succ, List.getElem?_cons_zero]; exact rfl) (by kernel_rfl) (by kernel_rfl) (by kernel_rfl) (by intro _ _ _ h; exact h) (Or.inl ⟨by rfl, fun W hSw => ?_⟩) hHeld ?_
          rotate_left
          focus ((try dsimp only at hSw); first | (go_simp; done) | (go_simp; with_reducible rfl))
          try simp only [Act.put, List.setIfInBounds_toArray, List.set_cons_zero, List.set_cons_succ]
          refine wpAnyH_done (by kernel_rfl) ?_ _
          obtain ⟨W5, hW5⟩ : ∃ W, (w3.alloc (.cells #[.string ⟨#[]⟩, .string ⟨#[]⟩, .bool false, .string ⟨#[]⟩] 90)) = W := ⟨_, rfl⟩
          rw [hW5] at e1 hfin ⊢
          have n3 := (hfin.cell (p := ⟨B, 0, .none⟩) hBl1).trans n2
          have HB5 := Lib.hid (bt B1.out hfin)
          clear hHeld hW5 hfin hd0 hd1 hd2 hd3 hb1 hb2 hb3 K1 K2 K3 KC n1 n2 x3 ho1 ho2
          clear hal3
          cases none
          · go_wp2_with fail
            (with_reducible refine (K7.out _).mono ?_)
            rintro e w4 ⟨rfl, rfl⟩
            go_wp2
            go_ret2
            exact ⟨rfl, HB5.out⟩
          · go_wp2
            go_ret2
            exact ⟨rfl, HB5.out⟩
        · rw [if_pos (by rfl)]
          go_simp
          have hdA : Below W1.heap.size W1 ((w2).alloc (.cells #[.string ⟨#[]⟩, .string ⟨#[]⟩, .bool false, .string ⟨#[]⟩] 90)) := hd2.alloc hd2.size _
          refine hK.out _ _ (KC.out _ hdA) (fun hHeld => ?_)
          clear hK K
          try simp only [Act.put, List.setIfInBounds_toArray, List.set_cons_zero, List.set_cons_succ]
          have hab : Below (w2).heap.size (w2) ((w2).alloc (.cells #[.string ⟨#[]⟩, .string ⟨#[]⟩, .bool false, .string ⟨#[]⟩] 90)) := (Below.refl (w2).heap.size (w2)).alloc (Nat.le_refl _) _
          have ho2 := ho2.below hab
          clear hab
          obtain ⟨bk, hbe⟩ : ∃ b, (w2).heap.size = b := ⟨_, rfl⟩
          have hbk : ((w2).alloc (.cells #[.string ⟨#[]⟩, .string ⟨#[]⟩, .bool false, .string ⟨#[]⟩] 90)).heap[bk]? = some (.cells #[.string ⟨#[]⟩, .string ⟨#[]⟩, .bool false, .string ⟨#[]⟩] 90 (0, 0)) := heap_new (w2) _ _ hbe
          have hbl : bk < ((w2).alloc (.cells #[.string ⟨#[]⟩, .string ⟨#[]⟩, .bool false, .string ⟨#[]⟩] 90)).heap.size := by rw [← hbe]; simp
          have hle : W1.heap.size ≤ bk := by rw [← hbe]; exact hd2.size
          obtain ⟨WA, hWA⟩ : ∃ W, ((w2).alloc (.cells #[.string ⟨#[]⟩, .string ⟨#[]⟩, .bool false, .string ⟨#[]⟩] 90)) = W := ⟨_, rfl⟩
          rw [hWA] at hdA ho2 hbk hbl ⊢
          rw [hWA] at hHeld
          have hbe : w2.heap.size = bk := hbe
          rw [hbe]
          clear hWA
          refine wpAnyH_ready (rs := [6]) (by kernel_rfl) (by simp) (AllReadyH.cons (by simp only [List.getElem?_toArray, List.getElem?_cons_succ, List.getElem?_cons_zero]; exact rfl) (fun K hK => ?_) AllReadyH.nil)
          rw [if_pos (by rfl)]
          go_simp
          (with_reducible refine (K3.out _ a2 c2 (ho2)).mono ?_)
          rintro e w3 ⟨rfl, hb3⟩
          have hd3 := bt hdA hb3
          go_wp2_with fail
          refine hK.out _ _ (KC.out _ hd3) (fun hHeld => ?_)
          clear hK K
          try simp only [Act.put, List.setIfInBounds_toArray, List.set_cons_zero, List.set_cons_succ]
          have hbk := (hb3.block bk hbl).trans hbk
          have hbl := Nat.lt_of_lt_of_le hbl hb3.size
          refine wpAnyH_take (i := 7) (v := ?_) (by simp only [List.getElem?_toArray, List.getElem?_cons_succ, List.getElem?_cons_zero]; exact rfl) (by kernel_rfl) (by kernel_rfl) (by kernel_rfl) (by intro _ _ _ h; exact h) (Or.inl ⟨by rfl, fun W hSw => ?_⟩) hHeld ?_
          rotate_left
          focus ((try dsimp only at hSw); first | (go_simp; done) | (go_simp; with_reducible rfl))
          try simp only [Act.put, List.setIfInBounds_toArray, List.set_cons_zero, List.set_cons_succ]
          refine wpAnyH_take (i := 8) (v := ?_) (by simp only [List.getElem?_toArray, List.getElem?_cons_succ, List.getElem?_cons_zero]; exact rfl) (by kernel_rfl) (by kernel_rfl) (by kernel_rfl) (by intro _ _ _ h; exact h) (Or.inl ⟨by rfl, fun W hSw => ?_⟩) hHeld ?_
          rotate_left
          focus ((try dsimp only at hSw); first | (go_simp; done) | (go_simp; with_reducible rfl))
          try simp only [Act.put, List.setIfInBounds_toArray, List.set_cons_zero, List.set_cons_succ]
          refine wpAnyH_take (i := 9) (v := ?_) (by simp only [List.getElem?_toArray, List.getElem?_cons_succ, List.getElem?_cons_zero]; exact rfl) (by kernel_rfl) (by kernel_rfl) (by kernel_rfl) (by intro _ _ _ h; exact h) (Or.inl ⟨by rfl, fun W hSw => ?_⟩) hHeld ?_
          rotate_left
          focus ((try dsimp only at hSw); first | (go_simp; done) | (go_simp; with_reducible rfl))
          try simp only [Act.put, List.setIfInBounds_toArray, List.set_cons_zero, List.set_cons_succ]
          have q0 := (of_heap hbk 0).1
          have q1 := (of_heap hbk 1).1
          have q2 := (of_heap hbk 2).1
          have q3 := (of_heap hbk 3).1
          have p0 := (of_heap hbk 0).2.1
          have p1 := (of_heap hbk 1).2.1
          have p2 := (of_heap hbk 2).2.1
          have p3 := (of_heap hbk 3).2.1
          simp only [List.getElem?_toArray, List.getElem?_cons_succ, List.getElem?_cons_zero] at q0 q1 q2 q3
          refine wpAnyH_ready (rs := [11]) (by kernel_rfl) (by simp) (AllReadyH.cons (by simp only [List.getElem?_toArray, List.getElem?_cons_succ, List.getElem?_cons_zero]; exact rfl) (fun K hK => ?_) AllReadyH.nil)
          rw [if_pos (by rfl)]
          go_simp
          have hfin : Below W1.heap.size W1 ((((w3.setCell ⟨bk, 0, .none⟩ (.string ⟨#[]⟩)).setCell ⟨bk, 1, .none⟩ (.string ⟨#[]⟩)).setCell ⟨bk, 2, .none⟩ (.bool false)).setCell ⟨bk, 3, .none⟩ (.string ⟨#[]⟩)) := (((hd3.setCell (p := ⟨bk, 0, .none⟩) hle _).setCell (p := ⟨bk, 1, .none⟩) hle _).setCell (p := ⟨bk, 2, .none⟩) hle _).setCell (p := ⟨bk, 3, .none⟩) hle _
          refine hK.out _ _ (KC.out _ hfin) (fun hHeld => ?_)
          clear hK K
          try simp only [Act.put, List.setIfInBounds_toArray, List.set_cons_zero, List.set_cons_succ]
          have hx1 := heap_setN (j := 3) (v := .string ⟨#[]⟩) (heap_setN (j := 2) (v := .bool false) (heap_setN (j := 1) (v := .string ⟨#[]⟩) (heap_setN (j := 0) (v := .string ⟨#[]⟩) hbk)))
          have e1 := (of_heap hx1 1).1
          simp only [List.setIfInBounds_toArray, List.set_cons_zero, List.set_cons_succ, List.getElem?_toArray, List.getElem?_cons_succ, List.getElem?_cons_zero] at e1
          refine wpAnyH_take (i := 12) (v := ?_) (by simp only [List.getElem?_toArray, List.getElem?_cons_succ, List.getElem?_cons_zero]; exact rfl) (by kernel_rfl) (by kernel_rfl) (by kernel_rfl) (by intro _ _ _ h; exact h) (Or.inl ⟨by rfl, fun W hSw => ?_⟩) hHeld ?_
          rotate_left
          focus ((try dsimp only at hSw); first | (go_simp; done) | (go_simp; with_reducible rfl))
          try simp only [Act.put, List.setIfInBounds_toArray, List.set_cons_zero, List.set_cons_succ]
          refine wpAnyH_done (by kernel_rfl) ?_ _
          obtain ⟨W5, hW5⟩ : ∃ W, ((((w3.setCell ⟨bk, 0, .none⟩ (.string ⟨#[]⟩)).setCell ⟨bk, 1, .none⟩ (.string ⟨#[]⟩)).setCell ⟨bk, 2, .none⟩ (.bool false)).setCell ⟨bk, 3, .none⟩ (.string ⟨#[]⟩)) = W := ⟨_, rfl⟩
          rw [hW5] at e1 hfin ⊢
          have n3 := (hfin.cell (p := ⟨B, 0, .none⟩) hBl1).trans n2
          have HB5 := Lib.hid (bt B1.out hfin)
          clear hHeld hW5 hfin hd0 hd1 hd2 hd3 hb1 hb2 hb3 K1 K2 K3 KC n1 n2 x3 ho1 ho2
          clear hx1 hbk q0 q1 q2 q3 p0 p1 p2 p3
          cases none
          · go_wp2_with fail
            (with_reducible refine (K7.out _).mono ?_)
            rintro e w4 ⟨rfl, rfl⟩
            go_wp2
            go_ret2
            exact ⟨rfl, HB5.out⟩
          · go_wp2
            go_ret2
            exact ⟨rfl, HB5.out⟩
      · rw [if_pos (by rfl)]
        go_simp
        have hdA : Below W1.heap.size W1 ((w1).alloc (.cells #[.string ⟨#[]⟩, .string ⟨#[]⟩, .bool false, .string ⟨#[]⟩] 90)) := hd1.alloc hd1.size _
        refine hK.out _ _ (KC.out _ hdA) (fun hHeld => ?_)
        clear hK K
        try simp only [Act.put, List.setIfInBounds_toArray, List.set_cons_zero, List.set_cons_succ]
        have hab : Below (w1).heap.size (w1) ((w1).alloc (.cells #[.string ⟨#[]⟩, .string ⟨#[]⟩, .bool false, .string ⟨#[]⟩] 90)) := (Below.refl (w1).heap.size (w1)).alloc (Nat.le_refl _) _
        have ho1 := ho1.below hab
        clear hab
        obtain ⟨bk, hbe⟩ : ∃ b, (w1).heap.size = b := ⟨_, rfl⟩
        have hbk : ((w1).alloc (.cells #[.string ⟨#[]⟩, .string ⟨#[]⟩, .bool false, .string ⟨#[]⟩] 90)).heap[bk]? = some (.cells #[.string ⟨#[]⟩, .string ⟨#[]⟩, .bool false, .string ⟨#[]⟩] 90 (0, 0)) := heap_new (w1) _ _ hbe
        have hbl : bk < ((w1).alloc (.cells #[.string ⟨#[]⟩, .string ⟨#[]⟩, .bool false, .string ⟨#[]⟩] 90)).heap.size := by rw [← hbe]; simp
        have hle : W1.heap.size ≤ bk := by rw [← hbe]; exact hd1.size
        obtain ⟨WA, hWA⟩ : ∃ W, ((w1).alloc (.cells #[.string ⟨#[]⟩, .string ⟨#[]⟩, .bool false, .string ⟨#[]⟩] 90)) = W := ⟨_, rfl⟩
        rw [hWA] at hdA ho1 hbk hbl ⊢
        rw [hWA] at hHeld
        have hbe : w1.heap.size = bk := hbe
        rw [hbe]
        clear hWA
        refine wpAnyH_ready (rs := [4]) (by kernel_rfl) (by simp) (AllReadyH.cons (by simp only [List.getElem?_toArray, List.getElem?_cons_succ, List.getElem?_cons_zero]; exact rfl) (fun K hK => ?_) AllReadyH.nil)
        rw [if_pos (by rfl)]
        go_simp
        (with_reducible refine (K2.out _ (bt B1.out hdA) _ c1 (ho1)).mono ?_)
        rintro e w2 ⟨a2, c2, rfl, ho2, hb2⟩
        have hd2 := bt hdA hb2
        have ho2 := ho2.rd.2
        go_wp2_with fail
        refine hK.out _ _ (KC.out _ hd2) (fun hHeld => ?_)
        clear hK K
        try simp only [Act.put, List.setIfInBounds_toArray, List.set_cons_zero, List.set_cons_succ]
        have hbk := (hb2.block bk hbl).trans hbk
        have hbl := Nat.lt_of_lt_of_le hbl hb2.size
        refine wpAnyH_ready (rs := [6]) (by kernel_rfl) (by simp) (AllReadyH.cons (by simp only [List.getElem?_toArray, List.getElem?_cons_succ, List.getElem?_cons_zero]; exact rfl) (fun K hK => ?_) AllReadyH.nil)
        rw [if_pos (by rfl)]
        go_simp
        (with_reducible refine (K3.out _ a2 c2 (ho2)).mono ?_)
        rintro e w3 ⟨rfl, hb3⟩
        have hd3 := bt hd2 hb3
        go_wp2_with fail
        refine hK.out _ _ (KC.out _ hd3) (fun hHeld => ?_)
        clear hK K
        try simp only [Act.put, List.setIfInBounds_toArray, List.set_cons_zero, List.set_cons_succ]
        have hbk := (hb3.block bk hbl).trans hbk
        have hbl := Nat.lt_of_lt_of_le hbl hb3.size
        refine wpAnyH_take (i := 7) (v := ?_) (by simp only [List.getElem?_toArray, List.getElem?_cons_succ, List.getElem?_cons_zero]; exact rfl) (by kernel_rfl) (by kernel_rfl) (by kernel_rfl) (by intro _ _ _ h; exact h) (Or.inl ⟨by rfl, fun W hSw => ?_⟩) hHeld ?_
        rotate_left
        focus ((try dsimp only at hSw); first | (go_simp; done) | (go_simp; with_reducible rfl))
        try simp only [Act.put, List.setIfInBounds_toArray, List.set_cons_zero, List.set_cons_succ]
        refine wpAnyH_take (i := 8) (v := ?_) (by simp only [List.getElem?_toArray, List.getElem?_cons_succ, List.getElem?_cons_zero]; exact rfl) (by kernel_rfl) (by kernel_rfl) (by kernel_rfl) (by intro _ _ _ h; exact h) (Or.inl ⟨by rfl, fun W hSw => ?_⟩) hHeld ?_
        rotate_left
        focus ((try dsimp only at hSw); first | (go_simp; done) | (go_simp; with_reducible rfl))
        try simp only [Act.put, List.setIfInBounds_toArray, List.set_cons_zero, List.set_cons_succ]
        refine wpAnyH_take (i := 9) (v := ?_) (by simp only [List.getElem?_toArray, List.getElem?_cons_succ, List.getElem?_cons_zero]; exact rfl) (by kernel_rfl) (by kernel_rfl) (by kernel_rfl) (by intro _ _ _ h; exact h) (Or.inl ⟨by rfl, fun W hSw => ?_⟩) hHeld ?_
        rotate_left
        focus ((try dsimp only at hSw); first | (go_simp; done) | (go_simp; with_reducible rfl))
        try simp only [Act.put, List.setIfInBounds_toArray, List.set_cons_zero, List.set_cons_succ]
        have q0 := (of_heap hbk 0).1
        have q1 := (of_heap hbk 1).1
        have q2 := (of_heap hbk 2).1
        have q3 := (of_heap hbk 3).1
        have p0 := (of_heap hbk 0).2.1
        have p1 := (of_heap hbk 1).2.1
        have p2 := (of_heap hbk 2).2.1
        have p3 := (of_heap hbk 3).2.1
        simp only [List.getElem?_toArray, List.getElem?_cons_succ, List.getElem?_cons_zero] at q0 q1 q2 q3
        refine wpAnyH_ready (rs := [11]) (by kernel_rfl) (by simp) (AllReadyH.cons (by simp only [List.getElem?_toArray, List.getElem?_cons_succ, List.getElem?_cons_zero]; exact rfl) (fun K hK => ?_) AllReadyH.nil)
        rw [if_pos (by rfl)]
        go_simp
        have hfin : Below W1.heap.size W1 ((((w3.setCell ⟨bk, 0, .none⟩ (.string ⟨#[]⟩)).setCell ⟨bk, 1, .none⟩ (.string ⟨#[]⟩)).setCell ⟨bk, 2, .none⟩ (.bool false)).setCell ⟨bk, 3, .none⟩ (.string ⟨#[]⟩)) := (((hd3.setCell (p := ⟨bk, 0, .none⟩) hle _).setCell (p := ⟨bk, 1, .none⟩) hle _).setCell (p := ⟨bk, 2, .none⟩) hle _).setCell (p := ⟨bk, 3, .none⟩) hle _
        refine hK.out _ _ (KC.out _ hfin) (fun hHeld => ?_)
        clear hK K
        try simp only [Act.put, List.setIfInBounds_toArray, List.set_cons_zero, List.set_cons_succ]
        have hx1 := heap_setN (j := 3) (v := .string ⟨#[]⟩) (heap_setN (j := 2) (v := .bool false) (heap_setN (j := 1) (v := .string ⟨#[]⟩) (heap_setN (j := 0) (v := .string ⟨#[]⟩) hbk)))
        have e1 := (of_heap hx1 1).1
        simp only [List.setIfInBounds_toArray, List.set_cons_zero, List.set_cons_succ, List.getElem?_toArray, List.getElem?_cons_succ, List.getElem?_cons_zero] at e1
        refine wpAnyH_take (i := 12) (v := ?_) (by simp only [List.getElem?_toArray, List.getElem?_cons_succ, List.getElem?_cons_zero]; exact rfl) (by kernel_rfl) (by kernel_rfl) (by kernel_rfl) (by intro _ _ _ h; exact h) (Or.inl ⟨by rfl, fun W hSw => ?_⟩) hHeld ?_
        rotate_left
        focus ((try dsimp only at hSw); first | (go_simp; done) | (go_simp; with_reducible rfl))
        try simp only [Act.put, List.setIfInBounds_toArray, List.set_cons_zero, List.set_cons_succ]
        refine wpAnyH_done (by kernel_rfl) ?_ _
        obtain ⟨W5, hW5⟩ : ∃ W, ((((w3.setCell ⟨bk, 0, .none⟩ (.string ⟨#[]⟩)).setCell ⟨bk, 1, .none⟩ (.string ⟨#[]⟩)).setCell ⟨bk, 2, .none⟩ (.bool false)).setCell ⟨bk, 3, .none⟩ (.string ⟨#[]⟩)) = W := ⟨_, rfl⟩
        rw [hW5] at e1 hfin ⊢
        have n3 := (hfin.cell (p := ⟨B, 0, .none⟩) hBl1).trans n2
        have HB5 := Lib.hid (bt B1.out hfin)
        clear hHeld hW5 hfin hd0 hd1 hd2 hd3 hb1 hb2 hb3 K1 K2 K3 KC n1 n2 x3 ho1 ho2
        clear hx1 hbk q0 q1 q2 q3 p0 p1 p2 p3
        cases none
        · go_wp2_with fail
          (with_reducible refine (K7.out _).mono ?_)
          rintro e w4 ⟨rfl, rfl⟩
          go_wp2
          go_ret2
          exact ⟨rfl, HB5.out⟩
        · go_wp2
          go_ret2
          exact ⟨rfl, HB5.out⟩
    · rw [if_pos (by rfl)]
      go_simp
      have hdA : Below W1.heap.size W1 ((W1.alloc (.cells #[.string ⟨#[]⟩, .string ⟨#[]⟩, .bool false, .string ⟨#[]⟩] 90)).drew) := hd0.alloc hd0.size _
      refine hK.out _ _ (KC.out _ hdA) (fun hHeld => ?_)
      clear hK K
      try simp only [Act.put, List.setIfInBounds_toArray, List.set_cons_zero, List.set_cons_succ]
      have hab : Below (W1.drew).heap.size (W1.drew) ((W1.alloc (.cells #[.string ⟨#[]⟩, .string ⟨#[]⟩, .bool false, .string ⟨#[]⟩] 90)).drew) := (Below.refl (W1.drew).heap.size (W1.drew)).alloc (Nat.le_refl _) _
      clear hab
      have hbk : ((W1.alloc (.cells #[.string ⟨#[]⟩, .string ⟨#[]⟩, .bool false, .string ⟨#[]⟩] 90)).drew).heap[W1.heap.size]? = some (.cells #[.string ⟨#[]⟩, .string ⟨#[]⟩, .bool false, .string ⟨#[]⟩] 90 (0, 0)) := heap_new (W1.drew) _ _ rfl
      have hbl : W1.heap.size < ((W1.alloc (.cells #[.string ⟨#[]⟩, .string ⟨#[]⟩, .bool false, .string ⟨#[]⟩] 90)).drew).heap.size := by simp
      have hle : W1.heap.size ≤ W1.heap.size := Nat.le_refl _
      obtain ⟨WA, hWA⟩ : ∃ W, ((W1.alloc (.cells #[.string ⟨#[]⟩, .string ⟨#[]⟩, .bool false, .string ⟨#[]⟩] 90)).drew) = W := ⟨_, rfl⟩
      rw [hWA] at hdA hbk hbl ⊢
      rw [hWA] at hHeld
      clear hWA
      refine wpAnyH_ready (rs := [3]) (by kernel_rfl) (by simp) (AllReadyH.cons (by simp only [List.getElem?_toArray, List.getElem?_cons_succ, List.getElem?_cons_zero]; exact rfl) (fun K hK => ?_) AllReadyH.nil)
      rw [if_pos (by rfl)]
      go_simp
      (with_reducible refine (K1.out _ hdA).mono ?_)
      rintro e w1 ⟨a1, c1, rfl, ho1, hb1⟩
      have hd1 := bt hdA hb1
      have ho1 := ho1.rd.2
      go_wp2_with fail
      refine hK.out _ _ (KC.out _ hd1) (fun hHeld => ?_)
      clear hK K
      try simp only [Act.put, List.setIfInBounds_toArray, List.set_cons_zero, List.set_cons_succ]
      have hbk := (hb1.block W1.heap.size hbl).trans hbk
      have hbl := Nat.lt_of_lt_of_le hbl hb1.size
      refine wpAnyH_ready (rs := [4]) (by kernel_rfl) (by simp) (AllReadyH.cons (by simp only [List.getElem?_toArray, List.getElem?_cons_succ, List.getElem?_cons_zero]; exact rfl) (fun K hK => ?_) AllReadyH.nil)
      rw [if_pos (by rfl)]
      go_simp
      (with_reducible refine (K2.out _ (bt B1.out hd1) _ c1 (ho1)).mono ?_)
      rintro e w2 ⟨a2, c2, rfl, ho2, hb2⟩
      have hd2 := bt hd1 hb2
      have ho2 := ho2.rd.2
      go_wp2_with fail
      refine hK.out _ _ (KC.out _ hd2) (fun hHeld => ?_)
      clear hK K
      try simp only [Act.put, List.setIfInBounds_toArray, List.set_cons_zero, List.set_cons_succ]
      have hbk := (hb2.block W1.heap.size hbl).trans hbk
      have hbl := Nat.lt_of_lt_of_le hbl hb2.size
      refine wpAnyH_ready (rs := [6]) (by kernel_rfl) (by simp) (AllReadyH.cons (by simp only [List.getElem?_toArray, List.getElem?_cons_succ, List.getElem?_cons_zero]; exact rfl) (fun K hK => ?_) AllReadyH.nil)
      rw [if_pos (by rfl)]
      go_simp
      (with_reducible refine (K3.out _ a2 c2 (ho2)).mono ?_)
      rintro e w3 ⟨rfl, hb3⟩
      have hd3 := bt hd2 hb3
      go_wp2_with fail
      refine hK.out _ _ (KC.out _ hd3) (fun hHeld => ?_)
      clear hK K
      try simp only [Act.put, List.setIfInBounds_toArray, List.set_cons_zero, List.set_cons_succ]
      have hbk := (hb3.block W1.heap.size hbl).trans hbk
      have hbl := Nat.lt_of_lt_of_le hbl hb3.size
      refine wpAnyH_take (i := 7) (v := ?_) (by simp only [List.getElem?_toArray, List.getElem?_cons_succ, List.getElem?_cons_zero]; exact rfl) (by kernel_rfl) (by kernel_rfl) (by kernel_rfl) (by intro _ _ _ h; exact h) (Or.inl ⟨by rfl, fun W hSw => ?_⟩) hHeld ?_
      rotate_left
      focus ((try dsimp only at hSw); first | (go_simp; done) | (go_simp; with_reducible rfl))
      try simp only [Act.put, List.setIfInBounds_toArray, List.set_cons_zero, List.set_cons_succ]
      refine wpAnyH_take (i := 8) (v := ?_) (by simp only [List.getElem?_toArray, List.getElem?_cons_succ, List.getElem?_cons_zero]; exact rfl) (by kernel_rfl) (by kernel_rfl) (by kernel_rfl) (by intro _ _ _ h; exact h) (Or.inl ⟨by rfl, fun W hSw => ?_⟩) hHeld ?_
      rotate_left
      focus ((try dsimp only at hSw); first | (go_simp; done) | (go_simp; with_reducible rfl))
      try simp only [Act.put, List.setIfInBounds_toArray, List.set_cons_zero, List.set_cons_succ]
      refine wpAnyH_take (i := 9) (v := ?_) (by simp only [List.getElem?_toArray, List.getElem?_cons_succ, List.getElem?_cons_zero]; exact rfl) (by kernel_rfl) (by kernel_rfl) (by kernel_rfl) (by intro _ _ _ h; exact h) (Or.inl ⟨by rfl, fun W hSw => ?_⟩) hHeld ?_
      rotate_left
      focus ((try dsimp only at hSw); first | (go_simp; done) | (go_simp; with_reducible rfl))
      try simp only [Act.put, List.setIfInBounds_toArray, List.set_cons_zero, List.set_cons_succ]
      have q0 := (of_heap hbk 0).1
      have q1 := (of_heap hbk 1).1
      have q2 := (of_heap hbk 2).1
      have q3 := (of_heap hbk 3).1
      have p0 := (of_heap hbk 0).2.1
      have p1 := (of_heap hbk 1).2.1
      have p2 := (of_heap hbk 2).2.1
      have p3 := (of_heap hbk 3).2.1
      simp only [List.getElem?_toArray, List.getElem?_cons_succ, List.getElem?_cons_zero] at q0 q1 q2 q3
      refine wpAnyH_ready (rs := [11]) (by kernel_rfl) (by simp) (AllReadyH.cons (by simp only [List.getElem?_toArray, List.getElem?_cons_succ, List.getElem?_cons_zero]; exact rfl) (fun K hK => ?_) AllReadyH.nil)
      rw [if_pos (by rfl)]
      go_simp
      have hfin : Below W1.heap.size W1 ((((w3.setCell ⟨W1.heap.size, 0, .none⟩ (.string ⟨#[]⟩)).setCell ⟨W1.heap.size, 1, .none⟩ (.string ⟨#[]⟩)).setCell ⟨W1.heap.size, 2, .none⟩ (.bool false)).setCell ⟨W1.heap.size, 3, .none⟩ (.string ⟨#[]⟩)) := (((hd3.setCell (p := ⟨W1.heap.size, 0, .none⟩) hle _).setCell (p := ⟨W1.heap.size, 1, .none⟩) hle _).setCell (p := ⟨W1.heap.size, 2, .none⟩) hle _).setCell (p := ⟨W1.heap.size, 3, .none⟩) hle _
      refine hK.out _ _ (KC.out _ hfin) (fun hHeld => ?_)
      clear hK K
      try simp only [Act.put, List.setIfInBounds_toArray, List.set_cons_zero, List.set_cons_succ]
      have hx1 := heap_setN (j := 3) (v := .string ⟨#[]⟩) (heap_setN (j := 2) (v := .bool false) (heap_setN (j := 1) (v := .string ⟨#[]⟩) (heap_setN (j := 0) (v := .string ⟨#[]⟩) hbk)))
      have e1 := (of_heap hx1 1).1
      simp only [List.setIfInBounds_toArray, List.set_cons_zero, List.set_cons_succ, List.getElem?_toArray, List.getElem?_cons_succ, List.getElem?_cons_zero] at e1
      refine wpAnyH_take (i := 12) (v := ?_) (by simp only [List.getElem?_toArray, List.getElem?_cons_succ, List.getElem?_cons_zero]; exact rfl) (by kernel_rfl) (by kernel_rfl) (by kernel_rfl) (by intro _ _ _ h; exact h) (Or.inl ⟨by rfl, fun W hSw => ?_⟩) hHeld ?_
      rotate_left
      focus ((try dsimp only at hSw); first | (go_simp; done) | (go_simp; with_reducible rfl))
      try simp only [Act.put, List.setIfInBounds_toArray, List.set_cons_zero, List.set_cons_succ]
      refine wpAnyH_done (by kernel_rfl) ?_ _
      obtain ⟨W5, hW5⟩ : ∃ W, ((((w3.setCell ⟨W1.heap.size, 0, .none⟩ (.string ⟨#[]⟩)).setCell ⟨W1.heap.size, 1, .none⟩ (.string ⟨#[]⟩)).setCell ⟨W1.heap.size, 2, .none⟩ (.bool false)).setCell ⟨W1.heap.size, 3, .none⟩ (.string ⟨#[]⟩)) = W := ⟨_, rfl⟩
      rw [hW5] at e1 hfin ⊢
      have n3 := (hfin.cell (p := ⟨B, 0, .none⟩) hBl1).trans n2
      have HB5 := Lib.hid (bt B1.out hfin)
      clear hHeld hW5 hfin hd0 hd1 hd2 hd3 hb1 hb2 hb3 K1 K2 K3 KC n1 n2 x3 ho1 ho2
      clear hx1 hbk q0 q1 q2 q3 p0 p1 p2 p3
      cases none
      · go_wp2_with fail
        (with_reducible refine (K7.out _).mono ?_)
        rintro e w4 ⟨rfl, rfl⟩
        go_wp2
        go_ret2
        exact ⟨rfl, HB5.out⟩
      · go_wp2
        go_ret2
        exact ⟨rfl, HB5.out⟩
  | some d =>
    have k7 := K4.out d rfl
    obtain ⟨dn, dv, dh, df⟩ := d
    simp only at k7 K3 ⊢
    have K7 := Lib.hid k7
    clear k7 K4
    refine wp_region_held_drew (S := (fun w' => w'.cell? ⟨w.heap.size, 3, .none⟩ = some (.slice A n c) ∧ w'.cell? ⟨N, 0, .none⟩ = some (.string ⟨nm.toArray⟩) ∧ Below W1.heap.size W1 w')) (by kernel_rfl) (KC.out _ hd0) (fun hHeld => ?_)
    refine wpAnyH_take (i := 0) (v := ?_) (by simp only [List.getElem?_toArray, List.getElem?_cons_zero]; exact rfl) (by kernel_rfl) (by kernel_rfl) (by kernel_rfl) (by intro _ _ _ h; exact h) (Or.inl ⟨by rfl, fun W hSw => ?_⟩) hHeld ?_
    rotate_left
    focus ((try dsimp only at hSw); first | (go_simp; done) | (go_simp; with_reducible rfl))
    try simp only [Act.put, List.setIfInBounds_toArray, List.set_cons_zero, List.set_cons_succ]
    refine wpAnyH_take (i := 1) (v := ?_) (by simp only [List.getElem?_toArray, List.getElem?_cons_succ, List.getElem?_cons_zero]; exact rfl) (by kernel_rfl) (by kernel_rfl) (by kernel_rfl) (by intro _ _ _ h; exact h) (Or.inl ⟨by rfl, fun W hSw => ?_⟩) hHeld ?_
    rotate_left
    focus ((try dsimp only at hSw); first | (go_simp; done) | (go_simp; with_reducible rfl))
    try simp only [Act.put, List.setIfInBounds_toArray, List.set_cons_zero, List.set_cons_succ]
    refine wpAnyH_take (i := 2) (v := ?_) (by simp only [List.getElem?_toArray, List.getElem?_cons_succ, List.getElem?_cons_zero]; exact rfl) (by kernel_rfl) (by kernel_rfl) (by kernel_rfl) (by intro _ _ _ h; exact h) (Or.inl ⟨by rfl, fun W hSw => ?_⟩) hHeld ?_
    rotate_left
    focus ((try dsimp only at hSw); first | (go_simp; done) | (go_simp; with_reducible rfl))
    try simp only [Act.put, List.setIfInBounds_toArray, List.set_cons_zero, List.set_cons_succ]
    refine wpAnyH_take (i := 5) (v := ?_) (by simp only [List.getElem?_toArray, List.getElem?_cons_succ, List.getElem?_cons_zero]; exact rfl) (by kernel_rfl) (by kernel_rfl) (by kernel_rfl) (by intro _ _ _ h; exact h) (Or.inl ⟨by rfl, fun W hSw => ?_⟩) hHeld ?_
    rotate_left
    focus ((try dsimp only at hSw); first | (go_simp; done) | (go_simp; with_reducible rfl))
    try simp only [Act.put, List.setIfInBounds_toArray, List.set_cons_zero, List.set_cons_succ]
    refine wpAnyH_ready (rs := [3, 10]) (by kernel_rfl) (by simp) (AllReadyH.cons (by simp only [List.getElem?_toArray, List.getElem?_cons_succ, List.getElem?_cons_zero]; exact rfl) (fun K hK => ?_) (AllReadyH.cons (by simp only [List.getElem?_toArray, List.getElem?_cons_succ, List.getElem?_cons_zero]; exact rfl) (fun K hK => ?_) AllReadyH.nil))
    · rw [if_pos (by rfl)]
      go_simp
      (with_reducible refine (K1.out _ hd0).mono ?_)
      rintro e w1 ⟨a1, c1, rfl, ho1, hb1⟩
      have hd1 := bt hd0 hb1
      have ho1 := ho1.rd.2
      go_wp2_with fail
      refine hK.out _ _ (KC.out _ hd1) (fun hHeld => ?_)
      clear hK K
      try simp only [Act.put, List.setIfInBounds_toArray, List.set_cons_zero, List.set_cons_succ]
      refine wpAnyH_ready (rs := [4, 10]) (by kernel_rfl) (by simp) (AllReadyH.cons (by simp only [List.getElem?_toArray, List.getElem?_cons_succ, List.getElem?_cons_zero]; exact rfl) (fun K hK => ?_) (AllReadyH.cons (by simp only [List.getElem?_toArray, List.getElem?_cons_succ, List.getElem?_cons_zero]; exact rfl) (fun K hK => ?_) AllReadyH.nil))
      · rw [if_pos (by rfl)]
        go_simp
        (with_reducible refine (K2.out _ (bt B1.out hd1) _ c1 (ho1)).mono ?_)
        rintro e w2 ⟨a2, c2, rfl, ho2, hb2⟩
        have hd2 := bt hd1 hb2
        have ho2 := ho2.rd.2
        go_wp2_with fail
        refine hK.out _ _ (KC.out _ hd2) (fun hHeld => ?_)
        clear hK K
        try simp only [Act.put, List.setIfInBounds_toArray, List.set_cons_zero, List.set_cons_succ]
        refine wpAnyH_ready (rs := [6, 10]) (by kernel_rfl) (by simp) (AllReadyH.cons (by simp only [List.getElem?_toArray, List.getElem?_cons_succ, List.getElem?_cons_zero]; exact rfl) (fun K hK => ?_) (AllReadyH.cons (by simp only [List.getElem?_toArray, List.getElem?_cons_succ, List.getElem?_cons_zero]; exact rfl) (fun K hK => ?_) AllReadyH.nil))
        · rw [if_pos (by rfl)]
          go_simp
          (with_reducible refine (K3.out _ a2 c2 (ho2)).mono ?_)
          rintro e w3 ⟨rfl, hb3⟩
          have hd3 := bt hd2 hb3
          go_wp2_with fail
          refine hK.out _ _ (KC.out _ hd3) (fun hHeld => ?_)
          clear hK K
          try simp only [Act.put, List.setIfInBounds_toArray, List.set_cons_zero, List.set_cons_succ]
          refine wpAnyH_take (i := 7) (v := ?_) (by simp only [List.getElem?_toArray, List.getElem?_cons_succ, List.getElem?_cons_zero]; exact rfl) (by kernel_rfl) (by kernel_rfl) (by kernel_rfl) (by intro _ _ _ h; exact h) (Or.inl ⟨by rfl, fun W hSw => ?_⟩) hHeld ?_
          rotate_left
          focus ((try dsimp only at hSw); first | (go_simp; done) | (go_simp; with_reducible rfl))
          try simp only [Act.put, List.setIfInBounds_toArray, List.set_cons_zero, List.set_cons_succ]
          refine wpAnyH_take (i := 8) (v := ?_) (by simp only [List.getElem?_toArray, List.getElem?_cons_succ, List.getElem?_cons_zero]; exact rfl) (by kernel_rfl) (by kernel_rfl) (by kernel_rfl) (by intro _ _ _ h; exact h) (Or.inl ⟨by rfl, fun W hSw => ?_⟩) hHeld ?_
          rotate_left
          focus ((try dsimp only at hSw); first | (go_simp; done) | (go_simp; with_reducible rfl))
          try simp only [Act.put, List.setIfInBounds_toArray, List.set_cons_zero, List.set_cons_succ]
          refine wpAnyH_take (i := 9) (v := ?_) (by simp only [List.getElem?_toArray, List.getElem?_cons_succ, List.getElem?_cons_zero]; exact rfl) (by kernel_rfl) (by kernel_rfl) (by kernel_rfl) (by intro _ _ _ h; exact h) (Or.inl ⟨by rfl, fun W hSw => ?_⟩) hHeld ?_
          rotate_left
          focus ((try dsimp only at hSw); first | (go_simp; done) | (go_simp; with_reducible rfl))
          try simp only [Act.put, List.setIfInBounds_toArray, List.set_cons_zero, List.set_cons_succ]
          refine wpAnyH_ready (rs := [10]) (by kernel_rfl) (by simp) (AllReadyH.cons (by simp only [List.getElem?_toArray, List.getElem?_cons_succ, List.getElem?_cons_zero]; exact rfl) (fun K hK => ?_) AllReadyH.nil)
          rw [if_pos (by rfl)]
          go_simp
          have hal3 := hd3.alloc hd3.size (.cells #[.string ⟨#[]⟩, .string ⟨#[]⟩, .bool false, .string ⟨#[]⟩] 90)
          refine hK.out _ _ (KC.out _ hal3) (fun hHeld => ?_)
          clear hK K
          try simp only [Act.put, List.setIfInBounds_toArray, List.set_cons_zero, List.set_cons_succ]
          refine wpAnyH_ready (rs := [11]) (by kernel_rfl) (by simp) (AllReadyH.cons (by simp only [List.getElem?_toArray, List.getElem?_cons_succ, List.getElem?_cons_zero]; exact rfl) (fun K hK => ?_) AllReadyH.nil)
          rw [if_pos (by rfl)]
          go_simp
          have hfin := hd3.alloc hd3.size (.cells #[.string ⟨dn.toArray⟩, .string ⟨dv.toArray⟩, .bool dh, .string ⟨df.toArray⟩] 90)
          refine hK.out _ _ (KC.out _ hfin) (fun hHeld => ?_)
          clear hK K
          try simp only [Act.put, List.setIfInBounds_toArray, List.set_cons_zero, List.set_cons_succ]
          have e1 : (w3.alloc (.cells #[.string ⟨dn.toArray⟩, .string ⟨dv.toArray⟩, .bool dh, .string ⟨df.toArray⟩] 90)).cell? ⟨w3.heap.size, 1, .none⟩ = some (.string ⟨dv.toArray⟩) := World.cell?_alloc_mark w3 _ _ _ 1
          refine wpAnyH_take (i := 12) (v := ?_) (by simp only [List.getElem?_toArray, List.getElem?_cons_succ, List.getElem?_cons_zero]; exact rfl) (by kernel_rfl) (by kernel_rfl) (by kernel_rfl) (by intro _ _ _ h; exact h) (Or.inl ⟨by rfl, fun W hSw => ?_⟩) hHeld ?_
          rotate_left
          focus ((try dsimp only at hSw); first | (go_simp; done) | (go_simp; with_reducible rfl))
          try simp only [Act.put, List.setIfInBounds_toArray, List.set_cons_zero, List.set_cons_succ]
          refine wpAnyH_done (by kernel_rfl) ?_ _
          obtain ⟨W5, hW5⟩ : ∃ W, (w3.alloc (.cells #[.string ⟨dn.toArray⟩, .string ⟨dv.toArray⟩, .bool dh, .string ⟨df.toArray⟩] 90)) = W := ⟨_, rfl⟩
          rw [hW5] at e1 hfin ⊢
          have n3 := (hfin.cell (p := ⟨B, 0, .none⟩) hBl1).trans n2
          have HB5 := Lib.hid (bt B1.out hfin)
          clear hHeld hW5 hfin hd0 hd1 hd2 hd3 hb1 hb2 hb3 K1 K2 K3 KC n1 n2 x3 ho1 ho2
          clear hal3
          cases none
          · go_wp2_with fail
            (with_reducible refine (K7.out _).mono ?_)
            rintro e w4 ⟨rfl, rfl⟩
            go_wp2
            go_ret2
            exact ⟨rfl, HB5.out⟩
          · go_wp2
            go_ret2
            exact ⟨rfl, HB5.out⟩
        · rw [if_pos (by rfl)]
          go_simp
          have hdA : Below W1.heap.size W1 ((w2).alloc (.cells #[.string ⟨#[]⟩, .string ⟨#[]⟩, .bool false, .string ⟨#[]⟩] 90)) := hd2.alloc hd2.size _
          refine hK.out _ _ (KC.out _ hdA) (fun hHeld => ?_)
          clear hK K
          try simp only [Act.put, List.setIfInBounds_toArray, List.set_cons_zero, List.set_cons_succ]
          have hab : Below (w2).heap.size (w2) ((w2).alloc (.cells #[.string ⟨#[]⟩, .string ⟨#[]⟩, .bool false, .string ⟨#[]⟩] 90)) := (Below.refl (w2).heap.size (w2)).alloc (Nat.le_refl _) _
          have ho2 := ho2.below hab
          clear hab
          obtain ⟨bk, hbe⟩ : ∃ b, (w2).heap.size = b := ⟨_, rfl⟩
          have hbk : ((w2).alloc (.cells #[.string ⟨#[]⟩, .string ⟨#[]⟩, .bool false, .string ⟨#[]⟩] 90)).heap[bk]? = some (.cells #[.string ⟨#[]⟩, .string ⟨#[]⟩, .bool false, .string ⟨#[]⟩] 90 (0, 0)) := heap_new (w2) _ _ hbe
          have hbl : bk < ((w2).alloc (.cells #[.string ⟨#[]⟩, .string ⟨#[]⟩, .bool false, .string ⟨#[]⟩] 90)).heap.size := by rw [← hbe]; simp
          have hle : W1.heap.size ≤ bk := by rw [← hbe]; exact hd2.size
          obtain ⟨WA, hWA⟩ : ∃ W, ((w2).alloc (.cells #[.string ⟨#[]⟩, .string ⟨#[]⟩, .bool false, .string ⟨#[]⟩] 90)) = W := ⟨_, rfl⟩
          rw [hWA] at hdA ho2 hbk hbl ⊢
          rw [hWA] at hHeld
          have hbe : w2.heap.size = bk := hbe
          rw [hbe]
          clear hWA
          refine wpAnyH_ready (rs := [6]) (by kernel_rfl) (by simp) (AllReadyH.cons (by simp only [List.getElem?_toArray, List.getElem?_cons_succ, List.getElem?_cons_zero]; exact rfl) (fun K hK => ?_) AllReadyH.nil)
          rw [if_pos (by rfl)]
          go_simp
          (with_reducible refine (K3.out _ a2 c2 (ho2)).mono ?_)
          rintro e w3 ⟨rfl, hb3⟩
          have hd3 := bt hdA hb3
          go_wp2_with fail
          refine hK.out _ _ (KC.out _ hd3) (fun hHeld => ?_)
          clear hK K
          try simp only [Act.put, List.setIfInBounds_toArray, List.set_cons_zero, List.set_cons_succ]
          have hbk := (hb3.block bk hbl).trans hbk
          have hbl := Nat.lt_of_lt_of_le hbl hb3.size
          refine wpAnyH_take (i := 7) (v := ?_) (by simp only [List.getElem?_toArray, List.getElem?_cons_succ, List.getElem?_cons_zero]; exact rfl) (by kernel_rfl) (by kernel_rfl) (by kernel_rfl) (by intro _ _ _ h; exact h) (Or.inl ⟨by rfl, fun W hSw => ?_⟩) hHeld ?_
          rotate_left
          focus ((try dsimp only at hSw); first | (go_simp; done) | (go_simp; with_reducible rfl))
          try simp only [Act.put, List.setIfInBounds_toArray, List.set_cons_zero, List.set_cons_succ]
          refine wpAnyH_take (i := 8) (v := ?_) (by simp only [List.getElem?_toArray, List.getElem?_cons_succ, List.getElem?_cons_zero]; exact rfl) (by kernel_rfl) (by kernel_rfl) (by kernel_rfl) (by intro _ _ _ h; exact h) (Or.inl ⟨by rfl, fun W hSw => ?_⟩) hHeld ?_
          rotate_left
          focus ((try dsimp only at hSw); first | (go_simp; done) | (go_simp; with_reducible rfl))
          try simp only [Act.put, List.setIfInBounds_toArray, List.set_cons_zero, List.set_cons_succ]
          refine wpAnyH_take (i := 9) (v := ?_) (by simp only [List.getElem?_toArray, List.getElem?_cons_succ, List.getElem?_cons_zero]; exact rfl) (by kernel_rfl) (by kernel_rfl) (by kernel_rfl) (by intro _ _ _ h; exact h) (Or.inl ⟨by rfl, fun W hSw => ?_⟩) hHeld ?_
          rotate_left
          focus ((try dsimp only at hSw); first | (go_simp; done) | (go_simp; with_reducible rfl))
          try simp only [Act.put, List.setIfInBounds_toArray, List.set_cons_zero, List.set_cons_succ]
          have q0 := (of_heap hbk 0).1
          have q1 := (of_heap hbk 1).1
          have q2 := (of_heap hbk 2).1
          have q3 := (of_heap hbk 3).1
          have p0 := (of_heap hbk 0).2.1
          have p1 := (of_heap hbk 1).2.1
          have p2 := (of_heap hbk 2).2.1
          have p3 := (of_heap hbk 3).2.1
          simp only [List.getElem?_toArray, List.getElem?_cons_succ, List.getElem?_cons_zero] at q0 q1 q2 q3
          refine wpAnyH_ready (rs := [11]) (by kernel_rfl) (by simp) (AllReadyH.cons (by simp only [List.getElem?_toArray, List.getElem?_cons_succ, List.getElem?_cons_zero]; exact rfl) (fun K hK => ?_) AllReadyH.nil)
          rw [if_pos (by rfl)]
          go_simp
          have hfin : Below W1.heap.size W1 ((((w3.setCell ⟨bk, 0, .none⟩ (.string ⟨dn.toArray⟩)).setCell ⟨bk, 1, .none⟩ (.string ⟨dv.toArray⟩)).setCell ⟨bk, 2, .none⟩ (.bool dh)).setCell ⟨bk, 3, .none⟩ (.string ⟨df.toArray⟩)) := (((hd3.setCell (p := ⟨bk, 0, .none⟩) hle _).setCell (p := ⟨bk, 1, .none⟩) hle _).setCell (p := ⟨bk, 2, .none⟩) hle _).setCell (p := ⟨bk, 3, .none⟩) hle _
          refine hK.out _ _ (KC.out _ hfin) (fun hHeld => ?_)
          clear hK K
          try simp only [Act.put, List.setIfInBounds_toArray, List.set_cons_zero, List.set_cons_succ]
          have hx1 := heap_setN (j := 3) (v := .string ⟨df.toArray⟩) (heap_setN (j := 2) (v := .bool dh) (heap_setN (j := 1) (v := .string ⟨dv.toArray⟩) (heap_setN (j := 0) (v := .string ⟨dn.toArray⟩) hbk)))
          have e1 := (of_heap hx1 1).1
          simp only [List.setIfInBounds_toArray, List.set_cons_zero, List.set_cons_succ, List.getElem?_toArray, List.getElem?_cons_succ, List.getElem?_cons_zero] at e1
          refine wpAnyH_take (i := 12) (v := ?_) (by simp only [List.getElem?_toArray, List.getElem?_cons_succ, List.getElem?_cons_zero]; exact rfl) (by kernel_rfl) (by kernel_rfl) (by kernel_rfl) (by intro _ _ _ h; exact h) (Or.inl ⟨by rfl, fun W hSw => ?_⟩) hHeld ?_
          rotate_left
          focus ((try dsimp only at hSw); first | (go_simp; done) | (go_simp; with_reducible rfl))
          try simp only [Act.put, List.setIfInBounds_toArray, List.set_cons_zero, List.set_cons_succ]
          refine wpAnyH_done (by kernel_rfl) ?_ _
          obtain ⟨W5, hW5⟩ : ∃ W, ((((w3.setCell ⟨bk, 0, .none⟩ (.string ⟨dn.toArray⟩)).setCell ⟨bk, 1, .none⟩ (.string ⟨dv.toArray⟩)).setCell ⟨bk, 2, .none⟩ (.bool dh)).setCell ⟨bk, 3, .none⟩ (.string ⟨df.toArray⟩)) = W := ⟨_, rfl⟩
          rw [hW5] at e1 hfin ⊢
          have n3 := (hfin.cell (p := ⟨B, 0, .none⟩) hBl1).trans n2
          have HB5 := Lib.hid (bt B1.out hfin)
          clear hHeld hW5 hfin hd0 hd1 hd2 hd3 hb1 hb2 hb3 K1 K2 K3 KC n1 n2 x3 ho1 ho2
          clear hx1 hbk q0 q1 q2 q3 p0 p1 p2 p3
          cases none
          · go_wp2_with fail
            (with_reducible refine (K7.out _).mono ?_)
            rintro e w4 ⟨rfl, rfl⟩
            go_wp2
            go_ret2
            exact ⟨rfl, HB5.out⟩
          · go_wp2
            go_ret2
            exact ⟨rfl, HB5.out⟩
      · rw [if_pos (by rfl)]
        go_simp
        have hdA : Below W1.heap.size W1 ((w1).alloc (.cells #[.string ⟨#[]⟩, .string ⟨#[]⟩, .bool false, .string ⟨#[]⟩] 90)) := hd1.alloc hd1.size _
        refine hK.out _ _ (KC.out _ hdA) (fun hHeld => ?_)
        clear hK K
        try simp only [Act.put, List.setIfInBounds_toArray, List.set_cons_zero, List.set_cons_succ]
        have hab : Below (w1).heap.size (w1) ((w1).alloc (.cells #[.string ⟨#[]⟩, .string ⟨#[]⟩, .bool false, .string ⟨#[]⟩] 90)) := (Below.refl (w1).heap.size (w1)).alloc (Nat.le_refl _) _
        have ho1 := ho1.below hab
        clear hab
        obtain ⟨bk, hbe⟩ : ∃ b, (w1).heap.size = b := ⟨_, rfl⟩
        have hbk : ((w1).alloc (.cells #[.string ⟨#[]⟩, .string ⟨#[]⟩, .bool false, .string ⟨#[]⟩] 90)).heap[bk]? = some (.cells #[.string ⟨#[]⟩, .string ⟨#[]⟩, .bool false, .string ⟨#[]⟩] 90 (0, 0)) := heap_new (w1) _ _ hbe
        have hbl : bk < ((w1).alloc (.cells #[.string ⟨#[]⟩, .string ⟨#[]⟩, .bool false, .string ⟨#[]⟩] 90)).heap.size := by rw [← hbe]; simp
        have hle : W1.heap.size ≤ bk := by rw [← hbe]; exact hd1.size
        obtain ⟨WA, hWA⟩ : ∃ W, ((w1).alloc (.cells #[.string ⟨#[]⟩, .string ⟨#[]⟩, .bool false, .string ⟨#[]⟩] 90)) = W := ⟨_, rfl⟩
        rw [hWA] at hdA ho1 hbk hbl ⊢
        rw [hWA] at hHeld
        have hbe : w1.heap.size = bk := hbe
        rw [hbe]
        clear hWA
        refine wpAnyH_ready (rs := [4]) (by kernel_rfl) (by simp) (AllReadyH.cons (by simp only [List.getElem?_toArray, List.getElem?_cons_succ, List.getElem?_cons_zero]; exact rfl) (fun K hK => ?_) AllReadyH.nil)
        rw [if_pos (by rfl)]
        go_simp
        (with_reducible refine (K2.out _ (bt B1.out hdA) _ c1 (ho1)).mono ?_)
        rintro e w2 ⟨a2, c2, rfl, ho2, hb2⟩
        have hd2 := bt hdA hb2
        have ho2 := ho2.rd.2
        go_wp2_with fail
        refine hK.out _ _ (KC.out _ hd2) (fun hHeld => ?_)
        clear hK K
        try simp only [Act.put, List.setIfInBounds_toArray, List.set_cons_zero, List.set_cons_succ]
        have hbk := (hb2.block bk hbl).trans hbk
        have hbl := Nat.lt_of_lt_of_le hbl hb2.size
        refine wpAnyH_ready (rs := [6]) (by kernel_rfl) (by simp) (AllReadyH.cons (by simp only [List.getElem?_toArray, List.getElem?_cons_succ, List.getElem?_cons_zero]; exact rfl) (fun K hK => ?_) AllReadyH.nil)
        rw [if_pos (by rfl)]
        go_simp
        (with_reducible refine (K3.out _ a2 c2 (ho2)).mono ?_)
        rintro e w3 ⟨rfl, hb3⟩
        have hd3 := bt hd2 hb3
        go_wp2_with fail
        refine hK.out _ _ (KC.out _ hd3) (fun hHeld => ?_)
        clear hK K
        try simp only [Act.put, List.setIfInBounds_toArray, List.set_cons_zero, List.set_cons_succ]
        have hbk := (hb3.block bk hbl).trans hbk
        have hbl := Nat.lt_of_lt_of_le hbl hb3.size
        refine wpAnyH_take (i := 7) (v := ?_) (by simp only [List.getElem?_toArray, List.getElem?_cons_succ, List.getElem?_cons_zero]; exact rfl) (by kernel_rfl) (by kernel_rfl) (by kernel_rfl) (by intro _ _ _ h; exact h) (Or.inl ⟨by rfl, fun W hSw => ?_⟩) hHeld ?_
        rotate_left
        focus ((try dsimp only at hSw); first | (go_simp; done) | (go_simp; with_reducible rfl))
        try simp only [Act.put, List.setIfInBounds_toArray, List.set_cons_zero, List.set_cons_succ]
        refine wpAnyH_take (i := 8) (v := ?_) (by simp only [List.getElem?_toArray, List.getElem?_cons_succ, List.getElem?_cons_zero]; exact rfl) (by kernel_rfl) (by kernel_rfl) (by kernel_rfl) (by intro _ _ _ h; exact h) (Or.inl ⟨by rfl, fun W hSw => ?_⟩) hHeld ?_
        rotate_left
        focus ((try dsimp only at hSw); first | (go_simp; done) | (go_simp; with_reducible rfl))
        try simp only [Act.put, List.setIfInBounds_toArray, List.set_cons_zero, List.set_cons_succ]
        refine wpAnyH_take (i := 9) (v := ?_) (by simp only [List.getElem?_toArray, List.getElem?_cons_succ, List.getElem?_cons_zero]; exact rfl) (by kernel_rfl) (by kernel_rfl) (by kernel_rfl) (by intro _ _ _ h; exact h) (Or.inl ⟨by rfl, fun W hSw => ?_⟩) hHeld ?_
        rotate_left
        focus ((try dsimp only at hSw); first | (go_simp; done) | (go_simp; with_reducible rfl))
        try simp only [Act.put, List.setIfInBounds_toArray, List.set_cons_zero, List.set_cons_succ]
        have q0 := (of_heap hbk 0).1
        have q1 := (of_heap hbk 1).1
        have q2 := (of_heap hbk 2).1
        have q3 := (of_heap hbk 3).1
        have p0 := (of_heap hbk 0).2.1
        have p1 := (of_heap hbk 1).2.1
        have p2 := (of_heap hbk 2).2.1
        have p3 := (of_heap hbk 3).2.1
        simp only [List.getElem?_toArray, List.getElem?_cons_succ, List.getElem?_cons_zero] at q0 q1 q2 q3
        refine wpAnyH_ready (rs := [11]) (by kernel_rfl) (by simp) (AllReadyH.cons (by simp only [List.getElem?_toArray, List.getElem?_cons_succ, List.getElem?_cons_zero]; exact rfl) (fun K hK => ?_) AllReadyH.nil)
        rw [if_pos (by rfl)]
        go_simp
        have hfin : Below W1.heap.size W1 ((((w3.setCell ⟨bk, 0, .none⟩ (.string ⟨dn.toArray⟩)).setCell ⟨bk, 1, .none⟩ (.string ⟨dv.toArray⟩)).setCell ⟨bk, 2, .none⟩ (.bool dh)).setCell ⟨bk, 3, .none⟩ (.string ⟨df.toArray⟩)) := (((hd3.setCell (p := ⟨bk, 0, .none⟩) hle _).setCell (p := ⟨bk, 1, .none⟩) hle _).setCell (p := ⟨bk, 2, .none⟩) hle _).setCell (p := ⟨bk, 3, .none⟩) hle _
        refine hK.out _ _ (KC.out _ hfin) (fun hHeld => ?_)
        clear hK K
        try simp only [Act.put, List.setIfInBounds_toArray, List.set_cons_zero, List.set_cons_succ]
        have hx1 := heap_setN (j := 3) (v := .string ⟨df.toArray⟩) (heap_setN (j := 2) (v := .bool dh) (heap_setN (j := 1) (v := .string ⟨dv.toArray⟩) (heap_setN (j := 0) (v := .string ⟨dn.toArray⟩) hbk)))
        have e1 := (of_heap hx1 1).1
        simp only [List.setIfInBounds_toArray, List.set_cons_zero, List.set_cons_succ, List.getElem?_toArray, List.getElem?_cons_succ, List.getElem?_cons_zero] at e1
        refine wpAnyH_take (i := 12) (v := ?_) (by simp only [List.getElem?_toArray, List.getElem?_cons_succ, List.getElem?_cons_zero]; exact rfl) (by kernel_rfl) (by kernel_rfl) (by kernel_rfl) (by intro _ _ _ h; exact h) (Or.inl ⟨by rfl, fun W hSw => ?_⟩) hHeld ?_
        rotate_left
        focus ((try dsimp only at hSw); first | (go_simp; done) | (go_simp; with_reducible rfl))
        try simp only [Act.put, List.setIfInBounds_toArray, List.set_cons_zero, List.set_cons_succ]
        refine wpAnyH_done (by kernel_rfl) ?_ _
        obtain ⟨W5, hW5⟩ : ∃ W, ((((w3.setCell ⟨bk, 0, .none⟩ (.string ⟨dn.toArray⟩)).setCell ⟨bk, 1, .none⟩ (.string ⟨dv.toArray⟩)).setCell ⟨bk, 2, .none⟩ (.bool dh)).setCell ⟨bk, 3, .none⟩ (.string ⟨df.toArray⟩)) = W := ⟨_, rfl⟩
        rw [hW5] at e1 hfin ⊢
        have n3 := (hfin.cell (p := ⟨B, 0, .none⟩) hBl1).trans n2
        have HB5 := Lib.hid (bt B1.out hfin)
        clear hHeld hW5 hfin hd0 hd1 hd2 hd3 hb1 hb2 hb3 K1 K2 K3 KC n1 n2 x3 ho1 ho2
        clear hx1 hbk q0 q1 q2 q3 p0 p1 p2 p3
        cases none
        · go_wp2_with fail
          (with_reducible refine (K7.out _).mono ?_)
          rintro e w4 ⟨rfl, rfl⟩
          go_wp2
          go_ret2
          exact ⟨rfl, HB5.out⟩
        · go_wp2
          go_ret2
          exact ⟨rfl, HB5.out⟩
    · rw [if_pos (by rfl)]
      go_simp
      have hdA : Below W1.heap.size W1 ((W1.alloc (.cells #[.string ⟨#[]⟩, .string ⟨#[]⟩, .bool false, .string ⟨#[]⟩] 90)).drew) := hd0.alloc hd0.size _
      refine hK.out _ _ (KC.out _ hdA) (fun hHeld => ?_)
      clear hK K
      try simp only [Act.put, List.setIfInBounds_toArray, List.set_cons_zero, List.set_cons_succ]
      have hab : Below (W1.drew).heap.size (W1.drew) ((W1.alloc (.cells #[.string ⟨#[]⟩, .string ⟨#[]⟩, .bool false, .string ⟨#[]⟩] 90)).drew) := (Below.refl (W1.drew).heap.size (W1.drew)).alloc (Nat.le_refl _) _
      clear hab
      have hbk : ((W1.alloc (.cells #[.string ⟨#[]⟩, .string ⟨#[]⟩, .bool false, .string ⟨#[]⟩] 90)).drew).heap[W1.heap.size]? = some (.cells #[.string ⟨#[]⟩, .string ⟨#[]⟩, .bool false, .string ⟨#[]⟩] 90 (0, 0)) := heap_new (W1.drew) _ _ rfl
      have hbl : W1.heap.size < ((W1.alloc (.cells #[.string ⟨#[]⟩, .string ⟨#[]⟩, .bool false, .string ⟨#[]⟩] 90)).drew).heap.size := by simp
      have hle : W1.heap.size ≤ W1.heap.size := Nat.le_refl _
      obtain ⟨WA, hWA⟩ : ∃ W, ((W1.alloc (.cells #[.string ⟨#[]⟩, .string ⟨#[]⟩, .bool false, .string ⟨#[]⟩] 90)).drew) = W := ⟨_, rfl⟩
      rw [hWA] at hdA hbk hbl ⊢
      rw [hWA] at hHeld
      clear hWA
      refine wpAnyH_ready (rs := [3]) (by kernel_rfl) (by simp) (AllReadyH.cons (by simp only [List.getElem?_toArray, List.getElem?_cons_succ, List.getElem?_cons_zero]; exact rfl) (fun K hK => ?_) AllReadyH.nil)
      rw [if_pos (by rfl)]
      go_simp
      (with_reducible refine (K1.out _ hdA).mono ?_)
      rintro e w1 ⟨a1, c1, rfl, ho1, hb1⟩
      have hd1 := bt hdA hb1
      have ho1 := ho1.rd.2
      go_wp2_with fail
      refine hK.out _ _ (KC.out _ hd1) (fun hHeld => ?_)
      clear hK K
      try simp only [Act.put, List.setIfInBounds_toArray, List.set_cons_zero, List.set_cons_succ]
      have hbk := (hb1.block W1.heap.size hbl).trans hbk
      have hbl := Nat.lt_of_lt_of_le hbl hb1.size
      refine wpAnyH_ready (rs := [4]) (by kernel_rfl) (by simp) (AllReadyH.cons (by simp only [List.getElem?_toArray, List.getElem?_cons_succ, List.getElem?_cons_zero]; exact rfl) (fun K hK => ?_) AllReadyH.nil)
      rw [if_pos (by rfl)]
      go_simp
      (with_reducible refine (K2.out _ (bt B1.out hd1) _ c1 (ho1)).mono ?_)
      rintro e w2 ⟨a2, c2, rfl, ho2, hb2⟩
      have hd2 := bt hd1 hb2
      have ho2 := ho2.rd.2
      go_wp2_with fail
      refine hK.out _ _ (KC.out _ hd2) (fun hHeld => ?_)
      clear hK K
      try simp only [Act.put, List.setIfInBounds_toArray, List.set_cons_zero, List.set_cons_succ]
      have hbk := (hb2.block W1.heap.size hbl).trans hbk
      have hbl := Nat.lt_of_lt_of_le hbl hb2.size
      refine wpAnyH_ready (rs := [6]) (by kernel_rfl) (by simp) (AllReadyH.cons (by simp only [List.getElem?_toArray, List.getElem?_cons_succ, List.getElem?_cons_zero]; exact rfl) (fun K hK => ?_) AllReadyH.nil)
      rw [if_pos (by rfl)]
      go_simp
      (with_reducible refine (K3.out _ a2 c2 (ho2)).mono ?_)
      rintro e w3 ⟨rfl, hb3⟩
      have hd3 := bt hd2 hb3
      go_wp2_with fail
      refine hK.out _ _ (KC.out _ hd3) (fun hHeld => ?_)
      clear hK K
      try simp only [Act.put, List.setIfInBounds_toArray, List.set_cons_zero, List.set_cons_succ]
      have hbk := (hb3.block W1.heap.size hbl).trans hbk
      have hbl := Nat.lt_of_lt_of_le hbl hb3.size
      refine wpAnyH_take (i := 7) (v := ?_) (by simp only [List.getElem?_toArray, List.getElem?_cons_succ, List.getElem?_cons_zero]; exact rfl) (by kernel_rfl) (by kernel_rfl) (by kernel_rfl) (by intro _ _ _ h; exact h) (Or.inl ⟨by rfl, fun W hSw => ?_⟩) hHeld ?_
      rotate_left
      focus ((try dsimp only at hSw); first | (go_simp; done) | (go_simp; with_reducible rfl))
      try simp only [Act.put, List.setIfInBounds_toArray, List.set_cons_zero, List.set_cons_succ]
      refine wpAnyH_take (i := 8) (v := ?_) (by simp only [List.getElem?_toArray, List.getElem?_cons_succ, List.getElem?_cons_zero]; exact rfl) (by kernel_rfl) (by kernel_rfl) (by kernel_rfl) (by intro _ _ _ h; exact h) (Or.inl ⟨by rfl, fun W hSw => ?_⟩) hHeld ?_
      rotate_left
      focus ((try dsimp only at hSw); first | (go_simp; done) | (go_simp; with_reducible rfl))
      try simp only [Act.put, List.setIfInBounds_toArray, List.set_cons_zero, List.set_cons_succ]
      refine wpAnyH_take (i := 9) (v := ?_) (by simp only [List.getElem?_toArray, List.getElem?_cons_succ, List.getElem?_cons_zero]; exact rfl) (by kernel_rfl) (by kernel_rfl) (by kernel_rfl) (by intro _ _ _ h; exact h) (Or.inl ⟨by rfl, fun W hSw => ?_⟩) hHeld ?_
      rotate_left
      focus ((try dsimp only at hSw); first | (go_simp; done) | (go_simp; with_reducible rfl))
      try simp only [Act.put, List.setIfInBounds_toArray, List.set_cons_zero, List.set_cons_succ]
      have q0 := (of_heap hbk 0).1
      have q1 := (of_heap hbk 1).1
      have q2 := (of_heap hbk 2).1
      have q3 := (of_heap hbk 3).1
      have p0 := (of_heap hbk 0).2.1
      have p1 := (of_heap hbk 1).2.1
      have p2 := (of_heap hbk 2).2.1
      have p3 := (of_heap hbk 3).2.1
      simp only [List.getElem?_toArray, List.getElem?_cons_succ, List.getElem?_cons_zero] at q0 q1 q2 q3
      refine wpAnyH_ready (rs := [11]) (by kernel_rfl) (by simp) (AllReadyH.cons (by simp only [List.getElem?_toArray, List.getElem?_cons_succ, List.getElem?_cons_zero]; exact rfl) (fun K hK => ?_) AllReadyH.nil)
      rw [if_pos (by rfl)]
      go_simp
      have hfin : Below W1.heap.size W1 ((((w3.setCell ⟨W1.heap.size, 0, .none⟩ (.string ⟨dn.toArray⟩)).setCell ⟨W1.heap.size, 1, .none⟩ (.string ⟨dv.toArray⟩)).setCell ⟨W1.heap.size, 2, .none⟩ (.bool dh)).setCell ⟨W1.heap.size, 3, .none⟩ (.string ⟨df.toArray⟩)) := (((hd3.setCell (p := ⟨W1.heap.size, 0, .none⟩) hle _).setCell (p := ⟨W1.heap.size, 1, .none⟩) hle _).setCell (p := ⟨W1.heap.size, 2, .none⟩) hle _).setCell (p := ⟨W1.heap.size, 3, .none⟩) hle _
      refine hK.out _ _ (KC.out _ hfin) (fun hHeld => ?_)
      clear hK K
      try simp only [Act.put, List.setIfInBounds_toArray, List.set_cons_zero, List.set_cons_succ]
      have hx1 := heap_setN (j := 3) (v := .string ⟨df.toArray⟩) (heap_setN (j := 2) (v := .bool dh) (heap_setN (j := 1) (v := .string ⟨dv.toArray⟩) (heap_setN (j := 0) (v := .string ⟨dn.toArray⟩) hbk)))
      have e1 := (of_heap hx1 1).1
      simp only [List.setIfInBounds_toArray, List.set_cons_zero, List.set_cons_succ, List.getElem?_toArray, List.getElem?_cons_succ, List.getElem?_cons_zero] at e1
      refine wpAnyH_take (i := 12) (v := ?_) (by simp only [List.getElem?_toArray, List.getElem?_cons_succ, List.getElem?_cons_zero]; exact rfl) (by kernel_rfl) (by kernel_rfl) (by kernel_rfl) (by intro _ _ _ h; exact h) (Or.inl ⟨by rfl, fun W hSw => ?_⟩) hHeld ?_
      rotate_left
      focus ((try dsimp only at hSw); first | (go_simp; done) | (go_simp; with_reducible rfl))
      try simp only [Act.put, List.setIfInBounds_toArray, List.set_cons_zero, List.set_cons_succ]
      refine wpAnyH_done (by kernel_rfl) ?_ _
      obtain ⟨W5, hW5⟩ : ∃ W, ((((w3.setCell ⟨W1.heap.size, 0, .none⟩ (.string ⟨dn.toArray⟩)).setCell ⟨W1.heap.size, 1, .none⟩ (.string ⟨dv.toArray⟩)).setCell ⟨W1.heap.size, 2, .none⟩ (.bool dh)).setCell ⟨W1.heap.size, 3, .none⟩ (.string ⟨df.toArray⟩)) = W := ⟨_, rfl⟩
      rw [hW5] at e1 hfin ⊢
      have n3 := (hfin.cell (p := ⟨B, 0, .none⟩) hBl1).trans n2
      have HB5 := Lib.hid (bt B1.out hfin)
      clear hHeld hW5 hfin hd0 hd1 hd2 hd3 hb1 hb2 hb3 K1 K2 K3 KC n1 n2 x3 ho1 ho2
      clear hx1 hbk q0 q1 q2 q3 p0 p1 p2 p3
      cases none
      · go_wp2_with fail
        (with_reducible refine (K7.out _).mono ?_)
        rintro e w4 ⟨rfl, rfl⟩
        go_wp2
        go_ret2
        exact ⟨rfl, HB5.out⟩
      · go_wp2
        go_ret2
        exact ⟨rfl, HB5.out⟩

set_option maxHeartbeats 8000000 in
theorem expires_any (st mi asked got : Int) (re bo : ByteArray) (A V : Option Addr) (n c m d : Nat) (xs : List Fld) (dev : ByteArray) (w : World) (hE : DEnv w) (hr : Rd A n 2 (fldsV xs) w) (hn : n ≤ 1000) (hs : sumF xs ≤ 800000) (hg : -9223372036854775808 ≤ got ∧ got ≤ 9223372036854775807) :
    Calls Tryz.prog 64 #[entV st re mi A n c bo asked got V m d, .string dev] w fun e w' => e = .returned (.tuple #[.int .i64 (expF xs got).1, .bool (expF xs got).2]) ∧ Below w.heap.size w w' := by
  obtain ⟨W1, hW1⟩ : ∃ W1, w.alloc (.cells #[.int .i64 st, .string re, .int .i64 mi, .slice A n c, .string bo, .int .i64 asked, .int .i64 got, .slice V m d] 26) = W1 := ⟨_, rfl⟩
  have b1 : Below w.heap.size w W1 := by rw [← hW1]; exact (Below.refl w.heap.size w).alloc (Nat.le_refl _) _
  have x1 : W1.heap[w.heap.size]? = some (.cells #[.int .i64 st, .string re, .int .i64 mi, .slice A n c, .string bo, .int .i64 asked, .int .i64 got, .slice V m d] 26 (0, 0)) := by rw [← hW1]; exact heap_new w _ _ rfl
  have k1 := get_any A n c xs ⟨#[101, 120, 112, 105, 114, 101, 115]⟩ W1 (hr.below b1) (by omega) (by omega) (by decide)
  rw [show (⟨#[101, 120, 112, 105, 114, 101, 115]⟩ : ByteArray).data.toList = fExp from rfl] at k1
  unfold getV at k1
  have k2 := fun W (hb : Below w.heap.size w W) => when_any st mi asked got re bo A V n c m d xs ⟨#[101, 120, 112, 105, 114, 101, 115]⟩ W (hE.below hb) (hr.below hb) hn hs (by decide)
  have k3 := fun W (hb : Below w.heap.size w W) => when_any st mi asked got re bo A V n c m d xs ⟨#[100, 97, 116, 101]⟩ W (hE.below hb) (hr.below hb) hn hs (by decide)
  rw [show (⟨#[101, 120, 112, 105, 114, 101, 115]⟩ : ByteArray).data.toList = fExp from rfl] at k2
  rw [show (⟨#[100, 97, 116, 101]⟩ : ByteArray).data.toList = fDate from rfl] at k3
  have ht := whenF_in xs fExp got
  have hd := whenF_in xs fDate got
  unfold expF
  generalize getL xs fExp = g at *
  generalize whenF xs fExp got = te at *
  generalize whenF xs fDate got = td at *
  obtain ⟨gv, gi⟩ := g
  obtain ⟨t1, i1⟩ := te
  obtain ⟨t2, i2⟩ := td
  simp only at k1 k2 k3 ht hd ⊢
  have x0 := of_heap x1 0; have x3 := (of_heap x1 3).1
  have hcell : ∀ j, W1.cell? ⟨w.heap.size, j, none⟩ = #[.int .i64 st, .string re, .int .i64 mi, .slice A n c, .string bo, .int .i64 asked, .int .i64 got, .slice V m d][j]? := fun j => (of_heap x1 j).1
  have hz : w.heap.size < W1.heap.size := x0.2.2
  have X1 := Lib.hid x1
  have HW1 := Lib.hid hW1; have K1 := Lib.hid k1; have K2 := Lib.hid k2; have K3 := Lib.hid k3; have B1 := Lib.hid b1
  have k4 := fun W => since_any t2 t1 W (by omega) (by omega) (by omega) (by omega)
  have k5 := fun W => since_any got t1 W (by omega) (by omega) (by omega) (by omega)
  have K4 := Lib.hid k4; have K5 := Lib.hid k5
  clear hW1 k1 k2 k3 k4 k5 x1 hr hs hE b1 x0 hcell
  unfold entV at K2 K3 ⊢
  cases gi
  · try simp only
    go_enter Tryz.func64, Tryz.ntmps64
    go_wp2_with fail
    rw [HW1.out]
    (with_reducible refine K1.out.mono ?_)
    rintro e w1 ⟨rfl, hb1⟩
    have HB := Lib.hid (bt B1.out hb1)
    clear hb1 K1 K2 K3 K4 K5
    go_wp2
    go_ret2
    exact ⟨rfl, HB.out⟩
  · try simp only
    go_enter Tryz.func64, Tryz.ntmps64
    go_wp2_with fail
    rw [HW1.out]
    (with_reducible refine K1.out.mono ?_)
    rintro e w1 ⟨rfl, hb1⟩
    have y1 := (hb1.block w.heap.size hz).trans X1.out
    have y0 := (of_heap y1 0).1; have y1a := (of_heap y1 1).1; have y2 := (of_heap y1 2).1; have y3 := (of_heap y1 3).1; have y4 := (of_heap y1 4).1; have y5 := (of_heap y1 5).1; have y6 := (of_heap y1 6).1; have y7 := (of_heap y1 7).1
    simp only [List.getElem?_toArray, List.getElem?_cons_succ, List.getElem?_cons_zero] at y0 y1a y2 y3 y4 y5 y6 y7
    have hz1 := Nat.lt_of_lt_of_le hz hb1.size
    have HB := Lib.hid (bt B1.out hb1)
    have k6 := K2.out w1 HB.out
    have K6 := Lib.hid k6
    have Y1 := Lib.hid y1
    clear hb1 K1 K2 k6 B1 y1
    go_wp2_with fail
    (with_reducible refine K6.out.mono ?_)
    rintro e w2 ⟨rfl, hb2⟩
    have HB2 := Lib.hid (bt HB.out hb2)
    cases i1
    · try simp only
      clear K6 K3 K4 K5 HB hb2
      go_wp2
      go_ret2
      exact ⟨rfl, HB2.out⟩
    · try simp only
      have z1 := (hb2.block w.heap.size hz1).trans Y1.out
      have z0 := (of_heap z1 0).1; have z1a := (of_heap z1 1).1; have z2 := (of_heap z1 2).1; have z3 := (of_heap z1 3).1; have z4 := (of_heap z1 4).1; have z5 := (of_heap z1 5).1; have z6 := (of_heap z1 6).1; have z7 := (of_heap z1 7).1
      simp only [List.getElem?_toArray, List.getElem?_cons_succ, List.getElem?_cons_zero] at z0 z1a z2 z3 z4 z5 z6 z7
      have hz2 := Nat.lt_of_lt_of_le hz1 hb2.size
      have k7 := K3.out w2 HB2.out
      have K7 := Lib.hid k7
      have Z1 := Lib.hid z1
      clear hb2 K6 K3 k7 HB z1 y0 y1a y2 y3 y4 y5 y6 y7 Y1
      go_wp2_with fail
      (with_reducible refine K7.out.mono ?_)
      rintro e w3 ⟨rfl, hb3⟩
      have HB3 := Lib.hid (bt HB2.out hb3)
      have u1 := (hb3.block w.heap.size hz2).trans Z1.out
      have u6 := (of_heap u1 6).1
      simp only [List.getElem?_toArray, List.getElem?_cons_succ, List.getElem?_cons_zero] at u6
      clear hb3 K7 HB2 u1 Z1 z0 z1a z2 z3 z4 z5 z6 z7
      cases i2
      · try simp only
        go_wp2_with fail
        (with_reducible refine (K5.out _).mono ?_)
        rintro e w4 ⟨rfl, rfl⟩
        go_wp2
        go_ret2
        exact ⟨rfl, HB3.out⟩
      · try simp only
        go_wp2_with fail
        (with_reducible refine (K4.out _).mono ?_)
        rintro e w4 ⟨rfl, rfl⟩
        go_wp2
        go_ret2
        exact ⟨rfl, HB3.out⟩
end Go.Proofs.YtgmmjhcklhajiaaGreatDoor
/- The walks of layer 13's Age, Life, Fresh, Extra. -/
namespace Go.Proofs.YtgmmjhcklhajiaaGreatDoor
open Go.RowKit
set_option maxRecDepth 100000

/-- An entry's cells in memory. -/
def EntAt (b : Nat) (st : Int) (re : ByteArray) (mi : Int) (A : Option Addr) (n c : Nat) (bo : ByteArray) (asked got : Int) (V : Option Addr) (m d : Nat) (w : World) : Prop :=
  w.heap[b]? = some (.cells #[.int .i64 st, .string re, .int .i64 mi, .slice A n c, .string bo, .int .i64 asked, .int .i64 got, .slice V m d] 26 (0, 0))
theorem EntAt.cells {b : Nat} {st : Int} {re : ByteArray} {mi : Int} {A : Option Addr} {n c : Nat} {bo : ByteArray} {asked got : Int} {V : Option Addr} {m d : Nat} {w : World} (h : EntAt b st re mi A n c bo asked got V m d w) :
    w.cell? ⟨b, 0, none⟩ = some (.int .i64 st) ∧ w.cell? ⟨b, 1, none⟩ = some (.string re) ∧ w.cell? ⟨b, 2, none⟩ = some (.int .i64 mi) ∧ w.cell? ⟨b, 3, none⟩ = some (.slice A n c) ∧ w.cell? ⟨b, 4, none⟩ = some (.string bo) ∧ w.cell? ⟨b, 5, none⟩ = some (.int .i64 asked) ∧ w.cell? ⟨b, 6, none⟩ = some (.int .i64 got) ∧ w.cell? ⟨b, 7, none⟩ = some (.slice V m d) ∧ b < w.heap.size :=
  ⟨(of_heap h 0).1, (of_heap h 1).1, (of_heap h 2).1, (of_heap h 3).1, (of_heap h 4).1, (of_heap h 5).1, (of_heap h 6).1, (of_heap h 7).1, (of_heap h 0).2.2⟩
theorem EntAt.below {b : Nat} {st : Int} {re : ByteArray} {mi : Int} {A : Option Addr} {n c : Nat} {bo : ByteArray} {asked got : Int} {V : Option Addr} {m d : Nat} {w w' : World} (h : EntAt b st re mi A n c bo asked got V m d w) (hb : Below w.heap.size w w') : EntAt b st re mi A n c bo asked got V m d w' :=
  (hb.block b h.cells.2.2.2.2.2.2.2.2).trans h

set_option maxHeartbeats 8000000 in
theorem age_any (st mi asked got now : Int) (re bo : ByteArray) (A V : Option Addr) (n c m d : Nat) (xs : List Fld) (w : World) (hE : DEnv w) (hr : Rd A n 2 (fldsV xs) w) (hn : n ≤ 1000) (hs : sumF xs ≤ 800000) (hg : -9223372036854775808 ≤ got ∧ got ≤ 9223372036854775807) (ha : -9223372036854775808 ≤ asked ∧ asked ≤ 9223372036854775807) (hw : -9223372036854775808 ≤ now ∧ now ≤ 9223372036854775807) :
    Calls Tryz.prog 21 #[entV st re mi A n c bo asked got V m d, .int .i64 now] w fun e w' => e = .returned (.int .i64 (ageF xs asked got now)) ∧ Below w.heap.size w w' := by
  obtain ⟨W1, hW1⟩ : ∃ W1, w.alloc (.cells #[.int .i64 st, .string re, .int .i64 mi, .slice A n c, .string bo, .int .i64 asked, .int .i64 got, .slice V m d] 26) = W1 := ⟨_, rfl⟩
  have b1 : Below w.heap.size w W1 := by rw [← hW1]; exact (Below.refl w.heap.size w).alloc (Nat.le_refl _) _
  have x1 : EntAt w.heap.size st re mi A n c bo asked got V m d W1 := by rw [← hW1]; exact heap_new w _ _ rfl
  have k1 := when_any st mi asked got re bo A V n c m d xs ⟨#[100, 97, 116, 101]⟩ W1 (hE.below b1) (hr.below b1) hn hs (by decide)
  rw [show (⟨#[100, 97, 116, 101]⟩ : ByteArray).data.toList = fDate from rfl] at k1
  have k2 := fun W (hb : Below w.heap.size w W) => get_any A n c xs ⟨#[97, 103, 101]⟩ W (hr.below hb) (by omega) (by omega) (by decide)
  rw [show (⟨#[97, 103, 101]⟩ : ByteArray).data.toList = fAge from rfl] at k2
  have hgl := getL_le xs fAge
  have hd := whenF_in xs fDate got
  have hfl := hr.fld
  have hag : ageF xs asked got now = addB (max (bif (whenF xs fDate got).2 then since (whenF xs fDate got).1 got else 0) (addB (numF (getL xs fAge).1) (since asked got))) (since got now) := rfl
  rw [hag]
  clear hag
  unfold getV at k2
  generalize whenF xs fDate got = td at *
  generalize getL xs fAge = g at *
  obtain ⟨gv, gi⟩ := g
  obtain ⟨t2, i2⟩ := td
  simp only at k1 k2 hd hgl ⊢
  have k3 := fun W => number_any ⟨gv.toArray⟩ W (by rw [Lib.size_eq]; show gv.length ≤ _; omega)
  rw [show (⟨gv.toArray⟩ : ByteArray).data.toList = gv from rfl] at k3
  have k4 := fun W => since_any t2 got W (by omega) (by omega) (by omega) (by omega)
  have k5 := fun W => since_any asked got W (by omega) (by omega) (by omega) (by omega)
  have k6 := fun W => since_any got now W (by omega) (by omega) (by omega) (by omega)
  have s1 := since_lo t2 got; have s1' := since_hi t2 got
  have k7 := fun W => add_any (numF gv) (since asked got) W
  have k8 := fun p W => add_any p (since got now) W
  have u1 := addB_lo (numF gv) (since asked got); have u2 := addB_hi (numF gv) (since asked got)
  generalize since t2 got = sd at *
  generalize since asked got = sa at *
  generalize since got now = sn at *
  generalize numF gv = nv at *
  generalize addB nv sa = told at *
  have X1 := Lib.hid x1; have HW1 := Lib.hid hW1; have K1 := Lib.hid k1; have K2 := Lib.hid k2; have B1 := Lib.hid b1
  have K3 := Lib.hid k3; have K4 := Lib.hid k4; have K5 := Lib.hid k5; have K6 := Lib.hid k6; have K7 := Lib.hid k7; have K8 := Lib.hid k8
  obtain ⟨c0, c1, c2, c3, c4, c5, c6, c7, cl⟩ := x1.cells
  clear hW1 k1 k2 k3 k4 k5 k6 k7 k8 x1 hr hs hE b1 hg ha hw hd hgl hfl
  unfold entV at K1 ⊢
  go_enter Tryz.func21, Tryz.ntmps21
  go_wp2_with fail
  rw [HW1.out]
  (with_reducible refine K1.out.mono ?_)
  rintro e w1 ⟨rfl, hb1⟩
  have X2 := Lib.hid (X1.out.below hb1)
  have HB := Lib.hid (bt B1.out hb1)
  obtain ⟨c0, c1, c2, c3, c4, c5, c6, c7, cl⟩ := X2.out.cells
  clear hb1 K1 X1 B1 HW1
  cases i2
  · go_wp2_with fail
    (with_reducible refine (K2.out _ HB.out).mono ?_)
    rintro e w2 ⟨rfl, hb2⟩
    have X3 := Lib.hid (X2.out.below hb2)
    have HB2 := Lib.hid (bt HB.out hb2)
    clear c0 c1 c2 c3 c4 c5 c6 c7 cl
    obtain ⟨c0, c1, c2, c3, c4, c5, c6, c7, cl⟩ := X3.out.cells
    clear hb2 K2 X2 HB K4
    go_wp2_with fail
    go_quiet (first
      | (go_at_call 54; with_reducible exact (K3.out _).mono (fun _ _ ⟨h1, h2⟩ => ⟨h1, _, h2.symm⟩))
      | (go_at_call 26; with_reducible exact (K5.out _).mono (fun _ _ ⟨h1, h2⟩ => ⟨h1, _, h2.symm⟩))
      | (go_at_call 25; with_reducible exact (K7.out _).mono (fun _ _ ⟨h1, h2⟩ => ⟨h1, _, h2.symm⟩)))
    go_wp2_with fail
    (with_reducible refine (K6.out _).mono ?_)
    rintro e w3 ⟨rfl, rfl⟩
    go_wp2_with fail
    (with_reducible refine (K8.out _ _).mono ?_)
    rintro e w3 ⟨rfl, rfl⟩
    go_wp2
    go_ret
    exact ⟨ret_int (by first | rfl | (congr 1; omega)), Go.below_drewN HB2.out _⟩
  · go_wp2_with fail
    (with_reducible refine (K4.out _).mono ?_)
    rintro e w9 ⟨rfl, rfl⟩
    go_wp2_with fail
    (with_reducible refine (K2.out _ HB.out).mono ?_)
    rintro e w2 ⟨rfl, hb2⟩
    have X3 := Lib.hid (X2.out.below hb2)
    have HB2 := Lib.hid (bt HB.out hb2)
    clear c0 c1 c2 c3 c4 c5 c6 c7 cl
    obtain ⟨c0, c1, c2, c3, c4, c5, c6, c7, cl⟩ := X3.out.cells
    clear hb2 K2 X2 HB K4
    go_wp2_with fail
    go_quiet (first
      | (go_at_call 54; with_reducible exact (K3.out _).mono (fun _ _ ⟨h1, h2⟩ => ⟨h1, _, h2.symm⟩))
      | (go_at_call 26; with_reducible exact (K5.out _).mono (fun _ _ ⟨h1, h2⟩ => ⟨h1, _, h2.symm⟩))
      | (go_at_call 25; with_reducible exact (K7.out _).mono (fun _ _ ⟨h1, h2⟩ => ⟨h1, _, h2.symm⟩)))
    go_wp2_with fail
    (with_reducible refine (K6.out _).mono ?_)
    rintro e w3 ⟨rfl, rfl⟩
    go_wp2_with fail
    (with_reducible refine (K8.out _ _).mono ?_)
    rintro e w3 ⟨rfl, rfl⟩
    go_wp2
    go_ret
    exact ⟨ret_int (by first | rfl | (congr 1; omega)), Go.below_drewN HB2.out _⟩
end Go.Proofs.YtgmmjhcklhajiaaGreatDoor
/- The walk of fresh.Life (printed by wip/tools/life.py). -/
namespace Go.Proofs.YtgmmjhcklhajiaaGreatDoor
open Go.RowKit
set_option maxRecDepth 100000

set_option maxHeartbeats 16000000 in
theorem life_any (st mi asked got : Int) (re bo : ByteArray) (A V : Option Addr) (n c m d : Nat) (xs : List Fld) (dev : ByteArray) (w : World) (hE : DEnv w) (hr : Rd A n 2 (fldsV xs) w) (hn : n ≤ 1000) (hs : sumF xs ≤ 800000) (hg : -9223372036854775808 ≤ got ∧ got ≤ 9223372036854775807) :
    Calls Tryz.prog 27 #[entV st re mi A n c bo asked got V m d, .string dev] w fun e w' => e = .returned (.int .i64 (lifeF xs got dev.data.toList)) ∧ Below w.heap.size w w' := by
  obtain ⟨W1, hW1⟩ : ∃ W1, w.alloc (.cells #[.int .i64 st, .string re, .int .i64 mi, .slice A n c, .string bo, .int .i64 asked, .int .i64 got, .slice V m d] 26) = W1 := ⟨_, rfl⟩
  have b1 : Below w.heap.size w W1 := by rw [← hW1]; exact (Below.refl w.heap.size w).alloc (Nat.le_refl _) _
  have x1 : EntAt w.heap.size st re mi A n c bo asked got V m d W1 := by rw [← hW1]; exact heap_new w _ _ rfl
  have f0 := fun W (hb : Below w.heap.size w W) => surrogate_any st mi asked got re bo A V n c m d xs dev W (hE.below hb).1 (hr.below hb) hn hs
  have f4 := fun W (hb : Below w.heap.size w W) => expires_any st mi asked got re bo A V n c m d xs dev W (hE.below hb) (hr.below hb) hn hs hg
  have f1 := fun N B W (hb : Below w.heap.size w W) hN hB hNl hBl => rule_any N B [110, 111, 45, 99, 97, 99, 104, 101] true st mi asked got re bo A V n c m d xs dev W (hE.below hb).1 (hr.below hb) hn hs (by decide) hN hB hNl hBl
  have f2 := fun N B W (hb : Below w.heap.size w W) hN hB hNl hBl => rule_any N B [115, 45, 109, 97, 120, 97, 103, 101] false st mi asked got re bo A V n c m d xs dev W (hE.below hb).1 (hr.below hb) hn hs (by decide) hN hB hNl hBl
  have f3 := fun N B W (hb : Below w.heap.size w W) hN hB hNl hBl => rule_any N B [109, 97, 120, 45, 97, 103, 101] false st mi asked got re bo A V n c m d xs dev W (hE.below hb).1 (hr.below hb) hn hs (by decide) hN hB hNl hBl
  have hlf : lifeF xs got dev.data.toList = lifeR [surF xs dev.data.toList, ruleF true fNoCache xs, ruleF false fSMax xs, ruleF false sMaxAge xs, expF xs got] := rfl
  rw [show ([110, 111, 45, 99, 97, 99, 104, 101] : List UInt8) = fNoCache from rfl] at f1
  rw [show ([115, 45, 109, 97, 120, 97, 103, 101] : List UInt8) = fSMax from rfl] at f2
  rw [show ([109, 97, 120, 45, 97, 103, 101] : List UInt8) = sMaxAge from rfl] at f3
  rw [hlf]
  clear hlf
  generalize surF xs dev.data.toList = r0 at *
  generalize ruleF true fNoCache xs = r1 at *
  generalize ruleF false fSMax xs = r2 at *
  generalize ruleF false sMaxAge xs = r3 at *
  generalize expF xs got = r4 at *
  obtain ⟨n0, i0⟩ := r0; obtain ⟨n1, i1⟩ := r1; obtain ⟨n2, i2⟩ := r2; obtain ⟨n3, i3⟩ := r3; obtain ⟨n4, i4⟩ := r4
  simp only at f0 f1 f2 f3 f4
  have F0 := Lib.hid f0; have F1 := Lib.hid f1; have F2 := Lib.hid f2; have F3 := Lib.hid f3; have F4 := Lib.hid f4
  have X1 := Lib.hid x1; have HW1 := Lib.hid hW1; have B1 := Lib.hid b1
  obtain ⟨L, hL⟩ : ∃ L, lifeR [(n0, i0), (n1, i1), (n2, i2), (n3, i3), (n4, i4)] = L := ⟨_, rfl⟩
  rw [hL]
  have HL := Lib.hid hL
  clear hL hW1 f0 f1 f2 f3 f4 x1 hr hs hE b1 hg
  unfold entV at F0 F1 F2 F3 F4 ⊢
  go_enter Tryz.func27, Tryz.ntmps27
  go_wp2_with fail
  go_step3
  go_wp2_with fail
  go_step3
  go_wp2_with fail
  rw [HW1.out]
  (with_reducible refine (named_any _ _ _).mono ?_)
  rintro e y1 ⟨rfl, p1, q1, z1, hb1⟩
  have P1 := Lib.hid p1; have Q1 := Lib.hid q1; have HB1 := Lib.hid hb1; have Z1 := Lib.hid z1
  clear p1 q1 hb1 z1
  go_wp2_with fail
  (with_reducible refine (named_any _ _ _).mono ?_)
  rintro e y2 ⟨rfl, p2, q2, z2, hb2⟩
  have P2 := Lib.hid p2; have Q2 := Lib.hid q2; have HB2 := Lib.hid hb2; have Z2 := Lib.hid z2
  clear p2 q2 hb2 z2
  go_wp2_with fail
  (with_reducible refine (named_any _ _ _).mono ?_)
  rintro e y3 ⟨rfl, p3, q3, z3, hb3⟩
  have P3 := Lib.hid p3; have Q3 := Lib.hid q3; have HB3 := Lib.hid hb3; have Z3 := Lib.hid z3
  clear p3 q3 hb3 z3
  go_wp2_with fail
  obtain ⟨W5, hW5⟩ : ∃ W, y3.alloc (.cells #[.func (.func 62) #[] #[], .func (.func 117) #[] #[.pointer (some ⟨W1.heap.size, 0, none⟩), .pointer (some ⟨W1.heap.size + 1, 0, none⟩)], .func (.func 117) #[] #[.pointer (some ⟨y1.heap.size, 0, none⟩), .pointer (some ⟨y1.heap.size + 1, 0, none⟩)], .func (.func 117) #[] #[.pointer (some ⟨y2.heap.size, 0, none⟩), .pointer (some ⟨y2.heap.size + 1, 0, none⟩)], .func (.func 64) #[] #[]] 84) = W := ⟨_, rfl⟩
  have b5 : Below y3.heap.size y3 W5 := by rw [← hW5]; exact (Below.refl y3.heap.size y3).alloc (Nat.le_refl _) _
  have a5 : W5.heap[y3.heap.size]? = some (.cells #[.func (.func 62) #[] #[], .func (.func 117) #[] #[.pointer (some ⟨W1.heap.size, 0, none⟩), .pointer (some ⟨W1.heap.size + 1, 0, none⟩)], .func (.func 117) #[] #[.pointer (some ⟨y1.heap.size, 0, none⟩), .pointer (some ⟨y1.heap.size + 1, 0, none⟩)], .func (.func 117) #[] #[.pointer (some ⟨y2.heap.size, 0, none⟩), .pointer (some ⟨y2.heap.size + 1, 0, none⟩)], .func (.func 64) #[] #[]] 84 (0, 0)) := by rw [← hW5]; exact heap_new y3 _ _ rfl
  rw [hW5]
  have hB5 : Below w.heap.size w W5 := bt (bt (bt (bt B1.out HB1.out) HB2.out) HB3.out) b5
  have X5 := Lib.hid ((((X1.out.below HB1.out).below HB2.out).below HB3.out).below b5)
  have s1 := HB1.out.size; have s2 := HB2.out.size; have s3 := HB3.out.size; have s5 := b5.size
  have zz1 := Z1.out; have zz2 := Z2.out; have zz3 := Z3.out
  have P1' := Lib.hid ((b5.cell (p := ⟨W1.heap.size, 0, none⟩) (by show W1.heap.size < _; omega)).trans ((HB3.out.cell (p := ⟨W1.heap.size, 0, none⟩) (by show W1.heap.size < _; omega)).trans ((HB2.out.cell (p := ⟨W1.heap.size, 0, none⟩) (by show W1.heap.size < _; omega)).trans P1.out)))
  have Q1' := Lib.hid ((b5.cell (p := ⟨W1.heap.size + 1, 0, none⟩) (by show W1.heap.size + 1 < _; omega)).trans ((HB3.out.cell (p := ⟨W1.heap.size + 1, 0, none⟩) (by show W1.heap.size + 1 < _; omega)).trans ((HB2.out.cell (p := ⟨W1.heap.size + 1, 0, none⟩) (by show W1.heap.size + 1 < _; omega)).trans Q1.out)))
  have P2' := Lib.hid ((b5.cell (p := ⟨y1.heap.size, 0, none⟩) (by show y1.heap.size < _; omega)).trans ((HB3.out.cell (p := ⟨y1.heap.size, 0, none⟩) (by show y1.heap.size < _; omega)).trans P2.out))
  have Q2' := Lib.hid ((b5.cell (p := ⟨y1.heap.size + 1, 0, none⟩) (by show y1.heap.size + 1 < _; omega)).trans ((HB3.out.cell (p := ⟨y1.heap.size + 1, 0, none⟩) (by show y1.heap.size + 1 < _; omega)).trans Q2.out))
  have P3' := Lib.hid ((b5.cell (p := ⟨y2.heap.size, 0, none⟩) (by show y2.heap.size < _; omega)).trans P3.out)
  have Q3' := Lib.hid ((b5.cell (p := ⟨y2.heap.size + 1, 0, none⟩) (by show y2.heap.size + 1 < _; omega)).trans Q3.out)
  have m1 : W1.heap.size < W5.heap.size := by omega
  have m1' : W1.heap.size + 1 < W5.heap.size := by omega
  have m2 : y1.heap.size < W5.heap.size := by omega
  have m2' : y1.heap.size + 1 < W5.heap.size := by omega
  have m3 : y2.heap.size < W5.heap.size := by omega
  have m3' : y2.heap.size + 1 < W5.heap.size := by omega
  generalize y3.heap.size = R at *
  generalize y2.heap.size = p3 at *
  generalize y1.heap.size = p2 at *
  generalize W1.heap.size = p1 at *
  have HB5 := Lib.hid hB5; have A5 := Lib.hid a5
  have hRl := (of_heap a5 0).2.2
  clear hB5 a5 hW5 b5 s1 s2 s3 s5 zz1 zz2 zz3 P1 P2 P3 Q1 Q2 Q3 Z1 Z2 Z3 HB1 HB2 HB3 X1 B1 HW1
  go_wp2_with fail
  go_loopw [17, 5] (fun i lf wr => ∃ j : Nat, j ≤ 5 ∧ i = .int .i64 j ∧ lf = .int .i64 0 ∧ Hid (lifeR ([(n0, i0), (n1, i1), (n2, i2), (n3, i3), (n4, i4)].drop j) = L) ∧ Below W5.heap.size W5 wr) (fun i _ _ => 5 - (intOf i).toNat)
  case atStart => exact ⟨0, by omega, rfl, rfl, HL, Below.refl _ _⟩
  case round =>
    clear HL
    obtain ⟨j, hj, rfl, rfl, HL, hbw⟩ := hrel
    rcases (by omega : j = 0 ∨ j = 1 ∨ j = 2 ∨ j = 3 ∨ j = 4 ∨ j = 5) with rfl | rfl | rfl | rfl | rfl | rfl
    · have r0 := (hbw.cell (p := ⟨R, 0, none⟩) hRl).trans (of_heap A5.out 0).1
      simp only [List.getElem?_toArray, List.getElem?_cons_zero] at r0
      obtain ⟨W6, hW6⟩ : ∃ W, wr.alloc (.cells #[.func (.func 62) #[] #[]] 84) = W := ⟨_, rfl⟩
      have b6 : Below wr.heap.size wr W6 := by rw [← hW6]; exact (Below.refl wr.heap.size wr).alloc (Nat.le_refl _) _
      have v1 : W6.cell? ⟨wr.heap.size, 0, none⟩ = some (.func (.func 62) #[] #[]) := by rw [← hW6]; exact World.cell?_alloc_mark wr _ _ _ 0
      have hB6 : Below w.heap.size w W6 := bt (bt HB5.out hbw) b6
      have k6 := F0.out W6 hB6
      obtain ⟨c0, c1, c2, c3, c4, c5, c6, c7, cl⟩ := ((X5.out.below hbw).below b6).cells
      have hbw6 := hbw.trans (b6.mono hbw.size)
      have K6 := Lib.hid k6; have HW6 := Lib.hid hW6; have HB6 := Lib.hid hB6; have HBW6 := Lib.hid hbw6
      clear k6 hW6 hB6 b6 hbw6 F0 F1 F2 F3 F4 P1' P2' P3' Q1' Q2' Q3' m1 m1' m2 m2' m3 m3' A5 X5
      cases i0
      · have hl2 : lifeR [(n1, i1), (n2, i2), (n3, i3), (n4, i4)] = L := HL.out
        have HL2 := Lib.hid hl2
        clear hl2 HL
        go_upto_region 5 with (fail)
        rw [HW6.out]
        go_wp2_with fail
        (with_reducible refine K6.out.mono ?_)
        rintro e w7 ⟨rfl, hb7⟩
        have hB7 := HBW6.out.trans (hb7.mono HBW6.out.size)
        clear hb7
        go_wp2
        go_roundw
        case rel => exact ⟨1, by omega, by rfl, rfl, HL2, hB7⟩
        case measure => simp [intOf]
      · have hl2 : n0 = L := HL.out
        have HL2 := Lib.hid hl2
        clear hl2 HL
        go_upto_region 5 with (fail)
        rw [HW6.out]
        go_wp2_with fail
        (with_reducible refine K6.out.mono ?_)
        rintro e w7 ⟨rfl, hb7⟩
        have hB7 := bt HB6.out hb7
        clear hb7
        go_wp2
        rw [Exit.noGoto_ret]
        go_ret
        exact ⟨ret_int HL2.out, hB7⟩
    · have r0 := (hbw.cell (p := ⟨R, 1, none⟩) hRl).trans (of_heap A5.out 1).1
      simp only [List.getElem?_toArray, List.getElem?_cons_succ, List.getElem?_cons_zero] at r0
      obtain ⟨W6, hW6⟩ : ∃ W, wr.alloc (.cells #[.func (.func 117) #[] #[.pointer (some ⟨p1, 0, none⟩), .pointer (some ⟨p1 + 1, 0, none⟩)]] 84) = W := ⟨_, rfl⟩
      have b6 : Below wr.heap.size wr W6 := by rw [← hW6]; exact (Below.refl wr.heap.size wr).alloc (Nat.le_refl _) _
      have v1 : W6.cell? ⟨wr.heap.size, 0, none⟩ = some (.func (.func 117) #[] #[.pointer (some ⟨p1, 0, none⟩), .pointer (some ⟨p1 + 1, 0, none⟩)]) := by rw [← hW6]; exact World.cell?_alloc_mark wr _ _ _ 0
      have hB6 : Below w.heap.size w W6 := bt (bt HB5.out hbw) b6
      have k6 := F1.out p1 (p1 + 1) W6 hB6 ((b6.cell (p := ⟨p1, 0, none⟩) (Nat.lt_of_lt_of_le m1 hbw.size)).trans ((hbw.cell (p := ⟨p1, 0, none⟩) m1).trans P1'.out)) ((b6.cell (p := ⟨p1 + 1, 0, none⟩) (Nat.lt_of_lt_of_le m1' hbw.size)).trans ((hbw.cell (p := ⟨p1 + 1, 0, none⟩) m1').trans Q1'.out)) (Nat.lt_of_lt_of_le (Nat.lt_of_lt_of_le m1 hbw.size) b6.size) (Nat.lt_of_lt_of_le (Nat.lt_of_lt_of_le m1' hbw.size) b6.size)
      obtain ⟨c0, c1, c2, c3, c4, c5, c6, c7, cl⟩ := ((X5.out.below hbw).below b6).cells
      have hbw6 := hbw.trans (b6.mono hbw.size)
      have K6 := Lib.hid k6; have HW6 := Lib.hid hW6; have HB6 := Lib.hid hB6; have HBW6 := Lib.hid hbw6
      clear k6 hW6 hB6 b6 hbw6 F0 F1 F2 F3 F4 P1' P2' P3' Q1' Q2' Q3' m1 m1' m2 m2' m3 m3' A5 X5
      cases i1
      · have hl2 : lifeR [(n2, i2), (n3, i3), (n4, i4)] = L := HL.out
        have HL2 := Lib.hid hl2
        clear hl2 HL
        go_upto_region 5 with (fail)
        rw [HW6.out]
        go_wp2_with fail
        (with_reducible refine K6.out.mono ?_)
        rintro e w7 ⟨rfl, hb7⟩
        have hB7 := HBW6.out.trans (hb7.mono HBW6.out.size)
        clear hb7
        go_wp2
        go_roundw
        case rel => exact ⟨2, by omega, by rfl, rfl, HL2, hB7⟩
        case measure => simp [intOf]
      · have hl2 : n1 = L := HL.out
        have HL2 := Lib.hid hl2
        clear hl2 HL
        go_upto_region 5 with (fail)
        rw [HW6.out]
        go_wp2_with fail
        (with_reducible refine K6.out.mono ?_)
        rintro e w7 ⟨rfl, hb7⟩
        have hB7 := bt HB6.out hb7
        clear hb7
        go_wp2
        rw [Exit.noGoto_ret]
        go_ret
        exact ⟨ret_int HL2.out, hB7⟩
    · have r0 := (hbw.cell (p := ⟨R, 2, none⟩) hRl).trans (of_heap A5.out 2).1
      simp only [List.getElem?_toArray, List.getElem?_cons_succ, List.getElem?_cons_zero] at r0
      obtain ⟨W6, hW6⟩ : ∃ W, wr.alloc (.cells #[.func (.func 117) #[] #[.pointer (some ⟨p2, 0, none⟩), .pointer (some ⟨p2 + 1, 0, none⟩)]] 84) = W := ⟨_, rfl⟩
      have b6 : Below wr.heap.size wr W6 := by rw [← hW6]; exact (Below.refl wr.heap.size wr).alloc (Nat.le_refl _) _
      have v1 : W6.cell? ⟨wr.heap.size, 0, none⟩ = some (.func (.func 117) #[] #[.pointer (some ⟨p2, 0, none⟩), .pointer (some ⟨p2 + 1, 0, none⟩)]) := by rw [← hW6]; exact World.cell?_alloc_mark wr _ _ _ 0
      have hB6 : Below w.heap.size w W6 := bt (bt HB5.out hbw) b6
      have k6 := F2.out p2 (p2 + 1) W6 hB6 ((b6.cell (p := ⟨p2, 0, none⟩) (Nat.lt_of_lt_of_le m2 hbw.size)).trans ((hbw.cell (p := ⟨p2, 0, none⟩) m2).trans P2'.out)) ((b6.cell (p := ⟨p2 + 1, 0, none⟩) (Nat.lt_of_lt_of_le m2' hbw.size)).trans ((hbw.cell (p := ⟨p2 + 1, 0, none⟩) m2').trans Q2'.out)) (Nat.lt_of_lt_of_le (Nat.lt_of_lt_of_le m2 hbw.size) b6.size) (Nat.lt_of_lt_of_le (Nat.lt_of_lt_of_le m2' hbw.size) b6.size)
      obtain ⟨c0, c1, c2, c3, c4, c5, c6, c7, cl⟩ := ((X5.out.below hbw).below b6).cells
      have hbw6 := hbw.trans (b6.mono hbw.size)
      have K6 := Lib.hid k6; have HW6 := Lib.hid hW6; have HB6 := Lib.hid hB6; have HBW6 := Lib.hid hbw6
      clear k6 hW6 hB6 b6 hbw6 F0 F1 F2 F3 F4 P1' P2' P3' Q1' Q2' Q3' m1 m1' m2 m2' m3 m3' A5 X5
      cases i2
      · have hl2 : lifeR [(n3, i3), (n4, i4)] = L := HL.out
        have HL2 := Lib.hid hl2
        clear hl2 HL
        go_upto_region 5 with (fail)
        rw [HW6.out]
        go_wp2_with fail
        (with_reducible refine K6.out.mono ?_)
        rintro e w7 ⟨rfl, hb7⟩
        have hB7 := HBW6.out.trans (hb7.mono HBW6.out.size)
        clear hb7
        go_wp2
        go_roundw
        case rel => exact ⟨3, by omega, by rfl, rfl, HL2, hB7⟩
        case measure => simp [intOf]
      · have hl2 : n2 = L := HL.out
        have HL2 := Lib.hid hl2
        clear hl2 HL
        go_upto_region 5 with (fail)
        rw [HW6.out]
        go_wp2_with fail
        (with_reducible refine K6.out.mono ?_)
        rintro e w7 ⟨rfl, hb7⟩
        have hB7 := bt HB6.out hb7
        clear hb7
        go_wp2
        rw [Exit.noGoto_ret]
        go_ret
        exact ⟨ret_int HL2.out, hB7⟩
    · have r0 := (hbw.cell (p := ⟨R, 3, none⟩) hRl).trans (of_heap A5.out 3).1
      simp only [List.getElem?_toArray, List.getElem?_cons_succ, List.getElem?_cons_zero] at r0
      obtain ⟨W6, hW6⟩ : ∃ W, wr.alloc (.cells #[.func (.func 117) #[] #[.pointer (some ⟨p3, 0, none⟩), .pointer (some ⟨p3 + 1, 0, none⟩)]] 84) = W := ⟨_, rfl⟩
      have b6 : Below wr.heap.size wr W6 := by rw [← hW6]; exact (Below.refl wr.heap.size wr).alloc (Nat.le_refl _) _
      have v1 : W6.cell? ⟨wr.heap.size, 0, none⟩ = some (.func (.func 117) #[] #[.pointer (some ⟨p3, 0, none⟩), .pointer (some ⟨p3 + 1, 0, none⟩)]) := by rw [← hW6]; exact World.cell?_alloc_mark wr _ _ _ 0
      have hB6 : Below w.heap.size w W6 := bt (bt HB5.out hbw) b6
      have k6 := F3.out p3 (p3 + 1) W6 hB6 ((b6.cell (p := ⟨p3, 0, none⟩) (Nat.lt_of_lt_of_le m3 hbw.size)).trans ((hbw.cell (p := ⟨p3, 0, none⟩) m3).trans P3'.out)) ((b6.cell (p := ⟨p3 + 1, 0, none⟩) (Nat.lt_of_lt_of_le m3' hbw.size)).trans ((hbw.cell (p := ⟨p3 + 1, 0, none⟩) m3').trans Q3'.out)) (Nat.lt_of_lt_of_le (Nat.lt_of_lt_of_le m3 hbw.size) b6.size) (Nat.lt_of_lt_of_le (Nat.lt_of_lt_of_le m3' hbw.size) b6.size)
      obtain ⟨c0, c1, c2, c3, c4, c5, c6, c7, cl⟩ := ((X5.out.below hbw).below b6).cells
      have hbw6 := hbw.trans (b6.mono hbw.size)
      have K6 := Lib.hid k6; have HW6 := Lib.hid hW6; have HB6 := Lib.hid hB6; have HBW6 := Lib.hid hbw6
      clear k6 hW6 hB6 b6 hbw6 F0 F1 F2 F3 F4 P1' P2' P3' Q1' Q2' Q3' m1 m1' m2 m2' m3 m3' A5 X5
      cases i3
      · have hl2 : lifeR [(n4, i4)] = L := HL.out
        have HL2 := Lib.hid hl2
        clear hl2 HL
        go_upto_region 5 with (fail)
        rw [HW6.out]
        go_wp2_with fail
        (with_reducible refine K6.out.mono ?_)
        rintro e w7 ⟨rfl, hb7⟩
        have hB7 := HBW6.out.trans (hb7.mono HBW6.out.size)
        clear hb7
        go_wp2
        go_roundw
        case rel => exact ⟨4, by omega, by rfl, rfl, HL2, hB7⟩
        case measure => simp [intOf]
      · have hl2 : n3 = L := HL.out
        have HL2 := Lib.hid hl2
        clear hl2 HL
        go_upto_region 5 with (fail)
        rw [HW6.out]
        go_wp2_with fail
        (with_reducible refine K6.out.mono ?_)
        rintro e w7 ⟨rfl, hb7⟩
        have hB7 := bt HB6.out hb7
        clear hb7
        go_wp2
        rw [Exit.noGoto_ret]
        go_ret
        exact ⟨ret_int HL2.out, hB7⟩
    · have r0 := (hbw.cell (p := ⟨R, 4, none⟩) hRl).trans (of_heap A5.out 4).1
      simp only [List.getElem?_toArray, List.getElem?_cons_succ, List.getElem?_cons_zero] at r0
      obtain ⟨W6, hW6⟩ : ∃ W, wr.alloc (.cells #[.func (.func 64) #[] #[]] 84) = W := ⟨_, rfl⟩
      have b6 : Below wr.heap.size wr W6 := by rw [← hW6]; exact (Below.refl wr.heap.size wr).alloc (Nat.le_refl _) _
      have v1 : W6.cell? ⟨wr.heap.size, 0, none⟩ = some (.func (.func 64) #[] #[]) := by rw [← hW6]; exact World.cell?_alloc_mark wr _ _ _ 0
      have hB6 : Below w.heap.size w W6 := bt (bt HB5.out hbw) b6
      have k6 := F4.out W6 hB6
      obtain ⟨c0, c1, c2, c3, c4, c5, c6, c7, cl⟩ := ((X5.out.below hbw).below b6).cells
      have hbw6 := hbw.trans (b6.mono hbw.size)
      have K6 := Lib.hid k6; have HW6 := Lib.hid hW6; have HB6 := Lib.hid hB6; have HBW6 := Lib.hid hbw6
      clear k6 hW6 hB6 b6 hbw6 F0 F1 F2 F3 F4 P1' P2' P3' Q1' Q2' Q3' m1 m1' m2 m2' m3 m3' A5 X5
      cases i4
      · have hl2 : lifeR [] = L := HL.out
        have HL2 := Lib.hid hl2
        clear hl2 HL
        go_upto_region 5 with (fail)
        rw [HW6.out]
        go_wp2_with fail
        (with_reducible refine K6.out.mono ?_)
        rintro e w7 ⟨rfl, hb7⟩
        have hB7 := HBW6.out.trans (hb7.mono HBW6.out.size)
        clear hb7
        go_wp2
        go_roundw
        case rel => exact ⟨5, by omega, by rfl, rfl, HL2, hB7⟩
        case measure => simp [intOf]
      · have hl2 : n4 = L := HL.out
        have HL2 := Lib.hid hl2
        clear hl2 HL
        go_upto_region 5 with (fail)
        rw [HW6.out]
        go_wp2_with fail
        (with_reducible refine K6.out.mono ?_)
        rintro e w7 ⟨rfl, hb7⟩
        have hB7 := bt HB6.out hb7
        clear hb7
        go_wp2
        rw [Exit.noGoto_ret]
        go_ret
        exact ⟨ret_int HL2.out, hB7⟩
    · have hl2 : (0 : Int) = L := HL.out
      subst hl2
      clear HL F0 F1 F2 F3 F4 P1' P2' P3' Q1' Q2' Q3' m1 m1' m2 m2' m3 m3' A5 X5
      go_wp2
      rw [Exit.noGoto_ret]
      go_ret
      exact ⟨rfl, bt HB5.out hbw⟩
end Go.Proofs.YtgmmjhcklhajiaaGreatDoor
/- The walks of layer 13's Fresh and Extra (printed by wip/tools/fresh4.py). -/
namespace Go.Proofs.YtgmmjhcklhajiaaGreatDoor
open Go.RowKit
set_option maxRecDepth 100000

set_option maxHeartbeats 8000000 in
theorem fresh_any (st mi asked got now : Int) (re bo : ByteArray) (A V : Option Addr) (n c m d : Nat) (xs : List Fld) (dev : ByteArray) (w : World) (hE : DEnv w) (hr : Rd A n 2 (fldsV xs) w) (hn : n ≤ 1000) (hs : sumF xs ≤ 800000) (hg : -9223372036854775808 ≤ got ∧ got ≤ 9223372036854775807) (ha : -9223372036854775808 ≤ asked ∧ asked ≤ 9223372036854775807) (hw : -9223372036854775808 ≤ now ∧ now ≤ 9223372036854775807) :
    Calls Tryz.prog 23 #[entV st re mi A n c bo asked got V m d, .int .i64 now, .string dev] w fun e w' => e = .returned (.bool (freshF xs asked got now dev.data.toList)) ∧ Below w.heap.size w w' := by
  obtain ⟨W1, hW1⟩ : ∃ W1, w.alloc (.cells #[.int .i64 st, .string re, .int .i64 mi, .slice A n c, .string bo, .int .i64 asked, .int .i64 got, .slice V m d] 26) = W1 := ⟨_, rfl⟩
  have b1 : Below w.heap.size w W1 := by rw [← hW1]; exact (Below.refl w.heap.size w).alloc (Nat.le_refl _) _
  have x1 : EntAt w.heap.size st re mi A n c bo asked got V m d W1 := by rw [← hW1]; exact heap_new w _ _ rfl
  have kc : ∀ w', Below W1.heap.size W1 w' → w'.cell? ⟨w.heap.size, 0, none⟩ = some (.int .i64 st) ∧ w'.cell? ⟨w.heap.size, 1, none⟩ = some (.string re) ∧ w'.cell? ⟨w.heap.size, 2, none⟩ = some (.int .i64 mi) ∧ w'.cell? ⟨w.heap.size, 3, none⟩ = some (.slice A n c) ∧ w'.cell? ⟨w.heap.size, 4, none⟩ = some (.string bo) ∧ w'.cell? ⟨w.heap.size, 5, none⟩ = some (.int .i64 asked) ∧ w'.cell? ⟨w.heap.size, 6, none⟩ = some (.int .i64 got) ∧ w'.cell? ⟨w.heap.size, 7, none⟩ = some (.slice V m d) ∧ Below W1.heap.size W1 w' := fun w' hb => by
    obtain ⟨a0, a1, a2, a3, a4, a5, a6, a7, _⟩ := (x1.below hb).cells
    exact ⟨a0, a1, a2, a3, a4, a5, a6, a7, hb⟩
  have k1 := fun W (hb : Below w.heap.size w W) => age_any st mi asked got now re bo A V n c m d xs W (hE.below hb) (hr.below hb) hn hs hg ha hw
  have k2 := fun W (hb : Below w.heap.size w W) => life_any st mi asked got re bo A V n c m d xs dev W (hE.below hb) (hr.below hb) hn hs hg
  unfold freshF
  generalize ageF xs asked got now = ag at *
  generalize lifeF xs got dev.data.toList = lf at *
  have K1 := Lib.hid k1; have K2 := Lib.hid k2; have KC := Lib.hid kc; have HW1 := Lib.hid hW1; have B1 := Lib.hid b1
  have hd0 : Below W1.heap.size W1 W1.drew := (Below.refl _ _).drew
  clear k1 k2 kc hW1 b1 x1 hE hr hs hg ha hw
  unfold entV at *
  go_enter Tryz.func23, Tryz.ntmps23
  go_upto_region 1 with (fail)
  rw [HW1.out]
  go_wp2_with fail
  refine wp_region_held_drew (S := (fun w' => w'.cell? ⟨w.heap.size, 0, none⟩ = some (.int .i64 st) ∧ w'.cell? ⟨w.heap.size, 1, none⟩ = some (.string re) ∧ w'.cell? ⟨w.heap.size, 2, none⟩ = some (.int .i64 mi) ∧ w'.cell? ⟨w.heap.size, 3, none⟩ = some (.slice A n c) ∧ w'.cell? ⟨w.heap.size, 4, none⟩ = some (.string bo) ∧ w'.cell? ⟨w.heap.size, 5, none⟩ = some (.int .i64 asked) ∧ w'.cell? ⟨w.heap.size, 6, none⟩ = some (.int .i64 got) ∧ w'.cell? ⟨w.heap.size, 7, none⟩ = some (.slice V m d) ∧ Below W1.heap.size W1 w')) (by kernel_rfl) (KC.out _ hd0) (fun hHeld => ?_)
  refine wpAnyH_take (i := 0) (v := ?_) (by simp only [List.getElem?_toArray, List.getElem?_cons_zero]; exact rfl) (by kernel_rfl) (by kernel_rfl) (by kernel_rfl) (by intro _ _ _ h; exact h) (Or.inl ⟨by rfl, fun W hSw => ?_⟩) hHeld ?_
  rotate_left
  focus ((try dsimp only at hSw); first | (go_simp; done) | (go_simp; with_reducible rfl))
  try simp only [Act.put, List.setIfInBounds_toArray, List.set_cons_zero, List.set_cons_succ]
  refine wpAnyH_take (i := 1) (v := ?_) (by simp only [List.getElem?_toArray, List.getElem?_cons_succ, List.getElem?_cons_zero]; exact rfl) (by kernel_rfl) (by kernel_rfl) (by kernel_rfl) (by intro _ _ _ h; exact h) (Or.inl ⟨by rfl, fun W hSw => ?_⟩) hHeld ?_
  rotate_left
  focus ((try dsimp only at hSw); first | (go_simp; done) | (go_simp; with_reducible rfl))
  try simp only [Act.put, List.setIfInBounds_toArray, List.set_cons_zero, List.set_cons_succ]
  refine wpAnyH_take (i := 3) (v := ?_) (by simp only [List.getElem?_toArray, List.getElem?_cons_succ, List.getElem?_cons_zero]; exact rfl) (by kernel_rfl) (by kernel_rfl) (by kernel_rfl) (by intro _ _ _ h; exact h) (Or.inl ⟨by rfl, fun W hSw => ?_⟩) hHeld ?_
  rotate_left
  focus ((try dsimp only at hSw); first | (go_simp; done) | (go_simp; with_reducible rfl))
  try simp only [Act.put, List.setIfInBounds_toArray, List.set_cons_zero, List.set_cons_succ]
  refine wpAnyH_take (i := 4) (v := ?_) (by simp only [List.getElem?_toArray, List.getElem?_cons_succ, List.getElem?_cons_zero]; exact rfl) (by kernel_rfl) (by kernel_rfl) (by kernel_rfl) (by intro _ _ _ h; exact h) (Or.inl ⟨by rfl, fun W hSw => ?_⟩) hHeld ?_
  rotate_left
  focus ((try dsimp only at hSw); first | (go_simp; done) | (go_simp; with_reducible rfl))
  try simp only [Act.put, List.setIfInBounds_toArray, List.set_cons_zero, List.set_cons_succ]
  refine wpAnyH_ready (rs := [2]) (by kernel_rfl) (by simp) (AllReadyH.cons (by simp only [List.getElem?_toArray, List.getElem?_cons_succ, List.getElem?_cons_zero]; exact rfl) (fun K hK => ?_) AllReadyH.nil)
  rw [if_pos (by rfl)]
  go_simp
  refine (K1.out _ (bt B1.out hd0)).mono ?_; rintro e w2 ⟨rfl, hb2⟩; have hd1 := bt hd0 hb2; go_wp2_with fail
  refine hK.out _ _ (KC.out _ hd1) (fun hHeld => ?_)
  clear hK K
  try simp only [Act.put, List.setIfInBounds_toArray, List.set_cons_zero, List.set_cons_succ]
  refine wpAnyH_ready (rs := [5]) (by kernel_rfl) (by simp) (AllReadyH.cons (by simp only [List.getElem?_toArray, List.getElem?_cons_succ, List.getElem?_cons_zero]; exact rfl) (fun K hK => ?_) AllReadyH.nil)
  rw [if_pos (by rfl)]
  go_simp
  refine (K2.out _ (bt B1.out hd1)).mono ?_; rintro e w3 ⟨rfl, hb3⟩; have hd2 := bt hd1 hb3; go_wp2_with fail
  refine hK.out _ _ (KC.out _ hd2) (fun hHeld => ?_)
  clear hK K
  try simp only [Act.put, List.setIfInBounds_toArray, List.set_cons_zero, List.set_cons_succ]
  refine wpAnyH_take (i := 6) (v := ?_) (by simp only [List.getElem?_toArray, List.getElem?_cons_succ, List.getElem?_cons_zero]; exact rfl) (by kernel_rfl) (by kernel_rfl) (by kernel_rfl) (by intro _ _ _ h; exact h) (Or.inl ⟨by rfl, fun W hSw => ?_⟩) hHeld ?_
  rotate_left
  focus ((try dsimp only at hSw); first | (go_simp; done) | (go_simp; with_reducible rfl))
  try simp only [Act.put, List.setIfInBounds_toArray, List.set_cons_zero, List.set_cons_succ]
  refine wpAnyH_take (i := 7) (v := ?_) (by simp only [List.getElem?_toArray, List.getElem?_cons_succ, List.getElem?_cons_zero]; exact rfl) (by kernel_rfl) (by kernel_rfl) (by kernel_rfl) (by intro _ _ _ h; exact h) (Or.inl ⟨by rfl, fun W hSw => ?_⟩) hHeld ?_
  rotate_left
  focus ((try dsimp only at hSw); first | (go_simp; done) | (go_simp; with_reducible rfl))
  try simp only [Act.put, List.setIfInBounds_toArray, List.set_cons_zero, List.set_cons_succ]
  refine wpAnyH_done (by kernel_rfl) ?_ _
  clear hHeld
  go_wp2
  go_ret
  exact ⟨rfl, bt B1.out hd2⟩

set_option maxHeartbeats 4000000 in
theorem extra_any (st mi asked got : Int) (re bo : ByteArray) (A V : Option Addr) (n c m d : Nat) (xs : List Fld) (dev : ByteArray) (w : World) (hM : MaxL w) (hr : Rd A n 2 (fldsV xs) w) (hn : n ≤ 1000) (hs : sumF xs ≤ 800000) :
    Calls Tryz.prog 29 #[entV st re mi A n c bo asked got V m d, .string dev] w fun e w' => e = .returned (.int .i64 (extraF xs dev.data.toList)) ∧ Below w.heap.size w w' := by
  obtain ⟨W1, hW1⟩ : ∃ W1, w.alloc (.cells #[.int .i64 st, .string re, .int .i64 mi, .slice A n c, .string bo, .int .i64 asked, .int .i64 got, .slice V m d] 26) = W1 := ⟨_, rfl⟩
  have b1 : Below w.heap.size w W1 := by rw [← hW1]; exact (Below.refl w.heap.size w).alloc (Nat.le_refl _) _
  have x1 : EntAt w.heap.size st re mi A n c bo asked got V m d W1 := by rw [← hW1]; exact heap_new w _ _ rfl
  have k1 := control_any st mi asked got re bo A V n c m d xs dev W1 (hM.below b1) (hr.below b1) hn hs
  unfold extraF
  generalize ctlF xs dev.data.toList = k at *
  obtain ⟨a, b, e, h, ag, ex⟩ := k
  unfold ctlV at k1
  simp only at k1 ⊢
  have hf5 : ∀ w : World, (Instr.field 94 (.agg #[.bool a, .bool b, .bool e, .bool h, .int .i64 ag, .int .i64 ex]) 5).run Tryz.prog w = .ok (.int .i64 ex) w := fun _ => by kernel_rfl
  obtain ⟨c0, c1, c2, c3, c4, c5, c6, c7, cl⟩ := x1.cells
  have K1 := Lib.hid k1; have HW1 := Lib.hid hW1; have B1 := Lib.hid b1
  clear k1 hW1 b1 x1 hr hs hM
  unfold entV at *
  go_enter Tryz.func29, Tryz.ntmps29
  go_wp2_with fail
  rw [HW1.out]
  (with_reducible refine K1.out.mono ?_)
  rintro e w2 ⟨rfl, hb2⟩
  go_wp2
  go_ret
  exact ⟨rfl, bt B1.out hb2⟩
end Go.Proofs.YtgmmjhcklhajiaaGreatDoor
/- Fields in a slice that the call made. -/
namespace Go.Proofs.YtgmmjhcklhajiaaGreatDoor
open Go.RowKit

theorem uFld : (Tryz.prog.info? 55).map (fun i => (i.zero, i.size, i.bytes)) = some (some (.agg #[.string ByteArray.empty, .string ByteArray.empty]), 2, 32) := by kernel_rfl
def OwnF (B : Nat) (v : Value) (fs : List Fld) (w : World) : Prop := w.ownsRow B 55 2 v fs.length (fldsV fs)
theorem OwnF.shape {B : Nat} {v : Value} {fs : List Fld} {w : World} (h : OwnF B v fs w) : ∃ a cap, v = .slice a fs.length cap := by
  rcases h.2 with ⟨rfl, h0⟩ | ⟨g, cap, cur, rfl, _⟩
  · exact ⟨none, 0, by rw [h0]⟩
  · exact ⟨_, _, rfl⟩
theorem OwnF.below {B : Nat} {v : Value} {fs : List Fld} {w w1 : World} (h : OwnF B v fs w) (hb : Below w.heap.size w w1) : OwnF B v fs w1 := own_below h hb
theorem OwnF.drew {B : Nat} {v : Value} {fs : List Fld} {w : World} (h : OwnF B v fs w) : OwnF B v fs w.drew := h
theorem OwnF.nil (B : Nat) (w : World) : OwnF B (.slice none 0 0) [] w := World.ownsRow_nil _ _ _ _
theorem OwnF.rd {B m cap : Nat} {a : Option Addr} {fs : List Fld} {w : World} (h : OwnF B (.slice a m cap) fs w) : m = fs.length ∧ Rd a fs.length 2 (fldsV fs) w := Rd.of_own h
theorem OwnF.base {B B' : Nat} {v : Value} {fs : List Fld} {w : World} (h : OwnF B v fs w) (hB : B' ≤ B) : OwnF B' v fs w := by
  refine ⟨h.1, ?_⟩
  rcases h.2 with h | ⟨g, cp, cur, hv, hg, r⟩
  · exact Or.inl h
  · exact Or.inr ⟨g, cp, cur, hv, by omega, r⟩
theorem app_fld {ops : Array Oper} {rest : List Oper} {o : Oper} {a : Act} {Q : Exit → Act → World → Prop} (B : Nat) (y : Fld) {w : World} {v : Value} {fs : List Fld} (hown : OwnF B v fs w) (hB : B ≤ w.heap.size) (hn : fs.length ≤ 1000000000)
    (hgd : o.guard = none) (s x : Operand) (ho : o.op = .call { callee := .builtin .append, args := #[s, x], argTypes := #[22, 22] })
    (hs : a.eval s = v) (hx : a.eval x = .slice (some ⟨w.heap.size, 0, none⟩) 1 1)
    (hK : ∀ v' w1, OwnF B v' (fs ++ [y]) w1 → Below B w w1 → Far w w1 v v' → wpList Tryz.prog ops Q rest (a.put o.dst v') w1) :
    wpList Tryz.prog ops Q (o :: rest) a (w.alloc (.cells #[.string ⟨y.1.toArray⟩, .string ⟨y.2.toArray⟩] 55)) := by
  refine app_one (z := .agg #[.string ByteArray.empty, .string ByteArray.empty]) (bytes := 32) (n := fs.length) hgd s x 22 55 ho Tryz.underlying22 uFld rfl (by decide) (by decide) B (fldV y) rfl (by intro u hu; simp [fldV] at hu; rcases hu with rfl | rfl <;> rfl) hs hx hown hB hn ?_
  intro v' w1 h1 h2 h3
  refine hK v' w1 ?_ h2 h3
  show World.ownsRow _ _ _ _ _ _ _
  rw [List.length_append, List.length_singleton]
  have : fldsV (fs ++ [y]) = fldsV fs ++ fldV y := by unfold fldsV; simp
  rw [this]
  exact h1
theorem step_fld {ops : Array Oper} {o : Oper} {a : Act} {K : Act → World → Prop} {Q : Exit → Act → World → Prop} {G : Prop} (B : Nat) (y : Fld) {w : World} {v : Value} {fs : List Fld} (hown : OwnF B v fs w) (hB : B ≤ w.heap.size) (hn : fs.length ≤ 1000000000)
    (hgd : o.guard = none) (s x : Operand) (ho : o.op = .call { callee := .builtin .append, args := #[s, x], argTypes := #[22, 22] })
    (hs : a.eval s = v) (hx : a.eval x = .slice (some ⟨w.heap.size, 0, none⟩) 1 1)
    (hK : ∀ v' w1, OwnF B v' (fs ++ [y]) w1 → Below B w w1 → Far w w1 v v' → K (a.put o.dst v') w1) :
    if Region.wanted o (yielded ops a.tmps) = true then Oper.wp Tryz.prog o a (w.alloc (.cells #[.string ⟨y.1.toArray⟩, .string ⟨y.2.toArray⟩] 55)) K Q else G := by
  refine step_app_one (z := .agg #[.string ByteArray.empty, .string ByteArray.empty]) (bytes := 32) (n := fs.length) hgd s x 22 55 ho Tryz.underlying22 uFld rfl (by decide) (by decide) B (fldV y) rfl (by intro u hu; simp [fldV] at hu; rcases hu with rfl | rfl <;> rfl) hs hx hown hB hn ?_
  intro v' w1 h1 h2 h3
  refine hK v' w1 ?_ h2 h3
  show World.ownsRow _ _ _ _ _ _ _
  rw [List.length_append, List.length_singleton]
  have : fldsV (fs ++ [y]) = fldsV fs ++ fldV y := by unfold fldsV; simp
  rw [this]
  exact h1
/-- Fields that are handed back in a slice of the call's own. -/
def FieldsPost (w : World) (fs : List Fld) (e : Ending) (w' : World) : Prop :=
  ∃ a cap, e = .returned (.slice a fs.length cap) ∧ OwnF w.heap.size (.slice a fs.length cap) fs w' ∧ Below w.heap.size w w'
end Go.Proofs.YtgmmjhcklhajiaaGreatDoor
/- The walk of the law's entry (layer 13): fields out of names and values. -/
namespace Go.Proofs.YtgmmjhcklhajiaaGreatDoor
open Go.RowKit
set_option maxRecDepth 100000

/-- The entry that is made, in a block of its own. -/
def EntS (E : Nat) (fs : List Fld) (w : World) : Prop := ∃ v, w.heap[E]? = some (.cells #[.int .i64 0, .string ⟨#[]⟩, .int .i64 0, v, .string ⟨#[]⟩, .int .i64 100, .int .i64 110, .slice none 0 0] 26 (0, 0)) ∧ OwnF (E + 1) v fs w
theorem EntS.lt {E : Nat} {fs : List Fld} {w : World} (h : EntS E fs w) : E < w.heap.size := by
  obtain ⟨v, h, _⟩ := h
  exact (of_heap h 0).2.2
theorem EntS.below {E : Nat} {fs : List Fld} {w w' : World} (h : EntS E fs w) (hb : Below w.heap.size w w') : EntS E fs w' := by
  have hl := h.lt
  obtain ⟨v, h1, h2⟩ := h
  exact ⟨v, (hb.block E hl).trans h1, h2.below hb⟩
theorem set8_own {w : World} (E : Nat) {B : Nat} {v : Value} {fs : List Fld} {v0 v1 v2 v3 v4 v5 v6 v7 : Value} (h : OwnF (E + 1) v fs w) (hB : B = E) : OwnF B v fs (set8 w E v0 v1 v2 v3 v4 v5 v6 v7) := by
  subst hB
  have hl := Nat.lt_succ_self B
  unfold set8
  exact OwnF.base (ownsRow_setCell_below (a := ⟨B, 7, none⟩) (ownsRow_setCell_below (a := ⟨B, 6, none⟩) (ownsRow_setCell_below (a := ⟨B, 5, none⟩) (ownsRow_setCell_below (a := ⟨B, 4, none⟩) (ownsRow_setCell_below (a := ⟨B, 3, none⟩) (ownsRow_setCell_below (a := ⟨B, 2, none⟩) (ownsRow_setCell_below (a := ⟨B, 1, none⟩) (ownsRow_setCell_below (a := ⟨B, 0, none⟩) h hl _) hl _) hl _) hl _) hl _) hl _) hl _) hl _) (Nat.le_succ _)
set_option maxHeartbeats 8000000 in
theorem entry13_any (A : Option Addr) (n c : Nat) (fs : List Fld) (w : World) (hr : Rd A n 1 (fldsV fs) w) (hn : n ≤ 100) :
    Calls Tryz.prog 32 #[.slice A n c] w fun e w' => ∃ a c', e = .returned (entV 0 ⟨#[]⟩ 0 a fs.length c' ⟨#[]⟩ 100 110 none 0 0) ∧ OwnF w.heap.size (.slice a fs.length c') fs w' ∧ Below w.heap.size w w' := by
  have hnl : n = fs.length * 2 := by have := hr.1; rw [fldsV_len] at this; omega
  subst hnl
  have hat : ∀ k (h : k < fs.length), ∃ b o, A = some ⟨b, o, none⟩ ∧ b < w.heap.size ∧ w.cell? ⟨b, o + k * 2, none⟩ = some (.string ⟨(fs[k]).1.toArray⟩) ∧ w.cell? ⟨b, o + (k * 2 + 1), none⟩ = some (.string ⟨(fs[k]).2.toArray⟩) := by
    intro k h
    obtain ⟨b, o, e, hl, hc⟩ := hr.2 (by omega)
    have := fldsV_at fs k h
    exact ⟨b, o, e, hl, hc _ _ this.1, hc _ _ this.2⟩
  have hsn : ∀ k (h : k < fs.length), fs.take (k + 1) = fs.take k ++ [fs[k]] := fun k h => List.take_succ_eq_append_getElem h
  obtain ⟨W1, hW1⟩ : ∃ W1, w.alloc (.cells #[.int .i64 0, .string ⟨#[]⟩, .int .i64 0, .slice none 0 0, .string ⟨#[]⟩, .int .i64 0, .int .i64 0, .slice none 0 0] 26) = W1 := ⟨_, rfl⟩
  have b1 : Below w.heap.size w W1 := by rw [← hW1]; exact (Below.refl w.heap.size w).alloc (Nat.le_refl _) _
  have z1 : W1.heap.size = w.heap.size + 1 := by rw [← hW1]; simp
  have x1 : W1.heap[w.heap.size]? = some (.cells #[.int .i64 0, .string ⟨#[]⟩, .int .i64 0, .slice none 0 0, .string ⟨#[]⟩, .int .i64 0, .int .i64 0, .slice none 0 0] 26 (0, 0)) := by rw [← hW1]; exact heap_new w _ _ rfl
  obtain ⟨W2, hW2⟩ : ∃ W2, W1.alloc (.cells #[.int .i64 0, .string ⟨#[]⟩, .int .i64 0, .slice none 0 0, .string ⟨#[]⟩, .int .i64 100, .int .i64 110, .slice none 0 0] 26) = W2 := ⟨_, rfl⟩
  have b2 : Below W1.heap.size W1 W2 := by rw [← hW2]; exact (Below.refl W1.heap.size W1).alloc (Nat.le_refl _) _
  have z2 : W2.heap.size = w.heap.size + 2 := by rw [← hW2]; simp [z1]
  have x2 : EntS (w.heap.size + 1) [] W2 := by
    rw [← hW2]
    exact ⟨.slice none 0 0, heap_new W1 _ _ z1, OwnF.nil _ _⟩
  have y1 := (b2.block w.heap.size (by omega)).trans x1
  have hB2 : Below w.heap.size w W2 := bt b1 b2
  have HAT := Lib.hid hat; have HSN := Lib.hid hsn; have HW1 := Lib.hid hW1; have HW2 := Lib.hid hW2; have X2 := Lib.hid x2; have Y1 := Lib.hid y1; have HB2 := Lib.hid hB2
  clear hr hat hsn hW1 hW2 x1 x2 y1 hB2 b1 b2 z1
  go_enter Tryz.func32, Tryz.ntmps32
  go_wp2_with fail
  rw [HW1.out, HW2.out]
  go_loopw [4] (fun i wr => ∃ k : Nat, k ≤ fs.length ∧ i = .int .i64 (k * 2 : Nat) ∧ Hid (EntS (w.heap.size + 1) (fs.take k) wr) ∧ Below (w.heap.size + 1) W2 wr) (fun i _ => 2 * fs.length + 1 - (intOf i).toNat)
  case atStart => exact ⟨0, Nat.zero_le _, rfl, X2, Below.refl _ _⟩
  case round =>
    clear X2
    obtain ⟨k, hk, rfl, HO, hbw⟩ := hrel
    by_cases hlt : k < fs.length
    · obtain ⟨b, o, rfl, hl, c0, c1⟩ := HAT.out k hlt
      have hst := HSN.out k hlt
      have hlen : (fs.take k).length ≤ 1000000000 := by rw [List.length_take]; omega
      generalize fs[k] = f at *
      obtain ⟨fx, fy⟩ := f
      simp only at c0 c1 hst
      obtain ⟨v, o1, o2⟩ := HO.out
      obtain ⟨va, vc, rfl⟩ := o2.shape
      have e3 := (of_heap o1 3).1; have e3f := (of_heap o1 3).2.1; have hEl := (of_heap o1 3).2.2
      have hBw : Below w.heap.size w wr := HB2.out.trans (hbw.mono (Nat.le_succ _))
      have d0 := (hBw.cell (p := ⟨b, o + k * 2, none⟩) hl).trans c0
      have d1 := (hBw.cell (p := ⟨b, o + (k * 2 + 1), none⟩) hl).trans c1
      obtain ⟨j, hj⟩ : ∃ j, k * 2 = j := ⟨_, rfl⟩
      rw [hj] at d0 d1 ⊢
      have HJ := Lib.hid hj
      have j0 : (0 : Int) ≤ (j : Int) := by omega
      have j1 : (j : Int) < (fs.length : Int) * 2 := by omega
      have j2 : IntKind.i64.wrap ((j : Int) + 1) = (j : Int) + 1 := IntWalk.i64_in _ (by omega)
      have j3 : (0 : Int) ≤ (j : Int) + 1 := by omega
      have j4 : (j : Int) + 1 < (fs.length : Int) * 2 := by omega
      have j5 : ((j : Int) + 1).toNat = j + 1 := by omega
      have hjn : (k + 1) * 2 = j + 2 := by omega
      have HJN := Lib.hid hjn
      generalize hacc : fs.take k = acc at *
      have O1 := Lib.hid o1; have O2 := Lib.hid o2; have HST := Lib.hid hst
      have t1 : decide ((j : Int) + 1 < (fs.length : Int) * 2) = true := by simpa using j4
      clear hj hjn o1 o2 hst HO HAT HSN c0 c1 hacc
      go_wp2_with fail
      go_region_law (refine step_fld (w.heap.size + 2) (fx, fy) O2.out.drew (by simp; omega) hlen rfl _ _ rfl rfl rfl ?_; intro v' w3 hO3 hb4 hf4; obtain ⟨va', vc', rfl⟩ := hO3.shape; have g3 := (hb4.cell (p := ⟨w.heap.size + 1, 3, none⟩) (Nat.lt_succ_self _)).trans e3; have g3f := (hb4.frozen (p := ⟨w.heap.size + 1, 3, none⟩) (Nat.lt_succ_self _)).trans e3f)
      all_goals
        have H3 := (hb4.block (w.heap.size + 1) (Nat.lt_succ_self _)).trans O1.out
        have hB3 : Below (w.heap.size + 1) W2 (w3.setCell ⟨w.heap.size + 1, 3, none⟩ (.slice va' (acc ++ [(fx, fy)]).length vc')) := (hbw.drew.trans (hb4.mono (Nat.le_succ _))).setCell (Nat.le_refl _) _
        have hE3 : EntS (w.heap.size + 1) (acc ++ [(fx, fy)]) (w3.setCell ⟨w.heap.size + 1, 3, none⟩ (.slice va' (acc ++ [(fx, fy)]).length vc')) := by
          refine ⟨_, ?_, ownsRow_setCell_below (a := ⟨w.heap.size + 1, 3, none⟩) hO3 (Nat.lt_succ_self _) _⟩
          have := heap_setN (j := 3) (v := .slice va' (acc ++ [(fx, fy)]).length vc') H3
          simpa using this
        have hz : (acc ++ [(fx, fy)]).length = acc.length + 1 := by simp
        rw [hz, ← HST.out] at hE3
        rw [hz] at hB3
        have HE3 := Lib.hid hE3; have HB3 := Lib.hid hB3
        clear hE3 hB3 H3 hb4 hO3 hf4 hz
        go_wp2
        go_roundw
        case rel => exact ⟨k + 1, by omega, by rw [HJN.out]; go_num, HE3, HB3.out⟩
        case measure => simp [intOf]; omega
    · have hke : k = fs.length := by omega
      subst hke
      have ho := HO.out
      rw [List.take_length] at ho
      obtain ⟨v, o1, o2⟩ := ho
      obtain ⟨va, vc, rfl⟩ := o2.shape
      have e0 := (of_heap o1 0).1; have e1 := (of_heap o1 1).1; have e2 := (of_heap o1 2).1; have e3 := (of_heap o1 3).1; have e4 := (of_heap o1 4).1; have e5 := (of_heap o1 5).1; have e6 := (of_heap o1 6).1; have e7 := (of_heap o1 7).1
      have yr := (hbw.block w.heap.size (Nat.lt_succ_self _)).trans Y1.out
      have d0 := (of_heap yr 0).1; have d1 := (of_heap yr 1).1; have d2 := (of_heap yr 2).1; have d3 := (of_heap yr 3).1; have d4 := (of_heap yr 4).1; have d5 := (of_heap yr 5).1; have d6 := (of_heap yr 6).1; have d7 := (of_heap yr 7).1
      have l0 := (of_heap yr 0).2.1; have l1 := (of_heap yr 1).2.1; have l2 := (of_heap yr 2).2.1; have l3 := (of_heap yr 3).2.1; have l4 := (of_heap yr 4).2.1; have l5 := (of_heap yr 5).2.1; have l6 := (of_heap yr 6).2.1; have l7 := (of_heap yr 7).2.1
      simp only [List.getElem?_toArray, List.getElem?_cons_succ, List.getElem?_cons_zero] at e0 e1 e2 e3 e4 e5 e6 e7 d0 d1 d2 d3 d4 d5 d6 d7
      have hBw : Below w.heap.size w wr := HB2.out.trans (hbw.mono (Nat.le_succ _))
      have O2 := Lib.hid o2; have HBw := Lib.hid hBw
      clear o1 o2 yr HO HAT HSN hBw hbw
      go_wp2_with fail
      refine bodyPost_ret_by (v := .agg #[.int .i64 0, .string ⟨#[]⟩, .int .i64 0, .slice va fs.length vc, .string ⟨#[]⟩, .int .i64 100, .int .i64 110, .slice none 0 0]) ?_ rfl ?_
      · rw [results_cell_one rfl]
        go_simp
      · exact ⟨va, vc, rfl, set8_own w.heap.size (OwnF.base O2.out (Nat.le_succ _)) rfl, set8_below HBw.out _ _ _ _ _ _ _ _⟩
end Go.Proofs.YtgmmjhcklhajiaaGreatDoor
/- The walks of the law's small questions (layer 13). -/
namespace Go.Proofs.YtgmmjhcklhajiaaGreatDoor
open Go.RowKit
set_option maxRecDepth 100000

theorem Rd.newP (w : World) (fs : List Fld) (T : TypeId) : Rd (some ⟨w.heap.size, 0, none⟩) (fs.length * 2) 1 (fldsV fs) (w.alloc (.cells (fldsV fs).toArray T)) := by
  refine ⟨by rw [fldsV_len]; omega, fun _ => ⟨w.heap.size, 0, rfl, by simp, fun j u hu => ?_⟩⟩
  rw [Nat.zero_add, World.cell?_alloc_mark]
  simpa using hu
set_option maxHeartbeats 8000000 in
theorem is13_any (life age : Int) (A : Option Addr) (n c : Nat) (fs : List Fld) (w : World) (hE : DEnv w) (hr : Rd A n 1 (fldsV fs) w) (hn : n ≤ 100) (hs : sumF fs ≤ 800000) (h1 : lifeF fs 110 [100] = life) (h2 : ageF fs 100 110 130 = age) :
    Calls Tryz.prog 31 #[.int .i64 life, .int .i64 age, .slice A n c] w fun e w' => e = .returned (.bool true) ∧ Below w.heap.size w w' := by
  have hnl : n = fs.length * 2 := by have := hr.1; rw [fldsV_len] at this; omega
  have h3 : freshF fs 100 110 130 [100] = decide (age < life) := by unfold freshF; rw [h1, h2]
  have k1 := entry13_any A n c fs w hr hn
  have k2 := fun a c' W (hb : Below w.heap.size w W) (h : Rd a fs.length 2 (fldsV fs) W) => life_any 0 0 100 110 ⟨#[]⟩ ⟨#[]⟩ a none fs.length c' 0 0 fs ⟨#[100]⟩ W (hE.below hb) h (by omega) hs (by decide)
  have k3 := fun a c' W (hb : Below w.heap.size w W) (h : Rd a fs.length 2 (fldsV fs) W) => age_any 0 0 100 110 130 ⟨#[]⟩ ⟨#[]⟩ a none fs.length c' 0 0 fs W (hE.below hb) h (by omega) hs (by decide) (by decide) (by decide)
  have k4 := fun a c' W (hb : Below w.heap.size w W) (h : Rd a fs.length 2 (fldsV fs) W) => fresh_any 0 0 100 110 130 ⟨#[]⟩ ⟨#[]⟩ a none fs.length c' 0 0 fs ⟨#[100]⟩ W (hE.below hb) h (by omega) hs (by decide) (by decide) (by decide)
  rw [show (⟨#[100]⟩ : ByteArray).data.toList = [100] from rfl] at k2 k4
  rw [h1] at k2
  rw [h2] at k3
  rw [h3] at k4
  have K1 := Lib.hid k1; have K2 := Lib.hid k2; have K3 := Lib.hid k3; have K4 := Lib.hid k4
  have e1 : (life == life) = true := by simp
  have e2 : (age == age) = true := by simp
  have e3 : (decide (age < life) == decide (age < life)) = true := by simp
  clear k1 k2 k3 k4 hE hr h1 h2 h3 hs hnl
  go_enter Tryz.func31, Tryz.ntmps31
  go_wp2_with fail
  (with_reducible refine K1.out.mono ?_)
  rintro e w1 ⟨a, c', rfl, ho1, hb1⟩
  obtain ⟨W2, hW2⟩ : ∃ W2, w1.alloc (.cells #[.int .i64 0, .string ⟨#[]⟩, .int .i64 0, .slice a fs.length c', .string ⟨#[]⟩, .int .i64 100, .int .i64 110, .slice none 0 0] 26) = W2 := ⟨_, rfl⟩
  have b2 : Below w1.heap.size w1 W2 := by rw [← hW2]; exact (Below.refl w1.heap.size w1).alloc (Nat.le_refl _) _
  have x2 : EntAt w1.heap.size 0 ⟨#[]⟩ 0 a fs.length c' ⟨#[]⟩ 100 110 none 0 0 W2 := by rw [← hW2]; exact heap_new w1 _ _ rfl
  have r2 := ho1.rd.2.below b2
  have hB2 := bt hb1 b2
  have X2 := Lib.hid x2; have HW2 := Lib.hid hW2; have R2 := Lib.hid r2; have HB2 := Lib.hid hB2
  have K5 := Lib.hid (K2.out a c' W2 HB2.out R2.out)
  obtain ⟨c0, c1, c2, c3, c4, c5, c6, c7, cl⟩ := x2.cells
  clear hb1 ho1 b2 x2 r2 hB2 hW2 K1 K2
  unfold entV at *
  go_wp2_with fail
  rw [HW2.out]
  (with_reducible refine K5.out.mono ?_)
  rintro e w3 ⟨rfl, hb3⟩
  have HB3 := Lib.hid (bt HB2.out hb3)
  have X3 := Lib.hid (X2.out.below hb3)
  have R3 := Lib.hid (R2.out.below hb3)
  have K6 := Lib.hid (K3.out a c' w3 HB3.out R3.out)
  clear c0 c1 c2 c3 c4 c5 c6 c7 cl
  obtain ⟨c0, c1, c2, c3, c4, c5, c6, c7, cl⟩ := X3.out.cells
  clear hb3 K5 K3 X2 R2 HB2
  go_wp2_with fail
  (with_reducible refine K6.out.mono ?_)
  rintro e w4 ⟨rfl, hb4⟩
  have HB4 := Lib.hid (bt HB3.out hb4)
  have X4 := Lib.hid (X3.out.below hb4)
  have R4 := Lib.hid (R3.out.below hb4)
  have K7 := Lib.hid (K4.out a c' w4 HB4.out R4.out)
  clear c0 c1 c2 c3 c4 c5 c6 c7 cl
  obtain ⟨c0, c1, c2, c3, c4, c5, c6, c7, cl⟩ := X4.out.cells
  clear hb4 K6 K4 X3 R3 HB3
  go_wp2_with fail
  (with_reducible refine K7.out.mono ?_)
  rintro e w5 ⟨rfl, hb5⟩
  go_wp2
  go_ret
  exact ⟨by simp, bt HB4.out hb5⟩
theorem is13_new (life age : Int) (fs : List Fld) (n : Nat) (hn : fs.length * 2 = n) (w : World) (hE : DEnv w) (hn2 : n ≤ 100) (hs : sumF fs ≤ 800000) (h1 : lifeF fs 110 [100] = life) (h2 : ageF fs 100 110 130 = age) :
    Calls Tryz.prog 31 #[.int .i64 life, .int .i64 age, .slice (some ⟨w.heap.size, 0, none⟩) n n] (w.alloc (.cells (fldsV fs).toArray 9)) fun e w' => e = .returned (.bool true) ∧ Below w.heap.size w w' := by
  subst hn
  have hal := (Below.refl w.heap.size w).alloc (Nat.le_refl _) (.cells (fldsV fs).toArray 9)
  refine (is13_any life age _ _ (fs.length * 2) fs _ (hE.below hal) (Rd.newP w fs 9) hn2 hs h1 h2).mono ?_
  rintro e w' ⟨rfl, hb⟩
  exact ⟨rfl, bt hal hb⟩
end Go.Proofs.YtgmmjhcklhajiaaGreatDoor
/- The walk of the law's awake (layer 13; printed by wip/tools/known13.py). -/
namespace Go.Proofs.YtgmmjhcklhajiaaGreatDoor
open Go.RowKit
set_option maxRecDepth 100000

theorem aq13_0 (w : World) (hE : DEnv w) : Calls Tryz.prog 31 #[.int .i64 30, .int .i64 30, .slice (some ⟨w.heap.size, 0, none⟩) 2 2] (w.alloc (.cells #[.string ⟨#[99, 97, 99, 104, 101, 45, 99, 111, 110, 116, 114, 111, 108]⟩, .string ⟨#[109, 97, 120, 45, 97, 103, 101, 61, 51, 48]⟩] 9)) fun e w' => e = .returned (.bool true) ∧ Below w.heap.size w w' :=
  is13_new 30 30 [([99, 97, 99, 104, 101, 45, 99, 111, 110, 116, 114, 111, 108], [109, 97, 120, 45, 97, 103, 101, 61, 51, 48])] 2 rfl w hE (by decide) (by decide) (by kernel_rfl) (by kernel_rfl)
theorem aq13_1 (w : World) (hE : DEnv w) : Calls Tryz.prog 31 #[.int .i64 31, .int .i64 30, .slice (some ⟨w.heap.size, 0, none⟩) 2 2] (w.alloc (.cells #[.string ⟨#[67, 97, 99, 104, 101, 45, 67, 111, 110, 116, 114, 111, 108]⟩, .string ⟨#[109, 97, 120, 45, 97, 103, 101, 61, 51, 48, 44, 32, 115, 45, 109, 97, 120, 97, 103, 101, 61, 51, 49]⟩] 9)) fun e w' => e = .returned (.bool true) ∧ Below w.heap.size w w' :=
  is13_new 31 30 [([67, 97, 99, 104, 101, 45, 67, 111, 110, 116, 114, 111, 108], [109, 97, 120, 45, 97, 103, 101, 61, 51, 48, 44, 32, 115, 45, 109, 97, 120, 97, 103, 101, 61, 51, 49])] 2 rfl w hE (by decide) (by decide) (by kernel_rfl) (by kernel_rfl)
theorem aq13_2 (w : World) (hE : DEnv w) : Calls Tryz.prog 31 #[.int .i64 60, .int .i64 70, .slice (some ⟨w.heap.size, 0, none⟩) 6 6] (w.alloc (.cells #[.string ⟨#[97, 103, 101]⟩, .string ⟨#[53]⟩, .string ⟨#[101, 120, 112, 105, 114, 101, 115]⟩, .string ⟨#[84, 104, 117, 44, 32, 48, 49, 32, 74, 97, 110, 32, 49, 57, 55, 48, 32, 48, 48, 58, 48, 50, 58, 48, 48, 32, 71, 77, 84]⟩, .string ⟨#[100, 97, 116, 101]⟩, .string ⟨#[84, 104, 117, 44, 32, 48, 49, 32, 74, 97, 110, 32, 49, 57, 55, 48, 32, 48, 48, 58, 48, 49, 58, 48, 48, 32, 71, 77, 84]⟩] 9)) fun e w' => e = .returned (.bool true) ∧ Below w.heap.size w w' :=
  is13_new 60 70 [([97, 103, 101], [53]), ([101, 120, 112, 105, 114, 101, 115], [84, 104, 117, 44, 32, 48, 49, 32, 74, 97, 110, 32, 49, 57, 55, 48, 32, 48, 48, 58, 48, 50, 58, 48, 48, 32, 71, 77, 84]), ([100, 97, 116, 101], [84, 104, 117, 44, 32, 48, 49, 32, 74, 97, 110, 32, 49, 57, 55, 48, 32, 48, 48, 58, 48, 49, 58, 48, 48, 32, 71, 77, 84])] 6 rfl w hE (by decide) (by decide) (by kernel_rfl) (by kernel_rfl)
set_option maxHeartbeats 8000000 in
theorem awake13_any (w0 : World) (hE : DEnv w0) :
    Calls Tryz.prog 20 #[] w0 fun e w' => e = .returned (.bool true) ∧ Below w0.heap.size w0 w' := by
  have HB0 := Lib.hid (Below.refl w0.heap.size w0)
  go_enter Tryz.func20, Tryz.ntmps20
  have kk := aq13_0 w0 (hE.below HB0.out)
  have KK := Lib.hid kk
  clear kk
  go_wp2_with fail
  (with_reducible refine KK.out.mono ?_)
  rintro e w1 ⟨rfl, hb⟩
  have HB1 := Lib.hid (bt HB0.out hb)
  clear hb KK HB0
  have kk := aq13_1 w1 (hE.below HB1.out)
  have KK := Lib.hid kk
  clear kk
  go_wp2_with fail
  (with_reducible refine KK.out.mono ?_)
  rintro e w2 ⟨rfl, hb⟩
  have HB2 := Lib.hid (bt HB1.out hb)
  clear hb KK HB1
  have kk := aq13_2 w2 (hE.below HB2.out)
  have KK := Lib.hid kk
  clear kk
  go_wp2_with fail
  (with_reducible refine KK.out.mono ?_)
  rintro e w3 ⟨rfl, hb⟩
  have HB3 := Lib.hid (bt HB2.out hb)
  clear hb KK HB2
  go_wp2
  go_ret
  exact ⟨rfl, HB3.out⟩
end Go.Proofs.YtgmmjhcklhajiaaGreatDoor
/- What a listed table gives: what a variable reads as, in cells. -/
namespace Go.Proofs.YtgmmjhcklhajiaaGreatDoor
open Go.RowKit

theorem tab_of_reads {P : Program} {W : World} {name : String} {k : IntKind} {zs : List Int} {g : Nat} {t e : TypeId} {n : Nat}
    (hg : P.globalNamed name = some g) (hty : (P.globals[g]?).map (·.type) = some t) (ht : P.underlying t = some (.array n e)) (he : P.underlying e = some (.int k)) (hce : P.cellsOf e = 1) (hct : P.cellsOf t = n)
    (h : Lib.VarReads P W name (Lib.tabData k zs)) : Lib.TabIs P W name k zs := by
  obtain ⟨g', t', cs, fuel, p, hg', ht', hvar, hd⟩ := h
  obtain rfl := Option.some.inj (hg.symm.trans hg')
  obtain rfl := Option.some.inj (hty.symm.trans ht')
  unfold Lib.TabIs
  rw [hvar, ← Lib.cells_of_tab ht he hce hct hd]
end Go.Proofs.YtgmmjhcklhajiaaGreatDoor
/- What the listed tables and the form's mark give the dates' walks. -/
namespace Go.Proofs.YtgmmjhcklhajiaaGreatDoor
open Go.RowKit
set_option maxRecDepth 100000

theorem maxL_of {w : World} (h : w.ShapedOpen Tryz.prog) : MaxL w :=
  MaxL.of (Go.Proofs.cell_of_shapedOpen_int (zero := #[.int .i64 0]) (t := 3) h (of_decide_eq_true (by kernel_rfl)) (by kernel_rfl) rfl (by kernel_rfl) (by kernel_rfl) Tryz.underlying3)
theorem spaces_of {W : World} {l : List (String × DataW Unit)} (hp : (l.all fun x => x.2.handleName?.isNone) = true) (hm : ("strings.asciiSpace", Lib.tabData .u8 Lib.asciiSpaceTab) ∈ l) (h : laidMetH Tryz.prog l W) : Lib.TabIs Tryz.prog W "strings.asciiSpace" .u8 Lib.asciiSpaceTab := by
  rw [MakeChecks.laidMetH_plain _ _ _ hp] at h
  exact tab_of_reads (g := 0) (by kernel_rfl) (by kernel_rfl) Tryz.underlying168 Tryz.underlying5 (by kernel_rfl) (by kernel_rfl) (Lib.laidMet.reads h hm)
theorem var_lt {P : Program} {w : World} {name : String} {k : IntKind} {zs : List Int} {g : Nat} (hg : P.globalNamed name = some g) (h : Lib.TabIs P w name k zs) : g < w.heap.size := by
  unfold Lib.TabIs World.var? at h
  rw [hg] at h
  rcases Nat.lt_or_ge g w.heap.size with h' | h'
  · exact h'
  · simp [Array.getElem?_eq_none h'] at h
theorem dEnv_of {W : World} {l : List (String × DataW Unit)} (hp : (l.all fun x => x.2.handleName?.isNone) = true) (hm : ("strings.asciiSpace", Lib.tabData .u8 Lib.asciiSpaceTab) ∈ l) (h : laidMetH Tryz.prog l W) (hsh : W.ShapedOpen Tryz.prog) : DEnv W :=
  ⟨maxL_of hsh, var_lt (by kernel_rfl) (spaces_of hp hm h), spaces_of hp hm h⟩
end Go.Proofs.YtgmmjhcklhajiaaGreatDoor
/- The walk of the law's few (layer 13). -/
namespace Go.Proofs.YtgmmjhcklhajiaaGreatDoor
open Go.RowKit
set_option maxRecDepth 100000

def few13b (f : Fld) : Bool := decide (f.1.length + f.2.length ≤ 2000)
def few13 (xs : List Fld) : Bool := (xs.take 90).all few13b && decide (xs.length ≤ 80)
theorem few13_yes {xs : List Fld} (h : few13 xs = true) : xs.length ≤ 80 ∧ sumF xs ≤ 160000 := by
  unfold few13 at h
  rw [Bool.and_eq_true, decide_eq_true_eq, List.all_eq_true] at h
  obtain ⟨h1, h2⟩ := h
  rw [List.take_of_length_le (by omega)] at h1
  have key : ∀ l : List Fld, (∀ f ∈ l, few13b f = true) → sumF l ≤ 2000 * l.length := by
    intro l
    induction l with
    | nil => intro _; simp [sumF]
    | cons x r ih =>
      intro hx
      have a := ih (fun f hf => hx f (by simp [hf]))
      have b := hx x (by simp)
      unfold few13b at b
      rw [decide_eq_true_eq] at b
      unfold sumF at *
      rw [List.map_cons, List.sum_cons, List.length_cons]
      omega
  have := key xs h1
  omega

set_option maxHeartbeats 4000000 in
theorem few13_any (st mi asked got : Int) (re bo : ByteArray) (A V : Option Addr) (n c m d : Nat) (xs : List Fld) (w : World) (hr : Rd A n 2 (fldsV xs) w) (hs : ∀ f ∈ xs, f.1.length ≤ 140737488355328 ∧ f.2.length ≤ 140737488355328) :
    Calls Tryz.prog 19 #[entV st re mi A n c bo asked got V m d] w fun e w' => e = .returned (.bool (few13 xs)) ∧ Below w.heap.size w w' := by
  obtain rfl := hr.fld
  obtain ⟨W1, hW1⟩ : ∃ W1, w.alloc (.cells #[.int .i64 st, .string re, .int .i64 mi, .slice A xs.length c, .string bo, .int .i64 asked, .int .i64 got, .slice V m d] 26) = W1 := ⟨_, rfl⟩
  have b1 : Below w.heap.size w W1 := by rw [← hW1]; exact (Below.refl w.heap.size w).alloc (Nat.le_refl _) _
  have x1 : W1.heap[w.heap.size]? = some (.cells #[.int .i64 st, .string re, .int .i64 mi, .slice A xs.length c, .string bo, .int .i64 asked, .int .i64 got, .slice V m d] 26 (0, 0)) := by rw [← hW1]; exact heap_new w _ _ rfl
  have c3 := (of_heap x1 3).1
  have hbad : ∀ k (h : k < xs.length), k < 90 → few13b xs[k] = false → few13 xs = false := by
    intro k h h30 hl
    unfold few13
    rw [Bool.and_eq_false_iff]
    left
    rw [List.all_eq_false]
    refine ⟨xs[k], ?_, by simp [hl]⟩
    rw [List.mem_take_iff_getElem]
    exact ⟨k, by omega, rfl⟩
  have hgood : ∀ k, (∀ v ∈ xs.take k, few13b v = true) → (k = xs.length ∨ 90 ≤ k) → few13 xs = decide ((xs.length : Int) ≤ 80) := by
    intro k h hk
    unfold few13
    rw [show (xs.take 90).all few13b = true from by
      rw [List.all_eq_true]; intro v hv
      have : v ∈ xs.take k := by
        rw [List.mem_take_iff_getElem] at hv ⊢
        obtain ⟨i, hi, e⟩ := hv
        exact ⟨i, by omega, e⟩
      exact h v this, Bool.true_and]
    rw [Bool.eq_iff_iff]; simp; omega
  have hsn : ∀ k (h : k < xs.length), (∀ v ∈ xs.take k, few13b v = true) → few13b xs[k] = true → ∀ v ∈ xs.take (k + 1), few13b v = true := by
    intro k h h1 h2 v hv
    rw [List.take_succ_eq_append_getElem h, List.mem_append, List.mem_singleton] at hv
    rcases hv with hv | rfl
    · exact h1 v hv
    · exact h2
  have HR := Lib.hid (hr.below b1); have HS := Lib.hid hs; have HBAD := Lib.hid hbad; have HG := Lib.hid hgood; have HSN := Lib.hid hsn; have HW1 := Lib.hid hW1
  clear hr hs hbad hgood hsn x1 hW1
  generalize few13 xs = out at *
  unfold entV
  go_enter Tryz.func19, Tryz.ntmps19
  go_upto_region 1 with (fail)
  rw [HW1.out]
  go_wp2_with fail
  go_loopw [4] (fun i wr => ∃ k : Nat, k ≤ xs.length ∧ i = .int .i64 k ∧ Hid (∀ v ∈ xs.take k, few13b v = true) ∧ k ≤ 90 ∧ Below W1.heap.size W1 wr) (fun i _ => xs.length - (intOf i).toNat)
  case atStart => exact ⟨0, Nat.zero_le _, rfl, Lib.hid (by simp), by omega, Below.refl _ _⟩
  case round =>
    obtain ⟨k, hk, rfl, HE, h30, hbr⟩ := hrel
    have hB := b1.trans (hbr.mono b1.size)
    by_cases hlt : k < xs.length ∧ k < 90
    · obtain ⟨hlt, hk30⟩ := hlt
      obtain ⟨b, o, rfl, hl, e1, e2⟩ := (HR.out.below hbr).fld_at (k := k) hlt
      have hbd := HBAD.out k hlt hk30
      have hsn := HSN.out k hlt HE.out
      have hsz := HS.out xs[k] (List.getElem_mem _)
      generalize xs[k] = f at *
      obtain ⟨f1, f2⟩ := f
      simp only at e1 e2 hsz
      have z1 : (⟨f1.toArray⟩ : ByteArray).size = f1.length := by rw [Lib.size_eq]
      have z2 : (⟨f2.toArray⟩ : ByteArray).size = f2.length := by rw [Lib.size_eq]
      have q1 : IntKind.i64.wrap ((f1.length : Int) + (f2.length : Int)) = (f1.length : Int) + (f2.length : Int) := IntWalk.i64_in _ (by omega)
      by_cases hbig : 2000 < f1.length + f2.length
      · have ho := hbd (by simp [few13b]; omega)
        subst ho
        have t1 : decide ((f1.length : Int) + (f2.length : Int) > 2000) = true := by simp; omega
        clear HBAD HSN HG HE hsn hbd HS HR HW1
        go_wp2
        go_quiet (fail)
        go_wp2
        go_ret
        exact ⟨rfl, Go.below_drewN hB _⟩
      · have HE2 := Lib.hid (hsn (by simp [few13b]; omega))
        have t1 : decide ((f1.length : Int) + (f2.length : Int) > 2000) = false := by simp; omega
        clear HBAD HSN HG HE hsn hbd HS HR HW1
        go_wp2
        go_quiet (fail)
        go_wp2
        go_roundw
        case rel => exact ⟨k + 1, by omega, by go_num, HE2, by omega, Go.below_drewN hbr _⟩
        case measure => simp [intOf]; omega
    · have ho := HG.out k HE.out (by omega)
      subst ho
      clear HBAD HSN HG HE HS HR HW1
      by_cases hl : k < xs.length
      · go_wp2
        go_ret
        exact ⟨rfl, hB⟩
      · go_wp2
        go_ret
        exact ⟨rfl, hB⟩
end Go.Proofs.YtgmmjhcklhajiaaGreatDoor
/- The walks of fields.kept and slices.ContainsFunc, over any closure (printed by wip/tools/kept.py). -/
namespace Go.Proofs.YtgmmjhcklhajiaaGreatDoor
open Go.RowKit
set_option maxRecDepth 100000

theorem OwnF.beside {B T : Nat} {v : Value} {fs : List Fld} {w w1 : World} (h : OwnF B v fs w) (hb : Beside T w w1) (hT : T < B) : OwnF B v fs w1 := own_beside h hb hT
theorem steps_len {fs : Nat → List Fld} {xs : List Fld} {p : Nat → Bool} (h0 : fs 0 = []) (hf : ∀ k (h : k < xs.length), fs (k + 1) = bif p k then fs k ++ [xs[k]] else fs k) : ∀ k, k ≤ xs.length → (fs k).length ≤ k
  | 0, _ => by rw [h0]; simp
  | k + 1, h => by
    have ih := steps_len h0 hf k (by omega)
    rw [hf k (by omega)]
    cases p k
    · rw [cond_false]; omega
    · rw [cond_true, List.length_append, List.length_singleton]; omega

set_option maxHeartbeats 4000000 in
theorem keptDel_any (p1 : Value) (T : Nat) (ws : World) (A : Option Addr) (n c : Nat) (xs : List Fld) (w : World) (hr : Rd A n 2 (fldsV xs) ws) (hn : n ≤ 1000000) (hws : Below ws.heap.size ws w) (hT : ws.heap.size ≤ T) (hTw : T < w.heap.size) (Inv : Nat → World → Prop) (p : Nat → Bool) (fs : Nat → List Fld) (h0 : fs 0 = []) (hf : ∀ k (h : k < xs.length), fs (k + 1) = bif p k then fs k ++ [xs[k]] else fs k) (hI : Inv 0 w)
    (hst : ∀ k W W', Inv k W → Below w.heap.size W W' → Inv k W')
    (hc : ∀ k (h : k < xs.length) W, Inv k W → w.heap.size ≤ W.heap.size → Calls Tryz.prog 89 #[.agg #[.string ⟨(xs[k]).1.toArray⟩, .string ⟨(xs[k]).2.toArray⟩], p1] W fun e W' => e = .returned (.bool (p k)) ∧ Inv (k + 1) W' ∧ Beside T W W') :
    Calls Tryz.prog 88 #[.slice A n c, .func (.func 89) #[] #[p1]] w fun e w' => ∃ a cap, e = .returned (.slice a (fs xs.length).length cap) ∧ OwnF w.heap.size (.slice a (fs xs.length).length cap) (fs xs.length) w' ∧ Below T w w' ∧ Inv xs.length w' := by
  obtain rfl := hr.fld
  have hlen := steps_len h0 hf
  have H0 := Lib.hid h0; have HF := Lib.hid hf; have HST := Lib.hid hst; have HC := Lib.hid hc; have HR := Lib.hid hr; have HI := Lib.hid hI; have HL := Lib.hid hlen
  have HWS := Lib.hid hws
  clear h0 hf hst hc hr hI hlen hws
  go_enter Tryz.func88, Tryz.ntmps88
  go_wp2
  go_loopw [9, 4] (fun i out wr => ∃ k : Nat, k ≤ xs.length ∧ i = .int .i64 k ∧ Hid (OwnF w.heap.size out (fs k) wr) ∧ Below T w wr ∧ Hid (Inv k wr)) (fun i _ _ => xs.length - (intOf i).toNat)
  case atStart => exact ⟨0, Nat.zero_le _, rfl, by rw [H0.out]; exact Lib.hid (OwnF.nil _ _), Below.refl _ _, HI⟩
  case round =>
    clear HI H0
    obtain ⟨k, hk, rfl, HO, hbw, HI⟩ := hrel
    obtain ⟨oa, oc, rfl⟩ := HO.out.shape
    have hsz := hbw.size
    by_cases hlt : k < xs.length
    · obtain ⟨b, o, rfl, hl, c1, c2⟩ := (HR.out.below (HWS.out.trans (hbw.mono hT))).fld_at (k := k) hlt
      have hnx := HF.out k hlt
      have hll := HL.out k hk
      have k1 := fun W h => HC.out k hlt W (HST.out k wr W HI.out h)
      generalize xs[k] = f at *
      obtain ⟨f1, f2⟩ := f
      simp only at c1 c2 k1
      have hAl : Below w.heap.size wr (wr.alloc (.cells #[.string ⟨f1.toArray⟩, .string ⟨f2.toArray⟩] 55)) := ((Below.refl wr.heap.size wr).alloc (Nat.le_refl _) _).mono hsz
      have hO1 := HO.out.below ((Below.refl wr.heap.size wr).alloc (Nat.le_refl _) (.cells #[.string ⟨f1.toArray⟩, .string ⟨f2.toArray⟩] 55))
      have HO1 := Lib.hid hO1
      have hfl : (fs k).length ≤ 1000000000 := by omega
      generalize fs k = fk at *
      have K1 := Lib.hid (k1 _ hAl (by simp; omega)); have HNX := Lib.hid hnx
      clear k1 hnx HO hO1 HI HF HC HL
      cases hp : p k
      · rw [hp] at HNX K1
        go_wp2_with fail
        refine K1.out.mono ?_
        rintro e w1 ⟨rfl, hI1, hb1⟩
        have hB1 := (hbw.trans (hAl.mono (by omega))).trans hb1.1
        have HO2 := Lib.hid (HO1.out.beside hb1 hTw); have HI1 := Lib.hid hI1
        clear hI1 hb1 hAl K1
        go_wp2
        go_roundw
        case rel => exact ⟨k + 1, by omega, by go_num, by rw [HNX.out]; exact HO2, hB1, HI1⟩
        case measure => simp [intOf]; omega
      · rw [hp] at HNX K1
        go_wp2_with fail
        refine K1.out.mono ?_
        rintro e w1 ⟨rfl, hI1, hb1⟩
        have hB1 := (hbw.trans (hAl.mono (by omega))).trans hb1.1
        have d0 : w1.cell? ⟨wr.heap.size, 0, none⟩ = some (.string ⟨f1.toArray⟩) := (hb1.cell 0 (by simp) (by omega)).trans (World.cell?_alloc_mark wr _ _ _ 0)
        have d1 : w1.cell? ⟨wr.heap.size, 1, none⟩ = some (.string ⟨f2.toArray⟩) := (hb1.cell 1 (by simp) (by omega)).trans (World.cell?_alloc_mark wr _ _ _ 1)
        have HO2 := Lib.hid (HO1.out.beside hb1 hTw); have HI1 := Lib.hid hI1
        have hs1 := hb1.1.size
        have hs2 : w.heap.size ≤ w1.heap.size := by simp at hs1; omega
        clear hI1 hb1 hAl K1 HO1 hs1
        go_wp2_with (at_builtin; refine app_fld w.heap.size (f1, f2) HO2.out hs2 hfl rfl _ _ rfl rfl rfl ?_)
        intro v' w2 hO3 hb2 _
        have HO3 : Hid (OwnF w.heap.size v' (fs (k + 1)) w2) := by rw [HNX.out]; exact Lib.hid hO3
        have HI2 := Lib.hid (HST.out (k + 1) w1 w2 HI1.out hb2)
        have hB2 := hB1.trans (hb2.mono (by omega))
        clear hO3 hb2 HI1 d0 d1 HNX
        go_wp2
        go_roundw
        case rel => exact ⟨k + 1, by omega, by go_num, HO3, hB2, HI2⟩
        case measure => simp [intOf]; omega
    · have hke : k = xs.length := by omega
      subst hke
      clear HF HC HST HL
      go_wp2
      go_ret
      exact ⟨oa, oc, rfl, HO.out, hbw, HI.out⟩

/-- Where the first one stands of which something is so; below nought: nowhere. -/
def AnyPost (q : List UInt8 → Bool) (ls : List (List UInt8)) (w : World) (e : Ending) (w' : World) : Prop := ∃ i : Int, e = .returned (.int .i64 i) ∧ decide (0 ≤ i) = ls.any q ∧ Below w.heap.size w w'
set_option maxHeartbeats 4000000 in
theorem indexDel_any (p1 : Value) (q : List UInt8 → Bool) (A : Option Addr) (n c : Nat) (ls : List (List UInt8)) (w : World) (hr : Rd A n 1 (strsV ls) w) (hn : n ≤ 1000000)
    (hc : ∀ l ∈ ls, ∀ W, Below w.heap.size w W → Calls Tryz.prog 91 #[.string ⟨l.toArray⟩, p1] W fun e W' => e = .returned (.bool (q l)) ∧ Below W.heap.size W W') :
    Calls Tryz.prog 144 #[.slice A n c, .func (.func 91) #[] #[p1]] w (AnyPost q ls w) := by
  obtain rfl := hr.str
  have hB := Below.refl w.heap.size w
  have HR := Lib.hid hr; have HC := Lib.hid hc; clear hr hc
  go_enter Tryz.func144, Tryz.ntmps144
  go_wp2
  go_loopw [8] (fun i wr => ∃ k : Nat, k ≤ ls.length ∧ i = .int .i64 k ∧ Hid ((ls.take k).any q = false) ∧ Below w.heap.size w wr) (fun i _ => ls.length - (intOf i).toNat)
  case atStart => exact ⟨0, Nat.zero_le _, rfl, Lib.hid rfl, hB⟩
  case round =>
    clear hB
    obtain ⟨k, hk, rfl, HA, hbw⟩ := hrel
    by_cases hlt : k < ls.length
    · obtain ⟨b, o, rfl, hl, c1⟩ := (HR.out.below hbw).str_at (k := k) hlt
      have k1 := HC.out ls[k] (List.getElem_mem _) wr hbw
      have hbad : q ls[k] = true → Hid (decide ((0 : Int) ≤ (k : Int)) = ls.any q) := by
        intro h
        refine Lib.hid ?_
        have : ls.any q = true := by rw [List.any_eq_true]; exact ⟨ls[k], List.getElem_mem _, h⟩
        rw [this]; simp
      have hgood : q ls[k] = false → Hid ((ls.take (k + 1)).any q = false) := by
        intro h
        refine Lib.hid ?_
        rw [List.take_succ_eq_append_getElem hlt, List.any_append, HA.out]
        simp [h]
      generalize ls[k] = p at *
      have HBAD := Lib.hid hbad; have HGOOD := Lib.hid hgood; clear hbad hgood HA
      cases hq : q p
      · rw [hq] at k1
        have hf := HGOOD.out hq
        have K1 := Lib.hid k1; clear k1 hq
        go_wp2_with fail
        refine K1.out.mono ?_
        rintro e w1 ⟨rfl, hb1⟩
        go_wp2
        go_roundw
        case rel => exact ⟨k + 1, by omega, by go_num, hf, bt hbw hb1⟩
        case measure => simp [intOf]; omega
      · rw [hq] at k1
        have hf := HBAD.out hq
        have K1 := Lib.hid k1; clear k1 hq
        go_wp2_with fail
        refine K1.out.mono ?_
        rintro e w1 ⟨rfl, hb1⟩
        go_wp2
        go_ret
        exact ⟨k, rfl, hf.out, bt hbw hb1⟩
    · have hke : k = ls.length := by omega
      subst hke
      have ha := HA.out
      rw [List.take_length] at ha
      have HA2 := Lib.hid ha; clear ha HA
      go_wp2
      go_ret
      exact ⟨-1, rfl, by rw [HA2.out]; rfl, hbw⟩
set_option maxHeartbeats 1000000 in
theorem containsDel_any (p1 : Value) (q : List UInt8 → Bool) (A : Option Addr) (n c : Nat) (ls : List (List UInt8)) (w : World) (hr : Rd A n 1 (strsV ls) w) (hn : n ≤ 1000000)
    (hc : ∀ l ∈ ls, ∀ W, Below w.heap.size w W → Calls Tryz.prog 91 #[.string ⟨l.toArray⟩, p1] W fun e W' => e = .returned (.bool (q l)) ∧ Below W.heap.size W W') :
    Calls Tryz.prog 90 #[.slice A n c, .func (.func 91) #[] #[p1]] w fun e w' => e = .returned (.bool (ls.any q)) ∧ Below w.heap.size w w' := by
  have k1 := indexDel_any p1 q A n c ls w hr hn hc
  have K1 := Lib.hid k1; clear k1 hc
  go_enter Tryz.func90, Tryz.ntmps90
  go_wp2_with fail
  refine K1.out.mono ?_
  rintro e w1 ⟨i, rfl, hi, hb1⟩
  have HI := Lib.hid hi; clear hi
  go_wp2
  go_ret
  exact ⟨by rw [← HI.out]; rfl, hb1⟩
end Go.Proofs.YtgmmjhcklhajiaaGreatDoor
/- Names taken out: the plain law, and both walks. -/
namespace Go.Proofs.YtgmmjhcklhajiaaGreatDoor
open Go.RowKit
set_option maxRecDepth 100000

def hasL (names : List (List UInt8)) (nm : List UInt8) : Bool := names.any fun n => lowerL n == lowerL nm
def delL (xs : List Fld) (names : List (List UInt8)) : List Fld := xs.filter fun f => !hasL names f.1
theorem delL_le (xs : List Fld) (names : List (List UInt8)) : (delL xs names).length ≤ xs.length := List.length_filter_le _ _
/-- Is the element at a place one of which something is so? -/
def atP (q : Fld → Bool) (xs : List Fld) (k : Nat) : Bool := match xs[k]? with | some f => q f | none => false
theorem atP_at (q : Fld → Bool) (xs : List Fld) (k : Nat) (h : k < xs.length) : atP q xs k = q xs[k] := by
  unfold atP; rw [List.getElem?_eq_getElem h]

theorem delff_any (l : List UInt8) (b : Nat) (f1 : List UInt8) (w : World) (h : w.cell? ⟨b, 0, none⟩ = some (.string ⟨f1.toArray⟩)) (h1 : l.length ≤ 1000000) (h2 : f1.length ≤ 1000000) :
    Calls Tryz.prog 91 #[.string ⟨l.toArray⟩, .pointer (some ⟨b, 0, none⟩)] w fun e w' => e = .returned (.bool (lowerL l == lowerL f1)) ∧ Below w.heap.size w w' := by
  have k1 := tsame_any ⟨l.toArray⟩ ⟨f1.toArray⟩ w (by rw [Lib.size_eq]; exact h1) (by rw [Lib.size_eq]; exact h2)
  simp only at k1
  generalize (lowerL l == lowerL f1) = out at *
  have K1 := Lib.hid k1; clear k1
  go_enter Tryz.func91, Tryz.ntmps91
  go_wp2_with fail
  refine K1.out.mono ?_
  rintro e w1 ⟨rfl, hb1⟩
  go_wp2
  go_ret
  exact ⟨rfl, hb1⟩

set_option maxHeartbeats 2000000 in
theorem delf_any (f : Fld) (nb : Nat) (N : Option Addr) (nn nc : Nat) (names : List (List UInt8)) (w : World) (h : w.cell? ⟨nb, 0, none⟩ = some (.slice N nn nc)) (hnb : nb < w.heap.size) (hr : Rd N nn 1 (strsV names) w) (hn : nn ≤ 1000000) (hl : ∀ l ∈ names, l.length ≤ 1000000) (hf : f.1.length ≤ 1000000) :
    Calls Tryz.prog 89 #[.agg #[.string ⟨f.1.toArray⟩, .string ⟨f.2.toArray⟩], .pointer (some ⟨nb, 0, none⟩)] w fun e w' => e = .returned (.bool (!hasL names f.1)) ∧ Below w.heap.size w w' := by
  obtain ⟨f1, f2⟩ := f
  simp only at hf ⊢
  have hAl := (Below.refl w.heap.size w).alloc (Nat.le_refl _) (.cells #[.string ⟨f1.toArray⟩, .string ⟨f2.toArray⟩] 55)
  have k1 := containsDel_any (.pointer (some ⟨w.heap.size, 0, none⟩)) (fun l => lowerL l == lowerL f1) N nn nc names (w.alloc (.cells #[.string ⟨f1.toArray⟩, .string ⟨f2.toArray⟩] 55)) (hr.below hAl) hn (by
    intro l hl' W hW
    exact delff_any l w.heap.size f1 W ((hW.cell (p := ⟨w.heap.size, 0, none⟩) (by simp)).trans (World.cell?_alloc_mark w _ _ _ 0)) (hl l hl') hf)
  have he : (names.any fun l => lowerL l == lowerL f1) = hasL names f1 := rfl
  rw [he] at k1
  generalize hasL names f1 = out at *
  have c0 : (w.alloc (.cells #[.string ⟨f1.toArray⟩, .string ⟨f2.toArray⟩] 55)).cell? ⟨nb, 0, none⟩ = some (.slice N nn nc) := (hAl.cell (p := ⟨nb, 0, none⟩) hnb).trans h
  have K1 := Lib.hid k1; clear k1 he hr hl
  go_enter Tryz.func89, Tryz.ntmps89
  go_wp2_with fail
  refine K1.out.mono ?_
  rintro e w1 ⟨rfl, hb1⟩
  go_wp2
  go_ret
  exact ⟨rfl, hAl.trans (hb1.mono (by simp))⟩

set_option maxHeartbeats 2000000 in
theorem del_any (A : Option Addr) (n c : Nat) (xs : List Fld) (N : Option Addr) (nn nc : Nat) (names : List (List UInt8)) (w : World) (hr : Rd A n 2 (fldsV xs) w) (hn : n ≤ 1000000) (hs : ∀ f ∈ xs, f.1.length ≤ 1000000)
    (hR : Rd N nn 1 (strsV names) w) (hnn : nn ≤ 1000000) (hl : ∀ l ∈ names, l.length ≤ 1000000) :
    Calls Tryz.prog 39 #[.slice A n c, .slice N nn nc] w (FieldsPost w (delL xs names)) := by
  have hAl := (Below.refl w.heap.size w).alloc (Nat.le_refl _) (.cells #[.slice N nn nc] 57)
  have hlast : (xs.take xs.length).filter (fun f => !hasL names f.1) = delL xs names := by rw [List.take_length]; rfl
  have k1 := keptDel_any (.pointer (some ⟨w.heap.size, 0, none⟩)) w.heap.size w A n c xs (w.alloc (.cells #[.slice N nn nc] 57)) hr hn hAl (Nat.le_refl _) (by simp)
    (fun _ W => Below w.heap.size w W ∧ W.cell? ⟨w.heap.size, 0, none⟩ = some (.slice N nn nc) ∧ w.heap.size < W.heap.size) (atP (fun f => !hasL names f.1) xs) (fun k => (xs.take k).filter fun f => !hasL names f.1) rfl
    (by
      intro k hk
      rw [atP_at _ _ _ hk, List.take_succ_eq_append_getElem hk, List.filter_append]
      cases hq : (!hasL names xs[k].1) <;> simp [hq])
    ⟨hAl, World.cell?_alloc_mark w _ _ _ 0, by simp⟩
    (by
      rintro k W W' ⟨h1, h2, h3⟩ hb
      exact ⟨h1.trans (hb.mono (by simp)), (hb.cell (p := ⟨w.heap.size, 0, none⟩) (by simp)).trans h2, Nat.lt_of_lt_of_le h3 hb.size⟩)
    (by
      rintro k hk W ⟨h1, h2, h3⟩ hsz
      rw [atP_at _ _ _ hk]
      refine (delf_any xs[k] w.heap.size N nn nc names W h2 h3 (hR.below h1) hnn hl (hs _ (List.getElem_mem _))).mono ?_
      rintro e W' ⟨rfl, hb⟩
      exact ⟨rfl, ⟨h1.trans (hb.mono h1.size), (hb.cell (p := ⟨w.heap.size, 0, none⟩) h3).trans h2, Nat.lt_of_lt_of_le h3 hb.size⟩, Beside.of hb (by omega)⟩)
  simp only [hlast] at k1
  generalize delL xs names = fs at *
  have K1 := Lib.hid k1; clear k1 hr hs hR hl hlast hn hnn
  go_enter Tryz.func39, Tryz.ntmps39
  go_wp2_with fail
  refine K1.out.mono ?_
  rintro e w1 ⟨a1, c1, rfl, ho1, hb1, -⟩
  have HO1 := Lib.hid (ho1.base (B' := w.heap.size) (by simp)); clear ho1
  go_wp2
  go_ret
  exact ⟨a1, c1, rfl, HO1.out, hAl.trans hb1⟩

/-! The document's. -/
theorem rhas_any (N : Option Addr) (n c : Nat) (ls : List (List UInt8)) (nm : List UInt8) (w : World) (hr : Rd N n 1 (strsV ls) w) (hn : n ≤ 1000000) (hl : ∀ l ∈ ls, l.length ≤ 1000000) (hm : nm.length ≤ 1000000) :
    Calls Tryz.prog 112 #[.slice N n c, .string ⟨nm.toArray⟩] w fun e w' => e = .returned (.bool (hasL ls nm)) ∧ Below w.heap.size w w' := by
  obtain rfl := hr.str
  have hY : ∀ k (h : k < ls.length), (lowerL ls[k] == lowerL nm) = true → hasL ls nm = true := by
    intro k h e
    unfold hasL
    rw [List.any_eq_true]; exact ⟨ls[k], List.getElem_mem _, e⟩
  have hN : hasL (ls.take ls.length) nm = false → hasL ls nm = false := by rw [List.take_length]; exact id
  have hS : ∀ k (h : k < ls.length), hasL (ls.take k) nm = false → (lowerL ls[k] == lowerL nm) = false → hasL (ls.take (k + 1)) nm = false := by
    intro k h e n
    unfold hasL at *
    rw [List.take_succ_eq_append_getElem h, List.any_append, e]
    simp [n]
  have k2 := fun w => rlower_any ⟨nm.toArray⟩ w (by rw [Lib.size_eq]; exact hm)
  simp only at k2
  have HY := Lib.hid hY; have HN := Lib.hid hN; have HS := Lib.hid hS; have HR := Lib.hid hr; have HL := Lib.hid hl; have K2 := Lib.hid k2; clear hY hN hS hr hl k2
  generalize hasL ls nm = out at *
  have hB := Below.refl w.heap.size w
  go_enter Tryz.func112, Tryz.ntmps112
  go_wp2
  go_loopw [5] (fun i wr => ∃ k : Nat, k ≤ ls.length ∧ i = .int .i64 k ∧ Below w.heap.size w wr ∧ Hid (hasL (ls.take k) nm = false)) (fun i _ => ls.length - (intOf i).toNat)
  case atStart => exact ⟨0, Nat.zero_le _, rfl, hB, Lib.hid rfl⟩
  case round =>
    clear hB
    obtain ⟨k, hk, rfl, hbw, Hall⟩ := hrel
    by_cases hlt : k < ls.length
    · obtain ⟨b, o, rfl, hl, c1⟩ := (HR.out.below hbw).str_at (k := k) hlt
      have hy := HY.out k hlt
      have hs := HS.out k hlt Hall.out
      have hll := HL.out ls[k] (List.getElem_mem _)
      generalize ls[k] = l at *
      have k1 := fun w => rlower_any ⟨l.toArray⟩ w (by rw [Lib.size_eq]; exact hll)
      simp only at k1
      have Hy := Lib.hid hy; have Hs := Lib.hid hs; have K1 := Lib.hid k1; clear hy hs k1
      cases hq : (lowerL l == lowerL nm)
      · have hf := Hs.out hq
        have Hf := Lib.hid hf; have Hq := Lib.hid hq; clear hf hq Hs Hy
        go_wp2_with fail
        refine (K1.out _).mono ?_
        rintro e w1 ⟨rfl, hb1⟩
        go_wp2_with fail
        refine (K2.out _).mono ?_
        rintro e w2 ⟨rfl, hb2⟩
        have hB2 := bt (bt hbw hb1) hb2
        have q1 := Hq.out
        go_wp2
        go_roundw
        case rel => exact ⟨k + 1, by omega, by go_num, hB2, Hf⟩
        case measure => simp [intOf]; omega
      · have hf := Hy.out hq
        have Hf := Lib.hid hf; have Hq := Lib.hid hq; clear hf hq Hs Hy
        go_wp2_with fail
        refine (K1.out _).mono ?_
        rintro e w1 ⟨rfl, hb1⟩
        go_wp2_with fail
        refine (K2.out _).mono ?_
        rintro e w2 ⟨rfl, hb2⟩
        have hB2 := bt (bt hbw hb1) hb2
        have q1 := Hq.out
        go_wp2
        go_ret
        exact ⟨by rw [Hf.out]; rfl, hB2⟩
    · have hke : k = ls.length := by omega
      subst hke
      have hf := HN.out Hall.out
      have Hf := Lib.hid hf; clear hf
      go_wp2
      go_ret
      exact ⟨by rw [Hf.out]; rfl, hbw⟩

theorem delL_snoc (xs : List Fld) (names : List (List UInt8)) (k : Nat) (h : k < xs.length) : delL (xs.take (k + 1)) names = bif !hasL names xs[k].1 then delL (xs.take k) names ++ [xs[k]] else delL (xs.take k) names := by
  unfold delL
  rw [List.take_succ_eq_append_getElem h, List.filter_append]
  cases hq : (!hasL names xs[k].1) <;> simp [hq]
end Go.Proofs.YtgmmjhcklhajiaaGreatDoor
/- A name set: the plain law, and both walks. -/
namespace Go.Proofs.YtgmmjhcklhajiaaGreatDoor
open Go.RowKit
set_option maxRecDepth 100000

def sameN (nm : List UInt8) (f : Fld) : Bool := lowerL f.1 == lowerL nm
def setP (nm v : List UInt8) : Bool → List Fld → List Fld
  | _, [] => []
  | th, f :: r => bif sameN nm f then (bif th then setP nm v true r else (f.1, v) :: setP nm v true r) else f :: setP nm v th r
def keepN (nm : List UInt8) : Bool → List Fld → List Fld
  | _, [] => []
  | th, f :: r => bif sameN nm f then (bif th then keepN nm true r else f :: keepN nm true r) else f :: keepN nm th r
def setL (xs : List Fld) (nm v : List UInt8) : List Fld := setP nm v false xs ++ (bif xs.any (sameN nm) then [] else [(nm, v)])
def updF (nm v : List UInt8) (f : Fld) : Fld := bif sameN nm f then (f.1, v) else f

theorem sameN_val (nm v : List UInt8) (f : Fld) : sameN nm (f.1, v) = sameN nm f := rfl
theorem keepN_snoc (nm : List UInt8) (f : Fld) : ∀ (th : Bool) (xs : List Fld), keepN nm th (xs ++ [f]) = keepN nm th xs ++ (bif sameN nm f then (bif (th || xs.any (sameN nm)) then [] else [f]) else [f])
  | th, [] => by cases h : sameN nm f <;> cases th <;> simp [keepN, h]
  | th, g :: r => by
    have ih := fun t => keepN_snoc nm f t r
    rw [List.cons_append, keepN, keepN, ih, ih, List.any_cons]
    cases hg : sameN nm g <;> cases th <;> simp
theorem setP_snoc (nm v : List UInt8) (f : Fld) : ∀ (th : Bool) (xs : List Fld), setP nm v th (xs ++ [f]) = setP nm v th xs ++ (bif sameN nm f then (bif (th || xs.any (sameN nm)) then [] else [(f.1, v)]) else [f])
  | th, [] => by cases h : sameN nm f <;> cases th <;> simp [setP, h]
  | th, g :: r => by
    have ih := fun t => setP_snoc nm v f t r
    rw [List.cons_append, setP, setP, ih, ih, List.any_cons]
    cases hg : sameN nm g <;> cases th <;> simp
theorem keepN_map (nm v : List UInt8) : ∀ (th : Bool) (xs : List Fld), (keepN nm th xs).map (updF nm v) = setP nm v th xs
  | _, [] => rfl
  | th, f :: r => by
    have ih := fun t => keepN_map nm v t r
    rw [keepN, setP]
    cases h : sameN nm f <;> cases th <;> simp [ih, updF, h]
theorem keepN_none (nm : List UInt8) : ∀ (th : Bool) (xs : List Fld), xs.any (sameN nm) = false → keepN nm th xs = xs
  | _, [], _ => rfl
  | th, f :: r, h => by
    rw [List.any_cons, Bool.or_eq_false_iff] at h
    rw [keepN, h.1, cond_false, keepN_none nm th r h.2]
theorem setP_none (nm v : List UInt8) : ∀ (th : Bool) (xs : List Fld), xs.any (sameN nm) = false → setP nm v th xs = xs
  | _, [], _ => rfl
  | th, f :: r, h => by
    rw [List.any_cons, Bool.or_eq_false_iff] at h
    rw [setP, h.1, cond_false, setP_none nm v th r h.2]
theorem keepN_le (nm : List UInt8) : ∀ (th : Bool) (xs : List Fld), (keepN nm th xs).length ≤ xs.length
  | _, [] => Nat.le_refl _
  | th, f :: r => by
    have ih := fun t => keepN_le nm t r
    have h1 := ih true; have h2 := ih th
    rw [keepN]
    cases sameN nm f <;> cases th <;> simp <;> omega
theorem setP_le (nm v : List UInt8) (th : Bool) (xs : List Fld) : (setP nm v th xs).length ≤ xs.length := by
  rw [← keepN_map, List.length_map]; exact keepN_le nm th xs
theorem keepN_mem (nm : List UInt8) : ∀ (th : Bool) (xs : List Fld), ∀ f ∈ keepN nm th xs, f ∈ xs
  | _, [], f, h => by simp [keepN] at h
  | th, g :: r, f, h => by
    have ih := fun t => keepN_mem nm t r f
    rw [keepN] at h
    cases hg : sameN nm g <;> rw [hg] at h
    · rw [cond_false] at h
      rcases List.mem_cons.1 h with rfl | h
      · simp
      · exact List.mem_cons_of_mem _ (ih _ h)
    · cases th
      · simp only [cond_true, cond_false] at h
        rcases List.mem_cons.1 h with rfl | h
        · simp
        · exact List.mem_cons_of_mem _ (ih _ h)
      · simp only [cond_true] at h
        exact List.mem_cons_of_mem _ (ih _ h)

/-! Fields in a row of the call's own: read, and their values written. -/
theorem OwnF.at {B n cap : Nat} {a : Option Addr} {fs : List Fld} {w : World} (h : OwnF B (.slice a n cap) fs w) {k : Nat} (hk : k < fs.length) :
    ∃ g, a = some ⟨g, 0, none⟩ ∧ n = fs.length ∧ B ≤ g ∧ g < w.heap.size ∧ w.cell? ⟨g, k * 2, none⟩ = some (.string ⟨(fs[k]).1.toArray⟩) ∧ w.cell? ⟨g, k * 2 + 1, none⟩ = some (.string ⟨(fs[k]).2.toArray⟩) ∧ w.frozen? ⟨g, k * 2 + 1, none⟩ = false := by
  obtain ⟨hn, hr⟩ := h.rd
  obtain ⟨b, o, e, hl, c1, c2⟩ := hr.fld_at hk
  rcases h.2 with ⟨hv, h0⟩ | ⟨g, cp, cur, hv, hg, hh, _⟩
  · omega
  · cases hv
    cases e
    rw [Nat.zero_add] at c1 c2
    exact ⟨b, rfl, hn, hg, hl, c1, c2, by simp [World.frozen?, hh]⟩
theorem fldsV_set : ∀ (fs : List Fld) (k : Nat) (hk : k < fs.length) (v : List UInt8), fldsV (fs.set k ((fs[k]).1, v)) = (fldsV fs).set (k * 2 + 1) (.string ⟨v.toArray⟩)
  | [], k, hk, _ => by simp at hk
  | x :: r, 0, _, v => by simp [fldsV, fldV]
  | x :: r, k + 1, hk, v => by
    have ih := fldsV_set r k (by simpa using hk) v
    have e : ∀ l : List Fld, fldsV (x :: l) = (.string ⟨x.1.toArray⟩) :: (.string ⟨x.2.toArray⟩) :: fldsV l := fun _ => rfl
    rw [List.set_cons_succ, e, e, show (k + 1) * 2 + 1 = (k * 2 + 1) + 1 + 1 from by omega, List.set_cons_succ, List.set_cons_succ, ← ih]
    rfl
theorem OwnF.stored {B n cap g : Nat} {fs : List Fld} {w : World} (h : OwnF B (.slice (some ⟨g, 0, none⟩) n cap) fs w) {k : Nat} (hk : k < fs.length) (v : List UInt8) :
    OwnF B (.slice (some ⟨g, 0, none⟩) n cap) (fs.set k ((fs[k]).1, v)) (w.setCell ⟨g, k * 2 + 1, none⟩ (.string ⟨v.toArray⟩)) := by
  have hn := h.rd.1
  subst hn
  unfold OwnF at *
  rw [List.length_set, fldsV_set fs k hk v]
  exact (h.stored (k * 2 + 1) _).1
def updK (nm v : List UInt8) (ks : List Fld) (k : Nat) : List Fld := (ks.take k).map (updF nm v) ++ ks.drop k
theorem updK_len (nm v : List UInt8) (ks : List Fld) (k : Nat) : (updK nm v ks k).length = ks.length := by
  unfold updK; rw [List.length_append, List.length_map, List.length_take, List.length_drop]; omega
theorem updK_at (nm v : List UInt8) (ks : List Fld) (k : Nat) (h : k < ks.length) (h' : k < (updK nm v ks k).length) : (updK nm v ks k)[k] = ks[k] := by
  have e : (updK nm v ks k)[k]? = some ks[k] := by
    have hl : ((ks.take k).map (updF nm v)).length = k := by rw [List.length_map, List.length_take]; omega
    unfold updK
    rw [List.getElem?_append_right (by omega), hl, Nat.sub_self, List.getElem?_drop, Nat.add_zero, List.getElem?_eq_getElem h]
  rw [List.getElem?_eq_getElem h'] at e
  exact Option.some.inj e
theorem updK_step (nm v : List UInt8) (ks : List Fld) (k : Nat) (h : k < ks.length) : updK nm v ks (k + 1) = (updK nm v ks k).set k (updF nm v ks[k]) := by
  have hl : ((ks.take k).map (updF nm v)).length = k := by rw [List.length_map, List.length_take]; omega
  unfold updK
  rw [List.set_append_right k _ (by omega), hl, Nat.sub_self, List.drop_eq_getElem_cons h, List.set_cons_zero, List.take_succ_eq_append_getElem h, List.map_append]
  simp
theorem updK_all (nm v : List UInt8) (ks : List Fld) : updK nm v ks ks.length = ks.map (updF nm v) := by
  unfold updK; rw [List.take_length, List.drop_length, List.append_nil]
def pickP (nm : List UInt8) (xs : List Fld) (k : Nat) : Bool := match xs[k]? with | some f => bif sameN nm f then !(xs.take k).any (sameN nm) else true | none => false
theorem pickP_at (nm : List UInt8) (xs : List Fld) (k : Nat) (h : k < xs.length) : pickP nm xs k = bif sameN nm xs[k] then !(xs.take k).any (sameN nm) else true := by
  unfold pickP; rw [List.getElem?_eq_getElem h]

end Go.Proofs.YtgmmjhcklhajiaaGreatDoor
/- What a name has behind setting it and taking it out: the plain law. -/
namespace Go.Proofs.YtgmmjhcklhajiaaGreatDoor
open Go.RowKit

theorem values_app (a b : List Fld) (nm : List UInt8) : valuesL (a ++ b) nm = valuesL a nm ++ valuesL b nm := by unfold valuesL; simp
theorem values_cons (f : Fld) (r : List Fld) (nm : List UInt8) : valuesL (f :: r) nm = bif sameN nm f then f.2 :: valuesL r nm else valuesL r nm := by
  unfold valuesL
  rw [List.filter_cons]
  show (if sameN nm f = true then _ else _ : List Fld).map _ = _
  cases sameN nm f <;> simp
theorem values_setP (nm v : List UInt8) : ∀ (th : Bool) (xs : List Fld), valuesL (setP nm v th xs) nm = bif th then [] else bif xs.any (sameN nm) then [v] else []
  | th, [] => by cases th <;> rfl
  | th, f :: r => by
    have ih := fun t => values_setP nm v t r
    rw [setP, List.any_cons]
    cases h : sameN nm f <;> cases th <;> simp only [cond_true, cond_false, Bool.true_or, Bool.false_or]
    · rw [values_cons, h, cond_false, ih]; rfl
    · rw [values_cons, h, cond_false, ih]; rfl
    · rw [values_cons, show sameN nm (f.1, v) = sameN nm f from rfl, h, cond_true, ih]; rfl
    · rw [ih]; rfl
theorem values_setL (xs : List Fld) (nm v : List UInt8) : valuesL (setL xs nm v) nm = [v] := by
  unfold setL
  rw [values_app, values_setP]
  cases xs.any (sameN nm)
  · have : sameN nm (nm, v) = true := by unfold sameN; simp
    simp only [cond_false, List.nil_append, values_cons, this, cond_true]
    rfl
  · rfl
theorem get_setL (xs : List Fld) (nm v : List UInt8) : getL (setL xs nm v) nm = (v, true) := by
  unfold getL; rw [values_setL]; simp [Lib.join]
theorem other_of {nm other : List UInt8} (h : (lowerL nm == lowerL other) = false) (f : Fld) (hf : sameN nm f = true) : sameN other f = false := by
  unfold sameN at *
  rw [beq_eq_false_iff_ne] at *
  rw [beq_iff_eq.1 hf]; exact h
theorem values_setP_other {nm other : List UInt8} (v : List UInt8) (h : (lowerL nm == lowerL other) = false) : ∀ (th : Bool) (xs : List Fld), valuesL (setP nm v th xs) other = valuesL xs other
  | _, [] => rfl
  | th, f :: r => by
    have ih := fun t => values_setP_other v h t r
    rw [setP, values_cons]
    cases hf : sameN nm f
    · rw [cond_false, values_cons, ih]
    · have ho := other_of h f hf
      rw [ho, cond_false, cond_true]
      cases th
      · rw [cond_false, values_cons, show sameN other (f.1, v) = sameN other f from rfl, ho, cond_false, ih]
      · rw [cond_true, ih]
theorem values_setL_other {nm other : List UInt8} (xs : List Fld) (v : List UInt8) (h : (lowerL nm == lowerL other) = false) : valuesL (setL xs nm v) other = valuesL xs other := by
  unfold setL
  rw [values_app, values_setP_other v h]
  cases xs.any (sameN nm)
  · have : sameN other (nm, v) = false := h
    rw [cond_false, values_cons, this, cond_false]
    simp [valuesL]
  · simp [valuesL]
theorem values_delL (xs : List Fld) (names : List (List UInt8)) (nm : List UInt8) : valuesL (delL xs names) nm = bif hasL names nm then [] else valuesL xs nm := by
  induction xs with
  | nil => unfold delL valuesL; cases hasL names nm <;> rfl
  | cons f r ih =>
    have hd : delL (f :: r) names = bif hasL names f.1 then delL r names else f :: delL r names := by
      unfold delL; rw [List.filter_cons]; cases hasL names f.1 <;> simp
    rw [hd, values_cons]
    cases hs : sameN nm f
    · cases hasL names f.1
      · rw [cond_false, values_cons, hs, ih]; rfl
      · rw [cond_true, ih]; rfl
    · have he : hasL names f.1 = hasL names nm := by
        unfold sameN at hs
        unfold hasL
        rw [beq_iff_eq.1 hs]
      rw [he]
      cases hn : hasL names nm
      · rw [hn] at ih
        rw [cond_false, values_cons, hs, ih]; rfl
      · rw [hn] at ih
        rw [cond_true, ih]; rfl
theorem has_one (a b : List UInt8) : hasL [a] b = (lowerL a == lowerL b) := by unfold hasL; simp
theorem get_del_one (xs : List Fld) (nm : List UInt8) : getL (delL xs [nm]) nm = ([], false) := by
  unfold getL; rw [values_delL, has_one]; simp [Lib.join]
theorem get_one (f : Fld) (other : List UInt8) : (getL [f] other).2 = (lowerL f.1 == lowerL other) := by
  unfold getL
  rw [values_cons]
  show decide _ = sameN other f
  cases sameN other f <;> simp [valuesL]
theorem sumF_app (a b : List Fld) : sumF (a ++ b) = sumF a + sumF b := by unfold sumF; simp
theorem sum_setP (nm v : List UInt8) : ∀ (th : Bool) (xs : List Fld), sumF (setP nm v th xs) ≤ sumF xs + v.length
  | _, [] => by simp [setP, sumF]
  | th, f :: r => by
    have key : ∀ (t : Bool) (xs : List Fld), t = true → sumF (setP nm v t xs) ≤ sumF xs := by
      intro t xs ht
      subst ht
      induction xs with
      | nil => exact Nat.le_refl _
      | cons g r ih =>
        rw [setP]
        cases sameN nm g
        · simp only [cond_false]; unfold sumF at *; simp only [List.map_cons, List.sum_cons]; omega
        · simp only [cond_true]; unfold sumF at *; simp only [List.map_cons, List.sum_cons]; omega
    have ih := sum_setP nm v th r
    have k1 := key true r rfl
    rw [setP]
    cases sameN nm f
    · simp only [cond_false]; unfold sumF at *; simp only [List.map_cons, List.sum_cons]; omega
    · cases th
      · simp only [cond_true, cond_false]; unfold sumF at *; simp only [List.map_cons, List.sum_cons]; omega
      · simp only [cond_true]; unfold sumF at *; simp only [List.map_cons, List.sum_cons]; omega
theorem sum_setL (xs : List Fld) (nm v : List UInt8) : sumF (setL xs nm v) ≤ sumF xs + v.length + (nm.length + v.length) := by
  unfold setL
  rw [sumF_app]
  have h := sum_setP nm v false xs
  cases xs.any (sameN nm)
  · simp only [cond_false]; unfold sumF at *; simp; omega
  · simp only [cond_true]; have : sumF [] = 0 := rfl; omega
theorem len_setL (xs : List Fld) (nm v : List UInt8) : (setL xs nm v).length ≤ xs.length + 1 := by
  unfold setL; rw [List.length_append]
  have h1 := setP_le nm v false xs
  cases xs.any (sameN nm)
  · simp; omega
  · simp; omega
theorem sum_delL (xs : List Fld) (names : List (List UInt8)) : sumF (delL xs names) ≤ sumF xs := by
  unfold delL
  induction xs with
  | nil => exact Nat.le_refl _
  | cons f r ih =>
    rw [List.filter_cons]
    unfold sumF at *
    cases (!hasL names f.1)
    · simp only [Bool.false_eq_true, if_false, List.map_cons, List.sum_cons]; omega
    · simp only [if_true, List.map_cons, List.sum_cons]; omega
end Go.Proofs.YtgmmjhcklhajiaaGreatDoor
/- The names that go no further: the plain law. -/
namespace Go.Proofs.YtgmmjhcklhajiaaGreatDoor
open Go.RowKit

def connW : List UInt8 := [99, 111, 110, 110, 101, 99, 116, 105, 111, 110]
def hop9 : List (List UInt8) := [[99, 111, 110, 110, 101, 99, 116, 105, 111, 110], [107, 101, 101, 112, 45, 97, 108, 105, 118, 101], [112, 114, 111, 120, 121, 45, 99, 111, 110, 110, 101, 99, 116, 105, 111, 110], [116, 101], [116, 114, 97, 105, 108, 101, 114], [116, 114, 97, 110, 115, 102, 101, 114, 45, 101, 110, 99, 111, 100, 105, 110, 103], [117, 112, 103, 114, 97, 100, 101], [112, 114, 111, 120, 121, 45, 97, 117, 116, 104, 101, 110, 116, 105, 99, 97, 116, 101], [112, 114, 111, 120, 121, 45, 97, 117, 116, 104, 111, 114, 105, 122, 97, 116, 105, 111, 110]]
def hopP (acc : List (List UInt8)) (p : List UInt8) : List (List UInt8) := bif tokenL (lowerL p) && !acc.contains (lowerL p) then acc ++ [lowerL p] else acc
def hopV (acc : List (List UInt8)) (v : List UInt8) : List (List UInt8) := (splitL 44 v).1.foldl hopP acc
def hopVs (acc : List (List UInt8)) (vs : List (List UInt8)) : List (List UInt8) := vs.foldl hopV acc
def hopL (xs : List Fld) : List (List UInt8) := hopVs hop9 (valuesL xs connW)
def cleanL (xs : List Fld) : List Fld := delL xs (hopL xs)

theorem foldl_take {α β : Type} (f : β → α → β) (a : β) (ls : List α) (k : Nat) (h : k < ls.length) : (ls.take (k + 1)).foldl f a = f ((ls.take k).foldl f a) ls[k] := by
  rw [List.take_succ_eq_append_getElem h, List.foldl_append]; rfl
theorem hopP_le (acc : List (List UInt8)) (p : List UInt8) : (hopP acc p).length ≤ acc.length + 1 := by
  unfold hopP
  cases (tokenL (lowerL p) && !acc.contains (lowerL p)) <;> simp
theorem hopPs_le : ∀ (ps acc : List (List UInt8)), (ps.foldl hopP acc).length ≤ acc.length + ps.length
  | [], _ => Nat.le_refl _
  | p :: r, acc => by
    have h1 := hopP_le acc p
    have h2 := hopPs_le r (hopP acc p)
    rw [List.foldl_cons, List.length_cons]; omega
theorem hopVs_le : ∀ (vs acc : List (List UInt8)), (hopVs acc vs).length ≤ acc.length + 64 * vs.length
  | [], _ => Nat.le_refl _
  | v :: r, acc => by
    have h1 := hopPs_le (splitL 44 v).1 acc
    have h2 := hopVs_le r (hopV acc v)
    have h3 := split_few 44 v
    unfold hopVs at *
    unfold hopV at *
    rw [List.foldl_cons, List.length_cons]; omega
def Low (acc : List (List UInt8)) : Prop := ∀ a ∈ acc, lowerL a = a
theorem low9 : Low hop9 := by
  have h : hop9.all (fun a => lowerL a == a) = true := by decide
  intro a ha
  exact beq_iff_eq.1 (List.all_eq_true.1 h a ha)
theorem Low.step {acc : List (List UInt8)} (h : Low acc) (p : List UInt8) : Low (hopP acc p) := by
  unfold hopP
  cases (tokenL (lowerL p) && !acc.contains (lowerL p))
  · exact h
  · intro a ha
    rcases List.mem_append.1 ha with h1 | h1
    · exact h a h1
    · rw [List.mem_singleton.1 h1]; exact lower_twice p
theorem has_low {acc : List (List UInt8)} (h : Low acc) (p : List UInt8) : hasL acc p = acc.contains (lowerL p) := by
  unfold hasL
  rw [Bool.eq_iff_iff, List.any_eq_true, List.contains_iff_mem]
  constructor
  · rintro ⟨a, ha, e⟩
    rw [h a ha] at e
    rw [← beq_iff_eq.1 e]; exact ha
  · intro h1
    exact ⟨lowerL p, h1, by rw [lower_twice]; simp⟩
theorem hopP_sub (acc : List (List UInt8)) (p : List UInt8) : ∀ a ∈ acc, a ∈ hopP acc p := by
  intro a ha
  unfold hopP
  cases (tokenL (lowerL p) && !acc.contains (lowerL p))
  · exact ha
  · exact List.mem_append_left _ ha
theorem hopPs_sub : ∀ (ps acc : List (List UInt8)), ∀ a ∈ acc, a ∈ ps.foldl hopP acc
  | [], _, _, h => h
  | p :: r, acc, a, h => hopPs_sub r _ a (hopP_sub acc p a h)
theorem hopVs_sub : ∀ (vs acc : List (List UInt8)), ∀ a ∈ acc, a ∈ hopVs acc vs
  | [], _, _, h => h
  | _ :: r, acc, a, h => hopVs_sub r _ a (hopPs_sub _ acc a h)
theorem hop9_sub (xs : List Fld) : ∀ a ∈ hop9, a ∈ hopL xs := hopVs_sub _ _
theorem has_mem {names : List (List UInt8)} {a : List UInt8} (h : a ∈ names) : hasL names a = true := by
  unfold hasL; rw [List.any_eq_true]; exact ⟨a, h, by simp⟩
theorem get_clean (xs : List Fld) {a : List UInt8} (h : a ∈ hopL xs) : getL (cleanL xs) a = ([], false) := by
  unfold getL cleanL
  rw [values_delL, has_mem h]
  simp [Lib.join]
theorem hop_clean (xs : List Fld) : hopL (cleanL xs) = hop9 := by
  unfold hopL
  have : valuesL (cleanL xs) connW = [] := by
    unfold cleanL
    rw [values_delL, has_mem (hop9_sub xs connW (by decide))]; rfl
  rw [this]; rfl
theorem clean_clean (xs : List Fld) : cleanL (cleanL xs) = cleanL xs := by
  show delL (cleanL xs) (hopL (cleanL xs)) = _
  rw [hop_clean]
  unfold cleanL delL
  rw [List.filter_eq_self]
  intro f hf
  have h1 := (List.mem_filter.1 hf).2
  have h2 : hasL (hopL xs) f.1 = false := by simpa using h1
  cases h3 : hasL hop9 f.1
  · rfl
  · exfalso
    unfold hasL at h2 h3
    obtain ⟨a, ha, e⟩ := List.any_eq_true.1 h3
    rw [List.any_eq_false] at h2
    exact h2 a (hop9_sub xs a ha) e
end Go.Proofs.YtgmmjhcklhajiaaGreatDoor
/- What a 304 makes of an entry: the plain law. -/
namespace Go.Proofs.YtgmmjhcklhajiaaGreatDoor
open Go.RowKit

def own5 : List (List UInt8) := [[99, 111, 110, 116, 101, 110, 116, 45, 108, 101, 110, 103, 116, 104], [99, 111, 110, 116, 101, 110, 116, 45, 101, 110, 99, 111, 100, 105, 110, 103], [99, 111, 110, 116, 101, 110, 116, 45, 116, 121, 112, 101], [99, 111, 110, 116, 101, 110, 116, 45, 114, 97, 110, 103, 101], [118, 97, 114, 121]]
def dated2 : List (List UInt8) := [[97, 103, 101], [100, 97, 116, 101]]
/-- What a 304 brings. -/
def bringsL (rep : List Fld) : List Fld := delL rep (hopL rep ++ own5)
/-- The fields of an entry that is made new. -/
def withL (xs rep : List Fld) : List Fld := delL xs (dated2 ++ (bringsL rep).map (·.1)) ++ bringsL rep
theorem bringsL_le (rep : List Fld) : (bringsL rep).length ≤ rep.length := delL_le _ _
theorem delL_sum (xs : List Fld) (ns : List (List UInt8)) : sumF (delL xs ns) ≤ sumF xs := by
  unfold delL sumF
  induction xs with
  | nil => simp
  | cons x r ih =>
    rw [List.filter_cons, List.map_cons, List.sum_cons]
    split
    · rw [List.map_cons, List.sum_cons]; omega
    · omega
theorem delL_mem {xs : List Fld} {ns : List (List UInt8)} {f : Fld} (h : f ∈ delL xs ns) : f ∈ xs := (List.mem_filter.1 h).1

theorem hasL_app (a b : List (List UInt8)) (nm : List UInt8) : hasL (a ++ b) nm = (hasL a nm || hasL b nm) := by unfold hasL; exact List.any_append
theorem hasL_congr (ns : List (List UInt8)) {a b : List UInt8} (h : lowerL a = lowerL b) : hasL ns a = hasL ns b := by unfold hasL; rw [h]
theorem hasL_mem {ns : List (List UInt8)} {x nm : List UInt8} (h : x ∈ ns) (e : lowerL x = lowerL nm) : hasL ns nm = true := by
  unfold hasL; rw [List.any_eq_true]; exact ⟨x, h, by rw [e]; simp⟩
theorem delL_app (xs ys : List Fld) (ns : List (List UInt8)) : delL (xs ++ ys) ns = delL xs ns ++ delL ys ns := by unfold delL; exact List.filter_append ..
theorem delL_twice (xs : List Fld) (ns : List (List UInt8)) : delL (delL xs ns) ns = delL xs ns := by unfold delL; rw [List.filter_filter]; simp
theorem delL_all {bs : List Fld} {ns : List (List UInt8)} (h : ∀ f ∈ bs, hasL ns f.1 = true) : delL bs ns = [] := by
  unfold delL
  rw [List.filter_eq_nil_iff]
  intro f hf
  rw [h f hf]; simp
theorem with_twice (xs rep : List Fld) : withL (withL xs rep) rep = withL xs rep := by
  unfold withL
  rw [delL_app, delL_twice, delL_all (bs := bringsL rep), List.append_nil]
  intro f hf
  rw [hasL_app]
  rw [hasL_mem (ns := (bringsL rep).map (·.1)) (List.mem_map.2 ⟨f, hf, rfl⟩) rfl]
  simp
theorem with_none (xs : List Fld) : withL xs [] = delL xs dated2 := by
  have h : bringsL [] = [] := rfl
  unfold withL
  rw [h]; simp
theorem valuesL_app (xs ys : List Fld) (nm : List UInt8) : valuesL (xs ++ ys) nm = valuesL xs nm ++ valuesL ys nm := by unfold valuesL; rw [List.filter_append, List.map_append]
theorem valuesL_out {xs : List Fld} {nm : List UInt8} (h : ∀ f ∈ xs, (lowerL f.1 == lowerL nm) = false) : valuesL xs nm = [] := by
  unfold valuesL
  rw [List.filter_eq_nil_iff.2 (fun f hf => by rw [h f hf]; simp)]
  rfl
theorem valuesL_del_in {xs : List Fld} {ns : List (List UInt8)} {nm : List UInt8} (h : hasL ns nm = true) : valuesL (delL xs ns) nm = [] := by
  apply valuesL_out
  intro f hf
  have h2 := (List.mem_filter.1 hf).2
  cases e : (lowerL f.1 == lowerL nm)
  · rfl
  · rw [hasL_congr ns (beq_iff_eq.1 e), h] at h2
    simp at h2
theorem valuesL_del_out {xs : List Fld} {ns : List (List UInt8)} {nm : List UInt8} (h : hasL ns nm = false) : valuesL (delL xs ns) nm = valuesL xs nm := by
  unfold valuesL delL
  rw [List.filter_filter]
  congr 1
  apply List.filter_congr
  intro f _
  cases e : (lowerL f.1 == lowerL nm)
  · simp
  · rw [hasL_congr ns (beq_iff_eq.1 e), h]; simp
theorem has_brought (bs : List Fld) (nm : List UInt8) : hasL (bs.map (·.1)) nm = false → valuesL bs nm = [] := by
  intro h
  apply valuesL_out
  intro f hf
  cases e : (lowerL f.1 == lowerL nm)
  · rfl
  · rw [hasL_mem (List.mem_map.2 ⟨f, hf, rfl⟩) (beq_iff_eq.1 e)] at h
    cases h
theorem brought_has (bs : List Fld) (nm : List UInt8) : hasL (bs.map (·.1)) nm = true → ∃ f ∈ bs, lowerL f.1 = lowerL nm := by
  intro h
  unfold hasL at h
  obtain ⟨x, hx, e⟩ := List.any_eq_true.1 h
  obtain ⟨f, hf, rfl⟩ := List.mem_map.1 hx
  exact ⟨f, hf, beq_iff_eq.1 e⟩
theorem brings_not {rep : List Fld} {f : Fld} (h : f ∈ bringsL rep) : hasL (hopL rep ++ own5) f.1 = false := by
  have := (List.mem_filter.1 h).2
  simpa using this
/-- What is told of a name behind it. -/
theorem with_told (xs rep : List Fld) (nm : List UInt8) : valuesL (withL xs rep) nm = valuesL rep nm ∨ valuesL (withL xs rep) nm = valuesL xs nm ∨ (hasL dated2 nm = true ∧ valuesL (withL xs rep) nm = []) := by
  unfold withL
  rw [valuesL_app]
  cases hb : hasL ((bringsL rep).map (·.1)) nm
  · rw [has_brought _ _ hb, List.append_nil]
    cases hd : hasL dated2 nm
    · rw [valuesL_del_out (by rw [hasL_app, hb, hd]; rfl)]
      exact Or.inr (Or.inl rfl)
    · rw [valuesL_del_in (by rw [hasL_app, hd]; rfl)]
      exact Or.inr (Or.inr ⟨rfl, rfl⟩)
  · obtain ⟨f, hf, e⟩ := brought_has _ _ hb
    have h1 := brings_not hf
    rw [hasL_congr _ e] at h1
    rw [valuesL_del_in (by rw [hasL_app, hb]; simp), List.nil_append]
    exact Or.inl (valuesL_del_out h1)
theorem own5_low : ∀ nm ∈ own5, lowerL nm = nm := by
  have h : own5.all (fun a => lowerL a == a) = true := by decide
  intro a ha
  exact beq_iff_eq.1 (List.all_eq_true.1 h a ha)
theorem own5_dated : ∀ nm ∈ own5, hasL dated2 nm = false := by
  have h : own5.all (fun a => !hasL dated2 a) = true := by decide
  intro a ha
  have := List.all_eq_true.1 h a ha
  simpa using this
/-- The five names stay. -/
theorem with_own (xs rep : List Fld) (nm : List UInt8) (h : nm ∈ own5) : valuesL (withL xs rep) nm = valuesL xs nm := by
  have hb : hasL ((bringsL rep).map (·.1)) nm = false := by
    cases hb : hasL ((bringsL rep).map (·.1)) nm
    · rfl
    · obtain ⟨f, hf, e⟩ := brought_has _ _ hb
      have h1 := brings_not hf
      rw [hasL_congr _ e, hasL_app, hasL_mem h rfl] at h1
      simp at h1
  unfold withL
  rw [valuesL_app, has_brought _ _ hb, List.append_nil]
  exact valuesL_del_out (by rw [hasL_app, hb, own5_dated nm h]; rfl)
theorem with_len (xs rep : List Fld) : (withL xs rep).length ≤ xs.length + rep.length := by
  unfold withL
  rw [List.length_append]
  have := delL_le xs (dated2 ++ (bringsL rep).map (·.1))
  have := bringsL_le rep
  omega
theorem with_sum (xs rep : List Fld) : sumF (withL xs rep) ≤ sumF xs + sumF rep := by
  unfold withL
  rw [sumF_app]
  have h1 := delL_sum xs (dated2 ++ (bringsL rep).map (·.1))
  have h2 : sumF (bringsL rep) ≤ sumF rep := delL_sum _ _
  omega
theorem dated_is (nm : List UInt8) : hasL dated2 nm = ((lowerL nm == [97, 103, 101]) || (lowerL nm == [100, 97, 116, 101])) := by
  have h1 : lowerL [97, 103, 101] = [97, 103, 101] := by decide
  have h2 : lowerL [100, 97, 116, 101] = [100, 97, 116, 101] := by decide
  unfold hasL dated2
  simp only [List.any_cons, List.any_nil, Bool.or_false, h1, h2]
  congr 1
  · rw [Bool.eq_iff_iff, beq_iff_eq, beq_iff_eq]; exact eq_comm
  · rw [Bool.eq_iff_iff, beq_iff_eq, beq_iff_eq]; exact eq_comm
end Go.Proofs.YtgmmjhcklhajiaaGreatDoor
/- How long a reply is fresh: the laws, in plain words; no program in sight. -/
namespace Go.Proofs.YtgmmjhcklhajiaaGreatDoor
open Go.RowKit

theorem bnd_mm (n : Int) : bnd n = max 0 (min n 2147483648) := by unfold bnd; split; (· omega); split <;> omega
/-- How old it was when it was got. -/
def baseF (xs : List Fld) (asked got : Int) : Int := max (bif (whenF xs fDate got).2 then since (whenF xs fDate got).1 got else 0) (addB (numF (getL xs fAge).1) (since asked got))
theorem ageF_base (xs : List Fld) (asked got now : Int) : ageF xs asked got now = addB (baseF xs asked got) (since got now) := rfl
theorem baseF_in (xs : List Fld) (asked got : Int) : 0 ≤ baseF xs asked got ∧ baseF xs asked got ≤ 2147483648 := by
  unfold baseF
  have h1 := addB_lo (numF (getL xs fAge).1) (since asked got)
  have h2 := addB_hi (numF (getL xs fAge).1) (since asked got)
  have h3 := since_hi (whenF xs fDate got).1 got
  generalize addB (numF (getL xs fAge).1) (since asked got) = t at *
  generalize since (whenF xs fDate got).1 got = s at *
  cases (whenF xs fDate got).2 <;> simp only [cond_true, cond_false] <;> omega
theorem ageF_in (xs : List Fld) (asked got now : Int) : 0 ≤ ageF xs asked got now ∧ ageF xs asked got now ≤ 2147483648 := ⟨addB_lo _ _, addB_hi _ _⟩
theorem age_goes (xs : List Fld) (asked : Int) {got a b : Int} (ha : got ≤ a) (hb : a ≤ b) : ageF xs asked got b = addB (ageF xs asked got a) (since a b) := by
  rw [ageF_base, ageF_base]
  have := baseF_in xs asked got
  generalize baseF xs asked got = base at *
  unfold addB since
  simp only [bnd_mm]
  omega
theorem age_up (xs : List Fld) (asked : Int) {got a b : Int} (hb : a ≤ b) : ageF xs asked got a ≤ ageF xs asked got b := by
  rw [ageF_base, ageF_base]
  have := baseF_in xs asked got
  generalize baseF xs asked got = base at *
  unfold addB since
  simp only [bnd_mm]
  omega
theorem age_ahead (xs : List Fld) (asked got : Int) : ageF xs asked got (got - 1) = ageF xs asked got got := by
  rw [ageF_base, ageF_base]
  have := baseF_in xs asked got
  generalize baseF xs asked got = base at *
  unfold addB since
  simp only [bnd_mm]
  omega
theorem lifeR_in : ∀ l : List (Int × Bool), (∀ r ∈ l, 0 ≤ r.1 ∧ r.1 ≤ 2147483648) → 0 ≤ lifeR l ∧ lifeR l ≤ 2147483648
  | [], _ => by simp [lifeR]
  | r :: l, h => by
    have h1 := h r (by simp)
    have h2 := lifeR_in l (fun x hx => h x (by simp [hx]))
    rw [lifeR]
    cases r.2
    · exact h2
    · exact h1
theorem ruleF_in (none : Bool) (nm : List UInt8) (xs : List Fld) : 0 ≤ (ruleF none nm xs).1 ∧ (ruleF none nm xs).1 ≤ 2147483648 := by
  unfold ruleF
  cases findO (dlistL (valuesL xs fCC)) nm with
  | none => simp
  | some d =>
    simp only
    have h1 := numF_lo d.value
    have h2 := numF_hi d.value
    cases none
    · exact ⟨h1, h2⟩
    · simp
theorem surF_in (xs : List Fld) (dev : List UInt8) : 0 ≤ (surF xs dev).1 ∧ (surF xs dev).1 ≤ 2147483648 := ⟨bnd_lo _, bnd_hi _⟩
theorem expF_in (xs : List Fld) (got : Int) : 0 ≤ (expF xs got).1 ∧ (expF xs got).1 ≤ 2147483648 := by
  unfold expF
  have h1 := since_lo (bif (whenF xs fDate got).2 then (whenF xs fDate got).1 else got) (whenF xs fExp got).1
  have h2 := since_hi (bif (whenF xs fDate got).2 then (whenF xs fDate got).1 else got) (whenF xs fExp got).1
  cases (getL xs fExp).2 <;> cases (whenF xs fExp got).2 <;> simp only [cond_true, cond_false] <;> first | exact ⟨h1, h2⟩ | decide
theorem lifeF_in (xs : List Fld) (got : Int) (dev : List UInt8) : 0 ≤ lifeF xs got dev ∧ lifeF xs got dev ≤ 2147483648 := by
  unfold lifeF
  apply lifeR_in
  intro r hr
  simp only [List.mem_cons, List.not_mem_nil, or_false] at hr
  rcases hr with rfl | rfl | rfl | rfl | rfl
  · exact surF_in _ _
  · exact ruleF_in _ _ _
  · exact ruleF_in _ _ _
  · exact ruleF_in _ _ _
  · exact expF_in _ _
theorem fresh_back (xs : List Fld) (asked : Int) {got a b : Int} (dev : List UInt8) (hb : a ≤ b) (h : freshF xs asked got b dev = true) : freshF xs asked got a dev = true := by
  unfold freshF at *
  rw [decide_eq_true_eq] at *
  have := age_up xs asked (got := got) hb
  omega

/-! Fields of a name in the place of others. -/
def withoutL (xs : List Fld) (nm : List UInt8) (vals : List (List UInt8)) : List Fld := (xs.filter fun f => !(lowerL f.1 == lowerL nm)) ++ vals.map fun v => (nm, v)
theorem values_own (xs : List Fld) (nm : List UInt8) (vals : List (List UInt8)) : valuesL (withoutL xs nm vals) nm = vals := by
  unfold withoutL
  rw [valuesL_app, valuesL_out (xs := xs.filter fun f => !(lowerL f.1 == lowerL nm)) (fun f hf => by
    have := (List.mem_filter.1 hf).2
    simpa using this), List.nil_append]
  unfold valuesL
  rw [List.filter_map, List.map_map]
  have : (fun f : Fld => lowerL f.1 == lowerL nm) ∘ (fun v => (nm, v)) = fun _ => true := by funext v; simp
  rw [this, List.filter_eq_self.2 (fun _ _ => rfl)]
  show List.map (fun v => v) vals = vals
  simp
theorem values_oth (xs : List Fld) (nm nm2 : List UInt8) (vals : List (List UInt8)) (h : (lowerL nm == lowerL nm2) = false) : valuesL (withoutL xs nm vals) nm2 = valuesL xs nm2 := by
  unfold withoutL
  rw [valuesL_app, valuesL_out (xs := vals.map fun v => (nm, v)) (fun f hf => by
    obtain ⟨v, _, rfl⟩ := List.mem_map.1 hf
    exact h), List.append_nil]
  unfold valuesL
  rw [List.filter_filter]
  congr 1
  apply List.filter_congr
  intro f _
  cases e : (lowerL f.1 == lowerL nm2)
  · rfl
  · cases e2 : (lowerL f.1 == lowerL nm)
    · rfl
    · rw [← beq_iff_eq.1 e2, e] at h; cases h
theorem getL_oth (xs : List Fld) (nm nm2 : List UInt8) (vals : List (List UInt8)) (h : (lowerL nm == lowerL nm2) = false) : getL (withoutL xs nm vals) nm2 = getL xs nm2 := by
  unfold getL; rw [values_oth xs nm nm2 vals h]
theorem whenF_oth (xs : List Fld) (nm nm2 : List UInt8) (vals : List (List UInt8)) (got : Int) (h : (lowerL nm == lowerL nm2) = false) : whenF (withoutL xs nm vals) nm2 got = whenF xs nm2 got := by
  unfold whenF; rw [getL_oth xs nm nm2 vals h]
theorem age_oth (xs : List Fld) (nm : List UInt8) (vals : List (List UInt8)) (asked got now : Int) (h1 : (lowerL nm == lowerL fDate) = false) (h2 : (lowerL nm == lowerL fAge) = false) : ageF (withoutL xs nm vals) asked got now = ageF xs asked got now := by
  unfold ageF; rw [whenF_oth xs nm fDate vals got h1, getL_oth xs nm fAge vals h2]
theorem ctlF_oth (xs : List Fld) (nm : List UInt8) (vals : List (List UInt8)) (dev : List UInt8) (h : (lowerL nm == lowerL fSC) = false) : ctlF (withoutL xs nm vals) dev = ctlF xs dev := by
  unfold ctlF; rw [values_oth xs nm fSC vals h]
theorem life_told (xs : List Fld) (got : Int) (dev : List UInt8) (h : (ctlF xs dev).hasAge = true) : lifeF xs got dev = bnd (ctlF xs dev).age := by
  unfold lifeF
  rw [lifeR]
  unfold surF
  simp only [h, cond_true]

/-! What 'max-age=' and a number say. -/
def maxAgeT (n : Int) : List UInt8 := sMaxAge ++ 61 :: Lib.decDigits (bnd n).toNat
theorem dgt_is {c : UInt8} (h : dgt c = true) : wordb c = true ∧ blanks.contains c = false ∧ (c.toNat == 34) = false ∧ (c.toNat == 44) = false ∧ (c.toNat == 59) = false ∧ (c.toNat == 92) = false ∧ (c.toNat == 43) = false := by
  have h1 : c = UInt8.ofNat c.toNat := (UInt8.ofNat_toNat).symm
  unfold dgt at h
  simp at h
  rw [h1]
  generalize c.toNat = n at h
  have h2 : n = 48 ∨ n = 49 ∨ n = 50 ∨ n = 51 ∨ n = 52 ∨ n = 53 ∨ n = 54 ∨ n = 55 ∨ n = 56 ∨ n = 57 := by omega
  rcases h2 with rfl | rfl | rfl | rfl | rfl | rfl | rfl | rfl | rfl | rfl <;> decide
theorem runQ_plain (c : UInt8) : ∀ l : List UInt8, (∀ x ∈ l, (x.toNat == 34) = false ∧ (x.toNat == c.toNat) = false) → runQ c (false, false) l = some (false, false)
  | [], _ => rfl
  | x :: r, h => by
    have h1 := h x (by simp)
    have hst : stepQ c (false, false) x = some (false, false) := by unfold stepQ; simp only [cond_false, Bool.false_and, h1.1, h1.2]
    rw [runQ, hst]
    exact runQ_plain c r (fun y hy => h y (by simp [hy]))
theorem trim_none (l : List UInt8) (h : ∀ c ∈ l, blanks.contains c = false) : trimL l = l := by
  unfold trimL Lib.trimS Lib.trimLeftS Lib.trimRightS
  have h1 : l.reverse.dropWhile (fun x => blanks.contains x) = l.reverse := dw_none _ _ (fun c hc => h c (by simpa using hc))
  rw [h1, List.reverse_reverse]
  exact dw_none _ _ (fun c hc => h c hc)
theorem cut_at (a ds : List UInt8) (c : UInt8) (h : ∀ x ∈ a, (c == x) = false) : Lib.cut (a ++ c :: ds) [c] = (a, ds, true) := by
  have key : Lib.index (a ++ c :: ds) [c] = (a.length : Int) := by
    induction a with
    | nil => simp [Lib.index, List.isPrefixOf]
    | cons x r ih =>
      have hx := h x (by simp)
      have hr := ih (fun y hy => h y (by simp [hy]))
      rw [List.cons_append, Lib.index]
      have hp : List.isPrefixOf [c] (x :: (r ++ c :: ds)) = false := by simp [List.isPrefixOf]; intro e; subst e; simp at hx
      rw [hp, hr]
      have : ((r.length : Int) == -1) = false := by rw [beq_eq_false_iff_ne]; omega
      rw [this]
      simp
  unfold Lib.cut
  rw [key, if_pos (by omega)]
  simp
theorem cut_not (a : List UInt8) (c : UInt8) (h : ∀ x ∈ a, (c == x) = false) : Lib.cut a [c] = (a, [], false) := by
  have key : Lib.index a [c] = -1 := by
    induction a with
    | nil => simp [Lib.index]
    | cons x r ih =>
      have hx := h x (by simp)
      have hr := ih (fun y hy => h y (by simp [hy]))
      rw [Lib.index]
      have hp : List.isPrefixOf [c] (x :: r) = false := by simp [List.isPrefixOf]; intro e; subst e; simp at hx
      rw [hp, hr]
      simp
  unfold Lib.cut
  rw [key, if_neg (by omega)]
theorem eq_nat {c x : UInt8} (h : (x.toNat == c.toNat) = false) : (c == x) = false := by
  rw [beq_eq_false_iff_ne] at *
  intro e; subst e; exact h rfl
theorem word_tells (nm v : List UInt8) (hn : ∀ x ∈ nm, wordb x = true ∧ (x.toNat == 34) = false ∧ (x.toNat == 44) = false ∧ (x.toNat == 59) = false ∧ (x.toNat == 61) = false ∧ blanks.contains x = false) (hn0 : nm ≠ []) (hv : ∀ x ∈ v, wordb x = true ∧ (x.toNat == 34) = false ∧ (x.toNat == 44) = false ∧ (x.toNat == 59) = false ∧ blanks.contains x = false) (hv0 : v ≠ []) :
    slistL [nm ++ 61 :: v] = [⟨lowerL nm, v, true, []⟩] := by
  have hall : ∀ x ∈ nm ++ 61 :: v, (x.toNat == 34) = false ∧ (x.toNat == 44) = false ∧ (x.toNat == 59) = false ∧ blanks.contains x = false := by
    intro x hx
    rw [List.mem_append, List.mem_cons] at hx
    rcases hx with h | rfl | h
    · have := hn x h; exact ⟨this.2.1, this.2.2.1, this.2.2.2.1, this.2.2.2.2.2⟩
    · decide
    · have := hv x h; exact ⟨this.2.1, this.2.2.1, this.2.2.2.1, this.2.2.2.2⟩
  have htr : trimL (nm ++ 61 :: v) = nm ++ 61 :: v := trim_none _ (fun x hx => (hall x hx).2.2.2)
  have hne : nm ++ 61 :: v ≠ [] := by simp
  have g44 : good1 44 (nm ++ 61 :: v) := ⟨runQ_plain 44 _ (fun x hx => ⟨(hall x hx).1, (hall x hx).2.1⟩), htr, hne⟩
  have g59 : good1 59 (nm ++ 61 :: v) := ⟨runQ_plain 59 _ (fun x hx => ⟨(hall x hx).1, (hall x hx).2.2.1⟩), htr, hne⟩
  have tn : tokenL nm = true := by
    unfold tokenL
    rw [Bool.and_eq_true, List.all_eq_true]
    exact ⟨fun x hx => (hn x hx).1, by cases nm with | nil => exact absurd rfl hn0 | cons _ _ => rfl⟩
  have tv : tokenL v = true := by
    unfold tokenL
    rw [Bool.and_eq_true, List.all_eq_true]
    exact ⟨fun x hx => (hv x hx).1, by cases v with | nil => exact absurd rfl hv0 | cons _ _ => rfl⟩
  have hcut : Lib.cut (nm ++ 61 :: v) [61] = (nm, v, true) := cut_at nm v 61 (fun x hx => eq_nat (hn x hx).2.2.2.2.1)
  have hs : saidO (nm ++ 61 :: v) = some ⟨lowerL nm, v, true, []⟩ := by
    unfold saidO
    rw [hcut]
    simp only [tn, tv, Bool.not_true, Bool.and_false, cond_false]
  have hsay : sayS (nm ++ 61 :: v) = [⟨lowerL nm, v, true, []⟩] := by
    unfold sayS
    rw [split_one rfl rfl g59]
    have h0 : ((0 : Int) != 0) = false := rfl
    simp only [h0, cond_false, hs]
    rfl
  unfold slistL
  rw [List.flatMap_cons, List.flatMap_nil, List.append_nil, split_one rfl rfl g44]
  show List.flatMap sayS [nm ++ 61 :: v] = _
  rw [List.flatMap_cons, List.flatMap_nil, List.append_nil, hsay]
theorem mine_one (d : Dir) (dev : List UInt8) (h : d.for_ = []) : mineL [d] dev = [d] := by
  have hown : ownB dev d = false := by
    unfold ownB
    rw [h]
    cases dev with
    | nil => rfl
    | cons _ _ => rfl
  unfold mineL
  rw [List.filter_cons]
  have : mineB [d] dev d = true := by
    unfold mineB
    rw [hown, h]
    simp [hown]
  rw [this]
  rfl
theorem maxAge_tells (n : Int) (dev : List UInt8) : ofL [maxAgeT n] dev = ⟨false, false, false, true, bnd n, 0⟩ := by
  obtain ⟨d1, d2, d3⟩ := dec_all (bnd n).toNat
  have hd : ∀ x ∈ Lib.decDigits (bnd n).toNat, dgt x = true := fun x hx => List.all_eq_true.1 d1 x hx
  unfold ofL maxAgeT
  rw [word_tells sMaxAge (Lib.decDigits (bnd n).toNat) (by
      have h : sMaxAge.all (fun x => wordb x && !(x.toNat == 34) && !(x.toNat == 44) && !(x.toNat == 59) && !(x.toNat == 61) && !blanks.contains x) = true := by decide
      intro x hx
      have := List.all_eq_true.1 h x hx
      simpa [and_assoc] using this) (by decide) (fun x hx => by
      have := dgt_is (hd x hx)
      exact ⟨this.1, this.2.2.1, this.2.2.2.1, this.2.2.2.2.1, this.2.1⟩) d3, mine_one _ _ rfl]
  have hlow : lowerL sMaxAge = sMaxAge := by decide
  rw [hlow]
  have hcut : Lib.cut (Lib.decDigits (bnd n).toNat) [43] = (Lib.decDigits (bnd n).toNat, [], false) := cut_not _ _ (fun x hx => eq_nat (dgt_is (hd x hx)).2.2.2.2.2.2)
  have hok : deltaOk (Lib.decDigits (bnd n).toNat) = true := by
    unfold deltaOk
    rw [d1]
    cases hq : Lib.decDigits (bnd n).toNat with
    | nil => exact absurd hq d3
    | cons _ _ => rfl
  have hag : agesL (Lib.decDigits (bnd n).toNat) = (bnd n, 0) := by
    unfold agesL
    rw [hcut]
    have h0 : deltaOk [] = false := rfl
    simp only [hok, h0, beq_self_eq_true, Bool.true_and, cond_true, cond_false]
    rw [d2, Int.toNat_of_nonneg (bnd_lo n), bnd_bnd]
  have f1 : firstV [(⟨sMaxAge, Lib.decDigits (bnd n).toNat, true, []⟩ : Dir)] noStore = none := rfl
  have f2 : firstV [(⟨sMaxAge, Lib.decDigits (bnd n).toNat, true, []⟩ : Dir)] sRemote = none := rfl
  have f3 : firstV [(⟨sMaxAge, Lib.decDigits (bnd n).toNat, true, []⟩ : Dir)] sContent = none := rfl
  have f4 : firstV [(⟨sMaxAge, Lib.decDigits (bnd n).toNat, true, []⟩ : Dir)] sMaxAge = some (Lib.decDigits (bnd n).toNat) := rfl
  unfold ctlL
  rw [f1, f2, f3, f4]
  simp only [hag]
  rfl
/-- With its own max-age a reply's life is that. -/
theorem life_maxAge (xs : List Fld) (n got : Int) (dev : List UInt8) : lifeF (withoutL xs fSC [maxAgeT n]) got dev = bnd n := by
  have h : ctlF (withoutL xs fSC [maxAgeT n]) dev = ⟨false, false, false, true, bnd n, 0⟩ := by
    unfold ctlF
    rw [values_own, maxAge_tells]
  rw [life_told _ _ _ (by rw [h]), h, bnd_bnd]
theorem life_maxAge2 (xs : List Fld) (n got : Int) (dev nm : List UInt8) (vals : List (List UInt8)) (hc : (lowerL nm == lowerL fSC) = false) (h : (ctlF xs dev) = ⟨false, false, false, true, bnd n, 0⟩) : ctlF (withoutL xs nm vals) dev = ⟨false, false, false, true, bnd n, 0⟩ ∧ lifeF (withoutL xs nm vals) got dev = bnd n := by
  have h2 : ctlF (withoutL xs nm vals) dev = ⟨false, false, false, true, bnd n, 0⟩ := by rw [ctlF_oth xs nm vals dev hc, h]
  exact ⟨h2, by rw [life_told _ _ _ (by rw [h2]), h2, bnd_bnd]⟩
end Go.Proofs.YtgmmjhcklhajiaaGreatDoor
/- Slices of fields that came in, opened. -/
namespace Go.Proofs.YtgmmjhcklhajiaaGreatDoor
open Go.ChangeShapes Go.WideShapes Go.RowKit
set_option maxRecDepth 100000

section
variable {H : Type} {enc : TypeId × Value → H} {W : World}

/-- A slice of fields that came in. -/
theorem open_flds {fuel : Nat} {cs : List Value} {x : DataW H × List MemPlace} (h : DataW.trod enc Tryz.prog W 0 (fun _ => true) true fuel 22 cs = some x) (hr : Reach 22 x.1) :
    ∃ A n c xs, cs = [.slice A n c] ∧ Rd A n 2 (fldsV xs) W ∧ n * 32 ≤ reachBytes ∧ ∀ f ∈ xs, f.1.length ≤ reachBytes ∧ f.2.length ≤ reachBytes := by
  rcases Go.Deep.open_slice Tryz.underlying22 h with ⟨rfl, rfl⟩ | ⟨a, len, cap, m, n, D, Pl, rfl, hb, hl, hm, hmm, rfl, hi⟩
  · exact ⟨none, 0, 0, [], rfl, Rd.nil, by decide, by simp⟩
  · simp only [if_true] at hmm
    subst hmm
    have hc2 : Tryz.prog.cellsOf 55 = 2 := by kernel_rfl
    have hc1 : Tryz.prog.cellsOf 9 = 1 := by kernel_rfl
    have key : ∀ i, i < len → ∃ f : Fld, W.cell? (a.add (i * 2)) = some (.string ⟨f.1.toArray⟩) ∧ W.cell? (a.add (i * 2 + 1)) = some (.string ⟨f.2.toArray⟩) ∧ D i = .agg [.lit (.string f.1), .lit (.string f.2)] := by
      intro i hi'
      obtain ⟨cs', hcs, ht⟩ := hi i (by omega)
      rw [hc2] at hcs
      obtain ⟨_, hlen, hat⟩ := World.cells?_some hcs
      obtain ⟨ys, n', _, hx, _, hyl, hg⟩ := DataW.trod_struct Tryz.underlying55 ht
      obtain ⟨u, v, rfl⟩ := two_of cs' hlen
      obtain ⟨y0, y1, rfl⟩ := two_of ys hyl
      have g0 : DataW.trod enc Tryz.prog W 0 (fun _ => true) true n' 9 (([u, v].drop 0).take (Tryz.prog.cellsOf 9)) = some y0 := hg 0 _ rfl
      have g1 : DataW.trod enc Tryz.prog W 0 (fun _ => true) true n' 9 (([u, v].drop 1).take (Tryz.prog.cellsOf 9)) = some y1 := hg 1 _ rfl
      rw [hc1] at g0 g1
      obtain ⟨s0, e0, z0, _⟩ := DataW.trod_string Tryz.underlying9 (cs := [u]) (x := y0) (by simpa using g0)
      obtain ⟨s1, e1, z1, _⟩ := DataW.trod_string Tryz.underlying9 (cs := [v]) (x := y1) (by simpa using g1)
      have e0' : u = .string s0 := (List.cons.inj e0).1
      have e1' : v = .string s1 := (List.cons.inj e1).1
      subst e0'; subst e1'; subst z0; subst z1
      have a0 : W.cell? ((a.add (i * 2)).add 0) = some (.string s0) := hat 0 (by omega)
      have a1 : W.cell? ((a.add (i * 2)).add 1) = some (.string s1) := hat 1 (by omega)
      have hD : D i = .agg [.lit (.string s0.data.toList), .lit (.string s1.data.toList)] := (Prod.mk.inj hx).1
      clear hx g0 g1 e0 e1 hat hcs ht hg
      refine ⟨(s0.data.toList, s1.data.toList), ?_, ?_, hD⟩
      · rw [Go.Deep.add_add] at a0
        show _ = some (Value.string ⟨s0.data.toList.toArray⟩)
        rw [str_of]; exact a0
      · rw [Go.Deep.add_add] at a1
        show _ = some (Value.string ⟨s1.data.toList.toArray⟩)
        rw [str_of]; exact a1
    obtain ⟨xs, hll, hls⟩ := exists_listL len _ key
    refine ⟨some a, len, _, xs, rfl, ⟨by rw [fldsV_len, hll], fun hn => ?_⟩, ?_, ?_⟩
    · have hspot : a.spot = none := by
        have := World.cell?_spot (hls 0 (by omega)).1
        simpa [Addr.add] using this
      obtain ⟨b, o, spot⟩ := a
      simp only at hspot
      subst hspot
      have e : ∀ j, (⟨b, o, none⟩ : Addr).add j = ⟨b, o + j, none⟩ := fun j => by unfold Addr.add; split <;> simp_all
      refine ⟨b, o, rfl, ?_, fun j u hu => ?_⟩
      · rcases Nat.lt_or_ge b W.heap.size with h' | h'
        · exact h'
        · have := (hls 0 (by omega)).1
          simp [World.cell?, Addr.add, Array.getElem?_eq_none h'] at this
      · have hj : j < xs.length * 2 := by have := (List.getElem?_eq_some_iff.1 hu).1; rwa [fldsV_len] at this
        have hk : j / 2 < xs.length := by omega
        have h1 := hls (j / 2) hk
        have h2 := fldsV_at xs (j / 2) hk
        rw [e, e] at h1
        rcases Nat.mod_two_eq_zero_or_one j with h0 | h0
        · have ej : j / 2 * 2 = j := by omega
          rw [ej] at h1 h2
          rw [h2.1] at hu
          cases hu
          exact h1.1
        · have ej : j / 2 * 2 + 1 = j := by omega
          rw [ej] at h1 h2
          rw [h2.2] at hu
          cases hu
          exact h1.2.1
    · have := reach_len Tryz.underlying22 hr
      rw [List.length_map, List.length_range, show Tryz.prog.bytesOf 55 = 32 from by kernel_rfl] at this
      exact this
    · intro f hf'
      obtain ⟨i, hi', e⟩ := List.mem_iff_getElem.1 hf'
      have h2 := (hls i hi').2.2
      rw [e] at h2
      have h3 := reach_elem Tryz.underlying22 hr (List.mem_map.2 ⟨i, List.mem_range.2 (by omega), h2⟩)
      exact ⟨reach_str (reach_part Tryz.underlying55 h3 (j := 0) rfl rfl), reach_str (reach_part Tryz.underlying55 h3 (j := 1) rfl rfl)⟩
end
end Go.Proofs.YtgmmjhcklhajiaaGreatDoor
