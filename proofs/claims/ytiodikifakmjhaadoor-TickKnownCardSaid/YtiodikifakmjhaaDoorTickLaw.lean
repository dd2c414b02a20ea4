/- The walks of the laws of layer 2. -/
import Derived.Test.YtiodikifakmjhaaDoorTickR
import Derived.OpenShut
namespace Go.Proofs.YtiodikifakmjhaaDoor
open Go.RowKit

theorem deltaV_yes {l : List UInt8} (h : deltaOk l = true) : deltaV l = .tuple #[.int .i64 (bnd (val l)), .bool true] := by unfold deltaV; rw [h]; rfl
theorem deltaV_no {l : List UInt8} (h : deltaOk l = false) : deltaV l = .tuple #[.int .i64 0, .bool false] := by unfold deltaV; rw [h]; rfl

set_option maxHeartbeats 2000000 in
theorem tworks_any (w : World) (ht : TabW w) :
    Calls Tryd.prog 12 #[] w fun e w' => e = .returned (.bool true) ∧ Below w.heap.size w w' := by
  have h1 : deltaV (ByteArray.mk #[48, 48, 55]).data.toList = .tuple #[.int .i64 7, .bool true] := by rfl
  have h2 : addB 2147483647 2 = 2147483648 := by decide
  have h3 : subB 5 3 = 2 := by decide
  have h4 : since 3 5 = 2 := by decide
  have h5 : putS 10 = ⟨#[49, 48]⟩ := by unfold putS; rw [show (bnd 10).toNat = 10 from by decide, Lib.decDigits, dif_neg (by decide), Lib.decDigits, dif_pos (by decide)]; rfl
  have H1 := Lib.hid h1; have H2 := Lib.hid h2; have H3 := Lib.hid h3; have H4 := Lib.hid h4; have H5 := Lib.hid h5; have HT := Lib.hid ht
  clear h1 h2 h3 h4 h5 ht
  go_enter Tryd.func12, Tryd.ntmps12
  go_wp2_with (first | (go_at_call 13; refine (delta_any _ _ (by decide)).mono ?_; rintro e w' ⟨rfl, rfl⟩; rw [H1.out]) | (go_at_call 17; refine (add_any _ _ _).mono ?_; rintro e w' ⟨rfl, rfl⟩; rw [H2.out]) | (go_at_call 21; refine (less_any _ _ _).mono ?_; rintro e w' ⟨rfl, rfl⟩; rw [H3.out]) | (go_at_call 10; refine (since_any _ _ _ (by decide) (by decide) (by decide) (by decide)).mono ?_; rintro e w' ⟨rfl, rfl⟩; rw [H4.out]) | (go_at_call 15; refine (put_any _ _ HT.out).mono ?_; rintro e w' ⟨rfl, hb⟩; rw [H5.out]))
  go_ret
  exact ⟨rfl, hb⟩

set_option maxHeartbeats 2000000 in
theorem tickSums_any (a b : Int) (w : World) (ht : TabW w) :
    Calls Tryd.prog 6 #[.int .i64 a, .int .i64 b] w fun e w' => e = .returned (.bool true) ∧ Below w.heap.size w w' := by
  have HT := Lib.hid ht; clear ht
  go_enter Tryd.func6, Tryd.ntmps6
  go_wp2_with (first | (go_at_call 18; refine (of_any _ _).mono ?_; rintro e w' ⟨rfl, rfl⟩) | (go_at_call 19; refine (rof_any _ _).mono ?_; rintro e w' ⟨rfl, rfl⟩) | (go_at_call 17; refine (add_any _ _ _).mono ?_; rintro e w' ⟨rfl, rfl⟩) | (go_at_call 20; refine (radd_any _ _ _).mono ?_; rintro e w' ⟨rfl, rfl⟩) | (go_at_call 21; refine (less_any _ _ _).mono ?_; rintro e w' ⟨rfl, rfl⟩) | (go_at_call 22; refine (rless_any _ _ _).mono ?_; rintro e w' ⟨rfl, rfl⟩) | (go_at_call 12; refine (tworks_any _ HT.out).mono ?_; rintro e w' ⟨rfl, hb⟩))
  go_ret
  exact ⟨rfl, hb⟩

set_option maxHeartbeats 2000000 in
theorem tickSince_any (a b : Int) (wa : (Lit.int .i64 a).wf = true) (wb : (Lit.int .i64 b).wf = true) (w : World) (ht : TabW w) :
    Calls Tryd.prog 3 #[.int .i64 a, .int .i64 b] w fun e w' => e = .returned (.bool true) ∧ Below w.heap.size w w' := by
  obtain ⟨a1, a2⟩ := bounds_i64 wa; obtain ⟨b1, b2⟩ := bounds_i64 wb
  have HT := Lib.hid ht; clear ht wa wb
  have k1 := fun w => since_any a b w a1 a2 b1 b2
  have k2 := fun w => rsince_any a b w a1 a2 b1 b2
  have K1 := Lib.hid k1; have K2 := Lib.hid k2; clear k1 k2
  go_enter Tryd.func3, Tryd.ntmps3
  go_wp2_with (first | (go_at_call 10; refine (K1.out _).mono ?_; rintro e w' ⟨rfl, rfl⟩) | (go_at_call 11; refine (K2.out _).mono ?_; rintro e w' ⟨rfl, rfl⟩) | (go_at_call 12; refine (tworks_any _ HT.out).mono ?_; rintro e w' ⟨rfl, hb⟩))
  go_ret
  exact ⟨rfl, hb⟩

set_option maxHeartbeats 2000000 in
theorem tickTexts_any (s : ByteArray) (n : Int) (w : World) (ht : TabW w) :
    Calls Tryd.prog 4 #[.string s, .int .i64 n] w fun e w' => e = .returned (.bool true) ∧ Below w.heap.size w w' := by
  have hB := Below.refl w.heap.size w
  have HT := Lib.hid ht; clear ht
  cases hl : decide (3000 < (s.size : Int))
  · have hs : s.size ≤ 1000000 := by simp at hl; omega
    have k1 := fun w => delta_any s w hs
    have k2 := fun w => rdelta_any s w hs
    cases ho : deltaOk s.data.toList
    · rw [deltaV_no ho] at k1 k2
      have K1 := Lib.hid k1; have K2 := Lib.hid k2; clear k1 k2 ho
      go_enter Tryd.func4, Tryd.ntmps4
      go_wp2_with (first | (go_at_call 13; refine (K1.out _).mono ?_; rintro e w' ⟨rfl, rfl⟩) | (go_at_call 14; refine (K2.out _).mono ?_; rintro e w' ⟨rfl, rfl⟩) | (go_at_call 15; refine (put_any _ _ (HT.out.on hB)).mono ?_; rintro e w' ⟨rfl, hb⟩; replace hB := bt hB hb; clear hb) | (go_at_call 16; refine (rput_any _ _).mono ?_; rintro e w' ⟨rfl, hb⟩; replace hB := bt hB hb; clear hb) | (go_at_call 12; refine (tworks_any _ (HT.out.on hB)).mono ?_; rintro e w' ⟨rfl, hb⟩; replace hB := bt hB hb; clear hb))
      go_ret
      exact ⟨rfl, hB⟩
    · rw [deltaV_yes ho] at k1 k2
      have K1 := Lib.hid k1; have K2 := Lib.hid k2; clear k1 k2 ho
      go_enter Tryd.func4, Tryd.ntmps4
      go_wp2_with (first | (go_at_call 13; refine (K1.out _).mono ?_; rintro e w' ⟨rfl, rfl⟩) | (go_at_call 14; refine (K2.out _).mono ?_; rintro e w' ⟨rfl, rfl⟩) | (go_at_call 15; refine (put_any _ _ (HT.out.on hB)).mono ?_; rintro e w' ⟨rfl, hb⟩; replace hB := bt hB hb; clear hb) | (go_at_call 16; refine (rput_any _ _).mono ?_; rintro e w' ⟨rfl, hb⟩; replace hB := bt hB hb; clear hb) | (go_at_call 12; refine (tworks_any _ (HT.out.on hB)).mono ?_; rintro e w' ⟨rfl, hb⟩; replace hB := bt hB hb; clear hb))
      go_ret
      exact ⟨rfl, hB⟩
  · go_enter Tryd.func4, Tryd.ntmps4
    go_wp2_with (go_at_call 12; refine (tworks_any _ (HT.out.on hB)).mono ?_; rintro e w' ⟨rfl, hb⟩; replace hB := bt hB hb; clear hb)
    go_ret
    exact ⟨rfl, hB⟩

theorem putS_small (n : Int) : (putS n).size ≤ 1000000 := by
  unfold putS
  rw [Lib.size_eq]
  show (Lib.decDigits _).length ≤ _
  rw [Lib.decDigits_eq, List.length_map, List.length_range]
  have h1 := bnd_hi n; have h0 := bnd_lo n
  have key : ∀ (k u : Nat), u < 10 ^ (k + 1) → Lib.nDigits u ≤ k + 1 := by
    intro k
    induction k with
    | zero => intro u h; rw [Lib.nDigits_small (by simpa using h)]; omega
    | succ k ih =>
      intro u h
      by_cases hu : u < 10
      · rw [Lib.nDigits_small hu]; omega
      · rw [Lib.nDigits_big hu]
        have := ih (u / 10) (by rw [Nat.pow_succ] at h; omega)
        omega
  have := key 10 (bnd n).toNat (by have : (10 : Nat) ^ (10 + 1) = 100000000000 := rfl; omega)
  omega

set_option maxHeartbeats 2000000 in
theorem tickBack_any (a b : Int) (w : World) (ht : TabW w) :
    Calls Tryd.prog 7 #[.int .i64 a, .int .i64 b] w fun e w' => e = .returned (.bool true) ∧ Below w.heap.size w w' := by
  have hB := Below.refl w.heap.size w
  have HT := Lib.hid ht; clear ht
  have k1 := fun w => delta_any (putS a) w (putS_small a)
  rw [delta_put] at k1
  have K1 := Lib.hid k1; clear k1
  have q1 := bnd_lo a; have q2 := bnd_hi a
  have q3 := bnd_bnd a
  have Q3 := Lib.hid q3; clear q3
  have t1 : decide (0 ≤ bnd a) = true := by simp; omega
  have t2 : decide (bnd a ≤ 2147483648) = true := by simp; omega
  cases hab : decide (b < a)
  · have hle : bnd a ≤ bnd b := by simp at hab; unfold bnd; split <;> split <;> (try split) <;> (try split) <;> omega
    have t3 : decide (bnd a ≤ bnd b) = true := by simp; omega
    go_enter Tryd.func7, Tryd.ntmps7
    go_wp2_with (first | (go_at_call 15; refine (put_any _ _ (HT.out.on hB)).mono ?_; rintro e w' ⟨rfl, hb⟩; replace hB := bt hB hb; clear hb) | (go_at_call 13; refine (K1.out _).mono ?_; rintro e w' ⟨rfl, rfl⟩) | (go_at_call 18; refine (of_any _ _).mono ?_; rintro e w' ⟨rfl, rfl⟩; try rw [Q3.out]) | (go_at_call 12; refine (tworks_any _ (HT.out.on hB)).mono ?_; rintro e w' ⟨rfl, hb⟩; replace hB := bt hB hb; clear hb))
    go_ret
    exact ⟨rfl, hB⟩
  · go_enter Tryd.func7, Tryd.ntmps7
    go_wp2_with (first | (go_at_call 15; refine (put_any _ _ (HT.out.on hB)).mono ?_; rintro e w' ⟨rfl, hb⟩; replace hB := bt hB hb; clear hb) | (go_at_call 13; refine (K1.out _).mono ?_; rintro e w' ⟨rfl, rfl⟩) | (go_at_call 18; refine (of_any _ _).mono ?_; rintro e w' ⟨rfl, rfl⟩; try rw [Q3.out]) | (go_at_call 12; refine (tworks_any _ (HT.out.on hB)).mono ?_; rintro e w' ⟨rfl, hb⟩; replace hB := bt hB hb; clear hb))
    go_ret
    exact ⟨rfl, hB⟩

theorem bnd_mm (n : Int) : bnd n = max 0 (min n 2147483648) := by unfold bnd; split; (· omega); split <;> omega
set_option maxHeartbeats 2000000 in
theorem tickRing_any (a b c : Int) (w : World) (ht : TabW w) :
    Calls Tryd.prog 8 #[.int .i64 a, .int .i64 b, .int .i64 c] w fun e w' => e = .returned (.bool true) ∧ Below w.heap.size w w' := by
  have hB := Below.refl w.heap.size w
  have HT := Lib.hid ht; clear ht
  have f1 : addB b a = addB a b := by unfold addB; rw [Int.add_comm]
  have f2 : addB a (addB b c) = addB (addB a b) c := by unfold addB; simp only [bnd_mm]; omega
  have f3 : decide (bnd a ≤ addB a b) = true := by simp only [decide_eq_true_eq]; unfold addB; simp only [bnd_mm]; omega
  have f4 : decide (subB (addB a b) b ≤ bnd a) = true := by simp only [decide_eq_true_eq]; unfold subB addB; simp only [bnd_mm]; omega
  have f5 : decide (bnd a ≤ addB (subB a b) b) = true := by simp only [decide_eq_true_eq]; unfold subB addB; simp only [bnd_mm]; omega
  have f6 : addB a 0 = bnd a := by unfold addB; rw [show bnd 0 = 0 from rfl, Int.add_zero, bnd_bnd]
  have F1 := Lib.hid f1; have F2 := Lib.hid f2; have F6 := Lib.hid f6
  clear f1 f2 f6
  go_enter Tryd.func8, Tryd.ntmps8
  go_wp2_with (first | (go_at_call 17; refine (add_any _ _ _).mono ?_; rintro e w' ⟨rfl, rfl⟩; first | rw [F1.out] | rw [F2.out] | rw [F6.out] | skip) | (go_at_call 21; refine (less_any _ _ _).mono ?_; rintro e w' ⟨rfl, rfl⟩) | (go_at_call 18; refine (of_any _ _).mono ?_; rintro e w' ⟨rfl, rfl⟩) | (go_at_call 12; refine (tworks_any _ (HT.out.on hB)).mono ?_; rintro e w' ⟨rfl, hb⟩; replace hB := bt hB hb; clear hb))
  go_ret
  exact ⟨rfl, hB⟩

theorem since_back (a b : Int) (h : a ≤ b) : since b a = 0 := by
  unfold since; rw [bnd_mm]; omega
theorem since_add (x y z : Int) (h : x ≤ y) (h2 : y ≤ z) : addB (since x y) (since y z) = since x z := by
  unfold addB since; simp only [bnd_mm]; omega
set_option maxHeartbeats 4000000 in
theorem tickWays_any (a b c : Int) (wa : (Lit.int .i64 a).wf = true) (wb : (Lit.int .i64 b).wf = true) (wc : (Lit.int .i64 c).wf = true) (w : World) (ht : TabW w) :
    Calls Tryd.prog 5 #[.int .i64 a, .int .i64 b, .int .i64 c] w fun e w' => e = .returned (.bool true) ∧ Below w.heap.size w w' := by
  obtain ⟨a1, a2⟩ := bounds_i64 wa; obtain ⟨b1, b2⟩ := bounds_i64 wb; obtain ⟨c1, c2⟩ := bounds_i64 wc
  have hB := Below.refl w.heap.size w
  have HT := Lib.hid ht; clear ht wa wb wc
  obtain ⟨x, y, z, hxy, hyz, hx1, hx2, hy1, hy2, hz1, hz2, hx, hy, hz⟩ : ∃ x y z : Int, x ≤ y ∧ y ≤ z ∧ -9223372036854775808 ≤ x ∧ x ≤ 9223372036854775807 ∧ -9223372036854775808 ≤ y ∧ y ≤ 9223372036854775807 ∧ -9223372036854775808 ≤ z ∧ z ≤ 9223372036854775807 ∧
      (if c < if b < a then b else a then c else if b < a then b else a) = x ∧ max (min a b) (min (max a b) c) = y ∧ (if (if a < b then b else a) < c then c else if a < b then b else a) = z := by
    have e1 : (if c < if b < a then b else a then c else if b < a then b else a) = min (min a b) c := by split <;> split at * <;> omega
    have e2 : (if (if a < b then b else a) < c then c else if a < b then b else a) = max (max a b) c := by split <;> split at * <;> omega
    rw [e1, e2]
    refine ⟨_, _, _, ?_, ?_, ?_, ?_, ?_, ?_, ?_, ?_, rfl, rfl, rfl⟩ <;> omega
  have t1 : (addB (since x y) (since y z) == since x z) = true := by rw [since_add x y z hxy hyz]; simp
  have t2 : since z x = 0 := since_back x z (by omega)
  have t3 : since y y = 0 := since_back y y (by omega)
  have T2 := Lib.hid t2; have T3 := Lib.hid t3; clear t2 t3
  have sxy := fun w => since_any x y w hx1 hx2 hy1 hy2
  have syz := fun w => since_any y z w hy1 hy2 hz1 hz2
  have sxz := fun w => since_any x z w hx1 hx2 hz1 hz2
  have szx := fun w => since_any z x w hz1 hz2 hx1 hx2
  have syy := fun w => since_any y y w hy1 hy2 hy1 hy2
  have S1 := Lib.hid sxy; have S2 := Lib.hid syz; have S3 := Lib.hid sxz; have S4 := Lib.hid szx; have S5 := Lib.hid syy
  clear sxy syz sxz szx syy
  go_enter Tryd.func5, Tryd.ntmps5
  go_upto_region 3 with (fail)
  clear hx hy hz
  go_wp2_with fail
  refine (S1.out _).mono ?_
  rintro e w' ⟨rfl, rfl⟩
  go_wp2_with fail
  refine (S2.out _).mono ?_
  rintro e w' ⟨rfl, rfl⟩
  go_wp2_with (go_at_call 17; refine (add_any _ _ _).mono ?_; rintro e w' ⟨rfl, rfl⟩)
  refine (S3.out _).mono ?_
  rintro e w' ⟨rfl, rfl⟩
  go_wp2_with fail
  refine (S4.out _).mono ?_
  rintro e w' ⟨rfl, rfl⟩
  rw [T2.out]
  go_wp2_with fail
  refine (S5.out _).mono ?_
  rintro e w' ⟨rfl, rfl⟩
  rw [T3.out]
  go_wp2_with (go_at_call 12; refine (tworks_any _ (HT.out.on hB)).mono ?_; rintro e w' ⟨rfl, hb⟩; replace hB := bt hB hb; clear hb)
  go_ret
  exact ⟨rfl, hB⟩

set_option maxHeartbeats 4000000 in
theorem tickKnown_any (w : World) (ht : TabW w) :
    Calls Tryd.prog 9 #[] w fun e w' => e = .returned (.bool true) ∧ Below w.heap.size w w' := by
  have hB := Below.refl w.heap.size w
  have HT := Lib.hid ht; clear ht
  have D1 := Lib.hid (show deltaV (ByteArray.mk #[57, 57, 57, 57, 57, 57, 57, 57, 57, 57, 57, 57, 57, 57, 57, 57, 57, 57, 57, 57]).data.toList = .tuple #[.int .i64 2147483648, .bool true] by rfl)
  have D2 := Lib.hid (show deltaV (ByteArray.mk #[]).data.toList = .tuple #[.int .i64 0, .bool false] by rfl)
  have D3 := Lib.hid (show deltaV (ByteArray.mk #[43, 49]).data.toList = .tuple #[.int .i64 0, .bool false] by rfl)
  have D4 := Lib.hid (show deltaV (ByteArray.mk #[49, 32]).data.toList = .tuple #[.int .i64 0, .bool false] by rfl)
  have P1 := Lib.hid (show putS 2147483649 = ⟨#[50, 49, 52, 55, 52, 56, 51, 54, 52, 56]⟩ by unfold putS; rw [show (bnd 2147483649).toNat = 2147483648 from by decide, Lib.decDigits_eq, Lib.nDigits_unique 9 2147483648 (by decide) (by decide)]; rfl)
  have P2 := Lib.hid (show putS (-1) = ⟨#[48]⟩ by unfold putS; rw [show (bnd (-1)).toNat = 0 from by decide, Lib.decDigits, dif_pos (by decide)]; rfl)
  have O1 := Lib.hid (show bnd (-5) = 0 by decide)
  have O2 := Lib.hid (show bnd 2147483648 = 2147483648 by decide)
  have O3 := Lib.hid (show bnd 2147483649 = 2147483648 by decide)
  have O4 := Lib.hid (show bnd 9223372036854775807 = 2147483648 by decide)
  have A1 := Lib.hid (show addB 2147483647 1 = 2147483648 by decide)
  have A2 := Lib.hid (show addB (-5) 7 = 7 by decide)
  have L1 := Lib.hid (show subB 3 5 = 0 by decide)
  have L2 := Lib.hid (show subB 5 (-3) = 5 by decide)
  have S1 := Lib.hid (show since (-9223372036854775808) 9223372036854775807 = 2147483648 by decide)
  have S2 := Lib.hid (show since 5 3 = 0 by decide)
  go_enter Tryd.func9, Tryd.ntmps9
  go_wp2_with (first | (go_at_call 13; refine (delta_any _ _ (by decide)).mono ?_; rintro e w' ⟨rfl, rfl⟩; simp only [D1.out, D2.out, D3.out, D4.out]) | (go_at_call 15; refine (put_any _ _ (HT.out.on hB)).mono ?_; rintro e w' ⟨rfl, hb⟩; replace hB := bt hB hb; clear hb; simp only [P1.out, P2.out]) | (go_at_call 18; refine (of_any _ _).mono ?_; rintro e w' ⟨rfl, rfl⟩; simp only [O1.out, O2.out, O3.out, O4.out]) | (go_at_call 17; refine (add_any _ _ _).mono ?_; rintro e w' ⟨rfl, rfl⟩; simp only [A1.out, A2.out]) | (go_at_call 21; refine (less_any _ _ _).mono ?_; rintro e w' ⟨rfl, rfl⟩; simp only [L1.out, L2.out]) | (go_at_call 10; refine (since_any _ _ _ (by decide) (by decide) (by decide) (by decide)).mono ?_; rintro e w' ⟨rfl, rfl⟩; simp only [S1.out, S2.out]) | (go_at_call 12; refine (tworks_any _ (HT.out.on hB)).mono ?_; rintro e w' ⟨rfl, hb⟩; replace hB := bt hB hb; clear hb))
  go_ret
  exact ⟨rfl, hB⟩
end Go.Proofs.YtiodikifakmjhaaDoor
