/- Dates: the walks of leap, long, ahead, year, two. -/
import Derived.Test.YthnfmhjjpodhfaaDoorDate1
namespace Go.Proofs.YthnfmhjjpodhfaaDoor
open Go.RowKit
set_option maxRecDepth 100000

set_option maxHeartbeats 2000000 in
theorem dleap_any (y : Int) (hy : 0 ≤ y ∧ y ≤ 100000) (w : World) :
    Calls Tryd.prog 42 #[.int .i64 y] w fun e w' => e = .returned (.bool (dleap y)) ∧ w' = w := by
  have e4 : y.tmod 4 = y % 4 := Int.tmod_eq_emod_of_nonneg hy.1
  have e100 : y.tmod 100 = y % 100 := Int.tmod_eq_emod_of_nonneg hy.1
  have e400 : y.tmod 400 = y % 400 := Int.tmod_eq_emod_of_nonneg hy.1
  obtain ⟨R, hR⟩ : ∃ R, dleap y = R := ⟨_, rfl⟩
  rw [hR]
  unfold dleap at hR
  have HR := Lib.hid hR
  clear hR
  by_cases h4 : y % 4 = 0
  · by_cases h100 : y % 100 = 0
    · by_cases h400 : y % 400 = 0
      · have hx : R = true := by rw [← HR.out]; simp [h4, h100, h400]
        subst hx
        clear HR
        go_enter Tryd.func42, Tryd.ntmps42
        go_wp2
        go_ret
        exact ⟨rfl, rfl⟩
      · have hx : R = false := by rw [← HR.out]; simp [h4, h100, h400]
        subst hx
        clear HR
        go_enter Tryd.func42, Tryd.ntmps42
        go_wp2
        go_ret
        exact ⟨by first | rfl | simp [h400], rfl⟩
    · have hx : R = true := by rw [← HR.out]; simp [h4, h100]
      subst hx
      clear HR
      go_enter Tryd.func42, Tryd.ntmps42
      go_wp2
      go_ret
      exact ⟨by first | rfl | simp [h100], rfl⟩
  · have h400 : ¬ y % 400 = 0 := by omega
    have hx : R = false := by rw [← HR.out]; simp [h4, h400]
    subst hx
    clear HR
    go_enter Tryd.func42, Tryd.ntmps42
    go_wp2
    go_ret
    exact ⟨by first | rfl | simp [h400], rfl⟩
set_option maxHeartbeats 2000000 in
theorem dlong_any (y m : Int) (hy : 0 ≤ y ∧ y ≤ 100000) (w : World) :
    Calls Tryd.prog 29 #[.int .i64 y, .int .i64 m] w fun e w' => e = .returned (.int .i64 (dlong y m)) ∧ w' = w := by
  by_cases h2 : m = 2
  · subst h2
    have hx : dlong y 2 = if dleap y = true then 29 else 28 := by unfold dlong; rw [if_pos rfl]
    have k := dleap_any y hy w
    rw [hx]
    generalize dleap y = b at *
    have K := Lib.hid k
    clear k hx
    cases b
    · go_enter Tryd.func29, Tryd.ntmps29
      go_wp2_with fail
      (with_reducible refine K.out.mono ?_)
      rintro e w1 ⟨rfl, rfl⟩
      go_wp2
      go_ret
      exact ⟨rfl, rfl⟩
    · go_enter Tryd.func29, Tryd.ntmps29
      go_wp2_with fail
      (with_reducible refine K.out.mono ?_)
      rintro e w1 ⟨rfl, rfl⟩
      go_wp2
      go_ret
      exact ⟨rfl, rfl⟩
  · by_cases h4 : m = 4 ∨ m = 6 ∨ m = 9 ∨ m = 11
    · have hx : dlong y m = 30 := by unfold dlong; rw [if_neg h2, if_pos h4]
      rw [hx]
      clear hx h2
      rcases h4 with rfl | rfl | rfl | rfl
      all_goals
        go_enter Tryd.func29, Tryd.ntmps29
        go_wp2
        go_ret
        exact ⟨rfl, rfl⟩
    · have hx : dlong y m = 31 := by unfold dlong; rw [if_neg h2, if_neg h4]
      rw [hx]
      have n4 : ¬ m = 4 := fun h => h4 (by simp [h])
      have n6 : ¬ m = 6 := fun h => h4 (by simp [h])
      have n9 : ¬ m = 9 := fun h => h4 (by simp [h])
      have n11 : ¬ m = 11 := fun h => h4 (by simp [h])
      clear hx h4
      go_enter Tryd.func29, Tryd.ntmps29
      go_wp2
      go_ret
      exact ⟨rfl, rfl⟩
set_option maxHeartbeats 2000000 in
theorem dahead_any (y : Int) (hy : 1970 ≤ y ∧ y ≤ 100000) (w : World) :
    Calls Tryd.prog 41 #[.int .i64 y] w fun e w' => e = .returned (.int .i64 (dahead y)) ∧ w' = w := by
  obtain ⟨R, hR⟩ : ∃ R, dahead y = R := ⟨_, rfl⟩
  rw [hR]
  unfold dahead at hR
  have e1 : (y - 1).tdiv 4 = (y - 1) / 4 := Int.tdiv_eq_ediv_of_nonneg (by omega)
  have e2 : (y - 1).tdiv 100 = (y - 1) / 100 := Int.tdiv_eq_ediv_of_nonneg (by omega)
  have e3 : (y - 1).tdiv 400 = (y - 1) / 400 := Int.tdiv_eq_ediv_of_nonneg (by omega)
  have w0 : IntKind.i64.wrap (y - 1) = y - 1 := by rw [IntKind.wrap_i64]; omega
  have w1 : IntKind.i64.wrap (y - 1970) = y - 1970 := by rw [IntKind.wrap_i64]; omega
  have w2 : IntKind.i64.wrap (365 * (y - 1970)) = 365 * (y - 1970) := by rw [IntKind.wrap_i64]; omega
  obtain ⟨a, ha⟩ : ∃ a, (y - 1) / 4 = a := ⟨_, rfl⟩
  obtain ⟨b, hb⟩ : ∃ b, (y - 1) / 100 = b := ⟨_, rfl⟩
  obtain ⟨c, hc⟩ : ∃ c, (y - 1) / 400 = c := ⟨_, rfl⟩
  rw [ha] at e1 hR; rw [hb] at e2 hR; rw [hc] at e3 hR
  have u1 : IntKind.i64.wrap a = a := by rw [IntKind.wrap_i64]; omega
  have u2 : IntKind.i64.wrap b = b := by rw [IntKind.wrap_i64]; omega
  have u3 : IntKind.i64.wrap c = c := by rw [IntKind.wrap_i64]; omega
  have v1 : IntKind.i64.wrap (365 * (y - 1970) + a) = 365 * (y - 1970) + a := by rw [IntKind.wrap_i64]; omega
  have v2 : IntKind.i64.wrap (365 * (y - 1970) + a - b) = 365 * (y - 1970) + a - b := by rw [IntKind.wrap_i64]; omega
  have v3 : IntKind.i64.wrap (365 * (y - 1970) + a - b + c) = 365 * (y - 1970) + a - b + c := by rw [IntKind.wrap_i64]; omega
  have v4 : IntKind.i64.wrap (365 * (y - 1970) + a - b + c - 492) = 365 * (y - 1970) + a - b + c - 492 := by rw [IntKind.wrap_i64]; omega
  have v5 : IntKind.i64.wrap (365 * (y - 1970) + a - b + c - 492 + 19) = 365 * (y - 1970) + a - b + c - 492 + 19 := by rw [IntKind.wrap_i64]; omega
  have v6 : IntKind.i64.wrap (365 * (y - 1970) + a - b + c - 492 + 19 - 4) = 365 * (y - 1970) + a - b + c - 492 + 19 - 4 := by rw [IntKind.wrap_i64]; omega
  have HR := Lib.hid hR
  clear ha hb hc hR
  rw [← HR.out]
  go_enter Tryd.func41, Tryd.ntmps41
  go_wp2
  go_ret
  exact ⟨rfl, rfl⟩
set_option maxHeartbeats 4000000 in
theorem dyear_any (d : Int) (hd : 0 ≤ d ∧ d ≤ 3000000) (w : World) :
    Calls Tryd.prog 28 #[.int .i64 d] w fun e w' => e = .returned (.tuple #[.int .i64 (dyearO d).1, .int .i64 (dyearO d).2]) ∧ w' = w := by
  obtain ⟨R, hR⟩ : ∃ R, dyear 9000 d (1970 + d / 366) = R := ⟨_, rfl⟩
  have hO : dyearO d = (R, d - dahead R) := by unfold dyearO; rw [hR]
  rw [hO]
  have e1 : d.tdiv 366 = d / 366 := Int.tdiv_eq_ediv_of_nonneg hd.1
  obtain ⟨a, ha⟩ : ∃ a, d / 366 = a := ⟨_, rfl⟩
  rw [ha] at e1 hR
  have hab : 0 ≤ a ∧ a ≤ 9000 := by omega
  have w0 : IntKind.i64.wrap a = a := by rw [IntKind.wrap_i64]; omega
  have w1 : IntKind.i64.wrap (1970 + a) = 1970 + a := by rw [IntKind.wrap_i64]; omega
  have hinv0 : dahead (1970 + a) ≤ d := by have := (dahead_ge (1970 + a) (by omega)).2; omega
  have HR := Lib.hid hR
  have HI := Lib.hid hinv0
  clear hR ha hO hinv0
  go_enter Tryd.func28, Tryd.ntmps28
  go_wp2_with fail
  go_loopw [2] (fun v wr => ∃ (y : Int) (f : Nat), v = .int .i64 y ∧ 1970 ≤ y ∧ y ≤ 90000 ∧ Hid (dahead y ≤ d) ∧ Hid (dyear f d y = R) ∧ Hid (d < 365 * (y - 1970) + 365 * f) ∧ wr = w) (fun v _ => 100000 - (intD v).toNat)
  case atStart => exact ⟨1970 + a, 9000, rfl, by omega, by omega, HI, HR, Lib.hid (by omega), rfl⟩
  case round =>
    obtain ⟨y, f, rfl, hy1, hy2, HA, HY, HF, rfl⟩ := hrel
    have hy3 : y ≤ 12000 := by have := (dahead_ge y hy1).1; have := HA.out; omega
    have k1 := dahead_any (y + 1) (by omega) wr
    have k2 := dahead_any y (by omega) wr
    have w2 : IntKind.i64.wrap (y + 1) = y + 1 := by rw [IntKind.wrap_i64]; omega
    have hge := dahead_ge y hy1
    have hge1 := dahead_ge (y + 1) (by omega)
    by_cases hle : dahead (y + 1) ≤ d
    · have hnext : ∃ f', dyear f' d (y + 1) = R ∧ d < 365 * (y + 1 - 1970) + 365 * f' := by
        cases f with
        | zero => have := HF.out; omega
        | succ f =>
          refine ⟨f, ?_, by have := HF.out; omega⟩
          have := HY.out
          rw [dyear, if_pos hle] at this
          exact this
      obtain ⟨f', hn1, hn2⟩ := hnext
      have HN := Lib.hid (And.intro hn1 (And.intro hn2 hle))
      have t1 : decide (dahead (y + 1) ≤ d) = true := by simpa using hle
      have K1 := Lib.hid k1
      clear k1 k2 hge hge1 hn1 hn2 hle HY HF
      go_wp2_with fail
      (with_reducible refine K1.out.mono ?_)
      rintro e w1 ⟨rfl, rfl⟩
      go_wp2
      go_roundw
      case rel => exact ⟨y + 1, f', rfl, by omega, by omega, Lib.hid HN.out.2.2, Lib.hid HN.out.1, Lib.hid HN.out.2.1, trivial⟩
      case measure => simp [intD]; omega
    · have hyR : y = R := by
        have := HY.out
        cases f with
        | zero => exact this
        | succ f => rw [dyear, if_neg hle] at this; exact this
      subst hyR
      have t1 : decide (dahead (y + 1) ≤ d) = false := by simpa using hle
      have w3 : IntKind.i64.wrap (d - dahead y) = d - dahead y := by rw [IntKind.wrap_i64]; omega
      have K1 := Lib.hid k1
      have K2 := Lib.hid k2
      clear k1 k2 hge hge1 hle HY HF
      go_wp2_with fail
      (with_reducible refine K1.out.mono ?_)
      rintro e w1 ⟨rfl, rfl⟩
      go_wp2_with fail
      (with_reducible refine K2.out.mono ?_)
      rintro e w1 ⟨rfl, rfl⟩
      go_wp2
      go_ret2
      exact ⟨rfl, rfl⟩
end Go.Proofs.YthnfmhjjpodhfaaDoor
