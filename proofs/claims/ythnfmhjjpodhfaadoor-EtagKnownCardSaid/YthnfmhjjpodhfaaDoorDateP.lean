/- Dates: what date.Put says, in plain words. -/
import Derived.Test.YthnfmhjjpodhfaaDoorDateOk
import Derived.Test.YthnfmhjjpodhfaaDoorDate9
namespace Go.Proofs.YthnfmhjjpodhfaaDoor
open Go.RowKit
set_option maxRecDepth 100000

/-- The month of a day of a year, and what is left. -/
def dmon (y : Int) : Nat → Int → Int → Int × Int
  | 0, r, m => (r, m)
  | f + 1, r, m => if dlong y m ≤ r then dmon y f (r - dlong y m) (m + 1) else (r, m)
def dputD (d s : Int) : List UInt8 :=
  ((ddays.getD (d % 7).toNat []).take 3) ++ [44, 32] ++ dtwo ((dmon (dyearO d).1 12 (dyearO d).2 1).1 + 1) ++ [32] ++ ((dmonths.drop (3 * (dmon (dyearO d).1 12 (dyearO d).2 1).2.toNat - 3)).take 3) ++ [32] ++ dtwo ((dyearO d).1 / 100) ++ dtwo (dyearO d).1 ++ [32] ++ dtwo (s / 3600) ++ [58] ++ dtwo (s / 60 % 60) ++ [58] ++ dtwo (s % 60) ++ [32, 71, 77, 84]
/-- A tick's date. -/
def dputL (t : Int) : List UInt8 := if t < 0 ∨ 253402300799 < t then [] else dputD (t / 86400) (t % 86400)
theorem dputL_1000 : dputL 1000 = [84, 104, 117, 44, 32, 48, 49, 32, 74, 97, 110, 32, 49, 57, 55, 48, 32, 48, 48, 58, 49, 54, 58, 52, 48, 32, 71, 77, 84] := by decide +kernel
theorem dyear_end : ∀ (f : Nat) (d y : Int), 1970 ≤ y → d < 365 * (y - 1970) + 365 * f → dahead y ≤ d → dahead (dyear f d y) ≤ d ∧ d < dahead (dyear f d y + 1) ∧ 1970 ≤ dyear f d y
  | 0, d, y, hy, hf, ha => by have := dahead_ge y hy; omega
  | f + 1, d, y, hy, hf, ha => by
    rw [dyear]
    split
    · rename_i h
      exact dyear_end f d (y + 1) (by omega) (by omega) h
    · exact ⟨ha, by omega, hy⟩
theorem dahead_leap (y : Int) : dahead (y + 1) - dahead y = 365 + (if dleap y = true then 1 else 0) := by
  unfold dahead dleap
  by_cases h4 : y % 4 = 0
  · by_cases h100 : y % 100 = 0
    · by_cases h400 : y % 400 = 0
      · simp [h4, h100, h400]; omega
      · simp [h4, h100, h400]; omega
    · simp [h4, h100]; omega
  · have h400 : ¬ y % 400 = 0 := by omega
    simp [h4, h400]; omega
theorem dmons_12 (y : Int) : dmons y 12 = 365 + (if dleap y = true then 1 else 0) := by
  simp only [dmons, dlong]
  cases dleap y <;> simp
/-- The year of a day, and what is left of it. -/
theorem dyearO_ok (d : Int) (hd : 0 ≤ d ∧ d ≤ 2932896) : 1970 ≤ (dyearO d).1 ∧ (dyearO d).1 ≤ 9999 ∧ 0 ≤ (dyearO d).2 ∧ (dyearO d).2 < dmons (dyearO d).1 12 := by
  have h := dyear_end 9000 d (1970 + d / 366) (by omega) (by omega) (by have := (dahead_ge (1970 + d / 366) (by omega)).2; omega)
  unfold dyearO
  simp only
  generalize dyear 9000 d (1970 + d / 366) = Y at *
  have hl := dahead_leap Y
  rw [dmons_12]
  have hY : Y ≤ 9999 := by
    have h10 : dahead 10000 = 2932897 := by decide
    rcases Int.lt_or_le Y 10000 with h' | h'
    · omega
    · have hm : dahead 10000 ≤ dahead Y := by unfold dahead; omega
      omega
  exact ⟨h.2.2, hY, by omega, by omega⟩
end Go.Proofs.YthnfmhjjpodhfaaDoor
