/- Dates: the walk of tick (printed by wip/tools/date5.py). -/
import Derived.Test.YthnfmhjjpodhfaaDoorDate4
import Derived.Deep.RegionHeld3
namespace Go.Proofs.YthnfmhjjpodhfaaDoor
open Go.RowKit
set_option maxRecDepth 100000

/-- What a date's pieces can be. -/
structure MomOk (m : Mom) : Prop where
  wd : 0 ≤ m.wd ∧ m.wd ≤ 6
  day : 0 ≤ m.day ∧ m.day ≤ 9999
  month : 0 ≤ m.month ∧ m.month ≤ 13
  year : 0 ≤ m.year ∧ m.year ≤ 9999
  hour : 0 ≤ m.hour ∧ m.hour ≤ 9999
  minute : 0 ≤ m.minute ∧ m.minute ≤ 9999
  second : 0 ≤ m.second ∧ m.second ≤ 9999
  two : m.two = true → m.year ≤ 99
theorem dlong_le (y m : Int) : 28 ≤ dlong y m ∧ dlong y m ≤ 31 := by
  unfold dlong
  split
  · split <;> omega
  · split <;> omega
theorem dmons_le (y : Int) : ∀ k, 0 ≤ dmons y k ∧ dmons y k ≤ 31 * k
  | 0 => by simp [dmons]
  | k + 1 => by
    have ih := dmons_le y k
    have := dlong_le y (k + 1)
    rw [dmons]; omega
theorem dyear_ge : ∀ (f : Nat) (d y : Int), y ≤ dyear f d y ∧ dyear f d y ≤ y + f
  | 0, d, y => by rw [dyear]; omega
  | f + 1, d, y => by
    rw [dyear]
    split
    · have := dyear_ge f d (y + 1); omega
    · omega
theorem MomAt.drewN {mb : Nat} {m : Mom} {w : World} (h : MomAt mb m w) (q : Nat) : MomAt mb m (w.drewN q) := h
theorem ButB.drewN {mb : Nat} {w w' : World} (h : ButB mb w w') (q : Nat) : ButB mb w (w'.drewN q) := h
def TickPost (mb : Nat) (w : World) (r : Int × Bool) (e : Ending) (w' : World) : Prop := e = .returned (.tuple #[.int .i64 r.1, .bool r.2]) ∧ ButB mb w w'
end Go.Proofs.YthnfmhjjpodhfaaDoor
