/- A split's pieces are few; an error leaves none. -/
import Derived.Test.YtfoabdpfadgafaaDoorSplitSpec
namespace Go.Proofs.YtfoabdpfadgafaaDoor
open Go.RowKit

theorem split_few (sep : UInt8) (l : List UInt8) : (splitL sep l).1.length ≤ 64 := by
  unfold splitL
  cases (sep.toNat == 34 || sep.toNat == 92)
  · cases splP sep false false [] [] l with
    | none => simp [splitE]
    | some ls =>
      simp only [splitE, cond_false]
      cases h : decide (64 < ls.length)
      · simp at h ⊢; exact h
      · simp
  · simp
theorem split_bad (sep : UInt8) (l : List UInt8) : (splitL sep l).2 = 0 ∨ (splitL sep l).1 = [] := by
  unfold splitL
  cases (sep.toNat == 34 || sep.toNat == 92)
  · cases splP sep false false [] [] l with
    | none => right; rfl
    | some ls =>
      simp only [splitE, cond_false]
      cases h : decide (64 < ls.length)
      · left; rfl
      · right; rfl
  · right; rfl
end Go.Proofs.YtfoabdpfadgafaaDoor
