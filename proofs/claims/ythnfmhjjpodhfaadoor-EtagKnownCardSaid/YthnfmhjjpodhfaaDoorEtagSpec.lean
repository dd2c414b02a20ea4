/- What etag.List computes: plain. -/
import Derived.Test.YthnfmhjjpodhfaaDoorEtagA
import Derived.Test.YthnfmhjjpodhfaaDoorStaysSpec
namespace Go.Proofs.YthnfmhjjpodhfaaDoor

def entOk (l : List UInt8) : Bool := (ent ⟨l.toArray⟩).right
/-- etag.List. -/
def etagL (l : List UInt8) : List (List UInt8) × Int := bif (splitL 44 l).2 == 0 && (!(splitL 44 l).1.isEmpty && (splitL 44 l).1.all entOk) then ((splitL 44 l).1, 0) else ([], 4)
theorem split_len (l : List UInt8) : (splitL 44 l).1.length ≤ 64 := by
  unfold splitL
  cases ((44 : UInt8).toNat == 34 || (44 : UInt8).toNat == 92)
  · cases splP 44 false false [] [] l with
    | none => simp [splitE]
    | some ls =>
      simp only [splitE, cond_false]
      cases h : decide (64 < ls.length)
      · simp at h ⊢; exact h
      · simp
  · simp
end Go.Proofs.YthnfmhjjpodhfaaDoor
