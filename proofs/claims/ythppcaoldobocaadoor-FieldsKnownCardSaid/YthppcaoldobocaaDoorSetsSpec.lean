/- What a name has behind setting it and taking it out: the plain law. -/
import Derived.Test.YthppcaoldobocaaDoorSet04
import Derived.Test.YthppcaoldobocaaDoorDel04
import Derived.Test.YthppcaoldobocaaDoorGet
namespace Go.Proofs.YthppcaoldobocaaDoor
open Go.RowKit

theorem values_app (a b : List Fld) (nm : List UInt8) : valuesL (a ++ b) nm = valuesL a nm ++ valuesL b nm := by unfold valuesL; simp
theorem values_cons (f : Fld) (r : List Fld) (nm : List UInt8) : valuesL (f :: r) nm = bif sameN nm f then f.2 :: valuesL r nm else valuesL r nm := by
  unfold valuesL
  rw [List.filter_cons]
  show (if sameN nm f = true then _ else _ : List Fld).map _ = _
  cases sameN nm f <;> simp
theorem values_setP (nm v : List UInt8) : ∀ (th : Bool) (xs : List Fld), valuesL (setP nm v th xs) nm = bif th then [] else bif xs.any (sameN nm) then [v] else []
  | th, [] => by cases th <;> rfl
  | th, f :: r => by
    have ih := fun t => values_setP nm v t r
    rw [setP, List.any_cons]
    cases h : sameN nm f <;> cases th <;> simp only [cond_true, cond_false, Bool.true_or, Bool.false_or]
    · rw [values_cons, h, cond_false, ih]; rfl
    · rw [values_cons, h, cond_false, ih]; rfl
    · rw [values_cons, show sameN nm (f.1, v) = sameN nm f from rfl, h, cond_true, ih]; rfl
    · rw [ih]; rfl
theorem values_setL (xs : List Fld) (nm v : List UInt8) : valuesL (setL xs nm v) nm = [v] := by
  unfold setL
  rw [values_app, values_setP]
  cases xs.any (sameN nm)
  · have : sameN nm (nm, v) = true := by unfold sameN; simp
    simp only [cond_false, List.nil_append, values_cons, this, cond_true]
    rfl
  · rfl
theorem get_setL (xs : List Fld) (nm v : List UInt8) : getL (setL xs nm v) nm = (v, true) := by
  unfold getL; rw [values_setL]; simp [Lib.join]
theorem other_of {nm other : List UInt8} (h : (lowerL nm == lowerL other) = false) (f : Fld) (hf : sameN nm f = true) : sameN other f = false := by
  unfold sameN at *
  rw [beq_eq_false_iff_ne] at *
  rw [beq_iff_eq.1 hf]; exact h
theorem values_setP_other {nm other : List UInt8} (v : List UInt8) (h : (lowerL nm == lowerL other) = false) : ∀ (th : Bool) (xs : List Fld), valuesL (setP nm v th xs) other = valuesL xs other
  | _, [] => rfl
  | th, f :: r => by
    have ih := fun t => values_setP_other v h t r
    rw [setP, values_cons]
    cases hf : sameN nm f
    · rw [cond_false, values_cons, ih]
    · have ho := other_of h f hf
      rw [ho, cond_false, cond_true]
      cases th
      · rw [cond_false, values_cons, show sameN other (f.1, v) = sameN other f from rfl, ho, cond_false, ih]
      · rw [cond_true, ih]
theorem values_setL_other {nm other : List UInt8} (xs : List Fld) (v : List UInt8) (h : (lowerL nm == lowerL other) = false) : valuesL (setL xs nm v) other = valuesL xs other := by
  unfold setL
  rw [values_app, values_setP_other v h]
  cases xs.any (sameN nm)
  · have : sameN other (nm, v) = false := h
    rw [cond_false, values_cons, this, cond_false]
    simp [valuesL]
  · simp [valuesL]
theorem values_delL (xs : List Fld) (names : List (List UInt8)) (nm : List UInt8) : valuesL (delL xs names) nm = bif hasL names nm then [] else valuesL xs nm := by
  induction xs with
  | nil => unfold delL valuesL; cases hasL names nm <;> rfl
  | cons f r ih =>
    have hd : delL (f :: r) names = bif hasL names f.1 then delL r names else f :: delL r names := by
      unfold delL; rw [List.filter_cons]; cases hasL names f.1 <;> simp
    rw [hd, values_cons]
    cases hs : sameN nm f
    · cases hasL names f.1
      · rw [cond_false, values_cons, hs, ih]; rfl
      · rw [cond_true, ih]; rfl
    · have he : hasL names f.1 = hasL names nm := by
        unfold sameN at hs
        unfold hasL
        rw [beq_iff_eq.1 hs]
      rw [he]
      cases hn : hasL names nm
      · rw [hn] at ih
        rw [cond_false, values_cons, hs, ih]; rfl
      · rw [hn] at ih
        rw [cond_true, ih]; rfl
theorem has_one (a b : List UInt8) : hasL [a] b = (lowerL a == lowerL b) := by unfold hasL; simp
theorem get_del_one (xs : List Fld) (nm : List UInt8) : getL (delL xs [nm]) nm = ([], false) := by
  unfold getL; rw [values_delL, has_one]; simp [Lib.join]
theorem get_one (f : Fld) (other : List UInt8) : (getL [f] other).2 = (lowerL f.1 == lowerL other) := by
  unfold getL
  rw [values_cons]
  show decide _ = sameN other f
  cases sameN other f <;> simp [valuesL]
theorem sumF_app (a b : List Fld) : sumF (a ++ b) = sumF a + sumF b := by unfold sumF; simp
theorem sum_setP (nm v : List UInt8) : ∀ (th : Bool) (xs : List Fld), sumF (setP nm v th xs) ≤ sumF xs + v.length
  | _, [] => by simp [setP, sumF]
  | th, f :: r => by
    have key : ∀ (t : Bool) (xs : List Fld), t = true → sumF (setP nm v t xs) ≤ sumF xs := by
      intro t xs ht
      subst ht
      induction xs with
      | nil => exact Nat.le_refl _
      | cons g r ih =>
        rw [setP]
        cases sameN nm g
        · simp only [cond_false]; unfold sumF at *; simp only [List.map_cons, List.sum_cons]; omega
        · simp only [cond_true]; unfold sumF at *; simp only [List.map_cons, List.sum_cons]; omega
    have ih := sum_setP nm v th r
    have k1 := key true r rfl
    rw [setP]
    cases sameN nm f
    · simp only [cond_false]; unfold sumF at *; simp only [List.map_cons, List.sum_cons]; omega
    · cases th
      · simp only [cond_true, cond_false]; unfold sumF at *; simp only [List.map_cons, List.sum_cons]; omega
      · simp only [cond_true]; unfold sumF at *; simp only [List.map_cons, List.sum_cons]; omega
theorem sum_setL (xs : List Fld) (nm v : List UInt8) : sumF (setL xs nm v) ≤ sumF xs + v.length + (nm.length + v.length) := by
  unfold setL
  rw [sumF_app]
  have h := sum_setP nm v false xs
  cases xs.any (sameN nm)
  · simp only [cond_false]; unfold sumF at *; simp; omega
  · simp only [cond_true]; have : sumF [] = 0 := rfl; omega
theorem len_setL (xs : List Fld) (nm v : List UInt8) : (setL xs nm v).length ≤ xs.length + 1 := by
  unfold setL; rw [List.length_append]
  have h1 := setP_le nm v false xs
  cases xs.any (sameN nm)
  · simp; omega
  · simp; omega
theorem sum_delL (xs : List Fld) (names : List (List UInt8)) : sumF (delL xs names) ≤ sumF xs := by
  unfold delL
  induction xs with
  | nil => exact Nat.le_refl _
  | cons f r ih =>
    rw [List.filter_cons]
    unfold sumF at *
    cases (!hasL names f.1)
    · simp only [Bool.false_eq_true, if_false, List.map_cons, List.sum_cons]; omega
    · simp only [if_true, List.map_cons, List.sum_cons]; omega
end Go.Proofs.YthppcaoldobocaaDoor
