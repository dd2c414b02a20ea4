/- By which names a reply varies: plain. -/
import Derived.Test.YtdlajobnnnmojaaDoorVarySpec
namespace Go.Proofs.YtdlajobnnnmojaaDoor

def nameOk (nm : List UInt8) : Bool := tokenL nm && !(nm == [42])
def addN (acc : List (List UInt8)) (nm : List UInt8) : List (List UInt8) := bif acc.contains nm then acc else acc ++ [nm]
def namesPs : List (List UInt8) → List (List UInt8) → Option (List (List UInt8))
  | acc, [] => some acc
  | acc, p :: r => bif nameOk (lowerL p) then namesPs (addN acc (lowerL p)) r else none
def namesVs : List (List UInt8) → List (List UInt8) → Option (List (List UInt8))
  | acc, [] => some acc
  | acc, v :: r => bif (splitL 44 v).2 == 0 then (match namesPs acc (splitL 44 v).1 with | none => none | some a => namesVs a r) else none
def varyW : List UInt8 := [118, 97, 114, 121]
/-- vary.Names. -/
def namesO (xs : List Fld) : Option (List (List UInt8)) := namesVs [] (valuesL xs varyW)
def optL (o : Option (List (List UInt8))) : List (List UInt8) := o.getD []

theorem addN_le (acc : List (List UInt8)) (nm : List UInt8) : (addN acc nm).length ≤ acc.length + 1 := by
  unfold addN; cases acc.contains nm <;> simp
theorem namesPs_le : ∀ (ps acc a : List (List UInt8)), namesPs acc ps = some a → a.length ≤ acc.length + ps.length
  | [], acc, a, h => by cases h; simp
  | p :: r, acc, a, h => by
    rw [namesPs] at h
    cases hn : nameOk (lowerL p) <;> rw [hn] at h
    · cases h
    · have := namesPs_le r _ a h
      have := addN_le acc (lowerL p)
      rw [List.length_cons]; omega
theorem drop_consL {α : Type} (xs : List α) (k : Nat) (h : k < xs.length) : xs.drop k = xs[k] :: xs.drop (k + 1) := List.drop_eq_getElem_cons h
/-- What has been met: a count of each name, nought for those that are not there. -/
def Count (f : List UInt8 → Int) (acc : List (List UInt8)) (n : Nat) : Prop := (∀ x, 0 ≤ f x ∧ f x ≤ n) ∧ ∀ x, f x = 0 ↔ acc.contains x = false
theorem Count.start : Count (fun _ => 0) [] 0 := ⟨fun _ => ⟨Int.le_refl _, by show (0 : Int) ≤ _; omega⟩, fun x => by simp⟩
def bump (f : List UInt8 → Int) (nm : List UInt8) : List UInt8 → Int := fun x => if x = nm then f nm + 1 else f x
theorem Count.step {f : List UInt8 → Int} {acc : List (List UInt8)} {n : Nat} (h : Count f acc n) (nm : List UInt8) : Count (bump f nm) (addN acc nm) (n + 1) := by
  refine ⟨fun x => ?_, fun x => ?_⟩
  · unfold bump
    have h1 := h.1 x
    have h2 := h.1 nm
    split
    · constructor <;> omega
    · constructor <;> omega
  · unfold bump addN
    have h1 := h.1 nm
    have h2 := h.2 x
    have h3 := h.2 nm
    by_cases e : x = nm
    · subst e
      rw [if_pos rfl]
      cases hc : acc.contains x
      · simp; omega
      · simp at hc
        simp [hc]; omega
    · rw [if_neg e, h2]
      cases hc : acc.contains nm
      · simp [e]
      · simp
end Go.Proofs.YtdlajobnnnmojaaDoor
