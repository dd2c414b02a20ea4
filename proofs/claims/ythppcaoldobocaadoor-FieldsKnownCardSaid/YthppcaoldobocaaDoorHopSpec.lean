/- The names that go no further: the plain law. -/
import Derived.Test.YthppcaoldobocaaDoorSetsSpec
import Derived.Test.YthppcaoldobocaaDoorSplitSpec
import Derived.Test.YthppcaoldobocaaDoorStaysSpec
namespace Go.Proofs.YthppcaoldobocaaDoor
open Go.RowKit

def connW : List UInt8 := [99, 111, 110, 110, 101, 99, 116, 105, 111, 110]
def hop9 : List (List UInt8) := [[99, 111, 110, 110, 101, 99, 116, 105, 111, 110], [107, 101, 101, 112, 45, 97, 108, 105, 118, 101], [112, 114, 111, 120, 121, 45, 99, 111, 110, 110, 101, 99, 116, 105, 111, 110], [116, 101], [116, 114, 97, 105, 108, 101, 114], [116, 114, 97, 110, 115, 102, 101, 114, 45, 101, 110, 99, 111, 100, 105, 110, 103], [117, 112, 103, 114, 97, 100, 101], [112, 114, 111, 120, 121, 45, 97, 117, 116, 104, 101, 110, 116, 105, 99, 97, 116, 101], [112, 114, 111, 120, 121, 45, 97, 117, 116, 104, 111, 114, 105, 122, 97, 116, 105, 111, 110]]
def hopP (acc : List (List UInt8)) (p : List UInt8) : List (List UInt8) := bif tokenL (lowerL p) && !acc.contains (lowerL p) then acc ++ [lowerL p] else acc
def hopV (acc : List (List UInt8)) (v : List UInt8) : List (List UInt8) := (splitL 44 v).1.foldl hopP acc
def hopVs (acc : List (List UInt8)) (vs : List (List UInt8)) : List (List UInt8) := vs.foldl hopV acc
def hopL (xs : List Fld) : List (List UInt8) := hopVs hop9 (valuesL xs connW)
def cleanL (xs : List Fld) : List Fld := delL xs (hopL xs)

theorem foldl_take {α β : Type} (f : β → α → β) (a : β) (ls : List α) (k : Nat) (h : k < ls.length) : (ls.take (k + 1)).foldl f a = f ((ls.take k).foldl f a) ls[k] := by
  rw [List.take_succ_eq_append_getElem h, List.foldl_append]; rfl
theorem hopP_le (acc : List (List UInt8)) (p : List UInt8) : (hopP acc p).length ≤ acc.length + 1 := by
  unfold hopP
  cases (tokenL (lowerL p) && !acc.contains (lowerL p)) <;> simp
theorem hopPs_le : ∀ (ps acc : List (List UInt8)), (ps.foldl hopP acc).length ≤ acc.length + ps.length
  | [], _ => Nat.le_refl _
  | p :: r, acc => by
    have h1 := hopP_le acc p
    have h2 := hopPs_le r (hopP acc p)
    rw [List.foldl_cons, List.length_cons]; omega
theorem split_few (sep : UInt8) (l : List UInt8) : (splitL sep l).1.length ≤ 64 := by
  unfold splitL
  cases (sep.toNat == 34 || sep.toNat == 92)
  · cases splP sep false false [] [] l with
    | none => simp [splitE]
    | some ls =>
      simp only [splitE, cond_false]
      cases h : decide (64 < ls.length)
      · simp at h ⊢; exact h
      · simp
  · simp
theorem hopVs_le : ∀ (vs acc : List (List UInt8)), (hopVs acc vs).length ≤ acc.length + 64 * vs.length
  | [], _ => Nat.le_refl _
  | v :: r, acc => by
    have h1 := hopPs_le (splitL 44 v).1 acc
    have h2 := hopVs_le r (hopV acc v)
    have h3 := split_few 44 v
    unfold hopVs at *
    unfold hopV at *
    rw [List.foldl_cons, List.length_cons]; omega
theorem split_bad (sep : UInt8) (l : List UInt8) : (splitL sep l).2 = 0 ∨ (splitL sep l).1 = [] := by
  unfold splitL
  cases (sep.toNat == 34 || sep.toNat == 92)
  · cases splP sep false false [] [] l with
    | none => right; rfl
    | some ls =>
      simp only [splitE, cond_false]
      cases h : decide (64 < ls.length)
      · left; rfl
      · right; rfl
  · right; rfl
def Low (acc : List (List UInt8)) : Prop := ∀ a ∈ acc, lowerL a = a
theorem low9 : Low hop9 := by
  have h : hop9.all (fun a => lowerL a == a) = true := by decide
  intro a ha
  exact beq_iff_eq.1 (List.all_eq_true.1 h a ha)
theorem Low.step {acc : List (List UInt8)} (h : Low acc) (p : List UInt8) : Low (hopP acc p) := by
  unfold hopP
  cases (tokenL (lowerL p) && !acc.contains (lowerL p))
  · exact h
  · intro a ha
    rcases List.mem_append.1 ha with h1 | h1
    · exact h a h1
    · rw [List.mem_singleton.1 h1]; exact lower_twice p
theorem has_low {acc : List (List UInt8)} (h : Low acc) (p : List UInt8) : hasL acc p = acc.contains (lowerL p) := by
  unfold hasL
  rw [Bool.eq_iff_iff, List.any_eq_true, List.contains_iff_mem]
  constructor
  · rintro ⟨a, ha, e⟩
    rw [h a ha] at e
    rw [← beq_iff_eq.1 e]; exact ha
  · intro h1
    exact ⟨lowerL p, h1, by rw [lower_twice]; simp⟩
theorem hopP_sub (acc : List (List UInt8)) (p : List UInt8) : ∀ a ∈ acc, a ∈ hopP acc p := by
  intro a ha
  unfold hopP
  cases (tokenL (lowerL p) && !acc.contains (lowerL p))
  · exact ha
  · exact List.mem_append_left _ ha
theorem hopPs_sub : ∀ (ps acc : List (List UInt8)), ∀ a ∈ acc, a ∈ ps.foldl hopP acc
  | [], _, _, h => h
  | p :: r, acc, a, h => hopPs_sub r _ a (hopP_sub acc p a h)
theorem hopVs_sub : ∀ (vs acc : List (List UInt8)), ∀ a ∈ acc, a ∈ hopVs acc vs
  | [], _, _, h => h
  | _ :: r, acc, a, h => hopVs_sub r _ a (hopPs_sub _ acc a h)
theorem hop9_sub (xs : List Fld) : ∀ a ∈ hop9, a ∈ hopL xs := hopVs_sub _ _
theorem has_mem {names : List (List UInt8)} {a : List UInt8} (h : a ∈ names) : hasL names a = true := by
  unfold hasL; rw [List.any_eq_true]; exact ⟨a, h, by simp⟩
theorem get_clean (xs : List Fld) {a : List UInt8} (h : a ∈ hopL xs) : getL (cleanL xs) a = ([], false) := by
  unfold getL cleanL
  rw [values_delL, has_mem h]
  simp [Lib.join]
theorem hop_clean (xs : List Fld) : hopL (cleanL xs) = hop9 := by
  unfold hopL
  have : valuesL (cleanL xs) connW = [] := by
    unfold cleanL
    rw [values_delL, has_mem (hop9_sub xs connW (by decide))]; rfl
  rw [this]; rfl
theorem clean_clean (xs : List Fld) : cleanL (cleanL xs) = cleanL xs := by
  show delL (cleanL xs) (hopL (cleanL xs)) = _
  rw [hop_clean]
  unfold cleanL delL
  rw [List.filter_eq_self]
  intro f hf
  have h1 := (List.mem_filter.1 hf).2
  have h2 : hasL (hopL xs) f.1 = false := by simpa using h1
  cases h3 : hasL hop9 f.1
  · rfl
  · exfalso
    unfold hasL at h2 h3
    obtain ⟨a, ha, e⟩ := List.any_eq_true.1 h3
    rw [List.any_eq_false] at h2
    exact h2 a (hop9_sub xs a ha) e
end Go.Proofs.YthppcaoldobocaaDoor
