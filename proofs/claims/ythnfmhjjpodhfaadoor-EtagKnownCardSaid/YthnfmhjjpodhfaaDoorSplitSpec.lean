/- What text.Split computes, and the document's way: plain functions on lists of bytes. -/
import Derived.Test.YthnfmhjjpodhfaaDoorTrim
namespace Go.Proofs.YthnfmhjjpodhfaaDoor

def addP (ls : List (List UInt8)) (p : List UInt8) : List (List UInt8) := bif p.isEmpty then ls else ls ++ [p]
theorem addP_le (ls : List (List UInt8)) (p : List UInt8) : (addP ls p).length ≤ ls.length + 1 := by
  unfold addP; cases p.isEmpty <;> simp
def splP (sep : UInt8) : Bool → Bool → List UInt8 → List (List UInt8) → List UInt8 → Option (List (List UInt8))
  | o, _, cur, ls, [] => bif o then none else some (addP ls (trimL cur))
  | o, b, cur, ls, c :: r =>
    bif b then splP sep o false (cur ++ [c]) ls r
    else bif o && c.toNat == 92 then splP sep o true (cur ++ [c]) ls r
    else bif c.toNat == 34 then splP sep (!o) false (cur ++ [c]) ls r
    else bif c.toNat == sep.toNat && !o then splP sep o false [] (addP ls (trimL cur)) r
    else splP sep o false (cur ++ [c]) ls r
/-- The pieces and the error's number. -/
def splitE (t : Option (List (List UInt8))) : List (List UInt8) × Int := match t with
  | none => ([], 4)
  | some ls => bif decide (64 < ls.length) then ([], 3) else (ls, 0)
def splitL (sep : UInt8) (l : List UInt8) : List (List UInt8) × Int :=
  bif sep.toNat == 34 || sep.toNat == 92 then ([], 2) else splitE (splP sep false false [] [] l)

/-- The document's way: which bytes stand in quotes; is one open at the end? -/
def fl : Bool → Bool → List UInt8 → List Bool
  | _, _, [] => []
  | o, b, c :: r => (o || c.toNat == 34) :: (bif b then fl o false r else bif o && c.toNat == 92 then fl o true r else bif c.toNat == 34 then fl (!o) false r else fl o false r)
def en : Bool → Bool → List UInt8 → Bool
  | o, _, [] => o
  | o, b, c :: r => bif b then en o false r else bif o && c.toNat == 92 then en o true r else bif c.toNat == 34 then en (!o) false r else en o false r
def spR (sep : UInt8) : List UInt8 → List (List UInt8) → List UInt8 → List Bool → List (List UInt8)
  | cur, ls, c :: r, f :: fs => bif (c.toNat != sep.toNat) || f then spR sep (cur ++ [c]) ls r fs else spR sep [] (addP ls (trimL cur)) r fs
  | cur, ls, _, _ => addP ls (trimL cur)
theorem fl_length : ∀ (l : List UInt8) (o b : Bool), (fl o b l).length = l.length
  | [], _, _ => rfl
  | c :: r, o, b => by
    simp only [fl, List.length_cons]
    congr 1
    cases b <;> cases (o && c.toNat == 92) <;> cases (c.toNat == 34) <;> simp [fl_length r]
theorem spl_eq (sep : UInt8) (hs : (sep.toNat == 34) = false) : ∀ (l : List UInt8) (o b : Bool) (cur : List UInt8) (ls : List (List UInt8)), (b = true → o = true) →
    splP sep o b cur ls l = bif en o b l then none else some (spR sep cur ls l (fl o b l))
  | [], o, b, cur, ls, _ => by simp [splP, en, spR]
  | c :: r, o, b, cur, ls, h => by
    have hne : (c.toNat == 34) = true → (c.toNat != sep.toNat) = true := by
      intro e; simp at e hs ⊢; omega
    have i1 := spl_eq sep hs r
    cases b
    · cases o
      · cases h34 : (c.toNat == 34)
        · cases hc : (c.toNat == sep.toNat)
          · have : (c.toNat != sep.toNat) = true := by simp [bne, hc]
            simp [splP, en, spR, fl, h34, hc, this, i1]
          · have : (c.toNat != sep.toNat) = false := by simp [bne, hc]
            simp [splP, en, spR, fl, h34, hc, this, i1]
        · simp [splP, en, spR, fl, h34, i1]
      · cases h92 : (c.toNat == 92)
        · cases h34 : (c.toNat == 34)
          · simp [splP, en, spR, fl, h34, h92, i1]
          · simp [splP, en, spR, fl, h34, h92, i1]
        · simp [splP, en, spR, fl, h92, i1]
    · have ho := h rfl
      subst ho
      simp [splP, en, spR, fl, i1]
theorem spl_count (sep : UInt8) : ∀ (l : List UInt8) (o b : Bool) (cur : List UInt8) (ls ps : List (List UInt8)), splP sep o b cur ls l = some ps → ps.length ≤ ls.length + l.length + 1
  | [], o, b, cur, ls, ps, h => by
    cases o
    · simp [splP] at h; subst h; have := addP_le ls (trimL cur); simp; omega
    · simp [splP] at h
  | c :: r, o, b, cur, ls, ps, h => by
    have ih := spl_count sep r
    have ha := addP_le ls (trimL cur)
    rw [splP] at h
    rw [List.length_cons]
    cases b
    · simp only [cond_false] at h
      cases hx : (o && c.toNat == 92) <;> rw [hx] at h <;> simp only [cond_true, cond_false] at h
      · cases h34 : (c.toNat == 34) <;> rw [h34] at h <;> simp only [cond_true, cond_false] at h
        · cases hy : (c.toNat == sep.toNat && !o) <;> rw [hy] at h <;> simp only [cond_true, cond_false] at h
          · have := ih _ _ _ _ _ h; omega
          · have := ih _ _ _ _ _ h; omega
        · have := ih _ _ _ _ _ h; omega
      · have := ih _ _ _ _ _ h; omega
    · simp only [cond_true] at h
      have := ih _ _ _ _ _ h; omega
end Go.Proofs.YthnfmhjjpodhfaaDoor
