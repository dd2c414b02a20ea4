/- What the functions of layer 1 compute, as plain functions on lists of bytes; no program in sight. -/
import Derived.Test.YthnfmhjjpodhfaaDoorKit
namespace Go.Proofs.YthnfmhjjpodhfaaDoor

/-- may a byte be in a quoted text? -/
def plainb (c : UInt8) : Bool := c.toNat == 9 || (decide (32 ≤ c.toNat) && c.toNat != 127)
def esc (c : UInt8) : List UInt8 := bif c.toNat == 34 || c.toNat == 92 then [92, c] else [c]
theorem esc_le (c : UInt8) : (esc c).length ≤ 2 := by unfold esc; cases (c.toNat == 34 || c.toNat == 92) <;> simp
theorem flat_le (l : List UInt8) : (l.flatMap esc).length ≤ 2 * l.length := by
  induction l with
  | nil => simp
  | cons x r ih => have := esc_le x; rw [List.flatMap_cons, List.length_append, List.length_cons]; omega
def quoted (s : ByteArray) : List UInt8 := 34 :: (s.data.toList.flatMap esc ++ [34])
def two (l : Option (List UInt8)) : Value := match l with
  | some l => .tuple #[.string ⟨l.toArray⟩, .int .i64 0]
  | none => .tuple #[.string ⟨#[]⟩, .int .i64 4]
/-- Quote. -/
def quoteO (s : ByteArray) : Option (List UInt8) := bif s.data.toList.all plainb then some (quoted s) else none

/-- What the pieces say, byte by byte: the flag tells whether a byte 92 stands ahead. -/
def unq : Bool → List UInt8 → Option (List UInt8)
  | b, [] => bif b then none else some []
  | b, c :: r =>
    bif !plainb c || (c.toNat == 34 && !b) then none
    else bif c.toNat == 92 && !b then unq true r
    else (unq false r).map (c :: ·)
/-- Unquote: the program's way: both ends first, then what is between them. -/
def unqP (l : List UInt8) : Option (List UInt8) :=
  bif decide (2 ≤ l.length) && (l.head?.getD 0).toNat == 34 && (l.getLast?.getD 0).toNat == 34 then unq false (l.drop 1).dropLast else none
/-- Unquote: the document's way: piece by piece up to the closing mark. -/
def unqD : List UInt8 → Option (List UInt8)
  | [] => none
  | [c] => bif c.toNat == 34 then some [] else none
  | c :: d :: r =>
    bif c.toNat == 34 then none
    else bif c.toNat == 92 then (bif plainb d then (unqD r).map (d :: ·) else none)
    else (bif plainb c then (unqD (d :: r)).map (c :: ·) else none)
def unqR (l : List UInt8) : Option (List UInt8) := match l with
  | [] => none
  | c :: r => bif c.toNat == 34 then unqD r else none

/-- Both ways agree. -/
theorem unqD_eq : ∀ (n : Nat) (l : List UInt8), l.length ≤ n → unqD l = bif decide (1 ≤ l.length) && (l.getLast?.getD 0).toNat == 34 then unq false l.dropLast else none
  | _, [], _ => rfl
  | _, [c], _ => by by_cases h : c.toNat = 34 <;> simp [unqD, h, unq]
  | 0, c :: d :: r, h => by simp at h
  | n + 1, c :: d :: r, h => by
    have ih1 := unqD_eq n (d :: r) (by simp at *; omega)
    have ih2 := unqD_eq n r (by simp at *; omega)
    have hl : (c :: d :: r).getLast? = (d :: r).getLast? := by simp [List.getLast?_cons_cons]
    have hd : (c :: d :: r).dropLast = c :: (d :: r).dropLast := by simp
    rw [hl, hd, unqD]
    cases h34 : (c.toNat == 34)
    · cases h92 : (c.toNat == 92)
      · rw [ih1]
        cases hp : plainb c <;> cases hq : (((d :: r).getLast?.getD 0).toNat == 34)
        all_goals simp [unq, h34, h92, hp]
      · have hc : plainb c = true := by simp at h92; simp [plainb, h92]
        cases r with
        | nil =>
          cases hp : plainb d <;> cases hq : (d.toNat == 34)
          all_goals simp [h92, h34, unq, unqD, hc, hq]
        | cons e r =>
          have hl2 : (d :: e :: r).getLast? = (e :: r).getLast? := by simp [List.getLast?_cons_cons]
          have hd2 : (d :: e :: r).dropLast = d :: (e :: r).dropLast := by simp
          rw [hl2, hd2, ih2]
          cases hp : plainb d <;> cases hq : (((e :: r).getLast?.getD 0).toNat == 34)
          all_goals simp [h92, h34, unq, hc, hp]
    · have h92 : (c.toNat == 92) = false := by simp at h34; simp [h34]
      have hc : plainb c = true := by simp at h34; simp [plainb, h34]
      simp [unq, h34, h92, hc]
theorem unqP_eq (l : List UInt8) : unqP l = unqR l := by
  cases l with
  | nil => rfl
  | cons c r =>
    unfold unqR unqP
    simp only [List.drop_one, List.tail_cons]
    rw [unqD_eq r.length r (Nat.le_refl _)]
    cases r with
    | nil => simp
    | cons d r =>
      have hl : (c :: d :: r).getLast? = (d :: r).getLast? := by simp [List.getLast?_cons_cons]
      rw [hl]
      cases h : (c.toNat == 34) <;> cases hq : (((d :: r).getLast?.getD 0).toNat == 34)
      all_goals simp [h]

/-- Lower. -/
def lowb (c : UInt8) : UInt8 := bif decide (65 ≤ c.toNat) && decide (c.toNat ≤ 90) then c + 32 else c
def lowerL (l : List UInt8) : List UInt8 := l.map lowb
/-- a token's byte -/
def markL : List UInt8 := [33, 35, 36, 37, 38, 39, 42, 43, 45, 46, 94, 95, 96, 124, 126]
def letterb (c : UInt8) : Bool := (decide (97 ≤ c.toNat) && decide (c.toNat ≤ 122)) || (decide (65 ≤ c.toNat) && decide (c.toNat ≤ 90)) || (decide (48 ≤ c.toNat) && decide (c.toNat ≤ 57))
def wordb (c : UInt8) : Bool := letterb c || markL.contains c
def tokenL (l : List UInt8) : Bool := l.all wordb && !l.isEmpty
end Go.Proofs.YthnfmhjjpodhfaaDoor
