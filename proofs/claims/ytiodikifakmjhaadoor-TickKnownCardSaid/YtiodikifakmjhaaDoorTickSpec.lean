/- What the functions of layer 2 compute, as plain functions on numbers; no program in sight. -/
import Derived.Test.YtiodikifakmjhaaDoorKit
import Derived.Lib.ItoaNum
namespace Go.Proofs.YtiodikifakmjhaaDoor

/-- The delta of a number. -/
def bnd (n : Int) : Int := if n < 0 then 0 else if 2147483648 < n then 2147483648 else n
theorem bnd_neg {n : Int} (h : n < 0) : bnd n = 0 := by unfold bnd; rw [if_pos h]
theorem bnd_big {n : Int} (h : 2147483648 < n) : bnd n = 2147483648 := by unfold bnd; rw [if_neg (by omega), if_pos h]
theorem bnd_in {n : Int} (h : 0 ≤ n) (k : n ≤ 2147483648) : bnd n = n := by unfold bnd; rw [if_neg (by omega), if_neg (by omega)]
theorem bnd_lo (n : Int) : 0 ≤ bnd n := by unfold bnd; split; (· omega); split <;> omega
theorem bnd_hi (n : Int) : bnd n ≤ 2147483648 := by unfold bnd; split; (· omega); split <;> omega
theorem bnd_bnd (n : Int) : bnd (bnd n) = bnd n := bnd_in (bnd_lo n) (bnd_hi n)
def addB (a b : Int) : Int := bnd (bnd a + bnd b)
def subB (a b : Int) : Int := bnd (bnd a - bnd b)
def since (a b : Int) : Int := bnd (b - a)

/-- digits -/
def dgt (c : UInt8) : Bool := decide (48 ≤ c.toNat) && decide (c.toNat ≤ 57)
def vfrom (a : Nat) (l : List UInt8) : Nat := l.foldl (fun a c => 10 * a + (c.toNat - 48)) a
def val (l : List UInt8) : Nat := vfrom 0 l
theorem vfrom_eq : ∀ (l : List UInt8) (a : Nat), vfrom a l = a * 10 ^ l.length + vfrom 0 l
  | [], a => by simp [vfrom]
  | c :: r, a => by
    have h1 := vfrom_eq r (10 * a + (c.toNat - 48))
    have h2 := vfrom_eq r (10 * 0 + (c.toNat - 48))
    show vfrom (10 * a + (c.toNat - 48)) r = _ + vfrom (10 * 0 + (c.toNat - 48)) r
    rw [h1, h2, List.length_cons, Nat.pow_succ, Nat.add_mul, Nat.mul_zero, Nat.zero_add]
    rw [show a * (10 ^ r.length * 10) = 10 * a * 10 ^ r.length from by rw [Nat.mul_comm 10 a, Nat.mul_assoc, Nat.mul_comm 10]]
    omega
theorem val_snoc (l : List UInt8) (c : UInt8) : val (l ++ [c]) = 10 * val l + (c.toNat - 48) := by unfold val vfrom; simp
theorem val_cons (c : UInt8) (l : List UInt8) : val (c :: l) = (c.toNat - 48) * 10 ^ l.length + val l := by
  show vfrom (10 * 0 + (c.toNat - 48)) l = _
  rw [vfrom_eq]; simp [val]
theorem val_zeros : ∀ (z l : List UInt8), (∀ c ∈ z, c.toNat = 48) → val (z ++ l) = val l
  | [], l, _ => rfl
  | c :: z, l, h => by
    have h0 := h c (by simp)
    rw [List.cons_append, val_cons, h0, val_zeros z l (fun d hd => h d (by simp [hd]))]; simp
theorem val_lt : ∀ (l : List UInt8), l.all dgt = true → val l < 10 ^ l.length
  | [], _ => by simp [val, vfrom]
  | c :: r, h => by
    rw [List.all_cons, Bool.and_eq_true] at h
    have ih := val_lt r h.2
    have hc : c.toNat - 48 ≤ 9 := by have := h.1; simp [dgt] at this; omega
    rw [val_cons, List.length_cons, Nat.pow_succ]
    have : (c.toNat - 48) * 10 ^ r.length ≤ 9 * 10 ^ r.length := Nat.mul_le_mul_right _ hc
    omega
theorem val_ge (c : UInt8) (r : List UInt8) (h : 49 ≤ c.toNat) : 10 ^ r.length ≤ val (c :: r) := by
  rw [val_cons]
  have : 1 * 10 ^ r.length ≤ (c.toNat - 48) * 10 ^ r.length := Nat.mul_le_mul_right _ (by omega)
  omega
theorem bnd_step (v d : Nat) : bnd (10 * bnd (v : Int) + (d : Int)) = bnd ((10 * v + d : Nat) : Int) := by
  unfold bnd; split <;> split <;> split <;> (try split) <;> omega
def deltaOk (l : List UInt8) : Bool := !l.isEmpty && l.all dgt
def deltaV (l : List UInt8) : Value := bif deltaOk l then .tuple #[.int .i64 (bnd (val l)), .bool true] else .tuple #[.int .i64 0, .bool false]
theorem delta_bad (s : ByteArray) (k : Nat) (h : k < s.size) (hb : dgt s[k] = false) : deltaV s.data.toList = .tuple #[.int .i64 0, .bool false] := by
  unfold deltaV deltaOk; rw [all_bad dgt s k h hb, Bool.and_false]; rfl

/-- Behind the noughts ahead: more than ten digits are above the greatest delta. -/
theorem val_split (l : List UInt8) (f : Nat) (h : ∀ c ∈ l.take f, c.toNat = 48) : val l = val (l.drop f) := by
  conv => lhs; rw [← List.take_append_drop f l]
  exact val_zeros _ _ h
theorem all_drop (l : List UInt8) (f : Nat) (h : l.all dgt = true) : (l.drop f).all dgt = true := by
  rw [List.all_eq_true] at *
  exact fun x hx => h x (List.mem_of_mem_drop hx)
theorem delta_long (s : ByteArray) (f : Nat) (hf : f < s.size) (hall : s.data.toList.all dgt = true) (hz : ∀ c ∈ s.data.toList.take f, c.toNat = 48) (hn : ¬ s[f].toNat = 48) (hl : 10 < s.size - f) :
    deltaV s.data.toList = .tuple #[.int .i64 2147483648, .bool true] := by
  have hd := drop_cons s f hf
  have h1 := all_drop _ f hall
  rw [hd, List.all_cons, Bool.and_eq_true] at h1
  have h49 : 49 ≤ s[f].toNat := by have := h1.1; simp [dgt] at this; omega
  have hg := val_ge s[f] (s.data.toList.drop (f + 1)) h49
  rw [← hd, ← val_split _ _ hz, List.length_drop, ← Lib.size_eq] at hg
  have hp : 10 ^ 10 ≤ 10 ^ (s.size - (f + 1)) := Nat.pow_le_pow_right (by decide) (by omega)
  have hb : bnd (val s.data.toList) = 2147483648 := bnd_big (by have : (10 : Nat) ^ 10 = 10000000000 := rfl; omega)
  have hne := ne_of_pos s (by omega)
  unfold deltaV deltaOk; rw [hall, hne, hb]; rfl
theorem delta_short (s : ByteArray) (f : Nat) (h0 : 0 < s.size) (hall : s.data.toList.all dgt = true) (hz : ∀ c ∈ s.data.toList.take f, c.toNat = 48) :
    deltaV s.data.toList = .tuple #[.int .i64 (bnd (val (s.data.toList.drop f))), .bool true] := by
  have hne := ne_of_pos s (by omega)
  unfold deltaV deltaOk; rw [hall, hne, ← val_split _ _ hz]; rfl

/-- the decimal digits denote the number. -/
theorem dec_all (u : Nat) : (Lib.decDigits u).all dgt = true ∧ val (Lib.decDigits u) = u ∧ Lib.decDigits u ≠ [] := by
  induction u using Nat.strongRecOn with
  | _ u ih =>
    have hd : ∀ d : Nat, d < 10 → (UInt8.ofNat (48 + d)).toNat = 48 + d := fun d hd => by simp; omega
    by_cases h : u < 10
    · rw [Lib.decDigits, dif_pos h]
      have := hd u h
      refine ⟨?_, ?_, by simp⟩
      · rw [List.all_cons, List.all_nil, Bool.and_true]; unfold dgt; rw [this]; simp; omega
      · rw [val_cons, this]; simp [val, vfrom]
    · rw [Lib.decDigits, dif_neg h]
      obtain ⟨i1, i2, _⟩ := ih (u / 10) (by omega)
      have := hd (u % 10) (by omega)
      refine ⟨?_, ?_, by simp⟩
      · rw [List.all_append, i1, List.all_cons, List.all_nil, Bool.and_true, Bool.true_and]; unfold dgt; rw [this]; simp; omega
      · rw [val_snoc, i2, this]; omega
def putS (n : Int) : ByteArray := ⟨(Lib.decDigits (bnd n).toNat).toArray⟩
theorem delta_put (n : Int) : deltaV (putS n).data.toList = .tuple #[.int .i64 (bnd n), .bool true] := by
  obtain ⟨h1, h2, h3⟩ := dec_all (bnd n).toNat
  have e : (putS n).data.toList = Lib.decDigits (bnd n).toNat := rfl
  have hn : (Lib.decDigits (bnd n).toNat).isEmpty = false := by cases hq : Lib.decDigits (bnd n).toNat with | nil => exact absurd hq h3 | cons _ _ => rfl
  unfold deltaV deltaOk; rw [e, h1, h2, hn]
  have := bnd_lo n
  rw [Int.toNat_of_nonneg this, bnd_bnd]; rfl
end Go.Proofs.YtiodikifakmjhaaDoor
