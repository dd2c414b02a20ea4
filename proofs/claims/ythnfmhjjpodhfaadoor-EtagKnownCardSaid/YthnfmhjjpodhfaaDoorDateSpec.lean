/- Dates: what date.Parse and date.Put compute, in plain words; no program in sight. -/
import Derived.Test.YthnfmhjjpodhfaaDoorKit
import Derived.Lib.Index
namespace Go.Proofs.YthnfmhjjpodhfaaDoor

def dg (c : UInt8) : Bool := decide (48 ≤ c.toNat) && decide (c.toNat ≤ 57)
def dnum : List UInt8 → Int → Int
  | [], a => a
  | c :: r, a => dnum r (10 * a + ((c.toNat : Int) - 48))
/-- So many digits off a text. -/
def dnumL (s : List UInt8) (n : Nat) : Int × List UInt8 × Bool :=
  bif decide (s.length < n) then (0, [], false) else bif (s.take n).all dg then (dnum (s.take n) 0, s.drop n, true) else (0, [], false)
/-- One of some names off a text. -/
def dname (s : List UInt8) (n : Nat) : List (List UInt8) → Nat → Int × List UInt8 × Bool
  | [], _ => (0, [], false)
  | x :: r, i =>
    bif Lib.hasPrefix s (bif decide (0 < n) then x.take n else x) then ((i : Int), s.drop (bif decide (0 < n) then x.take n else x).length, true) else dname s n r (i + 1)
def ddays : List (List UInt8) := [[84, 104, 117, 114, 115, 100, 97, 121], [70, 114, 105, 100, 97, 121], [83, 97, 116, 117, 114, 100, 97, 121], [83, 117, 110, 100, 97, 121], [77, 111, 110, 100, 97, 121], [84, 117, 101, 115, 100, 97, 121], [87, 101, 100, 110, 101, 115, 100, 97, 121]]
def dmonths : List UInt8 := [74, 97, 110, 70, 101, 98, 77, 97, 114, 65, 112, 114, 77, 97, 121, 74, 117, 110, 74, 117, 108, 65, 117, 103, 83, 101, 112, 79, 99, 116, 78, 111, 118, 68, 101, 99]
def dleap (y : Int) : Bool := y % 4 == 0 && y % 100 != 0 || y % 400 == 0
def dlong (y m : Int) : Int := if m = 2 then (if dleap y = true then 29 else 28) else if m = 4 ∨ m = 6 ∨ m = 9 ∨ m = 11 then 30 else 31
def dahead (y : Int) : Int := 365 * (y - 1970) + (y - 1) / 4 - (y - 1) / 100 + (y - 1) / 400 - 492 + 19 - 4
theorem dahead_up (y : Int) : dahead y + 365 ≤ dahead (y + 1) ∧ dahead (y + 1) ≤ dahead y + 366 := by
  unfold dahead; omega
theorem dahead_ge (y : Int) (h : 1970 ≤ y) : 365 * (y - 1970) ≤ dahead y ∧ dahead y ≤ 366 * (y - 1970) := by
  unfold dahead; omega
/-- The year of a day. -/
def dyear : Nat → Int → Int → Int
  | 0, _, y => y
  | f + 1, d, y => if dahead (y + 1) ≤ d then dyear f d (y + 1) else y
theorem dyear_go (d : Int) : ∀ (f : Nat) (y : Int), 1970 ≤ y → d < 365 * (y - 1970) + 365 * f → ∀ g, f ≤ g → dyear g d y = dyear f d y
  | 0, y, hy, h, g, _ => by
    have := dahead_ge (y + 1) (by omega)
    cases g with
    | zero => rfl
    | succ g =>
      show dyear (g + 1) d y = y
      have hn : ¬ dahead (y + 1) ≤ d := by omega
      unfold dyear
      rw [if_neg hn]
  | f + 1, y, hy, h, g, hg => by
    cases g with
    | zero => omega
    | succ g =>
      rw [dyear, dyear]
      split
      · exact dyear_go d f (y + 1) (by omega) (by omega) g (by omega)
      · rfl
/-- Its year, and how many days of it are ahead. -/
def dyearO (d : Int) : Int × Int := (dyear 9000 d (1970 + d / 366), d - dahead (dyear 9000 d (1970 + d / 366)))
/-- A date's numbers. -/
structure Mom where
  wd : Int
  day : Int
  month : Int
  year : Int
  hour : Int
  minute : Int
  second : Int
  two : Bool
def mom0 : Mom := ⟨0, 0, 0, 0, 0, 0, 0, false⟩
def Mom.cs (m : Mom) : List Value := [.int .i64 m.wd, .int .i64 m.day, .int .i64 m.month, .int .i64 m.year, .int .i64 m.hour, .int .i64 m.minute, .int .i64 m.second, .bool m.two]
/-- A piece of a form off a text. -/
def dtake (m : Mom) (c : Nat) (s : List UInt8) : Mom × List UInt8 × Bool :=
  if c = 119 then ({ m with wd := (dname s 3 ddays 0).1 }, (dname s 3 ddays 0).2)
  else if c = 87 then ({ m with wd := (dname s 0 ddays 0).1 }, (dname s 0 ddays 0).2)
  else if c = 68 then ({ m with day := (dnumL s 2).1 }, (dnumL s 2).2)
  else if c = 69 then (if Lib.hasPrefix s [32] = true then ({ m with day := (dnumL (s.drop 1) 1).1 }, (dnumL (s.drop 1) 1).2) else ({ m with day := (dnumL s 2).1 }, (dnumL s 2).2))
  else if c = 109 then
    (if s.length < 3 ∨ Lib.index dmonths (s.take 3) < 0 ∨ Lib.index dmonths (s.take 3) % 3 ≠ 0 then (m, [], false) else ({ m with month := Lib.index dmonths (s.take 3) / 3 + 1 }, s.drop 3, true))
  else if c = 89 then ({ m with year := (dnumL s 4).1 }, (dnumL s 4).2)
  else if c = 121 then ({ m with year := (dnumL s 2).1, two := true }, (dnumL s 2).2)
  else if c = 72 then ({ m with hour := (dnumL s 2).1 }, (dnumL s 2).2)
  else if c = 73 then ({ m with minute := (dnumL s 2).1 }, (dnumL s 2).2)
  else if c = 83 then ({ m with second := (dnumL s 2).1 }, (dnumL s 2).2)
  else if Lib.hasPrefix s [UInt8.ofNat c] = true then (m, s.drop 1, true) else (m, s, false)
/-- The forms. -/
def dform0 : List UInt8 := [119, 44, 32, 68, 32, 109, 32, 89, 32, 72, 58, 73, 58, 83, 32, 71, 77, 84]
def dform1 : List UInt8 := [87, 44, 32, 68, 45, 109, 45, 121, 32, 72, 58, 73, 58, 83, 32, 71, 77, 84]
def dform2 : List UInt8 := [119, 32, 109, 32, 69, 32, 72, 58, 73, 58, 83, 32, 89]
/-- All pieces of a form off a text. -/
def dpieces : List UInt8 → Mom → List UInt8 → Option (Mom × List UInt8)
  | [], m, s => some (m, s)
  | c :: r, m, s => bif (dtake m c.toNat s).2.2 then dpieces r (dtake m c.toNat s).1 (dtake m c.toNat s).2.1 else none
def dnow (now : Int) : Int := (max 0 (min now 253402300799)) / 86400
def dyr (m : Mom) (now : Int) : Int := if m.two = true then ((dyearO (dnow now)).1 + 50) - ((dyearO (dnow now)).1 + 50 - m.year) % 100 else m.year
/-- Days of the months ahead. -/
def dmons (y : Int) : Nat → Int
  | 0 => 0
  | k + 1 => dmons y k + dlong y (k + 1)
/-- The tick of a date. -/
def dtick (m : Mom) (now : Int) : Int × Bool :=
  if dyr m now < 1970 ∨ dyr m now > 9999 ∨ m.day < 1 ∨ m.day > dlong (dyr m now) m.month ∨ m.hour > 23 ∨ m.minute > 59 ∨ m.second > 59 then (0, false)
  else if (dahead (dyr m now) + m.day - 1 + dmons (dyr m now) (m.month.toNat - 1)) % 7 ≠ m.wd then (0, false)
  else ((dahead (dyr m now) + m.day - 1 + dmons (dyr m now) (m.month.toNat - 1)) * 86400 + m.hour * 3600 + m.minute * 60 + m.second, true)
def dparse (s : List UInt8) (now : Int) : List (List UInt8) → Int × Int
  | [] => (0, 4)
  | f :: r => match dpieces f mom0 s with
    | some (m, []) => if (dtick m now).2 = true then ((dtick m now).1, 0) else dparse s now r
    | _ => dparse s now r
/-- A date's tick. -/
def dateP (s : List UInt8) (now : Int) : Int × Int := dparse s now [dform0, dform1, dform2]
theorem t1 : dateP [84, 104, 117, 44, 32, 48, 49, 32, 74, 97, 110, 32, 49, 57, 55, 48, 32, 48, 48, 58, 48, 50, 58, 48, 48, 32, 71, 77, 84] 110 = (120, 0) := by decide +kernel
end Go.Proofs.YthnfmhjjpodhfaaDoor
