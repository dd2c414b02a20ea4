/- The fields of a text: the plain law. -/
import Derived.Test.YthppcaoldobocaaDoorMay
import Derived.Lib.CutLaws
import Derived.Lib.IndexMore
import Derived.Lib.IndexLaws
namespace Go.Proofs.YthppcaoldobocaaDoor

def crlf : List UInt8 := [13, 10]
def oneF (l : List UInt8) : Fld := ((Lib.cut l [58]).1, trimL (Lib.cut l [58]).2.1)
def longL (f : Fld) : Bool := decide (2048 < f.1.length + 2 + f.2.length)
/-- Why a line is no field. -/
def oneE (l : List UInt8) : Int := bif decide (2048 < l.length) then 3 else bif (!(Lib.cut l [58]).2.2) || !mayL (oneF l) then 4 else bif longL (oneF l) then 3 else 0
def parF : Nat → List UInt8 → List Fld → List Fld × Int
  | 0, _, acc => (acc, 0)
  | n + 1, s, acc => bif s.isEmpty then (acc, 0) else bif !(Lib.cut s crlf).2.2 then ([], 4) else bif acc.length == 64 then ([], 3) else
    bif oneE (Lib.cut s crlf).1 != 0 then ([], oneE (Lib.cut s crlf).1) else parF n (Lib.cut s crlf).2.1 (acc ++ [oneF (Lib.cut s crlf).1])
def parR (s : List UInt8) (acc : List Fld) : List Fld × Int := parF (s.length + 1) s acc
def parseL (s : List UInt8) : List Fld × Int := parR s []

theorem cut_yes {s sep : List UInt8} (h : (Lib.cut s sep).2.2 = true) : (Lib.cut s sep).1.length + sep.length + (Lib.cut s sep).2.1.length = s.length ∧ 0 ≤ Lib.index s sep := by
  unfold Lib.cut at *
  by_cases h0 : 0 ≤ Lib.index s sep
  · have h1 := Lib.index_room s sep h0
    rw [if_pos h0] at *
    refine ⟨?_, h0⟩
    simp; omega
  · rw [if_neg h0] at h; cases h
theorem cut_le (s sep : List UInt8) : (Lib.cut s sep).1.length ≤ s.length ∧ (Lib.cut s sep).2.1.length ≤ s.length := by
  unfold Lib.cut
  by_cases h0 : 0 ≤ Lib.index s sep
  · rw [if_pos h0]; simp; omega
  · rw [if_neg h0]; simp
theorem parF_fuel : ∀ (n m : Nat) (s : List UInt8) (acc : List Fld), s.length < n → s.length < m → parF n s acc = parF m s acc
  | 0, _, _, _, h, _ => absurd h (by omega)
  | _ + 1, 0, _, _, _, h => absurd h (by omega)
  | n + 1, m + 1, s, acc, h1, h2 => by
    unfold parF
    cases hs : s.isEmpty <;> simp only [cond_true, cond_false]
    cases hc : (Lib.cut s crlf).2.2 <;> simp only [Bool.not_true, Bool.not_false, cond_true, cond_false]
    have h3 := (cut_yes hc).1
    have h4 : crlf.length = 2 := rfl
    rw [parF_fuel n m _ _ (by omega) (by omega)]
theorem parR_nil (acc : List Fld) : parR [] acc = (acc, 0) := rfl
theorem parR_step (s : List UInt8) (acc : List Fld) (hs : s.isEmpty = false) : parR s acc = bif !(Lib.cut s crlf).2.2 then ([], 4) else bif acc.length == 64 then ([], 3) else
    bif oneE (Lib.cut s crlf).1 != 0 then ([], oneE (Lib.cut s crlf).1) else parR (Lib.cut s crlf).2.1 (acc ++ [oneF (Lib.cut s crlf).1]) := by
  conv => lhs; unfold parR parF
  rw [hs, cond_false]
  cases hc : (Lib.cut s crlf).2.2 <;> simp only [Bool.not_true, Bool.not_false, cond_true, cond_false]
  have h3 := (cut_yes hc).1
  have h4 : crlf.length = 2 := rfl
  unfold parR
  rw [parF_fuel s.length _ _ _ (by omega) (Nat.lt_succ_self _)]
end Go.Proofs.YthppcaoldobocaaDoor
