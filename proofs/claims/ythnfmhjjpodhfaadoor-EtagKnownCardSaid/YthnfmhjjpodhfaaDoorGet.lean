/- The walk of fields.Get. -/
import Derived.Test.YthnfmhjjpodhfaaDoorValues
import Derived.Test.YthnfmhjjpodhfaaDoorJoin
import Derived.Test.YthnfmhjjpodhfaaDoorSumF
namespace Go.Proofs.YthnfmhjjpodhfaaDoor
open Go.RowKit
set_option maxRecDepth 100000

theorem total_values (xs : List Fld) (name : List UInt8) : total (valuesL xs name) ≤ sumF xs := by
  unfold valuesL total sumF
  induction xs with
  | nil => simp
  | cons x r ih =>
    rw [List.filter_cons, List.map_cons, List.sum_cons]
    by_cases h : (lowerL x.1 == lowerL name) = true
    · rw [if_pos h, List.map_cons, List.map_cons, List.sum_cons]; omega
    · rw [if_neg h]; omega
/-- What a name has. -/
def getL (xs : List Fld) (name : List UInt8) : List UInt8 × Bool := (Lib.join (valuesL xs name) [44, 32], decide (0 < (valuesL xs name).length))
def getV (r : List UInt8 × Bool) : Value := .tuple #[.string ⟨r.1.toArray⟩, .bool r.2]
theorem getL_le (xs : List Fld) (name : List UInt8) : (getL xs name).1.length ≤ sumF xs + 2 * xs.length := by
  have h1 := join_le [44, 32] (valuesL xs name)
  have h2 := total_values xs name
  have h3 := valuesL_le xs name
  have h4 : ([44, 32] : List UInt8).length = 2 := rfl
  unfold getL
  rw [h4] at h1
  simp only; omega

set_option maxHeartbeats 2000000 in
theorem get_any (A : Option Addr) (n c : Nat) (xs : List Fld) (name : ByteArray) (w : World) (hr : Rd A n 2 (fldsV xs) w) (hn : n ≤ 1000000) (hs : sumF xs ≤ 1000000) (hname : name.size ≤ 1000000) :
    Calls Tryd.prog 32 #[.slice A n c, .string name] w fun e w' => e = .returned (getV (getL xs name.data.toList)) ∧ Below w.heap.size w w' := by
  have hxn := hr.fld
  have k1 := values_any A n c xs name w hr hn (fun f hf => by have := sumF_mem hf; omega) hname
  have hv := total_values xs name.data.toList
  have hvl := valuesL_le xs name.data.toList
  unfold getL getV
  simp only
  generalize valuesL xs name.data.toList = ls at *
  obtain ⟨J, hJ⟩ : ∃ J, (⟨(Lib.join ls [44, 32]).toArray⟩ : ByteArray) = J := ⟨_, rfl⟩
  rw [hJ]
  have hdec : decide (0 < ls.length) = decide ((ls.length : Int) > 0) := by rw [decide_eq_decide]; omega
  have k2 := fun (a : Option Addr) (c : Nat) (w1 : World) (h : OwnS w.heap.size (.slice a ls.length c) ls w1) => join_any w.heap.size c a ls ⟨#[44, 32]⟩ w1 h (by omega) (by rw [show (⟨#[44, 32]⟩ : ByteArray).size = 2 from rfl]; omega)
  rw [show (⟨#[44, 32]⟩ : ByteArray).data.toList = [44, 32] from rfl, hJ] at k2
  rw [hdec]
  clear hdec hJ
  have K1 := Lib.hid k1; have K2 := Lib.hid k2; clear k1 k2 hv hs hn hname hr hxn hvl
  go_enter Tryd.func32, Tryd.ntmps32
  go_wp2_with fail
  refine K1.out.mono ?_
  rintro e w1 ⟨a1, c1, rfl, ho1, hb1⟩
  have K3 := Lib.hid (K2.out a1 c1 w1 ho1)
  clear K1 K2 ho1
  go_wp2_with fail
  refine K3.out.mono ?_
  rintro e w2 ⟨rfl, hb2⟩
  go_wp2
  go_ret2
  refine ⟨?_, bt hb1 hb2⟩
  simp
end Go.Proofs.YthnfmhjjpodhfaaDoor
