/- Dates: the walks of number, name, leap, long, ahead, year, two. -/
import Derived.Test.YthnfmhjjpodhfaaDoorDateSpec
import Derived.Test.YthnfmhjjpodhfaaDoorMaxL
import Derived.Test.YthnfmhjjpodhfaaDoorRd
namespace Go.Proofs.YthnfmhjjpodhfaaDoor
open Go.RowKit
set_option maxRecDepth 100000

def intD : Value → Int
  | .int _ n => n
  | _ => 0
theorem dgI (c : UInt8) : dg c = (decide (48 ≤ (c.toNat : Int)) && decide ((c.toNat : Int) ≤ 57)) := by
  unfold dg; rw [Bool.eq_iff_iff]; simp; omega
theorem dnum_snoc : ∀ (l : List UInt8) (c : UInt8) (a : Int), dnum (l ++ [c]) a = 10 * dnum l a + ((c.toNat : Int) - 48)
  | [], c, a => rfl
  | x :: r, c, a => by rw [List.cons_append, dnum, dnum, dnum_snoc r c]
theorem dnum_le : ∀ (l : List UInt8), l.all dg = true → ∀ a : Int, 0 ≤ a → 0 ≤ dnum l a ∧ dnum l a < (a + 1) * 10 ^ l.length
  | [], _, a, ha => by simp [dnum]; omega
  | x :: r, h, a, ha => by
    rw [List.all_cons, Bool.and_eq_true] at h
    have hx := h.1
    unfold dg at hx
    simp at hx
    have ih := dnum_le r h.2 (10 * a + ((x.toNat : Int) - 48)) (by omega)
    rw [dnum, List.length_cons, Int.pow_succ]
    refine ⟨ih.1, Int.lt_of_lt_of_le ih.2 ?_⟩
    have h1 : (10 * a + ((x.toNat : Int) - 48) + 1) ≤ (a + 1) * 10 := by omega
    have h2 := Int.mul_le_mul_of_nonneg_right h1 (show (0 : Int) ≤ 10 ^ r.length from Int.le_of_lt (Int.pow_pos (by decide)))
    rw [Int.mul_comm (10 ^ r.length) 10, ← Int.mul_assoc]
    exact h2
set_option maxHeartbeats 4000000 in
theorem dnumber_any (s : ByteArray) (n : Nat) (hn : n ≤ 4) (w : World) :
    Calls Tryd.prog 72 #[.string s, .int .i64 n] w fun e w' => e = .returned (.tuple #[.int .i64 (dnumL s.data.toList n).1, .string ⟨(dnumL s.data.toList n).2.1.toArray⟩, .bool (dnumL s.data.toList n).2.2]) ∧ ∃ q, w' = w.drewN q := by
  obtain ⟨R, hR⟩ : ∃ R, dnumL s.data.toList n = R := ⟨_, rfl⟩
  rw [hR]
  unfold dnumL at hR
  rw [← Lib.size_eq] at hR
  by_cases hlt : s.size < n
  · have hR2 : R = (0, [], false) := by rw [← hR]; simp [hlt]
    subst hR2
    clear hR
    go_enter Tryd.func72, Tryd.ntmps72
    go_wp2
    go_ret3
    exact ⟨rfl, 0, rfl⟩
  · have hd : decide (s.size < n) = false := by simpa using hlt
    rw [hd] at hR
    simp only [cond_false] at hR
    have HR := Lib.hid hR
    clear hR hd
    go_enter Tryd.func72, Tryd.ntmps72
    go_wp2_with fail
    go_loopw [7, 14] (fun k i wr => ∃ j : Nat, j ≤ n ∧ i = .int .i64 j ∧ (∃ v, k = .int .i64 v ∧ Hid (v = dnum (s.data.toList.take j) 0)) ∧ Hid ((s.data.toList.take j).all dg = true) ∧ wr = w) (fun _ i _ => n - (intD i).toNat)
    case atStart => exact ⟨0, Nat.zero_le _, rfl, ⟨0, rfl, Lib.hid (by simp [dnum])⟩, Lib.hid (by simp), rfl⟩
    case round =>
      obtain ⟨j, hj, rfl, ⟨v, rfl, HV⟩, HALL, rfl⟩ := hrel
      by_cases hjn : j < n
      · have hjs : j < s.size := by omega
        have hu := u8_lt s[j]
        have hts := take_snoc s j hjs
        cases hdg : dg s[j]
        · have hbad : ∃ (b : Bool), (s.data.toList.take n).all dg = false := by
            refine ⟨true, ?_⟩
            rw [List.all_eq_false]
            exact ⟨s[j], by rw [List.mem_take_iff_getElem]; exact ⟨j, by rw [← Lib.size_eq]; omega, rfl⟩, by simp [hdg]⟩
          obtain ⟨_, hbad⟩ := hbad
          have hR2 : R = (0, [], false) := by rw [← HR.out, hbad]; rfl
          have hI := dgI s[j]
          rw [hdg] at hI
          subst hR2
          have hcase : (s[j].toNat : Int) < 48 ∨ (¬ (s[j].toNat : Int) < 48 ∧ 57 < (s[j].toNat : Int)) := by
            have := hI
            simp at this
            omega
          clear hI hdg hbad hts HR
          rcases hcase with hc | ⟨hc1, hc2⟩
          · have t1 : decide ((s[j].toNat : Int) < 48) = true := by simpa using hc
            go_wp2
            go_ret3
            exact ⟨rfl, 0, rfl⟩
          · have t1 : decide ((s[j].toNat : Int) < 48) = false := by simpa using hc1
            have t2 : decide ((s[j].toNat : Int) > 57) = true := by simpa using hc2
            go_wp2
            go_ret3
            exact ⟨rfl, 0, rfl⟩
        · have hI := dgI s[j]
          rw [hdg] at hI
          have hc : 48 ≤ (s[j].toNat : Int) ∧ (s[j].toNat : Int) ≤ 57 := by
            have := hI.symm
            simp at this
            omega
          have t1 : decide ((s[j].toNat : Int) < 48) = false := by simp; omega
          have t2 : decide ((s[j].toNat : Int) > 57) = false := by simp; omega
          have hb := dnum_le (s.data.toList.take j) HALL.out 0 (by omega)
          rw [← HV.out] at hb
          have hl4 : (s.data.toList.take j).length ≤ 3 := by rw [List.length_take]; omega
          have hp : ((10 : Int)) ^ (s.data.toList.take j).length ≤ 1000 := by
            generalize (s.data.toList.take j).length = L at hl4
            have h4 : L = 0 ∨ L = 1 ∨ L = 2 ∨ L = 3 := by omega
            rcases h4 with rfl | rfl | rfl | rfl <;> decide
          have hv : 0 ≤ v ∧ v ≤ 1000 := by omega
          have hw1 : IntKind.i64.wrap (10 * v) = 10 * v := by rw [IntKind.wrap_i64]; omega
          have hw2 : IntKind.u8.wrap ((s[j].toNat : Int) - 48) = (s[j].toNat : Int) - 48 := by rw [IntKind.wrap_u8]; omega
          have hw3 : IntKind.i64.wrap ((s[j].toNat : Int) - 48) = (s[j].toNat : Int) - 48 := by rw [IntKind.wrap_i64]; omega
          have hw4 : IntKind.i64.wrap (10 * v + ((s[j].toNat : Int) - 48)) = 10 * v + ((s[j].toNat : Int) - 48) := by rw [IntKind.wrap_i64]; omega
          have hw5 : IntKind.i64.wrap ((j : Int) + 1) = ((j + 1 : Nat) : Int) := by rw [IntKind.wrap_i64]; omega
          have hnext : 10 * v + ((s[j].toNat : Int) - 48) = dnum (s.data.toList.take (j + 1)) 0 := by rw [hts, dnum_snoc, ← HV.out]
          have hall : (s.data.toList.take (j + 1)).all dg = true := by rw [hts, List.all_append, HALL.out]; simp [hdg]
          have HN := Lib.hid hnext; have HA2 := Lib.hid hall
          clear hI hdg hb hp hl4 hnext hall hts HV HALL
          go_wp2
          go_roundw
          case rel => exact ⟨j + 1, hjn, rfl, ⟨_, rfl, HN⟩, HA2, trivial⟩
          case measure => simp [intD]; omega
      · have hjn2 : j = n := by omega
        subst hjn2
        have hR2 : R = (v, s.data.toList.drop j, true) := by rw [← HR.out, HALL.out, ← HV.out]; rfl
        have hns : j ≤ s.size := by omega
        subst hR2
        have hex : s.extract j s.size = ⟨(s.data.toList.drop j).toArray⟩ := by
          apply str_eq
          rw [Lib.extract_data]
          have : (s.data.toList.drop j).length ≤ s.size - j := by rw [List.length_drop, ← Lib.size_eq]; omega
          rw [List.take_of_length_le this]
        have HEX := Lib.hid hex
        clear HR HV HALL hex
        go_wp2
        go_region
        go_wp2
        go_ret3
        exact ⟨by rw [← HEX.out]; rfl, 1, rfl⟩
end Go.Proofs.YthnfmhjjpodhfaaDoor
