/- TextQuotes and TextBack: the walks of the two laws. -/
import Derived.Test.YtclcigbcianimaaAwake01
import Derived.Test.YtclcigbcianimaaQuoteR
namespace Go.Proofs.Ytclcigbcianimaa
open Go.RowKit

set_option maxHeartbeats 2000000 in
theorem textQuotes_any (s : ByteArray) (w : World) :
    Calls Try.prog 3 #[.string s] w fun e w' => e = .returned (.bool true) ∧ Below w.heap.size w w' := by
  have hB := Below.refl w.heap.size w
  cases hl : decide (4000 < (s.size : Int))
  · have hs : s.size ≤ 1000000 := by simp at hl; omega
    have k1 := fun w => quote_any s w hs
    have k2 := fun w => rquote_any s w hs
    have k3 := fun w => unquote_any s w hs
    have k4 := fun w => runquote_any s w hs
    rw [← unqP_eq] at k4
    generalize quoteO s = q at *
    generalize unqP s.data.toList = u at *
    cases q <;> cases u
    all_goals
      simp only [two] at k1 k2 k3 k4
      have K1 := Lib.hid k1; have K2 := Lib.hid k2; have K3 := Lib.hid k3; have K4 := Lib.hid k4
      clear k1 k2 k3 k4
      go_enter Try.func3, Try.ntmps3
      go_wp2_with (first | (go_at_call 5; go_in) | (go_at_call 7; refine (K1.out _).mono ?_; rintro e w' ⟨rfl, hb⟩; replace hB := bt hB hb; clear hb) | (go_at_call 8; refine (K2.out _).mono ?_; rintro e w' ⟨rfl, rfl⟩) | (go_at_call 9; refine (K3.out _).mono ?_; rintro e w' ⟨rfl, hb⟩; replace hB := bt hB hb; clear hb) | (go_at_call 10; refine (K4.out _).mono ?_; rintro e w' ⟨rfl, rfl⟩) | (go_at_call 6; refine (awake_any _).mono ?_; rintro e w' ⟨rfl, hb⟩; replace hB := bt hB hb; clear hb))
      go_ret
      exact ⟨rfl, hB⟩
  · go_enter Try.func3, Try.ntmps3
    go_wp2_with (first | (go_at_call 5; go_in) | (go_at_call 6; refine (awake_any _).mono ?_; rintro e w' ⟨rfl, hb⟩; replace hB := bt hB hb; clear hb))
    go_ret
    exact ⟨rfl, hB⟩

/-- a byte that none may have, as the law asks it. -/
def badI (n : Int) : Bool := (decide (n < 32) && (n != 9)) || (n == 127)
theorem bad_eq (c : UInt8) : badI c.toNat = !plainb c := by
  unfold badI plainb; rw [Bool.eq_iff_iff]; have := c.toNat_lt; simp; omega
theorem not_all_bad (s : ByteArray) (h : s.data.toList.all plainb = false) : ∃ k, ∃ h : k < s.size, badI s[k].toNat = true := by
  rw [List.all_eq_false] at h
  obtain ⟨x, hx, hp⟩ := h
  obtain ⟨k, hk, rfl⟩ := List.mem_iff_getElem.1 hx
  refine ⟨k, by rw [Lib.size_eq]; exact hk, ?_⟩
  rw [bad_eq, at_list]; simpa using hp

set_option maxHeartbeats 2000000 in
theorem textBack_any (s : ByteArray) (w : World) :
    Calls Try.prog 4 #[.string s] w fun e w' => e = .returned (.bool true) ∧ Below w.heap.size w w' := by
  have hB := Below.refl w.heap.size w
  cases hl : decide (4000 < (s.size : Int))
  · have hs : s.size ≤ 4000 := by simp at hl; omega
    have k1 := fun w => quote_any s w (by omega)
    cases hall : s.data.toList.all plainb
    · rw [show quoteO s = none from by unfold quoteO; rw [hall]; rfl] at k1
      simp only [two] at k1
      obtain ⟨m, hm, hb⟩ := not_all_bad s hall
      have K1 := Lib.hid k1; have HB := Lib.hid hb
      clear k1 hb hall
      go_enter Try.func4, Try.ntmps4
      go_wp2_with (first | (go_at_call 5; go_in) | (go_at_call 7; refine (K1.out _).mono ?_; rintro e w1 ⟨rfl, hb⟩; replace hB := bt hB hb; clear hb))
      rename_i w1
      go_loop [5] (fun i => ∃ k : Nat, k ≤ m ∧ i = .int .i64 k) (fun i => s.size - (intOf i).toNat)
      case atStart => exact ⟨0, Nat.zero_le _, rfl⟩
      case round =>
        obtain ⟨k, hk, rfl⟩ := hrel
        have hlt : k < s.size := by omega
        have hu := u8_lt s[k]
        cases hbk : badI s[k].toNat
        · have hne : k ≠ m := by intro e; subst e; rw [HB.out] at hbk; simp at hbk
          have hk2 : k < m := by omega
          have c3 : ((s[k].toNat : Int) == 127) = false := by unfold badI at hbk; simp at hbk ⊢; omega
          cases c1 : decide ((s[k].toNat : Int) < 32) <;> cases c2 : ((s[k].toNat : Int) != 9)
          · exfalso; simp at c1 c2; omega
          · clear hbk
            go_wp2
            go_round
            case rel => exact ⟨k + 1, by omega, by go_num⟩
            case measure => simp [intOf]; omega
          · clear hbk
            go_wp2
            go_round
            case rel => exact ⟨k + 1, by omega, by go_num⟩
            case measure => simp [intOf]; omega
          · exfalso; unfold badI at hbk; rw [c1, c2] at hbk; simp at hbk
        · cases c1 : decide ((s[k].toNat : Int) < 32) <;> cases c2 : ((s[k].toNat : Int) != 9) <;> cases c3 : ((s[k].toNat : Int) == 127)
          all_goals first | (exfalso; unfold badI at hbk; rw [c1, c2, c3] at hbk; simp at hbk; done) | (exfalso; simp at c1 c2 c3; omega; done) | skip
          all_goals
            clear hbk
            go_wp2_with (go_at_call 6; refine (awake_any _).mono ?_; rintro e w' ⟨rfl, hb⟩; replace hB := bt hB hb; clear hb)
            go_ret
            exact ⟨rfl, hB⟩
    · have hq : quoteO s = some (quoted s) := by unfold quoteO; rw [hall]; rfl
      have hsz : (⟨(quoted s).toArray⟩ : ByteArray).size ≤ 1000000 := by
        have := flat_le s.data.toList
        rw [← Lib.size_eq] at this
        rw [Lib.size_eq]; unfold quoted
        rw [List.length_cons, List.length_append, List.length_singleton]; omega
      have k3 := fun w => unquote_any ⟨(quoted s).toArray⟩ w hsz
      rw [hq] at k1
      rw [show (⟨(quoted s).toArray⟩ : ByteArray).data.toList = quoted s from rfl, unqP_back s hall] at k3
      simp only [two, str_of] at k1 k3
      have K1 := Lib.hid k1; have K3 := Lib.hid k3
      clear k1 k3 hq hsz hall
      go_enter Try.func4, Try.ntmps4
      go_wp2_with (first | (go_at_call 5; go_in) | (go_at_call 7; refine (K1.out _).mono ?_; rintro e w' ⟨rfl, hb⟩; replace hB := bt hB hb; clear hb) | (go_at_call 9; refine (K3.out _).mono ?_; rintro e w' ⟨rfl, hb⟩; replace hB := bt hB hb; clear hb) | (go_at_call 6; refine (awake_any _).mono ?_; rintro e w' ⟨rfl, hb⟩; replace hB := bt hB hb; clear hb))
      go_ret
      exact ⟨rfl, hB⟩
  · go_enter Try.func4, Try.ntmps4
    go_wp2_with (first | (go_at_call 5; go_in) | (go_at_call 6; refine (awake_any _).mono ?_; rintro e w' ⟨rfl, hb⟩; replace hB := bt hB hb; clear hb))
    go_ret
    exact ⟨rfl, hB⟩
end Go.Proofs.Ytclcigbcianimaa
