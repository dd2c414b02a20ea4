/- TextStays: the walk of the law. -/
import Derived.Test.YtclcigbcianimaaDoorPieces
import Derived.Test.YtclcigbcianimaaDoorAwake01
namespace Go.Proofs.YtclcigbcianimaaDoor
open Go.RowKit

set_option maxHeartbeats 8000000 in
theorem textStays_any (s : ByteArray) (sep : UInt8) (w : World) (hM : ∃ m, w.cell? ⟨0, 0, none⟩ = some (.int .i64 m)) :
    Calls Tryd.prog 5 #[.string s, .int .u8 sep.toNat] w fun e w' => e = .returned (.bool true) ∧ Below w.heap.size w w' := by
  have hB := Below.refl w.heap.size w
  cases hl : decide (4000 < (s.size : Int))
  · have ha : s.size ≤ 1000000 := by simp at hl; omega
    obtain ⟨m, hm⟩ := hM
    have hw0 : 0 < w.heap.size := by
      rcases Nat.lt_or_ge 0 w.heap.size with h' | h'
      · exact h'
      · simp [World.cell?, Array.getElem?_eq_none h'] at hm
    have hLz : (⟨(lowerL s.data.toList).toArray⟩ : ByteArray).size = s.size := by rw [Lib.size_eq, Lib.size_eq]; simp [lower_length]
    have hTz : (⟨(trimL s.data.toList).toArray⟩ : ByteArray).size ≤ 1000000 := by
      have := trimL_le s.data.toList; rw [← Lib.size_eq] at this; rw [Lib.size_eq]; simp; omega
    have k1 := fun w => lower_any s w ha
    have k2 := fun w => lower_any ⟨(lowerL s.data.toList).toArray⟩ w (by omega)
    rw [show (⟨(lowerL s.data.toList).toArray⟩ : ByteArray).data.toList = lowerL s.data.toList by simp, lower_twice] at k2
    have k3 := fun w => trim_any s w ha
    have k4 := fun w => trim_any ⟨(trimL s.data.toList).toArray⟩ w hTz
    rw [show (⟨(trimL s.data.toList).toArray⟩ : ByteArray).data.toList = trimL s.data.toList by simp, trim_twice] at k4
    have k5 := fun w => tsame_any ⟨(lowerL s.data.toList).toArray⟩ s w (by omega) ha
    rw [show (⟨(lowerL s.data.toList).toArray⟩ : ByteArray).data.toList = lowerL s.data.toList by simp, lower_twice, beq_self_eq_true] at k5
    have k6 := fun (w1 : World) (hB : Below w.heap.size w w1) => Tryd.strings_Contains s ⟨(trimL s.data.toList).toArray⟩ m w1 (by omega) ((hB.cell (p := ⟨0, 0, none⟩) hw0).trans hm)
    rw [show (⟨(trimL s.data.toList).toArray⟩ : ByteArray).data.toList = trimL s.data.toList by simp, contains_trim] at k6
    have k7 := fun w => token_any s w ha
    have q1 : (((⟨(lowerL s.data.toList).toArray⟩ : ByteArray).size : Int) != (s.size : Int)) = false := by rw [hLz]; simp
    clear hLz hTz hm
    cases htk : tokenL s.data.toList
    · rw [htk] at k7
      generalize (⟨(lowerL s.data.toList).toArray⟩ : ByteArray) = L at *
      generalize (⟨(trimL s.data.toList).toArray⟩ : ByteArray) = T at *
      have K1 := Lib.hid k1; have K2 := Lib.hid k2; have K3 := Lib.hid k3; have K4 := Lib.hid k4; have K5 := Lib.hid k5; have K6 := Lib.hid k6; have K7 := Lib.hid k7
      clear k1 k2 k3 k4 k5 k6 k7
      go_enter Tryd.func5, Tryd.ntmps5
      go_wp2_with (first | (go_at_call 8; go_in) | (go_at_call 12; first | (with_reducible refine (K1.out _).mono ?_; rintro e w' ⟨rfl, hb⟩; replace hB := bt hB hb; clear hb) | (with_reducible refine (K2.out _).mono ?_; rintro e w' ⟨rfl, hb⟩; replace hB := bt hB hb; clear hb)) | (go_at_call 16; first | (with_reducible refine (K3.out _).mono ?_; rintro e w' ⟨rfl, hb⟩; replace hB := bt hB hb; clear hb) | (with_reducible refine (K4.out _).mono ?_; rintro e w' ⟨rfl, hb⟩; replace hB := bt hB hb; clear hb)) | (go_at_call 14; refine (K5.out _).mono ?_; rintro e w' ⟨rfl, hb⟩; replace hB := bt hB hb; clear hb) | (go_at_call 21; refine (K6.out _ hB).mono ?_; rintro e w' ⟨rfl, rfl⟩) | (go_at_call 10; refine (K7.out _).mono ?_; rintro e w' ⟨rfl, rfl⟩) | (go_at_call 9; refine (awake_any _).mono ?_; rintro e w' ⟨rfl, hb⟩; replace hB := bt hB hb; clear hb))
      go_ret
      exact ⟨rfl, hB⟩
    · rw [htk] at k7
      rw [trim_token htk, str_of] at k3 k4 k6
      have k8 := fun w => unquote_any s w ha
      rw [unqP_token htk, show two none = .tuple #[.string ⟨#[]⟩, .int .i64 4] from rfl] at k8
      have k9 := fun w => Tryd.strings_IndexByte s (sep.toNat : Int) w
      rw [show ((sep.toNat : Int)).toNat.toUInt8 = sep by simp] at k9
      generalize (⟨(lowerL s.data.toList).toArray⟩ : ByteArray) = L at *
      have K1 := Lib.hid k1; have K2 := Lib.hid k2; have K3 := Lib.hid k3; have K4 := Lib.hid k4; have K5 := Lib.hid k5; have K6 := Lib.hid k6; have K7 := Lib.hid k7; have K8 := Lib.hid k8
      clear k1 k2 k3 k4 k5 k6 k7 k8
      cases hix : decide (0 ≤ Lib.indexByte s.data.toList sep)
      · cases q34 : ((sep.toNat : Int) == 34)
        · cases q92 : ((sep.toNat : Int) == 92)
          · have hno : ∀ c ∈ s.data.toList, (c.toNat == sep.toNat) = false := by
              rw [← Lib.contains_iff_indexByte] at hix
              intro c hc
              rw [beq_eq_false_iff_ne]; intro e
              have : c = sep := UInt8.toNat_inj.1 e
              subst this
              have : s.data.toList.contains c = true := by simpa using hc
              rw [this] at hix; cases hix
            have k10 := fun w => pieces_any s sep w ha
            rw [pieces_token htk hno ((beq_cast sep.toNat 34).trans q34) ((beq_cast sep.toNat 92).trans q92), str_of] at k10
            clear hno
            generalize Lib.indexByte s.data.toList sep = ix at *
            have K9 := Lib.hid k9; have K10 := Lib.hid k10
            clear k9 k10
            go_enter Tryd.func5, Tryd.ntmps5
            go_wp2_with (first | (go_at_call 8; go_in) | (go_at_call 12; first | (with_reducible refine (K1.out _).mono ?_; rintro e w' ⟨rfl, hb⟩; replace hB := bt hB hb; clear hb) | (with_reducible refine (K2.out _).mono ?_; rintro e w' ⟨rfl, hb⟩; replace hB := bt hB hb; clear hb)) | (go_at_call 16; first | (with_reducible refine (K3.out _).mono ?_; rintro e w' ⟨rfl, hb⟩; replace hB := bt hB hb; clear hb) | (with_reducible refine (K4.out _).mono ?_; rintro e w' ⟨rfl, hb⟩; replace hB := bt hB hb; clear hb)) | (go_at_call 14; refine (K5.out _).mono ?_; rintro e w' ⟨rfl, hb⟩; replace hB := bt hB hb; clear hb) | (go_at_call 21; refine (K6.out _ hB).mono ?_; rintro e w' ⟨rfl, rfl⟩) | (go_at_call 10; refine (K7.out _).mono ?_; rintro e w' ⟨rfl, rfl⟩) | (go_at_call 9; refine (awake_any _).mono ?_; rintro e w' ⟨rfl, hb⟩; replace hB := bt hB hb; clear hb) | (go_at_call 22; refine (K8.out _).mono ?_; rintro e w' ⟨rfl, hb⟩; replace hB := bt hB hb; clear hb) | (go_at_call 23; refine (K9.out _).mono ?_; rintro e w' ⟨rfl, rfl⟩) | (go_at_call 24; refine (K10.out _).mono ?_; rintro e w' ⟨rfl, hb⟩; replace hB := bt hB hb; clear hb))
            go_ret
            exact ⟨rfl, hB⟩
          · generalize Lib.indexByte s.data.toList sep = ix at *
            have K9 := Lib.hid k9; clear k9
            go_enter Tryd.func5, Tryd.ntmps5
            go_wp2_with (first | (go_at_call 8; go_in) | (go_at_call 12; first | (with_reducible refine (K1.out _).mono ?_; rintro e w' ⟨rfl, hb⟩; replace hB := bt hB hb; clear hb) | (with_reducible refine (K2.out _).mono ?_; rintro e w' ⟨rfl, hb⟩; replace hB := bt hB hb; clear hb)) | (go_at_call 16; first | (with_reducible refine (K3.out _).mono ?_; rintro e w' ⟨rfl, hb⟩; replace hB := bt hB hb; clear hb) | (with_reducible refine (K4.out _).mono ?_; rintro e w' ⟨rfl, hb⟩; replace hB := bt hB hb; clear hb)) | (go_at_call 14; refine (K5.out _).mono ?_; rintro e w' ⟨rfl, hb⟩; replace hB := bt hB hb; clear hb) | (go_at_call 21; refine (K6.out _ hB).mono ?_; rintro e w' ⟨rfl, rfl⟩) | (go_at_call 10; refine (K7.out _).mono ?_; rintro e w' ⟨rfl, rfl⟩) | (go_at_call 9; refine (awake_any _).mono ?_; rintro e w' ⟨rfl, hb⟩; replace hB := bt hB hb; clear hb) | (go_at_call 22; refine (K8.out _).mono ?_; rintro e w' ⟨rfl, hb⟩; replace hB := bt hB hb; clear hb) | (go_at_call 23; refine (K9.out _).mono ?_; rintro e w' ⟨rfl, rfl⟩))
            go_ret
            exact ⟨rfl, hB⟩
        · generalize Lib.indexByte s.data.toList sep = ix at *
          have K9 := Lib.hid k9; clear k9
          go_enter Tryd.func5, Tryd.ntmps5
          go_wp2_with (first | (go_at_call 8; go_in) | (go_at_call 12; first | (with_reducible refine (K1.out _).mono ?_; rintro e w' ⟨rfl, hb⟩; replace hB := bt hB hb; clear hb) | (with_reducible refine (K2.out _).mono ?_; rintro e w' ⟨rfl, hb⟩; replace hB := bt hB hb; clear hb)) | (go_at_call 16; first | (with_reducible refine (K3.out _).mono ?_; rintro e w' ⟨rfl, hb⟩; replace hB := bt hB hb; clear hb) | (with_reducible refine (K4.out _).mono ?_; rintro e w' ⟨rfl, hb⟩; replace hB := bt hB hb; clear hb)) | (go_at_call 14; refine (K5.out _).mono ?_; rintro e w' ⟨rfl, hb⟩; replace hB := bt hB hb; clear hb) | (go_at_call 21; refine (K6.out _ hB).mono ?_; rintro e w' ⟨rfl, rfl⟩) | (go_at_call 10; refine (K7.out _).mono ?_; rintro e w' ⟨rfl, rfl⟩) | (go_at_call 9; refine (awake_any _).mono ?_; rintro e w' ⟨rfl, hb⟩; replace hB := bt hB hb; clear hb) | (go_at_call 22; refine (K8.out _).mono ?_; rintro e w' ⟨rfl, hb⟩; replace hB := bt hB hb; clear hb) | (go_at_call 23; refine (K9.out _).mono ?_; rintro e w' ⟨rfl, rfl⟩))
          go_ret
          exact ⟨rfl, hB⟩
      · generalize Lib.indexByte s.data.toList sep = ix at *
        have K9 := Lib.hid k9; clear k9
        go_enter Tryd.func5, Tryd.ntmps5
        go_wp2_with (first | (go_at_call 8; go_in) | (go_at_call 12; first | (with_reducible refine (K1.out _).mono ?_; rintro e w' ⟨rfl, hb⟩; replace hB := bt hB hb; clear hb) | (with_reducible refine (K2.out _).mono ?_; rintro e w' ⟨rfl, hb⟩; replace hB := bt hB hb; clear hb)) | (go_at_call 16; first | (with_reducible refine (K3.out _).mono ?_; rintro e w' ⟨rfl, hb⟩; replace hB := bt hB hb; clear hb) | (with_reducible refine (K4.out _).mono ?_; rintro e w' ⟨rfl, hb⟩; replace hB := bt hB hb; clear hb)) | (go_at_call 14; refine (K5.out _).mono ?_; rintro e w' ⟨rfl, hb⟩; replace hB := bt hB hb; clear hb) | (go_at_call 21; refine (K6.out _ hB).mono ?_; rintro e w' ⟨rfl, rfl⟩) | (go_at_call 10; refine (K7.out _).mono ?_; rintro e w' ⟨rfl, rfl⟩) | (go_at_call 9; refine (awake_any _).mono ?_; rintro e w' ⟨rfl, hb⟩; replace hB := bt hB hb; clear hb) | (go_at_call 22; refine (K8.out _).mono ?_; rintro e w' ⟨rfl, hb⟩; replace hB := bt hB hb; clear hb) | (go_at_call 23; refine (K9.out _).mono ?_; rintro e w' ⟨rfl, rfl⟩))
        go_ret
        exact ⟨rfl, hB⟩
  · go_enter Tryd.func5, Tryd.ntmps5
    go_wp2_with (first | (go_at_call 8; go_in) | (go_at_call 9; refine (awake_any _).mono ?_; rintro e w' ⟨rfl, hb⟩; replace hB := bt hB hb; clear hb))
    go_ret
    exact ⟨rfl, hB⟩

theorem textStays_law (s : ByteArray) (x : Int) (wx : (Lit.int .u8 x).wf = true) (w : World) (hM : ∃ m, w.cell? ⟨0, 0, none⟩ = some (.int .i64 m)) :
    Calls Tryd.prog 5 #[.string s, .int .u8 x] w fun e w' => e = .returned (.bool true) ∧ Below w.heap.size w w' := by
  obtain ⟨b, rfl⟩ := byteOf wx
  exact textStays_any s b w hM
end Go.Proofs.YtclcigbcianimaaDoor
