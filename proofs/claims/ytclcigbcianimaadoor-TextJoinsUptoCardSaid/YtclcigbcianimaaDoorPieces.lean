/- inlaylaw01.pieces. -/
import Derived.Test.YtclcigbcianimaaDoorJoin
import Derived.Test.YtclcigbcianimaaDoorTextS
namespace Go.Proofs.YtclcigbcianimaaDoor
open Go.RowKit

set_option maxHeartbeats 4000000 in
theorem pieces_any (s : ByteArray) (sep : UInt8) (w : World) (hs : s.size ≤ 1000000) :
    Calls Tryd.prog 24 #[.string s, .int .u8 sep.toNat] w fun e w' => e = .returned (.string ⟨(piecesL sep s.data.toList).toArray⟩) ∧ Below w.heap.size w w' := by
  have k1 := split_any s sep w hs
  have hcn := splitL_le sep s.data.toList
  have her := split_err sep s.data.toList
  have hto := split_total sep s.data.toList
  unfold piecesL
  rw [← Lib.size_eq] at hto
  generalize splitL sep s.data.toList = r at *
  obtain ⟨ls, n⟩ := r
  simp only at hcn her hto
  have K1 := Lib.hid k1; clear k1
  cases he : (n == 0)
  · rw [cond_false]
    have hn : n = 1 ∨ n = 2 ∨ n = 3 ∨ n = 4 := by simp at he; omega
    have hout : ∃ o : ByteArray, o = ⟨#[101, 114, 114, 111, 114, 32, 48 + UInt8.ofNat n.toNat]⟩ := ⟨_, rfl⟩
    obtain ⟨o, ho⟩ := hout
    rw [← ho]
    have hcv : ∀ w1 : World, (convert 43 9 (.slice (some ⟨w1.heap.size, 0, none⟩) 1 1)).run Tryd.prog (w1.alloc (.cells #[.int .u8 (48 + n)] 5)) = .ok (.string (strOfNums [48 + n])) (w1.alloc (.cells #[.int .u8 (48 + n)] 5)) := fun w1 =>
      run_convert_bytes_arg (P := Tryd.prog) _ 43 5 Tryd.underlying43 Tryd.underlying5 w1.heap.size 0 1 1 [48 + n] rfl (by intro i hi; obtain rfl : i = 0 := (by omega); exact World.cell?_alloc_mark w1 _ _ _ 0) 9 Tryd.underlying9
    have hcat : (⟨#[101, 114, 114, 111, 114, 32]⟩ : ByteArray) ++ strOfNums [48 + n] = o := by
      rw [ho]
      rcases hn with rfl | rfl | rfl | rfl <;> exact str_eq _ _ rfl
    have HC := Lib.hid hcat; clear hcat ho
    have hn1 : (n != 0) = true := by simp [bne, he]
    go_enter Tryd.func24, Tryd.ntmps24
    go_wp2_with (go_at_call 18; refine K1.out.mono ?_; rintro e w1 ⟨a1, c1, rfl, ho1, hb1⟩)
    go_ret
    rw [← HC.out]
    exact ⟨rfl, hb1.alloc hb1.size _⟩
  · rw [cond_true]
    have hn : n = 0 := by simpa using he
    subst hn
    go_enter Tryd.func24, Tryd.ntmps24
    go_wp2_with (first | (go_at_call 18; refine K1.out.mono ?_; rintro e w1 ⟨a1, c1, rfl, ho1, hb1⟩) | (go_at_call 27; refine (join_any _ c1 a1 ls ⟨#[124]⟩ _ ho1 (by omega) (by rw [show (⟨#[124]⟩ : ByteArray).size = 1 from rfl]; omega)).mono ?_; rintro e w2 ⟨rfl, hb2⟩))
    go_ret
    exact ⟨rfl, bt hb1 hb2⟩
end Go.Proofs.YtclcigbcianimaaDoor
