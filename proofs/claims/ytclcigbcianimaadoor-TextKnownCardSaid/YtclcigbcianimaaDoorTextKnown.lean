/- TextKnown: the walk of the law (printed by wip/tools/known01.py). -/
import Derived.Test.YtclcigbcianimaaDoorPieces
import Derived.Test.YtclcigbcianimaaDoorAwake01
namespace Go.Proofs.YtclcigbcianimaaDoor
open Go.RowKit

/-- What 'unquoted' hands back. -/
def unqdL (l : List UInt8) : List UInt8 := (unqP l).getD [45]
set_option maxHeartbeats 4000000 in
theorem unquoted_any (s : ByteArray) (w : World) (hs : s.size ≤ 1000000) :
    Calls Tryd.prog 28 #[.string s] w fun e w' => e = .returned (.string ⟨(unqdL s.data.toList).toArray⟩) ∧ Below w.heap.size w w' := by
  have k1 := unquote_any s w hs
  unfold unqdL
  cases hq : unqP s.data.toList with
  | none =>
    rw [hq, show two none = .tuple #[.string ⟨#[]⟩, .int .i64 4] from rfl] at k1
    have K1 := Lib.hid k1; clear k1
    go_enter Tryd.func28, Tryd.ntmps28
    go_wp2_with (go_at_call 22; refine K1.out.mono ?_; rintro e w1 ⟨rfl, hb1⟩)
    go_ret
    exact ⟨rfl, hb1⟩
  | some l =>
    rw [hq, show two (some l) = .tuple #[.string ⟨l.toArray⟩, .int .i64 0] from rfl] at k1
    rw [show (some l).getD [45] = l from rfl]
    generalize (⟨l.toArray⟩ : ByteArray) = t at *
    have K1 := Lib.hid k1; clear k1
    go_enter Tryd.func28, Tryd.ntmps28
    go_wp2_with (go_at_call 22; refine K1.out.mono ?_; rintro e w1 ⟨rfl, hb1⟩)
    go_ret
    exact ⟨rfl, hb1⟩

theorem kn0 (w : World) : Calls Tryd.prog 10 #[.string ⟨#[]⟩] w fun e w' => e = .returned (.bool false) ∧ w = w' :=
  (token_any ⟨#[]⟩ w (by decide)).mono (by rintro e w' ⟨rfl, hb⟩; exact ⟨congrArg Ending.returned (by kernel_rfl), hb⟩)
theorem kn1 (w : World) : Calls Tryd.prog 10 #[.string ⟨#[97, 32, 98]⟩] w fun e w' => e = .returned (.bool false) ∧ w = w' :=
  (token_any ⟨#[97, 32, 98]⟩ w (by decide)).mono (by rintro e w' ⟨rfl, hb⟩; exact ⟨congrArg Ending.returned (by kernel_rfl), hb⟩)
theorem kn2 (w : World) : Calls Tryd.prog 10 #[.string ⟨#[34]⟩] w fun e w' => e = .returned (.bool false) ∧ w = w' :=
  (token_any ⟨#[34]⟩ w (by decide)).mono (by rintro e w' ⟨rfl, hb⟩; exact ⟨congrArg Ending.returned (by kernel_rfl), hb⟩)
theorem kn3 (w : World) : Calls Tryd.prog 14 #[.string ⟨#[86, 97, 114, 121]⟩, .string ⟨#[118, 65, 82, 89]⟩] w fun e w' => e = .returned (.bool true) ∧ Below w.heap.size w w' :=
  (tsame_any ⟨#[86, 97, 114, 121]⟩ ⟨#[118, 65, 82, 89]⟩ w (by decide) (by decide)).mono (by rintro e w' ⟨rfl, hb⟩; exact ⟨congrArg Ending.returned (by kernel_rfl), hb⟩)
theorem kn4 (w : World) : Calls Tryd.prog 14 #[.string ⟨#[97]⟩, .string ⟨#[98]⟩] w fun e w' => e = .returned (.bool false) ∧ Below w.heap.size w w' :=
  (tsame_any ⟨#[97]⟩ ⟨#[98]⟩ w (by decide) (by decide)).mono (by rintro e w' ⟨rfl, hb⟩; exact ⟨congrArg Ending.returned (by kernel_rfl), hb⟩)
theorem kn5 (w : World) : Calls Tryd.prog 16 #[.string ⟨#[32, 32, 97, 32, 98, 9]⟩] w fun e w' => e = .returned (.string ⟨#[97, 32, 98]⟩) ∧ Below w.heap.size w w' :=
  (trim_any ⟨#[32, 32, 97, 32, 98, 9]⟩ w (by decide)).mono (by rintro e w' ⟨rfl, hb⟩; exact ⟨congrArg Ending.returned (by kernel_rfl), hb⟩)
theorem kn6 (w : World) : Calls Tryd.prog 16 #[.string ⟨#[32, 9]⟩] w fun e w' => e = .returned (.string ⟨#[]⟩) ∧ Below w.heap.size w w' :=
  (trim_any ⟨#[32, 9]⟩ w (by decide)).mono (by rintro e w' ⟨rfl, hb⟩; exact ⟨congrArg Ending.returned (by kernel_rfl), hb⟩)
theorem kn7 (w : World) : Calls Tryd.prog 25 #[.string ⟨#[10]⟩] w fun e w' => e = .returned (.tuple #[.string ⟨#[]⟩, .int .i64 4]) ∧ Below w.heap.size w w' :=
  (quote_any ⟨#[10]⟩ w (by decide)).mono (by rintro e w' ⟨rfl, hb⟩; exact ⟨congrArg Ending.returned (by kernel_rfl), hb⟩)
theorem kn8 (w : World) : Calls Tryd.prog 25 #[.string ⟨#[127]⟩] w fun e w' => e = .returned (.tuple #[.string ⟨#[]⟩, .int .i64 4]) ∧ Below w.heap.size w w' :=
  (quote_any ⟨#[127]⟩ w (by decide)).mono (by rintro e w' ⟨rfl, hb⟩; exact ⟨congrArg Ending.returned (by kernel_rfl), hb⟩)
theorem kn9 (w : World) : Calls Tryd.prog 25 #[.string ⟨#[9, 128]⟩] w fun e w' => e = .returned (.tuple #[.string ⟨#[34, 9, 128, 34]⟩, .int .i64 0]) ∧ Below w.heap.size w w' :=
  (quote_any ⟨#[9, 128]⟩ w (by decide)).mono (by rintro e w' ⟨rfl, hb⟩; exact ⟨congrArg Ending.returned (by kernel_rfl), hb⟩)
theorem kn10 (w : World) : Calls Tryd.prog 28 #[.string ⟨#[34, 92, 97, 34]⟩] w fun e w' => e = .returned (.string ⟨#[97]⟩) ∧ Below w.heap.size w w' :=
  (unquoted_any ⟨#[34, 92, 97, 34]⟩ w (by decide)).mono (by rintro e w' ⟨rfl, hb⟩; exact ⟨congrArg Ending.returned (by kernel_rfl), hb⟩)
theorem kn11 (w : World) : Calls Tryd.prog 28 #[.string ⟨#[97]⟩] w fun e w' => e = .returned (.string ⟨#[45]⟩) ∧ Below w.heap.size w w' :=
  (unquoted_any ⟨#[97]⟩ w (by decide)).mono (by rintro e w' ⟨rfl, hb⟩; exact ⟨congrArg Ending.returned (by kernel_rfl), hb⟩)
theorem kn12 (w : World) : Calls Tryd.prog 28 #[.string ⟨#[34, 97, 34, 98, 34]⟩] w fun e w' => e = .returned (.string ⟨#[45]⟩) ∧ Below w.heap.size w w' :=
  (unquoted_any ⟨#[34, 97, 34, 98, 34]⟩ w (by decide)).mono (by rintro e w' ⟨rfl, hb⟩; exact ⟨congrArg Ending.returned (by kernel_rfl), hb⟩)
theorem kn13 (w : World) : Calls Tryd.prog 28 #[.string ⟨#[34]⟩] w fun e w' => e = .returned (.string ⟨#[45]⟩) ∧ Below w.heap.size w w' :=
  (unquoted_any ⟨#[34]⟩ w (by decide)).mono (by rintro e w' ⟨rfl, hb⟩; exact ⟨congrArg Ending.returned (by kernel_rfl), hb⟩)
theorem kn14 (w : World) : Calls Tryd.prog 28 #[.string ⟨#[34, 97, 92, 34]⟩] w fun e w' => e = .returned (.string ⟨#[45]⟩) ∧ Below w.heap.size w w' :=
  (unquoted_any ⟨#[34, 97, 92, 34]⟩ w (by decide)).mono (by rintro e w' ⟨rfl, hb⟩; exact ⟨congrArg Ending.returned (by kernel_rfl), hb⟩)
theorem kn15 (w : World) : Calls Tryd.prog 28 #[.string ⟨#[34, 34]⟩] w fun e w' => e = .returned (.string ⟨#[]⟩) ∧ Below w.heap.size w w' :=
  (unquoted_any ⟨#[34, 34]⟩ w (by decide)).mono (by rintro e w' ⟨rfl, hb⟩; exact ⟨congrArg Ending.returned (by kernel_rfl), hb⟩)
theorem kn16 (w : World) : Calls Tryd.prog 28 #[.string ⟨#[34, 92, 10, 34]⟩] w fun e w' => e = .returned (.string ⟨#[45]⟩) ∧ Below w.heap.size w w' :=
  (unquoted_any ⟨#[34, 92, 10, 34]⟩ w (by decide)).mono (by rintro e w' ⟨rfl, hb⟩; exact ⟨congrArg Ending.returned (by kernel_rfl), hb⟩)
theorem kn17 (w : World) : Calls Tryd.prog 28 #[.string ⟨#[]⟩] w fun e w' => e = .returned (.string ⟨#[45]⟩) ∧ Below w.heap.size w w' :=
  (unquoted_any ⟨#[]⟩ w (by decide)).mono (by rintro e w' ⟨rfl, hb⟩; exact ⟨congrArg Ending.returned (by kernel_rfl), hb⟩)
theorem kn18 (w : World) : Calls Tryd.prog 24 #[.string ⟨#[97, 44, 32, 98, 34, 44, 34, 32, 44, 32, 44, 99]⟩, .int .u8 44] w fun e w' => e = .returned (.string ⟨#[97, 124, 98, 34, 44, 34, 124, 99]⟩) ∧ Below w.heap.size w w' :=
  (pieces_any ⟨#[97, 44, 32, 98, 34, 44, 34, 32, 44, 32, 44, 99]⟩ 44 w (by decide)).mono (by rintro e w' ⟨rfl, hb⟩; exact ⟨congrArg Ending.returned (by kernel_rfl), hb⟩)
theorem kn19 (w : World) : Calls Tryd.prog 24 #[.string ⟨#[34, 97]⟩, .int .u8 44] w fun e w' => e = .returned (.string ⟨#[101, 114, 114, 111, 114, 32, 52]⟩) ∧ Below w.heap.size w w' :=
  (pieces_any ⟨#[34, 97]⟩ 44 w (by decide)).mono (by rintro e w' ⟨rfl, hb⟩; exact ⟨congrArg Ending.returned (by kernel_rfl), hb⟩)
theorem kn20 (w : World) : Calls Tryd.prog 24 #[.string ⟨#[97]⟩, .int .u8 34] w fun e w' => e = .returned (.string ⟨#[101, 114, 114, 111, 114, 32, 50]⟩) ∧ Below w.heap.size w w' :=
  (pieces_any ⟨#[97]⟩ 34 w (by decide)).mono (by rintro e w' ⟨rfl, hb⟩; exact ⟨congrArg Ending.returned (by kernel_rfl), hb⟩)
theorem kn21 (w : World) : Calls Tryd.prog 24 #[.string ⟨#[97]⟩, .int .u8 92] w fun e w' => e = .returned (.string ⟨#[101, 114, 114, 111, 114, 32, 50]⟩) ∧ Below w.heap.size w w' :=
  (pieces_any ⟨#[97]⟩ 92 w (by decide)).mono (by rintro e w' ⟨rfl, hb⟩; exact ⟨congrArg Ending.returned (by kernel_rfl), hb⟩)
theorem kn22 (w : World) : Calls Tryd.prog 24 #[.string ⟨#[]⟩, .int .u8 44] w fun e w' => e = .returned (.string ⟨#[]⟩) ∧ Below w.heap.size w w' :=
  (pieces_any ⟨#[]⟩ 44 w (by decide)).mono (by rintro e w' ⟨rfl, hb⟩; exact ⟨congrArg Ending.returned (by kernel_rfl), hb⟩)
theorem kn23 (w : World) : Calls Tryd.prog 24 #[.string ⟨#[97, 92, 44, 98]⟩, .int .u8 44] w fun e w' => e = .returned (.string ⟨#[97, 92, 124, 98]⟩) ∧ Below w.heap.size w w' :=
  (pieces_any ⟨#[97, 92, 44, 98]⟩ 44 w (by decide)).mono (by rintro e w' ⟨rfl, hb⟩; exact ⟨congrArg Ending.returned (by kernel_rfl), hb⟩)
theorem kn24 (w : World) : Calls Tryd.prog 24 #[.string ⟨#[34, 97, 92, 34, 44, 34, 59, 98]⟩, .int .u8 59] w fun e w' => e = .returned (.string ⟨#[34, 97, 92, 34, 44, 34, 124, 98]⟩) ∧ Below w.heap.size w w' :=
  (pieces_any ⟨#[34, 97, 92, 34, 44, 34, 59, 98]⟩ 59 w (by decide)).mono (by rintro e w' ⟨rfl, hb⟩; exact ⟨congrArg Ending.returned (by kernel_rfl), hb⟩)

def manyL : ByteArray := ⟨(Lib.repeatL [97, 44] 64).toArray⟩
theorem many1 (w : World) : Calls Tryd.prog 26 #[.string ⟨#[97, 44]⟩, .int .i64 64] w fun e w' => e = .returned (.string manyL) ∧ Below w.heap.size w w' :=
  Tryd.strings_Repeat ⟨#[97, 44]⟩ 64 w (by decide) (by decide)
def manyP : ByteArray := ⟨(piecesL 44 manyL.data.toList).toArray⟩
theorem many2 (w : World) : Calls Tryd.prog 24 #[.string manyL, .int .u8 44] w fun e w' => e = .returned (.string manyP) ∧ Below w.heap.size w w' :=
  pieces_any manyL 44 w (of_decide_eq_true (by kernel_rfl))
theorem many7 : manyL.size = 128 := by kernel_rfl
theorem many3 : (manyP.size : Int) = 127 := by kernel_rfl
theorem many5 : (⟨(piecesL 44 (manyL ++ ⟨#[97]⟩).data.toList).toArray⟩ : ByteArray) = ⟨#[101, 114, 114, 111, 114, 32, 51]⟩ := by kernel_rfl
theorem many6 : (manyL ++ ⟨#[97]⟩ : ByteArray).size ≤ 1000000 := of_decide_eq_true (by kernel_rfl)
theorem many4 (w : World) : Calls Tryd.prog 24 #[.string (manyL ++ ⟨#[97]⟩), .int .u8 44] w fun e w' => e = .returned (.string ⟨#[101, 114, 114, 111, 114, 32, 51]⟩) ∧ Below w.heap.size w w' := by
  have h := many6
  rw [← many5]
  generalize (manyL ++ ⟨#[97]⟩ : ByteArray) = M at *
  exact pieces_any M 44 w h

set_option maxHeartbeats 8000000 in
theorem textKnown_any (w : World) (_ : True) :
    Calls Tryd.prog 7 #[] w fun e w' => e = .returned (.bool true) ∧ Below w.heap.size w w' := by
  have hB := Below.refl w.heap.size w
  have m1 := many1; have m2 := many2; have m3 := many3; have m4 := many4; have m7 := many7
  generalize manyP = P at *
  generalize manyL = M at *
  have M1 := Lib.hid m1; have M2 := Lib.hid m2; have M4 := Lib.hid m4; clear m1 m2 m4
  have hp : ((P.size : Int) == 127) = true := by rw [m3]; rfl
  clear m3
  go_enter Tryd.func7, Tryd.ntmps7
  go_wp2_with (first | (go_at_call 10; first | (with_reducible refine (kn0 _).mono ?_; rintro e w' ⟨rfl, hb⟩; subst hb) | (with_reducible refine (kn1 _).mono ?_; rintro e w' ⟨rfl, hb⟩; subst hb) | (with_reducible refine (kn2 _).mono ?_; rintro e w' ⟨rfl, hb⟩; subst hb)) | (go_at_call 14; first | (with_reducible refine (kn3 _).mono ?_; rintro e w' ⟨rfl, hb⟩; replace hB := bt hB hb; clear hb) | (with_reducible refine (kn4 _).mono ?_; rintro e w' ⟨rfl, hb⟩; replace hB := bt hB hb; clear hb)) | (go_at_call 16; first | (with_reducible refine (kn5 _).mono ?_; rintro e w' ⟨rfl, hb⟩; replace hB := bt hB hb; clear hb) | (with_reducible refine (kn6 _).mono ?_; rintro e w' ⟨rfl, hb⟩; replace hB := bt hB hb; clear hb)) | (go_at_call 25; first | (with_reducible refine (kn7 _).mono ?_; rintro e w' ⟨rfl, hb⟩; replace hB := bt hB hb; clear hb) | (with_reducible refine (kn8 _).mono ?_; rintro e w' ⟨rfl, hb⟩; replace hB := bt hB hb; clear hb) | (with_reducible refine (kn9 _).mono ?_; rintro e w' ⟨rfl, hb⟩; replace hB := bt hB hb; clear hb)) | (go_at_call 28; first | (with_reducible refine (kn10 _).mono ?_; rintro e w' ⟨rfl, hb⟩; replace hB := bt hB hb; clear hb) | (with_reducible refine (kn11 _).mono ?_; rintro e w' ⟨rfl, hb⟩; replace hB := bt hB hb; clear hb) | (with_reducible refine (kn12 _).mono ?_; rintro e w' ⟨rfl, hb⟩; replace hB := bt hB hb; clear hb) | (with_reducible refine (kn13 _).mono ?_; rintro e w' ⟨rfl, hb⟩; replace hB := bt hB hb; clear hb) | (with_reducible refine (kn14 _).mono ?_; rintro e w' ⟨rfl, hb⟩; replace hB := bt hB hb; clear hb) | (with_reducible refine (kn15 _).mono ?_; rintro e w' ⟨rfl, hb⟩; replace hB := bt hB hb; clear hb) | (with_reducible refine (kn16 _).mono ?_; rintro e w' ⟨rfl, hb⟩; replace hB := bt hB hb; clear hb) | (with_reducible refine (kn17 _).mono ?_; rintro e w' ⟨rfl, hb⟩; replace hB := bt hB hb; clear hb)) | (go_at_call 24; first | (with_reducible refine (kn18 _).mono ?_; rintro e w' ⟨rfl, hb⟩; replace hB := bt hB hb; clear hb) | (with_reducible refine (kn19 _).mono ?_; rintro e w' ⟨rfl, hb⟩; replace hB := bt hB hb; clear hb) | (with_reducible refine (kn20 _).mono ?_; rintro e w' ⟨rfl, hb⟩; replace hB := bt hB hb; clear hb) | (with_reducible refine (kn21 _).mono ?_; rintro e w' ⟨rfl, hb⟩; replace hB := bt hB hb; clear hb) | (with_reducible refine (kn22 _).mono ?_; rintro e w' ⟨rfl, hb⟩; replace hB := bt hB hb; clear hb) | (with_reducible refine (kn23 _).mono ?_; rintro e w' ⟨rfl, hb⟩; replace hB := bt hB hb; clear hb) | (with_reducible refine (kn24 _).mono ?_; rintro e w' ⟨rfl, hb⟩; replace hB := bt hB hb; clear hb) | (with_reducible refine (M2.out _).mono ?_; rintro e w' ⟨rfl, hb⟩; replace hB := bt hB hb; clear hb) | (with_reducible refine (M4.out _).mono ?_; rintro e w' ⟨rfl, hb⟩; replace hB := bt hB hb; clear hb)) | (go_at_call 26; refine (M1.out _).mono ?_; rintro e w' ⟨rfl, hb⟩; replace hB := bt hB hb; clear hb) | (go_at_call 9; refine (awake_any _).mono ?_; rintro e w' ⟨rfl, hb⟩; replace hB := bt hB hb; clear hb))
  go_ret
  exact ⟨rfl, hB⟩
end Go.Proofs.YtclcigbcianimaaDoor
