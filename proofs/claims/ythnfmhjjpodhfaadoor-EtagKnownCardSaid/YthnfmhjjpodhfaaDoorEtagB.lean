/- The walks of etag.Parse, Strong, Weak and of the law's works. -/
import Derived.Test.YthnfmhjjpodhfaaDoorEtagA
namespace Go.Proofs.YthnfmhjjpodhfaaDoor
open Go.RowKit
def Ent.same (x y : Ent) : Bool := x.right && y.right && (x.tag.data.toList == y.tag.data.toList)
def Ent.sure (x y : Ent) : Bool := x.same y && !x.weak && !y.weak
set_option maxHeartbeats 1000000 in
theorem same_any (x y : Ent) (w : World) :
    Calls Tryd.prog 27 #[x.val, y.val] w fun e w' => e = .returned (.bool (x.same y)) ∧ Below w.heap.size w w' := by
  obtain ⟨xw, xr, xt⟩ := x
  obtain ⟨yw, yr, yt⟩ := y
  unfold Ent.same Ent.val
  cases xr <;> cases yr
  all_goals
    go_enter Tryd.func27, Tryd.ntmps27
    go_wp2
    go_ret
    exact ⟨by simp [Lib.toList_data], ((Below.refl _ _).alloc (Nat.le_refl _) _).alloc (by simp) _⟩
set_option maxHeartbeats 1000000 in
theorem sure_any (x y : Ent) (w : World) :
    Calls Tryd.prog 26 #[x.val, y.val] w fun e w' => e = .returned (.bool (x.sure y)) ∧ Below w.heap.size w w' := by
  unfold Ent.sure
  have hsame := fun w => same_any x y w
  cases hh : x.same y
  · rw [hh] at hsame
    have H := Lib.hid hsame
    clear hsame hh
    obtain ⟨xw, xr, xt⟩ := x
    obtain ⟨yw, yr, yt⟩ := y
    unfold Ent.val at *
    go_enter Tryd.func26, Tryd.ntmps26
    go_wp2_with (go_at_call 27; refine (H.out _).mono ?_; rintro e w' ⟨rfl, hb⟩)
    go_ret
    exact ⟨by simp, (((Below.refl _ _).alloc (Nat.le_refl _) _).alloc (by simp) _).trans (hb.mono (by simp; omega))⟩
  · rw [hh] at hsame
    have H := Lib.hid hsame
    clear hsame hh
    obtain ⟨xw, xr, xt⟩ := x
    obtain ⟨yw, yr, yt⟩ := y
    unfold Ent.val at *
    cases xw
    all_goals
      go_enter Tryd.func26, Tryd.ntmps26
      go_wp2_with (go_at_call 27; refine (H.out _).mono ?_; rintro e w' ⟨rfl, hb⟩; have h1 := hb.cell (p := ⟨w.heap.size, 0, none⟩) (by simp; omega); have h2 := hb.cell (p := ⟨w.heap.size + 1, 0, none⟩) (by simp); simp [go_sem] at h1 h2)
      go_ret
      exact ⟨by simp, (((Below.refl _ _).alloc (Nat.le_refl _) _).alloc (by simp) _).trans (hb.mono (by simp; omega))⟩

set_option maxHeartbeats 1000000 in
theorem strong_any (a b : ByteArray) (w : World) (ha : a.size ≤ 8000) (hb : b.size ≤ 8000) :
    Calls Tryd.prog 11 #[.string a, .string b] w fun e w' => e = .returned (.bool ((ent a).sure (ent b))) ∧ Below w.heap.size w w' := by
  have hB := Below.refl w.heap.size w
  go_enter Tryd.func11, Tryd.ntmps11
  go_wp2_with (first | (go_at_call 20; refine (rd _ _ (by assumption)).mono ?_; rintro e w' ⟨rfl, hb⟩; replace hB := bt hB hb; clear hb) | (go_at_call 26; refine (sure_any _ _ _).mono ?_; rintro e w' ⟨rfl, hb⟩; replace hB := bt hB hb; clear hb) | (go_at_call 25; go_in))
  go_ret
  exact ⟨rfl, hB⟩
set_option maxHeartbeats 1000000 in
theorem weak_any (a b : ByteArray) (w : World) (ha : a.size ≤ 8000) (hb : b.size ≤ 8000) :
    Calls Tryd.prog 13 #[.string a, .string b] w fun e w' => e = .returned (.bool ((ent a).same (ent b))) ∧ Below w.heap.size w w' := by
  have hB := Below.refl w.heap.size w
  go_enter Tryd.func13, Tryd.ntmps13
  go_wp2_with (first | (go_at_call 20; refine (rd _ _ (by assumption)).mono ?_; rintro e w' ⟨rfl, hb⟩; replace hB := bt hB hb; clear hb) | (go_at_call 27; refine (same_any _ _ _).mono ?_; rintro e w' ⟨rfl, hb⟩; replace hB := bt hB hb; clear hb) | (go_at_call 25; go_in))
  go_ret
  exact ⟨rfl, hB⟩
set_option maxHeartbeats 1000000 in
theorem parse_yes (a : ByteArray) (w : World) (ha : a.size ≤ 8000) (h : (ent a).right = true) :
    Calls Tryd.prog 6 #[.string a] w fun e w' => e = .returned (.tuple #[.bool (ent a).weak, .string (ent a).tag, .int .i64 0]) ∧ Below w.heap.size w w' := by
  have hr := rd a
  unfold Ent.val at hr
  rw [h] at hr
  have H := Lib.hid hr
  clear h hr
  generalize (ent a).weak = wk at *
  generalize (ent a).tag = tg at *
  go_enter Tryd.func6, Tryd.ntmps6
  go_wp2_with (go_at_call 20; refine (H.out _ ha).mono ?_; rintro e w' ⟨rfl, hb⟩)
  go_quiet (fail)
  go_wp2
  go_ret3
  exact ⟨rfl, below_drewN (hb.alloc hb.size _) _⟩
set_option maxHeartbeats 1000000 in
theorem parse_no (a : ByteArray) (w : World) (ha : a.size ≤ 8000) (h : (ent a).right = false) :
    Calls Tryd.prog 6 #[.string a] w fun e w' => e = .returned (.tuple #[.bool false, .string empt, .int .i64 4]) ∧ Below w.heap.size w w' := by
  have hr := rd a
  unfold Ent.val at hr
  rw [h] at hr
  have H := Lib.hid hr
  clear h hr
  generalize (ent a).weak = wk at *
  generalize (ent a).tag = tg at *
  go_enter Tryd.func6, Tryd.ntmps6
  go_wp2_with (go_at_call 20; refine (H.out _ ha).mono ?_; rintro e w' ⟨rfl, hb⟩)
  go_ret3
  exact ⟨rfl, hb.alloc hb.size _⟩

def Ent.parse (x : Ent) : Value := bif x.right then .tuple #[.bool x.weak, .string x.tag, .int .i64 0] else .tuple #[.bool false, .string empt, .int .i64 4]
theorem parse_any (a : ByteArray) (w : World) (ha : a.size ≤ 8000) :
    Calls Tryd.prog 6 #[.string a] w fun e w' => e = .returned (ent a).parse ∧ Below w.heap.size w w' := by
  unfold Ent.parse
  cases h : (ent a).right
  · exact parse_no a w ha h
  · exact parse_yes a w ha h
/-! closed answers -/
set_option maxHeartbeats 1000000 in
theorem works_any (w : World) :
    Calls Tryd.prog 5 #[] w fun e w' => e = .returned (.bool true) ∧ Below w.heap.size w w' := by
  have h1 : (ent ⟨#[87, 47, 34, 97, 34]⟩).parse = .tuple #[.bool true, .string ⟨#[97]⟩, .int .i64 0] := by rfl
  have h2 : (ent ⟨#[97]⟩).parse = .tuple #[.bool false, .string ⟨#[]⟩, .int .i64 4] := by rfl
  have h3 : (ent ⟨#[87, 47, 34, 97, 34]⟩).same (ent ⟨#[34, 97, 34]⟩) = true := by rfl
  have h4 : (ent ⟨#[87, 47, 34, 97, 34]⟩).sure (ent ⟨#[34, 97, 34]⟩) = false := by rfl
  have h5 : (ent ⟨#[34, 97, 34]⟩).sure (ent ⟨#[34, 97, 34]⟩) = true := by rfl
  have H1 := Lib.hid h1; have H2 := Lib.hid h2; have H3 := Lib.hid h3; have H4 := Lib.hid h4; have H5 := Lib.hid h5
  clear h1 h2 h3 h4 h5
  have hB := Below.refl w.heap.size w
  go_enter Tryd.func5, Tryd.ntmps5
  go_wp2_with (first | (go_at_call 6; refine (parse_any _ _ (by decide)).mono ?_; rintro e w' ⟨rfl, hb⟩; replace hB := bt hB hb; clear hb; first | rw [H1.out] | rw [H2.out]) | (go_at_call 13; refine (weak_any _ _ _ (by decide) (by decide)).mono ?_; rintro e w' ⟨rfl, hb⟩; replace hB := bt hB hb; clear hb; rw [H3.out]) | (go_at_call 11; refine (strong_any _ _ _ (by decide) (by decide)).mono ?_; rintro e w' ⟨rfl, hb⟩; replace hB := bt hB hb; clear hb; first | rw [H4.out] | rw [H5.out]) | (go_at_call 15; go_in) | (go_at_call 16; go_in))
  go_ret
  exact ⟨rfl, hB⟩
end Go.Proofs.YthnfmhjjpodhfaaDoor
