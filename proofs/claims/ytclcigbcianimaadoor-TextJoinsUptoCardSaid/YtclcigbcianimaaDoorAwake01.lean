/- inlaylaw01.awake, unquoted, long: what they answer. -/
import Derived.Test.YtclcigbcianimaaDoorQuote
import Derived.Test.YtclcigbcianimaaDoorToken
namespace Go.Proofs.YtclcigbcianimaaDoor
open Go.RowKit

theorem unq_back : ∀ (l : List UInt8), l.all plainb = true → unq false (l.flatMap esc) = some l
  | [], _ => rfl
  | c :: r, h => by
    rw [List.all_cons, Bool.and_eq_true] at h
    have ih := unq_back r h.2
    have p92 : plainb 92 = true := rfl
    rw [List.flatMap_cons]
    cases h34 : (c.toNat == 34) <;> cases h92 : (c.toNat == 92)
    all_goals simp [esc, unq, h34, h92, h.1, ih, p92]
theorem unqP_back (s : ByteArray) (h : s.data.toList.all plainb = true) : unqP (quoted s) = some s.data.toList := by
  have e : quoted s = 34 :: (s.data.toList.flatMap esc ++ [34]) := rfl
  unfold unqP
  rw [e]
  have h1 : (34 :: (s.data.toList.flatMap esc ++ [34])).getLast? = some 34 := by rw [← List.cons_append, List.getLast?_append]; rfl
  have h2 : ((34 :: (s.data.toList.flatMap esc ++ [34])).drop 1).dropLast = s.data.toList.flatMap esc := by simp
  have h3 : decide (2 ≤ (34 :: (s.data.toList.flatMap esc ++ [34])).length) = true := by
    rw [decide_eq_true_iff, List.length_cons, List.length_append, List.length_singleton]; omega
  rw [h1, h2, h3, unq_back _ h]; rfl

set_option maxHeartbeats 2000000 in
theorem awake_any (w : World) :
    Calls Tryd.prog 9 #[] w fun e w' => e = .returned (.bool true) ∧ Below w.heap.size w w' := by
  have h1 : two (quoteO ⟨#[97, 34, 98, 92]⟩) = .tuple #[.string ⟨#[34, 97, 92, 34, 98, 92, 92, 34]⟩, .int .i64 0] := by rfl
  have h2 : tokenL (ByteArray.mk #[97, 45, 66, 126, 57]).data.toList = true := by rfl
  have h3 : two (unqP (ByteArray.mk #[34, 97, 92, 34, 98, 34]).data.toList) = .tuple #[.string ⟨#[97, 34, 98]⟩, .int .i64 0] := by rfl
  have h4 : (⟨(lowerL (ByteArray.mk #[65, 66, 122, 45, 49]).data.toList).toArray⟩ : ByteArray) = ⟨#[97, 98, 122, 45, 49]⟩ := by rfl
  have H1 := Lib.hid h1; have H2 := Lib.hid h2; have H3 := Lib.hid h3; have H4 := Lib.hid h4
  clear h1 h2 h3 h4
  have hB := Below.refl w.heap.size w
  go_enter Tryd.func9, Tryd.ntmps9
  go_wp2_with (first | (go_at_call 25; refine (quote_any _ _ (by decide)).mono ?_; rintro e w' ⟨rfl, hb⟩; replace hB := bt hB hb; clear hb; rw [H1.out]) | (go_at_call 10; refine (token_any _ _ (by decide)).mono ?_; rintro e w' ⟨rfl, rfl⟩; rw [H2.out]) | (go_at_call 22; refine (unquote_any _ _ (by decide)).mono ?_; rintro e w' ⟨rfl, hb⟩; replace hB := bt hB hb; clear hb; rw [H3.out]) | (go_at_call 12; refine (lower_any _ _ (by decide)).mono ?_; rintro e w' ⟨rfl, hb⟩; replace hB := bt hB hb; clear hb; rw [H4.out]) | (go_at_call 28; go_in))
  go_ret
  exact ⟨rfl, hB⟩
end Go.Proofs.YtclcigbcianimaaDoor
