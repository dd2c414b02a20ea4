/- VaryNames: the walk of the law. -/
import Derived.Test.YtdlajobnnnmojaaDoorRNames
import Derived.Test.YtdlajobnnnmojaaDoorFew15
import Derived.Test.YtdlajobnnnmojaaDoorAwake15
import Derived.Test.YtdlajobnnnmojaaDoorTexts
import Derived.Test.YtdlajobnnnmojaaDoorOpenRep
namespace Go.Proofs.YtdlajobnnnmojaaDoor
open Go.RowKit

/-- Five cells of a block. -/
def Box5 (b : Nat) (v0 v1 v2 v3 v4 : Value) (w : World) : Prop :=
  b < w.heap.size ∧ w.cell? ⟨b, 0, none⟩ = some v0 ∧ w.cell? ⟨b, 1, none⟩ = some v1 ∧ w.cell? ⟨b, 2, none⟩ = some v2 ∧ w.cell? ⟨b, 3, none⟩ = some v3 ∧ w.cell? ⟨b, 4, none⟩ = some v4
theorem Box5.below {b : Nat} {v0 v1 v2 v3 v4 : Value} {w w' : World} (h : Box5 b v0 v1 v2 v3 v4 w) (hb : Below w.heap.size w w') : Box5 b v0 v1 v2 v3 v4 w' := by
  obtain ⟨h0, h1, h2, h3, h4, h5⟩ := h
  exact ⟨Nat.lt_of_lt_of_le h0 hb.size, (hb.cell (p := ⟨b, 0, none⟩) h0).trans h1, (hb.cell (p := ⟨b, 1, none⟩) h0).trans h2, (hb.cell (p := ⟨b, 2, none⟩) h0).trans h3, (hb.cell (p := ⟨b, 3, none⟩) h0).trans h4, (hb.cell (p := ⟨b, 4, none⟩) h0).trans h5⟩
theorem Box5.new (w : World) (v0 v1 v2 v3 v4 : Value) (T : TypeId) : Box5 w.heap.size v0 v1 v2 v3 v4 (w.alloc (.cells #[v0, v1, v2, v3, v4] T)) :=
  ⟨by simp, World.cell?_alloc_mark w _ _ _ 0, World.cell?_alloc_mark w _ _ _ 1, World.cell?_alloc_mark w _ _ _ 2, World.cell?_alloc_mark w _ _ _ 3, World.cell?_alloc_mark w _ _ _ 4⟩

theorem namesVs_len : ∀ (vs acc a : List (List UInt8)), namesVs acc vs = some a → a.length ≤ acc.length + 64 * vs.length
  | [], acc, a, h => by cases h; simp
  | v :: r, acc, a, h => by
    rw [namesVs] at h
    cases he : ((splitL 44 v).2 == 0) <;> rw [he] at h
    · cases h
    · rw [cond_true] at h
      cases hp : namesPs acc (splitL 44 v).1 with
      | none => rw [hp] at h; cases h
      | some b =>
        rw [hp] at h
        have h1 := namesVs_len r b a h
        have h2 := namesPs_le _ _ _ hp
        have h3 := splitL_le' 44 v
        rw [List.length_cons]; omega
theorem optL_len (xs : List Fld) : (optL (namesO xs)).length ≤ 64 * xs.length := by
  cases h : namesO xs with
  | none => simp [optL]
  | some a =>
    have h1 := namesVs_len _ _ _ h
    have h2 := valuesL_le xs varyW
    show a.length ≤ _
    simp at h1; omega

set_option maxRecDepth 100000 in
set_option maxHeartbeats 4000000 in
theorem varyNames_any (st : Int) (re : ByteArray) (mi : Int) (A : Option Addr) (n c : Nat) (bo : ByteArray) (xs : List Fld) (w : World) (hr : Rd A n 2 (fldsV xs) w) (hn : n ≤ 140737488355328) (hs : ∀ f ∈ xs, f.1.length ≤ 140737488355328 ∧ f.2.length ≤ 140737488355328) :
    Calls Tryd.prog 3 #[.agg #[.int .i64 st, .string re, .int .i64 mi, .slice A n c, .string bo]] w fun e w' => e = .returned (.bool true) ∧ Below w.heap.size w w' := by
  obtain ⟨W0, hW0⟩ : ∃ W0, w.alloc (.cells #[.int .i64 st, .string re, .int .i64 mi, .slice A n c, .string bo] 24) = W0 := ⟨_, rfl⟩
  have hB0 : Below w.heap.size w W0 := by rw [← hW0]; exact (Below.refl w.heap.size w).alloc (Nat.le_refl _) _
  have hX0 : Box5 w.heap.size (.int .i64 st) (.string re) (.int .i64 mi) (.slice A n c) (.string bo) W0 := by rw [← hW0]; exact Box5.new _ _ _ _ _ _ _
  have k1 := few15_any A n c xs W0 (hr.below hB0) hn hs
  have hxn := hr.fld
  have HXN := Lib.hid hxn; clear hxn
  have hfew := @few15_yes xs
  have HW0 := Lib.hid hW0; clear hW0
  cases hf : few15 xs
  · rw [hf] at k1
    have K1 := Lib.hid k1; clear k1 hfew hf
    obtain ⟨_, _, _, _, hc3, _⟩ := hX0
    go_enter Tryd.func3, Tryd.ntmps3
    go_upto_region 1 with (fail)
    rw [HW0.out]
    go_wp2_with fail
    refine K1.out.mono ?_
    rintro e w1 ⟨rfl, hb1⟩
    go_wp2_with fail
    refine (awake15_any _).mono ?_
    rintro e w2 ⟨rfl, hb2⟩
    go_wp2
    go_ret
    exact ⟨rfl, bt (hB0.trans (hb1.mono hB0.size)) hb2⟩
  · rw [hf] at k1
    obtain ⟨hx40, hx1000⟩ := hfew hf
    have k2 := fun W (hb : Below w.heap.size w W) => vnames_any st re mi A n c bo xs W (hr.below hb) (by rw [HXN.out]; omega) (fun f hf => by have := hx1000 f hf; omega)
    have k3 := fun W (hb : Below w.heap.size w W) => rnames_any st re mi A n c bo xs W (hr.below hb) (by rw [HXN.out]; omega) (fun f hf => by have := hx1000 f hf; omega)
    have hol := optL_len xs
    unfold repV at k2 k3
    generalize namesO xs = o at *
    have K1 := Lib.hid k1; have K2 := Lib.hid k2; have K3 := Lib.hid k3; clear k1 k2 k3 hfew hf hx1000
    have HX0 := Lib.hid hX0; clear hX0
    obtain ⟨_, _, _, _, hc3, _⟩ := HX0.out
    go_enter Tryd.func3, Tryd.ntmps3
    go_upto_region 1 with (fail)
    rw [HW0.out]
    go_wp2_with fail
    clear hc3
    refine K1.out.mono ?_
    rintro e w1 ⟨rfl, hb1⟩
    have hB1 := hB0.trans (hb1.mono hB0.size)
    have HX1 := Lib.hid (HX0.out.below hb1)
    obtain ⟨_, d0, d1, d2, d3, d4⟩ := HX1.out
    go_wp2_with fail
    clear d0 d1 d2 d3 d4
    refine (K2.out _ hB1).mono ?_
    rintro e w2 ⟨a2, c2, rfl, ho2, hb2⟩
    have hB2 := bt hB1 hb2
    have HX2 := Lib.hid (HX1.out.below hb2)
    obtain ⟨_, d0, d1, d2, d3, d4⟩ := HX2.out
    go_wp2_with fail
    clear d0 d1 d2 d3 d4
    refine (K3.out _ hB2).mono ?_
    rintro e w3 ⟨a3, c3, rfl, ho3, hb3⟩
    have hB3 := bt hB2 hb3
    have k4 := texts_any _ _ _ _ _ _ w3 (ho2.below hb3) ho3 (by omega) (by omega)
    have K4 := Lib.hid k4; clear k4
    go_wp2_with fail
    refine K4.out.mono ?_
    rintro e w4 ⟨rfl, hb4⟩
    have hB4 := bt hB3 hb4
    go_wp2_with fail
    refine (awake15_any _).mono ?_
    rintro e w5 ⟨rfl, hb5⟩
    go_wp2
    go_ret
    exact ⟨by simp, bt hB4 hb5⟩
end Go.Proofs.YtdlajobnnnmojaaDoor
