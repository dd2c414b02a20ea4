/- FieldsPuts: the walk of the law. -/
import Derived.Test.YthppcaoldobocaaDoorPut04
import Derived.Test.YthppcaoldobocaaDoorFew04
import Derived.Test.YthppcaoldobocaaDoorWorks04
import Derived.Test.YthppcaoldobocaaDoorOpenV
namespace Go.Proofs.YthppcaoldobocaaDoor
open Go.RowKit
set_option maxRecDepth 100000

set_option maxHeartbeats 4000000 in
theorem fieldsPuts_any (A : Option Addr) (n c : Nat) (xs : List Fld) (w : World) (hM : MaxL w) (hr : Rd A n 2 (fldsV xs) w) (hn : n ≤ 140737488355328) (hs : ∀ f ∈ xs, f.1.length ≤ 140737488355328 ∧ f.2.length ≤ 140737488355328) :
    Calls Tryd.prog 4 #[.slice A n c] w fun e w' => e = .returned (.bool true) ∧ Below w.heap.size w w' := by
  have k1 := few04_any A n c xs w hr hn hs
  have hy := @few04_yes xs
  have hxn := hr.fld
  cases hf : few04 xs
  · rw [hf] at k1
    have K1 := Lib.hid k1; clear k1 hy hf hs hr hn hxn
    go_enter Tryd.func4, Tryd.ntmps4
    go_wp2_with fail
    refine K1.out.mono ?_
    rintro e w1 ⟨rfl, hb1⟩
    go_wp2_with fail
    refine (works4_any _ (hM.below hb1)).mono ?_
    rintro e w2 ⟨rfl, hb2⟩
    go_wp2
    go_ret
    exact ⟨rfl, bt hb1 hb2⟩
  · rw [hf] at k1
    obtain ⟨h80, hsum⟩ := hy hf
    have k2 := fun w hr => check4_any A n c xs w hr (by omega) (by omega)
    have k3 := fun w hr => rcheck4_any A n c xs w hr (by omega) (by omega)
    have k4 := fun w hr => put4_any A n c xs w hr (by omega) (by omega)
    have k5 := fun w hr => rput4_any A n c xs w hr (by omega) (by omega)
    have K1 := Lib.hid k1; have K2 := Lib.hid k2; have K3 := Lib.hid k3; have K4 := Lib.hid k4; have K5 := Lib.hid k5; have HR := Lib.hid hr
    clear k1 k2 k3 k4 k5 hf hs hy hr hn hsum h80 hxn
    generalize checkL xs = ck at *
    generalize (⟨(putL xs).toArray⟩ : ByteArray) = pt at *
    go_enter Tryd.func4, Tryd.ntmps4
    go_wp2_with fail
    refine K1.out.mono ?_
    rintro e w1 ⟨rfl, hb1⟩
    go_wp2_with fail
    refine (K2.out _ (HR.out.below hb1)).mono ?_
    rintro e w2 ⟨rfl, hb2⟩
    have hB2 := bt hb1 hb2
    go_wp2_with fail
    refine (K3.out _ (HR.out.below hB2)).mono ?_
    rintro e w3 ⟨rfl, hb3⟩
    have hB3 := bt hB2 hb3
    have e1 : (ck == ck) = true := by simp
    go_wp2_with fail
    refine (K4.out _ (HR.out.below hB3)).mono ?_
    rintro e w4 ⟨rfl, hb4⟩
    have hB4 := bt hB3 hb4
    go_wp2_with fail
    refine (K5.out _ (HR.out.below hB4)).mono ?_
    rintro e w5 ⟨rfl, hb5⟩
    have hB5 := bt hB4 hb5
    have e2 : (pt == pt) = true := by show (pt.data == pt.data) = true; simp
    go_wp2_with fail
    refine (works4_any _ (hM.below hB5)).mono ?_
    rintro e w6 ⟨rfl, hb6⟩
    go_wp2
    go_ret
    exact ⟨rfl, bt hB5 hb6⟩
open Go.ChangeShapes Go.WideShapes in
theorem fieldsPuts_law {H : Type} {enc : TypeId × Value → H} {W : World} {base : Nat}
    (v0 : Value) (hv0 : Value.okWide Tryd.prog W .any base 23 v0) {d0 : DataW H} {p0 : List MemPlace} (h0 : DataW.Trod enc Tryd.prog W 0 (fun _ => true) true 23 v0 d0 p0) (hr0 : Reach 23 d0)
    (w : World) (hw : w = W) (h : ∃ m, W.cell? ⟨0, 0, none⟩ = some (.int .i64 m)) :
    Calls Tryd.prog 4 #[v0] w fun e w' => e = .returned (.bool true) ∧ Below w.heap.size w w' := by
  subst hw
  have hb : reachBytes ≤ 140737488355328 := by decide
  obtain ⟨A, n, c, xs, rfl, hR, hn, hl⟩ := open_flds_v hv0 h0 hr0
  exact fieldsPuts_any A n c xs w (MaxL.of h) hR (by omega) (fun f hf => by have := hl f hf; omega)
end Go.Proofs.YthppcaoldobocaaDoor
