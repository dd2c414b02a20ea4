/- FieldsBack: the walk of the law (printed by wip/tools/fieldsC.py). -/
import Derived.Test.YthppcaoldobocaaDoorBackSpec
import Derived.Test.YthppcaoldobocaaDoorFew04
import Derived.Test.YthppcaoldobocaaDoorWorks04
import Derived.Test.YthppcaoldobocaaDoorSameF04
import Derived.Test.YthppcaoldobocaaDoorOpenV
namespace Go.Proofs.YthppcaoldobocaaDoor
open Go.RowKit
set_option maxRecDepth 100000

set_option maxHeartbeats 16000000 in
theorem fieldsBack_any (A : Option Addr) (n c : Nat) (xs : List Fld) (s : ByteArray) (w : World) (hM : MaxL w) (hr : Rd A n 2 (fldsV xs) w) (hn : n ≤ 140737488355328) (hs : ∀ f ∈ xs, f.1.length ≤ 140737488355328 ∧ f.2.length ≤ 140737488355328) :
    Calls Tryd.prog 5 #[.slice A n c, .string s] w fun e w' => e = .returned (.bool true) ∧ Below w.heap.size w w' := by
  have k1 := few04_any A n c xs w hr hn hs
  have hy := @few04_yes xs
  have hxn := hr.fld
  cases hf : few04 xs
  · rw [hf] at k1
    have K1 := Lib.hid k1; clear k1 hy hf hs hr hn hxn
    go_enter Tryd.func5, Tryd.ntmps5
    go_wp2_with fail
    refine K1.out.mono ?_
    rintro e w1 ⟨rfl, hb1⟩
    go_wp2_with fail
    refine (works4_any _ (hM.below hb1)).mono ?_
    rintro e w2 ⟨rfl, hb2⟩
    go_wp2
    go_ret
    exact ⟨rfl, bt hb1 hb2⟩
  · rw [hf] at k1
    obtain ⟨h80, hsum⟩ := hy hf
    by_cases hss : s.size ≤ 12000
    · have hp1 := putL_len xs
      have hg := parseL_good s.data.toList
      have hsm := parseL_sum s.data.toList
      have hck := parseL_check s.data.toList
      have hbk := back_put hck
      obtain ⟨ns, fr⟩ : ∃ ns : List Fld × Int, parseL s.data.toList = ns := ⟨_, rfl⟩
      have k6 := fun w h => parse4_any s w h (by omega)
      rw [fr] at hg hsm hck hbk k6
      clear fr
      obtain ⟨ns, fr⟩ := ns
      simp only at hsm hck hbk
      obtain ⟨_, hl64, hfr⟩ := hg
      simp only at hl64 hfr
      have hp2 := putL_len ns
      have k2 := fun w hr => put4_any A n c xs w hr (by omega) (by omega)
      have k3 := fun w h => parse4_any ⟨(putL xs).toArray⟩ w h (by rw [mk_size]; omega)
      have k4 := fun w hr => check4_any A n c xs w hr (by omega) (by omega)
      have k7 := fun a c w (hr : Rd a ns.length 2 (fldsV ns) w) => put4_any a ns.length c ns w hr (by omega) (by omega)
      have k8 := fun w h => parse4_any ⟨(putL ns).toArray⟩ w h (by rw [mk_size]; omega)
      have k9 := fun a c w (hr : Rd a ns.length 2 (fldsV ns) w) => check4_any a ns.length c ns w hr (by omega) (by omega)
      have k10 := fun a c b d w (h : Rd a ns.length 2 (fldsV ns) w) (h2 : Rd b ns.length 2 (fldsV ns) w) => samef04_any a ns.length c ns b ns.length d ns w h h2 (by omega) (by omega)
      rw [show (ns == ns) = true from by simp] at k10
      simp only [] at k3 k8
      rw [hbk] at k8
      rw [hck] at k9
      generalize (⟨(putL ns).toArray⟩ : ByteArray) = pn at *
      have K6 := Lib.hid k6; have K7 := Lib.hid k7; have K8 := Lib.hid k8; have K9 := Lib.hid k9; have K10 := Lib.hid k10; have K1 := Lib.hid k1; have HR := Lib.hid hr
      clear k6 k7 k8 k9 k10 k1 hp2 hck hbk hsm hl64
      have hfr2 : (fr == 0) = true ∨ ((fr == 0) = false ∧ ns = []) := by
        cases h : (fr == 0)
        · right; refine ⟨rfl, ?_⟩; rcases hfr with h2 | h2
          · rw [h2] at h; cases h
          · exact h2
        · left; rfl
      clear hfr
      by_cases hc : checkL xs = 0
      · have hb2 := back_put hc
        have k5 := fun b d w (h : Rd A n 2 (fldsV xs) w) (h2 : Rd b xs.length 2 (fldsV xs) w) => samef04_any A n c xs b xs.length d xs w h h2 (by omega) (by omega)
        rw [show (xs == xs) = true from by simp] at k5
        rw [hb2] at k3
        rw [hc] at k4
        generalize (⟨(putL xs).toArray⟩ : ByteArray) = px at *
        have K2 := Lib.hid k2; have K3 := Lib.hid k3; have K4 := Lib.hid k4; have K5 := Lib.hid k5
        clear k2 k3 k4 k5 hb2 hc hp1 hsum h80 hf hy hs hn hr hxn
        rcases hfr2 with t1 | ⟨t1, rfl⟩
        all_goals
          go_enter Tryd.func5, Tryd.ntmps5
          go_wp2_with fail
          refine (K1.out).mono ?_
          rintro e w1 ⟨rfl, hb1⟩
          go_wp2_with fail
          refine (K2.out _ (HR.out.below hb1)).mono ?_
          rintro e w2 ⟨rfl, hb2⟩
          have hB2 := bt hb1 hb2
          go_wp2_with fail
          refine (K3.out _ (hM.below hB2)).mono ?_
          rintro e w3 ⟨a3, c3, rfl, ho3, hb3⟩
          simp only at ho3 ⊢
          have hB3 := bt hB2 hb3
          go_wp2_with fail
          refine (K4.out _ (HR.out.below hB3)).mono ?_
          rintro e w4 ⟨rfl, hb4⟩
          have hB4 := bt hB3 hb4
          go_wp2_with fail
          refine (K5.out _ _ _ (HR.out.below hB4) (ho3.below hb4).rd.2).mono ?_
          rintro e w5 ⟨rfl, hb5⟩
          have hB5 := bt hB4 hb5
          go_wp2_with fail
          refine (K4.out _ (HR.out.below hB5)).mono ?_
          rintro e w5b ⟨rfl, hb5b⟩
          have hB5b := bt hB5 hb5b
          go_wp2_with fail
          refine (K6.out _ (hM.below hB5b)).mono ?_
          rintro e w6 ⟨a6, c6, rfl, ho6, hb6⟩
          simp only at ho6 ⊢
          have hB6 := bt hB5b hb6
          go_wp2_with fail
          refine (K7.out _ _ _ ho6.rd.2).mono ?_
          rintro e w7 ⟨rfl, hb7⟩
          have hB7 := bt hB6 hb7
          go_wp2_with fail
          refine (K8.out _ (hM.below hB7)).mono ?_
          rintro e w8 ⟨a8, c8, rfl, ho8, hb8⟩
          simp only at ho8 ⊢
          have hB8 := bt hB7 hb8
          have hr6 := (ho6.below hb7).below hb8
          go_wp2_with fail
          refine (K9.out _ _ _ hr6.rd.2).mono ?_
          rintro e w9 ⟨rfl, hb9⟩
          have hB9 := bt hB8 hb9
          go_wp2_with fail
          refine (K10.out _ _ _ _ _ (hr6.below hb9).rd.2 (ho8.below hb9).rd.2).mono ?_
          rintro e w10 ⟨rfl, hb10⟩
          have hB10 := bt hB9 hb10
          go_wp2_with fail
          refine (works4_any _ (hM.below hB10)).mono ?_
          rintro e w11 ⟨rfl, hb11⟩
          go_wp2
          go_ret
          exact ⟨rfl, bt hB10 hb11⟩
      · have hb2 := putL_none hc
        have hne : (checkL xs == 0) = false := by simp [hc]
        have hne2 : (checkL xs != 0) = true := by simp [hc]
        rw [hb2] at k2 k3
        simp only [show parseL [] = ([], 0) from rfl] at k3
        generalize checkL xs = ck at *
        have K2 := Lib.hid k2; have K3 := Lib.hid k3; have K4 := Lib.hid k4
        clear k2 k3 k4 hb2 hc hp1 hsum h80 hf hy hs hn hr hxn
        rcases hfr2 with t1 | ⟨t1, rfl⟩
        all_goals
          go_enter Tryd.func5, Tryd.ntmps5
          go_wp2_with fail
          refine (K1.out).mono ?_
          rintro e w1 ⟨rfl, hb1⟩
          go_wp2_with fail
          refine (K2.out _ (HR.out.below hb1)).mono ?_
          rintro e w2 ⟨rfl, hb2⟩
          have hB2 := bt hb1 hb2
          go_wp2_with fail
          refine (K3.out _ (hM.below hB2)).mono ?_
          rintro e w3 ⟨a3, c3, rfl, ho3, hb3⟩
          simp only at ho3 ⊢
          have hB3 := bt hB2 hb3
          go_wp2_with fail
          refine (K4.out _ (HR.out.below hB3)).mono ?_
          rintro e w4 ⟨rfl, hb4⟩
          have hB4 := bt hB3 hb4
          go_wp2_with fail
          refine (K4.out _ (HR.out.below hB4)).mono ?_
          rintro e w5 ⟨rfl, hb5⟩
          have hB5 := bt hB4 hb5
          go_wp2_with fail
          refine (K2.out _ (HR.out.below hB5)).mono ?_
          rintro e w5b ⟨rfl, hb5b⟩
          have hB5b := bt hB5 hb5b
          go_wp2_with fail
          refine (K6.out _ (hM.below hB5b)).mono ?_
          rintro e w6 ⟨a6, c6, rfl, ho6, hb6⟩
          simp only at ho6 ⊢
          have hB6 := bt hB5b hb6
          go_wp2_with fail
          refine (K7.out _ _ _ ho6.rd.2).mono ?_
          rintro e w7 ⟨rfl, hb7⟩
          have hB7 := bt hB6 hb7
          go_wp2_with fail
          refine (K8.out _ (hM.below hB7)).mono ?_
          rintro e w8 ⟨a8, c8, rfl, ho8, hb8⟩
          simp only at ho8 ⊢
          have hB8 := bt hB7 hb8
          have hr6 := (ho6.below hb7).below hb8
          go_wp2_with fail
          refine (K9.out _ _ _ hr6.rd.2).mono ?_
          rintro e w9 ⟨rfl, hb9⟩
          have hB9 := bt hB8 hb9
          go_wp2_with fail
          refine (K10.out _ _ _ _ _ (hr6.below hb9).rd.2 (ho8.below hb9).rd.2).mono ?_
          rintro e w10 ⟨rfl, hb10⟩
          have hB10 := bt hB9 hb10
          go_wp2_with fail
          refine (works4_any _ (hM.below hB10)).mono ?_
          rintro e w11 ⟨rfl, hb11⟩
          go_wp2
          go_ret
          exact ⟨rfl, bt hB10 hb11⟩
    · have K1 := Lib.hid k1; clear k1 hy hf hs hr hn hxn h80 hsum
      go_enter Tryd.func5, Tryd.ntmps5
      go_wp2_with fail
      refine K1.out.mono ?_
      rintro e w1 ⟨rfl, hb1⟩
      go_wp2_with fail
      refine (works4_any _ (hM.below hb1)).mono ?_
      rintro e w2 ⟨rfl, hb2⟩
      go_wp2
      go_ret
      exact ⟨rfl, bt hb1 hb2⟩
open Go.ChangeShapes Go.WideShapes in
theorem fieldsBack_law {H : Type} {enc : TypeId × Value → H} {W : World} {base : Nat}
    (v0 : Value) (hv0 : Value.okWide Tryd.prog W .any base 23 v0) {d0 : DataW H} {p0 : List MemPlace} (h0 : DataW.Trod enc Tryd.prog W 0 (fun _ => true) true 23 v0 d0 p0) (hr0 : Reach 23 d0)
    (s : ByteArray) (w : World) (hw : w = W) (h : ∃ m, W.cell? ⟨0, 0, none⟩ = some (.int .i64 m)) :
    Calls Tryd.prog 5 #[v0, .string s] w fun e w' => e = .returned (.bool true) ∧ Below w.heap.size w w' := by
  subst hw
  have hb : reachBytes ≤ 140737488355328 := by decide
  obtain ⟨A, n, c, xs, rfl, hR, hn, hl⟩ := open_flds_v hv0 h0 hr0
  exact fieldsBack_any A n c xs s w (MaxL.of h) hR (by omega) (fun f hf => by have := hl f hf; omega)
end Go.Proofs.YthppcaoldobocaaDoor
