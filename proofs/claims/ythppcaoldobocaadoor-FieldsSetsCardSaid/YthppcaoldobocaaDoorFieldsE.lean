/- FieldsSets: the walk of the law. -/
import Derived.Test.YthppcaoldobocaaDoorSetsSpec
import Derived.Test.YthppcaoldobocaaDoorTexts04
import Derived.Test.YthppcaoldobocaaDoorFew04
import Derived.Test.YthppcaoldobocaaDoorWorks04
import Derived.Test.YthppcaoldobocaaDoorOpenV
namespace Go.Proofs.YthppcaoldobocaaDoor
open Go.RowKit
set_option maxRecDepth 100000

theorem Rd.newF1 (w : World) (a b : List UInt8) (T : TypeId) : Rd (some ⟨w.heap.size, 0, none⟩) 1 2 (fldsV [(a, b)]) (w.alloc (.cells #[.string ⟨a.toArray⟩, .string ⟨b.toArray⟩] T)) := by
  refine ⟨rfl, fun _ => ⟨w.heap.size, 0, rfl, by simp, fun j u hu => ?_⟩⟩
  rw [Nat.zero_add, World.cell?_alloc_mark]
  match j, hu with
  | 0, hu => exact hu
  | 1, hu => exact hu
  | j + 2, hu => simp [fldsV, fldV] at hu
theorem Rd.drew {A : Option Addr} {n size : Nat} {xs : List Value} {w : World} (h : Rd A n size xs w) : Rd A n size xs w.drew := h
set_option maxHeartbeats 16000000 in
theorem fieldsSets_any (A : Option Addr) (n c : Nat) (xs : List Fld) (f1 f2 : List UInt8) (other : ByteArray) (w : World) (hM : MaxL w) (hr : Rd A n 2 (fldsV xs) w) (hn : n ≤ 140737488355328) (hs : ∀ f ∈ xs, f.1.length ≤ 140737488355328 ∧ f.2.length ≤ 140737488355328)
    (hf1 : f1.length ≤ 140737488355328) (hf2 : f2.length ≤ 140737488355328) :
    Calls Tryd.prog 7 #[.slice A n c, .agg #[.string ⟨f1.toArray⟩, .string ⟨f2.toArray⟩], .string other] w fun e w' => e = .returned (.bool true) ∧ Below w.heap.size w w' := by
  obtain ⟨W0, hW0⟩ : ∃ W0, w.alloc (.cells #[.string ⟨f1.toArray⟩, .string ⟨f2.toArray⟩] 37) = W0 := ⟨_, rfl⟩
  have hB0 : Below w.heap.size w W0 := by rw [← hW0]; exact (Below.refl w.heap.size w).alloc (Nat.le_refl _) _
  have z0 : w.heap.size < W0.heap.size := by rw [← hW0]; simp
  have c0 : W0.cell? ⟨w.heap.size, 0, none⟩ = some (.string ⟨f1.toArray⟩) := by rw [← hW0]; exact World.cell?_alloc_mark w _ _ _ 0
  have c1 : W0.cell? ⟨w.heap.size, 1, none⟩ = some (.string ⟨f2.toArray⟩) := by rw [← hW0]; exact World.cell?_alloc_mark w _ _ _ 1
  have kc : ∀ w', Below W0.heap.size W0 w' → w'.cell? ⟨w.heap.size, 0, none⟩ = some (.string ⟨f1.toArray⟩) ∧ w'.cell? ⟨w.heap.size, 1, none⟩ = some (.string ⟨f2.toArray⟩) ∧ Below W0.heap.size W0 w' := fun w' h => ⟨(h.cell (p := ⟨w.heap.size, 0, none⟩) z0).trans c0, (h.cell (p := ⟨w.heap.size, 1, none⟩) z0).trans c1, h⟩
  have hq : ∀ W, Below W0.heap.size W0 W → Calls Tryd.prog 11 #[] W fun e w' => e = .returned (.bool true) ∧ Below w.heap.size w w' := fun W hW => (works4_any W ((hM.below hB0).below hW)).mono (by rintro e w' ⟨rfl, hb⟩; exact ⟨rfl, hB0.trans ((bt hW hb).mono hB0.size)⟩)
  have hr0 := hr.below hB0
  have k1 := few04_any A n c xs W0 hr0 hn hs
  have hy := @few04_yes xs
  have hxn := hr.fld
  have zf1 : (⟨f1.toArray⟩ : ByteArray).size = f1.length := by rw [Lib.size_eq]
  have zf2 : (⟨f2.toArray⟩ : ByteArray).size = f2.length := by rw [Lib.size_eq]
  have HW0 := Lib.hid hW0; have KC := Lib.hid kc; have HQ := Lib.hid hq
  have hb00 := Below.refl W0.heap.size W0
  clear hW0 kc hq c0 c1 hr
  cases hf : few04 xs
  · rw [hf] at k1
    have K1 := Lib.hid k1; clear k1 hy hf hs hn hxn
    go_enter Tryd.func7, Tryd.ntmps7
    go_upto_region 1 with (fail)
    rw [HW0.out]
    go_wp2_with fail
    refine K1.out.mono ?_
    rintro e w1 ⟨rfl, hb1⟩
    go_wp2_with fail
    refine (HQ.out _ hb1).mono ?_
    rintro e w2 ⟨rfl, hb2⟩
    go_wp2
    go_ret
    exact ⟨rfl, hb2⟩
  · rw [hf] at k1
    obtain ⟨h80, hsum⟩ := hy hf
    obtain rfl := hxn
    have K1 := Lib.hid k1
    clear k1 hy hf hs hn
    by_cases g1 : f1.length ≤ 600
    · by_cases g2 : f2.length ≤ 600
      · by_cases g3 : other.size ≤ 600
        · have hsz : ∀ f ∈ xs, f.1.length ≤ 1000000 := fun f hf => by have := sumF_mem hf; omega
          have hsl := len_setL xs f1 f2
          have hss := sum_setL xs f1 f2
          have hdl := delL_le xs [f1]
          have hds := sum_delL xs [f1]
          have k2 := fun W h => set_any A xs.length c xs f1 f2 W h (by omega) hsz (by omega)
          have k3 : ∀ W, Below W0.heap.size W0 W → Calls Tryd.prog 28 #[.slice A xs.length c, .slice (some ⟨W.heap.size, 0, none⟩) 1 1] (W.alloc (.cells #[.string ⟨f1.toArray⟩] 9)) (FieldsPost W (delL xs [f1])) := by
            intro W hW
            have hal := (Below.refl W.heap.size W).alloc (Nat.le_refl _) (.cells #[.string ⟨f1.toArray⟩] 9)
            refine (del_any A xs.length c xs (some ⟨W.heap.size, 0, none⟩) 1 1 [f1] (W.alloc (.cells #[.string ⟨f1.toArray⟩] 9)) ((hr0.below hW).below hal) (by omega) hsz (Rd.newS W [f1] 9) (by omega) (fun l hl => by simp at hl; subst hl; omega)).mono ?_
            rintro e w' ⟨a, cap, rfl, ho, hb⟩
            exact ⟨a, cap, rfl, ho.base (by simp), hal.trans (hb.mono (by simp))⟩
          have k3g := fun (g : Nat) W h h2 => del_any A xs.length c xs (some ⟨g, 0, none⟩) 1 1 [f1] W h (by omega) hsz h2 (by omega) (fun l hl => by simp at hl; subst hl; omega)
          have hnew : ∀ W : World, Rd (some ⟨W.heap.size, 0, none⟩) 1 1 (strsV [f1]) (W.alloc (.cells #[.string ⟨f1.toArray⟩] 9)) := fun W => Rd.newS W [f1] 9
          have k4 := fun a c W h => get_any a (setL xs f1 f2).length c (setL xs f1 f2) ⟨f1.toArray⟩ W h (by omega) (by omega) (by omega)
          have k5 := fun a c W h => get_any a (delL xs [f1]).length c (delL xs [f1]) ⟨f1.toArray⟩ W h (by omega) (by omega) (by omega)
          have k6 := fun a c W h => values_any a (setL xs f1 f2).length c (setL xs f1 f2) ⟨f1.toArray⟩ W h (by omega) (fun f hf => by have := sumF_mem hf; omega) (by omega)
          have k7 := fun a c W h => get_any a 1 c [(f1, f2)] other W h (by omega) (by unfold sumF; simp; omega) (by omega)
          have k8 := fun W h => values_any A xs.length c xs other W h (by omega) hsz (by omega)
          have k9 := fun a c W h => values_any a (setL xs f1 f2).length c (setL xs f1 f2) other W h (by omega) (fun f hf => by have := sumF_mem hf; omega) (by omega)
          have k10 := fun a c W h => values_any a (delL xs [f1]).length c (delL xs [f1]) other W h (by omega) (fun f hf => by have := sumF_mem hf; omega) (by omega)
          simp only at k4 k5 k6
          rw [get_setL] at k4
          rw [get_del_one] at k5
          rw [values_setL] at k6
          have hg1 := get_one (f1, f2) other.data.toList
          simp only at hg1
          have hvo : (lowerL f1 == lowerL other.data.toList) = false → valuesL (setL xs f1 f2) other.data.toList = valuesL xs other.data.toList ∧ valuesL (delL xs [f1]) other.data.toList = valuesL xs other.data.toList := by
            intro h
            refine ⟨values_setL_other xs f2 h, ?_⟩
            rw [values_delL, has_one, h]; rfl
          have hvl := valuesL_le xs other.data.toList
          have hz7 : getV (getL [(f1, f2)] other.data.toList) = .tuple #[.string ⟨(getL [(f1, f2)] other.data.toList).1.toArray⟩, .bool (lowerL f1 == lowerL other.data.toList)] := by unfold getV; rw [hg1]
          rw [hz7] at k7
          clear hz7 hg1
          generalize (⟨(getL [(f1, f2)] other.data.toList).1.toArray⟩ : ByteArray) = gv at *
          generalize valuesL xs other.data.toList = vo at *
          generalize valuesL (setL xs f1 f2) other.data.toList = vs at *
          generalize valuesL (delL xs [f1]) other.data.toList = vd at *
          generalize setL xs f1 f2 = st at *
          generalize delL xs [f1] = dl at *
          have k11 : ∀ (a b : Option Addr) (c d : Nat) (W : World), Rd a vo.length 1 (strsV vo) W → Rd b vo.length 1 (strsV vo) W → Calls Tryd.prog 23 #[.slice a vo.length c, .slice b vo.length d] W fun e w' => e = .returned (.bool true) ∧ Below W.heap.size W w' := by
            intro a b c d W h1 h2
            have := texts04_any a _ c vo b _ d vo W h1 h2 (by omega) (by omega)
            rwa [show (vo == vo) = true from by simp] at this
          have HR := Lib.hid hr0
          have K2 := Lib.hid k2; have K3 := Lib.hid k3; have K3g := Lib.hid k3g; have HNEW := Lib.hid hnew; have K4 := Lib.hid k4; have K5 := Lib.hid k5; have K6 := Lib.hid k6; have K7 := Lib.hid k7; have K8 := Lib.hid k8; have K9 := Lib.hid k9; have K10 := Lib.hid k10; have K11 := Lib.hid k11
          have HVO := Lib.hid hvo
          clear k2 k3 k3g hnew k4 k5 k6 k7 k8 k9 k10 k11 hr0 hsl hss hdl hds hsz hsum hvl hvo
          go_enter Tryd.func7, Tryd.ntmps7
          go_upto_region 1 with (fail)
          rw [HW0.out]
          go_wp2_with fail
          refine K1.out.mono ?_
          rintro e w1 ⟨rfl, hb1⟩
          obtain ⟨e0, e1, _⟩ := KC.out _ hb1
          go_wp2_with fail
          go_region_held3 (fun w' => w'.cell? ⟨w.heap.size, 0, none⟩ = some (.string ⟨f1.toArray⟩) ∧ w'.cell? ⟨w.heap.size, 1, none⟩ = some (.string ⟨f2.toArray⟩) ∧ Below W0.heap.size W0 w') (first | exact KC.out _ hb1 | exact KC.out _ hb1.drew | exact KC.out _ (hb1.alloc hb1.size _) | exact KC.out _ (hb1.drew.alloc hb1.size _) | exact KC.out _ hb2 | exact KC.out _ hb2.drew | exact KC.out _ (hb2.alloc hb2.size _) | exact KC.out _ (hb2.drew.alloc hb2.size _) | exact KC.out _ hb3 | exact KC.out _ hb3.drew) (first | (go_at_call 26; obtain ⟨_, _, gb⟩ := ‹_ ∧ _ ∧ Below W0.heap.size W0 _›; refine (K2.out _ (HR.out.below gb)).mono ?_; rintro e w2 ⟨a2, c2, rfl, ho2, h2⟩; have hb2 := bt gb h2) | (go_at_call 28; refine (K3.out w2 hb2).mono ?_; rintro e w3 ⟨a3, c3, rfl, ho3, h3⟩; have hb3 := bt hb2 h3; have ho23 := ho2.below h3) | (go_at_call 28; refine (K3g.out _ _ (HR.out.below hb2) ((HNEW.out _).drew.below h2)).mono ?_; rintro e w3 ⟨a3, c3, rfl, ho3, h3⟩; have hb3 := bt hb2 h3; have ho23 := ho2.below h3) | fail)
          all_goals
            clear e0 e1
            have HO2 := Lib.hid ho23; have HO3 := Lib.hid ho3
            obtain ⟨e0, e1, _⟩ := KC.out _ hb3
            clear ho2 ho3 ho23 h2 h3 hb2 K1 K2 K3
            go_wp2_with fail
            refine (K4.out _ _ _ HO2.out.rd.2).mono ?_
            rintro e w4 ⟨rfl, hb4⟩
            unfold getV
            simp only
            clear e0 e1
            have hB4 := bt hb3 hb4
            obtain ⟨e0, e1, _⟩ := KC.out _ hB4
            go_wp2_with fail
            refine (K5.out _ _ _ (HO3.out.below hb4).rd.2).mono ?_
            rintro e w5 ⟨rfl, hb5⟩
            unfold getV
            simp only
            clear e0 e1
            have hB5 := bt hB4 hb5
            obtain ⟨e0, e1, _⟩ := KC.out _ hB5
            have hb45 := bt hb4 hb5
            have q1 : ((⟨f2.toArray⟩ : ByteArray) == ⟨f2.toArray⟩) = true := by show ((⟨f2.toArray⟩ : ByteArray).data == (⟨f2.toArray⟩ : ByteArray).data) = true; simp
            have q2 : ((⟨f2.toArray⟩ : ByteArray) != ⟨f2.toArray⟩) = false := by simp [bne, q1]
            go_wp2_with fail
            refine (K6.out _ _ _ (HO2.out.below hb45).rd.2).mono ?_
            rintro e w6 ⟨a6, c6, rfl, ho6, hb6⟩
            clear e0 e1 ho6
            have hB6 := bt hB5 hb6
            have hb46 := bt hb45 hb6
            obtain ⟨e0, e1, _⟩ := KC.out _ hB6
            go_wp2_with fail
            refine (K7.out _ _ _ (Rd.newF1 w6 f1 f2 _)).mono ?_
            rintro e w7 ⟨rfl, hb7⟩
            simp only
            clear e0 e1
            have hb67 : Below w6.heap.size w6 w7 := ((Below.refl w6.heap.size w6).alloc (Nat.le_refl _) _).trans (hb7.mono (by simp))
            have hB7 := bt hB6 hb67
            have hb47 := bt hb46 hb67
            cases hsm : (lowerL f1 == lowerL other.data.toList)
            · obtain ⟨r1, r2⟩ := HVO.out hsm
              subst r1; subst r2
              clear hsm HVO
              clear K4 K5 K6 K7
              go_wp2_with fail
              refine (K8.out _ (HR.out.below hB7)).mono ?_
              rintro e w8 ⟨a8, c8, rfl, ho8, hb8⟩
              have hb48 := bt hb47 hb8
              have hB8 := bt hB7 hb8
              go_wp2_with fail
              refine (K9.out _ _ _ (HO2.out.below hb48).rd.2).mono ?_
              rintro e w9 ⟨a9, c9, rfl, ho9, hb9⟩
              have hB9 := bt hB8 hb9
              have hb49 := bt hb48 hb9
              have ho8b := ho8.below hb9
              go_wp2_with fail
              refine (K11.out _ _ _ _ _ ho9.rd.2 ho8b.rd.2).mono ?_
              rintro e w10 ⟨rfl, hb10⟩
              have hB10 := bt hB9 hb10
              have hb410 := bt hb49 hb10
              go_wp2_with fail
              refine (K10.out _ _ _ (HO3.out.below hb410).rd.2).mono ?_
              rintro e w11 ⟨a11, c11, rfl, ho11, hb11⟩
              have hB11 := bt hB10 hb11
              have ho8c := (ho8b.below hb10).below hb11
              go_wp2_with fail
              refine (K11.out _ _ _ _ _ ho11.rd.2 ho8c.rd.2).mono ?_
              rintro e w12 ⟨rfl, hb12⟩
              have hB12 := bt hB11 hb12
              go_wp2_with fail
              refine (HQ.out _ hB12).mono ?_
              rintro e w13 ⟨rfl, hb13⟩
              go_wp2
              go_ret
              exact ⟨rfl, hb13⟩
            · clear hsm
              go_wp2_with fail
              refine (HQ.out _ hB7).mono ?_
              rintro e w8 ⟨rfl, hb8⟩
              go_wp2
              go_ret
              exact ⟨rfl, hb8⟩
        · go_enter Tryd.func7, Tryd.ntmps7
          go_upto_region 1 with (fail)
          rw [HW0.out]
          go_wp2_with fail
          refine K1.out.mono ?_
          rintro e w1 ⟨rfl, hb1⟩
          obtain ⟨e0, e1, _⟩ := KC.out _ hb1
          go_wp2_with fail
          refine (HQ.out _ hb1).mono ?_
          rintro e w2 ⟨rfl, hb2⟩
          go_wp2
          go_ret
          exact ⟨rfl, hb2⟩
      · go_enter Tryd.func7, Tryd.ntmps7
        go_upto_region 1 with (fail)
        rw [HW0.out]
        go_wp2_with fail
        refine K1.out.mono ?_
        rintro e w1 ⟨rfl, hb1⟩
        obtain ⟨e0, e1, _⟩ := KC.out _ hb1
        go_wp2_with fail
        refine (HQ.out _ hb1).mono ?_
        rintro e w2 ⟨rfl, hb2⟩
        go_wp2
        go_ret
        exact ⟨rfl, hb2⟩
    · go_enter Tryd.func7, Tryd.ntmps7
      go_upto_region 1 with (fail)
      rw [HW0.out]
      go_wp2_with fail
      refine K1.out.mono ?_
      rintro e w1 ⟨rfl, hb1⟩
      obtain ⟨e0, e1, _⟩ := KC.out _ hb1
      go_wp2_with fail
      refine (HQ.out _ hb1).mono ?_
      rintro e w2 ⟨rfl, hb2⟩
      go_wp2
      go_ret
      exact ⟨rfl, hb2⟩
open Go.ChangeShapes Go.WideShapes in
theorem fieldsSets_law {H : Type} {enc : TypeId × Value → H} {W : World} {base : Nat}
    (v0 : Value) (hv0 : Value.okWide Tryd.prog W .any base 23 v0) {d0 : DataW H} {p0 : List MemPlace} (h0 : DataW.Trod enc Tryd.prog W 0 (fun _ => true) true 23 v0 d0 p0) (hr0 : Reach 23 d0)
    (v1 : Value) (hv1 : Value.okWide Tryd.prog W .any base 37 v1) {d1 : DataW H} {p1 : List MemPlace} (h1 : DataW.Trod enc Tryd.prog W 0 (fun _ => true) true 37 v1 d1 p1) (hr1 : Reach 37 d1)
    (s : ByteArray) (w : World) (hw : w = W) (h : ∃ m, W.cell? ⟨0, 0, none⟩ = some (.int .i64 m)) :
    Calls Tryd.prog 7 #[v0, v1, .string s] w fun e w' => e = .returned (.bool true) ∧ Below w.heap.size w w' := by
  subst hw
  have hb : reachBytes ≤ 140737488355328 := by decide
  obtain ⟨A, n, c, xs, rfl, hR, hn, hl⟩ := open_flds_v hv0 h0 hr0
  obtain ⟨⟨f1, f2⟩, rfl, hf1, hf2⟩ := open_fld_v hv1 h1 hr1
  simp only at hf1 hf2 ⊢
  exact fieldsSets_any A n c xs f1 f2 s w (MaxL.of h) hR (by omega) (fun f hf => by have := hl f hf; omega) (by omega) (by omega)
end Go.Proofs.YthppcaoldobocaaDoor
