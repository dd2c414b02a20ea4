/- FieldsLooks: the walk of the law. -/
import Derived.Test.YthppcaoldobocaaDoorRSet04
import Derived.Test.YthppcaoldobocaaDoorRGet04
import Derived.Test.YthppcaoldobocaaDoorMany
import Derived.Test.YthppcaoldobocaaDoorTexts04
import Derived.Test.YthppcaoldobocaaDoorSameF04
import Derived.Test.YthppcaoldobocaaDoorFew04
import Derived.Test.YthppcaoldobocaaDoorWorks04
import Derived.Test.YthppcaoldobocaaDoorOpenV
namespace Go.Proofs.YthppcaoldobocaaDoor
open Go.RowKit
set_option maxRecDepth 100000

theorem getL_val (xs : List Fld) (nm : List UInt8) : getV (getL xs nm) = .tuple #[.string ⟨(getL xs nm).1.toArray⟩, .bool (getL xs nm).2] := rfl

set_option maxHeartbeats 16000000 in
theorem fieldsLooks_any (A : Option Addr) (n c : Nat) (xs : List Fld) (f1 f2 : List UInt8) (N : Option Addr) (nn nc : Nat) (names : List (List UInt8)) (w : World) (hM : MaxL w) (hr : Rd A n 2 (fldsV xs) w) (hn : n ≤ 140737488355328) (hs : ∀ f ∈ xs, f.1.length ≤ 140737488355328 ∧ f.2.length ≤ 140737488355328)
    (hf1 : f1.length ≤ 140737488355328) (hf2 : f2.length ≤ 140737488355328) (hR : Rd N nn 1 (strsV names) w) (hnn : nn ≤ 140737488355328) (hnl : ∀ l ∈ names, l.length ≤ 140737488355328) :
    Calls Tryd.prog 6 #[.slice A n c, .agg #[.string ⟨f1.toArray⟩, .string ⟨f2.toArray⟩], .slice N nn nc] w fun e w' => e = .returned (.bool true) ∧ Below w.heap.size w w' := by
  obtain ⟨W0, hW0⟩ : ∃ W0, w.alloc (.cells #[.string ⟨f1.toArray⟩, .string ⟨f2.toArray⟩] 37) = W0 := ⟨_, rfl⟩
  have hB0 : Below w.heap.size w W0 := by rw [← hW0]; exact (Below.refl w.heap.size w).alloc (Nat.le_refl _) _
  have z0 : w.heap.size < W0.heap.size := by rw [← hW0]; simp
  have c0 : W0.cell? ⟨w.heap.size, 0, none⟩ = some (.string ⟨f1.toArray⟩) := by rw [← hW0]; exact World.cell?_alloc_mark w _ _ _ 0
  have c1 : W0.cell? ⟨w.heap.size, 1, none⟩ = some (.string ⟨f2.toArray⟩) := by rw [← hW0]; exact World.cell?_alloc_mark w _ _ _ 1
  have kc : ∀ w', Below W0.heap.size W0 w' → w'.cell? ⟨w.heap.size, 0, none⟩ = some (.string ⟨f1.toArray⟩) ∧ w'.cell? ⟨w.heap.size, 1, none⟩ = some (.string ⟨f2.toArray⟩) ∧ Below W0.heap.size W0 w' := fun w' h => ⟨(h.cell (p := ⟨w.heap.size, 0, none⟩) z0).trans c0, (h.cell (p := ⟨w.heap.size, 1, none⟩) z0).trans c1, h⟩
  have hq : ∀ W, Below W0.heap.size W0 W → Calls Tryd.prog 11 #[] W fun e w' => e = .returned (.bool true) ∧ Below w.heap.size w w' := fun W hW => (works4_any W ((hM.below hB0).below hW)).mono (by rintro e w' ⟨rfl, hb⟩; exact ⟨rfl, hB0.trans ((bt hW hb).mono hB0.size)⟩)
  have hr0 := hr.below hB0
  have hR0 := hR.below hB0
  have k1 := few04_any A n c xs W0 hr0 hn hs
  have hy := @few04_yes xs
  have hxn := hr.fld
  have hnm := hR.str
  have zf1 : (⟨f1.toArray⟩ : ByteArray).size = f1.length := by rw [Lib.size_eq]
  have zf2 : (⟨f2.toArray⟩ : ByteArray).size = f2.length := by rw [Lib.size_eq]
  have HW0 := Lib.hid hW0; have KC := Lib.hid kc; have HQ := Lib.hid hq
  have hb00 := Below.refl W0.heap.size W0
  clear hW0 kc hq c0 c1 hr hR
  cases hf : few04 xs
  · rw [hf] at k1
    have K1 := Lib.hid k1; clear k1 hy hf hs hn hxn hnm
    go_enter Tryd.func6, Tryd.ntmps6
    go_upto_region 1 with (fail)
    rw [HW0.out]
    go_wp2_with fail
    refine K1.out.mono ?_
    rintro e w1 ⟨rfl, hb1⟩
    go_wp2_with fail
    refine (HQ.out _ hb1).mono ?_
    rintro e w2 ⟨rfl, hb2⟩
    go_wp2
    go_ret
    exact ⟨rfl, hb2⟩
  · rw [hf] at k1
    obtain ⟨h80, hsum⟩ := hy hf
    obtain rfl := hxn
    obtain rfl := hnm
    have K1 := Lib.hid k1
    clear k1 hy hf hs hn
    by_cases g1 : f1.length ≤ 600
    · by_cases g2 : f2.length ≤ 600
      · by_cases g3 : names.length ≤ 20
        · have k2 := fun W h => copied04_any A xs.length c xs W h (by omega)
          have k3 := fun a c W h => get_any a xs.length c xs ⟨f1.toArray⟩ W h (by omega) (by omega) (by omega)
          have k4 := fun W h => rget_any A xs.length c xs ⟨f1.toArray⟩ W h (by omega) (by omega) (by omega)
          have hsz : ∀ f ∈ xs, f.1.length ≤ 1000000 := fun f hf => by have := sumF_mem hf; omega
          have k5 := fun a c W h => values_any a xs.length c xs ⟨f1.toArray⟩ W h (by omega) hsz (by omega)
          have k6 := fun W h => rvalues_any A xs.length c xs ⟨f1.toArray⟩ W h (by omega) hsz (by omega)
          have k7 := fun a c W h => set_any a xs.length c xs f1 f2 W h (by omega) hsz (by omega)
          have k8 := fun W h => rset_any A xs.length c xs f1 f2 W h (by omega) hsz (by omega)
          have hvl := valuesL_le xs f1
          have hsl : (setL xs f1 f2).length ≤ xs.length + 1 := by
            unfold setL; rw [List.length_append]
            have h1 := setP_le f1 f2 false xs
            cases xs.any (sameN f1)
            · simp; omega
            · simp; omega
          have hdl := delL_le xs names
          have k9 := fun (hnl : ∀ l ∈ names, l.length ≤ 600) a c W h h2 => del_any a xs.length c xs N names.length nc names W h (by omega) hsz h2 (by omega) (fun l hl => by have := hnl l hl; omega)
          have k10 := fun (hnl : ∀ l ∈ names, l.length ≤ 600) W h h2 => rdel_any A xs.length c xs N names.length nc names W h (by omega) hsz h2 (by omega) (fun l hl => by have := hnl l hl; omega)
          simp only at k3 k4 k5 k6
          rw [getL_val] at k3 k4
          generalize (⟨(getL xs f1).1.toArray⟩ : ByteArray) = gv at *
          generalize (getL xs f1).2 = gb at *
          generalize valuesL xs f1 = vs at *
          generalize setL xs f1 f2 = st at *
          generalize delL xs names = dl at *
          have k11 : ∀ (a b : Option Addr) (c d : Nat) (W : World), Rd a vs.length 1 (strsV vs) W → Rd b vs.length 1 (strsV vs) W → Calls Tryd.prog 23 #[.slice a vs.length c, .slice b vs.length d] W fun e w' => e = .returned (.bool true) ∧ Below W.heap.size W w' := by
            intro a b c d W h1 h2
            have := texts04_any a _ c vs b _ d vs W h1 h2 (by omega) (by omega)
            rwa [show (vs == vs) = true from by simp] at this
          have k12 : ∀ (fs : List Fld), fs.length ≤ 1000 → ∀ (a b : Option Addr) (c d : Nat) (W : World), Rd a fs.length 2 (fldsV fs) W → Rd b fs.length 2 (fldsV fs) W → Calls Tryd.prog 14 #[.slice a fs.length c, .slice b fs.length d] W fun e w' => e = .returned (.bool true) ∧ Below W.heap.size W w' := by
            intro fs hfs a b c d W h1 h2
            have := samef04_any a _ c fs b _ d fs W h1 h2 (by omega) (by omega)
            rwa [show (fs == fs) = true from by simp] at this
          have k13 := k12 st (by omega)
          have k14 := k12 dl (by omega)
          have k15 := k12 xs (by omega)
          have HR := Lib.hid hr0; have HRN := Lib.hid hR0
          have K2 := Lib.hid k2; have K3 := Lib.hid k3; have K4 := Lib.hid k4; have K5 := Lib.hid k5; have K6 := Lib.hid k6; have K7 := Lib.hid k7; have K8 := Lib.hid k8; have K9 := Lib.hid k9; have K10 := Lib.hid k10; have K11 := Lib.hid k11; have K13 := Lib.hid k13; have K14 := Lib.hid k14; have K15 := Lib.hid k15
          have HNL := Lib.hid hnl
          have gn : names.length ≤ 20 := g3
          clear k2 k3 k4 k5 k6 k7 k8 k9 k10 k11 k12 k13 k14 k15 hr0 hR0 hvl hsl hdl hsz hsum hnl hnn
          go_enter Tryd.func6, Tryd.ntmps6
          go_upto_region 1 with (fail)
          rw [HW0.out]
          go_wp2_with fail
          refine K1.out.mono ?_
          rintro e w1 ⟨rfl, hb1⟩
          obtain ⟨e0, e1, _⟩ := KC.out _ hb1
          go_wp2_with fail
          go_loop [7] (fun i => ∃ k : Nat, k ≤ names.length ∧ i = .int .i64 k ∧ Hid (∀ j (h : j < names.length), j < k → names[j].length ≤ 600)) (fun i => names.length - (intOf i).toNat)
          case atStart => exact ⟨0, Nat.zero_le _, rfl, Lib.hid (fun j h hj => absurd hj (by omega))⟩
          case round =>
            obtain ⟨k, hk, rfl, HA⟩ := hrel
            by_cases hlt : k < names.length
            · obtain ⟨b, o, rfl, hl, c1⟩ := (HRN.out.below hb1).str_at (k := k) hlt
              have hz := HNL.out names[k] (List.getElem_mem _)
              have hnx : names[k].length ≤ 600 → Hid (∀ j (h : j < names.length), j < k + 1 → names[j].length ≤ 600) := by
                intro e
                refine Lib.hid fun j h hj => ?_
                by_cases hjk : j = k
                · subst hjk; exact e
                · exact HA.out j h (by omega)
              generalize names[k] = nm at *
              have Hnx := Lib.hid hnx; clear hnx
              have znm : (⟨nm.toArray⟩ : ByteArray).size = nm.length := by rw [Lib.size_eq]
              by_cases h600 : 600 < nm.length
              · have t1 : decide ((600 : Int) < (nm.length : Int)) = true := by simp; omega
                go_wp2_with fail
                refine (HQ.out _ hb1).mono ?_
                rintro e w3 ⟨rfl, hb3⟩
                go_wp2
                go_ret
                exact ⟨rfl, hb3⟩
              · have t1 : decide ((600 : Int) < (nm.length : Int)) = false := by simp; omega
                have hn := Hnx.out (by omega)
                clear Hnx HA
                go_wp2
                go_round
                case rel => exact ⟨k + 1, by omega, by go_num, hn⟩
                case measure => simp [intOf]; omega
            · have hnm : ∀ x ∈ names, x.length ≤ 600 := by
                intro x hx
                obtain ⟨j, hj, e⟩ := List.mem_iff_getElem.1 hx
                rw [← e]; exact HA.out j hj (by omega)
              have HNM := Lib.hid hnm
              clear hnm HA hk
              have t1 : decide ((k : Int) < (names.length : Int)) = false := by simp; omega
              go_wp2_with fail
              refine (K2.out _ (HR.out.below hb1)).mono ?_
              rintro e w2 ⟨a2, c2, rfl, ho2, hb2⟩
              have HO2 := Lib.hid ho2; clear ho2 e0 e1
              have hB2 := bt hb1 hb2
              obtain ⟨e0, e1, _⟩ := KC.out _ hB2
              go_wp2_with fail
              refine (K3.out _ _ _ HO2.out.rd.2).mono ?_
              rintro e w3 ⟨rfl, hb3⟩
              clear e0 e1
              have hB3 := bt hB2 hb3
              obtain ⟨e0, e1, _⟩ := KC.out _ hB3
              go_wp2_with fail
              refine (K4.out _ (HR.out.below hB3)).mono ?_
              rintro e w4 ⟨rfl, hb4⟩
              clear e0 e1
              have hB4 := bt hB3 hb4
              have hO4 := (HO2.out.below hb3).below hb4
              have HO4 := Lib.hid hO4
              have kc4 : ∀ w', Below w4.heap.size w4 w' → w'.cell? ⟨w.heap.size, 0, none⟩ = some (.string ⟨f1.toArray⟩) ∧ w'.cell? ⟨w.heap.size, 1, none⟩ = some (.string ⟨f2.toArray⟩) ∧ Below w4.heap.size w4 w' := fun w' h => ⟨(KC.out _ (bt hB4 h)).1, (KC.out _ (bt hB4 h)).2.1, h⟩
              have KC4 := Lib.hid kc4
              have hb40 := Below.refl w4.heap.size w4
              have q1 : (gv == gv) = true := by show (gv.data == gv.data) = true; simp
              have q2 : (gv != gv) = false := by simp [bne, q1]
              have q3 : (gb != gb) = false := by simp
              clear kc4 hO4 hb3 hb4 KC HW0
              go_wp2_with fail
              go_region_held3 (fun w' => w'.cell? ⟨w.heap.size, 0, none⟩ = some (.string ⟨f1.toArray⟩) ∧ w'.cell? ⟨w.heap.size, 1, none⟩ = some (.string ⟨f2.toArray⟩) ∧ Below w4.heap.size w4 w') (first | exact KC4.out _ hb40 | exact KC4.out _ hb40.drew | exact KC4.out _ hb5 | exact KC4.out _ hb5.drew | exact KC4.out _ hb6 | exact KC4.out _ hb6.drew | exact KC4.out _ hb7 | exact KC4.out _ hb7.drew) (first | (go_at_call 24; obtain ⟨_, _, gb⟩ := ‹_ ∧ _ ∧ Below w4.heap.size w4 _›; refine (K5.out _ _ _ (HO4.out.below gb).rd.2).mono ?_; rintro e w5 ⟨a5, c5, rfl, ho5, h5⟩; have hb5 := bt gb h5) | (go_at_call 25; refine (K6.out _ (HR.out.below (bt hB4 hb5))).mono ?_; rintro e w6 ⟨a6, c6, rfl, ho6, h6⟩; have hb6 := bt hb5 h6; have ho56 := ho5.below h6) | (go_at_call 23; refine (K11.out _ _ _ _ _ ho56.rd.2 ho6.rd.2).mono ?_; rintro e w7 ⟨rfl, h7⟩; have hb7 := bt hb6 h7) | fail)
              clear ho5 ho6 ho56 h5 h6 h7 hb5 hb6
              have hB7 := bt hB4 hb7
              have HO7 := Lib.hid (HO4.out.below hb7)
              have kc7 : ∀ w', Below w7.heap.size w7 w' → w'.cell? ⟨w.heap.size, 0, none⟩ = some (.string ⟨f1.toArray⟩) ∧ w'.cell? ⟨w.heap.size, 1, none⟩ = some (.string ⟨f2.toArray⟩) ∧ Below w7.heap.size w7 w' := fun w' h => ⟨(KC4.out _ (bt hb7 h)).1, (KC4.out _ (bt hb7 h)).2.1, h⟩
              have KC7 := Lib.hid kc7
              have hb70 := Below.refl w7.heap.size w7
              clear kc7 KC4 hb7 hb40
              go_wp2_with fail
              go_region_held3 (fun w' => w'.cell? ⟨w.heap.size, 0, none⟩ = some (.string ⟨f1.toArray⟩) ∧ w'.cell? ⟨w.heap.size, 1, none⟩ = some (.string ⟨f2.toArray⟩) ∧ Below w7.heap.size w7 w') (first | exact KC7.out _ hb70 | exact KC7.out _ hb70.drew | exact KC7.out _ hb8 | exact KC7.out _ hb8.drew | exact KC7.out _ hb9 | exact KC7.out _ hb9.drew | exact KC7.out _ hb10 | exact KC7.out _ hb10.drew | exact KC7.out _ hb11 | exact KC7.out _ hb11.drew | exact KC7.out _ hb12 | exact KC7.out _ hb12.drew | exact KC7.out _ hb13 | exact KC7.out _ hb13.drew) (first | (go_at_call 26; obtain ⟨_, _, gb⟩ := ‹_ ∧ _ ∧ Below w7.heap.size w7 _›; refine (K7.out _ _ _ (HO7.out.below gb).rd.2).mono ?_; rintro e w8 ⟨a8, c8, rfl, ho8, h8⟩; have hb8 := bt gb h8) | (go_at_call 27; refine (K8.out _ (HR.out.below (bt hB7 hb8))).mono ?_; rintro e w9 ⟨a9, c9, rfl, ho9, h9⟩; have hb9 := bt hb8 h9; have ho89 := ho8.below h9) | (go_at_call 28; refine (K9.out HNM.out _ _ _ (HO7.out.below hb10).rd.2 (HRN.out.below (bt hB7 hb10))).mono ?_; rintro e w11 ⟨a11, c11, rfl, ho11, h11⟩; have hb11 := bt hb10 h11) | (go_at_call 29; refine (K10.out HNM.out _ (HR.out.below (bt hB7 hb11)) (HRN.out.below (bt hB7 hb11))).mono ?_; rintro e w12 ⟨a12, c12, rfl, ho12, h12⟩; have hb12 := bt hb11 h12; have ho112 := ho11.below h12) | (go_at_call 14; refine (K14.out _ _ _ _ _ ho112.rd.2 ho12.rd.2).mono ?_; rintro e w13 ⟨rfl, h13⟩; have hb13 := bt hb12 h13) | (go_at_call 14; refine (K13.out _ _ _ _ _ ho89.rd.2 ho9.rd.2).mono ?_; rintro e w10 ⟨rfl, h10⟩; have hb10 := bt hb9 h10) | fail)
              clear ho8 ho9 ho89 h8 h9 h10 hb8 hb9 ho11 ho12 ho112 h11 h12 h13 hb10 hb11 hb12
              have hB13 := bt hB7 hb13
              have HO13 := Lib.hid (HO7.out.below hb13)
              clear KC7 hb70
              go_wp2_with fail
              refine (K15.out _ _ _ _ _ HO13.out.rd.2 (HR.out.below hB13)).mono ?_
              rintro e w14 ⟨rfl, hb14⟩
              have hB14 := bt hB13 hb14
              go_wp2_with fail
              refine (HQ.out _ hB14).mono ?_
              rintro e w15 ⟨rfl, hb15⟩
              go_wp2
              go_ret
              exact ⟨rfl, hb15⟩
        · go_enter Tryd.func6, Tryd.ntmps6
          go_upto_region 1 with (fail)
          rw [HW0.out]
          go_wp2_with fail
          refine K1.out.mono ?_
          rintro e w1 ⟨rfl, hb1⟩
          obtain ⟨e0, e1, _⟩ := KC.out _ hb1
          go_wp2_with fail
          refine (HQ.out _ hb1).mono ?_
          rintro e w2 ⟨rfl, hb2⟩
          go_wp2
          go_ret
          exact ⟨rfl, hb2⟩
      · go_enter Tryd.func6, Tryd.ntmps6
        go_upto_region 1 with (fail)
        rw [HW0.out]
        go_wp2_with fail
        refine K1.out.mono ?_
        rintro e w1 ⟨rfl, hb1⟩
        obtain ⟨e0, e1, _⟩ := KC.out _ hb1
        go_wp2_with fail
        refine (HQ.out _ hb1).mono ?_
        rintro e w2 ⟨rfl, hb2⟩
        go_wp2
        go_ret
        exact ⟨rfl, hb2⟩
    · go_enter Tryd.func6, Tryd.ntmps6
      go_upto_region 1 with (fail)
      rw [HW0.out]
      go_wp2_with fail
      refine K1.out.mono ?_
      rintro e w1 ⟨rfl, hb1⟩
      obtain ⟨e0, e1, _⟩ := KC.out _ hb1
      go_wp2_with fail
      refine (HQ.out _ hb1).mono ?_
      rintro e w2 ⟨rfl, hb2⟩
      go_wp2
      go_ret
      exact ⟨rfl, hb2⟩
open Go.ChangeShapes Go.WideShapes in
theorem fieldsLooks_law {H : Type} {enc : TypeId × Value → H} {W : World} {base : Nat}
    (v0 : Value) (hv0 : Value.okWide Tryd.prog W .any base 23 v0) {d0 : DataW H} {p0 : List MemPlace} (h0 : DataW.Trod enc Tryd.prog W 0 (fun _ => true) true 23 v0 d0 p0) (hr0 : Reach 23 d0)
    (v1 : Value) (hv1 : Value.okWide Tryd.prog W .any base 37 v1) {d1 : DataW H} {p1 : List MemPlace} (h1 : DataW.Trod enc Tryd.prog W 0 (fun _ => true) true 37 v1 d1 p1) (hr1 : Reach 37 d1)
    (v2 : Value) (hv2 : Value.okWide Tryd.prog W .any base 38 v2) {d2 : DataW H} {p2 : List MemPlace} (h2 : DataW.Trod enc Tryd.prog W 0 (fun _ => true) true 38 v2 d2 p2) (hr2 : Reach 38 d2)
    (w : World) (hw : w = W) (h : ∃ m, W.cell? ⟨0, 0, none⟩ = some (.int .i64 m)) :
    Calls Tryd.prog 6 #[v0, v1, v2] w fun e w' => e = .returned (.bool true) ∧ Below w.heap.size w w' := by
  subst hw
  have hb : reachBytes ≤ 140737488355328 := by decide
  obtain ⟨A, n, c, xs, rfl, hR, hn, hl⟩ := open_flds_v hv0 h0 hr0
  obtain ⟨⟨f1, f2⟩, rfl, hf1, hf2⟩ := open_fld_v hv1 h1 hr1
  obtain ⟨N, nn, nc, names, rfl, hN, hnn, hnl⟩ := open_texts_v hv2 h2 hr2
  simp only at hf1 hf2 ⊢
  exact fieldsLooks_any A n c xs f1 f2 N nn nc names w (MaxL.of h) hR (by omega) (fun f hf => by have := hl f hf; omega) (by omega) (by omega) hN (by omega) (fun l hl => by have := hnl l hl; omega)
end Go.Proofs.YthppcaoldobocaaDoor
