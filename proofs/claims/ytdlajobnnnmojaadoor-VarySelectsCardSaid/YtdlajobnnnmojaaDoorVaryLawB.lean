/- VarySelects: the walk of the law. -/
import Derived.Test.YtdlajobnnnmojaaDoorRVarySel
import Derived.Test.YtdlajobnnnmojaaDoorFew15
import Derived.Test.YtdlajobnnnmojaaDoorAwake15
import Derived.Test.YtdlajobnnnmojaaDoorSameF15
namespace Go.Proofs.YtdlajobnnnmojaaDoor
open Go.RowKit

set_option maxRecDepth 100000 in
set_option maxHeartbeats 8000000 in
theorem varySelects_any (N : Option Addr) (nn nc : Nat) (names : List (List UInt8)) (A : Option Addr) (n c : Nat) (xs : List Fld) (st : Int) (re : ByteArray) (mi : Int) (fa : Option Addr) (fn fc : Nat) (bo : ByteArray) (asd gt : Int) (va : Option Addr) (vn vc : Nat) (es : List Fld) (w : World)
    (hN : Rd N nn 1 (strsV names) w) (hnn : nn ≤ 140737488355328) (hnl : ∀ x ∈ names, x.length ≤ 140737488355328)
    (hr : Rd A n 2 (fldsV xs) w) (hn : n ≤ 140737488355328) (hs : ∀ f ∈ xs, f.1.length ≤ 140737488355328 ∧ f.2.length ≤ 140737488355328)
    (hE : Rd va vn 2 (fldsV es) w) (hvn : vn ≤ 140737488355328) (hel : ∀ f ∈ es, f.1.length ≤ 140737488355328 ∧ f.2.length ≤ 140737488355328) :
    Calls Tryd.prog 4 #[.slice N nn nc, .slice A n c, .agg #[.int .i64 st, .string re, .int .i64 mi, .slice fa fn fc, .string bo, .int .i64 asd, .int .i64 gt, .slice va vn vc]] w fun e w' => e = .returned (.bool true) ∧ Below w.heap.size w w' := by
  obtain rfl := hN.str
  obtain ⟨W0, hW0⟩ : ∃ W0, w.alloc (.cells #[.int .i64 st, .string re, .int .i64 mi, .slice fa fn fc, .string bo, .int .i64 asd, .int .i64 gt, .slice va vn vc] 33) = W0 := ⟨_, rfl⟩
  have hB0 : Below w.heap.size w W0 := by rw [← hW0]; exact (Below.refl w.heap.size w).alloc (Nat.le_refl _) _
  have hz0 : w.heap.size < W0.heap.size := by rw [← hW0]; simp
  have c0 : W0.cell? ⟨w.heap.size, 0, none⟩ = some (.int .i64 st) := by rw [← hW0]; exact World.cell?_alloc_mark w _ _ _ 0
  have c1 : W0.cell? ⟨w.heap.size, 1, none⟩ = some (.string re) := by rw [← hW0]; exact World.cell?_alloc_mark w _ _ _ 1
  have c2 : W0.cell? ⟨w.heap.size, 2, none⟩ = some (.int .i64 mi) := by rw [← hW0]; exact World.cell?_alloc_mark w _ _ _ 2
  have c3 : W0.cell? ⟨w.heap.size, 3, none⟩ = some (.slice fa fn fc) := by rw [← hW0]; exact World.cell?_alloc_mark w _ _ _ 3
  have c4 : W0.cell? ⟨w.heap.size, 4, none⟩ = some (.string bo) := by rw [← hW0]; exact World.cell?_alloc_mark w _ _ _ 4
  have c5 : W0.cell? ⟨w.heap.size, 5, none⟩ = some (.int .i64 asd) := by rw [← hW0]; exact World.cell?_alloc_mark w _ _ _ 5
  have c6 : W0.cell? ⟨w.heap.size, 6, none⟩ = some (.int .i64 gt) := by rw [← hW0]; exact World.cell?_alloc_mark w _ _ _ 6
  have c7 : W0.cell? ⟨w.heap.size, 7, none⟩ = some (.slice va vn vc) := by rw [← hW0]; exact World.cell?_alloc_mark w _ _ _ 7
  have kc : ∀ w', Below W0.heap.size W0 w' → w'.cell? ⟨w.heap.size, 0, none⟩ = some (.int .i64 st) ∧ w'.cell? ⟨w.heap.size, 1, none⟩ = some (.string re) ∧ w'.cell? ⟨w.heap.size, 2, none⟩ = some (.int .i64 mi) ∧ w'.cell? ⟨w.heap.size, 3, none⟩ = some (.slice fa fn fc) ∧
      w'.cell? ⟨w.heap.size, 4, none⟩ = some (.string bo) ∧ w'.cell? ⟨w.heap.size, 5, none⟩ = some (.int .i64 asd) ∧ w'.cell? ⟨w.heap.size, 6, none⟩ = some (.int .i64 gt) ∧ w'.cell? ⟨w.heap.size, 7, none⟩ = some (.slice va vn vc) ∧ Below W0.heap.size W0 w' := fun w' h =>
    ⟨(h.cell (p := ⟨w.heap.size, 0, none⟩) hz0).trans c0, (h.cell (p := ⟨w.heap.size, 1, none⟩) hz0).trans c1, (h.cell (p := ⟨w.heap.size, 2, none⟩) hz0).trans c2, (h.cell (p := ⟨w.heap.size, 3, none⟩) hz0).trans c3,
     (h.cell (p := ⟨w.heap.size, 4, none⟩) hz0).trans c4, (h.cell (p := ⟨w.heap.size, 5, none⟩) hz0).trans c5, (h.cell (p := ⟨w.heap.size, 6, none⟩) hz0).trans c6, (h.cell (p := ⟨w.heap.size, 7, none⟩) hz0).trans c7, h⟩
  have KC := Lib.hid kc; have HW0 := Lib.hid hW0
  clear kc hW0 c0 c1 c2 c3 c4 c5 c6 c7
  have k1 := fun W (hb : Below W0.heap.size W0 W) => few15_any A n c xs W ((hr.below hB0).below hb) hn hs
  have k2 := fun W (hb : Below W0.heap.size W0 W) => few15_any va vn vc es W ((hE.below hB0).below hb) hvn hel
  have HN := Lib.hid (hN.below hB0); have HNL := Lib.hid hnl
  clear hN hnl
  have hxl := hr.fld
  have hel2 := hE.fld
  have HXL := Lib.hid hxl; have HEL2 := Lib.hid hel2
  have hR := Lib.hid (hr.below hB0); have hER := Lib.hid (hE.below hB0)
  clear hxl hel2 hr hE hs hel hn hvn
  have hfx := @few15_yes xs
  have hfe := @few15_yes es
  generalize few15 xs = fx at *
  generalize few15 es = fe at *
  have K1 := Lib.hid k1; have K2 := Lib.hid k2; clear k1 k2
  have HFX := Lib.hid hfx; have HFE := Lib.hid hfe; clear hfx hfe
  have quit : ∀ w', Below w.heap.size w w' → Calls Tryd.prog 9 #[] w' fun e w2 => e = .returned (.bool true) ∧ Below w.heap.size w w2 := fun w' hb => (awake15_any w').mono fun e w2 ⟨h1, h2⟩ => ⟨h1, bt hb h2⟩
  have QUIT := Lib.hid quit; clear quit
  have hb00 := Below.refl W0.heap.size W0
  obtain ⟨_, _, _, _, _, _, _, d7, _⟩ := KC.out _ hb00
  cases fx
  · go_enter Tryd.func4, Tryd.ntmps4
    go_upto_region 1 with (fail)
    rw [HW0.out]
    go_wp2_with fail
    refine (K1.out _ hb00).mono ?_
    rintro e w1 ⟨rfl, hb1⟩
    go_wp2_with fail
    refine (QUIT.out _ (hB0.trans (hb1.mono hB0.size))).mono ?_
    rintro e w2 ⟨rfl, hb2⟩
    go_wp2
    go_ret
    exact ⟨rfl, hb2⟩
  · cases fe
    · go_enter Tryd.func4, Tryd.ntmps4
      go_upto_region 1 with (fail)
      rw [HW0.out]
      go_wp2_with fail
      refine (K1.out _ hb00).mono ?_
      rintro e w1 ⟨rfl, hb1⟩
      obtain ⟨_, _, _, _, _, _, _, e7, _⟩ := KC.out _ hb1
      go_wp2_with fail
      refine (K2.out _ hb1).mono ?_
      rintro e w2 ⟨rfl, hb2⟩
      go_wp2_with fail
      refine (QUIT.out _ (hB0.trans ((bt hb1 hb2).mono hB0.size))).mono ?_
      rintro e w3 ⟨rfl, hb3⟩
      go_wp2
      go_ret
      exact ⟨rfl, hb3⟩
    · obtain ⟨hx40, hxm⟩ := HFX.out rfl
      obtain ⟨he40, hem⟩ := HFE.out rfl
      cases h40 : decide (40 < (names.length : Int))
      · have hn40 : names.length ≤ 40 := by simp at h40; omega
        go_enter Tryd.func4, Tryd.ntmps4
        go_upto_region 1 with (fail)
        rw [HW0.out]
        go_wp2_with fail
        refine (K1.out _ hb00).mono ?_
        rintro e w1 ⟨rfl, hb1⟩
        obtain ⟨_, _, _, _, _, _, _, e7, _⟩ := KC.out _ hb1
        go_wp2_with fail
        refine (K2.out _ hb1).mono ?_
        rintro e w2 ⟨rfl, hb2'⟩
        have hb2 := bt hb1 hb2'
        clear hb2' e7 d7 hb1
        go_wp2_with fail
        go_loop [7] (fun i => ∃ k : Nat, k ≤ names.length ∧ i = .int .i64 k ∧ Hid (∀ j (h : j < names.length), j < k → names[j].length ≤ 200)) (fun i => names.length - (intOf i).toNat)
        case atStart => exact ⟨0, Nat.zero_le _, rfl, Lib.hid (fun j h hj => absurd hj (by omega))⟩
        case round =>
          obtain ⟨k, hk, rfl, HA⟩ := hrel
          by_cases hlt : k < names.length
          · obtain ⟨b, o, rfl, hl, c1⟩ := (HN.out.below hb2).str_at (k := k) hlt
            have hz := HNL.out names[k] (List.getElem_mem _)
            have hnx : names[k].length ≤ 200 → Hid (∀ j (h : j < names.length), j < k + 1 → names[j].length ≤ 200) := by
              intro e
              refine Lib.hid fun j h hj => ?_
              by_cases hjk : j = k
              · subst hjk; exact e
              · exact HA.out j h (by omega)
            generalize names[k] = nm at *
            have Hnx := Lib.hid hnx; clear hnx
            by_cases h200 : 200 < nm.length
            · have t1 : decide ((200 : Int) < (nm.length : Int)) = true := by simp; omega
              go_wp2_with (go_at_call 9; refine (QUIT.out _ (hB0.trans (hb2.mono hB0.size))).mono ?_; rintro e w3 ⟨rfl, hb3⟩)
              go_ret
              exact ⟨rfl, hb3⟩
            · have t1 : decide ((200 : Int) < (nm.length : Int)) = false := by simp; omega
              have hn := Hnx.out (by omega)
              clear Hnx HA
              go_wp2
              go_round
              case rel => exact ⟨k + 1, by omega, by go_num, hn⟩
              case measure => simp [intOf]; omega
          · have hnm : ∀ x ∈ names, x.length ≤ 200 := by
              intro x hx
              obtain ⟨j, hj, e⟩ := List.mem_iff_getElem.1 hx
              rw [← e]; exact HA.out j hj (by omega)
            have k3 := fun W (hb : Below W0.heap.size W0 W) => select_any N names.length nc names A n c xs W (HN.out.below hb) (by omega) (fun x hx => by have := hnm x hx; omega) (hR.out.below hb) (by rw [HXL.out]; omega) (fun f hf => by have := hxm f hf; omega)
            have k4 := fun W (hb : Below W0.heap.size W0 W) => rselect_any N names.length nc names A n c xs W (HN.out.below hb) (by omega) (fun x hx => by have := hnm x hx; omega) (hR.out.below hb) (by rw [HXL.out]; omega) (fun f hf => by have := hxm f hf; omega)
            have hsl : (selectL names xs).length ≤ 40 := by unfold selectL; rw [List.length_map]; omega
            have k5 := fun W (hb : Below W0.heap.size W0 W) => matches_any st re mi fa fn fc bo asd gt va vn vc es A n c xs W (hER.out.below hb) (by rw [HEL2.out]; omega) (fun f hf => by have := hem f hf; omega) (hR.out.below hb) (by rw [HXL.out]; omega) (fun f hf => by have := hxm f hf; omega)
            have k6 := fun W (hb : Below W0.heap.size W0 W) => rmatches_any st re mi fa fn fc bo asd gt va vn vc es A n c xs W (hER.out.below hb) (by rw [HEL2.out]; omega) (fun f hf => by have := hem f hf; omega) (hR.out.below hb) (by rw [HXL.out]; omega) (fun f hf => by have := hxm f hf; omega)
            unfold entV at k5 k6
            generalize selectL names xs = sel at *
            generalize matchesL es xs = mt at *
            have k7 : ∀ (a a' : Option Addr) (c c' : Nat) (W : World), Rd a sel.length 2 (fldsV sel) W → Rd a' sel.length 2 (fldsV sel) W → Calls Tryd.prog 13 #[.slice a sel.length c, .slice a' sel.length c'] W fun e w' => e = .returned (.bool true) ∧ Below W.heap.size W w' := by
              intro a a' c c' W h1 h2
              have := samef15_any a _ c sel a' _ c' sel W h1 h2 (by omega) (by omega)
              rwa [show (sel == sel) = true from by simp] at this
            have K3 := Lib.hid k3; have K4 := Lib.hid k4; have K5 := Lib.hid k5; have K6 := Lib.hid k6; have K7 := Lib.hid k7
            clear k3 k4 k5 k6 k7 hnm hxm hem HA
            go_wp2_with fail
            go_region_held3 (fun w' => w'.cell? ⟨w.heap.size, 0, none⟩ = some (.int .i64 st) ∧ w'.cell? ⟨w.heap.size, 1, none⟩ = some (.string re) ∧ w'.cell? ⟨w.heap.size, 2, none⟩ = some (.int .i64 mi) ∧ w'.cell? ⟨w.heap.size, 3, none⟩ = some (.slice fa fn fc) ∧ w'.cell? ⟨w.heap.size, 4, none⟩ = some (.string bo) ∧ w'.cell? ⟨w.heap.size, 5, none⟩ = some (.int .i64 asd) ∧ w'.cell? ⟨w.heap.size, 6, none⟩ = some (.int .i64 gt) ∧ w'.cell? ⟨w.heap.size, 7, none⟩ = some (.slice va vn vc) ∧ Below W0.heap.size W0 w') (first | exact KC.out _ hb2 | exact KC.out _ hb2.drew | exact KC.out _ hb3 | exact KC.out _ hb3.drew | exact KC.out _ hb4 | exact KC.out _ hb4.drew | exact KC.out _ hb5 | exact KC.out _ hb5.drew | exact KC.out _ hb6 | exact KC.out _ hb7 | exact KC.out _ hb8) (first | (go_at_call 14; obtain ⟨_, _, _, _, _, _, _, _, gb⟩ := ‹_ ∧ _ ∧ _ ∧ _ ∧ _ ∧ _ ∧ _ ∧ _ ∧ Below W0.heap.size W0 _›; refine (K3.out _ gb).mono ?_; rintro e w3 ⟨a3, c3, rfl, ho3, h3⟩; have hb3 := bt gb h3) | (go_at_call 15; refine (K4.out _ hb3).mono ?_; rintro e w4 ⟨a4, c4, rfl, ho4, h4⟩; have hb4 := bt hb3 h4; have ho34 := ho3.below h4) | (go_at_call 13; refine (K7.out _ _ _ _ _ ho34.rd.2 ho4.rd.2).mono ?_; rintro e w5 ⟨rfl, h5⟩; have hb5 := bt hb4 h5) | (go_at_call 16; refine (K5.out _ hb5).mono ?_; rintro e w6 ⟨rfl, h6⟩; have hb6 := bt hb5 h6) | (go_at_call 17; refine (K6.out _ hb6).mono ?_; rintro e w7 ⟨rfl, h7⟩; have hb7 := bt hb6 h7) | (go_at_call 9; refine (awake15_any _).mono ?_; rintro e w8 ⟨rfl, h8⟩; have hb8 := bt hb7 h8) | fail)
            go_wp2
            go_ret
            exact ⟨by simp, hB0.trans (hb8.mono hB0.size)⟩
      · go_enter Tryd.func4, Tryd.ntmps4
        go_upto_region 1 with (fail)
        rw [HW0.out]
        go_wp2_with fail
        refine (K1.out _ hb00).mono ?_
        rintro e w1 ⟨rfl, hb1⟩
        obtain ⟨_, _, _, _, _, _, _, e7, _⟩ := KC.out _ hb1
        go_wp2_with fail
        refine (K2.out _ hb1).mono ?_
        rintro e w2 ⟨rfl, hb2⟩
        go_wp2_with fail
        refine (QUIT.out _ (hB0.trans ((bt hb1 hb2).mono hB0.size))).mono ?_
        rintro e w3 ⟨rfl, hb3⟩
        go_wp2
        go_ret
        exact ⟨rfl, hb3⟩
end Go.Proofs.YtdlajobnnnmojaaDoor
