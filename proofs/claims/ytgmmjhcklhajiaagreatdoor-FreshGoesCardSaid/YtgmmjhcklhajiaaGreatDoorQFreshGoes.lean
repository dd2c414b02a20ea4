/- Joined out of the texts FreshGoes, GoesLaw (wip/tools/merge.py). -/
import Derived.Test.YtgmmjhcklhajiaaGreatDoorPa7
import Derived.IntWalk
/- FreshGoes: the walk of the law (printed by wip/tools/goes13.py). -/
namespace Go.Proofs.YtgmmjhcklhajiaaGreatDoor
open Go.RowKit
set_option maxRecDepth 100000

set_option maxHeartbeats 32000000 in
theorem freshGoes_any (st mi asked got : Int) (re bo : ByteArray) (A V : Option Addr) (n c m d : Nat) (xs : List Fld) (x y : Int) (dev : ByteArray) (w : World) (hE : DEnv w) (hr : Rd A n 2 (fldsV xs) w) (hs : ∀ f ∈ xs, f.1.length ≤ 140737488355328 ∧ f.2.length ≤ 140737488355328) (ha : -9223372036854775808 ≤ asked ∧ asked ≤ 9223372036854775807) (hx : 0 ≤ x ∧ x < 18446744073709551616) (hy : 0 ≤ y ∧ y < 18446744073709551616) :
    Calls Tryz.prog 5 #[entV st re mi A n c bo asked got V m d, .agg #[.int .u64 x, .int .u64 y], .string dev] w fun e w' => e = .returned (.bool true) ∧ Below w.heap.size w w' := by
  obtain ⟨W1, hW1⟩ : ∃ W1, w.alloc (.cells #[.int .i64 st, .string re, .int .i64 mi, .slice A n c, .string bo, .int .i64 asked, .int .i64 got, .slice V m d] 26) = W1 := ⟨_, rfl⟩
  have b1 : Below w.heap.size w W1 := by rw [← hW1]; exact (Below.refl w.heap.size w).alloc (Nat.le_refl _) _
  have z1 : W1.heap.size = w.heap.size + 1 := by rw [← hW1]; simp
  have x1 : EntAt w.heap.size st re mi A n c bo asked got V m d W1 := by rw [← hW1]; exact heap_new w _ _ rfl
  obtain ⟨W2, hW2⟩ : ∃ W2, W1.alloc (.cells #[.int .u64 x, .int .u64 y] 39) = W2 := ⟨_, rfl⟩
  have b2 : Below W1.heap.size W1 W2 := by rw [← hW2]; exact (Below.refl W1.heap.size W1).alloc (Nat.le_refl _) _
  have x2 : W2.heap[w.heap.size + 1]? = some (.cells #[.int .u64 x, .int .u64 y] 39 (0, 0)) := by rw [← hW2]; exact heap_new W1 _ _ z1
  have x1 := x1.below b2
  have hB2 := bt b1 b2
  have k0 := few13_any st mi asked got re bo A V n c m d xs W2 (hr.below hB2) hs
  cases hf : few13 xs
  · rw [hf] at k0
    have K0 := Lib.hid k0; have HA := Lib.hid (fun W (hb : Below w.heap.size w W) => awake13_any W (hE.below hb)); have HW1 := Lib.hid hW1; have HW2 := Lib.hid hW2; have HB2 := Lib.hid hB2
    obtain ⟨c0, c1, c2, c3, c4, c5, c6, c7, cl⟩ := x1.cells
    clear k0 hW1 hW2 hB2 x1 x2 b1 b2 z1 hr hE hs
    unfold entV at *
    go_enter Tryz.func5, Tryz.ntmps5
    go_upto_region 1 with (fail)
    rw [HW1.out, HW2.out]
    go_wp2_with fail
    (with_reducible refine K0.out.mono ?_)
    rintro e w1 ⟨rfl, hb1⟩
    have HB := Lib.hid (bt HB2.out hb1)
    clear hb1
    go_wp2_with fail
    (with_reducible refine (HA.out _ HB.out).mono ?_)
    rintro e w2 ⟨rfl, hb2⟩
    go_wp2
    go_ret
    exact ⟨rfl, bt HB.out hb2⟩
  · rw [hf] at k0
    by_cases hdv : 500 < dev.size
    · have t1 : decide ((dev.size : Int) > 500) = true := by simp; omega
      have K0 := Lib.hid k0; have HA := Lib.hid (fun W (hb : Below w.heap.size w W) => awake13_any W (hE.below hb)); have HW1 := Lib.hid hW1; have HW2 := Lib.hid hW2; have HB2 := Lib.hid hB2
      obtain ⟨c0, c1, c2, c3, c4, c5, c6, c7, cl⟩ := x1.cells
      clear k0 hW1 hW2 hB2 x1 x2 b1 b2 z1 hr hE hs
      unfold entV at *
      go_enter Tryz.func5, Tryz.ntmps5
      go_upto_region 1 with (fail)
      rw [HW1.out, HW2.out]
      go_wp2_with fail
      (with_reducible refine K0.out.mono ?_)
      rintro e w1 ⟨rfl, hb1⟩
      have HB := Lib.hid (bt HB2.out hb1)
      clear hb1
      go_wp2_with fail
      (with_reducible refine (HA.out _ HB.out).mono ?_)
      rintro e w2 ⟨rfl, hb2⟩
      go_wp2
      go_ret
      exact ⟨rfl, bt HB.out hb2⟩
    · have t1 : decide ((dev.size : Int) > 500) = false := by simp; omega
      obtain ⟨hx80, hsum⟩ := few13_yes hf
      have hxn := hr.fld
      obtain ⟨g, hg⟩ : ∃ g, max (-4611686018427387904) (min got 4611686018427387904) = g := ⟨_, rfl⟩
      have hgb : -4611686018427387904 ≤ g ∧ g ≤ 4611686018427387904 := by omega
      obtain ⟨X, hX⟩ : ∃ X, x % 1099511627776 = X := ⟨_, rfl⟩
      obtain ⟨Y, hY⟩ : ∃ Y, y % 1099511627776 = Y := ⟨_, rfl⟩
      have hXb : 0 ≤ X ∧ X < 1099511627776 := by omega
      have hYb : 0 ≤ Y ∧ Y < 1099511627776 := by omega
      have eX : x.tmod 1099511627776 = X := by rw [Int.tmod_eq_emod_of_nonneg hx.1]; exact hX
      have eY : y.tmod 1099511627776 = Y := by rw [Int.tmod_eq_emod_of_nonneg hy.1]; exact hY
      have uX : IntKind.u64.wrap X = X := by rw [IntKind.wrap_u64]; omega
      have uY : IntKind.u64.wrap Y = Y := by rw [IntKind.wrap_u64]; omega
      have wX : IntKind.i64.wrap X = X := IntWalk.i64_in _ (by omega)
      have wY : IntKind.i64.wrap Y = Y := IntWalk.i64_in _ (by omega)
      have wa : IntKind.i64.wrap (g + X) = g + X := IntWalk.i64_in _ (by omega)
      have wb : IntKind.i64.wrap (g + X + Y) = g + X + Y := IntWalk.i64_in _ (by omega)
      have wg : IntKind.i64.wrap (g - 1) = g - 1 := IntWalk.i64_in _ (by omega)
      have ka := fun t (ht : -9223372036854775808 ≤ t ∧ t ≤ 9223372036854775807) W (hb : Below w.heap.size w W) => age_any st mi asked g t re bo A V n c m d xs W (hE.below hb) (hr.below hb) (by omega) (by omega) (by omega) ha ht
      have kl := fun W (hb : Below w.heap.size w W) => life_any st mi asked g re bo A V n c m d xs dev W (hE.below hb) (hr.below hb) (by omega) (by omega) (by omega)
      have kf := fun t (ht : -9223372036854775808 ≤ t ∧ t ≤ 9223372036854775807) W (hb : Below w.heap.size w W) => fresh_any st mi asked g t re bo A V n c m d xs dev W (hE.below hb) (hr.below hb) (by omega) (by omega) (by omega) ha ht
      have hgo := age_goes xs asked (got := g) (a := g + X) (b := g + X + Y) (by omega) (by omega)
      have hah := age_ahead xs asked g
      have hAi := ageF_in xs asked g (g + X)
      have hLi := lifeF_in xs g dev.data.toList
      have hBk := fresh_back xs asked (got := g) (a := g + X) (b := g + X + Y) dev.data.toList (by omega)
      have hBg := fresh_back xs asked (got := g) (a := g) (b := g + X + Y) dev.data.toList (by omega)
      have hF0 : freshF xs asked g (g + X) dev.data.toList = decide (ageF xs asked g (g + X) < lifeF xs g dev.data.toList) := rfl
      have k1 := fun W => since_any (g + X) (g + X + Y) W (by omega) (by omega) (by omega) (by omega)
      have ka1 := ka (g + X) (by omega)
      have ka2 := ka (g + X + Y) (by omega)
      have kb1 := ka (g - 1) (by omega)
      have kb2 := ka g (by omega)
      have kf1 := kf (g + X + Y) (by omega)
      have kf2 := kf (g + X) (by omega)
      have kf3 := kf g (by omega)
      rw [hgo] at ka2
      rw [hah] at kb1
      clear ka kf hgo hah
      generalize lifeF xs g dev.data.toList = L at *
      generalize ageF xs asked g (g + X) = xx at *
      generalize ageF xs asked g g = ag at *
      generalize freshF xs asked g (g + X + Y) dev.data.toList = fb at *
      generalize freshF xs asked g (g + X) dev.data.toList = fa at *
      generalize freshF xs asked g g dev.data.toList = fg at *
      have k2 := fun W => add_any xx (since (g + X) (g + X + Y)) W
      have hyl := addB_lo xx (since (g + X) (g + X + Y))
      have hyh := addB_hi xx (since (g + X) (g + X + Y))
      generalize since (g + X) (g + X + Y) = sn at *
      generalize addB xx sn = yy at *
      have e1 : (yy != yy) = false := by simp
      have e2 : decide (xx < 0) = false := by simp; omega
      have e3 : decide (yy > 2147483648) = false := by simp; omega
      have e4 : decide (L < 0) = false := by simp; omega
      have e5 : decide (L > 2147483648) = false := by simp; omega
      have e6 : (ag == ag) = true := by simp
      have K0 := Lib.hid k0; have HA := Lib.hid (fun W (hb : Below w.heap.size w W) => awake13_any W (hE.below hb)); have HW1 := Lib.hid hW1; have HW2 := Lib.hid hW2; have HB2 := Lib.hid hB2; have X1 := Lib.hid x1
      have KA1 := Lib.hid ka1; have KA2 := Lib.hid ka2; have KB1 := Lib.hid kb1; have KB2 := Lib.hid kb2; have KF1 := Lib.hid kf1; have KF2 := Lib.hid kf2; have KF3 := Lib.hid kf3; have KL := Lib.hid kl; have K1 := Lib.hid k1; have K2 := Lib.hid k2
      have X2 := Lib.hid x2; have HBK := Lib.hid hBk; have HBG := Lib.hid hBg; have HF0 := Lib.hid hF0; have HG := Lib.hid hg
      obtain ⟨c0, c1, c2, c3, c4, c5, c6, c7, cl⟩ := x1.cells
      clear k0 hW1 hW2 hB2 x1 x2 b1 b2 z1 hr hE hs ka1 ka2 kb1 kb2 kf1 kf2 kf3 kl k1 k2 hX hY hsum hBk hBg hF0 hf hg hxn
      unfold entV at *
      go_enter Tryz.func5, Tryz.ntmps5
      go_upto_region 1 with (fail)
      rw [HW1.out, HW2.out]
      go_wp2_with fail
      (with_reducible refine K0.out.mono ?_)
      rintro e w1 ⟨rfl, hb1⟩
      have x1' := X1.out.below hb1
      obtain ⟨W3, hW3⟩ : ∃ W3, w1.setCell ⟨w.heap.size, 6, none⟩ (.int .i64 g) = W3 := ⟨_, rfl⟩
      have x3 : EntAt w.heap.size st re mi A n c bo asked g V m d W3 := by
        rw [← hW3]
        have := heap_setN (j := 6) (v := .int .i64 g) x1'
        unfold EntAt
        simpa using this
      have hB1 := bt HB2.out hb1
      have hB3 : Below w.heap.size w W3 := by rw [← hW3]; exact hB1.setCell (p := ⟨w.heap.size, 6, none⟩) (Nat.le_refl _) _
      have hzz : w.heap.size + 1 < W2.heap.size := (of_heap X2.out 0).2.2
      have x2' := (hb1.block (w.heap.size + 1) hzz).trans X2.out
      have x2'' : W3.heap[w.heap.size + 1]? = some (.cells #[.int .u64 x, .int .u64 y] 39 (0, 0)) := by rw [← hW3]; exact (Below.heap_setCell _ _ _ _ (by show w.heap.size + 1 ≠ w.heap.size; omega)).trans x2'
      have q0 := (of_heap x2'' 0).1; have q1 := (of_heap x2'' 1).1
      simp only [List.getElem?_toArray, List.getElem?_cons_succ, List.getElem?_cons_zero] at q0 q1
      have kc : ∀ w', Below W3.heap.size W3 w' → w'.cell? ⟨w.heap.size, 0, none⟩ = some (.int .i64 st) ∧ w'.cell? ⟨w.heap.size, 1, none⟩ = some (.string re) ∧ w'.cell? ⟨w.heap.size, 2, none⟩ = some (.int .i64 mi) ∧ w'.cell? ⟨w.heap.size, 3, none⟩ = some (.slice A n c) ∧ w'.cell? ⟨w.heap.size, 4, none⟩ = some (.string bo) ∧ w'.cell? ⟨w.heap.size, 5, none⟩ = some (.int .i64 asked) ∧ w'.cell? ⟨w.heap.size, 6, none⟩ = some (.int .i64 g) ∧ w'.cell? ⟨w.heap.size, 7, none⟩ = some (.slice V m d) ∧ Below W3.heap.size W3 w' := fun w' hb => by
        obtain ⟨a0, a1, a2, a3, a4, a5, a6, a7, _⟩ := (x3.below hb).cells
        exact ⟨a0, a1, a2, a3, a4, a5, a6, a7, hb⟩
      have HW3 := Lib.hid hW3; have HB3 := Lib.hid hB3; have X3 := Lib.hid x3; have KC := Lib.hid kc
      clear c0 c1 c2 c3 c4 c5 c6 c7 cl
      obtain ⟨c0, c1, c2, c3, c4, c5, c6, c7, cl⟩ := x1'.cells
      have f6 := (of_heap x1' 6).2.1
      clear hb1 hB1 x2' x2'' hW3 x3 hB3 kc x1'
      go_upto_region 4 with (fail)
      rw [HG.out, HW3.out]
      clear f6 c0 c1 c2 c3 c4 c5 c6 c7 cl
      obtain ⟨c0, c1, c2, c3, c4, c5, c6, c7, cl⟩ := X3.out.cells
      have hd0 : Below W3.heap.size W3 W3.drew := (Below.refl _ _).drew
      go_upto_region 6 with (fail)
      refine wp_region_held_drew (S := (fun w' => w'.cell? ⟨w.heap.size, 0, none⟩ = some (.int .i64 st) ∧ w'.cell? ⟨w.heap.size, 1, none⟩ = some (.string re) ∧ w'.cell? ⟨w.heap.size, 2, none⟩ = some (.int .i64 mi) ∧ w'.cell? ⟨w.heap.size, 3, none⟩ = some (.slice A n c) ∧ w'.cell? ⟨w.heap.size, 4, none⟩ = some (.string bo) ∧ w'.cell? ⟨w.heap.size, 5, none⟩ = some (.int .i64 asked) ∧ w'.cell? ⟨w.heap.size, 6, none⟩ = some (.int .i64 g) ∧ w'.cell? ⟨w.heap.size, 7, none⟩ = some (.slice V m d) ∧ Below W3.heap.size W3 w')) (by kernel_rfl) (KC.out _ hd0) (fun hHeld => ?_)
      refine wpAnyH_take (i := 0) (v := ?_) (by simp only [List.getElem?_toArray, List.getElem?_cons_zero]; exact rfl) (by kernel_rfl) (by kernel_rfl) (by kernel_rfl) (by intro _ _ _ h; exact h) (Or.inl ⟨by rfl, fun W hSw => ?_⟩) hHeld ?_
      rotate_left
      focus ((try dsimp only at hSw); first | (go_simp; done) | (go_simp; with_reducible rfl))
      try simp only [Act.put, List.setIfInBounds_toArray, List.set_cons_zero, List.set_cons_succ]
      refine wpAnyH_take (i := 1) (v := ?_) (by simp only [List.getElem?_toArray, List.getElem?_cons_succ, List.getElem?_cons_zero]; exact rfl) (by kernel_rfl) (by kernel_rfl) (by kernel_rfl) (by intro _ _ _ h; exact h) (Or.inl ⟨by rfl, fun W hSw => ?_⟩) hHeld ?_
      rotate_left
      focus ((try dsimp only at hSw); first | (go_simp; done) | (go_simp; with_reducible rfl))
      try simp only [Act.put, List.setIfInBounds_toArray, List.set_cons_zero, List.set_cons_succ]
      refine wpAnyH_take (i := 3) (v := ?_) (by simp only [List.getElem?_toArray, List.getElem?_cons_succ, List.getElem?_cons_zero]; exact rfl) (by kernel_rfl) (by kernel_rfl) (by kernel_rfl) (by intro _ _ _ h; exact h) (Or.inl ⟨by rfl, fun W hSw => ?_⟩) hHeld ?_
      rotate_left
      focus ((try dsimp only at hSw); first | (go_simp; done) | (go_simp; with_reducible rfl))
      try simp only [Act.put, List.setIfInBounds_toArray, List.set_cons_zero, List.set_cons_succ]
      refine wpAnyH_take (i := 4) (v := ?_) (by simp only [List.getElem?_toArray, List.getElem?_cons_succ, List.getElem?_cons_zero]; exact rfl) (by kernel_rfl) (by kernel_rfl) (by kernel_rfl) (by intro _ _ _ h; exact h) (Or.inl ⟨by rfl, fun W hSw => ?_⟩) hHeld ?_
      rotate_left
      focus ((try dsimp only at hSw); first | (go_simp; done) | (go_simp; with_reducible rfl))
      try simp only [Act.put, List.setIfInBounds_toArray, List.set_cons_zero, List.set_cons_succ]
      refine wpAnyH_ready (rs := [2]) (by kernel_rfl) (by simp) (AllReadyH.cons (by simp only [List.getElem?_toArray, List.getElem?_cons_succ, List.getElem?_cons_zero]; exact rfl) (fun K hK => ?_) AllReadyH.nil)
      rw [if_pos (by rfl)]
      go_simp
      (with_reducible refine (KA1.out _ (bt HB3.out hd0)).mono ?_); rintro e v1 ⟨rfl, hv1⟩; have hd1 := bt hd0 hv1; go_wp2_with fail
      refine hK.out _ _ (KC.out _ hd1) (fun hHeld => ?_)
      clear hK K
      try simp only [Act.put, List.setIfInBounds_toArray, List.set_cons_zero, List.set_cons_succ]
      refine wpAnyH_ready (rs := [5]) (by kernel_rfl) (by simp) (AllReadyH.cons (by simp only [List.getElem?_toArray, List.getElem?_cons_succ, List.getElem?_cons_zero]; exact rfl) (fun K hK => ?_) AllReadyH.nil)
      rw [if_pos (by rfl)]
      go_simp
      (with_reducible refine (KA2.out _ (bt HB3.out hd1)).mono ?_); rintro e v2 ⟨rfl, hv2⟩; have hd2 := bt hd1 hv2; go_wp2_with fail
      refine hK.out _ _ (KC.out _ hd2) (fun hHeld => ?_)
      clear hK K
      try simp only [Act.put, List.setIfInBounds_toArray, List.set_cons_zero, List.set_cons_succ]
      refine wpAnyH_take (i := 6) (v := ?_) (by simp only [List.getElem?_toArray, List.getElem?_cons_succ, List.getElem?_cons_zero]; exact rfl) (by kernel_rfl) (by kernel_rfl) (by kernel_rfl) (by intro _ _ _ h; exact h) (Or.inl ⟨by rfl, fun W hSw => ?_⟩) hHeld ?_
      rotate_left
      focus ((try dsimp only at hSw); first | (go_simp; done) | (go_simp; with_reducible rfl))
      try simp only [Act.put, List.setIfInBounds_toArray, List.set_cons_zero, List.set_cons_succ]
      refine wpAnyH_take (i := 7) (v := ?_) (by simp only [List.getElem?_toArray, List.getElem?_cons_succ, List.getElem?_cons_zero]; exact rfl) (by kernel_rfl) (by kernel_rfl) (by kernel_rfl) (by intro _ _ _ h; exact h) (Or.inl ⟨by rfl, fun W hSw => ?_⟩) hHeld ?_
      rotate_left
      focus ((try dsimp only at hSw); first | (go_simp; done) | (go_simp; with_reducible rfl))
      try simp only [Act.put, List.setIfInBounds_toArray, List.set_cons_zero, List.set_cons_succ]
      refine wpAnyH_done (by kernel_rfl) ?_ _
      clear hHeld c0 c1 c2 c3 c4 c5 c6 c7 cl q0 q1
      obtain ⟨c0, c1, c2, c3, c4, c5, c6, c7, cl⟩ := (X3.out.below hd2).cells
      go_wp2_with fail
      (with_reducible refine (K1.out _).mono ?_)
      rintro e v3 ⟨rfl, rfl⟩
      go_wp2_with fail
      (with_reducible refine (K2.out _).mono ?_)
      rintro e v3 ⟨rfl, rfl⟩
      go_wp2_with fail
      (with_reducible refine (KL.out _ (bt HB3.out hd2)).mono ?_)
      rintro e v4 ⟨rfl, hv4⟩
      have hd4 := bt hd2 hv4
      clear hv4 hd2 hd1 hv1 hv2 c0 c1 c2 c3 c4 c5 c6 c7 cl
      obtain ⟨c0, c1, c2, c3, c4, c5, c6, c7, cl⟩ := (X3.out.below hd4).cells
      go_wp2_with fail
      (with_reducible refine (KF1.out _ (bt HB3.out hd4)).mono ?_)
      rintro e v5 ⟨rfl, hv5⟩
      have hd5 := bt hd4 hv5
      clear hv5 hd4 c0 c1 c2 c3 c4 c5 c6 c7 cl
      obtain ⟨c0, c1, c2, c3, c4, c5, c6, c7, cl⟩ := (X3.out.below hd5).cells
      cases fb
      · go_upto_region 12 with (fail)
        clear c0 c1 c2 c3 c4 c5 c6 c7 cl
        have hq0 : Below W3.heap.size W3 v5.drew := hd5.drew
        by_cases hL : 0 < L
        · have e7 : decide (L > 0) = true := by simpa using hL
          refine wp_region_held_drew (S := (fun w' => w'.cell? ⟨w.heap.size, 0, none⟩ = some (.int .i64 st) ∧ w'.cell? ⟨w.heap.size, 1, none⟩ = some (.string re) ∧ w'.cell? ⟨w.heap.size, 2, none⟩ = some (.int .i64 mi) ∧ w'.cell? ⟨w.heap.size, 3, none⟩ = some (.slice A n c) ∧ w'.cell? ⟨w.heap.size, 4, none⟩ = some (.string bo) ∧ w'.cell? ⟨w.heap.size, 5, none⟩ = some (.int .i64 asked) ∧ w'.cell? ⟨w.heap.size, 6, none⟩ = some (.int .i64 g) ∧ w'.cell? ⟨w.heap.size, 7, none⟩ = some (.slice V m d) ∧ Below W3.heap.size W3 w')) (by kernel_rfl) (KC.out _ hq0) (fun hHeld => ?_)
          refine wpAnyH_take (i := 0) (v := ?_) (by simp only [List.getElem?_toArray, List.getElem?_cons_zero]; exact rfl) (by kernel_rfl) (by kernel_rfl) (by kernel_rfl) (by intro _ _ _ h; exact h) (Or.inl ⟨by rfl, fun W hSw => ?_⟩) hHeld ?_
          rotate_left
          focus ((try dsimp only at hSw); first | (go_simp; done) | (go_simp; with_reducible rfl))
          try simp only [Act.put, List.setIfInBounds_toArray, List.set_cons_zero, List.set_cons_succ]
          refine wpAnyH_take (i := 1) (v := ?_) (by simp only [List.getElem?_toArray, List.getElem?_cons_succ, List.getElem?_cons_zero]; exact rfl) (by kernel_rfl) (by kernel_rfl) (by kernel_rfl) (by intro _ _ _ h; exact h) (Or.inl ⟨by rfl, fun W hSw => ?_⟩) hHeld ?_
          rotate_left
          focus ((try dsimp only at hSw); first | (go_simp; done) | (go_simp; with_reducible rfl))
          try simp only [Act.put, List.setIfInBounds_toArray, List.set_cons_zero, List.set_cons_succ]
          refine wpAnyH_take (i := 2) (v := ?_) (by simp only [List.getElem?_toArray, List.getElem?_cons_succ, List.getElem?_cons_zero]; exact rfl) (by kernel_rfl) (by kernel_rfl) (by kernel_rfl) (by intro _ _ _ h; exact h) (Or.inl ⟨by rfl, fun W hSw => ?_⟩) hHeld ?_
          rotate_left
          focus ((try dsimp only at hSw); first | (go_simp; done) | (go_simp; with_reducible rfl))
          try simp only [Act.put, List.setIfInBounds_toArray, List.set_cons_zero, List.set_cons_succ]
          refine wpAnyH_take (i := 3) (v := undef) (by simp only [List.getElem?_toArray, List.getElem?_cons_succ, List.getElem?_cons_zero]; exact rfl) (by kernel_rfl) (by kernel_rfl) (by kernel_rfl) (by intro _ _ _ h; exact h) (Or.inr ⟨by rfl, rfl⟩) hHeld ?_
          try simp only [Act.put, List.setIfInBounds_toArray, List.set_cons_zero, List.set_cons_succ]
          refine wpAnyH_take (i := 4) (v := undef) (by simp only [List.getElem?_toArray, List.getElem?_cons_succ, List.getElem?_cons_zero]; exact rfl) (by kernel_rfl) (by kernel_rfl) (by kernel_rfl) (by intro _ _ _ h; exact h) (Or.inr ⟨by rfl, rfl⟩) hHeld ?_
          try simp only [Act.put, List.setIfInBounds_toArray, List.set_cons_zero, List.set_cons_succ]
          refine wpAnyH_take (i := 5) (v := undef) (by simp only [List.getElem?_toArray, List.getElem?_cons_succ, List.getElem?_cons_zero]; exact rfl) (by kernel_rfl) (by kernel_rfl) (by kernel_rfl) (by intro _ _ _ h; exact h) (Or.inr ⟨by rfl, rfl⟩) hHeld ?_
          try simp only [Act.put, List.setIfInBounds_toArray, List.set_cons_zero, List.set_cons_succ]
          refine wpAnyH_take (i := 6) (v := undef) (by simp only [List.getElem?_toArray, List.getElem?_cons_succ, List.getElem?_cons_zero]; exact rfl) (by kernel_rfl) (by kernel_rfl) (by kernel_rfl) (by intro _ _ _ h; exact h) (Or.inr ⟨by rfl, rfl⟩) hHeld ?_
          try simp only [Act.put, List.setIfInBounds_toArray, List.set_cons_zero, List.set_cons_succ]
          refine wpAnyH_take (i := 7) (v := undef) (by simp only [List.getElem?_toArray, List.getElem?_cons_succ, List.getElem?_cons_zero]; exact rfl) (by kernel_rfl) (by kernel_rfl) (by kernel_rfl) (by intro _ _ _ h; exact h) (Or.inr ⟨by rfl, rfl⟩) hHeld ?_
          try simp only [Act.put, List.setIfInBounds_toArray, List.set_cons_zero, List.set_cons_succ]
          refine wpAnyH_take (i := 8) (v := ?_) (by simp only [List.getElem?_toArray, List.getElem?_cons_succ, List.getElem?_cons_zero]; exact rfl) (by kernel_rfl) (by kernel_rfl) (by kernel_rfl) (by intro _ _ _ h; exact h) (Or.inl ⟨by rfl, fun W hSw => ?_⟩) hHeld ?_
          rotate_left
          focus ((try dsimp only at hSw); first | (go_simp; done) | (go_simp; with_reducible rfl))
          try simp only [Act.put, List.setIfInBounds_toArray, List.set_cons_zero, List.set_cons_succ]
          refine wpAnyH_take (i := 9) (v := ?_) (by simp only [List.getElem?_toArray, List.getElem?_cons_succ, List.getElem?_cons_zero]; exact rfl) (by kernel_rfl) (by kernel_rfl) (by kernel_rfl) (by intro _ _ _ h; exact h) (Or.inl ⟨by rfl, fun W hSw => ?_⟩) hHeld ?_
          rotate_left
          focus ((try dsimp only at hSw); first | (go_simp; done) | (go_simp; with_reducible rfl))
          try simp only [Act.put, List.setIfInBounds_toArray, List.set_cons_zero, List.set_cons_succ]
          refine wpAnyH_take (i := 10) (v := ?_) (by simp only [List.getElem?_toArray, List.getElem?_cons_succ, List.getElem?_cons_zero]; exact rfl) (by kernel_rfl) (by kernel_rfl) (by kernel_rfl) (by intro _ _ _ h; exact h) (Or.inl ⟨by rfl, fun W hSw => ?_⟩) hHeld ?_
          rotate_left
          focus ((try dsimp only at hSw); first | (go_simp; done) | (go_simp; with_reducible rfl))
          try simp only [Act.put, List.setIfInBounds_toArray, List.set_cons_zero, List.set_cons_succ]
          refine wpAnyH_take (i := 11) (v := ?_) (by simp only [List.getElem?_toArray, List.getElem?_cons_succ, List.getElem?_cons_zero]; exact rfl) (by kernel_rfl) (by kernel_rfl) (by kernel_rfl) (by intro _ _ _ h; exact h) (Or.inl ⟨by rfl, fun W hSw => ?_⟩) hHeld ?_
          rotate_left
          focus ((try dsimp only at hSw); first | (go_simp; done) | (go_simp; with_reducible rfl))
          try simp only [Act.put, List.setIfInBounds_toArray, List.set_cons_zero, List.set_cons_succ]
          refine wpAnyH_take (i := 12) (v := ?_) (by simp only [List.getElem?_toArray, List.getElem?_cons_succ, List.getElem?_cons_zero]; exact rfl) (by kernel_rfl) (by kernel_rfl) (by kernel_rfl) (by intro _ _ _ h; exact h) (Or.inl ⟨by rfl, fun W hSw => ?_⟩) hHeld ?_
          rotate_left
          focus ((try dsimp only at hSw); first | (go_simp; done) | (go_simp; with_reducible rfl))
          try simp only [Act.put, List.setIfInBounds_toArray, List.set_cons_zero, List.set_cons_succ]
          refine wpAnyH_take (i := 13) (v := ?_) (by simp only [List.getElem?_toArray, List.getElem?_cons_succ, List.getElem?_cons_zero]; exact rfl) (by kernel_rfl) (by kernel_rfl) (by kernel_rfl) (by intro _ _ _ h; exact h) (Or.inl ⟨by rfl, fun W hSw => ?_⟩) hHeld ?_
          rotate_left
          focus ((try dsimp only at hSw); first | (go_simp; done) | (go_simp; with_reducible rfl))
          try simp only [Act.put, List.setIfInBounds_toArray, List.set_cons_zero, List.set_cons_succ]
          refine wpAnyH_take (i := 15) (v := ?_) (by simp only [List.getElem?_toArray, List.getElem?_cons_succ, List.getElem?_cons_zero]; exact rfl) (by kernel_rfl) (by kernel_rfl) (by kernel_rfl) (by intro _ _ _ h; exact h) (Or.inl ⟨by rfl, fun W hSw => ?_⟩) hHeld ?_
          rotate_left
          focus ((try dsimp only at hSw); first | (go_simp; done) | (go_simp; with_reducible rfl))
          try simp only [Act.put, List.setIfInBounds_toArray, List.set_cons_zero, List.set_cons_succ]
          refine wpAnyH_take (i := 16) (v := ?_) (by simp only [List.getElem?_toArray, List.getElem?_cons_succ, List.getElem?_cons_zero]; exact rfl) (by kernel_rfl) (by kernel_rfl) (by kernel_rfl) (by intro _ _ _ h; exact h) (Or.inl ⟨by rfl, fun W hSw => ?_⟩) hHeld ?_
          rotate_left
          focus ((try dsimp only at hSw); first | (go_simp; done) | (go_simp; with_reducible rfl))
          try simp only [Act.put, List.setIfInBounds_toArray, List.set_cons_zero, List.set_cons_succ]
          refine wpAnyH_take (i := 17) (v := ?_) (by simp only [List.getElem?_toArray, List.getElem?_cons_succ, List.getElem?_cons_zero]; exact rfl) (by kernel_rfl) (by kernel_rfl) (by kernel_rfl) (by intro _ _ _ h; exact h) (Or.inl ⟨by rfl, fun W hSw => ?_⟩) hHeld ?_
          rotate_left
          focus ((try dsimp only at hSw); first | (go_simp; done) | (go_simp; with_reducible rfl))
          try simp only [Act.put, List.setIfInBounds_toArray, List.set_cons_zero, List.set_cons_succ]
          refine wpAnyH_ready (rs := [14]) (by kernel_rfl) (by simp) (AllReadyH.cons (by simp only [List.getElem?_toArray, List.getElem?_cons_succ, List.getElem?_cons_zero]; exact rfl) (fun K hK => ?_) AllReadyH.nil)
          rw [if_pos (by rfl)]
          go_simp
          (with_reducible refine (KB1.out _ (bt HB3.out hq0)).mono ?_); rintro e u1 ⟨rfl, hu1⟩; have hq2 := bt hq0 hu1; go_wp2_with fail
          refine hK.out _ _ (KC.out _ hq2) (fun hHeld => ?_)
          clear hK K
          try simp only [Act.put, List.setIfInBounds_toArray, List.set_cons_zero, List.set_cons_succ]
          refine wpAnyH_ready (rs := [18]) (by kernel_rfl) (by simp) (AllReadyH.cons (by simp only [List.getElem?_toArray, List.getElem?_cons_succ, List.getElem?_cons_zero]; exact rfl) (fun K hK => ?_) AllReadyH.nil)
          rw [if_pos (by rfl)]
          go_simp
          (with_reducible refine (KB2.out _ (bt HB3.out hq2)).mono ?_); rintro e u2 ⟨rfl, hu2⟩; have hq3 := bt hq2 hu2; go_wp2_with fail
          refine hK.out _ _ (KC.out _ hq3) (fun hHeld => ?_)
          clear hK K
          try simp only [Act.put, List.setIfInBounds_toArray, List.set_cons_zero, List.set_cons_succ]
          refine wpAnyH_take (i := 19) (v := ?_) (by simp only [List.getElem?_toArray, List.getElem?_cons_succ, List.getElem?_cons_zero]; exact rfl) (by kernel_rfl) (by kernel_rfl) (by kernel_rfl) (by intro _ _ _ h; exact h) (Or.inl ⟨by rfl, fun W hSw => ?_⟩) hHeld ?_
          rotate_left
          focus ((try dsimp only at hSw); first | (go_simp; done) | (go_simp; with_reducible rfl))
          try simp only [Act.put, List.setIfInBounds_toArray, List.set_cons_zero, List.set_cons_succ]
          refine wpAnyH_take (i := 20) (v := ?_) (by simp only [List.getElem?_toArray, List.getElem?_cons_succ, List.getElem?_cons_zero]; exact rfl) (by kernel_rfl) (by kernel_rfl) (by kernel_rfl) (by intro _ _ _ h; exact h) (Or.inl ⟨by rfl, fun W hSw => ?_⟩) hHeld ?_
          rotate_left
          focus ((try dsimp only at hSw); first | (go_simp; done) | (go_simp; with_reducible rfl))
          try simp only [Act.put, List.setIfInBounds_toArray, List.set_cons_zero, List.set_cons_succ]
          refine wpAnyH_take (i := 21) (v := ?_) (by simp only [List.getElem?_toArray, List.getElem?_cons_succ, List.getElem?_cons_zero]; exact rfl) (by kernel_rfl) (by kernel_rfl) (by kernel_rfl) (by intro _ _ _ h; exact h) (Or.inl ⟨by rfl, fun W hSw => ?_⟩) hHeld ?_
          rotate_left
          focus ((try dsimp only at hSw); first | (go_simp; done) | (go_simp; with_reducible rfl))
          try simp only [Act.put, List.setIfInBounds_toArray, List.set_cons_zero, List.set_cons_succ]
          refine wpAnyH_ready (rs := [22]) (by kernel_rfl) (by simp) (AllReadyH.cons (by simp only [List.getElem?_toArray, List.getElem?_cons_succ, List.getElem?_cons_zero]; exact rfl) (fun K hK => ?_) AllReadyH.nil)
          rw [if_pos (by rfl)]
          go_simp
          (with_reducible refine (HA.out _ (bt HB3.out hq3)).mono ?_); rintro e u3 ⟨rfl, hu3⟩; have hq4 := bt hq3 hu3; go_wp2_with fail
          refine hK.out _ _ (KC.out _ hq4) (fun hHeld => ?_)
          clear hK K
          try simp only [Act.put, List.setIfInBounds_toArray, List.set_cons_zero, List.set_cons_succ]
          refine wpAnyH_take (i := 23) (v := ?_) (by simp only [List.getElem?_toArray, List.getElem?_cons_succ, List.getElem?_cons_zero]; exact rfl) (by kernel_rfl) (by kernel_rfl) (by kernel_rfl) (by intro _ _ _ h; exact h) (Or.inl ⟨by rfl, fun W hSw => ?_⟩) hHeld ?_
          rotate_left
          focus ((try dsimp only at hSw); first | (go_simp; done) | (go_simp; with_reducible rfl))
          try simp only [Act.put, List.setIfInBounds_toArray, List.set_cons_zero, List.set_cons_succ]
          refine wpAnyH_take (i := 24) (v := ?_) (by simp only [List.getElem?_toArray, List.getElem?_cons_succ, List.getElem?_cons_zero]; exact rfl) (by kernel_rfl) (by kernel_rfl) (by kernel_rfl) (by intro _ _ _ h; exact h) (Or.inl ⟨by rfl, fun W hSw => ?_⟩) hHeld ?_
          rotate_left
          focus ((try dsimp only at hSw); first | (go_simp; done) | (go_simp; with_reducible rfl))
          try simp only [Act.put, List.setIfInBounds_toArray, List.set_cons_zero, List.set_cons_succ]
          refine wpAnyH_done (by kernel_rfl) ?_ _
          clear hHeld
          go_wp2
          go_ret
          exact ⟨rfl, bt HB3.out hq4⟩
        · have e7 : decide (L > 0) = false := by simpa using hL
          have hfa : fa = false := by rw [HF0.out]; simp; omega
          subst hfa
          refine wp_region_held_drew (S := (fun w' => w'.cell? ⟨w.heap.size, 0, none⟩ = some (.int .i64 st) ∧ w'.cell? ⟨w.heap.size, 1, none⟩ = some (.string re) ∧ w'.cell? ⟨w.heap.size, 2, none⟩ = some (.int .i64 mi) ∧ w'.cell? ⟨w.heap.size, 3, none⟩ = some (.slice A n c) ∧ w'.cell? ⟨w.heap.size, 4, none⟩ = some (.string bo) ∧ w'.cell? ⟨w.heap.size, 5, none⟩ = some (.int .i64 asked) ∧ w'.cell? ⟨w.heap.size, 6, none⟩ = some (.int .i64 g) ∧ w'.cell? ⟨w.heap.size, 7, none⟩ = some (.slice V m d) ∧ Below W3.heap.size W3 w')) (by kernel_rfl) (KC.out _ hq0) (fun hHeld => ?_)
          refine wpAnyH_take (i := 0) (v := ?_) (by simp only [List.getElem?_toArray, List.getElem?_cons_zero]; exact rfl) (by kernel_rfl) (by kernel_rfl) (by kernel_rfl) (by intro _ _ _ h; exact h) (Or.inl ⟨by rfl, fun W hSw => ?_⟩) hHeld ?_
          rotate_left
          focus ((try dsimp only at hSw); first | (go_simp; done) | (go_simp; with_reducible rfl))
          try simp only [Act.put, List.setIfInBounds_toArray, List.set_cons_zero, List.set_cons_succ]
          refine wpAnyH_take (i := 1) (v := ?_) (by simp only [List.getElem?_toArray, List.getElem?_cons_succ, List.getElem?_cons_zero]; exact rfl) (by kernel_rfl) (by kernel_rfl) (by kernel_rfl) (by intro _ _ _ h; exact h) (Or.inl ⟨by rfl, fun W hSw => ?_⟩) hHeld ?_
          rotate_left
          focus ((try dsimp only at hSw); first | (go_simp; done) | (go_simp; with_reducible rfl))
          try simp only [Act.put, List.setIfInBounds_toArray, List.set_cons_zero, List.set_cons_succ]
          refine wpAnyH_take (i := 2) (v := ?_) (by simp only [List.getElem?_toArray, List.getElem?_cons_succ, List.getElem?_cons_zero]; exact rfl) (by kernel_rfl) (by kernel_rfl) (by kernel_rfl) (by intro _ _ _ h; exact h) (Or.inl ⟨by rfl, fun W hSw => ?_⟩) hHeld ?_
          rotate_left
          focus ((try dsimp only at hSw); first | (go_simp; done) | (go_simp; with_reducible rfl))
          try simp only [Act.put, List.setIfInBounds_toArray, List.set_cons_zero, List.set_cons_succ]
          refine wpAnyH_take (i := 3) (v := ?_) (by simp only [List.getElem?_toArray, List.getElem?_cons_succ, List.getElem?_cons_zero]; exact rfl) (by kernel_rfl) (by kernel_rfl) (by kernel_rfl) (by intro _ _ _ h; exact h) (Or.inl ⟨by rfl, fun W hSw => ?_⟩) hHeld ?_
          rotate_left
          focus ((try dsimp only at hSw); first | (go_simp; done) | (go_simp; with_reducible rfl))
          try simp only [Act.put, List.setIfInBounds_toArray, List.set_cons_zero, List.set_cons_succ]
          refine wpAnyH_take (i := 4) (v := ?_) (by simp only [List.getElem?_toArray, List.getElem?_cons_succ, List.getElem?_cons_zero]; exact rfl) (by kernel_rfl) (by kernel_rfl) (by kernel_rfl) (by intro _ _ _ h; exact h) (Or.inl ⟨by rfl, fun W hSw => ?_⟩) hHeld ?_
          rotate_left
          focus ((try dsimp only at hSw); first | (go_simp; done) | (go_simp; with_reducible rfl))
          try simp only [Act.put, List.setIfInBounds_toArray, List.set_cons_zero, List.set_cons_succ]
          refine wpAnyH_take (i := 5) (v := ?_) (by simp only [List.getElem?_toArray, List.getElem?_cons_succ, List.getElem?_cons_zero]; exact rfl) (by kernel_rfl) (by kernel_rfl) (by kernel_rfl) (by intro _ _ _ h; exact h) (Or.inl ⟨by rfl, fun W hSw => ?_⟩) hHeld ?_
          rotate_left
          focus ((try dsimp only at hSw); first | (go_simp; done) | (go_simp; with_reducible rfl))
          try simp only [Act.put, List.setIfInBounds_toArray, List.set_cons_zero, List.set_cons_succ]
          refine wpAnyH_ready (rs := [6]) (by kernel_rfl) (by simp) (AllReadyH.cons (by simp only [List.getElem?_toArray, List.getElem?_cons_succ, List.getElem?_cons_zero]; exact rfl) (fun K hK => ?_) AllReadyH.nil)
          rw [if_pos (by rfl)]
          go_simp
          (with_reducible refine (KF2.out _ (bt HB3.out hq0)).mono ?_); rintro e u0 ⟨rfl, hu0⟩; have hq1 := bt hq0 hu0; go_wp2_with fail
          refine hK.out _ _ (KC.out _ hq1) (fun hHeld => ?_)
          clear hK K
          try simp only [Act.put, List.setIfInBounds_toArray, List.set_cons_zero, List.set_cons_succ]
          refine wpAnyH_take (i := 7) (v := ?_) (by simp only [List.getElem?_toArray, List.getElem?_cons_succ, List.getElem?_cons_zero]; exact rfl) (by kernel_rfl) (by kernel_rfl) (by kernel_rfl) (by intro _ _ _ h; exact h) (Or.inl ⟨by rfl, fun W hSw => ?_⟩) hHeld ?_
          rotate_left
          focus ((try dsimp only at hSw); first | (go_simp; done) | (go_simp; with_reducible rfl))
          try simp only [Act.put, List.setIfInBounds_toArray, List.set_cons_zero, List.set_cons_succ]
          refine wpAnyH_take (i := 8) (v := ?_) (by simp only [List.getElem?_toArray, List.getElem?_cons_succ, List.getElem?_cons_zero]; exact rfl) (by kernel_rfl) (by kernel_rfl) (by kernel_rfl) (by intro _ _ _ h; exact h) (Or.inl ⟨by rfl, fun W hSw => ?_⟩) hHeld ?_
          rotate_left
          focus ((try dsimp only at hSw); first | (go_simp; done) | (go_simp; with_reducible rfl))
          try simp only [Act.put, List.setIfInBounds_toArray, List.set_cons_zero, List.set_cons_succ]
          refine wpAnyH_take (i := 9) (v := ?_) (by simp only [List.getElem?_toArray, List.getElem?_cons_succ, List.getElem?_cons_zero]; exact rfl) (by kernel_rfl) (by kernel_rfl) (by kernel_rfl) (by intro _ _ _ h; exact h) (Or.inl ⟨by rfl, fun W hSw => ?_⟩) hHeld ?_
          rotate_left
          focus ((try dsimp only at hSw); first | (go_simp; done) | (go_simp; with_reducible rfl))
          try simp only [Act.put, List.setIfInBounds_toArray, List.set_cons_zero, List.set_cons_succ]
          refine wpAnyH_take (i := 10) (v := ?_) (by simp only [List.getElem?_toArray, List.getElem?_cons_succ, List.getElem?_cons_zero]; exact rfl) (by kernel_rfl) (by kernel_rfl) (by kernel_rfl) (by intro _ _ _ h; exact h) (Or.inl ⟨by rfl, fun W hSw => ?_⟩) hHeld ?_
          rotate_left
          focus ((try dsimp only at hSw); first | (go_simp; done) | (go_simp; with_reducible rfl))
          try simp only [Act.put, List.setIfInBounds_toArray, List.set_cons_zero, List.set_cons_succ]
          refine wpAnyH_take (i := 11) (v := ?_) (by simp only [List.getElem?_toArray, List.getElem?_cons_succ, List.getElem?_cons_zero]; exact rfl) (by kernel_rfl) (by kernel_rfl) (by kernel_rfl) (by intro _ _ _ h; exact h) (Or.inl ⟨by rfl, fun W hSw => ?_⟩) hHeld ?_
          rotate_left
          focus ((try dsimp only at hSw); first | (go_simp; done) | (go_simp; with_reducible rfl))
          try simp only [Act.put, List.setIfInBounds_toArray, List.set_cons_zero, List.set_cons_succ]
          refine wpAnyH_take (i := 12) (v := ?_) (by simp only [List.getElem?_toArray, List.getElem?_cons_succ, List.getElem?_cons_zero]; exact rfl) (by kernel_rfl) (by kernel_rfl) (by kernel_rfl) (by intro _ _ _ h; exact h) (Or.inl ⟨by rfl, fun W hSw => ?_⟩) hHeld ?_
          rotate_left
          focus ((try dsimp only at hSw); first | (go_simp; done) | (go_simp; with_reducible rfl))
          try simp only [Act.put, List.setIfInBounds_toArray, List.set_cons_zero, List.set_cons_succ]
          refine wpAnyH_take (i := 13) (v := ?_) (by simp only [List.getElem?_toArray, List.getElem?_cons_succ, List.getElem?_cons_zero]; exact rfl) (by kernel_rfl) (by kernel_rfl) (by kernel_rfl) (by intro _ _ _ h; exact h) (Or.inl ⟨by rfl, fun W hSw => ?_⟩) hHeld ?_
          rotate_left
          focus ((try dsimp only at hSw); first | (go_simp; done) | (go_simp; with_reducible rfl))
          try simp only [Act.put, List.setIfInBounds_toArray, List.set_cons_zero, List.set_cons_succ]
          refine wpAnyH_take (i := 15) (v := ?_) (by simp only [List.getElem?_toArray, List.getElem?_cons_succ, List.getElem?_cons_zero]; exact rfl) (by kernel_rfl) (by kernel_rfl) (by kernel_rfl) (by intro _ _ _ h; exact h) (Or.inl ⟨by rfl, fun W hSw => ?_⟩) hHeld ?_
          rotate_left
          focus ((try dsimp only at hSw); first | (go_simp; done) | (go_simp; with_reducible rfl))
          try simp only [Act.put, List.setIfInBounds_toArray, List.set_cons_zero, List.set_cons_succ]
          refine wpAnyH_take (i := 16) (v := ?_) (by simp only [List.getElem?_toArray, List.getElem?_cons_succ, List.getElem?_cons_zero]; exact rfl) (by kernel_rfl) (by kernel_rfl) (by kernel_rfl) (by intro _ _ _ h; exact h) (Or.inl ⟨by rfl, fun W hSw => ?_⟩) hHeld ?_
          rotate_left
          focus ((try dsimp only at hSw); first | (go_simp; done) | (go_simp; with_reducible rfl))
          try simp only [Act.put, List.setIfInBounds_toArray, List.set_cons_zero, List.set_cons_succ]
          refine wpAnyH_take (i := 17) (v := ?_) (by simp only [List.getElem?_toArray, List.getElem?_cons_succ, List.getElem?_cons_zero]; exact rfl) (by kernel_rfl) (by kernel_rfl) (by kernel_rfl) (by intro _ _ _ h; exact h) (Or.inl ⟨by rfl, fun W hSw => ?_⟩) hHeld ?_
          rotate_left
          focus ((try dsimp only at hSw); first | (go_simp; done) | (go_simp; with_reducible rfl))
          try simp only [Act.put, List.setIfInBounds_toArray, List.set_cons_zero, List.set_cons_succ]
          refine wpAnyH_ready (rs := [14]) (by kernel_rfl) (by simp) (AllReadyH.cons (by simp only [List.getElem?_toArray, List.getElem?_cons_succ, List.getElem?_cons_zero]; exact rfl) (fun K hK => ?_) AllReadyH.nil)
          rw [if_pos (by rfl)]
          go_simp
          (with_reducible refine (KB1.out _ (bt HB3.out hq1)).mono ?_); rintro e u1 ⟨rfl, hu1⟩; have hq2 := bt hq1 hu1; go_wp2_with fail
          refine hK.out _ _ (KC.out _ hq2) (fun hHeld => ?_)
          clear hK K
          try simp only [Act.put, List.setIfInBounds_toArray, List.set_cons_zero, List.set_cons_succ]
          refine wpAnyH_ready (rs := [18]) (by kernel_rfl) (by simp) (AllReadyH.cons (by simp only [List.getElem?_toArray, List.getElem?_cons_succ, List.getElem?_cons_zero]; exact rfl) (fun K hK => ?_) AllReadyH.nil)
          rw [if_pos (by rfl)]
          go_simp
          (with_reducible refine (KB2.out _ (bt HB3.out hq2)).mono ?_); rintro e u2 ⟨rfl, hu2⟩; have hq3 := bt hq2 hu2; go_wp2_with fail
          refine hK.out _ _ (KC.out _ hq3) (fun hHeld => ?_)
          clear hK K
          try simp only [Act.put, List.setIfInBounds_toArray, List.set_cons_zero, List.set_cons_succ]
          refine wpAnyH_take (i := 19) (v := ?_) (by simp only [List.getElem?_toArray, List.getElem?_cons_succ, List.getElem?_cons_zero]; exact rfl) (by kernel_rfl) (by kernel_rfl) (by kernel_rfl) (by intro _ _ _ h; exact h) (Or.inl ⟨by rfl, fun W hSw => ?_⟩) hHeld ?_
          rotate_left
          focus ((try dsimp only at hSw); first | (go_simp; done) | (go_simp; with_reducible rfl))
          try simp only [Act.put, List.setIfInBounds_toArray, List.set_cons_zero, List.set_cons_succ]
          refine wpAnyH_take (i := 20) (v := ?_) (by simp only [List.getElem?_toArray, List.getElem?_cons_succ, List.getElem?_cons_zero]; exact rfl) (by kernel_rfl) (by kernel_rfl) (by kernel_rfl) (by intro _ _ _ h; exact h) (Or.inl ⟨by rfl, fun W hSw => ?_⟩) hHeld ?_
          rotate_left
          focus ((try dsimp only at hSw); first | (go_simp; done) | (go_simp; with_reducible rfl))
          try simp only [Act.put, List.setIfInBounds_toArray, List.set_cons_zero, List.set_cons_succ]
          refine wpAnyH_take (i := 21) (v := ?_) (by simp only [List.getElem?_toArray, List.getElem?_cons_succ, List.getElem?_cons_zero]; exact rfl) (by kernel_rfl) (by kernel_rfl) (by kernel_rfl) (by intro _ _ _ h; exact h) (Or.inl ⟨by rfl, fun W hSw => ?_⟩) hHeld ?_
          rotate_left
          focus ((try dsimp only at hSw); first | (go_simp; done) | (go_simp; with_reducible rfl))
          try simp only [Act.put, List.setIfInBounds_toArray, List.set_cons_zero, List.set_cons_succ]
          refine wpAnyH_ready (rs := [22]) (by kernel_rfl) (by simp) (AllReadyH.cons (by simp only [List.getElem?_toArray, List.getElem?_cons_succ, List.getElem?_cons_zero]; exact rfl) (fun K hK => ?_) AllReadyH.nil)
          rw [if_pos (by rfl)]
          go_simp
          (with_reducible refine (HA.out _ (bt HB3.out hq3)).mono ?_); rintro e u3 ⟨rfl, hu3⟩; have hq4 := bt hq3 hu3; go_wp2_with fail
          refine hK.out _ _ (KC.out _ hq4) (fun hHeld => ?_)
          clear hK K
          try simp only [Act.put, List.setIfInBounds_toArray, List.set_cons_zero, List.set_cons_succ]
          refine wpAnyH_take (i := 23) (v := ?_) (by simp only [List.getElem?_toArray, List.getElem?_cons_succ, List.getElem?_cons_zero]; exact rfl) (by kernel_rfl) (by kernel_rfl) (by kernel_rfl) (by intro _ _ _ h; exact h) (Or.inl ⟨by rfl, fun W hSw => ?_⟩) hHeld ?_
          rotate_left
          focus ((try dsimp only at hSw); first | (go_simp; done) | (go_simp; with_reducible rfl))
          try simp only [Act.put, List.setIfInBounds_toArray, List.set_cons_zero, List.set_cons_succ]
          refine wpAnyH_take (i := 24) (v := ?_) (by simp only [List.getElem?_toArray, List.getElem?_cons_succ, List.getElem?_cons_zero]; exact rfl) (by kernel_rfl) (by kernel_rfl) (by kernel_rfl) (by intro _ _ _ h; exact h) (Or.inl ⟨by rfl, fun W hSw => ?_⟩) hHeld ?_
          rotate_left
          focus ((try dsimp only at hSw); first | (go_simp; done) | (go_simp; with_reducible rfl))
          try simp only [Act.put, List.setIfInBounds_toArray, List.set_cons_zero, List.set_cons_succ]
          refine wpAnyH_done (by kernel_rfl) ?_ _
          clear hHeld
          go_wp2
          go_ret
          exact ⟨rfl, bt HB3.out hq4⟩
      · have hfa : fa = true := HBK.out rfl
        have hfg : fg = true := HBG.out rfl
        subst hfg
        have hL : 0 < L := by
          have h := HF0.out
          rw [hfa] at h
          have := of_decide_eq_true h.symm
          omega
        subst hfa
        have e7 : decide (L > 0) = true := by simpa using hL
        go_wp2_with fail
        (with_reducible refine (KF2.out _ (bt HB3.out hd5)).mono ?_)
        rintro e v6 ⟨rfl, hv6⟩
        have hd6 := bt hd5 hv6
        clear hv6 c0 c1 c2 c3 c4 c5 c6 c7 cl
        obtain ⟨c0, c1, c2, c3, c4, c5, c6, c7, cl⟩ := (X3.out.below hd6).cells
        go_wp2_with fail
        (with_reducible refine (KF3.out _ (bt HB3.out hd6)).mono ?_)
        rintro e v7 ⟨rfl, hv7⟩
        have hd7 := bt hd6 hv7
        clear hv7 c0 c1 c2 c3 c4 c5 c6 c7 cl
        go_upto_region 12 with (fail)
        have hq0 : Below W3.heap.size W3 v7.drew := hd7.drew
        refine wp_region_held_drew (S := (fun w' => w'.cell? ⟨w.heap.size, 0, none⟩ = some (.int .i64 st) ∧ w'.cell? ⟨w.heap.size, 1, none⟩ = some (.string re) ∧ w'.cell? ⟨w.heap.size, 2, none⟩ = some (.int .i64 mi) ∧ w'.cell? ⟨w.heap.size, 3, none⟩ = some (.slice A n c) ∧ w'.cell? ⟨w.heap.size, 4, none⟩ = some (.string bo) ∧ w'.cell? ⟨w.heap.size, 5, none⟩ = some (.int .i64 asked) ∧ w'.cell? ⟨w.heap.size, 6, none⟩ = some (.int .i64 g) ∧ w'.cell? ⟨w.heap.size, 7, none⟩ = some (.slice V m d) ∧ Below W3.heap.size W3 w')) (by kernel_rfl) (KC.out _ hq0) (fun hHeld => ?_)
        refine wpAnyH_take (i := 0) (v := ?_) (by simp only [List.getElem?_toArray, List.getElem?_cons_zero]; exact rfl) (by kernel_rfl) (by kernel_rfl) (by kernel_rfl) (by intro _ _ _ h; exact h) (Or.inl ⟨by rfl, fun W hSw => ?_⟩) hHeld ?_
        rotate_left
        focus ((try dsimp only at hSw); first | (go_simp; done) | (go_simp; with_reducible rfl))
        try simp only [Act.put, List.setIfInBounds_toArray, List.set_cons_zero, List.set_cons_succ]
        refine wpAnyH_take (i := 1) (v := ?_) (by simp only [List.getElem?_toArray, List.getElem?_cons_succ, List.getElem?_cons_zero]; exact rfl) (by kernel_rfl) (by kernel_rfl) (by kernel_rfl) (by intro _ _ _ h; exact h) (Or.inl ⟨by rfl, fun W hSw => ?_⟩) hHeld ?_
        rotate_left
        focus ((try dsimp only at hSw); first | (go_simp; done) | (go_simp; with_reducible rfl))
        try simp only [Act.put, List.setIfInBounds_toArray, List.set_cons_zero, List.set_cons_succ]
        refine wpAnyH_take (i := 2) (v := ?_) (by simp only [List.getElem?_toArray, List.getElem?_cons_succ, List.getElem?_cons_zero]; exact rfl) (by kernel_rfl) (by kernel_rfl) (by kernel_rfl) (by intro _ _ _ h; exact h) (Or.inl ⟨by rfl, fun W hSw => ?_⟩) hHeld ?_
        rotate_left
        focus ((try dsimp only at hSw); first | (go_simp; done) | (go_simp; with_reducible rfl))
        try simp only [Act.put, List.setIfInBounds_toArray, List.set_cons_zero, List.set_cons_succ]
        refine wpAnyH_take (i := 3) (v := undef) (by simp only [List.getElem?_toArray, List.getElem?_cons_succ, List.getElem?_cons_zero]; exact rfl) (by kernel_rfl) (by kernel_rfl) (by kernel_rfl) (by intro _ _ _ h; exact h) (Or.inr ⟨by rfl, rfl⟩) hHeld ?_
        try simp only [Act.put, List.setIfInBounds_toArray, List.set_cons_zero, List.set_cons_succ]
        refine wpAnyH_take (i := 4) (v := undef) (by simp only [List.getElem?_toArray, List.getElem?_cons_succ, List.getElem?_cons_zero]; exact rfl) (by kernel_rfl) (by kernel_rfl) (by kernel_rfl) (by intro _ _ _ h; exact h) (Or.inr ⟨by rfl, rfl⟩) hHeld ?_
        try simp only [Act.put, List.setIfInBounds_toArray, List.set_cons_zero, List.set_cons_succ]
        refine wpAnyH_take (i := 5) (v := undef) (by simp only [List.getElem?_toArray, List.getElem?_cons_succ, List.getElem?_cons_zero]; exact rfl) (by kernel_rfl) (by kernel_rfl) (by kernel_rfl) (by intro _ _ _ h; exact h) (Or.inr ⟨by rfl, rfl⟩) hHeld ?_
        try simp only [Act.put, List.setIfInBounds_toArray, List.set_cons_zero, List.set_cons_succ]
        refine wpAnyH_take (i := 6) (v := undef) (by simp only [List.getElem?_toArray, List.getElem?_cons_succ, List.getElem?_cons_zero]; exact rfl) (by kernel_rfl) (by kernel_rfl) (by kernel_rfl) (by intro _ _ _ h; exact h) (Or.inr ⟨by rfl, rfl⟩) hHeld ?_
        try simp only [Act.put, List.setIfInBounds_toArray, List.set_cons_zero, List.set_cons_succ]
        refine wpAnyH_take (i := 7) (v := undef) (by simp only [List.getElem?_toArray, List.getElem?_cons_succ, List.getElem?_cons_zero]; exact rfl) (by kernel_rfl) (by kernel_rfl) (by kernel_rfl) (by intro _ _ _ h; exact h) (Or.inr ⟨by rfl, rfl⟩) hHeld ?_
        try simp only [Act.put, List.setIfInBounds_toArray, List.set_cons_zero, List.set_cons_succ]
        refine wpAnyH_take (i := 8) (v := ?_) (by simp only [List.getElem?_toArray, List.getElem?_cons_succ, List.getElem?_cons_zero]; exact rfl) (by kernel_rfl) (by kernel_rfl) (by kernel_rfl) (by intro _ _ _ h; exact h) (Or.inl ⟨by rfl, fun W hSw => ?_⟩) hHeld ?_
        rotate_left
        focus ((try dsimp only at hSw); first | (go_simp; done) | (go_simp; with_reducible rfl))
        try simp only [Act.put, List.setIfInBounds_toArray, List.set_cons_zero, List.set_cons_succ]
        refine wpAnyH_take (i := 9) (v := ?_) (by simp only [List.getElem?_toArray, List.getElem?_cons_succ, List.getElem?_cons_zero]; exact rfl) (by kernel_rfl) (by kernel_rfl) (by kernel_rfl) (by intro _ _ _ h; exact h) (Or.inl ⟨by rfl, fun W hSw => ?_⟩) hHeld ?_
        rotate_left
        focus ((try dsimp only at hSw); first | (go_simp; done) | (go_simp; with_reducible rfl))
        try simp only [Act.put, List.setIfInBounds_toArray, List.set_cons_zero, List.set_cons_succ]
        refine wpAnyH_take (i := 10) (v := ?_) (by simp only [List.getElem?_toArray, List.getElem?_cons_succ, List.getElem?_cons_zero]; exact rfl) (by kernel_rfl) (by kernel_rfl) (by kernel_rfl) (by intro _ _ _ h; exact h) (Or.inl ⟨by rfl, fun W hSw => ?_⟩) hHeld ?_
        rotate_left
        focus ((try dsimp only at hSw); first | (go_simp; done) | (go_simp; with_reducible rfl))
        try simp only [Act.put, List.setIfInBounds_toArray, List.set_cons_zero, List.set_cons_succ]
        refine wpAnyH_take (i := 11) (v := ?_) (by simp only [List.getElem?_toArray, List.getElem?_cons_succ, List.getElem?_cons_zero]; exact rfl) (by kernel_rfl) (by kernel_rfl) (by kernel_rfl) (by intro _ _ _ h; exact h) (Or.inl ⟨by rfl, fun W hSw => ?_⟩) hHeld ?_
        rotate_left
        focus ((try dsimp only at hSw); first | (go_simp; done) | (go_simp; with_reducible rfl))
        try simp only [Act.put, List.setIfInBounds_toArray, List.set_cons_zero, List.set_cons_succ]
        refine wpAnyH_take (i := 12) (v := ?_) (by simp only [List.getElem?_toArray, List.getElem?_cons_succ, List.getElem?_cons_zero]; exact rfl) (by kernel_rfl) (by kernel_rfl) (by kernel_rfl) (by intro _ _ _ h; exact h) (Or.inl ⟨by rfl, fun W hSw => ?_⟩) hHeld ?_
        rotate_left
        focus ((try dsimp only at hSw); first | (go_simp; done) | (go_simp; with_reducible rfl))
        try simp only [Act.put, List.setIfInBounds_toArray, List.set_cons_zero, List.set_cons_succ]
        refine wpAnyH_take (i := 13) (v := ?_) (by simp only [List.getElem?_toArray, List.getElem?_cons_succ, List.getElem?_cons_zero]; exact rfl) (by kernel_rfl) (by kernel_rfl) (by kernel_rfl) (by intro _ _ _ h; exact h) (Or.inl ⟨by rfl, fun W hSw => ?_⟩) hHeld ?_
        rotate_left
        focus ((try dsimp only at hSw); first | (go_simp; done) | (go_simp; with_reducible rfl))
        try simp only [Act.put, List.setIfInBounds_toArray, List.set_cons_zero, List.set_cons_succ]
        refine wpAnyH_take (i := 15) (v := ?_) (by simp only [List.getElem?_toArray, List.getElem?_cons_succ, List.getElem?_cons_zero]; exact rfl) (by kernel_rfl) (by kernel_rfl) (by kernel_rfl) (by intro _ _ _ h; exact h) (Or.inl ⟨by rfl, fun W hSw => ?_⟩) hHeld ?_
        rotate_left
        focus ((try dsimp only at hSw); first | (go_simp; done) | (go_simp; with_reducible rfl))
        try simp only [Act.put, List.setIfInBounds_toArray, List.set_cons_zero, List.set_cons_succ]
        refine wpAnyH_take (i := 16) (v := ?_) (by simp only [List.getElem?_toArray, List.getElem?_cons_succ, List.getElem?_cons_zero]; exact rfl) (by kernel_rfl) (by kernel_rfl) (by kernel_rfl) (by intro _ _ _ h; exact h) (Or.inl ⟨by rfl, fun W hSw => ?_⟩) hHeld ?_
        rotate_left
        focus ((try dsimp only at hSw); first | (go_simp; done) | (go_simp; with_reducible rfl))
        try simp only [Act.put, List.setIfInBounds_toArray, List.set_cons_zero, List.set_cons_succ]
        refine wpAnyH_take (i := 17) (v := ?_) (by simp only [List.getElem?_toArray, List.getElem?_cons_succ, List.getElem?_cons_zero]; exact rfl) (by kernel_rfl) (by kernel_rfl) (by kernel_rfl) (by intro _ _ _ h; exact h) (Or.inl ⟨by rfl, fun W hSw => ?_⟩) hHeld ?_
        rotate_left
        focus ((try dsimp only at hSw); first | (go_simp; done) | (go_simp; with_reducible rfl))
        try simp only [Act.put, List.setIfInBounds_toArray, List.set_cons_zero, List.set_cons_succ]
        refine wpAnyH_ready (rs := [14]) (by kernel_rfl) (by simp) (AllReadyH.cons (by simp only [List.getElem?_toArray, List.getElem?_cons_succ, List.getElem?_cons_zero]; exact rfl) (fun K hK => ?_) AllReadyH.nil)
        rw [if_pos (by rfl)]
        go_simp
        (with_reducible refine (KB1.out _ (bt HB3.out hq0)).mono ?_); rintro e u1 ⟨rfl, hu1⟩; have hq2 := bt hq0 hu1; go_wp2_with fail
        refine hK.out _ _ (KC.out _ hq2) (fun hHeld => ?_)
        clear hK K
        try simp only [Act.put, List.setIfInBounds_toArray, List.set_cons_zero, List.set_cons_succ]
        refine wpAnyH_ready (rs := [18]) (by kernel_rfl) (by simp) (AllReadyH.cons (by simp only [List.getElem?_toArray, List.getElem?_cons_succ, List.getElem?_cons_zero]; exact rfl) (fun K hK => ?_) AllReadyH.nil)
        rw [if_pos (by rfl)]
        go_simp
        (with_reducible refine (KB2.out _ (bt HB3.out hq2)).mono ?_); rintro e u2 ⟨rfl, hu2⟩; have hq3 := bt hq2 hu2; go_wp2_with fail
        refine hK.out _ _ (KC.out _ hq3) (fun hHeld => ?_)
        clear hK K
        try simp only [Act.put, List.setIfInBounds_toArray, List.set_cons_zero, List.set_cons_succ]
        refine wpAnyH_take (i := 19) (v := ?_) (by simp only [List.getElem?_toArray, List.getElem?_cons_succ, List.getElem?_cons_zero]; exact rfl) (by kernel_rfl) (by kernel_rfl) (by kernel_rfl) (by intro _ _ _ h; exact h) (Or.inl ⟨by rfl, fun W hSw => ?_⟩) hHeld ?_
        rotate_left
        focus ((try dsimp only at hSw); first | (go_simp; done) | (go_simp; with_reducible rfl))
        try simp only [Act.put, List.setIfInBounds_toArray, List.set_cons_zero, List.set_cons_succ]
        refine wpAnyH_take (i := 20) (v := ?_) (by simp only [List.getElem?_toArray, List.getElem?_cons_succ, List.getElem?_cons_zero]; exact rfl) (by kernel_rfl) (by kernel_rfl) (by kernel_rfl) (by intro _ _ _ h; exact h) (Or.inl ⟨by rfl, fun W hSw => ?_⟩) hHeld ?_
        rotate_left
        focus ((try dsimp only at hSw); first | (go_simp; done) | (go_simp; with_reducible rfl))
        try simp only [Act.put, List.setIfInBounds_toArray, List.set_cons_zero, List.set_cons_succ]
        refine wpAnyH_take (i := 21) (v := ?_) (by simp only [List.getElem?_toArray, List.getElem?_cons_succ, List.getElem?_cons_zero]; exact rfl) (by kernel_rfl) (by kernel_rfl) (by kernel_rfl) (by intro _ _ _ h; exact h) (Or.inl ⟨by rfl, fun W hSw => ?_⟩) hHeld ?_
        rotate_left
        focus ((try dsimp only at hSw); first | (go_simp; done) | (go_simp; with_reducible rfl))
        try simp only [Act.put, List.setIfInBounds_toArray, List.set_cons_zero, List.set_cons_succ]
        refine wpAnyH_ready (rs := [22]) (by kernel_rfl) (by simp) (AllReadyH.cons (by simp only [List.getElem?_toArray, List.getElem?_cons_succ, List.getElem?_cons_zero]; exact rfl) (fun K hK => ?_) AllReadyH.nil)
        rw [if_pos (by rfl)]
        go_simp
        (with_reducible refine (HA.out _ (bt HB3.out hq3)).mono ?_); rintro e u3 ⟨rfl, hu3⟩; have hq4 := bt hq3 hu3; go_wp2_with fail
        refine hK.out _ _ (KC.out _ hq4) (fun hHeld => ?_)
        clear hK K
        try simp only [Act.put, List.setIfInBounds_toArray, List.set_cons_zero, List.set_cons_succ]
        refine wpAnyH_take (i := 23) (v := ?_) (by simp only [List.getElem?_toArray, List.getElem?_cons_succ, List.getElem?_cons_zero]; exact rfl) (by kernel_rfl) (by kernel_rfl) (by kernel_rfl) (by intro _ _ _ h; exact h) (Or.inl ⟨by rfl, fun W hSw => ?_⟩) hHeld ?_
        rotate_left
        focus ((try dsimp only at hSw); first | (go_simp; done) | (go_simp; with_reducible rfl))
        try simp only [Act.put, List.setIfInBounds_toArray, List.set_cons_zero, List.set_cons_succ]
        refine wpAnyH_take (i := 24) (v := ?_) (by simp only [List.getElem?_toArray, List.getElem?_cons_succ, List.getElem?_cons_zero]; exact rfl) (by kernel_rfl) (by kernel_rfl) (by kernel_rfl) (by intro _ _ _ h; exact h) (Or.inl ⟨by rfl, fun W hSw => ?_⟩) hHeld ?_
        rotate_left
        focus ((try dsimp only at hSw); first | (go_simp; done) | (go_simp; with_reducible rfl))
        try simp only [Act.put, List.setIfInBounds_toArray, List.set_cons_zero, List.set_cons_succ]
        refine wpAnyH_done (by kernel_rfl) ?_ _
        clear hHeld
        go_wp2
        go_ret
        exact ⟨rfl, bt HB3.out hq4⟩
end Go.Proofs.YtgmmjhcklhajiaaGreatDoor
/- FreshGoes: the law as it is handed in. -/
namespace Go.Proofs.YtgmmjhcklhajiaaGreatDoor
open Go.RowKit Go.ChangeShapes Go.WideShapes
set_option maxRecDepth 100000

section
variable {H : Type} {enc : TypeId × Value → H} {W : World}
/-- Two numbers that came in. -/
theorem open_two {base : Nat} {v : Value} {d : DataW H} {p : List MemPlace} (hv : Value.okWide Tryz.prog W .any base 39 v) (h : DataW.Trod enc Tryz.prog W 0 (fun _ => true) true 39 v d p) :
    ∃ x y : Int, v = .agg #[.int .u64 x, .int .u64 y] ∧ (0 ≤ x ∧ x < 18446744073709551616) ∧ (0 ≤ y ∧ y < 18446744073709551616) := by
  have hu := Tryz.underlying39
  obtain ⟨cs, rfl, hsz, _⟩ : ∃ cs, v = .agg cs ∧ cs.size = Tryz.prog.cellsOf 39 ∧ Row.okWide Tryz.prog W .any base 39 cs := by
    unfold Value.okWide at hv
    rw [hu] at hv
    exact hv
  obtain ⟨fuel, hf⟩ := h
  obtain ⟨l⟩ := cs
  have hf' : DataW.trod enc Tryz.prog W 0 (fun _ => true) true fuel 39 l = some (d, p) := hf
  obtain ⟨xs, m, _, _, hcl, hxl, hg⟩ := DataW.trod_array hu hf'
  have hc2 : Tryz.prog.cellsOf 39 = 2 := by kernel_rfl
  have hc1 : Tryz.prog.cellsOf 38 = 1 := by kernel_rfl
  obtain ⟨u, v, rfl⟩ := two_of l (hcl.trans hc2)
  obtain ⟨y0, y1, rfl⟩ := two_of xs hxl
  have g0 : DataW.trod enc Tryz.prog W 0 (fun _ => true) true m 38 (([u, v].drop (0 * Tryz.prog.cellsOf 38)).take (Tryz.prog.cellsOf 38)) = some y0 := hg 0 (by decide)
  have g1 : DataW.trod enc Tryz.prog W 0 (fun _ => true) true m 38 (([u, v].drop (1 * Tryz.prog.cellsOf 38)).take (Tryz.prog.cellsOf 38)) = some y1 := hg 1 (by decide)
  rw [hc1] at g0 g1
  obtain ⟨a, e0, _, w0⟩ := DataW.trod_int Tryz.underlying38 (cs := [u]) g0
  obtain ⟨b, e1, _, w1⟩ := DataW.trod_int Tryz.underlying38 (cs := [v]) g1
  have e0' := (List.cons.inj e0).1
  have e1' := (List.cons.inj e1).1
  subst e0'; subst e1'
  refine ⟨a, b, rfl, ?_, ?_⟩
  · have e1 : IntKind.u64.min = 0 := by decide
    have e2 : IntKind.u64.max = 18446744073709551615 := by decide
    simp [Lit.wf] at w0
    omega
  · have e1 : IntKind.u64.min = 0 := by decide
    have e2 : IntKind.u64.max = 18446744073709551615 := by decide
    simp [Lit.wf] at w1
    omega
end
theorem freshGoes_law {H : Type} {enc : TypeId × Value → H} {W : World} {base0 base1 : Nat}
    (v0 : Value) (hv0 : Value.okWide Tryz.prog W .any base0 26 v0) {d0 : DataW H} {p0 : List MemPlace} (h0 : DataW.Trod enc Tryz.prog W 0 (fun _ => true) true 26 v0 d0 p0) (hr0 : Reach 26 d0)
    (v1 : Value) (hv1 : Value.okWide Tryz.prog W .any base1 39 v1) {d1 : DataW H} {p1 : List MemPlace} (h1 : DataW.Trod enc Tryz.prog W 0 (fun _ => true) true 39 v1 d1 p1) (_ : Reach 39 d1) (dev : ByteArray)
    (w : World) (hw : w = W) (hE : DEnv W) :
    Calls Tryz.prog 5 #[v0, v1, .string dev] w fun e w' => e = .returned (.bool true) ∧ Below w.heap.size w w' := by
  subst hw
  obtain ⟨st, re, mi, A, n, c, bo, xs, asd, gt, va, vn, vc, es, rfl, ⟨hR, hn, hl, _, _⟩, wa, wg, _⟩ := open_entry hv0 h0 hr0
  obtain ⟨x, y, rfl, hx, hy⟩ := open_two hv1 h1
  have hwf : ∀ z : Int, (Lit.int .i64 z).wf = true → -9223372036854775808 ≤ z ∧ z ≤ 9223372036854775807 := by
    intro z hz
    have e1 : IntKind.i64.min = -9223372036854775808 := by decide
    have e2 : IntKind.i64.max = 9223372036854775807 := by decide
    simp [Lit.wf] at hz
    omega
  exact freshGoes_any st mi asd gt re bo A va n c vn vc xs x y dev w hE hR (fun f hf => by have := hl f hf; unfold reachBytes at this; omega) (hwf _ wa) hx hy
end Go.Proofs.YtgmmjhcklhajiaaGreatDoor
