/- Joined out of the texts AgeL (wip/tools/merge.py). -/
import Derived.Test.YtcgdcbnhpbokfaaGreatDoorPz6
/- FreshAge: the walk of the law, and the law as it is handed in (printed by wip/tools/frlaws.py). -/
namespace Go.Proofs.YtcgdcbnhpbokfaaGreatDoor
open Go.RowKit Go.ChangeShapes Go.WideShapes
set_option maxRecDepth 100000

set_option maxHeartbeats 32000000 in
theorem freshAge_any (st mi asked got : Int) (now : Int) (re bo : ByteArray) (A V : Option Addr) (n c m d : Nat) (xs : List Fld) (dev : ByteArray) (w : World) (hE : DEnv w) (hr : Rd A n 2 (fldsV xs) w) (hs : ∀ f ∈ xs, f.1.length ≤ 140737488355328 ∧ f.2.length ≤ 140737488355328) (hg : -9223372036854775808 ≤ got ∧ got ≤ 9223372036854775807) (hnow : -9223372036854775808 ≤ now ∧ now ≤ 9223372036854775807) (ha : -9223372036854775808 ≤ asked ∧ asked ≤ 9223372036854775807) :
    Calls Tryz.prog 4 #[entV st re mi A n c bo asked got V m d, .int .i64 now, .string dev] w fun e w' => e = .returned (.bool true) ∧ Below w.heap.size w w' := by
  obtain ⟨W1, hW1⟩ : ∃ W1, w.alloc (.cells #[.int .i64 st, .string re, .int .i64 mi, .slice A n c, .string bo, .int .i64 asked, .int .i64 got, .slice V m d] 30) = W1 := ⟨_, rfl⟩
  have b1 : Below w.heap.size w W1 := by rw [← hW1]; exact (Below.refl w.heap.size w).alloc (Nat.le_refl _) _
  have x1 : EntAt w.heap.size st re mi A n c bo asked got V m d W1 := by rw [← hW1]; exact heap_new w _ _ rfl
  have k0 := few13_any st mi asked got re bo A V n c m d xs W1 (hr.below b1) hs
  cases hf : few13 xs
  · rw [hf] at k0
    have K0 := Lib.hid k0; have HA := Lib.hid (fun W (hb : Below w.heap.size w W) => awake13_any W (hE.below hb)); have HW1 := Lib.hid hW1; have HB1 := Lib.hid b1
    obtain ⟨c0, c1, c2, c3, c4, c5, c6, c7, cl⟩ := x1.cells
    clear k0 hW1 x1 b1 hr hE hs
    unfold entV at *
    go_enter Tryz.func4, Tryz.ntmps4
    go_upto_region 1 with (fail)
    rw [HW1.out]
    go_wp2_with fail
    (with_reducible refine K0.out.mono ?_)
    rintro e w1 ⟨rfl, hb1⟩
    have HB := Lib.hid (bt HB1.out hb1)
    clear hb1
    go_wp2_with fail
    (with_reducible refine (HA.out _ HB.out).mono ?_)
    rintro e w2 ⟨rfl, hb2⟩
    go_wp2
    go_ret
    exact ⟨rfl, bt HB.out hb2⟩
  · rw [hf] at k0
    by_cases hdv : 500 < dev.size
    · have t1 : decide ((dev.size : Int) > 500) = true := by simp; omega
      have K0 := Lib.hid k0; have HA := Lib.hid (fun W (hb : Below w.heap.size w W) => awake13_any W (hE.below hb)); have HW1 := Lib.hid hW1; have HB1 := Lib.hid b1
      obtain ⟨c0, c1, c2, c3, c4, c5, c6, c7, cl⟩ := x1.cells
      clear k0 hW1 x1 b1 hr hE hs
      unfold entV at *
      go_enter Tryz.func4, Tryz.ntmps4
      go_upto_region 1 with (fail)
      rw [HW1.out]
      go_wp2_with fail
      (with_reducible refine K0.out.mono ?_)
      rintro e w1 ⟨rfl, hb1⟩
      have HB := Lib.hid (bt HB1.out hb1)
      clear hb1
      go_wp2_with fail
      (with_reducible refine (HA.out _ HB.out).mono ?_)
      rintro e w2 ⟨rfl, hb2⟩
      go_wp2
      go_ret
      exact ⟨rfl, bt HB.out hb2⟩
    · have t1 : decide ((dev.size : Int) > 500) = false := by simp; omega
      obtain ⟨hx80, hsum⟩ := few13_yes hf
      have hxn := hr.fld
      have k1 := fun W (hb : Below w.heap.size w W) => age_any st mi asked got now re bo A V n c m d xs W (hE.below hb) (hr.below hb) (by omega) (by omega) hg ha hnow
      have k2 := fun W (hb : Below w.heap.size w W) => rage_any st mi asked got now re bo A V n c m d xs W (hr.below hb) (by omega) (by omega) hg ha hnow
      have k3 := fun W (hb : Below w.heap.size w W) => fresh_any st mi asked got now re bo A V n c m d xs dev W (hE.below hb) (hr.below hb) (by omega) (by omega) hg ha hnow
      have k4 := fun W (hb : Below w.heap.size w W) => rfresh_any st mi asked got now re bo A V n c m d xs dev W (hr.below hb) (by omega) (by omega) hg ha hnow
      generalize ageF xs asked got now = L at *
      generalize freshF xs asked got now dev.data.toList = X at *
      have e1 : (L == L) = true := by simp
      have e2 : (X == X) = true := by simp
      have K0 := Lib.hid k0; have HA := Lib.hid (fun W (hb : Below w.heap.size w W) => awake13_any W (hE.below hb)); have HW1 := Lib.hid hW1; have X1 := Lib.hid x1; have B1 := Lib.hid b1
      have K1 := Lib.hid k1; have K2 := Lib.hid k2; have K3 := Lib.hid k3; have K4 := Lib.hid k4
      have kc : ∀ w', Below W1.heap.size W1 w' → w'.cell? ⟨w.heap.size, 0, none⟩ = some (.int .i64 st) ∧ w'.cell? ⟨w.heap.size, 1, none⟩ = some (.string re) ∧ w'.cell? ⟨w.heap.size, 2, none⟩ = some (.int .i64 mi) ∧ w'.cell? ⟨w.heap.size, 3, none⟩ = some (.slice A n c) ∧ w'.cell? ⟨w.heap.size, 4, none⟩ = some (.string bo) ∧ w'.cell? ⟨w.heap.size, 5, none⟩ = some (.int .i64 asked) ∧ w'.cell? ⟨w.heap.size, 6, none⟩ = some (.int .i64 got) ∧ w'.cell? ⟨w.heap.size, 7, none⟩ = some (.slice V m d) ∧ Below W1.heap.size W1 w' := fun w' hb => by
        obtain ⟨a0, a1, a2, a3, a4, a5, a6, a7, _⟩ := (x1.below hb).cells
        exact ⟨a0, a1, a2, a3, a4, a5, a6, a7, hb⟩
      have KC := Lib.hid kc
      obtain ⟨c0, c1, c2, c3, c4, c5, c6, c7, cl⟩ := x1.cells
      clear k0 hW1 x1 b1 hr hE hs k1 k2 k3 k4 kc hsum hf hxn
      unfold entV at *
      go_enter Tryz.func4, Tryz.ntmps4
      go_upto_region 1 with (fail)
      rw [HW1.out]
      go_wp2_with fail
      (with_reducible refine K0.out.mono ?_)
      rintro e w1 ⟨rfl, hb1⟩
      have hd0 : Below W1.heap.size W1 w1.drew := hb1.drew
      clear c0 c1 c2 c3 c4 c5 c6 c7 cl
      obtain ⟨c0, c1, c2, c3, c4, c5, c6, c7, cl⟩ := (X1.out.below hb1).cells
      go_upto_region 3 with (fail)
      have HB1 := Lib.hid B1.out
      refine wp_region_held_drew (S := (fun w' => w'.cell? ⟨w.heap.size, 0, none⟩ = some (.int .i64 st) ∧ w'.cell? ⟨w.heap.size, 1, none⟩ = some (.string re) ∧ w'.cell? ⟨w.heap.size, 2, none⟩ = some (.int .i64 mi) ∧ w'.cell? ⟨w.heap.size, 3, none⟩ = some (.slice A n c) ∧ w'.cell? ⟨w.heap.size, 4, none⟩ = some (.string bo) ∧ w'.cell? ⟨w.heap.size, 5, none⟩ = some (.int .i64 asked) ∧ w'.cell? ⟨w.heap.size, 6, none⟩ = some (.int .i64 got) ∧ w'.cell? ⟨w.heap.size, 7, none⟩ = some (.slice V m d) ∧ Below W1.heap.size W1 w')) (by kernel_rfl) (KC.out _ hd0) (fun hHeld => ?_)
      refine tkS 0 hHeld ?_
      try simp only [Act.put, ps1, ps2, ps3]
      refine tkS 1 hHeld ?_
      try simp only [Act.put, ps1, ps2, ps3]
      refine tkS 3 hHeld ?_
      try simp only [Act.put, ps1, ps2, ps3]
      refine tkS 4 hHeld ?_
      try simp only [Act.put, ps1, ps2, ps3]
      refine wpAnyH_ready (rs := [2]) (by kernel_rfl) (by simp) (AllReadyH.cons (by simp only [List.getElem?_toArray, List.getElem?_cons_succ, List.getElem?_cons_zero]; exact rfl) (fun K hK => ?_) AllReadyH.nil)
      rw [if_pos (by rfl)]
      go_simp
      (with_reducible refine (K1.out _ (bt HB1.out hd0)).mono ?_); rintro e v1 ⟨rfl, hv1⟩; have hd1 := bt hd0 hv1; go_wp2_with fail
      refine hK.out _ _ (KC.out _ hd1) (fun hHeld => ?_)
      clear hK K
      try simp only [Act.put, ps1, ps2, ps3]
      refine wpAnyH_ready (rs := [5]) (by kernel_rfl) (by simp) (AllReadyH.cons (by simp only [List.getElem?_toArray, List.getElem?_cons_succ, List.getElem?_cons_zero]; exact rfl) (fun K hK => ?_) AllReadyH.nil)
      rw [if_pos (by rfl)]
      go_simp
      (with_reducible refine (K2.out _ (bt HB1.out hd1)).mono ?_); rintro e v2 ⟨rfl, hv2⟩; have hd2 := bt hd1 hv2; go_wp2_with fail
      refine hK.out _ _ (KC.out _ hd2) (fun hHeld => ?_)
      clear hK K
      try simp only [Act.put, ps1, ps2, ps3]
      refine tkS 6 hHeld ?_
      try simp only [Act.put, ps1, ps2, ps3]
      refine tkS 7 hHeld ?_
      try simp only [Act.put, ps1, ps2, ps3]
      refine tkS 8 hHeld ?_
      try simp only [Act.put, ps1, ps2, ps3]
      refine tkS 9 hHeld ?_
      try simp only [Act.put, ps1, ps2, ps3]
      refine tkS 10 hHeld ?_
      try simp only [Act.put, ps1, ps2, ps3]
      refine tkS 12 hHeld ?_
      try simp only [Act.put, ps1, ps2, ps3]
      refine tkS 13 hHeld ?_
      try simp only [Act.put, ps1, ps2, ps3]
      refine tkS 14 hHeld ?_
      try simp only [Act.put, ps1, ps2, ps3]
      refine wpAnyH_ready (rs := [11]) (by kernel_rfl) (by simp) (AllReadyH.cons (by simp only [List.getElem?_toArray, List.getElem?_cons_succ, List.getElem?_cons_zero]; exact rfl) (fun K hK => ?_) AllReadyH.nil)
      rw [if_pos (by rfl)]
      go_simp
      (with_reducible refine (K3.out _ (bt HB1.out hd2)).mono ?_); rintro e v3 ⟨rfl, hv3⟩; have hd3 := bt hd2 hv3; go_wp2_with fail
      refine hK.out _ _ (KC.out _ hd3) (fun hHeld => ?_)
      clear hK K
      try simp only [Act.put, ps1, ps2, ps3]
      refine wpAnyH_ready (rs := [15]) (by kernel_rfl) (by simp) (AllReadyH.cons (by simp only [List.getElem?_toArray, List.getElem?_cons_succ, List.getElem?_cons_zero]; exact rfl) (fun K hK => ?_) AllReadyH.nil)
      rw [if_pos (by rfl)]
      go_simp
      (with_reducible refine (K4.out _ (bt HB1.out hd3)).mono ?_); rintro e v4 ⟨rfl, hv4⟩; have hd4 := bt hd3 hv4; go_wp2_with fail
      refine hK.out _ _ (KC.out _ hd4) (fun hHeld => ?_)
      clear hK K
      try simp only [Act.put, ps1, ps2, ps3]
      refine tkS 16 hHeld ?_
      try simp only [Act.put, ps1, ps2, ps3]
      refine tkS 17 hHeld ?_
      try simp only [Act.put, ps1, ps2, ps3]
      refine tkS 18 hHeld ?_
      try simp only [Act.put, ps1, ps2, ps3]
      refine wpAnyH_ready (rs := [19]) (by kernel_rfl) (by simp) (AllReadyH.cons (by simp only [List.getElem?_toArray, List.getElem?_cons_succ, List.getElem?_cons_zero]; exact rfl) (fun K hK => ?_) AllReadyH.nil)
      rw [if_pos (by rfl)]
      go_simp
      (with_reducible refine (HA.out _ (bt HB1.out hd4)).mono ?_); rintro e v5 ⟨rfl, hv5⟩; have hd5 := bt hd4 hv5; go_wp2_with fail
      refine hK.out _ _ (KC.out _ hd5) (fun hHeld => ?_)
      clear hK K
      try simp only [Act.put, ps1, ps2, ps3]
      refine tkS 20 hHeld ?_
      try simp only [Act.put, ps1, ps2, ps3]
      refine tkS 21 hHeld ?_
      try simp only [Act.put, ps1, ps2, ps3]
      refine wpAnyH_done (by kernel_rfl) ?_ _
      clear hHeld
      go_wp2
      go_ret
      exact ⟨rfl, bt HB1.out hd5⟩
theorem freshAge_law {H : Type} {enc : TypeId × Value → H} {W : World} {base0 : Nat}
    (v0 : Value) (hv0 : Value.okWide Tryz.prog W .any base0 30 v0) {d0 : DataW H} {p0 : List MemPlace} (h0 : DataW.Trod enc Tryz.prog W 0 (fun _ => true) true 30 v0 d0 p0) (hr0 : Reach 30 d0)
    (now : Int) (dev : ByteArray) (hn0 : (Lit.int .i64 now).wf = true)
    (w : World) (hw : w = W) (hE : DEnv W) :
    Calls Tryz.prog 4 #[v0, .int .i64 now, .string dev] w fun e w' => e = .returned (.bool true) ∧ Below w.heap.size w w' := by
  subst hw
  obtain ⟨st, re, mi, A, n, c, bo, xs, asd, gt, va, vn, vc, es, rfl, ⟨hR, hn, hl, _, _⟩, wa, wg, _⟩ := open_entry hv0 h0 hr0
  have hwf : ∀ z : Int, (Lit.int .i64 z).wf = true → -9223372036854775808 ≤ z ∧ z ≤ 9223372036854775807 := by
    intro z hz
    have e1 : IntKind.i64.min = -9223372036854775808 := by decide
    have e2 : IntKind.i64.max = 9223372036854775807 := by decide
    simp [Lit.wf] at hz
    omega
  exact freshAge_any st mi asd gt now re bo A va n c vn vc xs dev w hE hR (fun f hf => by have := hl f hf; unfold reachBytes at this; omega) (hwf _ wg) (hwf _ hn0) (hwf _ wa)
end Go.Proofs.YtcgdcbnhpbokfaaGreatDoor
