/- Joined out of the texts RefMakes, MakesLaw (wip/tools/merge.py). -/
import Derived.Test.YtgmmjhcklhajiaaGreatDoorQRefreshMakes
/- RefreshMakes: the walk of the law (printed by wip/tools/makes20.py). -/
namespace Go.Proofs.YtgmmjhcklhajiaaGreatDoor
open Go.RowKit
set_option maxRecDepth 100000

set_option maxHeartbeats 64000000 in
theorem refreshMakes_any (st mi asked got x y : Int) (re bo : ByteArray) (A V R : Option Addr) (n c m d k l : Nat) (xs vs rep : List Fld) (w : World) (hE : DEnv w) (hr : Rd A n 2 (fldsV xs) w) (hv : Rd V m 2 (fldsV vs) w) (hq : Rd R k 2 (fldsV rep) w) (hn : n ≤ 140737488355328) (hm : m ≤ 140737488355328) (hk : k ≤ 140737488355328) (hs : ∀ f ∈ xs, f.1.length ≤ 140737488355328 ∧ f.2.length ≤ 140737488355328) (hsv : ∀ f ∈ vs, f.1.length ≤ 140737488355328 ∧ f.2.length ≤ 140737488355328) (hsq : ∀ f ∈ rep, f.1.length ≤ 140737488355328 ∧ f.2.length ≤ 140737488355328) :
    Calls Tryz.prog 3 #[.agg #[.int .i64 st, .string re, .int .i64 mi, .slice A n c, .string bo, .int .i64 asked, .int .i64 got, .slice V m d], .slice R k l, .agg #[.int .i64 x, .int .i64 y]] w fun e w' => e = .returned (.bool true) ∧ Below w.heap.size w w' := by
  obtain rfl := hr.fld; obtain rfl := hv.fld; obtain rfl := hq.fld
  obtain ⟨W1, hW1⟩ : ∃ W1, w.alloc (.cells #[.int .i64 st, .string re, .int .i64 mi, .slice A xs.length c, .string bo, .int .i64 asked, .int .i64 got, .slice V vs.length d] 26) = W1 := ⟨_, rfl⟩
  have b1 : Below w.heap.size w W1 := by rw [← hW1]; exact (Below.refl w.heap.size w).alloc (Nat.le_refl _) _
  have z1 : W1.heap.size = w.heap.size + 1 := by rw [← hW1]; simp
  have x1 : W1.heap[w.heap.size]? = some (.cells #[.int .i64 st, .string re, .int .i64 mi, .slice A xs.length c, .string bo, .int .i64 asked, .int .i64 got, .slice V vs.length d] 26 (0, 0)) := by rw [← hW1]; exact heap_new w _ _ rfl
  obtain ⟨W2, hW2⟩ : ∃ W2, W1.alloc (.cells #[.int .i64 x, .int .i64 y] 27) = W2 := ⟨_, rfl⟩
  have b2 : Below W1.heap.size W1 W2 := by rw [← hW2]; exact (Below.refl W1.heap.size W1).alloc (Nat.le_refl _) _
  have x2 : W2.heap[w.heap.size + 1]? = some (.cells #[.int .i64 x, .int .i64 y] 27 (0, 0)) := by rw [← hW2]; exact heap_new W1 _ _ z1
  have y1 := (b2.block w.heap.size (by omega)).trans x1
  have b12 : Below w.heap.size w W2 := bt b1 b2
  have hEl := (of_heap y1 0).2.2; have hTl := (of_heap x2 0).2.2
  have k1 := few20_any A xs.length c xs W2 (hr.below b12) hn hs
  have k2 := fun W (hb : Below w.heap.size w W) => few20_any V vs.length d vs W (hv.below hb) hm hsv
  have k3 := fun W (hb : Below w.heap.size w W) => few20_any R rep.length l rep W (hq.below hb) hk hsq
  have HWK := Lib.hid (fun W (hb : Below w.heap.size w W) => works20_any W (hE.below hb))
  have c3 := (of_heap y1 3).1; have c7 := (of_heap y1 7).1
  simp only [List.getElem?_toArray, List.getElem?_cons_succ, List.getElem?_cons_zero] at c3 c7
  cases f1 : few20 xs
  · rw [f1] at k1
    have K1 := Lib.hid k1; have K2 := Lib.hid k2; have K3 := Lib.hid k3; have HW1 := Lib.hid hW1; have HW2 := Lib.hid hW2; have X1 := Lib.hid y1; have X2 := Lib.hid x2; have HB1 := Lib.hid b12
    clear k1 k2 k3 hW1 hW2 x1 x2 y1 b1 b2 b12 hr hv hq hE hs hsv hsq
    go_enter Tryz.func3, Tryz.ntmps3
    go_upto_region 1 with (fail)
    rw [HW1.out, HW2.out]
    go_wp2_with fail
    (with_reducible refine K1.out.mono ?_)
    rintro e w1 ⟨rfl, hb⟩
    have HB := Lib.hid (bt HB1.out hb)
    clear hb
    go_wp2_with fail
    (with_reducible refine (HWK.out _ HB.out).mono ?_)
    rintro e w4 ⟨rfl, hb⟩
    go_wp2
    go_ret
    exact ⟨rfl, bt HB.out hb⟩
  · rw [f1] at k1
    cases f2 : few20 vs
    · rw [f2] at k2
      have K1 := Lib.hid k1; have K2 := Lib.hid k2; have K3 := Lib.hid k3; have HW1 := Lib.hid hW1; have HW2 := Lib.hid hW2; have X1 := Lib.hid y1; have X2 := Lib.hid x2; have HB1 := Lib.hid b12
      clear k1 k2 k3 hW1 hW2 x1 x2 y1 b1 b2 b12 hr hv hq hE hs hsv hsq
      go_enter Tryz.func3, Tryz.ntmps3
      go_upto_region 1 with (fail)
      rw [HW1.out, HW2.out]
      go_wp2_with fail
      (with_reducible refine K1.out.mono ?_)
      rintro e w1 ⟨rfl, hb⟩
      have HB := Lib.hid (bt HB1.out hb)
      have c7 := (hb.cell (p := ⟨w.heap.size, 7, none⟩) hEl).trans c7
      clear hb
      go_wp2_with fail
      (with_reducible refine (K2.out _ HB.out).mono ?_)
      rintro e w2 ⟨rfl, hb⟩
      have HB := Lib.hid (bt HB.out hb)
      clear hb
      go_wp2_with fail
      (with_reducible refine (HWK.out _ HB.out).mono ?_)
      rintro e w4 ⟨rfl, hb⟩
      go_wp2
      go_ret
      exact ⟨rfl, bt HB.out hb⟩
    · rw [f2] at k2
      cases f3 : few20 rep
      · rw [f3] at k3
        have K1 := Lib.hid k1; have K2 := Lib.hid k2; have K3 := Lib.hid k3; have HW1 := Lib.hid hW1; have HW2 := Lib.hid hW2; have X1 := Lib.hid y1; have X2 := Lib.hid x2; have HB1 := Lib.hid b12
        clear k1 k2 k3 hW1 hW2 x1 x2 y1 b1 b2 b12 hr hv hq hE hs hsv hsq
        go_enter Tryz.func3, Tryz.ntmps3
        go_upto_region 1 with (fail)
        rw [HW1.out, HW2.out]
        go_wp2_with fail
        (with_reducible refine K1.out.mono ?_)
        rintro e w1 ⟨rfl, hb⟩
        have HB := Lib.hid (bt HB1.out hb)
        have c7 := (hb.cell (p := ⟨w.heap.size, 7, none⟩) hEl).trans c7
        clear hb
        go_wp2_with fail
        (with_reducible refine (K2.out _ HB.out).mono ?_)
        rintro e w2 ⟨rfl, hb⟩
        have HB := Lib.hid (bt HB.out hb)
        clear hb
        go_wp2_with fail
        (with_reducible refine (K3.out _ HB.out).mono ?_)
        rintro e w3 ⟨rfl, hb⟩
        have HB := Lib.hid (bt HB.out hb)
        clear hb
        go_wp2_with fail
        (with_reducible refine (HWK.out _ HB.out).mono ?_)
        rintro e w4 ⟨rfl, hb⟩
        go_wp2
        go_ret
        exact ⟨rfl, bt HB.out hb⟩
      · rw [f3] at k3
        obtain ⟨hx1, hx2⟩ := few20_yes f1
        obtain ⟨hv1, hv2⟩ := few20_yes f2
        obtain ⟨hq1, hq2⟩ := few20_yes f3
        have hl1 := with_len xs rep
        have kcp := fun W (hb : Below w.heap.size w W) => copy20_any st mi asked got re bo A V xs.length c vs.length d xs vs W (hr.below hb) (hv.below hb) (by omega) (by omega)
        have ka := fun a c' b d' la lc W (h1 : Rd a xs.length 2 (fldsV xs) W) (h2 : Rd b vs.length 2 (fldsV vs) W) (h3 : Rd la rep.length 2 (fldsV rep) W) => with_any st mi asked got 304 0 x y re bo ⟨#[]⟩ ⟨#[]⟩ a b la xs.length c' vs.length d' rep.length lc xs vs rep W h1 h2 h3 (by omega) (by omega) (by omega) (by omega) (by omega)
        have kb := fun W (hb : Below w.heap.size w W) => rwith20_any st mi asked got 0 0 x y re bo ⟨#[]⟩ ⟨#[]⟩ A V R xs.length c vs.length d rep.length l xs vs rep W (hr.below hb) (hv.below hb) (hq.below hb) (by omega) (by omega) (by omega) (by omega) (by omega)
        generalize withL xs rep = xa at *
        have bxa : xa.length ≤ 1000 := by omega
        have hss : (rep == rep) = true := by simp
        have hzq : ([] : List Fld).length + rep.length ≤ 1000000000 := by simp; omega
        have HR := Lib.hid (fun W (hb : Below w.heap.size w W) => hr.below hb); have HV := Lib.hid (fun W (hb : Below w.heap.size w W) => hv.below hb); have HQ := Lib.hid (fun W (hb : Below w.heap.size w W) => hq.below hb)
        have KCP := Lib.hid kcp; have KA := Lib.hid ka; have KB := Lib.hid kb; have HSS := Lib.hid hss
        have K1 := Lib.hid k1; have K2 := Lib.hid k2; have K3 := Lib.hid k3; have HW1 := Lib.hid hW1; have HW2 := Lib.hid hW2; have X1 := Lib.hid y1; have X2 := Lib.hid x2; have HB1 := Lib.hid b12
        clear k1 k2 k3 hW1 hW2 x1 x2 y1 b1 b2 b12 hr hv hq hE hs hsv hsq
        clear kcp ka kb hss f1 f2 f3 hx2 hv2 hq2
        unfold entV at KA
        go_enter Tryz.func3, Tryz.ntmps3
        go_upto_region 1 with (fail)
        rw [HW1.out, HW2.out]
        go_wp2_with fail
        (with_reducible refine K1.out.mono ?_)
        rintro e w1 ⟨rfl, hb⟩
        have XE := X1; have XT := X2; have HB := HB1
        clear X1 X2 HB1 c3 HW1 HW2
        have XE := Lib.hid ((hb.block (w.heap.size) hEl).trans XE.out); have hEl := Nat.lt_of_lt_of_le hEl hb.size
        have XT := Lib.hid ((hb.block (w.heap.size + 1) hTl).trans XT.out); have hTl := Nat.lt_of_lt_of_le hTl hb.size
        have HB := Lib.hid (bt HB.out hb)
        have c7 := (of_heap XE.out 7).1
        simp only [List.getElem?_toArray, List.getElem?_cons_succ, List.getElem?_cons_zero] at c7
        clear hb
        go_wp2_with fail
        (with_reducible refine (K2.out _ HB.out).mono ?_)
        rintro e w2 ⟨rfl, hb⟩
        have XE := Lib.hid ((hb.block (w.heap.size) hEl).trans XE.out); have hEl := Nat.lt_of_lt_of_le hEl hb.size
        have XT := Lib.hid ((hb.block (w.heap.size + 1) hTl).trans XT.out); have hTl := Nat.lt_of_lt_of_le hTl hb.size
        have HB := Lib.hid (bt HB.out hb)
        clear c7
        clear hb
        go_wp2_with fail
        (with_reducible refine (K3.out _ HB.out).mono ?_)
        rintro e w3 ⟨rfl, hb⟩
        have XE := Lib.hid ((hb.block (w.heap.size) hEl).trans XE.out); have hEl := Nat.lt_of_lt_of_le hEl hb.size
        have XT := Lib.hid ((hb.block (w.heap.size + 1) hTl).trans XT.out); have hTl := Nat.lt_of_lt_of_le hTl hb.size
        have HB := Lib.hid (bt HB.out hb)
        clear hb K1 K2 K3
        have c0 := (of_heap XE.out 0).1; have c1 := (of_heap XE.out 1).1; have c2 := (of_heap XE.out 2).1; have c3 := (of_heap XE.out 3).1; have c4 := (of_heap XE.out 4).1; have c5 := (of_heap XE.out 5).1; have c6 := (of_heap XE.out 6).1; have c7 := (of_heap XE.out 7).1
        simp only [List.getElem?_toArray, List.getElem?_cons_succ, List.getElem?_cons_zero] at c0 c1 c2 c3 c4 c5 c6 c7
        go_wp2_with fail
        (with_reducible refine (KCP.out _ HB.out).mono ?_)
        rintro e u0 ⟨oa, oc, ob, od, rfl, ro1, ro2, hb⟩
        have RO1 := Lib.hid ro1; have RO2 := Lib.hid ro2
        clear ro1 ro2 KCP
        have XE := Lib.hid ((hb.block (w.heap.size) hEl).trans XE.out); have hEl := Nat.lt_of_lt_of_le hEl hb.size
        have XT := Lib.hid ((hb.block (w.heap.size + 1) hTl).trans XT.out); have hTl := Nat.lt_of_lt_of_le hTl hb.size
        have HB := Lib.hid (bt HB.out hb)
        clear c0 c1 c2 c3 c4 c5 c6 c7
        clear hb
        go_upto_region 4 with (fail)
        obtain ⟨Y1, hY⟩ : ∃ W, u0.alloc (.cells #[.int .i64 st, .string re, .int .i64 mi, .slice oa xs.length oc, .string bo, .int .i64 asked, .int .i64 got, .slice ob vs.length od] 26) = W := ⟨_, rfl⟩
        have hb : Below u0.heap.size u0 Y1 := by rw [← hY]; exact (Below.refl u0.heap.size u0).alloc (Nat.le_refl _) _
        have XO : Hid (Y1.heap[u0.heap.size]? = some (.cells #[.int .i64 st, .string re, .int .i64 mi, .slice oa xs.length oc, .string bo, .int .i64 asked, .int .i64 got, .slice ob vs.length od] 26 (0, 0))) := Lib.hid (by rw [← hY]; exact heap_new u0 _ _ rfl)
        have hOl := (of_heap XO.out 0).2.2
        rw [hY]
        have XE := Lib.hid ((hb.block (w.heap.size) hEl).trans XE.out); have hEl := Nat.lt_of_lt_of_le hEl hb.size
        have XT := Lib.hid ((hb.block (w.heap.size + 1) hTl).trans XT.out); have hTl := Nat.lt_of_lt_of_le hTl hb.size
        have RO1 := Lib.hid (RO1.out.below hb)
        have RO2 := Lib.hid (RO2.out.below hb)
        have HB := Lib.hid (bt HB.out hb)
        clear hb hY
        go_wp2_with (at_builtin; refine app_flds Y1.heap.size (OwnF.nil _ _) (Nat.le_refl _) (HQ.out _ HB.out) hzq rfl _ _ rfl rfl rfl ?_)
        intro vl u1 hO hb _
        obtain ⟨la, lc, rfl⟩ := hO.shape
        have RL := Lib.hid hO.rd.2
        clear hO
        have XE := Lib.hid ((hb.block (w.heap.size) hEl).trans XE.out); have hEl := Nat.lt_of_lt_of_le hEl hb.size
        have XT := Lib.hid ((hb.block (w.heap.size + 1) hTl).trans XT.out); have hTl := Nat.lt_of_lt_of_le hTl hb.size
        have XO := Lib.hid ((hb.block (u0.heap.size) hOl).trans XO.out); have hOl := Nat.lt_of_lt_of_le hOl hb.size
        have RO1 := Lib.hid (RO1.out.below hb)
        have RO2 := Lib.hid (RO2.out.below hb)
        have HB := Lib.hid (bt HB.out hb)
        clear hb
        go_upto_region 7 with (fail)
        obtain ⟨Y2, hY⟩ : ∃ W, u1.alloc (.cells #[.int .i64 304, .string ⟨#[]⟩, .int .i64 0, .slice la rep.length lc, .string ⟨#[]⟩] 24) = W := ⟨_, rfl⟩
        have hb : Below u1.heap.size u1 Y2 := by rw [← hY]; exact (Below.refl u1.heap.size u1).alloc (Nat.le_refl _) _
        have XQ : Hid (Y2.heap[u1.heap.size]? = some (.cells #[.int .i64 304, .string ⟨#[]⟩, .int .i64 0, .slice la rep.length lc, .string ⟨#[]⟩] 24 (0, 0))) := Lib.hid (by rw [← hY]; exact heap_new u1 _ _ rfl)
        have hQl := (of_heap XQ.out 0).2.2
        rw [hY]
        have XE := Lib.hid ((hb.block (w.heap.size) hEl).trans XE.out); have hEl := Nat.lt_of_lt_of_le hEl hb.size
        have XT := Lib.hid ((hb.block (w.heap.size + 1) hTl).trans XT.out); have hTl := Nat.lt_of_lt_of_le hTl hb.size
        have XO := Lib.hid ((hb.block (u0.heap.size) hOl).trans XO.out); have hOl := Nat.lt_of_lt_of_le hOl hb.size
        have RO1 := Lib.hid (RO1.out.below hb)
        have RO2 := Lib.hid (RO2.out.below hb)
        have RL := Lib.hid (RL.out.below hb)
        have HB := Lib.hid (bt HB.out hb)
        clear hb hY
        have c0 := (of_heap XO.out 0).1; have c1 := (of_heap XO.out 1).1; have c2 := (of_heap XO.out 2).1; have c3 := (of_heap XO.out 3).1; have c4 := (of_heap XO.out 4).1; have c5 := (of_heap XO.out 5).1; have c6 := (of_heap XO.out 6).1; have c7 := (of_heap XO.out 7).1
        simp only [List.getElem?_toArray, List.getElem?_cons_succ, List.getElem?_cons_zero] at c0 c1 c2 c3 c4 c5 c6 c7
        have q0 := (of_heap XQ.out 0).1; have q1 := (of_heap XQ.out 1).1; have q2 := (of_heap XQ.out 2).1; have q3 := (of_heap XQ.out 3).1; have q4 := (of_heap XQ.out 4).1
        simp only [List.getElem?_toArray, List.getElem?_cons_succ, List.getElem?_cons_zero] at q0 q1 q2 q3 q4
        have t0 := (of_heap XT.out 0).1; have t1 := (of_heap XT.out 1).1
        simp only [List.getElem?_toArray, List.getElem?_cons_succ, List.getElem?_cons_zero] at t0 t1
        go_wp2_with fail
        (with_reducible refine (KA.out _ _ _ _ _ _ _ RO1.out RO2.out RL.out).mono ?_)
        rintro e u2 ⟨aa, ca, ab, db, rfl, oa1, oa2, hb⟩
        have RA1 := Lib.hid oa1.rd.2; have RA2 := Lib.hid oa2.rd.2
        have XE := Lib.hid ((hb.block (w.heap.size) hEl).trans XE.out); have hEl := Nat.lt_of_lt_of_le hEl hb.size
        have XT := Lib.hid ((hb.block (w.heap.size + 1) hTl).trans XT.out); have hTl := Nat.lt_of_lt_of_le hTl hb.size
        have XO := Lib.hid ((hb.block (u0.heap.size) hOl).trans XO.out); have hOl := Nat.lt_of_lt_of_le hOl hb.size
        have RO1 := Lib.hid (RO1.out.below hb)
        have RO2 := Lib.hid (RO2.out.below hb)
        have RL := Lib.hid (RL.out.below hb)
        have HB := Lib.hid (bt HB.out hb)
        clear hb oa1 oa2 XQ hQl KA
        clear c0 c1 c2 c3 c4 c5 c6 c7
        clear q0 q1 q2 q3 q4
        clear t0 t1
        unfold entV
        go_upto_region 8 with (fail)
        obtain ⟨Y3, hY⟩ : ∃ W, u2.alloc (.cells #[.int .i64 st, .string re, .int .i64 mi, .slice aa xa.length ca, .string bo, .int .i64 x, .int .i64 y, .slice ab vs.length db] 26) = W := ⟨_, rfl⟩
        have hb : Below u2.heap.size u2 Y3 := by rw [← hY]; exact (Below.refl u2.heap.size u2).alloc (Nat.le_refl _) _
        have XA : Hid (Y3.heap[u2.heap.size]? = some (.cells #[.int .i64 st, .string re, .int .i64 mi, .slice aa xa.length ca, .string bo, .int .i64 x, .int .i64 y, .slice ab vs.length db] 26 (0, 0))) := Lib.hid (by rw [← hY]; exact heap_new u2 _ _ rfl)
        have hAl := (of_heap XA.out 0).2.2
        rw [hY]
        have XE := Lib.hid ((hb.block (w.heap.size) hEl).trans XE.out); have hEl := Nat.lt_of_lt_of_le hEl hb.size
        have XT := Lib.hid ((hb.block (w.heap.size + 1) hTl).trans XT.out); have hTl := Nat.lt_of_lt_of_le hTl hb.size
        have XO := Lib.hid ((hb.block (u0.heap.size) hOl).trans XO.out); have hOl := Nat.lt_of_lt_of_le hOl hb.size
        have RO1 := Lib.hid (RO1.out.below hb)
        have RO2 := Lib.hid (RO2.out.below hb)
        have RL := Lib.hid (RL.out.below hb)
        have RA1 := Lib.hid (RA1.out.below hb)
        have RA2 := Lib.hid (RA2.out.below hb)
        have HB := Lib.hid (bt HB.out hb)
        clear hb hY
        have c0 := (of_heap XE.out 0).1; have c1 := (of_heap XE.out 1).1; have c2 := (of_heap XE.out 2).1; have c3 := (of_heap XE.out 3).1; have c4 := (of_heap XE.out 4).1; have c5 := (of_heap XE.out 5).1; have c6 := (of_heap XE.out 6).1; have c7 := (of_heap XE.out 7).1
        simp only [List.getElem?_toArray, List.getElem?_cons_succ, List.getElem?_cons_zero] at c0 c1 c2 c3 c4 c5 c6 c7
        have t0 := (of_heap XT.out 0).1; have t1 := (of_heap XT.out 1).1
        simp only [List.getElem?_toArray, List.getElem?_cons_succ, List.getElem?_cons_zero] at t0 t1
        go_wp2_with fail
        (with_reducible refine (KB.out _ HB.out).mono ?_)
        rintro e u3 ⟨ba, cb, rfl, rb1, hb⟩
        have RB1 := Lib.hid rb1
        have XE := Lib.hid ((hb.block (w.heap.size) hEl).trans XE.out); have hEl := Nat.lt_of_lt_of_le hEl hb.size
        have XT := Lib.hid ((hb.block (w.heap.size + 1) hTl).trans XT.out); have hTl := Nat.lt_of_lt_of_le hTl hb.size
        have XO := Lib.hid ((hb.block (u0.heap.size) hOl).trans XO.out); have hOl := Nat.lt_of_lt_of_le hOl hb.size
        have XA := Lib.hid ((hb.block (u2.heap.size) hAl).trans XA.out); have hAl := Nat.lt_of_lt_of_le hAl hb.size
        have RO1 := Lib.hid (RO1.out.below hb)
        have RO2 := Lib.hid (RO2.out.below hb)
        have RL := Lib.hid (RL.out.below hb)
        have RA1 := Lib.hid (RA1.out.below hb)
        have RA2 := Lib.hid (RA2.out.below hb)
        have HB := Lib.hid (bt HB.out hb)
        clear hb rb1 KB XT hTl
        clear c0 c1 c2 c3 c4 c5 c6 c7
        clear t0 t1
        go_upto_region 9 with (fail)
        obtain ⟨Y4, hY⟩ : ∃ W, u3.alloc (.cells #[.int .i64 st, .string re, .int .i64 mi, .slice ba xa.length cb, .string bo, .int .i64 x, .int .i64 y, .slice V vs.length d] 26) = W := ⟨_, rfl⟩
        have hb : Below u3.heap.size u3 Y4 := by rw [← hY]; exact (Below.refl u3.heap.size u3).alloc (Nat.le_refl _) _
        have XB : Hid (Y4.heap[u3.heap.size]? = some (.cells #[.int .i64 st, .string re, .int .i64 mi, .slice ba xa.length cb, .string bo, .int .i64 x, .int .i64 y, .slice V vs.length d] 26 (0, 0))) := Lib.hid (by rw [← hY]; exact heap_new u3 _ _ rfl)
        have hBl := (of_heap XB.out 0).2.2
        rw [hY]
        have XE := Lib.hid ((hb.block (w.heap.size) hEl).trans XE.out); have hEl := Nat.lt_of_lt_of_le hEl hb.size
        have XO := Lib.hid ((hb.block (u0.heap.size) hOl).trans XO.out); have hOl := Nat.lt_of_lt_of_le hOl hb.size
        have XA := Lib.hid ((hb.block (u2.heap.size) hAl).trans XA.out); have hAl := Nat.lt_of_lt_of_le hAl hb.size
        have RO1 := Lib.hid (RO1.out.below hb)
        have RO2 := Lib.hid (RO2.out.below hb)
        have RL := Lib.hid (RL.out.below hb)
        have RA1 := Lib.hid (RA1.out.below hb)
        have RA2 := Lib.hid (RA2.out.below hb)
        have RB1 := Lib.hid (RB1.out.below hb)
        have HB := Lib.hid (bt HB.out hb)
        clear hb hY
        have g0 := (of_heap XA.out 0).1; have g1 := (of_heap XA.out 1).1; have g2 := (of_heap XA.out 2).1; have g3 := (of_heap XA.out 3).1; have g4 := (of_heap XA.out 4).1; have g5 := (of_heap XA.out 5).1; have g6 := (of_heap XA.out 6).1; have g7 := (of_heap XA.out 7).1
        simp only [List.getElem?_toArray, List.getElem?_cons_succ, List.getElem?_cons_zero] at g0 g1 g2 g3 g4 g5 g6 g7
        have q0 := (of_heap XB.out 0).1; have q1 := (of_heap XB.out 1).1; have q2 := (of_heap XB.out 2).1; have q3 := (of_heap XB.out 3).1; have q4 := (of_heap XB.out 4).1; have q5 := (of_heap XB.out 5).1; have q6 := (of_heap XB.out 6).1; have q7 := (of_heap XB.out 7).1
        simp only [List.getElem?_toArray, List.getElem?_cons_succ, List.getElem?_cons_zero] at q0 q1 q2 q3 q4 q5 q6 q7
        go_wp2_with fail
        (with_reducible refine (same20_any st mi x y re bo aa ab ba V ca db cb d xa vs Y4 RA1.out RA2.out RB1.out (HV.out _ HB.out) bxa (by omega)).mono ?_)
        rintro e z1 ⟨rfl, hb⟩
        have XE := Lib.hid ((hb.block (w.heap.size) hEl).trans XE.out); have hEl := Nat.lt_of_lt_of_le hEl hb.size
        have XO := Lib.hid ((hb.block (u0.heap.size) hOl).trans XO.out); have hOl := Nat.lt_of_lt_of_le hOl hb.size
        have RO1 := Lib.hid (RO1.out.below hb)
        have RO2 := Lib.hid (RO2.out.below hb)
        have RL := Lib.hid (RL.out.below hb)
        have RA1 := Lib.hid (RA1.out.below hb)
        have RA2 := Lib.hid (RA2.out.below hb)
        have RB1 := Lib.hid (RB1.out.below hb)
        have HB := Lib.hid (bt HB.out hb)
        clear hb XA XB hAl hBl
        clear g0 g1 g2 g3 g4 g5 g6 g7
        clear q0 q1 q2 q3 q4 q5 q6 q7
        have g0 := (of_heap XO.out 0).1; have g1 := (of_heap XO.out 1).1; have g2 := (of_heap XO.out 2).1; have g3 := (of_heap XO.out 3).1; have g4 := (of_heap XO.out 4).1; have g5 := (of_heap XO.out 5).1; have g6 := (of_heap XO.out 6).1; have g7 := (of_heap XO.out 7).1
        simp only [List.getElem?_toArray, List.getElem?_cons_succ, List.getElem?_cons_zero] at g0 g1 g2 g3 g4 g5 g6 g7
        have c0 := (of_heap XE.out 0).1; have c1 := (of_heap XE.out 1).1; have c2 := (of_heap XE.out 2).1; have c3 := (of_heap XE.out 3).1; have c4 := (of_heap XE.out 4).1; have c5 := (of_heap XE.out 5).1; have c6 := (of_heap XE.out 6).1; have c7 := (of_heap XE.out 7).1
        simp only [List.getElem?_toArray, List.getElem?_cons_succ, List.getElem?_cons_zero] at c0 c1 c2 c3 c4 c5 c6 c7
        go_wp2_with fail
        (with_reducible refine (same20_any st mi asked got re bo oa ob A V oc od c d xs vs z1 RO1.out RO2.out (HR.out _ HB.out) (HV.out _ HB.out) (by omega) (by omega)).mono ?_)
        rintro e z2 ⟨rfl, hb⟩
        have XE := Lib.hid ((hb.block (w.heap.size) hEl).trans XE.out); have hEl := Nat.lt_of_lt_of_le hEl hb.size
        have XO := Lib.hid ((hb.block (u0.heap.size) hOl).trans XO.out); have hOl := Nat.lt_of_lt_of_le hOl hb.size
        have RO1 := Lib.hid (RO1.out.below hb)
        have RO2 := Lib.hid (RO2.out.below hb)
        have RL := Lib.hid (RL.out.below hb)
        have RA1 := Lib.hid (RA1.out.below hb)
        have RA2 := Lib.hid (RA2.out.below hb)
        have RB1 := Lib.hid (RB1.out.below hb)
        have HB := Lib.hid (bt HB.out hb)
        clear hb
        clear g0 g1 g2 g3 g4 g5 g6 g7
        clear c0 c1 c2 c3 c4 c5 c6 c7
        have ks := samef04_any la rep.length lc rep R rep.length l rep z2 RL.out (HQ.out _ HB.out) (by omega) (by omega)
        rw [HSS.out] at ks
        have KS := Lib.hid ks
        clear ks
        go_wp2_with fail
        (with_reducible refine KS.out.mono ?_)
        rintro e z3 ⟨rfl, hb⟩
        have HB := Lib.hid (bt HB.out hb)
        clear hb
        go_wp2_with fail
        (with_reducible refine (HWK.out _ HB.out).mono ?_)
        rintro e z4 ⟨rfl, hb⟩
        go_wp2
        go_ret
        exact ⟨rfl, bt HB.out hb⟩
end Go.Proofs.YtgmmjhcklhajiaaGreatDoor
/- RefreshMakes: the law as it is handed in. -/
namespace Go.Proofs.YtgmmjhcklhajiaaGreatDoor
open Go.RowKit Go.ChangeShapes Go.WideShapes
set_option maxRecDepth 100000

section
variable {H : Type} {enc : TypeId × Value → H} {W : World}
/-- Two numbers that came in. -/
theorem open_two {base : Nat} {v : Value} {d : DataW H} {p : List MemPlace} (hv : Value.okWide Tryz.prog W .any base 27 v) (h : DataW.Trod enc Tryz.prog W 0 (fun _ => true) true 27 v d p) :
    ∃ x y : Int, v = .agg #[.int .i64 x, .int .i64 y] := by
  have hu := Tryz.underlying27
  obtain ⟨cs, rfl, hsz, _⟩ : ∃ cs, v = .agg cs ∧ cs.size = Tryz.prog.cellsOf 27 ∧ Row.okWide Tryz.prog W .any base 27 cs := by
    unfold Value.okWide at hv
    rw [hu] at hv
    exact hv
  obtain ⟨fuel, hf⟩ := h
  obtain ⟨l⟩ := cs
  have hf' : DataW.trod enc Tryz.prog W 0 (fun _ => true) true fuel 27 l = some (d, p) := hf
  obtain ⟨xs, m, _, _, hcl, hxl, hg⟩ := DataW.trod_array hu hf'
  have hc2 : Tryz.prog.cellsOf 27 = 2 := by kernel_rfl
  have hc1 : Tryz.prog.cellsOf 2 = 1 := by kernel_rfl
  obtain ⟨u, v, rfl⟩ := two_of l (hcl.trans hc2)
  obtain ⟨y0, y1, rfl⟩ := two_of xs hxl
  have g0 : DataW.trod enc Tryz.prog W 0 (fun _ => true) true m 2 (([u, v].drop (0 * Tryz.prog.cellsOf 2)).take (Tryz.prog.cellsOf 2)) = some y0 := hg 0 (by decide)
  have g1 : DataW.trod enc Tryz.prog W 0 (fun _ => true) true m 2 (([u, v].drop (1 * Tryz.prog.cellsOf 2)).take (Tryz.prog.cellsOf 2)) = some y1 := hg 1 (by decide)
  rw [hc1] at g0 g1
  obtain ⟨a, e0, _, _⟩ := DataW.trod_int Tryz.underlying2 (cs := [u]) g0
  obtain ⟨b, e1, _, _⟩ := DataW.trod_int Tryz.underlying2 (cs := [v]) g1
  have e0' := (List.cons.inj e0).1
  have e1' := (List.cons.inj e1).1
  subst e0'; subst e1'
  exact ⟨a, b, rfl⟩
end
theorem refreshMakes_law {H : Type} {enc : TypeId × Value → H} {W : World} {base0 base1 base2 : Nat}
    (v0 : Value) (hv0 : Value.okWide Tryz.prog W .any base0 26 v0) {d0 : DataW H} {p0 : List MemPlace} (h0 : DataW.Trod enc Tryz.prog W 0 (fun _ => true) true 26 v0 d0 p0) (hr0 : Reach 26 d0)
    (v1 : Value) (hv1 : Value.okWide Tryz.prog W .any base1 22 v1) {d1 : DataW H} {p1 : List MemPlace} (h1 : DataW.Trod enc Tryz.prog W 0 (fun _ => true) true 22 v1 d1 p1) (hr1 : Reach 22 d1)
    (v2 : Value) (hv2 : Value.okWide Tryz.prog W .any base2 27 v2) {d2 : DataW H} {p2 : List MemPlace} (h2 : DataW.Trod enc Tryz.prog W 0 (fun _ => true) true 27 v2 d2 p2) (_ : Reach 27 d2)
    (w : World) (hw : w = W) (hE : DEnv W) :
    Calls Tryz.prog 3 #[v0, v1, v2] w fun e w' => e = .returned (.bool true) ∧ Below w.heap.size w w' := by
  subst hw
  obtain ⟨st, re, mi, A, n, c, bo, xs, asd, gt, va, vn, vc, es, rfl, ⟨hR, hn, hl, _, _⟩, _, _, hV, hvn, hvl⟩ := open_entry hv0 h0 hr0
  obtain ⟨R, k, l, rep, rfl, hQ, hk, hql⟩ := open_flds_v hv1 h1 hr1
  obtain ⟨x, y, rfl⟩ := open_two hv2 h2
  have hrb : reachBytes ≤ 140737488355328 := by decide
  exact refreshMakes_any st mi asd gt x y re bo A va R n c vn vc k l xs es rep w hE hR hV hQ (by omega) (by omega) (by omega) (fun f hf => by have := hl f hf; omega) (fun f hf => by have := hvl f hf; omega) (fun f hf => by have := hql f hf; omega)
end Go.Proofs.YtgmmjhcklhajiaaGreatDoor
