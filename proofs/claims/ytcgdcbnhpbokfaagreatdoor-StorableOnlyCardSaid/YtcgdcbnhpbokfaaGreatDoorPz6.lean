/- Joined out of the texts RWalkB, RWalkC, RValues, RGet04, TickR, RFresh1, RFresh2 (wip/tools/dce.py). -/
import Derived.Test.YtcgdcbnhpbokfaaGreatDoorPz5
import Derived.Laws.BytesArg
import Derived.Deep.RegionHeld3
/- The document's dates: the walks of Of, Near. -/
namespace Go.Proofs.YtcgdcbnhpbokfaaGreatDoor
open Go.RowKit
set_option maxRecDepth 100000

/-- A date's cells in memory. -/
def DateAt (b : Nat) (Y Mo D h mi s : Int) (w : World) : Prop := w.heap[b]? = some (.cells #[.int .i64 Y, .int .i64 Mo, .int .i64 D, .int .i64 h, .int .i64 mi, .int .i64 s] 122 (0, 0))
theorem DateAt.cells {b : Nat} {Y Mo D h mi s : Int} {w : World} (x : DateAt b Y Mo D h mi s w) : w.cell? ⟨b, 0, none⟩ = some (.int .i64 Y) ∧ w.cell? ⟨b, 1, none⟩ = some (.int .i64 Mo) ∧ w.cell? ⟨b, 2, none⟩ = some (.int .i64 D) ∧ w.cell? ⟨b, 3, none⟩ = some (.int .i64 h) ∧ w.cell? ⟨b, 4, none⟩ = some (.int .i64 mi) ∧ w.cell? ⟨b, 5, none⟩ = some (.int .i64 s) ∧ b < w.heap.size :=
  ⟨(of_heap x 0).1, (of_heap x 1).1, (of_heap x 2).1, (of_heap x 3).1, (of_heap x 4).1, (of_heap x 5).1, (of_heap x 0).2.2⟩
theorem DateAt.frozen {b : Nat} {Y Mo D h mi s : Int} {w : World} (x : DateAt b Y Mo D h mi s w) : w.frozen? ⟨b, 0, none⟩ = false ∧ w.frozen? ⟨b, 1, none⟩ = false ∧ w.frozen? ⟨b, 2, none⟩ = false ∧ w.frozen? ⟨b, 3, none⟩ = false ∧ w.frozen? ⟨b, 4, none⟩ = false ∧ w.frozen? ⟨b, 5, none⟩ = false :=
  ⟨(of_heap x 0).2.1, (of_heap x 1).2.1, (of_heap x 2).2.1, (of_heap x 3).2.1, (of_heap x 4).2.1, (of_heap x 5).2.1⟩
theorem DateAt.below {b : Nat} {Y Mo D h mi s : Int} {w w' : World} (x : DateAt b Y Mo D h mi s w) (hb : Below w.heap.size w w') : DateAt b Y Mo D h mi s w' := (hb.block b x.cells.2.2.2.2.2.2).trans x
theorem DateAt.set0 {b : Nat} {Y Mo D h mi s : Int} {w : World} (x : DateAt b Y Mo D h mi s w) (v : Int) : DateAt b v Mo D h mi s (w.setCell ⟨b, 0, none⟩ (.int .i64 v)) := by
  unfold DateAt at *
  have := heap_setN (j := 0) (v := .int .i64 v) x
  simpa using this
theorem DateAt.set1 {b : Nat} {Y Mo D h mi s : Int} {w : World} (x : DateAt b Y Mo D h mi s w) (v : Int) : DateAt b Y v D h mi s (w.setCell ⟨b, 1, none⟩ (.int .i64 v)) := by
  unfold DateAt at *
  have := heap_setN (j := 1) (v := .int .i64 v) x
  simpa using this
theorem DateAt.set2 {b : Nat} {Y Mo D h mi s : Int} {w : World} (x : DateAt b Y Mo D h mi s w) (v : Int) : DateAt b Y Mo v h mi s (w.setCell ⟨b, 2, none⟩ (.int .i64 v)) := by
  unfold DateAt at *
  have := heap_setN (j := 2) (v := .int .i64 v) x
  simpa using this
theorem DateAt.oth {b : Nat} {Y Mo D h mi s : Int} {w : World} (x : DateAt b Y Mo D h mi s w) {c j : Nat} {v : Value} (hc : b ≠ c) : DateAt b Y Mo D h mi s (w.setCell ⟨c, j, none⟩ v) := (Below.heap_setCell w ⟨c, j, none⟩ v b hc).trans x
theorem dahead_mono {a b : Int} (h : a ≤ b) : dahead a ≤ dahead b := by unfold dahead; omega
theorem dyear_one (N y : Int) (hN : 0 ≤ N ∧ N ≤ 2932896) (_hy : 1970 ≤ y) (h1 : dahead y ≤ N) (h2 : N < dahead (y + 1)) : (dyearO N).1 = y := by
  have h := dyear_end 9000 N (1970 + N / 366) (by omega) (by omega) (by have := (dahead_ge (1970 + N / 366) (by omega)).2; omega)
  show dyear 9000 N (1970 + N / 366) = y
  generalize dyear 9000 N (1970 + N / 366) = Y at *
  rcases Int.lt_trichotomy Y y with hl | hl | hl
  · have := dahead_mono (a := Y + 1) (b := y) (by omega); omega
  · exact hl
  · have := dahead_mono (a := y + 1) (b := Y) (by omega); omega
set_option maxHeartbeats 16000000 in
theorem iof_any (t : Int) (ht : 0 ≤ t ∧ t ≤ 253402300799) (w : World) :
    Calls Tryz.prog 157 #[.int .i64 t] w fun e w' => ∃ mo da hh mm ss : Int, e = .returned (.agg #[.int .i64 (dyearO (t / 86400)).1, .int .i64 mo, .int .i64 da, .int .i64 hh, .int .i64 mm, .int .i64 ss]) ∧ Below w.heap.size w w' := by
  obtain ⟨N, hN⟩ : ∃ N, t / 86400 = N := ⟨_, rfl⟩
  obtain ⟨S, hS⟩ : ∃ S, t % 86400 = S := ⟨_, rfl⟩
  have hNb : 0 ≤ N ∧ N ≤ 2932896 := by omega
  have hSb : 0 ≤ S ∧ S < 86400 := by omega
  have e1 : t.tdiv 86400 = N := by rw [Int.tdiv_eq_ediv_of_nonneg ht.1]; exact hN
  have e2 : t.tmod 86400 = S := by rw [Int.tmod_eq_emod_of_nonneg ht.1]; exact hS
  have w1 : IntKind.i64.wrap N = N := by rw [IntKind.wrap_i64]; omega
  have w2 : IntKind.i64.wrap S = S := by rw [IntKind.wrap_i64]; omega
  obtain ⟨s1, hs1⟩ : ∃ x, S.tdiv 3600 = x := ⟨_, rfl⟩
  obtain ⟨s2, hs2⟩ : ∃ x, S.tdiv 60 = x := ⟨_, rfl⟩
  obtain ⟨s3, hs3⟩ : ∃ x, s2.tmod 60 = x := ⟨_, rfl⟩
  obtain ⟨s4, hs4⟩ : ∃ x, S.tmod 60 = x := ⟨_, rfl⟩
  have g1 : 0 ≤ s1 ∧ s1 ≤ 86400 := by rw [Int.tdiv_eq_ediv_of_nonneg hSb.1] at hs1; omega
  have g2 : 0 ≤ s2 ∧ s2 ≤ 86400 := by rw [Int.tdiv_eq_ediv_of_nonneg hSb.1] at hs2; omega
  have w3 : IntKind.i64.wrap s1 = s1 := by rw [IntKind.wrap_i64]; omega
  have w4 : IntKind.i64.wrap s2 = s2 := by rw [IntKind.wrap_i64]; omega
  have hdec : dahead 1970 = 0 := by decide
  rw [hN]
  clear hN hS
  obtain ⟨W1, hW1⟩ : ∃ W, w.alloc (.cells #[.int .i64 0, .int .i64 0, .int .i64 0, .int .i64 0, .int .i64 0, .int .i64 0] 122) = W := ⟨_, rfl⟩
  have b1 : Below w.heap.size w W1 := by rw [← hW1]; exact (Below.refl w.heap.size w).alloc (Nat.le_refl _) _
  have z1 : W1.heap.size = w.heap.size + 1 := by rw [← hW1]; simp
  have x1 : DateAt w.heap.size 0 0 0 0 0 0 W1 := by rw [← hW1]; exact heap_new w _ _ rfl
  obtain ⟨W2, hW2⟩ : ∃ W, W1.alloc (.cells #[.int .i64 1970, .int .i64 1, .int .i64 0, .int .i64 s1, .int .i64 s3, .int .i64 s4] 122) = W := ⟨_, rfl⟩
  have b2 : Below W1.heap.size W1 W2 := by rw [← hW2]; exact (Below.refl W1.heap.size W1).alloc (Nat.le_refl _) _
  have x2 : DateAt (w.heap.size + 1) 1970 1 0 s1 s3 s4 W2 := by rw [← hW2]; exact heap_new W1 _ _ z1
  have y1 := x1.below b2
  have hB2 := bt b1 b2
  have hWW : (w.alloc (.cells #[.int .i64 0, .int .i64 0, .int .i64 0, .int .i64 0, .int .i64 0, .int .i64 0] 122)).alloc (.cells #[.int .i64 1970, .int .i64 1, .int .i64 0, .int .i64 s1, .int .i64 s3, .int .i64 s4] 122) = W2 := by rw [hW1]; exact hW2
  have HWW := Lib.hid hWW; have X2 := Lib.hid x2; have Y1 := Lib.hid y1; have HB2 := Lib.hid hB2
  clear hW1 hW2 x1 x2 y1 hB2 b1 b2 z1 hWW ht
  go_enter Tryz.func157, Tryz.ntmps157
  go_wp2_with fail
  rw [HWW.out]
  go_loopw [3] (fun n wr => ∃ (y z : Int), 1970 ≤ y ∧ y ≤ 10000 ∧ n = .int .i64 z ∧ Hid (z = N - dahead y) ∧ 0 ≤ z ∧ z ≤ 3000000 ∧ Hid (DateAt (w.heap.size + 1) y 1 0 s1 s3 s4 wr) ∧ Hid (DateAt w.heap.size 0 0 0 0 0 0 wr) ∧ Hid (Below w.heap.size w wr)) (fun n _ => (intOf n).toNat)
  case atStart => exact ⟨1970, N, by omega, by omega, rfl, Lib.hid (by rw [hdec]; omega), by omega, by omega, X2, Y1, HB2⟩
  case round =>
    clear X2 Y1 HB2
    obtain ⟨y, z, hy1, hy2, rfl, HZ, hz0, hz1, HD, HR, HB⟩ := hrel
    have hz := HZ.out
    have hge := dahead_ge y hy1
    have hup := dahead_leap y
    obtain ⟨d0, d1, d2, d3, d4, d5, dl⟩ := HD.out.cells
    obtain ⟨q0, q1, q2, q3, q4, q5⟩ := HD.out.frozen
    have kl := ileap_any y (by omega) wr
    have hyw : IntKind.i64.wrap (y + 1) = y + 1 := by rw [IntKind.wrap_i64]; omega
    cases hb : dleap y
    all_goals (
      rw [hb] at kl hup
      simp only [Bool.false_eq_true, if_false, if_pos] at hup
      have hlb := hb
      have KL := Lib.hid kl
      clear kl hb)
    · by_cases hlt : z < 365
      · have t1 : decide (z < 365) = true := by simpa using hlt
        have hyo := dyear_one N y hNb hy1 (by omega) (by omega)
        have hzb : z < dmons y 12 := by rw [dmons_12, hlb]; rw [if_neg (by simp)]; omega
        have HYO := Lib.hid hyo
        have HZB := Lib.hid hzb
        clear hup hge hyo hlb hz hzb
        go_wp2_with fail
        (with_reducible refine KL.out.mono ?_)
        rintro e wq ⟨rfl, rfl⟩
        go_wp2_with fail
        obtain ⟨wo, rfl⟩ : ∃ wo : World, wo = wq := ⟨_, rfl⟩
        clear d0 d1 d2 d3 d4 d5 dl q0 q1 q2 q3 q4 q5
        go_loopw [3] (fun n wr => ∃ (m : Nat) (v : Int), m < 12 ∧ n = .int .i64 v ∧ Hid (v = z - dmons y m) ∧ 0 ≤ v ∧ v ≤ 3000000 ∧ Hid (DateAt (w.heap.size + 1) y ((m : Int) + 1) 0 s1 s3 s4 wr) ∧ Hid (DateAt w.heap.size 0 0 0 0 0 0 wr) ∧ Hid (Below w.heap.size w wr)) (fun n _ => (intOf n).toNat)
        case atStart => exact ⟨0, z, by omega, rfl, Lib.hid (by simp [dmons]), by omega, by omega, HD, HR, HB⟩
        case round =>
          clear HD HR HB
          obtain ⟨m, v, hm, rfl, HV, hv0, hv1, HD, HR, HB⟩ := hrel
          obtain ⟨d0, d1, d2, d3, d4, d5, dl⟩ := HD.out.cells
          have kd := fun W => idays_any y ((m : Int) + 1) (by omega) (by omega) W
          have hst : dmons y (m + 1) = dmons y m + dlong y ((m : Int) + 1) := rfl
          have hlen := dlong_le y ((m : Int) + 1)
          generalize hL : dlong y ((m : Int) + 1) = L at *
          by_cases hge : L ≤ v
          · have hm2 : m + 1 < 12 := by
              rcases (by omega : m + 1 < 12 ∨ m = 11) with h | h
              · exact h
              · exfalso
                subst h
                have h1 := HV.out; have h2 := HZB.out
                have h3 : dmons y 12 = dmons y 11 + L := hst
                omega
            have t2 : decide (v ≥ L) = true := by simpa using hge
            have t3 : decide (L ≤ v) = true := by simpa using hge
            have hvw : IntKind.i64.wrap (v - L) = v - L := by rw [IntKind.wrap_i64]; omega
            have hmw : IntKind.i64.wrap ((m : Int) + 1 + 1) = ((m + 1 : Nat) : Int) + 1 := by rw [IntKind.wrap_i64]; omega
            have HV2 : Hid (v - L = z - dmons y (m + 1)) := Lib.hid (by have := HV.out; omega)
            have KD := Lib.hid kd
            clear kd hst hL HV
            go_wp2_with fail
            (with_reducible refine (KD.out _).mono ?_)
            rintro e w2 ⟨rfl, hb2⟩
            have HD2 := Lib.hid (HD.out.below hb2)
            clear d0 d1 d2 d3 d4 d5 dl
            obtain ⟨d0, d1, d2, d3, d4, d5, dl⟩ := HD2.out.cells
            go_wp2_with fail
            (with_reducible refine (KD.out _).mono ?_)
            rintro e w3 ⟨rfl, hb3⟩
            have HD3 := Lib.hid (HD2.out.below hb3)
            have HR3 := Lib.hid ((HR.out.below hb2).below hb3)
            have HB3 := Lib.hid (bt (bt HB.out hb2) hb3)
            clear d0 d1 d2 d3 d4 d5 dl HD HD2 HR HB hb2 hb3
            obtain ⟨d0, d1, d2, d3, d4, d5, dl⟩ := HD3.out.cells
            obtain ⟨q0, q1, q2, q3, q4, q5⟩ := HD3.out.frozen
            have HD4 := Lib.hid (HD3.out.set1 (((m + 1 : Nat) : Int) + 1)); have HR4 := Lib.hid (HR3.out.oth (c := w.heap.size + 1) (j := 1) (v := .int .i64 (((m + 1 : Nat) : Int) + 1)) (by omega)); have HB4 := Lib.hid (HB3.out.setCell (p := ⟨w.heap.size + 1, 1, none⟩) (Nat.le_succ _) (.int .i64 (((m + 1 : Nat) : Int) + 1)))
            go_wp2
            go_roundw
            case rel => exact ⟨m + 1, v - L, hm2, rfl, HV2, by omega, by omega, HD4, HR4, HB4⟩
            case measure => simp [intOf]; omega
          · have t2 : decide (v ≥ L) = false := by simpa using hge
            have t3 : decide (L ≤ v) = false := by simpa using hge
            have hvw : IntKind.i64.wrap (v + 1) = v + 1 := by rw [IntKind.wrap_i64]; omega
            have KD := Lib.hid kd
            clear kd hst hL HV
            go_wp2_with fail
            (with_reducible refine (KD.out _).mono ?_)
            rintro e w2 ⟨rfl, hb2⟩
            have HD2 := Lib.hid (HD.out.below hb2)
            have HR2 := Lib.hid (HR.out.below hb2)
            have HB2 := Lib.hid (bt HB.out hb2)
            clear d0 d1 d2 d3 d4 d5 dl HD HR HB hb2
            obtain ⟨d0, d1, d2, d3, d4, d5, dl⟩ := HD2.out.cells
            obtain ⟨q0, q1, q2, q3, q4, q5⟩ := HD2.out.frozen
            go_upto_region 14 with (fail)
            have HD3 := Lib.hid (HD2.out.set2 (v + 1)); have HR3 := Lib.hid (HR2.out.oth (c := w.heap.size + 1) (j := 2) (v := .int .i64 (v + 1)) (by omega)); have HB3 := Lib.hid (HB2.out.setCell (p := ⟨w.heap.size + 1, 2, none⟩) (Nat.le_succ _) (.int .i64 (v + 1)))
            obtain ⟨WZ, hWZ⟩ : ∃ W, w2.setCell ⟨w.heap.size + 1, 2, none⟩ (.int .i64 (v + 1)) = W := ⟨_, rfl⟩
            rw [hWZ] at HD3 HR3 HB3
            have HWZ := Lib.hid hWZ
            clear d0 d1 d2 d3 d4 d5 dl q0 q1 q2 q3 q4 q5 hWZ HD2 HR2 HB2
            rw [HWZ.out]
            obtain ⟨d0, d1, d2, d3, d4, d5, dl⟩ := HD3.out.cells
            obtain ⟨g0, g1, g2, g3, g4, g5, gl⟩ := HR3.out.cells
            obtain ⟨q0, q1, q2, q3, q4, q5⟩ := HR3.out.frozen
            go_wp2_with fail
            refine bodyPost_ret_by (v := .agg #[.int .i64 y, .int .i64 ((m : Int) + 1), .int .i64 (v + 1), .int .i64 s1, .int .i64 s3, .int .i64 s4]) ?_ rfl ?_
            · rw [results_cell_one rfl]
              go_simp
            · exact ⟨(m : Int) + 1, v + 1, s1, s3, s4, by rw [HYO.out], (((((HB3.out.setCell (p := ⟨w.heap.size, 0, none⟩) (Nat.le_refl _) _).setCell (p := ⟨w.heap.size, 1, none⟩) (Nat.le_refl _) _).setCell (p := ⟨w.heap.size, 2, none⟩) (Nat.le_refl _) _).setCell (p := ⟨w.heap.size, 3, none⟩) (Nat.le_refl _) _).setCell (p := ⟨w.heap.size, 4, none⟩) (Nat.le_refl _) _).setCell (p := ⟨w.heap.size, 5, none⟩) (Nat.le_refl _) _⟩
      · have t1 : decide (z < 365) = false := by simpa using hlt
        have hzw : IntKind.i64.wrap (z - 365) = z - 365 := by rw [IntKind.wrap_i64]; omega
        have HZ2 : Hid (z - 365 = N - dahead (y + 1)) := Lib.hid (by omega)
        have hy3 : y + 1 ≤ 10000 := by
          rcases (by omega : y + 1 ≤ 10000 ∨ y = 10000) with h | h
          · exact h
          · exfalso
            subst h
            have h9 : dahead 10000 = 2932897 := by decide
            omega
        have HD2 := Lib.hid (HD.out.set0 (y + 1)); have HR2 := Lib.hid (HR.out.oth (c := w.heap.size + 1) (j := 0) (v := .int .i64 (y + 1)) (by omega)); have HB2 := Lib.hid (HB.out.setCell (p := ⟨w.heap.size + 1, 0, none⟩) (Nat.le_succ _) (.int .i64 (y + 1)))
        clear hup hge HZ hz hlb
        go_wp2_with fail
        (with_reducible refine KL.out.mono ?_)
        rintro e wq ⟨rfl, rfl⟩
        go_wp2
        go_roundw
        case rel => exact ⟨y + 1, z - 365, by omega, hy3, rfl, HZ2, by omega, by omega, HD2, HR2, HB2⟩
        case measure => simp [intOf]; omega
    · by_cases hlt : z < 366
      · have t1 : decide (z < 366) = true := by simpa using hlt
        have hyo := dyear_one N y hNb hy1 (by omega) (by omega)
        have hzb : z < dmons y 12 := by rw [dmons_12, hlb]; rw [if_pos rfl]; omega
        have HYO := Lib.hid hyo
        have HZB := Lib.hid hzb
        clear hup hge hyo hlb hz hzb
        go_wp2_with fail
        (with_reducible refine KL.out.mono ?_)
        rintro e wq ⟨rfl, rfl⟩
        go_wp2_with fail
        obtain ⟨wo, rfl⟩ : ∃ wo : World, wo = wq := ⟨_, rfl⟩
        clear d0 d1 d2 d3 d4 d5 dl q0 q1 q2 q3 q4 q5
        go_loopw [3] (fun n wr => ∃ (m : Nat) (v : Int), m < 12 ∧ n = .int .i64 v ∧ Hid (v = z - dmons y m) ∧ 0 ≤ v ∧ v ≤ 3000000 ∧ Hid (DateAt (w.heap.size + 1) y ((m : Int) + 1) 0 s1 s3 s4 wr) ∧ Hid (DateAt w.heap.size 0 0 0 0 0 0 wr) ∧ Hid (Below w.heap.size w wr)) (fun n _ => (intOf n).toNat)
        case atStart => exact ⟨0, z, by omega, rfl, Lib.hid (by simp [dmons]), by omega, by omega, HD, HR, HB⟩
        case round =>
          clear HD HR HB
          obtain ⟨m, v, hm, rfl, HV, hv0, hv1, HD, HR, HB⟩ := hrel
          obtain ⟨d0, d1, d2, d3, d4, d5, dl⟩ := HD.out.cells
          have kd := fun W => idays_any y ((m : Int) + 1) (by omega) (by omega) W
          have hst : dmons y (m + 1) = dmons y m + dlong y ((m : Int) + 1) := rfl
          have hlen := dlong_le y ((m : Int) + 1)
          generalize hL : dlong y ((m : Int) + 1) = L at *
          by_cases hge : L ≤ v
          · have hm2 : m + 1 < 12 := by
              rcases (by omega : m + 1 < 12 ∨ m = 11) with h | h
              · exact h
              · exfalso
                subst h
                have h1 := HV.out; have h2 := HZB.out
                have h3 : dmons y 12 = dmons y 11 + L := hst
                omega
            have t2 : decide (v ≥ L) = true := by simpa using hge
            have t3 : decide (L ≤ v) = true := by simpa using hge
            have hvw : IntKind.i64.wrap (v - L) = v - L := by rw [IntKind.wrap_i64]; omega
            have hmw : IntKind.i64.wrap ((m : Int) + 1 + 1) = ((m + 1 : Nat) : Int) + 1 := by rw [IntKind.wrap_i64]; omega
            have HV2 : Hid (v - L = z - dmons y (m + 1)) := Lib.hid (by have := HV.out; omega)
            have KD := Lib.hid kd
            clear kd hst hL HV
            go_wp2_with fail
            (with_reducible refine (KD.out _).mono ?_)
            rintro e w2 ⟨rfl, hb2⟩
            have HD2 := Lib.hid (HD.out.below hb2)
            clear d0 d1 d2 d3 d4 d5 dl
            obtain ⟨d0, d1, d2, d3, d4, d5, dl⟩ := HD2.out.cells
            go_wp2_with fail
            (with_reducible refine (KD.out _).mono ?_)
            rintro e w3 ⟨rfl, hb3⟩
            have HD3 := Lib.hid (HD2.out.below hb3)
            have HR3 := Lib.hid ((HR.out.below hb2).below hb3)
            have HB3 := Lib.hid (bt (bt HB.out hb2) hb3)
            clear d0 d1 d2 d3 d4 d5 dl HD HD2 HR HB hb2 hb3
            obtain ⟨d0, d1, d2, d3, d4, d5, dl⟩ := HD3.out.cells
            obtain ⟨q0, q1, q2, q3, q4, q5⟩ := HD3.out.frozen
            have HD4 := Lib.hid (HD3.out.set1 (((m + 1 : Nat) : Int) + 1)); have HR4 := Lib.hid (HR3.out.oth (c := w.heap.size + 1) (j := 1) (v := .int .i64 (((m + 1 : Nat) : Int) + 1)) (by omega)); have HB4 := Lib.hid (HB3.out.setCell (p := ⟨w.heap.size + 1, 1, none⟩) (Nat.le_succ _) (.int .i64 (((m + 1 : Nat) : Int) + 1)))
            go_wp2
            go_roundw
            case rel => exact ⟨m + 1, v - L, hm2, rfl, HV2, by omega, by omega, HD4, HR4, HB4⟩
            case measure => simp [intOf]; omega
          · have t2 : decide (v ≥ L) = false := by simpa using hge
            have t3 : decide (L ≤ v) = false := by simpa using hge
            have hvw : IntKind.i64.wrap (v + 1) = v + 1 := by rw [IntKind.wrap_i64]; omega
            have KD := Lib.hid kd
            clear kd hst hL HV
            go_wp2_with fail
            (with_reducible refine (KD.out _).mono ?_)
            rintro e w2 ⟨rfl, hb2⟩
            have HD2 := Lib.hid (HD.out.below hb2)
            have HR2 := Lib.hid (HR.out.below hb2)
            have HB2 := Lib.hid (bt HB.out hb2)
            clear d0 d1 d2 d3 d4 d5 dl HD HR HB hb2
            obtain ⟨d0, d1, d2, d3, d4, d5, dl⟩ := HD2.out.cells
            obtain ⟨q0, q1, q2, q3, q4, q5⟩ := HD2.out.frozen
            go_upto_region 14 with (fail)
            have HD3 := Lib.hid (HD2.out.set2 (v + 1)); have HR3 := Lib.hid (HR2.out.oth (c := w.heap.size + 1) (j := 2) (v := .int .i64 (v + 1)) (by omega)); have HB3 := Lib.hid (HB2.out.setCell (p := ⟨w.heap.size + 1, 2, none⟩) (Nat.le_succ _) (.int .i64 (v + 1)))
            obtain ⟨WZ, hWZ⟩ : ∃ W, w2.setCell ⟨w.heap.size + 1, 2, none⟩ (.int .i64 (v + 1)) = W := ⟨_, rfl⟩
            rw [hWZ] at HD3 HR3 HB3
            have HWZ := Lib.hid hWZ
            clear d0 d1 d2 d3 d4 d5 dl q0 q1 q2 q3 q4 q5 hWZ HD2 HR2 HB2
            rw [HWZ.out]
            obtain ⟨d0, d1, d2, d3, d4, d5, dl⟩ := HD3.out.cells
            obtain ⟨g0, g1, g2, g3, g4, g5, gl⟩ := HR3.out.cells
            obtain ⟨q0, q1, q2, q3, q4, q5⟩ := HR3.out.frozen
            go_wp2_with fail
            refine bodyPost_ret_by (v := .agg #[.int .i64 y, .int .i64 ((m : Int) + 1), .int .i64 (v + 1), .int .i64 s1, .int .i64 s3, .int .i64 s4]) ?_ rfl ?_
            · rw [results_cell_one rfl]
              go_simp
            · exact ⟨(m : Int) + 1, v + 1, s1, s3, s4, by rw [HYO.out], (((((HB3.out.setCell (p := ⟨w.heap.size, 0, none⟩) (Nat.le_refl _) _).setCell (p := ⟨w.heap.size, 1, none⟩) (Nat.le_refl _) _).setCell (p := ⟨w.heap.size, 2, none⟩) (Nat.le_refl _) _).setCell (p := ⟨w.heap.size, 3, none⟩) (Nat.le_refl _) _).setCell (p := ⟨w.heap.size, 4, none⟩) (Nat.le_refl _) _).setCell (p := ⟨w.heap.size, 5, none⟩) (Nat.le_refl _) _⟩
      · have t1 : decide (z < 366) = false := by simpa using hlt
        have hzw : IntKind.i64.wrap (z - 366) = z - 366 := by rw [IntKind.wrap_i64]; omega
        have HZ2 : Hid (z - 366 = N - dahead (y + 1)) := Lib.hid (by omega)
        have hy3 : y + 1 ≤ 10000 := by
          rcases (by omega : y + 1 ≤ 10000 ∨ y = 10000) with h | h
          · exact h
          · exfalso
            subst h
            have h9 : dahead 10000 = 2932897 := by decide
            omega
        have HD2 := Lib.hid (HD.out.set0 (y + 1)); have HR2 := Lib.hid (HR.out.oth (c := w.heap.size + 1) (j := 0) (v := .int .i64 (y + 1)) (by omega)); have HB2 := Lib.hid (HB.out.setCell (p := ⟨w.heap.size + 1, 0, none⟩) (Nat.le_succ _) (.int .i64 (y + 1)))
        clear hup hge HZ hz hlb
        go_wp2_with fail
        (with_reducible refine KL.out.mono ?_)
        rintro e wq ⟨rfl, rfl⟩
        go_wp2
        go_roundw
        case rel => exact ⟨y + 1, z - 366, by omega, hy3, rfl, HZ2, by omega, by omega, HD2, HR2, HB2⟩
        case measure => simp [intOf]; omega
set_option maxHeartbeats 8000000 in
theorem inear_any (dg now : Int) (hd : 0 ≤ dg ∧ dg ≤ 99) (w : World) :
    Calls Tryz.prog 104 #[.int .i64 dg, .int .i64 now] w fun e w' => e = .returned (.int .i64 (rnear dg now)) ∧ Below w.heap.size w w' := by
  obtain ⟨T, hT⟩ : ∃ T, max 0 (min now 253402300799) = T := ⟨_, rfl⟩
  have hTb : 0 ≤ T ∧ T ≤ 253402300799 := by omega
  have ko := fun W => iof_any T hTb W
  have hok := dyearO_ok (T / 86400) (by omega)
  have hr0 : rnear dg now = ((dyearO (T / 86400)).1 + 50) - ((dyearO (T / 86400)).1 + 50 - dg) % 100 := by unfold rnear dnow; rw [hT]
  rw [hr0]
  generalize (dyearO (T / 86400)).1 = Y at *
  have hY : 1970 ≤ Y ∧ Y ≤ 9999 := ⟨hok.1, hok.2.1⟩
  obtain ⟨q, hq⟩ : ∃ q : Nat, (Y + 50 - dg) % 100 = q := ⟨((Y + 50 - dg) % 100).toNat, by omega⟩
  rw [hq]
  have hq2 : q < 100 := by omega
  have hw1 : IntKind.i64.wrap (Y + 50) = Y + 50 := by rw [IntKind.wrap_i64]; omega
  have HQ := Lib.hid hq
  have KO := Lib.hid ko
  clear hr0 hok hq ko
  have key : ∀ x : Int, x = T → (∀ W, Below w.heap.size w W → True) → True := fun _ _ _ => trivial
  clear key
  have main : ∀ b1 b2 : Bool, decide (now < 0) = b1 → decide ((bif b1 then 0 else now) > 253402300799) = b2 → (bif b2 then 253402300799 else (bif b1 then 0 else now)) = T → Calls Tryz.prog 104 #[.int .i64 dg, .int .i64 now] w fun e w' => e = .returned (.int .i64 (Y + 50 - q)) ∧ Below w.heap.size w w' := by
    intro b1 b2 t1 t2 t3
    cases b1 <;> cases b2
    all_goals simp only [cond_true, cond_false] at t2 t3
    all_goals try (simp at t2; done)
    all_goals (
      subst t3
      clear hT
      go_enter Tryz.func104, Tryz.ntmps104
      go_wp2_with fail
      (with_reducible refine (KO.out _).mono ?_)
      rintro e w2 ⟨mo, da, hh, mm, ss, rfl, hb2⟩
      have hfd : ∀ w : World, (Instr.field 122 (.agg #[.int .i64 Y, .int .i64 mo, .int .i64 da, .int .i64 hh, .int .i64 mm, .int .i64 ss]) 0).run Tryz.prog w = .ok (.int .i64 Y) w := fun _ => by kernel_rfl
      go_wp2_with fail
      go_loopw [5] (fun v wr => ∃ j : Nat, j ≤ q ∧ v = .int .i64 (Y + 50 - j) ∧ wr = w2) (fun v _ => (intOf v).toNat)
      case atStart => exact ⟨0, Nat.zero_le _, by simp, rfl⟩
      case round =>
        obtain ⟨j, hj, rfl, rfl⟩ := hrel
        have e1 : (Y + 50 - (j : Int)).tmod 100 = (Y + 50 - (j : Int)) % 100 := Int.tmod_eq_emod_of_nonneg (by omega)
        have hqq := HQ.out
        by_cases he : j < q
        · have t5 : ((Y + 50 - (j : Int)) % 100 == dg) = false := by rw [beq_eq_false_iff_ne]; omega
          have t6 : ((Y + 50 - (j : Int)) % 100 != dg) = true := by simp [bne, t5]
          have t7 : ((Y + 50 - (j : Int)).tmod 100 == dg) = false := by rw [e1]; exact t5
          have t8 : ((Y + 50 - (j : Int)).tmod 100 != dg) = true := by simp [bne, t7]
          have hw2 : IntKind.i64.wrap (Y + 50 - (j : Int) - 1) = Y + 50 - ((j + 1 : Nat) : Int) := by rw [IntKind.wrap_i64]; omega
          clear e1 hqq
          go_wp2
          go_roundw
          case rel => exact ⟨j + 1, he, rfl, trivial⟩
          case measure => simp [intOf]; omega
        · have hje : j = q := by omega
          subst hje
          have t5 : ((Y + 50 - (j : Int)) % 100 == dg) = true := by rw [beq_iff_eq]; omega
          have t6 : ((Y + 50 - (j : Int)) % 100 != dg) = false := by simp [bne, t5]
          have t7 : ((Y + 50 - (j : Int)).tmod 100 == dg) = true := by rw [e1]; exact t5
          have t8 : ((Y + 50 - (j : Int)).tmod 100 != dg) = false := by simp [bne, t7]
          clear e1 hqq
          go_wp2
          go_ret
          exact ⟨rfl, hb2⟩)
  refine main _ _ rfl rfl ?_
  by_cases h1 : now < 0
  · have : decide (now < 0) = true := by simpa using h1
    rw [this, cond_true, show decide ((0 : Int) > 253402300799) = false from by decide, cond_false]; omega
  · have : decide (now < 0) = false := by simpa using h1
    rw [this, cond_false]
    by_cases h2 : now > 253402300799
    · have : decide (now > 253402300799) = true := by simpa using h2
      rw [this, cond_true]; omega
    · have : decide (now > 253402300799) = false := by simpa using h2
      rw [this, cond_false]; omega
end Go.Proofs.YtcgdcbnhpbokfaaGreatDoor
/- The document's dates: the walk of Parse (printed by wip/tools/rwalkc.py). -/
namespace Go.Proofs.YtcgdcbnhpbokfaaGreatDoor
open Go.RowKit
set_option maxRecDepth 100000

theorem imonthI_any (s : ByteArray) (i : Int) (a : Nat) (hi : i = a) (ha : a ≤ 1000000000) (w : World) :
    Calls Tryz.prog 99 #[.string s, .int .i64 i] w fun e w' => e = .returned (.int .i64 (rmonth s.data.toList a)) ∧ Below w.heap.size w w' := by
  subst hi
  exact imonth_any s a ha w
theorem comma_in : ∀ (l : List UInt8) (k : Nat) (_ : k < (l.takeWhile (· != 44)).length), ∃ h2 : k < l.length, l[k] ≠ 44
  | [], k, h => by simp at h
  | x :: r, k, h => by
    by_cases hx : x = 44
    · subst hx; simp at h
    · rw [List.takeWhile_cons_of_pos (by simpa using hx)] at h
      match k with
      | 0 => exact ⟨by simp, by simpa using hx⟩
      | k + 1 =>
        obtain ⟨h2, h3⟩ := comma_in r k (by simpa using h)
        exact ⟨by simpa using h2, by simpa using h3⟩
theorem comma_end : ∀ (l : List UInt8) (_ : (l.takeWhile (· != 44)).length < l.length), l[(l.takeWhile (· != 44)).length] = 44
  | [], h => by simp at h
  | x :: r, h => by
    by_cases hx : x = 44
    · subst hx; simp
    · have e : (x :: r).takeWhile (· != 44) = x :: r.takeWhile (· != 44) := List.takeWhile_cons_of_pos (by simpa using hx)
      have h' : (r.takeWhile (· != 44)).length < r.length := by rw [e] at h; simpa using h
      have := comma_end r h'
      simp only [e, List.length_cons, List.getElem_cons_succ]
      exact this
theorem comma_le (l : List UInt8) : (l.takeWhile (· != 44)).length ≤ l.length := by
  have := List.takeWhile_append_dropWhile (p := fun x : UInt8 => x != 44) (l := l)
  have h := congrArg List.length this
  rw [List.length_append] at h
  omega
set_option maxHeartbeats 64000000 in
theorem iparse_any (s : ByteArray) (now : Int) (hs : s.size ≤ 1000000) (w : World) :
    Calls Tryz.prog 45 #[.string s, .int .i64 now] w fun e w' => e = .returned (.tuple #[.int .i64 (rparse s.data.toList now).1, .int .i64 (rparse s.data.toList now).2]) ∧ Below w.heap.size w w' := by
  obtain ⟨R, hR⟩ : ∃ R, rparse s.data.toList now = R := ⟨_, rfl⟩
  rw [hR]
  unfold rparse rdA rdB rdC rdE at hR
  have hln : s.data.toList.length = s.size := (Lib.size_eq s).symm
  have hcle := comma_le s.data.toList
  have hcin : ∀ k (h : k < rcomma s.data.toList), ∃ h2 : k < s.size, s[k].toNat ≠ 44 := fun k h => by
    obtain ⟨h2, h3⟩ := comma_in s.data.toList k h
    refine ⟨by omega, fun e => h3 ?_⟩
    rw [← UInt8.toNat_inj]
    exact e
  have hcend : ∀ h : rcomma s.data.toList < s.size, s[rcomma s.data.toList].toNat = 44 := fun h => by
    have := comma_end s.data.toList (by show rcomma s.data.toList < _; omega)
    have h2 : s[rcomma s.data.toList] = 44 := this
    rw [h2]; rfl
  have hcs : rcomma s.data.toList ≤ s.size := by rw [← hln]; exact hcle
  clear hcle
  have hsh := rnum_hi2 s.data.toList (rcomma s.data.toList + 9)
  have ka1 := fun W => inumI_any s 5 2 5 2 rfl rfl (by omega) (by omega) W
  have ka2 := fun W => imonthI_any s 8 8 rfl (by omega) W
  have ka3 := fun W => inumI_any s 12 4 12 4 rfl rfl (by omega) (by omega) W
  have ka4 : ∀ Y Mo D W, Calls Tryz.prog 100 #[.agg #[.int .i64 Y, .int .i64 Mo, .int .i64 D, .int .i64 0, .int .i64 0, .int .i64 0], .string s, .int .i64 17] W fun e w' => e = .returned (.agg #[.int .i64 Y, .int .i64 Mo, .int .i64 D, .int .i64 (rnum s.data.toList 17 2), .int .i64 (rnum s.data.toList 20 2), .int .i64 (rnum s.data.toList 23 2)]) ∧ Below W.heap.size W w' := fun Y Mo D W => itime_any Y Mo D 0 0 0 s 17 17 rfl (by omega) W
  have kb0 := fun W => inumI_any s ((rcomma s.data.toList : Int) + 9) 2 (rcomma s.data.toList + 9) 2 (by omega) rfl (by omega) (by omega) W
  have kb1 := fun W => inumI_any s ((rcomma s.data.toList : Int) + 2) 2 (rcomma s.data.toList + 2) 2 (by omega) rfl (by omega) (by omega) W
  have kb2 := fun W => imonthI_any s ((rcomma s.data.toList : Int) + 5) (rcomma s.data.toList + 5) (by omega) (by omega) W
  have kb3 := fun h W => inear_any (rnum s.data.toList (rcomma s.data.toList + 9) 2) now ⟨h, hsh⟩ W
  have kb4 : ∀ Y Mo D W, Calls Tryz.prog 100 #[.agg #[.int .i64 Y, .int .i64 Mo, .int .i64 D, .int .i64 0, .int .i64 0, .int .i64 0], .string s, .int .i64 ((rcomma s.data.toList : Int) + 12)] W fun e w' => e = .returned (.agg #[.int .i64 Y, .int .i64 Mo, .int .i64 D, .int .i64 (rnum s.data.toList (rcomma s.data.toList + 12) 2), .int .i64 (rnum s.data.toList (rcomma s.data.toList + 15) 2), .int .i64 (rnum s.data.toList (rcomma s.data.toList + 18) 2)]) ∧ Below W.heap.size W w' := fun Y Mo D W => itime_any Y Mo D 0 0 0 s ((rcomma s.data.toList : Int) + 12) (rcomma s.data.toList + 12) (by omega) (by omega) W
  have kc1 := fun W => inumI_any s 8 2 8 2 rfl rfl (by omega) (by omega) W
  have kc2 := fun W => imonthI_any s 4 4 rfl (by omega) W
  have kc3 := fun W => inumI_any s 20 4 20 4 rfl rfl (by omega) (by omega) W
  have kc4 : ∀ Y Mo D W, Calls Tryz.prog 100 #[.agg #[.int .i64 Y, .int .i64 Mo, .int .i64 D, .int .i64 0, .int .i64 0, .int .i64 0], .string s, .int .i64 11] W fun e w' => e = .returned (.agg #[.int .i64 Y, .int .i64 Mo, .int .i64 D, .int .i64 (rnum s.data.toList 11 2), .int .i64 (rnum s.data.toList 14 2), .int .i64 (rnum s.data.toList 17 2)]) ∧ Below W.heap.size W w' := fun Y Mo D W => itime_any Y Mo D 0 0 0 s 11 11 rfl (by omega) W
  have ke1 := fun W => inumI_any s 9 1 9 1 rfl rfl (by omega) (by omega) W
  generalize rnum s.data.toList 17 2 = ah at *
  generalize rnum s.data.toList 20 2 = am at *
  generalize rnum s.data.toList 23 2 = as_ at *
  generalize rnum s.data.toList 5 2 = aD at *
  generalize rmonth s.data.toList 8 = aM at *
  generalize rnum s.data.toList 12 4 = aY at *
  generalize rnum s.data.toList (rcomma s.data.toList + 9) 2 = sh at *
  generalize rnum s.data.toList (rcomma s.data.toList + 2) 2 = bD at *
  generalize rmonth s.data.toList (rcomma s.data.toList + 5) = bM at *
  generalize rnum s.data.toList (rcomma s.data.toList + 12) 2 = bh at *
  generalize rnum s.data.toList (rcomma s.data.toList + 15) 2 = bm at *
  generalize rnum s.data.toList (rcomma s.data.toList + 18) 2 = bs at *
  generalize rnear sh now = bY at *
  generalize rnum s.data.toList 8 2 = cD at *
  generalize rmonth s.data.toList 4 = cM at *
  generalize rnum s.data.toList 20 4 = cY at *
  generalize rnum s.data.toList 11 2 = ch at *
  generalize rnum s.data.toList 14 2 = cm_ at *
  generalize rnum s.data.toList 9 1 = eD at *
  generalize rcomma s.data.toList = cm at *
  have hmA := fun W => imay_any aY aM aD ah am as_ W
  have hfA := fun (h : rmay ⟨aY, aM, aD, ah, am, as_⟩ = true) W => ifixed_any aY aM aD ah am as_ h W
  have htA := fun (h : rmay ⟨aY, aM, aD, ah, am, as_⟩ = true) W => itick_any aY aM aD ah am as_ h W
  generalize rmay ⟨aY, aM, aD, ah, am, as_⟩ = mA at *
  generalize rfixed ⟨aY, aM, aD, ah, am, as_⟩ = fA at *
  generalize rtick ⟨aY, aM, aD, ah, am, as_⟩ = tA at *
  have HMA := Lib.hid hmA; have HFA := Lib.hid hfA; have HTA := Lib.hid htA
  clear hmA hfA htA
  have hmB := fun W => imay_any bY bM bD bh bm bs W
  have hfB := fun (h : rmay ⟨bY, bM, bD, bh, bm, bs⟩ = true) W => iold_any bY bM bD bh bm bs h W
  have htB := fun (h : rmay ⟨bY, bM, bD, bh, bm, bs⟩ = true) W => itick_any bY bM bD bh bm bs h W
  generalize rmay ⟨bY, bM, bD, bh, bm, bs⟩ = mB at *
  generalize rold ⟨bY, bM, bD, bh, bm, bs⟩ = fB at *
  generalize rtick ⟨bY, bM, bD, bh, bm, bs⟩ = tB at *
  have HMB := Lib.hid hmB; have HFB := Lib.hid hfB; have HTB := Lib.hid htB
  clear hmB hfB htB
  have hmC := fun W => imay_any cY cM cD ch cm_ ah W
  have hfC := fun (h : rmay ⟨cY, cM, cD, ch, cm_, ah⟩ = true) W => iplainF_any cY cM cD ch cm_ ah h W
  have htC := fun (h : rmay ⟨cY, cM, cD, ch, cm_, ah⟩ = true) W => itick_any cY cM cD ch cm_ ah h W
  generalize rmay ⟨cY, cM, cD, ch, cm_, ah⟩ = mC at *
  generalize rplain ⟨cY, cM, cD, ch, cm_, ah⟩ false = fC at *
  generalize rtick ⟨cY, cM, cD, ch, cm_, ah⟩ = tC at *
  have HMC := Lib.hid hmC; have HFC := Lib.hid hfC; have HTC := Lib.hid htC
  clear hmC hfC htC
  have hmE := fun W => imay_any cY cM eD ch cm_ ah W
  have hfE := fun (h : rmay ⟨cY, cM, eD, ch, cm_, ah⟩ = true) W => iplainT_any cY cM eD ch cm_ ah h W
  have htE := fun (h : rmay ⟨cY, cM, eD, ch, cm_, ah⟩ = true) W => itick_any cY cM eD ch cm_ ah h W
  generalize rmay ⟨cY, cM, eD, ch, cm_, ah⟩ = mE at *
  generalize rplain ⟨cY, cM, eD, ch, cm_, ah⟩ true = fE at *
  generalize rtick ⟨cY, cM, eD, ch, cm_, ah⟩ = tE at *
  have HME := Lib.hid hmE; have HFE := Lib.hid hfE; have HTE := Lib.hid htE
  clear hmE hfE htE
  rw [← Lib.toList_data] at hR
  have HR := Lib.hid hR
  have KA1 := Lib.hid ka1; have KA2 := Lib.hid ka2; have KA3 := Lib.hid ka3; have KA4 := Lib.hid ka4
  have KB0 := Lib.hid kb0; have KB1 := Lib.hid kb1; have KB2 := Lib.hid kb2; have KB3 := Lib.hid kb3; have KB4 := Lib.hid kb4
  have KC1 := Lib.hid kc1; have KC2 := Lib.hid kc2; have KC3 := Lib.hid kc3; have KC4 := Lib.hid kc4; have KE1 := Lib.hid ke1
  have CIN := Lib.hid hcin; have CEND := Lib.hid hcend
  clear hR ka1 ka2 ka3 ka4 kb0 kb1 kb2 kb3 kb4 kc1 kc2 kc3 kc4 ke1 hcin hcend hln
  have w9 : IntKind.i64.wrap ((cm : Int) + 9) = (cm : Int) + 9 := by rw [IntKind.wrap_i64]; omega
  have w2 : IntKind.i64.wrap ((cm : Int) + 2) = (cm : Int) + 2 := by rw [IntKind.wrap_i64]; omega
  have w5 : IntKind.i64.wrap ((cm : Int) + 5) = (cm : Int) + 5 := by rw [IntKind.wrap_i64]; omega
  have w12 : IntKind.i64.wrap ((cm : Int) + 12) = (cm : Int) + 12 := by rw [IntKind.wrap_i64]; omega
  go_enter Tryz.func45, Tryz.ntmps45
  go_wp2_with fail
  (with_reducible refine (KA1.out _).mono ?_)
  rintro e v0 ⟨rfl, hv0⟩
  subst hv0
  go_wp2_with fail
  (with_reducible refine (KA2.out _).mono ?_)
  rintro e v1 ⟨rfl, hv1⟩
  go_wp2_with fail
  (with_reducible refine (KA3.out _).mono ?_)
  rintro e v3 ⟨rfl, hv3⟩
  subst hv3
  go_wp2_with fail
  (with_reducible refine (KA4.out _ _ _ _).mono ?_)
  rintro e v2 ⟨rfl, hv2⟩
  have hv := bt hv1 hv2
  clear hv1 hv2
  obtain ⟨W1, hW1⟩ : ∃ W, v2.alloc (.cells #[.int .i64 aY, .int .i64 aM, .int .i64 aD, .int .i64 ah, .int .i64 am, .int .i64 as_] 122) = W := ⟨_, rfl⟩
  have bW1 : Below v2.heap.size v2 W1 := by rw [← hW1]; exact (Below.refl v2.heap.size v2).alloc (Nat.le_refl _) _
  have xW1 : DateAt v2.heap.size aY aM aD ah am as_ W1 := by rw [← hW1]; exact heap_new v2 _ _ rfl
  have XW1 := Lib.hid xW1; have HBW1 := Lib.hid (bt hv bW1); have HW1 := Lib.hid hW1
  clear xW1 bW1 hW1
  go_upto_region 2 with (fail)
  rw [HW1.out]
  go_cut [27] (fun sc wx => sc = .bool (mA && (fA == s.toList)) ∧ Below W1.heap.size W1 wx)
  case first =>
    cases hm : mA
    · rw [hm] at HMA
      obtain ⟨d0, d1, d2, d3, d4, d5, _⟩ := XW1.out.cells
      go_wp2_with fail
      (with_reducible refine (HMA.out _).mono ?_)
      rintro e y1 ⟨rfl, hy1⟩
      clear d0 d1 d2 d3 d4 d5
      go_wp2
      go_meet
      exact ⟨by rw [hm]; rfl, hy1⟩
    · rw [hm] at HMA
      have kf := HFA.out hm
      have KF := Lib.hid kf
      clear kf
      obtain ⟨d0, d1, d2, d3, d4, d5, _⟩ := XW1.out.cells
      go_wp2_with fail
      (with_reducible refine (HMA.out _).mono ?_)
      rintro e y1 ⟨rfl, hy1⟩
      clear d0 d1 d2 d3 d4 d5
      obtain ⟨d0, d1, d2, d3, d4, d5, _⟩ := (XW1.out.below hy1).cells
      go_wp2_with fail
      (with_reducible refine (KF.out _).mono ?_)
      rintro e y2 ⟨rfl, hy2⟩
      clear d0 d1 d2 d3 d4 d5
      have hy := bt hy1 hy2
      cases hq : (fA == s.toList)
      · go_wp2
        go_meet
        exact ⟨by rw [hm, hq]; rfl, hy⟩
      · go_wp2
        go_meet
        exact ⟨by rw [hm, hq]; rfl, hy⟩
  case rest =>
    obtain ⟨rfl, hcb⟩ := hcut
    have hCB := bt HBW1.out hcb
    cases hp : (mA && (fA == s.toList))
    rotate_left
    · rw [Bool.and_eq_true, beq_iff_eq] at hp
      have hm := hp.1
      have hr := HR.out
      rw [if_pos hp] at hr
      subst hr
      clear HR hp
      have kt := HTA.out hm
      have KT := Lib.hid kt
      clear kt
      obtain ⟨d0, d1, d2, d3, d4, d5, _⟩ := (XW1.out.below hcb).cells
      go_wp2_with fail
      (with_reducible refine (KT.out _).mono ?_)
      rintro e y3 ⟨rfl, hy3⟩
      clear d0 d1 d2 d3 d4 d5
      go_wp2
      go_ret2
      exact ⟨rfl, bt hCB hy3⟩
    · have hn : ¬ (mA = true ∧ fA = s.toList) := by
        intro h
        rw [h.1, h.2] at hp
        simp at hp
      have hr := HR.out
      rw [if_neg hn] at hr
      have HR2 := Lib.hid hr
      obtain ⟨WC, hWC⟩ : ∃ W : World, W = wc := ⟨_, rfl⟩
      subst hWC
      clear HR hr hn hp HMA HFA HTA KA1 KA2 KA3 KA4 XW1 HW1 HBW1 hcb hv
      go_wp2_with fail
      go_loopw [7] (fun i wr => ∃ k : Nat, k ≤ cm ∧ i = .int .i64 k ∧ wr = WC) (fun i _ => cm - (intOf i).toNat)
      case atStart => exact ⟨0, Nat.zero_le _, rfl, rfl⟩
      case round =>
        obtain ⟨k, hk, rfl, rfl⟩ := hrel
        by_cases hlt : k < cm
        · obtain ⟨h2, h3⟩ := CIN.out k hlt
          have t1 : decide ((k : Int) < (s.size : Int)) = true := by simp; omega
          have t2 : ((s[k].toNat : Int) == 44) = false := by rw [beq_eq_false_iff_ne]; omega
          have t3 : ((s[k].toNat : Int) != 44) = true := by simp [bne, t2]
          have hu := u8_lt s[k]
          go_wp2
          go_roundw
          case rel => exact ⟨k + 1, hlt, by go_num, trivial⟩
          case measure => simp [intOf]; omega
        · have hke : k = cm := by omega
          subst hke
          have hend := CEND.out
          obtain ⟨wx, hwx⟩ : ∃ W : World, W = wr := ⟨_, rfl⟩
          subst hwx
          have stop : ∀ b1 b2 : Bool, True := fun _ _ => trivial
          clear stop
          by_cases hin : k < s.size
          all_goals (
            first
            | (have h44 := hend hin
               have t1 : decide ((k : Int) < (s.size : Int)) = true := by simp; omega
               have t2 : ((s[k].toNat : Int) == 44) = true := by rw [beq_iff_eq]; omega
               have t3 : ((s[k].toNat : Int) != 44) = false := by simp [bne, t2])
            | (have t1 : decide ((k : Int) < (s.size : Int)) = false := by simp; omega)
            clear hend CIN CEND
            go_wp2_with fail
            (with_reducible refine (KB0.out _).mono ?_)
            rintro e v9 ⟨rfl, hv9⟩
            subst hv9
            try clear t2 t3 h44
            clear t1
            go_upto_if 47 with (fail)
            go_cut [8] (fun sc wx => sc = .int .i64 sh ∧ Hid (¬ (0 ≤ sh ∧ mB = true ∧ fB = s.toList)) ∧ Below v9.heap.size v9 wx)
            case first =>
              by_cases hge : 0 ≤ sh
              · have t5 : decide (sh ≥ 0) = true := by simpa using hge
                have t6 : decide (0 ≤ sh) = true := by simpa using hge
                go_wp2_with fail
                (with_reducible refine (KB1.out _).mono ?_)
                rintro e v0 ⟨rfl, hv0⟩
                subst hv0
                go_wp2_with fail
                (with_reducible refine (KB2.out _).mono ?_)
                rintro e v1 ⟨rfl, hv1⟩
                go_wp2_with fail
                (with_reducible refine (KB3.out hge _).mono ?_)
                rintro e v3 ⟨rfl, hv3⟩
                have hv13 := bt hv1 hv3
                go_wp2_with fail
                (with_reducible refine (KB4.out _ _ _ _).mono ?_)
                rintro e v2 ⟨rfl, hv2⟩
                have hv := bt hv13 hv2
                clear hv1 hv2 hv3 hv13
                obtain ⟨W2, hW2⟩ : ∃ W, v2.alloc (.cells #[.int .i64 bY, .int .i64 bM, .int .i64 bD, .int .i64 bh, .int .i64 bm, .int .i64 bs] 122) = W := ⟨_, rfl⟩
                have bW2 : Below v2.heap.size v2 W2 := by rw [← hW2]; exact (Below.refl v2.heap.size v2).alloc (Nat.le_refl _) _
                have xW2 : DateAt v2.heap.size bY bM bD bh bm bs W2 := by rw [← hW2]; exact heap_new v2 _ _ rfl
                have XW2 := Lib.hid xW2; have HBW2 := Lib.hid (bt hv bW2); have HW2 := Lib.hid hW2
                clear xW2 bW2 hW2
                go_upto_region 10 with (fail)
                rw [HW2.out]
                go_cut [71] (fun sc wx => sc = .bool (mB && (fB == s.toList)) ∧ Below W2.heap.size W2 wx)
                case first =>
                  cases hm : mB
                  · rw [hm] at HMB
                    obtain ⟨d0, d1, d2, d3, d4, d5, _⟩ := XW2.out.cells
                    go_wp2_with fail
                    (with_reducible refine (HMB.out _).mono ?_)
                    rintro e y1 ⟨rfl, hy1⟩
                    clear d0 d1 d2 d3 d4 d5
                    go_wp2
                    go_meet
                    exact ⟨by rw [hm]; rfl, hy1⟩
                  · rw [hm] at HMB
                    have kf := HFB.out hm
                    have KF := Lib.hid kf
                    clear kf
                    obtain ⟨d0, d1, d2, d3, d4, d5, _⟩ := XW2.out.cells
                    go_wp2_with fail
                    (with_reducible refine (HMB.out _).mono ?_)
                    rintro e y1 ⟨rfl, hy1⟩
                    clear d0 d1 d2 d3 d4 d5
                    obtain ⟨d0, d1, d2, d3, d4, d5, _⟩ := (XW2.out.below hy1).cells
                    go_wp2_with fail
                    (with_reducible refine (KF.out _).mono ?_)
                    rintro e y2 ⟨rfl, hy2⟩
                    clear d0 d1 d2 d3 d4 d5
                    have hy := bt hy1 hy2
                    cases hq : (fB == s.toList)
                    · go_wp2
                      go_meet
                      exact ⟨by rw [hm, hq]; rfl, hy⟩
                    · go_wp2
                      go_meet
                      exact ⟨by rw [hm, hq]; rfl, hy⟩
                case rest =>
                  obtain ⟨rfl, hcb⟩ := hcut
                  have hCB2 := bt HBW2.out hcb
                  cases hp : (mB && (fB == s.toList))
                  rotate_left
                  · rw [Bool.and_eq_true, beq_iff_eq] at hp
                    have hm := hp.1
                    have hr := HR2.out
                    rw [if_pos ⟨hge, hp⟩] at hr
                    subst hr
                    clear HR2 hp
                    have kt := HTB.out hm
                    have KT := Lib.hid kt
                    clear kt
                    obtain ⟨d0, d1, d2, d3, d4, d5, _⟩ := (XW2.out.below hcb).cells
                    go_wp2_with fail
                    (with_reducible refine (KT.out _).mono ?_)
                    rintro e y3 ⟨rfl, hy3⟩
                    clear d0 d1 d2 d3 d4 d5
                    go_wp2
                    go_ret2
                    exact ⟨rfl, bt (bt hCB hCB2) hy3⟩
                  · have hn : ¬ (0 ≤ sh ∧ mB = true ∧ fB = s.toList) := by
                      intro h
                      rw [h.2.1, h.2.2] at hp
                      simp at hp
                    have HN := Lib.hid hn
                    clear hn hp
                    go_wp2
                    go_meet
                    exact ⟨rfl, HN, hCB2⟩
              · have t5 : decide (sh ≥ 0) = false := by simpa using hge
                have t6 : decide (0 ≤ sh) = false := by simpa using hge
                go_wp2
                go_meet
                exact ⟨rfl, Lib.hid (fun h => by have := h.1; omega), Below.refl _ _⟩
            case rest =>
              obtain ⟨rfl, HN, hcb3⟩ := hcut
              have hr := HR2.out
              rw [if_neg HN.out] at hr
              have HR3 := Lib.hid hr
              have hCC := bt hCB hcb3
              clear hr HR2 HN hcb3 KB0 KB1 KB2 KB3 KB4 HMB HFB HTB
              go_wp2_with fail
              (with_reducible refine (KC1.out _).mono ?_)
              rintro e v0 ⟨rfl, hv0⟩
              subst hv0
              go_wp2_with fail
              (with_reducible refine (KC2.out _).mono ?_)
              rintro e v1 ⟨rfl, hv1⟩
              go_wp2_with fail
              (with_reducible refine (KC3.out _).mono ?_)
              rintro e v3 ⟨rfl, hv3⟩
              subst hv3
              go_wp2_with fail
              (with_reducible refine (KC4.out _ _ _ _).mono ?_)
              rintro e v2 ⟨rfl, hv2⟩
              have hv := bt hv1 hv2
              clear hv1 hv2
              obtain ⟨W3, hW3⟩ : ∃ W, v2.alloc (.cells #[.int .i64 cY, .int .i64 cM, .int .i64 cD, .int .i64 ch, .int .i64 cm_, .int .i64 ah] 122) = W := ⟨_, rfl⟩
              have bW3 : Below v2.heap.size v2 W3 := by rw [← hW3]; exact (Below.refl v2.heap.size v2).alloc (Nat.le_refl _) _
              have xW3 : DateAt v2.heap.size cY cM cD ch cm_ ah W3 := by rw [← hW3]; exact heap_new v2 _ _ rfl
              have XW3 := Lib.hid xW3; have HBW3 := Lib.hid (bt hv bW3); have HW3 := Lib.hid hW3
              clear xW3 bW3 hW3
              go_upto_region 13 with (fail)
              rw [HW3.out]
              go_cut [90] (fun sc wx => sc = .bool (mC && (fC == s.toList)) ∧ Below W3.heap.size W3 wx)
              case first =>
                cases hm : mC
                · rw [hm] at HMC
                  obtain ⟨d0, d1, d2, d3, d4, d5, _⟩ := XW3.out.cells
                  go_wp2_with fail
                  (with_reducible refine (HMC.out _).mono ?_)
                  rintro e y1 ⟨rfl, hy1⟩
                  clear d0 d1 d2 d3 d4 d5
                  go_wp2
                  go_meet
                  exact ⟨by rw [hm]; rfl, hy1⟩
                · rw [hm] at HMC
                  have kf := HFC.out hm
                  have KF := Lib.hid kf
                  clear kf
                  obtain ⟨d0, d1, d2, d3, d4, d5, _⟩ := XW3.out.cells
                  go_wp2_with fail
                  (with_reducible refine (HMC.out _).mono ?_)
                  rintro e y1 ⟨rfl, hy1⟩
                  clear d0 d1 d2 d3 d4 d5
                  obtain ⟨d0, d1, d2, d3, d4, d5, _⟩ := (XW3.out.below hy1).cells
                  go_wp2_with fail
                  (with_reducible refine (KF.out _).mono ?_)
                  rintro e y2 ⟨rfl, hy2⟩
                  clear d0 d1 d2 d3 d4 d5
                  have hy := bt hy1 hy2
                  cases hq : (fC == s.toList)
                  · go_wp2
                    go_meet
                    exact ⟨by rw [hm, hq]; rfl, hy⟩
                  · go_wp2
                    go_meet
                    exact ⟨by rw [hm, hq]; rfl, hy⟩
              case rest =>
                obtain ⟨rfl, hcb⟩ := hcut
                have hCD := bt hCC (bt HBW3.out hcb)
                cases hp : (mC && (fC == s.toList))
                rotate_left
                · rw [Bool.and_eq_true, beq_iff_eq] at hp
                  have hm := hp.1
                  have hr := HR3.out
                  rw [if_pos hp] at hr
                  subst hr
                  clear HR3 hp
                  have kt := HTC.out hm
                  have KT := Lib.hid kt
                  clear kt
                  obtain ⟨d0, d1, d2, d3, d4, d5, _⟩ := (XW3.out.below hcb).cells
                  go_wp2_with fail
                  (with_reducible refine (KT.out _).mono ?_)
                  rintro e y3 ⟨rfl, hy3⟩
                  clear d0 d1 d2 d3 d4 d5
                  go_wp2
                  go_ret2
                  exact ⟨rfl, bt hCD hy3⟩
                · have hn : ¬ (mC = true ∧ fC = s.toList) := by
                    intro h
                    rw [h.1, h.2] at hp
                    simp at hp
                  have hr := HR3.out
                  rw [if_neg hn] at hr
                  have HR4 := Lib.hid hr
                  have XD := Lib.hid (XW3.out.below hcb)
                  clear hr hn hp HR3 HMC HFC HTC KC1 KC2 KC3 KC4
                  obtain ⟨T, hT⟩ : ∃ T, v2.heap.size = T := ⟨_, rfl⟩
                  rw [hT] at XD ⊢
                  have HT := Lib.hid hT
                  clear hT
                  obtain ⟨d0, d1, d2, d3, d4, d5, dl⟩ := XD.out.cells
                  obtain ⟨q0, q1, q2, q3, q4, q5⟩ := XD.out.frozen
                  go_wp2_with fail
                  (with_reducible refine (KE1.out _).mono ?_)
                  rintro e v4 ⟨rfl, hv4⟩
                  subst hv4
                  have xe := XD.out.set2 eD
                  have be := hCD.setCell (p := ⟨T, 2, none⟩) (by have h1 := hCC.size; have h2 := hv.size; have h3 := HT.out; show _ ≤ T; omega) (.int .i64 eD)
                  obtain ⟨W4, hW4⟩ : ∃ W, World.setCell v4 ⟨T, 2, none⟩ (.int .i64 eD) = W := ⟨_, rfl⟩
                  rw [hW4] at xe be
                  have XW4 := Lib.hid xe; have HW4 := Lib.hid hW4
                  clear xe hW4
                  go_upto_region 16 with (fail)
                  clear d0 d1 d2 d3 d4 d5 q0 q1 q2 q3 q4 q5 dl
                  rw [HW4.out]
                  go_cut [103] (fun sc wx => sc = .bool (mE && (fE == s.toList)) ∧ Below W4.heap.size W4 wx)
                  case first =>
                    cases hm : mE
                    · rw [hm] at HME
                      obtain ⟨d0, d1, d2, d3, d4, d5, _⟩ := XW4.out.cells
                      go_wp2_with fail
                      (with_reducible refine (HME.out _).mono ?_)
                      rintro e y1 ⟨rfl, hy1⟩
                      clear d0 d1 d2 d3 d4 d5
                      go_wp2
                      go_meet
                      exact ⟨by rw [hm]; rfl, hy1⟩
                    · rw [hm] at HME
                      have kf := HFE.out hm
                      have KF := Lib.hid kf
                      clear kf
                      obtain ⟨d0, d1, d2, d3, d4, d5, _⟩ := XW4.out.cells
                      go_wp2_with fail
                      (with_reducible refine (HME.out _).mono ?_)
                      rintro e y1 ⟨rfl, hy1⟩
                      clear d0 d1 d2 d3 d4 d5
                      obtain ⟨d0, d1, d2, d3, d4, d5, _⟩ := (XW4.out.below hy1).cells
                      go_wp2_with fail
                      (with_reducible refine (KF.out _).mono ?_)
                      rintro e y2 ⟨rfl, hy2⟩
                      clear d0 d1 d2 d3 d4 d5
                      have hy := bt hy1 hy2
                      cases hq : (fE == s.toList)
                      · go_wp2
                        go_meet
                        exact ⟨by rw [hm, hq]; rfl, hy⟩
                      · go_wp2
                        go_meet
                        exact ⟨by rw [hm, hq]; rfl, hy⟩
                  case rest =>
                    obtain ⟨rfl, hcb⟩ := hcut
                    have hCE := bt be hcb
                    cases hp : (mE && (fE == s.toList))
                    rotate_left
                    · rw [Bool.and_eq_true, beq_iff_eq] at hp
                      have hm := hp.1
                      have hr := HR4.out
                      rw [if_pos hp] at hr
                      subst hr
                      clear HR4 hp
                      have kt := HTE.out hm
                      have KT := Lib.hid kt
                      clear kt
                      obtain ⟨d0, d1, d2, d3, d4, d5, _⟩ := (XW4.out.below hcb).cells
                      go_wp2_with fail
                      (with_reducible refine (KT.out _).mono ?_)
                      rintro e y3 ⟨rfl, hy3⟩
                      clear d0 d1 d2 d3 d4 d5
                      go_wp2
                      go_ret2
                      exact ⟨rfl, bt hCE hy3⟩
                    · have hn : ¬ (mE = true ∧ fE = s.toList) := by
                        intro h
                        rw [h.1, h.2] at hp
                        simp at hp
                      have hr := HR4.out
                      rw [if_neg hn] at hr
                      subst hr
                      clear HR4 hn hp
                      go_wp2
                      go_ret2
                      exact ⟨rfl, hCE⟩)
end Go.Proofs.YtcgdcbnhpbokfaaGreatDoor
/- The walk of the document's Values (layer 4). -/
namespace Go.Proofs.YtcgdcbnhpbokfaaGreatDoor
open Go.RowKit

set_option maxRecDepth 100000 in
set_option maxHeartbeats 2000000 in
theorem rvalues_any (A : Option Addr) (n c : Nat) (xs : List Fld) (name : ByteArray) (w : World) (hr : Rd A n 2 (fldsV xs) w) (hn : n ≤ 1000000) (hs : ∀ f ∈ xs, f.1.length ≤ 1000000) (hname : name.size ≤ 1000000) :
    Calls Tryz.prog 59 #[.slice A n c, .string name] w (TextsPost w (valuesL xs name.data.toList)) := by
  have hB := Below.refl w.heap.size w
  obtain rfl := hr.fld
  have HR := Lib.hid hr; have HS := Lib.hid hs; clear hr hs
  have k2 := fun w => rlower_any name w hname
  have K2 := Lib.hid k2; clear k2
  go_enter Tryz.func59, Tryz.ntmps59
  go_wp2
  go_loopw [6, 5] (fun i out wr => ∃ k : Nat, k ≤ xs.length ∧ i = .int .i64 k ∧ Hid (OwnS w.heap.size out (valuesL (xs.take k) name.data.toList) wr) ∧ Below w.heap.size w wr) (fun i _ _ => xs.length - (intOf i).toNat)
  case atStart => exact ⟨0, Nat.zero_le _, rfl, Lib.hid (OwnS.nil _ _), hB⟩
  case round =>
    clear hB
    obtain ⟨k, hk, rfl, HO, hbw⟩ := hrel
    by_cases hlt : k < xs.length
    · obtain ⟨b, o, rfl, hl, c1, c2⟩ := (HR.out.below hbw).fld_at (k := k) (by omega)
      have hf1 := HS.out xs[k] (List.getElem_mem _)
      have hsn := valuesL_snoc (xs.take k) xs[k] name.data.toList
      rw [← take_snocL xs k (by omega)] at hsn
      have k1 := fun w => rlower_any ⟨(xs[k]).1.toArray⟩ w (by rw [Lib.size_eq]; exact hf1)
      have hvl := valuesL_le (xs.take k) name.data.toList
      rw [List.length_take] at hvl
      generalize xs[k] = f at *
      obtain ⟨f1, f2⟩ := f
      simp only at c1 c2 k1 hsn
      have Hsn := Lib.hid hsn; have K1 := Lib.hid k1; clear hsn k1 hf1
      cases hq : (lowerL f1 == lowerL name.data.toList)
      · have hnx := Hsn.out
        rw [hq, if_neg (by decide)] at hnx
        have HN : Hid (OwnS w.heap.size u5 (valuesL (xs.take (k + 1)) name.data.toList) wr) := by rw [hnx]; exact HO
        have Hq := Lib.hid hq; clear hnx hq Hsn
        go_wp2_with fail
        refine (K1.out _).mono ?_
        rintro e w1 ⟨rfl, hb1⟩
        go_wp2_with fail
        refine (K2.out _).mono ?_
        rintro e w2 ⟨rfl, hb2⟩
        have q1 := Hq.out
        go_wp2
        have hb3 : Below w.heap.size w w2 := (hbw.trans (hb1.mono hbw.size)).trans (hb2.mono (by have := hbw.size; have := hb1.size; omega))
        go_roundw
        case rel => exact ⟨k + 1, by omega, by go_num, Lib.hid ((HN.out.below hb1).below hb2), hb3⟩
        case measure => simp [intOf]; omega
      · have hnx := Hsn.out
        rw [hq, if_pos rfl] at hnx
        have Hnx := Lib.hid hnx
        have Hq := Lib.hid hq; clear hnx hq Hsn
        go_wp2_with fail
        refine (K1.out _).mono ?_
        rintro e w1 ⟨rfl, hb1⟩
        go_wp2_with fail
        refine (K2.out _).mono ?_
        rintro e w2 ⟨rfl, hb2⟩
        have q1 := Hq.out
        have hb3 : Below w.heap.size w w2 := (hbw.trans (hb1.mono hbw.size)).trans (hb2.mono (by have := hbw.size; have := hb1.size; omega))
        have d2 := (hb2.cell (p := ⟨b, o + k * 2 + 1, none⟩) (by have := hb1.size; show b < _; omega)).trans ((hb1.cell (p := ⟨b, o + k * 2 + 1, none⟩) hl).trans c2)
        have HO1 := Lib.hid ((HO.out.below hb1).below hb2)
        go_wp2_with (at_builtin; refine app_str w.heap.size f2 HO1.out hb3.size (by omega) rfl _ _ rfl rfl rfl ?_)
        intro v' w3 hO2 hb4 _
        have hb5 := hb3.trans hb4
        have HO2 : Hid (OwnS w.heap.size v' (valuesL (xs.take (k + 1)) name.data.toList) w3) := by rw [Hnx.out]; exact Lib.hid hO2
        clear hO2 hb4 hb3 hb2 hb1 d2 q1
        go_wp2
        go_roundw
        case rel => exact ⟨k + 1, by omega, by go_num, HO2, hb5⟩
        case measure => simp [intOf]; omega
    · have hke : k = xs.length := by omega
      subst hke
      have ho := HO.out
      rw [List.take_length] at ho
      obtain ⟨a, cap, rfl⟩ := ho.shape
      have HO1 := Lib.hid ho; clear ho HO
      go_wp2
      go_ret
      exact ⟨a, cap, rfl, HO1.out, hbw⟩
end Go.Proofs.YtcgdcbnhpbokfaaGreatDoor
/- The document's Get, Texts; a copy of a list (layer 4). -/
namespace Go.Proofs.YtcgdcbnhpbokfaaGreatDoor
open Go.RowKit
set_option maxRecDepth 100000

/-- Join from the left. -/
theorem join_last (sep x : List UInt8) : ∀ ls : List (List UInt8), Lib.join (ls ++ [x]) sep = bif ls.isEmpty then x else Lib.join ls sep ++ sep ++ x
  | [] => by simp [Lib.join]
  | [a] => by simp [Lib.join]
  | a :: b :: r => by
    have ih := join_last sep x (b :: r)
    have e : ∀ (a b : List UInt8) (l : List (List UInt8)), Lib.join (a :: b :: l) sep = a ++ (sep ++ Lib.join (b :: l) sep) := fun _ _ _ => rfl
    simp only [List.cons_append] at ih ⊢
    rw [e, ih, e]
    simp
theorem join_take (sep : List UInt8) (ls : List (List UInt8)) (k : Nat) (h : k < ls.length) : Lib.join (ls.take (k + 1)) sep = bif decide (k = 0) then ls[k] else Lib.join (ls.take k) sep ++ sep ++ ls[k] := by
  rw [List.take_succ_eq_append_getElem h, join_last]
  by_cases h0 : k = 0
  · subst h0; simp
  · have : (ls.take k).isEmpty = false := by
      rw [List.isEmpty_eq_false_iff]; intro e
      have h1 := congrArg List.length e
      rw [List.length_take, List.length_nil] at h1; omega
    rw [this, decide_eq_false h0]

set_option maxHeartbeats 4000000 in
theorem rget_any (A : Option Addr) (n c : Nat) (xs : List Fld) (name : ByteArray) (w : World) (hr : Rd A n 2 (fldsV xs) w) (hn : n ≤ 1000000) (hs : sumF xs ≤ 1000000) (hname : name.size ≤ 1000000) :
    Calls Tryz.prog 42 #[.slice A n c, .string name] w fun e w' => e = .returned (getV (getL xs name.data.toList)) ∧ Below w.heap.size w w' := by
  have k1 := rvalues_any A n c xs name w hr hn (fun f hf => by have := sumF_mem hf; omega) hname
  have hv := total_values xs name.data.toList
  have hvl := valuesL_le xs name.data.toList
  have hxn := hr.fld
  unfold getL getV
  simp only
  generalize valuesL xs name.data.toList = ls at *
  have hjt := join_take [44, 32] ls
  have hjl : ∀ k, k ≤ ls.length → (Lib.join (ls.take k) [44, 32]).length ≤ 4000000 := by
    intro k hk
    have h1 := join_le [44, 32] (ls.take k)
    have h2 : total (ls.take k) ≤ total ls := by
      unfold total
      conv => rhs; rw [← List.take_append_drop k ls, List.map_append, List.sum_append]
      omega
    have h3 : (ls.take k).length ≤ ls.length := by rw [List.length_take]; omega
    rw [show ([44, 32] : List UInt8).length = 2 from rfl] at h1
    omega
  have hml : ∀ l ∈ ls, l.length ≤ 1000000 := fun l hl => by have := total_mem hl; omega
  have hfin : Lib.join (ls.take ls.length) [44, 32] = Lib.join ls [44, 32] := by rw [List.take_length]
  have hln : ls.length ≤ 1000000 := by omega
  have K1 := Lib.hid k1; have HJT := Lib.hid hjt; have HJL := Lib.hid hjl; have HML := Lib.hid hml; have HF := Lib.hid hfin
  clear k1 hv hvl hxn hr hs hn hname hjt hjl hml hfin
  generalize Lib.join ls [44, 32] = tot at *
  go_enter Tryz.func42, Tryz.ntmps42
  go_wp2_with fail
  refine K1.out.mono ?_
  rintro e w1 ⟨a1, c1, rfl, ho1, hb1⟩
  have HO := Lib.hid ho1; clear ho1 K1
  go_wp2_with fail
  go_loopw [8, 7] (fun i s wr => ∃ (k : Nat) (l : List UInt8), k ≤ ls.length ∧ i = .int .i64 k ∧ s = .string ⟨l.toArray⟩ ∧ Hid (l = Lib.join (ls.take k) [44, 32]) ∧ Below w1.heap.size w1 wr) (fun i _ _ => ls.length - (intOf i).toNat)
  case atStart => exact ⟨0, [], Nat.zero_le _, rfl, rfl, Lib.hid rfl, Below.refl _ _⟩
  case round =>
    obtain ⟨k, l, hk, rfl, rfl, HE, hbw⟩ := hrel
    by_cases hlt : k < ls.length
    · obtain ⟨b, o, rfl, hl, e1⟩ := ((HO.out.below hbw).rd.2).str_at (k := k) hlt
      have hjt := HJT.out k hlt
      have hx := HML.out ls[k] (List.getElem_mem _)
      have hl4 := HJL.out k hk
      rw [← HE.out] at hl4 hjt
      generalize ls[k] = x at *
      have zl : (⟨l.toArray⟩ : ByteArray).size = l.length := by rw [Lib.size_eq]
      have zx : (⟨x.toArray⟩ : ByteArray).size = x.length := by rw [Lib.size_eq]
      by_cases h0 : k = 0
      · subst h0
        rw [decide_eq_true rfl, cond_true] at hjt
        have hl0 : l = [] := HE.out
        subst hl0
        have hem : (⟨#[]⟩ : ByteArray) ++ ⟨x.toArray⟩ = ⟨x.toArray⟩ := by apply str_eq; simp [ByteArray.data_append]
        have HJ := Lib.hid hjt; have HEM := Lib.hid hem
        rw [Nat.add_zero] at e1
        clear hjt hem HE HJT HJL
        go_wp2
        go_roundw
        case rel => exact ⟨1, x, by omega, by go_num, congrArg Value.string HEM.out, Lib.hid HJ.out.symm, hbw⟩
        case measure => simp [intOf]; omega
      · rw [decide_eq_false h0, cond_false] at hjt
        have hem : ((⟨l.toArray⟩ : ByteArray) ++ ⟨#[44, 32]⟩) ++ ⟨x.toArray⟩ = ⟨(l ++ [44, 32] ++ x).toArray⟩ := by apply str_eq; simp [ByteArray.data_append]
        have HJ := Lib.hid hjt; have HEM := Lib.hid hem
        clear hjt hem HE HJT HJL
        go_wp2
        go_roundw
        case rel => exact ⟨k + 1, l ++ [44, 32] ++ x, by omega, by go_num, by rw [HEM.out], Lib.hid HJ.out.symm, hbw⟩
        case measure => simp [intOf]; omega
    · have hke : k = ls.length := by omega
      subst hke
      have he := HE.out
      rw [HF.out] at he
      subst he
      clear HE HJT HJL HML HF
      go_wp2
      go_ret2
      refine ⟨?_, bt hb1 hbw⟩
      simp
end Go.Proofs.YtcgdcbnhpbokfaaGreatDoor
/- The walks of layer 2's functions: the document's. -/
namespace Go.Proofs.YtcgdcbnhpbokfaaGreatDoor
open Go.RowKit

set_option maxHeartbeats 1000000 in
theorem radd_any (a b : Int) (w : World) :
    Calls Tryz.prog 54 #[.int .i64 a, .int .i64 b] w fun e w' => e = .returned (.int .i64 (addB a b)) ∧ w = w' := by
  unfold addB
  have h1 := bnd_lo a; have h2 := bnd_hi a; have h3 := bnd_lo b; have h4 := bnd_hi b
  go_enter Tryz.func54, Tryz.ntmps54
  go_wp2_with (go_at_call 111; refine (rof_any _ _).mono ?_; rintro e w' ⟨rfl, rfl⟩)
  go_ret
  exact ⟨rfl, rfl⟩

set_option maxHeartbeats 1000000 in
theorem rsince_any (a b : Int) (w : World) (ha : -9223372036854775808 ≤ a) (ha' : a ≤ 9223372036854775807) (hb : -9223372036854775808 ≤ b) (hb' : b ≤ 9223372036854775807) :
    Calls Tryz.prog 52 #[.int .i64 a, .int .i64 b] w fun e w' => e = .returned (.int .i64 (since a b)) ∧ w = w' := by
  unfold since
  by_cases h : b ≤ a
  · have hz : bnd (b - a) = 0 := by
      by_cases e : b - a = 0
      · rw [e]; rfl
      · exact bnd_neg (by omega)
    have Hz := Lib.hid hz; clear hz
    go_enter Tryz.func52, Tryz.ntmps52
    go_wp2
    go_ret
    exact ⟨ret_int (by rw [Hz.out]), rfl⟩
  · have h9 : ¬ b ≤ a := h
    rcases (by omega : 0 ≤ a ∨ (a < 0 ∧ b < 0) ∨ (a < 0 ∧ 0 ≤ b ∧ a < -2147483648) ∨ (a < 0 ∧ 0 ≤ b ∧ -2147483648 ≤ a ∧ 2147483648 < b) ∨ (a < 0 ∧ 0 ≤ b ∧ -2147483648 ≤ a ∧ b ≤ 2147483648)) with g | ⟨g1, g2⟩ | ⟨g1, g2, g3⟩ | ⟨g1, g2, g3, g4⟩ | ⟨g1, g2, g3, g4⟩
    · have t1 : decide (0 ≤ a) = true := by simp; omega
      go_enter Tryz.func52, Tryz.ntmps52
      go_wp2_with (go_at_call 111; refine (rof_any _ _).mono ?_; rintro e w' ⟨rfl, rfl⟩)
      go_ret
      exact ⟨rfl, rfl⟩
    · have t1 : decide (0 ≤ a) = false := by simp; omega
      have t2 : decide (b < 0) = true := by simp; omega
      go_enter Tryz.func52, Tryz.ntmps52
      go_wp2_with (go_at_call 111; refine (rof_any _ _).mono ?_; rintro e w' ⟨rfl, rfl⟩)
      go_ret
      exact ⟨rfl, rfl⟩
    · have t1 : decide (0 ≤ a) = false := by simp; omega
      have t2 : decide (b < 0) = false := by simp; omega
      have t3 : decide (a < -2147483648) = true := by simp; omega
      have Hb := Lib.hid (bnd_big (n := b - a) (by omega))
      go_enter Tryz.func52, Tryz.ntmps52
      go_wp2
      go_ret
      exact ⟨ret_int Hb.out.symm, rfl⟩
    · have t1 : decide (0 ≤ a) = false := by simp; omega
      have t2 : decide (b < 0) = false := by simp; omega
      have t3 : decide (a < -2147483648) = false := by simp; omega
      have t4 : decide (2147483648 < b) = true := by simp; omega
      have Hb := Lib.hid (bnd_big (n := b - a) (by omega))
      go_enter Tryz.func52, Tryz.ntmps52
      go_wp2
      go_ret
      exact ⟨ret_int Hb.out.symm, rfl⟩
    · have t1 : decide (0 ≤ a) = false := by simp; omega
      have t2 : decide (b < 0) = false := by simp; omega
      have t3 : decide (a < -2147483648) = false := by simp; omega
      have t4 : decide (2147483648 < b) = false := by simp; omega
      go_enter Tryz.func52, Tryz.ntmps52
      go_wp2_with (go_at_call 111; refine (rof_any _ _).mono ?_; rintro e w' ⟨rfl, rfl⟩)
      go_ret
      exact ⟨rfl, rfl⟩

end Go.Proofs.YtcgdcbnhpbokfaaGreatDoor
/- The document's freshness: the walks of Control, When, number (printed by wip/tools/rfresh.py). -/
namespace Go.Proofs.YtcgdcbnhpbokfaaGreatDoor
open Go.RowKit
set_option maxRecDepth 100000

set_option maxHeartbeats 4000000 in
theorem rcontrol_any (st mi asked got : Int) (re bo : ByteArray) (A V : Option Addr) (n c m d : Nat) (xs : List Fld) (dev : ByteArray) (w : World) (hr : Rd A n 2 (fldsV xs) w) (hn : n ≤ 1000) (hs : sumF xs ≤ 800000) :
    Calls Tryz.prog 22 #[entV st re mi A n c bo asked got V m d, .string dev] w fun e w' => e = .returned (ctlV (ctlF xs dev.data.toList)) ∧ Below w.heap.size w w' := by
  obtain ⟨W1, hW1⟩ : ∃ W1, w.alloc (.cells #[.int .i64 st, .string re, .int .i64 mi, .slice A n c, .string bo, .int .i64 asked, .int .i64 got, .slice V m d] 30) = W1 := ⟨_, rfl⟩
  have b1 : Below w.heap.size w W1 := by rw [← hW1]; exact (Below.refl w.heap.size w).alloc (Nat.le_refl _) _
  have z1 : W1.heap.size = w.heap.size + 1 := by rw [← hW1]; simp
  have x1 : W1.heap[w.heap.size]? = some (.cells #[.int .i64 st, .string re, .int .i64 mi, .slice A n c, .string bo, .int .i64 asked, .int .i64 got, .slice V m d] 30 (0, 0)) := by rw [← hW1]; exact heap_new w _ _ rfl
  obtain ⟨W2, hW2⟩ : ∃ W2, W1.alloc (.cells #[.bool false, .bool false, .bool false, .bool false, .int .i64 0, .int .i64 0] 36) = W2 := ⟨_, rfl⟩
  have b2 : Below W1.heap.size W1 W2 := by rw [← hW2]; exact (Below.refl W1.heap.size W1).alloc (Nat.le_refl _) _
  have z2 : W2.heap.size = w.heap.size + 2 := by rw [← hW2]; simp [z1]
  have x2 : W2.heap[w.heap.size + 1]? = some (.cells #[.bool false, .bool false, .bool false, .bool false, .int .i64 0, .int .i64 0] 36 (0, 0)) := by rw [← hW2]; exact heap_new W1 _ _ z1
  have x1 := (b2.block w.heap.size (by omega)).trans x1
  have b1 := bt b1 b2
  have k1 := rvalues_any A n c xs ⟨#[115, 117, 114, 114, 111, 103, 97, 116, 101, 45, 99, 111, 110, 116, 114, 111, 108]⟩ W2 (hr.below b1) (by omega) (fun f hf => by have := sumF_mem hf; omega) (by decide)
  have hvl := valuesL_le xs fSC
  have hvm : ∀ v ∈ valuesL xs fSC, v.length ≤ 900000 := fun v hv => by have := valuesL_sum hv; omega
  have k2 := fun W (hb : Below w.heap.size w W) a c' (h : Rd a (valuesL xs fSC).length 1 (strsV (valuesL xs fSC)) W) => rsurOf_any a (valuesL xs fSC).length c' (valuesL xs fSC) dev W h (by have := hr.fld; omega) hvm
  have he : ofL (valuesL xs fSC) dev.data.toList = ctlF xs dev.data.toList := rfl
  rw [he] at k2
  rw [show (⟨#[115, 117, 114, 114, 111, 103, 97, 116, 101, 45, 99, 111, 110, 116, 114, 111, 108]⟩ : ByteArray).data.toList = fSC from rfl] at k1
  generalize ctlF xs dev.data.toList = out at *
  have x3 := (of_heap x1 3).1
  have hz : w.heap.size + 1 < W2.heap.size := by omega
  have HW1 := Lib.hid hW1; have HW2 := Lib.hid hW2; have K1 := Lib.hid k1; have K2 := Lib.hid k2; have B1 := Lib.hid b1; have X2 := Lib.hid x2
  have Z1 := Lib.hid z1
  generalize valuesL xs fSC = vs at *
  clear hW1 hW2 k1 k2 x1 z2 hr hs he b1 b2 hvl hvm x2 z1
  unfold entV
  go_enter Tryz.func22, Tryz.ntmps22
  go_upto_region 1 with (fail)
  rw [HW1.out, HW2.out]
  go_wp2_with fail
  (with_reducible refine K1.out.mono ?_)
  rintro e w1 ⟨a1, c1, rfl, ho1, hb1⟩
  have k3 := K2.out w1 (bt B1.out hb1) _ c1 ho1.rd.2
  have K3 := Lib.hid k3
  have HB := Lib.hid (bt B1.out hb1)
  have Y2 := Lib.hid ((hb1.block (w.heap.size + 1) hz).trans X2.out)
  have hz1 := Nat.lt_of_lt_of_le hz hb1.size
  clear ho1 k3 K2 hb1 B1
  go_wp2_with fail
  (with_reducible refine K3.out.mono ?_)
  rintro e w2 ⟨rfl, hb2⟩
  have y2 := (hb2.block (w.heap.size + 1) hz1).trans Y2.out
  have g0 := of_heap y2 0; have g1 := of_heap y2 1; have g2 := of_heap y2 2; have g3 := of_heap y2 3; have g4 := of_heap y2 4; have g5 := of_heap y2 5
  obtain ⟨g0, f0, gl⟩ := g0; obtain ⟨g1, f1, _⟩ := g1; obtain ⟨g2, f2, _⟩ := g2; obtain ⟨g3, f3, _⟩ := g3; obtain ⟨g4, f4, _⟩ := g4; obtain ⟨g5, f5, _⟩ := g5
  simp only [List.getElem?_toArray, List.getElem?_cons_succ, List.getElem?_cons_zero] at g0 g1 g2 g3 g4 g5
  obtain ⟨o0, o1, o2, o3, o4, o5⟩ := out
  unfold ctlV
  simp only
  have HB2 := Lib.hid (bt HB.out hb2)
  clear y2 Y2 hb2 HB K3 HW1 HW2 X2 Z1
  go_wp2_with fail
  refine bodyPost_ret_by (v := .agg #[.bool o0, .bool o1, .bool o2, .bool o3, .int .i64 o4, .int .i64 o5]) ?_ rfl ?_
  · rw [results_cell_one rfl]
    go_simp
  · exact ⟨rfl, (((((HB2.out.setCell (p := ⟨w.heap.size + 1, 0, none⟩) (Nat.le_succ _) _).setCell (p := ⟨w.heap.size + 1, 1, none⟩) (Nat.le_succ _) _).setCell (p := ⟨w.heap.size + 1, 2, none⟩) (Nat.le_succ _) _).setCell (p := ⟨w.heap.size + 1, 3, none⟩) (Nat.le_succ _) _).setCell (p := ⟨w.heap.size + 1, 4, none⟩) (Nat.le_succ _) _).setCell (p := ⟨w.heap.size + 1, 5, none⟩) (Nat.le_succ _) _⟩


def whenI (xs : List Fld) (nm : List UInt8) (got : Int) : Int := bif (whenF xs nm got).2 then (whenF xs nm got).1 else -1
set_option maxHeartbeats 8000000 in
theorem rwhen_any (st mi asked got : Int) (re bo : ByteArray) (A V : Option Addr) (n c m d : Nat) (xs : List Fld) (w : World) (hr : Rd A n 2 (fldsV xs) w) (hn : n ≤ 1000) (hs : sumF xs ≤ 800000) (name : ByteArray) (hname : name.size ≤ 1000000) :
    Calls Tryz.prog 51 #[entV st re mi A n c bo asked got V m d, .string name] w fun e w' => e = .returned (.int .i64 (whenI xs name.data.toList got)) ∧ Below w.heap.size w w' := by
  obtain ⟨W1, hW1⟩ : ∃ W1, w.alloc (.cells #[.int .i64 st, .string re, .int .i64 mi, .slice A n c, .string bo, .int .i64 asked, .int .i64 got, .slice V m d] 30) = W1 := ⟨_, rfl⟩
  have b1 : Below w.heap.size w W1 := by rw [← hW1]; exact (Below.refl w.heap.size w).alloc (Nat.le_refl _) _
  have x1 : EntAt w.heap.size st re mi A n c bo asked got V m d W1 := by rw [← hW1]; exact heap_new w _ _ rfl
  have hfl := hr.fld
  have k1 := rget_any A n c xs name W1 (hr.below b1) (by omega) (by omega) hname
  have hgl := getL_le xs name.data.toList
  have k2 := fun W => iparse_any ⟨(getL xs name.data.toList).1.toArray⟩ got (by rw [Lib.size_eq]; show (getL xs name.data.toList).1.length ≤ _; omega) W
  rw [show (⟨(getL xs name.data.toList).1.toArray⟩ : ByteArray).data.toList = (getL xs name.data.toList).1 from rfl, ← date_eq] at k2
  unfold whenI whenF
  unfold getV at k1
  generalize getL xs name.data.toList = g at *
  obtain ⟨gv, gi⟩ := g
  simp only at k1 k2 ⊢
  generalize dateP gv got = r at *
  obtain ⟨t, er⟩ := r
  simp only at k2 ⊢
  have X1 := Lib.hid x1; have HW1 := Lib.hid hW1; have K1 := Lib.hid k1; have K2 := Lib.hid k2; have B1 := Lib.hid b1
  obtain ⟨c0, c1, c2, c3, c4, c5, c6, c7, _⟩ := x1.cells
  clear hW1 k1 k2 x1 hr hs b1 hgl hfl
  cases gi
  · simp only [cond_false]
    unfold entV
    go_enter Tryz.func51, Tryz.ntmps51
    go_upto_region 1 with (fail)
    rw [HW1.out]
    go_wp2_with fail
    (with_reducible refine K1.out.mono ?_)
    rintro e w1 ⟨rfl, hb1⟩
    have HB := Lib.hid (bt B1.out hb1)
    clear hb1 c0 c1 c2 c3 c4 c5 c6 c7
    go_wp2
    go_ret
    exact ⟨rfl, HB.out⟩
  · simp only [cond_true]
    cases hz : (er == 0)
    all_goals
      have hz2 : (er != 0) = !(er == 0) := rfl
      rw [hz] at hz2
      unfold entV
      go_enter Tryz.func51, Tryz.ntmps51
      go_upto_region 1 with (fail)
      rw [HW1.out]
      go_wp2_with fail
      (with_reducible refine K1.out.mono ?_)
      rintro e w1 ⟨rfl, hb1⟩
      clear c0 c1 c2 c3 c4 c5 c6 c7
      obtain ⟨c0, c1, c2, c3, c4, c5, c6, c7, _⟩ := (X1.out.below hb1).cells
      go_wp2_with fail
      (with_reducible refine (K2.out _).mono ?_)
      rintro e w2 ⟨rfl, hb2⟩
      have HB := Lib.hid (bt (bt B1.out hb1) hb2)
      clear hb1 hb2 c0 c1 c2 c3 c4 c5 c6 c7
      go_wp2
      go_ret
      exact ⟨rfl, HB.out⟩
set_option maxHeartbeats 4000000 in
theorem rnumber_any (dn dv df : List UInt8) (dh : Bool) (w : World) (hv : dv.length ≤ 1000000) :
    Calls Tryz.prog 61 #[.agg #[.string ⟨dn.toArray⟩, .string ⟨dv.toArray⟩, .bool dh, .string ⟨df.toArray⟩]] w fun e w' => e = .returned (.int .i64 (numF dv)) ∧ Below w.heap.size w w' := by
  have k1 := fun W => rdelta_any ⟨dv.toArray⟩ W (by rw [Lib.size_eq]; exact hv)
  rw [show (⟨dv.toArray⟩ : ByteArray).data.toList = dv from rfl, numF_tuple] at k1
  have hz : deltaOk dv = false → numF dv = 0 := fun h => by unfold numF; rw [h]; rfl
  generalize deltaOk dv = ok at *
  generalize numF dv = nv at *
  have hal := (Below.refl w.heap.size w).alloc (Nat.le_refl _) (.cells #[.string ⟨dn.toArray⟩, .string ⟨dv.toArray⟩, .bool dh, .string ⟨df.toArray⟩] 84)
  have K1 := Lib.hid k1
  clear k1
  cases ok
  · have hz2 := hz rfl
    subst hz2
    clear hz
    go_enter Tryz.func61, Tryz.ntmps61
    go_wp2_with fail
    (with_reducible refine (K1.out _).mono ?_)
    rintro e w1 ⟨rfl, rfl⟩
    go_wp2
    go_ret
    exact ⟨rfl, hal⟩
  · clear hz
    go_enter Tryz.func61, Tryz.ntmps61
    go_wp2_with fail
    (with_reducible refine (K1.out _).mono ?_)
    rintro e w1 ⟨rfl, rfl⟩
    go_wp2
    go_ret
    exact ⟨rfl, hal⟩
end Go.Proofs.YtcgdcbnhpbokfaaGreatDoor
/- The document's freshness: the walks of Life, Age, Fresh (printed by wip/tools/rfresh.py). -/
namespace Go.Proofs.YtcgdcbnhpbokfaaGreatDoor
open Go.RowKit
set_option maxRecDepth 100000

theorem age_bnd (xs : List Fld) (dev : List UInt8) : bnd (ctlF xs dev).age = (ctlF xs dev).age := by
  show bnd (ctlL _).age = (ctlL _).age
  rw [ctl_parts]
  show bnd (agesL _).1 = (agesL _).1
  generalize (firstV (mineL (slistL (valuesL xs fSC)) dev) sMaxAge).getD [] = v
  unfold agesL
  generalize (deltaOk (Lib.cut v [43]).1 && (deltaOk (Lib.cut v [43]).2.1 == (Lib.cut v [43]).2.2)) = b
  cases b
  · rfl
  · simp only [cond_true, bnd_bnd]
def expI (xs : List Fld) (got : Int) : Int := bif (whenF xs fExp got).2 then since (bif (whenF xs fDate got).2 then (whenF xs fDate got).1 else got) (whenF xs fExp got).1 else 0
theorem life_eq (xs : List Fld) (got : Int) (dev : List UInt8) : lifeF xs got dev = bif (ctlF xs dev).hasAge then (ctlF xs dev).age else match findO (dlistL (valuesL xs fCC)) fNoCache with
    | some _ => 0
    | none => match findO (dlistL (valuesL xs fCC)) fSMax with
      | some d => numF d.value
      | none => match findO (dlistL (valuesL xs fCC)) sMaxAge with
        | some d => numF d.value
        | none => expI xs got := by
  unfold lifeF surF
  rw [age_bnd]
  cases (ctlF xs dev).hasAge
  · simp only [lifeR, cond_false]
    unfold ruleF
    cases findO (dlistL (valuesL xs fCC)) fNoCache with
    | some d => rfl
    | none =>
      simp only [cond_false]
      cases findO (dlistL (valuesL xs fCC)) fSMax with
      | some d => rfl
      | none =>
        simp only [cond_false]
        cases findO (dlistL (valuesL xs fCC)) sMaxAge with
        | some d => rfl
        | none =>
          simp only [cond_false]
          unfold expF expI
          have hw : (getL xs fExp).2 = false → (whenF xs fExp got).2 = false := fun h => by unfold whenF; rw [h]; rfl
          cases hg : (getL xs fExp).2
          · rw [hw hg]; rfl
          · cases (whenF xs fExp got).2 <;> rfl
  · rfl
set_option maxHeartbeats 32000000 in
theorem rlife_any (st mi asked got : Int) (re bo : ByteArray) (A V : Option Addr) (n c m d : Nat) (xs : List Fld) (dev : ByteArray) (w : World) (hr : Rd A n 2 (fldsV xs) w) (hn : n ≤ 1000) (hs : sumF xs ≤ 800000) (hg : -9223372036854775808 ≤ got ∧ got ≤ 9223372036854775807) :
    Calls Tryz.prog 20 #[entV st re mi A n c bo asked got V m d, .string dev] w fun e w' => e = .returned (.int .i64 (lifeF xs got dev.data.toList)) ∧ Below w.heap.size w w' := by
  obtain ⟨W1, hW1⟩ : ∃ W1, w.alloc (.cells #[.int .i64 st, .string re, .int .i64 mi, .slice A n c, .string bo, .int .i64 asked, .int .i64 got, .slice V m d] 30) = W1 := ⟨_, rfl⟩
  have b1 : Below w.heap.size w W1 := by rw [← hW1]; exact (Below.refl w.heap.size w).alloc (Nat.le_refl _) _
  have x1 : EntAt w.heap.size st re mi A n c bo asked got V m d W1 := by rw [← hW1]; exact heap_new w _ _ rfl
  have hfl := hr.fld
  have k0 := rcontrol_any st mi asked got re bo A V n c m d xs dev W1 (hr.below b1) hn hs
  have k1 := fun W (hb : Below W1.heap.size W1 W) => rvalues_any A n c xs ⟨#[99, 97, 99, 104, 101, 45, 99, 111, 110, 116, 114, 111, 108]⟩ W ((hr.below b1).below hb) (by omega) (fun f hf => by have := sumF_mem hf; omega) (by decide)
  rw [show (⟨#[99, 97, 99, 104, 101, 45, 99, 111, 110, 116, 114, 111, 108]⟩ : ByteArray).data.toList = fCC from rfl] at k1
  have hvm : ∀ v ∈ valuesL xs fCC, v.length ≤ 800000 := fun v hv => by have := valuesL_sum hv; omega
  have hvl := valuesL_le xs fCC
  have k2 := fun a c' W (h : Rd a (valuesL xs fCC).length 1 (strsV (valuesL xs fCC)) W) => rdlist_any a (valuesL xs fCC).length c' (valuesL xs fCC) W h (by omega) (fun v hv => by have := hvm v hv; omega)
  have hfew := dlistL_few (valuesL xs fCC)
  have hln := dlist_lens hvm
  have k3 := fun a c' (nm : ByteArray) W (hnm : nm.size ≤ 1000) (h : Rd a (dlistL (valuesL xs fCC)).length 4 (dirsV (dlistL (valuesL xs fCC))) W) => rfind_any a (dlistL (valuesL xs fCC)).length c' (dlistL (valuesL xs fCC)) nm W h (by omega) (fun x hx => by have := (hln x hx).1; omega) (by omega)
  have k3a := fun a c' W h => k3 a c' ⟨#[110, 111, 45, 99, 97, 99, 104, 101]⟩ W (by decide) h
  have k3b := fun a c' W h => k3 a c' ⟨#[115, 45, 109, 97, 120, 97, 103, 101]⟩ W (by decide) h
  have k3c := fun a c' W h => k3 a c' ⟨#[109, 97, 120, 45, 97, 103, 101]⟩ W (by decide) h
  rw [show (⟨#[110, 111, 45, 99, 97, 99, 104, 101]⟩ : ByteArray).data.toList = fNoCache from rfl] at k3a
  rw [show (⟨#[115, 45, 109, 97, 120, 97, 103, 101]⟩ : ByteArray).data.toList = fSMax from rfl] at k3b
  rw [show (⟨#[109, 97, 120, 45, 97, 103, 101]⟩ : ByteArray).data.toList = sMaxAge from rfl] at k3c
  have hval : ∀ nm x, findO (dlistL (valuesL xs fCC)) nm = some x → x.value.length ≤ 1000000 := fun nm x hx => by
    have := (hln x (List.mem_of_find?_eq_some hx)).2; omega
  have hv2 := hval fSMax; have hv3 := hval sMaxAge
  have k5 := fun W (hb : Below W1.heap.size W1 W) => rwhen_any st mi asked got re bo A V n c m d xs W ((hr.below b1).below hb) hn hs ⟨#[101, 120, 112, 105, 114, 101, 115]⟩ (by decide)
  have k6 := fun W (hb : Below W1.heap.size W1 W) => rwhen_any st mi asked got re bo A V n c m d xs W ((hr.below b1).below hb) hn hs ⟨#[100, 97, 116, 101]⟩ (by decide)
  rw [show (⟨#[101, 120, 112, 105, 114, 101, 115]⟩ : ByteArray).data.toList = fExp from rfl] at k5
  rw [show (⟨#[100, 97, 116, 101]⟩ : ByteArray).data.toList = fDate from rfl] at k6
  have hl0 := life_eq xs got dev.data.toList
  have hd5 := whenF_in xs fExp got
  have hd6 := whenF_in xs fDate got
  rw [hl0]
  clear k3 hval hln hfew hvm hvl hl0 hfl
  unfold expI
  unfold whenI at k5 k6
  generalize whenF xs fExp got = we at *
  generalize whenF xs fDate got = wd at *
  obtain ⟨t5, i5⟩ := we
  obtain ⟨t6, i6⟩ := wd
  simp only at k5 k6 hd5 hd6 ⊢
  have k7 := fun W => rsince_any t6 t5 W (by omega) (by omega) (by omega) (by omega)
  have k8 := fun W => rsince_any got t5 W (by omega) (by omega) (by omega) (by omega)
  generalize findO (dlistL (valuesL xs fCC)) fNoCache = q1 at *
  generalize findO (dlistL (valuesL xs fCC)) fSMax = q2 at *
  generalize findO (dlistL (valuesL xs fCC)) sMaxAge = q3 at *
  generalize dlistL (valuesL xs fCC) = dl at *
  generalize valuesL xs fCC = vl at *
  generalize ctlF xs dev.data.toList = kk at *
  generalize hS6 : since t6 t5 = s65 at *
  generalize hS5 : since got t5 = sg5 at *
  have HS6 := Lib.hid hS6; have HS5 := Lib.hid hS5
  clear hS6 hS5
  obtain ⟨o0, o1, o2, o3, o4, o5⟩ := kk
  unfold ctlV at k0
  simp only at k0 ⊢
  have X1 := Lib.hid x1; have HW1 := Lib.hid hW1; have B1 := Lib.hid b1
  have K0 := Lib.hid k0; have K1 := Lib.hid k1; have K2 := Lib.hid k2; have K3A := Lib.hid k3a; have K3B := Lib.hid k3b; have K3C := Lib.hid k3c; have K5 := Lib.hid k5; have K6 := Lib.hid k6; have K7 := Lib.hid k7; have K8 := Lib.hid k8; have HV2 := Lib.hid hv2; have HV3 := Lib.hid hv3
  obtain ⟨c0, c1, c2, c3, c4, c5, c6, c7, _⟩ := x1.cells
  clear hW1 x1 k0 k1 k2 k3a k3b k3c k5 k6 k7 k8 hr hs b1 hv2 hv3 hg
  unfold entV at *
  go_enter Tryz.func20, Tryz.ntmps20
  go_upto_region 1 with (fail)
  rw [HW1.out]
  go_wp2_with fail
  (with_reducible refine K0.out.mono ?_)
  rintro e w0 ⟨rfl, hb0⟩
  clear c0 c1 c2 c3 c4 c5 c6 c7
  obtain ⟨W2, hW2⟩ : ∃ W, w0.alloc (.cells #[.bool o0, .bool o1, .bool o2, .bool o3, .int .i64 o4, .int .i64 o5] 36) = W := ⟨_, rfl⟩
  have hB2 : Below W1.heap.size W1 W2 := by rw [← hW2]; exact hb0.alloc hb0.size _
  have d3 : W2.cell? ⟨w0.heap.size, 3, none⟩ = some (.bool o3) := by rw [← hW2]; exact World.cell?_alloc_mark w0 _ _ _ 3
  have d4 : W2.cell? ⟨w0.heap.size, 4, none⟩ = some (.int .i64 o4) := by rw [← hW2]; exact World.cell?_alloc_mark w0 _ _ _ 4
  have HW2 := Lib.hid hW2
  clear hW2 hb0
  go_upto_region 2 with (fail)
  rw [HW2.out]
  cases o3
  rotate_left
  · go_wp2
    all_goals (go_ret; exact ⟨rfl, bt B1.out hB2⟩)
  clear d4
  obtain ⟨c0, c1, c2, c3, c4, c5, c6, c7, _⟩ := (X1.out.below hB2).cells
  go_wp2_with fail
  (with_reducible refine (K1.out _ hB2).mono ?_)
  rintro e w3 ⟨a3, n3, rfl, ho3, hb3⟩
  have R3 := Lib.hid (OwnS.rd ho3).2
  clear ho3 d3 c0 c1 c2 c3 c4 c5 c6 c7
  go_wp2_with fail
  (with_reducible refine (K2.out _ _ _ R3.out).mono ?_)
  rintro e w4 ⟨a4, n4, rfl, ho4, hb4⟩
  have R4 := Lib.hid (OwnD.rd ho4).2
  have hB4 := bt (bt hB2 hb3) hb4
  clear ho4 R3 hb3 hb4
  cases q1 with
  | some x =>
    obtain ⟨dn, dv, dh, df⟩ := x
    unfold saidV at K3A
    simp only at K3A ⊢
    go_wp2_with fail
    (with_reducible refine (K3A.out _ _ _ R4.out).mono ?_)
    rintro e w5 ⟨rfl, hb5⟩
    have hB5 := bt hB4 hb5
    have hB6 := hB5.alloc hB5.size (.cells #[.string ⟨dn.toArray⟩, .string ⟨dv.toArray⟩, .bool dh, .string ⟨df.toArray⟩] 84)
    clear R4 K3B K3C K5 K6 K7 K8 HV2 HV3
    go_wp2
    go_ret
    exact ⟨rfl, bt B1.out hB6⟩
  | none =>
  unfold saidV at K3A
  simp only at K3A ⊢
  go_wp2_with fail
  (with_reducible refine (K3A.out _ _ _ R4.out).mono ?_)
  rintro e w5 ⟨rfl, hbw5⟩
  have hB5 := bt hB4 hbw5
  have R5 := Lib.hid (R4.out.below hbw5)
  clear hbw5 R4
  obtain ⟨W6, hW6⟩ : ∃ W, w5.alloc (.cells #[.string ⟨#[]⟩, .string ⟨#[]⟩, .bool false, .string ⟨#[]⟩] 84) = W := ⟨_, rfl⟩
  have aW6 : Below w5.heap.size w5 W6 := by rw [← hW6]; exact (Below.refl w5.heap.size w5).alloc (Nat.le_refl _) _
  have hB6 := bt hB5 aW6
  have R6 := Lib.hid (R5.out.below aW6)
  have HW6 := Lib.hid hW6
  clear R5
  clear hW6 aW6 K3A
  go_upto_region 6 with (fail)
  rw [HW6.out]
  cases q2 with
  | some x =>
    have hv := HV2.out x rfl
    obtain ⟨dn, dv, dh, df⟩ := x
    unfold saidV at K3B
    simp only at K3B hv ⊢
    go_wp2_with fail
    (with_reducible refine (K3B.out _ _ _ R6.out).mono ?_)
    rintro e w7 ⟨rfl, hb7⟩
    have hB7 := bt hB6 hb7
    obtain ⟨W8, hW8⟩ : ∃ W, w7.alloc (.cells #[.string ⟨dn.toArray⟩, .string ⟨dv.toArray⟩, .bool dh, .string ⟨df.toArray⟩] 84) = W := ⟨_, rfl⟩
    have a8 : Below w7.heap.size w7 W8 := by rw [← hW8]; exact (Below.refl w7.heap.size w7).alloc (Nat.le_refl _) _
    have e0 : W8.cell? ⟨w7.heap.size, 0, none⟩ = some (.string ⟨dn.toArray⟩) := by rw [← hW8]; exact World.cell?_alloc_mark w7 _ _ _ 0
    have e1 : W8.cell? ⟨w7.heap.size, 1, none⟩ = some (.string ⟨dv.toArray⟩) := by rw [← hW8]; exact World.cell?_alloc_mark w7 _ _ _ 1
    have e2 : W8.cell? ⟨w7.heap.size, 2, none⟩ = some (.bool dh) := by rw [← hW8]; exact World.cell?_alloc_mark w7 _ _ _ 2
    have e3 : W8.cell? ⟨w7.heap.size, 3, none⟩ = some (.string ⟨df.toArray⟩) := by rw [← hW8]; exact World.cell?_alloc_mark w7 _ _ _ 3
    have hB8 := bt hB7 a8
    have HW8 := Lib.hid hW8
    have kn := rnumber_any dn dv df dh W8 hv
    have KN := Lib.hid kn
    clear R6 K3C K5 K6 K7 K8 HV2 HV3 kn hW8 a8 hv
    go_upto_region 9 with (fail)
    rw [HW8.out]
    go_wp2_with fail
    (with_reducible refine KN.out.mono ?_)
    rintro e w9 ⟨rfl, hb9⟩
    clear e0 e1 e2 e3
    go_wp2
    go_ret
    exact ⟨rfl, bt B1.out (bt hB8 hb9)⟩
  | none =>
  unfold saidV at K3B
  simp only at K3B ⊢
  go_wp2_with fail
  (with_reducible refine (K3B.out _ _ _ R6.out).mono ?_)
  rintro e w7 ⟨rfl, hbw7⟩
  have hB7 := bt hB6 hbw7
  have R7 := Lib.hid (R6.out.below hbw7)
  clear hbw7 R6
  obtain ⟨W8, hW8⟩ : ∃ W, w7.alloc (.cells #[.string ⟨#[]⟩, .string ⟨#[]⟩, .bool false, .string ⟨#[]⟩] 84) = W := ⟨_, rfl⟩
  have aW8 : Below w7.heap.size w7 W8 := by rw [← hW8]; exact (Below.refl w7.heap.size w7).alloc (Nat.le_refl _) _
  have hB8 := bt hB7 aW8
  have R8 := Lib.hid (R7.out.below aW8)
  have HW8 := Lib.hid hW8
  clear R7
  clear hW8 aW8 K3B HV2
  go_upto_region 9 with (fail)
  rw [HW8.out]
  cases q3 with
  | some x =>
    have hv := HV3.out x rfl
    obtain ⟨dn, dv, dh, df⟩ := x
    unfold saidV at K3C
    simp only at K3C hv ⊢
    go_wp2_with fail
    (with_reducible refine (K3C.out _ _ _ R8.out).mono ?_)
    rintro e w9 ⟨rfl, hb9⟩
    have hB9 := bt hB8 hb9
    obtain ⟨WA, hWA⟩ : ∃ W, w9.alloc (.cells #[.string ⟨dn.toArray⟩, .string ⟨dv.toArray⟩, .bool dh, .string ⟨df.toArray⟩] 84) = W := ⟨_, rfl⟩
    have a8 : Below w9.heap.size w9 WA := by rw [← hWA]; exact (Below.refl w9.heap.size w9).alloc (Nat.le_refl _) _
    have e0 : WA.cell? ⟨w9.heap.size, 0, none⟩ = some (.string ⟨dn.toArray⟩) := by rw [← hWA]; exact World.cell?_alloc_mark w9 _ _ _ 0
    have e1 : WA.cell? ⟨w9.heap.size, 1, none⟩ = some (.string ⟨dv.toArray⟩) := by rw [← hWA]; exact World.cell?_alloc_mark w9 _ _ _ 1
    have e2 : WA.cell? ⟨w9.heap.size, 2, none⟩ = some (.bool dh) := by rw [← hWA]; exact World.cell?_alloc_mark w9 _ _ _ 2
    have e3 : WA.cell? ⟨w9.heap.size, 3, none⟩ = some (.string ⟨df.toArray⟩) := by rw [← hWA]; exact World.cell?_alloc_mark w9 _ _ _ 3
    have hBA := bt hB9 a8
    have HWA := Lib.hid hWA
    have kn := rnumber_any dn dv df dh WA hv
    have KN := Lib.hid kn
    clear R8 K5 K6 K7 K8 HV3 kn hWA a8 hv
    go_upto_region 12 with (fail)
    rw [HWA.out]
    go_wp2_with fail
    (with_reducible refine KN.out.mono ?_)
    rintro e wz ⟨rfl, hbz⟩
    clear e0 e1 e2 e3
    go_wp2
    go_ret
    exact ⟨rfl, bt B1.out (bt hBA hbz)⟩
  | none =>
  unfold saidV at K3C
  simp only at K3C ⊢
  go_wp2_with fail
  (with_reducible refine (K3C.out _ _ _ R8.out).mono ?_)
  rintro e w9 ⟨rfl, hbw9⟩
  have hB9 := bt hB8 hbw9
  have R9 := Lib.hid (R8.out.below hbw9)
  clear hbw9 R8
  obtain ⟨WA, hWA⟩ : ∃ W, w9.alloc (.cells #[.string ⟨#[]⟩, .string ⟨#[]⟩, .bool false, .string ⟨#[]⟩] 84) = W := ⟨_, rfl⟩
  have aWA : Below w9.heap.size w9 WA := by rw [← hWA]; exact (Below.refl w9.heap.size w9).alloc (Nat.le_refl _) _
  have hBA := bt hB9 aWA
  have R10 := Lib.hid (R9.out.below aWA)
  have HWA := Lib.hid hWA
  clear R9
  clear hWA aWA K3C HV3
  obtain ⟨c0, c1, c2, c3, c4, c5, c6, c7, _⟩ := (X1.out.below hBA).cells
  go_upto_region 12 with (fail)
  rw [HWA.out]
  go_wp2_with fail
  (with_reducible refine (K5.out _ hBA).mono ?_)
  rintro e wb ⟨rfl, hbb⟩
  have hBB := bt hBA hbb
  clear c0 c1 c2 c3 c4 c5 c6 c7
  cases i5
  · simp only [cond_false]
    clear K5 K6 K7 K8 R10 hbb
    go_wp2
    go_ret
    exact ⟨rfl, bt B1.out hBB⟩
  · simp only [cond_true]
    have t1 : decide (t5 < 0) = false := by simp; omega
    obtain ⟨c0, c1, c2, c3, c4, c5, c6, c7, _⟩ := (X1.out.below hBB).cells
    go_wp2_with fail
    (with_reducible refine (K6.out _ hBB).mono ?_)
    rintro e wc ⟨rfl, hbc⟩
    have hBC := bt hBB hbc
    clear c0 c1 c2 c3 c4 c5 c6 c7
    cases i6
    · simp only [cond_false]
      obtain ⟨c0, c1, c2, c3, c4, c5, c6, c7, _⟩ := (X1.out.below hBC).cells
      go_wp2_with fail
      (with_reducible refine (K8.out _).mono ?_)
      rintro e wf ⟨rfl, rfl⟩
      clear c0 c1 c2 c3 c4 c5 c6 c7
      go_wp2
      go_ret
      exact ⟨by rw [← HS5.out]; rfl, bt B1.out hBC⟩
    · simp only [cond_true]
      have t2 : decide (t6 < 0) = false := by simp; omega
      go_wp2_with fail
      (with_reducible refine (K7.out _).mono ?_)
      rintro e wf ⟨rfl, rfl⟩
      go_wp2
      go_ret
      exact ⟨by rw [← HS6.out]; rfl, bt B1.out hBC⟩
set_option maxHeartbeats 16000000 in
theorem rage_any (st mi asked got now : Int) (re bo : ByteArray) (A V : Option Addr) (n c m d : Nat) (xs : List Fld) (w : World) (hr : Rd A n 2 (fldsV xs) w) (hn : n ≤ 1000) (hs : sumF xs ≤ 800000) (hg : -9223372036854775808 ≤ got ∧ got ≤ 9223372036854775807) (ha : -9223372036854775808 ≤ asked ∧ asked ≤ 9223372036854775807) (hw : -9223372036854775808 ≤ now ∧ now ≤ 9223372036854775807) :
    Calls Tryz.prog 16 #[entV st re mi A n c bo asked got V m d, .int .i64 now] w fun e w' => e = .returned (.int .i64 (ageF xs asked got now)) ∧ Below w.heap.size w w' := by
  obtain ⟨W1, hW1⟩ : ∃ W1, w.alloc (.cells #[.int .i64 st, .string re, .int .i64 mi, .slice A n c, .string bo, .int .i64 asked, .int .i64 got, .slice V m d] 30) = W1 := ⟨_, rfl⟩
  have b1 : Below w.heap.size w W1 := by rw [← hW1]; exact (Below.refl w.heap.size w).alloc (Nat.le_refl _) _
  have x1 : EntAt w.heap.size st re mi A n c bo asked got V m d W1 := by rw [← hW1]; exact heap_new w _ _ rfl
  have hfl := hr.fld
  have k1 := rwhen_any st mi asked got re bo A V n c m d xs W1 (hr.below b1) hn hs ⟨#[100, 97, 116, 101]⟩ (by decide)
  rw [show (⟨#[100, 97, 116, 101]⟩ : ByteArray).data.toList = fDate from rfl] at k1
  have k2 := fun W (hb : Below w.heap.size w W) => rget_any A n c xs ⟨#[97, 103, 101]⟩ W (hr.below hb) (by omega) (by omega) (by decide)
  rw [show (⟨#[97, 103, 101]⟩ : ByteArray).data.toList = fAge from rfl] at k2
  have hgl := getL_le xs fAge
  have hd := whenF_in xs fDate got
  have hag : ageF xs asked got now = addB (max (bif (whenF xs fDate got).2 then since (whenF xs fDate got).1 got else 0) (addB (numF (getL xs fAge).1) (since asked got))) (since got now) := rfl
  rw [hag]
  clear hag
  unfold getV at k2
  unfold whenI at k1
  generalize whenF xs fDate got = td at *
  generalize getL xs fAge = g at *
  obtain ⟨gv, gi⟩ := g
  obtain ⟨t2, i2⟩ := td
  simp only at k1 k2 hd hgl ⊢
  have k3 := fun W => rdelta_any ⟨gv.toArray⟩ W (by rw [Lib.size_eq]; show gv.length ≤ _; omega)
  rw [show (⟨gv.toArray⟩ : ByteArray).data.toList = gv from rfl, numF_tuple] at k3
  have hz : deltaOk gv = false → numF gv = 0 := fun h => by unfold numF; rw [h]; rfl
  have k4 := fun W => rsince_any t2 got W (by omega) (by omega) (by omega) (by omega)
  have k5 := fun W => rsince_any asked got W (by omega) (by omega) (by omega) (by omega)
  have k6 := fun W => rsince_any got now W (by omega) (by omega) (by omega) (by omega)
  have s1 := since_lo t2 got; have s1' := since_hi t2 got
  have k7 := fun W => radd_any (numF gv) (since asked got) W
  have k8 := fun p W => radd_any p (since got now) W
  have u1 := addB_lo (numF gv) (since asked got); have u2 := addB_hi (numF gv) (since asked got)
  generalize since t2 got = sd at *
  generalize since asked got = sa at *
  generalize since got now = sn at *
  generalize deltaOk gv = ok at *
  generalize numF gv = nv at *
  generalize addB nv sa = told at *
  have X1 := Lib.hid x1; have HW1 := Lib.hid hW1; have K1 := Lib.hid k1; have K2 := Lib.hid k2; have B1 := Lib.hid b1
  have K3 := Lib.hid k3; have K4 := Lib.hid k4; have K5 := Lib.hid k5; have K6 := Lib.hid k6; have K7 := Lib.hid k7; have K8 := Lib.hid k8; have HZ := Lib.hid hz
  obtain ⟨c0, c1, c2, c3, c4, c5, c6, c7, _⟩ := x1.cells
  clear hW1 k1 k2 k3 k4 k5 k6 k7 k8 x1 hr hs b1 hg ha hw hgl hfl hz
  obtain ⟨ap, hap⟩ : ∃ ap, (bif i2 then sd else 0) = ap := ⟨_, rfl⟩
  rw [hap]
  unfold entV at *
  go_enter Tryz.func16, Tryz.ntmps16
  go_upto_region 2 with (fail)
  rw [HW1.out]
  go_wp2_with fail
  (with_reducible refine K1.out.mono ?_)
  rintro e w2 ⟨rfl, hb2⟩
  have hB2 := bt B1.out hb2
  have HAP := Lib.hid hap
  clear c0 c1 c2 c3 c4 c5 c6 c7 hap
  go_upto_if 14 with (fail)
  go_cut [5] (fun s5 wx => s5 = .int .i64 ap ∧ wx = w2)
  case first =>
    obtain ⟨c0, c1, c2, c3, c4, c5, c6, c7, _⟩ := (X1.out.below hb2).cells
    cases i2
    · have h0 : (0 : Int) = ap := HAP.out
      subst h0
      simp only [cond_false]
      go_wp2
      go_meet
      exact ⟨rfl, rfl⟩
    · have h0 : sd = ap := HAP.out
      subst h0
      simp only [cond_true]
      have t1 : decide (t2 ≥ 0) = true := by simp; omega
      have t1' : decide (0 ≤ t2) = true := by simp; omega
      go_wp2_with fail
      (with_reducible refine (K4.out _).mono ?_)
      rintro e wf ⟨rfl, rfl⟩
      go_wp2
      go_meet
      exact ⟨rfl, rfl⟩
  case rest =>
    obtain ⟨rfl, rfl⟩ := hcut
    have hapb : 0 ≤ ap ∧ ap ≤ 2147483648 := by
      have := HAP.out
      cases i2
      · have h0 : (0 : Int) = ap := this; omega
      · have h0 : sd = ap := this; omega
    have HB2 := Lib.hid hB2
    have X2 := Lib.hid (X1.out.below hb2)
    obtain ⟨wo, rfl⟩ : ∃ wo : World, wo = wc := ⟨_, rfl⟩
    obtain ⟨c0, c1, c2, c3, c4, c5, c6, c7, _⟩ := X2.out.cells
    clear HAP K1 K4 hb2 X1
    go_wp2_with fail
    (with_reducible refine (K2.out _ HB2.out).mono ?_)
    rintro e w3 ⟨rfl, hb3⟩
    have HB3 := Lib.hid (bt HB2.out hb3)
    have X3 := Lib.hid (X2.out.below hb3)
    clear c0 c1 c2 c3 c4 c5 c6 c7 hb3 X2
    go_wp2_with fail
    (with_reducible refine (K3.out _).mono ?_)
    rintro e wf ⟨rfl, rfl⟩
    obtain ⟨c0, c1, c2, c3, c4, c5, c6, c7, _⟩ := X3.out.cells
    have hnv := HZ.out
    cases ok
    all_goals
      try (have hz2 := hnv rfl; subst hz2)
      clear hnv HZ
      go_wp2_with fail
      (with_reducible refine (K5.out _).mono ?_)
      rintro e wf2 ⟨rfl, rfl⟩
      go_wp2_with fail
      (with_reducible refine (K7.out _).mono ?_)
      rintro e wf3 ⟨rfl, rfl⟩
      by_cases hmx : ap > told
      · have t3 : decide (ap > told) = true := by simpa using hmx
        have HM := Lib.hid (by omega : max ap told = ap)
        have K9 := Lib.hid (K8.out ap)
        go_wp2_with fail
        (with_reducible refine (K6.out _).mono ?_)
        rintro e wf4 ⟨rfl, rfl⟩
        go_wp2_with fail
        (with_reducible refine (K9.out _).mono ?_)
        rintro e wf5 ⟨rfl, rfl⟩
        go_wp2
        go_ret
        exact ⟨by rw [HM.out]; rfl, HB3.out⟩
      · have t3 : decide (ap > told) = false := by simpa using hmx
        have HM := Lib.hid (by omega : max ap told = told)
        have K9 := Lib.hid (K8.out told)
        go_wp2_with fail
        (with_reducible refine (K6.out _).mono ?_)
        rintro e wf4 ⟨rfl, rfl⟩
        go_wp2_with fail
        (with_reducible refine (K9.out _).mono ?_)
        rintro e wf5 ⟨rfl, rfl⟩
        go_wp2
        go_ret
        exact ⟨by rw [HM.out]; rfl, HB3.out⟩
set_option maxHeartbeats 8000000 in
theorem rfresh_any (st mi asked got now : Int) (re bo : ByteArray) (A V : Option Addr) (n c m d : Nat) (xs : List Fld) (dev : ByteArray) (w : World) (hr : Rd A n 2 (fldsV xs) w) (hn : n ≤ 1000) (hs : sumF xs ≤ 800000) (hg : -9223372036854775808 ≤ got ∧ got ≤ 9223372036854775807) (ha : -9223372036854775808 ≤ asked ∧ asked ≤ 9223372036854775807) (hw : -9223372036854775808 ≤ now ∧ now ≤ 9223372036854775807) :
    Calls Tryz.prog 18 #[entV st re mi A n c bo asked got V m d, .int .i64 now, .string dev] w fun e w' => e = .returned (.bool (freshF xs asked got now dev.data.toList)) ∧ Below w.heap.size w w' := by
  obtain ⟨W1, hW1⟩ : ∃ W1, w.alloc (.cells #[.int .i64 st, .string re, .int .i64 mi, .slice A n c, .string bo, .int .i64 asked, .int .i64 got, .slice V m d] 30) = W1 := ⟨_, rfl⟩
  have b1 : Below w.heap.size w W1 := by rw [← hW1]; exact (Below.refl w.heap.size w).alloc (Nat.le_refl _) _
  have x1 : EntAt w.heap.size st re mi A n c bo asked got V m d W1 := by rw [← hW1]; exact heap_new w _ _ rfl
  have kc : ∀ w', Below W1.heap.size W1 w' → w'.cell? ⟨w.heap.size, 0, none⟩ = some (.int .i64 st) ∧ w'.cell? ⟨w.heap.size, 1, none⟩ = some (.string re) ∧ w'.cell? ⟨w.heap.size, 2, none⟩ = some (.int .i64 mi) ∧ w'.cell? ⟨w.heap.size, 3, none⟩ = some (.slice A n c) ∧ w'.cell? ⟨w.heap.size, 4, none⟩ = some (.string bo) ∧ w'.cell? ⟨w.heap.size, 5, none⟩ = some (.int .i64 asked) ∧ w'.cell? ⟨w.heap.size, 6, none⟩ = some (.int .i64 got) ∧ w'.cell? ⟨w.heap.size, 7, none⟩ = some (.slice V m d) ∧ Below W1.heap.size W1 w' := fun w' hb => by
    obtain ⟨a0, a1, a2, a3, a4, a5, a6, a7, _⟩ := (x1.below hb).cells
    exact ⟨a0, a1, a2, a3, a4, a5, a6, a7, hb⟩
  have k1 := fun W (hb : Below w.heap.size w W) => rage_any st mi asked got now re bo A V n c m d xs W (hr.below hb) hn hs hg ha hw
  have k2 := fun W (hb : Below w.heap.size w W) => rlife_any st mi asked got re bo A V n c m d xs dev W (hr.below hb) hn hs hg
  unfold freshF
  generalize ageF xs asked got now = ag at *
  generalize lifeF xs got dev.data.toList = lf at *
  have K1 := Lib.hid k1; have K2 := Lib.hid k2; have KC := Lib.hid kc; have HW1 := Lib.hid hW1; have B1 := Lib.hid b1
  have hd0 : Below W1.heap.size W1 W1.drew := (Below.refl _ _).drew
  clear k1 k2 kc hW1 b1 x1 hr hs hg ha hw
  unfold entV at *
  go_enter Tryz.func18, Tryz.ntmps18
  go_upto_region 1 with (fail)
  rw [HW1.out]
  go_wp2_with fail
  refine wp_region_held_drew (S := (fun w' => w'.cell? ⟨w.heap.size, 0, none⟩ = some (.int .i64 st) ∧ w'.cell? ⟨w.heap.size, 1, none⟩ = some (.string re) ∧ w'.cell? ⟨w.heap.size, 2, none⟩ = some (.int .i64 mi) ∧ w'.cell? ⟨w.heap.size, 3, none⟩ = some (.slice A n c) ∧ w'.cell? ⟨w.heap.size, 4, none⟩ = some (.string bo) ∧ w'.cell? ⟨w.heap.size, 5, none⟩ = some (.int .i64 asked) ∧ w'.cell? ⟨w.heap.size, 6, none⟩ = some (.int .i64 got) ∧ w'.cell? ⟨w.heap.size, 7, none⟩ = some (.slice V m d) ∧ Below W1.heap.size W1 w')) (by kernel_rfl) (KC.out _ hd0) (fun hHeld => ?_)
  refine tkS 0 hHeld ?_
  try simp only [Act.put, ps1, ps2, ps3]
  refine tkS 1 hHeld ?_
  try simp only [Act.put, ps1, ps2, ps3]
  refine tkS 3 hHeld ?_
  try simp only [Act.put, ps1, ps2, ps3]
  refine tkS 4 hHeld ?_
  try simp only [Act.put, ps1, ps2, ps3]
  refine wpAnyH_ready (rs := [2]) (by kernel_rfl) (by simp) (AllReadyH.cons (by simp only [List.getElem?_toArray, List.getElem?_cons_succ, List.getElem?_cons_zero]; exact rfl) (fun K hK => ?_) AllReadyH.nil)
  rw [if_pos (by rfl)]
  go_simp
  refine (K1.out _ (bt B1.out hd0)).mono ?_; rintro e w2 ⟨rfl, hb2⟩; have hd1 := bt hd0 hb2; go_wp2_with fail
  refine hK.out _ _ (KC.out _ hd1) (fun hHeld => ?_)
  clear hK K
  try simp only [Act.put, ps1, ps2, ps3]
  refine wpAnyH_ready (rs := [5]) (by kernel_rfl) (by simp) (AllReadyH.cons (by simp only [List.getElem?_toArray, List.getElem?_cons_succ, List.getElem?_cons_zero]; exact rfl) (fun K hK => ?_) AllReadyH.nil)
  rw [if_pos (by rfl)]
  go_simp
  refine (K2.out _ (bt B1.out hd1)).mono ?_; rintro e w3 ⟨rfl, hb3⟩; have hd2 := bt hd1 hb3; go_wp2_with fail
  refine hK.out _ _ (KC.out _ hd2) (fun hHeld => ?_)
  clear hK K
  try simp only [Act.put, ps1, ps2, ps3]
  refine tkS 6 hHeld ?_
  try simp only [Act.put, ps1, ps2, ps3]
  refine tkS 7 hHeld ?_
  try simp only [Act.put, ps1, ps2, ps3]
  refine wpAnyH_done (by kernel_rfl) ?_ _
  clear hHeld
  go_wp2
  go_ret
  exact ⟨rfl, bt B1.out hd2⟩
end Go.Proofs.YtcgdcbnhpbokfaaGreatDoor
