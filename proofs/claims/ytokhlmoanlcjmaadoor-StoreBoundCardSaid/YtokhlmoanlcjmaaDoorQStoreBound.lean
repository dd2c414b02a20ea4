/- Joined out of the texts StBound, StBoundL (wip/tools/merge.py). -/
import Derived.Test.YtokhlmoanlcjmaaDoorPs3
/- StoreBound: the walk of the law (printed by wip/tools/stbound.py). -/
namespace Go.Proofs.YtokhlmoanlcjmaaDoor
open Go.RowKit
set_option maxRecDepth 100000

set_option maxHeartbeats 32000000 in
theorem storeBound_any (b0 b1 : Int) (A : Option Addr) (n c : Nat) (xs : List PAct) (w : World) (h0 : 0 ≤ b0 ∧ b0 < 65536) (h1 : 0 ≤ b1 ∧ b1 < 65536) (hr : Rd A n 12 (pactsV xs) w) (hx : ∀ a ∈ xs, ActR w a) (hn : n ≤ maxLen) (ht : TabN w) :
    Calls Tryd.prog 5 #[.agg #[.int .u16 b0, .int .u16 b1], .slice A n c] w fun e w' => e = .returned (.bool true) ∧ Below w.heap.size w w' := by
  obtain ⟨W1, hW1⟩ : ∃ W1, w.alloc (.cells #[.int .u16 b0, .int .u16 b1] 23) = W1 := ⟨_, rfl⟩
  have bw1 : Below w.heap.size w W1 := by rw [← hW1]; exact (Below.refl w.heap.size w).alloc (Nat.le_refl _) _
  have x1 : W1.heap[w.heap.size]? = some (.cells #[.int .u16 b0, .int .u16 b1] 23 (0, 0)) := by rw [← hW1]; exact heap_new w _ _ rfl
  have c0 := (of_heap x1 0).1; have c1 := (of_heap x1 1).1
  simp only [List.getElem?_toArray, List.getElem?_cons_succ, List.getElem?_cons_zero] at c0 c1
  have HW1 := Lib.hid hW1; have HR := Lib.hid hr; have HX := Lib.hid hx; have HT := Lib.hid ht
  clear hW1 x1 hr hx ht
  go_enter Tryd.func5, Tryd.ntmps5
  go_upto_region 1 with (fail)
  rw [HW1.out]
  go_region
  obtain ⟨nn, hnn⟩ : ∃ nn, 1 + b0 % 8 = nn := ⟨_, rfl⟩
  obtain ⟨mm, hmm⟩ : ∃ mm, 100 + b1 % 5000 = mm := ⟨_, rfl⟩
  rw [hnn, hmm]
  have hn1 : 1 ≤ nn ∧ nn ≤ 8 := by omega
  have hm1 : 100 ≤ mm ∧ mm ≤ 5099 := by omega
  have bw2 := bw1.drew
  have K1 := Lib.hid (live_new nn mm w W1.drew bw2 (by omega) (by omega))
  clear hnn hmm c0 c1 bw1 bw2 h0 h1 HW1
  generalize W1.drew = W1d at *
  go_wp2_with fail
  (with_reducible refine K1.out.mono ?_)
  rintro e w2 ⟨sb, bl, rfl, hl2⟩
  have hb2 := hl2.base
  have k2 := few19_any A n c xs w2 (HR.out.below hb2) (fun a ha => (HX.out a ha).below hb2) hn
  have HL2 := Lib.hid hl2
  clear hl2 K1
  cases hf : few19 xs
  · rw [hf] at k2
    have K2 := Lib.hid k2
    clear k2
    go_wp2_with fail
    (with_reducible refine K2.out.mono ?_)
    rintro e w3 ⟨rfl, hb3⟩
    have k3 := awake19_any w3 (HT.out.on (bt hb2 hb3))
    have K3 := Lib.hid k3
    have HB3 := Lib.hid (bt hb2 hb3)
    clear k3 hb2 hb3 K2
    go_wp2_with fail
    (with_reducible refine K3.out.mono ?_)
    rintro e w4 ⟨rfl, hb4⟩
    go_wp2
    go_ret
    exact ⟨rfl, bt HB3.out hb4⟩
  · rw [hf] at k2
    have K2 := Lib.hid k2
    obtain ⟨hlen, hok⟩ := few19_yes hf
    have HOK := Lib.hid hok
    clear k2 hok hf
    go_wp2_with fail
    (with_reducible refine K2.out.mono ?_)
    rintro e w3 ⟨rfl, hb3⟩
    have HL3 := Lib.hid (HL2.out.below hb3)
    clear hb2 hb3 K2 HL2
    obtain rfl := HR.out.pact
    go_wp2_with fail
    go_loopw [8] (fun i wr => ∃ (k : Nat) (es : List Ent) (put : Int), k ≤ xs.length ∧ i = .int .i64 k ∧ 0 ≤ put ∧ put ≤ k ∧ Hid (Live w wr sb bl nn mm es put)) (fun i _ => xs.length - (intOf i).toNat)
    case atStart => exact ⟨0, [], 0, Nat.zero_le _, rfl, by omega, by omega, HL3⟩
    case round =>
      clear HL3
      obtain ⟨k, es, put, hk, rfl, hp0, hp1, HL⟩ := hrel
      by_cases hlt : k < xs.length
      · have hbw := HL.out.base
        obtain ⟨b, o, rfl, hlb, hcell⟩ := (HR.out.below hbw).pact_at (k := k) hlt
        have ha := HX.out xs[k] (List.getElem_mem _)
        have hoa := okA_yes (HOK.out xs[k] (List.getElem_mem _))
        generalize xs[k] = a at *
        have c0 : wr.cell? ⟨b, o + k * 12, none⟩ = some (.int .i64 a.what) := hcell 0 _ rfl; have c1 := hcell 1 _ rfl; have c2 := hcell 2 _ rfl; have c3 := hcell 3 _ rfl; have c4 := hcell 4 _ rfl; have c5 := hcell 5 _ rfl; have c6 := hcell 6 _ rfl; have c7 := hcell 7 _ rfl; have c8 := hcell 8 _ rfl; have c9 := hcell 9 _ rfl; have c10 := hcell 10 _ rfl; have c11 := hcell 11 _ rfl
        obtain ⟨W, hW⟩ : ∃ W, wr.alloc (.cells #[.int .i64 a.what, .int .i64 a.num, .string ⟨a.key.toArray⟩, .int .i64 a.st, .string a.re, .int .i64 a.mi, .slice a.fA a.fn a.fc, .string a.bo, .int .i64 a.asked, .int .i64 a.got, .slice a.vA a.vn a.vc, .slice a.rA a.rn a.rc] 35) = W := ⟨_, rfl⟩
        have bW : Below wr.heap.size wr W := by rw [← hW]; exact (Below.refl _ _).alloc (Nat.le_refl _) _
        have xW : W.heap[wr.heap.size]? = some (.cells #[.int .i64 a.what, .int .i64 a.num, .string ⟨a.key.toArray⟩, .int .i64 a.st, .string a.re, .int .i64 a.mi, .slice a.fA a.fn a.fc, .string a.bo, .int .i64 a.asked, .int .i64 a.got, .slice a.vA a.vn a.vc, .slice a.rA a.rn a.rc] 35 (0, 0)) := by rw [← hW]; exact heap_new wr _ _ rfl
        have hLW := HL.out.below bW
        have HW := Lib.hid hW; have HLW := Lib.hid hLW; have HA := Lib.hid ha
        clear hcell hW hLW HL ha
        have hml : maxLen = 9223372036854775807 := rfl
        go_upto_region 11 with (fail)
        rw [HW.out]
        have d0 := (of_heap xW 0).1; have d1 := (of_heap xW 1).1; have d2 := (of_heap xW 2).1; have d3 := (of_heap xW 3).1; have d4 := (of_heap xW 4).1; have d5 := (of_heap xW 5).1; have d6 := (of_heap xW 6).1; have d7 := (of_heap xW 7).1; have d8 := (of_heap xW 8).1; have d9 := (of_heap xW 9).1; have d10 := (of_heap xW 10).1; have d11 := (of_heap xW 11).1; have dz := (of_heap xW 0).2.2
        simp only [List.getElem?_toArray, List.getElem?_cons_succ, List.getElem?_cons_zero] at d0 d1 d2 d3 d4 d5 d6 d7 d8 d9 d10 d11
        clear c0 c1 c2 c3 c4 c5 c6 c7 c8 c9 c10 c11
        have hw5 := HA.out.what
        go_upto_region 13 with (fail)
        generalize hrr : a.what.tmod 5 = r at *
        obtain ⟨ho1, ho2, ho3, ho4, ho5, ho6, ho7⟩ := hoa
        have hsf := sumF_few ho5; have hsv := sumF_few ho6
        have hpb : 0 ≤ put ∧ put ≤ 1000 := by omega
        have XW := Lib.hid xW
        clear hrr xW hw5
        by_cases r0 : r = 0
        · subst r0
          have hszn := sizeZ_nn ⟨a.key.toArray⟩ a.re a.bo a.fl a.vl
          have kp := live_put HLW.out a.key a.st a.mi a.asked a.got a.re a.bo a.fA a.vA a.fn a.fc a.vn a.vc a.fl a.vl HA.out.f HA.out.v (by omega) (by omega) (by omega) (by omega) (by omega) (by omega) (by omega) hpb HT.out
          have hhas := fun x => putE_has (n := nn) (m := mm) hn1.1 (k := nameB a.key a.vl) (Int.le_of_lt hszn) x es
          simp only [fun x => (hhas x).1] at kp
          have kz := fun W' (hb : Below w.heap.size w W') => sizeOf_any ⟨a.key.toArray⟩ a.st a.mi a.asked a.got a.re a.bo a.fA a.vA a.fn a.fc a.vn a.vc a.fl a.vl W' (HA.out.f.below hb) (HA.out.v.below hb) (by have := HA.out.f.fld; omega) (by have := HA.out.v.fld; omega) (by omega) (by omega) (by rw [mkS_size]; omega) (by omega) (by omega)
          unfold entV at kp kz
          generalize sizeZ ⟨a.key.toArray⟩ a.re a.bo a.fl a.vl = sz at *
          generalize nameB a.key a.vl = nm at *
          have KP := Lib.hid kp; have KZ := Lib.hid kz; have HHAS := Lib.hid hhas
          clear kp kz hhas
          go_wp2_with fail
          (with_reducible refine KP.out.mono ?_)
          rintro e w5 ⟨x, hx, rfl, hl5, hkp⟩
          have x5 := hkp.2 _ _ _ _ XW.out (by decide) (by decide) (by decide)
          clear d0 d1 d2 d3 d4 d5 d6 d7 d8 d9 d10 d11 KP hkp
          have d0 := (of_heap x5 0).1; have d1 := (of_heap x5 1).1; have d2 := (of_heap x5 2).1; have d3 := (of_heap x5 3).1; have d4 := (of_heap x5 4).1; have d5 := (of_heap x5 5).1; have d6 := (of_heap x5 6).1; have d7 := (of_heap x5 7).1; have d8 := (of_heap x5 8).1; have d9 := (of_heap x5 9).1; have d10 := (of_heap x5 10).1; have d11 := (of_heap x5 11).1
          simp only [List.getElem?_toArray, List.getElem?_cons_succ, List.getElem?_cons_zero] at d0 d1 d2 d3 d4 d5 d6 d7 d8 d9 d10 d11
          have K5 := Lib.hid (KZ.out _ hl5.base)
          have HL4 := Lib.hid hl5
          have X5 := Lib.hid x5
          clear hl5 x5 KZ
          by_cases hle : sz ≤ mm
          · obtain ⟨q, hq⟩ := (HHAS.out x).2 hle
            rw [hq] at HL4
            have hdl : decide (sz ≤ mm) = true := by simpa using hle
            rw [hdl]
            go_wp2_with fail
            (with_reducible refine K5.out.mono ?_)
            rintro e w6 ⟨rfl, hb6⟩
            have hl6 := HL4.out.below hb6
            have x6 := Kept.of_below hb6 |>.2 _ _ _ _ X5.out (by decide) (by decide) (by decide)
            have KK6 := Lib.hid (live_keys hl6)
            have HL6 := Lib.hid hl6; have X6 := Lib.hid x6
            clear hl6 x6 hb6 K5 d0 d1 d2 d3 d4 d5 d6 d7 d8 d9 d10 d11
            go_wp2_with fail
            (with_reducible refine KK6.out.mono ?_)
            rintro e w7 ⟨ka, kc, rfl, hO, hb7⟩
            have hkl : ((q ++ [(⟨nm, sz, x⟩ : Ent)]).map fun e => e.x.key.data.toList) = (q.map fun e => e.x.key.data.toList) ++ [a.key] := by
              rw [List.map_append]
              show _ ++ [x.key.data.toList] = _
              rw [hx.key]
            rw [hkl] at hO ⊢
            generalize (q.map fun e => e.x.key.data.toList) = kq at *
            obtain ⟨kb, ko, rfl, hkb, f1⟩ := hO.rd.2.str_at (k := kq.length) (by simp)
            have f1e : (kq ++ [a.key])[kq.length]'(by simp) = a.key := by simp
            rw [f1e] at f1
            have hLn : (kq ++ [a.key]).length = kq.length + 1 := by simp
            rw [hLn]
            have x7 := Kept.of_below hb7 |>.2 _ _ _ _ X6.out (by decide) (by decide) (by decide)
            have d2 := (of_heap x7 2).1
            simp only [List.getElem?_toArray, List.getElem?_cons_succ, List.getElem?_cons_zero] at d2
            have hql : kq.length ≤ 5000 := by
              have := HL4.out.ends
              have e1 := congrArg List.length hkl
              rw [List.length_map, List.length_append, List.length_append] at e1
              have := this.1
              rw [List.length_append] at this
              simp only [List.length_cons, List.length_nil] at e1 this
              omega
            have HL7 := Lib.hid (HL6.out.below hb7)
            clear hO hkl hLn f1e x7 hb7 KK6 HL6
            generalize kq.length = p at *
            have g1 : IntKind.i64.wrap (((p : Nat) : Int) + 1 - 1) = (p : Int) := by rw [IntKind.wrap_i64]; omega
            have g2 : IntKind.i64.wrap ((p : Nat) : Int) = (p : Int) := by rw [IntKind.wrap_i64]; omega
            have g3 : (0 : Int) ≤ (p : Int) := by omega
            have g4 : (p : Int) < (p : Int) + 1 := by omega
            have g5 : ((p : Int) + 1 == 0) = false := by simp; omega
            generalize q ++ [(⟨nm, sz, x⟩ : Ent)] = es5 at *
            go_upto_region 18 with (fail)
            refine wp_region_held_drew (S := (fun w' => w'.cell? ⟨kb, ko + p, none⟩ = some (.string ⟨a.key.toArray⟩) ∧ w'.cell? ⟨wr.heap.size, 2, none⟩ = some (.string ⟨a.key.toArray⟩))) (by kernel_rfl) (⟨f1, d2⟩) (fun hHeld => ?_)
            refine wpAnyH_take (i := 0) (v := ?_) (by simp only [List.getElem?_toArray, List.getElem?_cons_zero]; exact rfl) (by kernel_rfl) (by kernel_rfl) (by kernel_rfl) (by intro _ _ _ h; exact h) (Or.inl ⟨by rfl, fun W hSw => ?_⟩) hHeld ?_
            rotate_left
            focus ((try dsimp only at hSw); first | (go_simp; done) | (go_simp; with_reducible rfl))
            try simp only [Act.put, List.setIfInBounds_toArray, List.set_cons_zero, List.set_cons_succ]
            refine wpAnyH_take (i := 1) (v := ?_) (by simp only [List.getElem?_toArray, List.getElem?_cons_succ, List.getElem?_cons_zero]; exact rfl) (by kernel_rfl) (by kernel_rfl) (by kernel_rfl) (by intro _ _ _ h; exact h) (Or.inl ⟨by rfl, fun W hSw => ?_⟩) hHeld ?_
            rotate_left
            focus ((try dsimp only at hSw); first | (go_simp; done) | (go_simp; with_reducible rfl))
            try simp only [Act.put, List.setIfInBounds_toArray, List.set_cons_zero, List.set_cons_succ]
            refine wpAnyH_take (i := 2) (v := ?_) (by simp only [List.getElem?_toArray, List.getElem?_cons_succ, List.getElem?_cons_zero]; exact rfl) (by kernel_rfl) (by kernel_rfl) (by kernel_rfl) (by intro _ _ _ h; exact h) (Or.inl ⟨by rfl, fun W hSw => ?_⟩) hHeld ?_
            rotate_left
            focus ((try dsimp only at hSw); first | (go_simp; done) | (go_simp; with_reducible rfl))
            try simp only [Act.put, List.setIfInBounds_toArray, List.set_cons_zero, List.set_cons_succ]
            refine wpAnyH_take (i := 3) (v := ?_) (by simp only [List.getElem?_toArray, List.getElem?_cons_succ, List.getElem?_cons_zero]; exact rfl) (by kernel_rfl) (by kernel_rfl) (by kernel_rfl) (by intro _ _ _ h; exact h) (Or.inl ⟨by rfl, fun W hSw => ?_⟩) hHeld ?_
            rotate_left
            focus ((try dsimp only at hSw); first | (go_simp; done) | (go_simp; with_reducible rfl))
            try simp only [Act.put, List.setIfInBounds_toArray, List.set_cons_zero, List.set_cons_succ]
            refine wpAnyH_take (i := 4) (v := ?_) (by simp only [List.getElem?_toArray, List.getElem?_cons_succ, List.getElem?_cons_zero]; exact rfl) (by kernel_rfl) (by kernel_rfl) (by kernel_rfl) (by intro _ _ _ h; exact h) (Or.inl ⟨by rfl, fun W hSw => ?_⟩) hHeld ?_
            rotate_left
            focus ((try dsimp only at hSw); first | (go_simp; done) | (go_simp; with_reducible rfl))
            try simp only [Act.put, List.setIfInBounds_toArray, List.set_cons_zero, List.set_cons_succ]
            refine wpAnyH_take (i := 5) (v := ?_) (by simp only [List.getElem?_toArray, List.getElem?_cons_succ, List.getElem?_cons_zero]; exact rfl) (by kernel_rfl) (by kernel_rfl) (by kernel_rfl) (by intro _ _ _ h; exact h) (Or.inl ⟨by rfl, fun W hSw => ?_⟩) hHeld ?_
            rotate_left
            focus ((try dsimp only at hSw); first | (go_simp; done) | (go_simp; with_reducible rfl))
            try simp only [Act.put, List.setIfInBounds_toArray, List.set_cons_zero, List.set_cons_succ]
            refine wpAnyH_take (i := 6) (v := ?_) (by simp only [List.getElem?_toArray, List.getElem?_cons_succ, List.getElem?_cons_zero]; exact rfl) (by kernel_rfl) (by kernel_rfl) (by kernel_rfl) (by intro _ _ _ h; exact h) (Or.inl ⟨by rfl, fun W hSw => ?_⟩) hHeld ?_
            rotate_left
            focus ((try dsimp only at hSw); first | (go_simp; done) | (go_simp; with_reducible rfl))
            try simp only [Act.put, List.setIfInBounds_toArray, List.set_cons_zero, List.set_cons_succ]
            refine wpAnyH_take (i := 7) (v := ?_) (by simp only [List.getElem?_toArray, List.getElem?_cons_succ, List.getElem?_cons_zero]; exact rfl) (by kernel_rfl) (by kernel_rfl) (by kernel_rfl) (by intro _ _ _ h; exact h) (Or.inl ⟨by rfl, fun W hSw => ?_⟩) hHeld ?_
            rotate_left
            focus ((try dsimp only at hSw); first | (go_simp; done) | (go_simp; with_reducible rfl))
            try simp only [Act.put, List.setIfInBounds_toArray, List.set_cons_zero, List.set_cons_succ]
            refine wpAnyH_take (i := 8) (v := ?_) (by simp only [List.getElem?_toArray, List.getElem?_cons_succ, List.getElem?_cons_zero]; exact rfl) (by kernel_rfl) (by kernel_rfl) (by kernel_rfl) (by intro _ _ _ h; exact h) (Or.inl ⟨by rfl, fun W hSw => ?_⟩) hHeld ?_
            rotate_left
            focus ((try dsimp only at hSw); first | (go_simp; done) | (go_simp; with_reducible rfl))
            try simp only [Act.put, List.setIfInBounds_toArray, List.set_cons_zero, List.set_cons_succ]
            refine wpAnyH_take (i := 9) (v := ?_) (by simp only [List.getElem?_toArray, List.getElem?_cons_succ, List.getElem?_cons_zero]; exact rfl) (by kernel_rfl) (by kernel_rfl) (by kernel_rfl) (by intro _ _ _ h; exact h) (Or.inl ⟨by rfl, fun W hSw => ?_⟩) hHeld ?_
            rotate_left
            focus ((try dsimp only at hSw); first | (go_simp; done) | (go_simp; with_reducible rfl))
            try simp only [Act.put, List.setIfInBounds_toArray, List.set_cons_zero, List.set_cons_succ]
            refine wpAnyH_take (i := 10) (v := ?_) (by simp only [List.getElem?_toArray, List.getElem?_cons_succ, List.getElem?_cons_zero]; exact rfl) (by kernel_rfl) (by kernel_rfl) (by kernel_rfl) (by intro _ _ _ h; exact h) (Or.inl ⟨by rfl, fun W hSw => ?_⟩) hHeld ?_
            rotate_left
            focus ((try dsimp only at hSw); first | (go_simp; done) | (go_simp; with_reducible rfl))
            try simp only [Act.put, List.setIfInBounds_toArray, List.set_cons_zero, List.set_cons_succ]
            refine wpAnyH_take (i := 11) (v := ?_) (by simp only [List.getElem?_toArray, List.getElem?_cons_succ, List.getElem?_cons_zero]; exact rfl) (by kernel_rfl) (by kernel_rfl) (by kernel_rfl) (by intro _ _ _ h; exact h) (Or.inl ⟨by rfl, fun W hSw => ?_⟩) hHeld ?_
            rotate_left
            focus ((try dsimp only at hSw); first | (go_simp; done) | (go_simp; with_reducible rfl))
            try simp only [Act.put, List.setIfInBounds_toArray, List.set_cons_zero, List.set_cons_succ]
            refine wpAnyH_take (i := 12) (v := ?_) (by simp only [List.getElem?_toArray, List.getElem?_cons_succ, List.getElem?_cons_zero]; exact rfl) (by kernel_rfl) (by kernel_rfl) (by kernel_rfl) (by intro _ _ _ h; exact h) (Or.inl ⟨by rfl, fun W hSw => ?_⟩) hHeld ?_
            rotate_left
            focus ((try dsimp only at hSw); first | (go_simp; done) | (go_simp; with_reducible rfl))
            try simp only [Act.put, List.setIfInBounds_toArray, List.set_cons_zero, List.set_cons_succ]
            refine wpAnyH_take (i := 13) (v := ?_) (by simp only [List.getElem?_toArray, List.getElem?_cons_succ, List.getElem?_cons_zero]; exact rfl) (by kernel_rfl) (by kernel_rfl) (by kernel_rfl) (by intro _ _ _ h; exact h) (Or.inl ⟨by rfl, fun W hSw => ?_⟩) hHeld ?_
            rotate_left
            focus ((try dsimp only at hSw); first | (go_simp; done) | (go_simp; with_reducible rfl))
            try simp only [Act.put, List.setIfInBounds_toArray, List.set_cons_zero, List.set_cons_succ]
            refine wpAnyH_take (i := 14) (v := ?_) (by simp only [List.getElem?_toArray, List.getElem?_cons_succ, List.getElem?_cons_zero]; exact rfl) (by kernel_rfl) (by kernel_rfl) (by kernel_rfl) (by intro _ _ _ h; exact h) (Or.inl ⟨by rfl, fun W hSw => ?_⟩) hHeld ?_
            rotate_left
            focus ((try dsimp only at hSw); first | (go_simp; done) | (go_simp; with_reducible rfl))
            try simp only [Act.put, List.setIfInBounds_toArray, List.set_cons_zero, List.set_cons_succ]
            refine wpAnyH_take (i := 15) (v := ?_) (by simp only [List.getElem?_toArray, List.getElem?_cons_succ, List.getElem?_cons_zero]; exact rfl) (by kernel_rfl) (by kernel_rfl) (by kernel_rfl) (by intro _ _ _ h; exact h) (Or.inl ⟨by rfl, fun W hSw => ?_⟩) hHeld ?_
            rotate_left
            focus ((try dsimp only at hSw); first | (go_simp; done) | (go_simp; with_reducible rfl))
            try simp only [Act.put, List.setIfInBounds_toArray, List.set_cons_zero, List.set_cons_succ]
            refine wpAnyH_take (i := 16) (v := ?_) (by simp only [List.getElem?_toArray, List.getElem?_cons_succ, List.getElem?_cons_zero]; exact rfl) (by kernel_rfl) (by kernel_rfl) (by kernel_rfl) (by intro _ _ _ h; exact h) (Or.inl ⟨by rfl, fun W hSw => ?_⟩) hHeld ?_
            rotate_left
            focus ((try dsimp only at hSw); first | (go_simp; done) | (go_simp; with_reducible rfl))
            try simp only [Act.put, List.setIfInBounds_toArray, List.set_cons_zero, List.set_cons_succ]
            refine wpAnyH_done (by kernel_rfl) ?_ _
            clear hHeld
            have HL8 := Lib.hid (HL7.out.below (Below.refl _ _).drew)
            have hends := HL8.out.ends
            have p1 : decide (((es5).length : Int) > nn) = false := by have := hends.1; simp; omega
            have p2 : decide (sumE (es5) > mm) = false := by have := hends.2.2.1; simp; omega
            clear hends
            have KL := Lib.hid (live_len HL8.out); have KB := Lib.hid (live_bytes HL8.out); have KK := Lib.hid (live_keys HL8.out)
            go_wp2_with fail
            (with_reducible refine KL.out.mono ?_)
            rintro e v1 ⟨rfl, rfl⟩
            go_wp2_with fail
            (with_reducible refine KB.out.mono ?_)
            rintro e v1 ⟨rfl, rfl⟩
            go_wp2_with fail
            (with_reducible refine KL.out.mono ?_)
            rintro e v1 ⟨rfl, rfl⟩
            go_wp2_with fail
            (with_reducible refine KK.out.mono ?_)
            rintro e v5 ⟨ka5, kc5, rfl, -, hb5⟩
            have HL5 := Lib.hid (HL8.out.below hb5)
            have hml5 : ((es5).map fun e => e.x.key.data.toList).length = (es5).length := by rw [List.length_map]
            rw [hml5]
            clear hb5 hml5 KL KB KK
            go_wp2
            go_roundw
            case rel => exact ⟨k + 1, _, put + 1, by omega, by go_num, by omega, by omega, HL5⟩
            case measure => simp [intOf]; omega
          · have hdl : decide (sz ≤ mm) = false := by simpa using hle
            rw [hdl]
            generalize (putE nn mm nm sz x es).2 = es5 at *
            clear HHAS
            go_wp2_with fail
            (with_reducible refine K5.out.mono ?_)
            rintro e w6 ⟨rfl, hb6⟩
            have hl6 := HL4.out.below hb6
            have KK6 := Lib.hid (live_keys hl6)
            have HL6 := Lib.hid hl6
            clear hl6 hb6 K5 d0 d1 d2 d3 d4 d5 d6 d7 d8 d9 d10 d11
            go_wp2_with fail
            (with_reducible refine KK6.out.mono ?_)
            rintro e w7 ⟨ka, kc, rfl, hO, hb7⟩
            have HL7 := Lib.hid (HL6.out.below hb7)
            clear hO hb7 KK6 HL6
            go_upto_region 18 with (fail)
            refine wp_region_held_drew (S := (fun _ => True)) (by kernel_rfl) (trivial) (fun hHeld => ?_)
            refine wpAnyH_take (i := 0) (v := ?_) (by simp only [List.getElem?_toArray, List.getElem?_cons_zero]; exact rfl) (by kernel_rfl) (by kernel_rfl) (by kernel_rfl) (by intro _ _ _ h; exact h) (Or.inl ⟨by rfl, fun W hSw => ?_⟩) hHeld ?_
            rotate_left
            focus ((try dsimp only at hSw); first | (go_simp; done) | (go_simp; with_reducible rfl))
            try simp only [Act.put, List.setIfInBounds_toArray, List.set_cons_zero, List.set_cons_succ]
            refine wpAnyH_take (i := 1) (v := ?_) (by simp only [List.getElem?_toArray, List.getElem?_cons_succ, List.getElem?_cons_zero]; exact rfl) (by kernel_rfl) (by kernel_rfl) (by kernel_rfl) (by intro _ _ _ h; exact h) (Or.inl ⟨by rfl, fun W hSw => ?_⟩) hHeld ?_
            rotate_left
            focus ((try dsimp only at hSw); first | (go_simp; done) | (go_simp; with_reducible rfl))
            try simp only [Act.put, List.setIfInBounds_toArray, List.set_cons_zero, List.set_cons_succ]
            refine wpAnyH_take (i := 2) (v := undef) (by simp only [List.getElem?_toArray, List.getElem?_cons_succ, List.getElem?_cons_zero]; exact rfl) (by kernel_rfl) (by kernel_rfl) (by kernel_rfl) (by intro _ _ _ h; exact h) (Or.inr ⟨by rfl, rfl⟩) hHeld ?_
            try simp only [Act.put, List.setIfInBounds_toArray, List.set_cons_zero, List.set_cons_succ]
            refine wpAnyH_take (i := 3) (v := undef) (by simp only [List.getElem?_toArray, List.getElem?_cons_succ, List.getElem?_cons_zero]; exact rfl) (by kernel_rfl) (by kernel_rfl) (by kernel_rfl) (by intro _ _ _ h; exact h) (Or.inr ⟨by rfl, rfl⟩) hHeld ?_
            try simp only [Act.put, List.setIfInBounds_toArray, List.set_cons_zero, List.set_cons_succ]
            refine wpAnyH_take (i := 4) (v := undef) (by simp only [List.getElem?_toArray, List.getElem?_cons_succ, List.getElem?_cons_zero]; exact rfl) (by kernel_rfl) (by kernel_rfl) (by kernel_rfl) (by intro _ _ _ h; exact h) (Or.inr ⟨by rfl, rfl⟩) hHeld ?_
            try simp only [Act.put, List.setIfInBounds_toArray, List.set_cons_zero, List.set_cons_succ]
            refine wpAnyH_take (i := 5) (v := undef) (by simp only [List.getElem?_toArray, List.getElem?_cons_succ, List.getElem?_cons_zero]; exact rfl) (by kernel_rfl) (by kernel_rfl) (by kernel_rfl) (by intro _ _ _ h; exact h) (Or.inr ⟨by rfl, rfl⟩) hHeld ?_
            try simp only [Act.put, List.setIfInBounds_toArray, List.set_cons_zero, List.set_cons_succ]
            refine wpAnyH_take (i := 6) (v := undef) (by simp only [List.getElem?_toArray, List.getElem?_cons_succ, List.getElem?_cons_zero]; exact rfl) (by kernel_rfl) (by kernel_rfl) (by kernel_rfl) (by intro _ _ _ h; exact h) (Or.inr ⟨by rfl, rfl⟩) hHeld ?_
            try simp only [Act.put, List.setIfInBounds_toArray, List.set_cons_zero, List.set_cons_succ]
            refine wpAnyH_take (i := 7) (v := undef) (by simp only [List.getElem?_toArray, List.getElem?_cons_succ, List.getElem?_cons_zero]; exact rfl) (by kernel_rfl) (by kernel_rfl) (by kernel_rfl) (by intro _ _ _ h; exact h) (Or.inr ⟨by rfl, rfl⟩) hHeld ?_
            try simp only [Act.put, List.setIfInBounds_toArray, List.set_cons_zero, List.set_cons_succ]
            refine wpAnyH_take (i := 8) (v := undef) (by simp only [List.getElem?_toArray, List.getElem?_cons_succ, List.getElem?_cons_zero]; exact rfl) (by kernel_rfl) (by kernel_rfl) (by kernel_rfl) (by intro _ _ _ h; exact h) (Or.inr ⟨by rfl, rfl⟩) hHeld ?_
            try simp only [Act.put, List.setIfInBounds_toArray, List.set_cons_zero, List.set_cons_succ]
            refine wpAnyH_take (i := 9) (v := undef) (by simp only [List.getElem?_toArray, List.getElem?_cons_succ, List.getElem?_cons_zero]; exact rfl) (by kernel_rfl) (by kernel_rfl) (by kernel_rfl) (by intro _ _ _ h; exact h) (Or.inr ⟨by rfl, rfl⟩) hHeld ?_
            try simp only [Act.put, List.setIfInBounds_toArray, List.set_cons_zero, List.set_cons_succ]
            refine wpAnyH_take (i := 10) (v := undef) (by simp only [List.getElem?_toArray, List.getElem?_cons_succ, List.getElem?_cons_zero]; exact rfl) (by kernel_rfl) (by kernel_rfl) (by kernel_rfl) (by intro _ _ _ h; exact h) (Or.inr ⟨by rfl, rfl⟩) hHeld ?_
            try simp only [Act.put, List.setIfInBounds_toArray, List.set_cons_zero, List.set_cons_succ]
            refine wpAnyH_take (i := 11) (v := undef) (by simp only [List.getElem?_toArray, List.getElem?_cons_succ, List.getElem?_cons_zero]; exact rfl) (by kernel_rfl) (by kernel_rfl) (by kernel_rfl) (by intro _ _ _ h; exact h) (Or.inr ⟨by rfl, rfl⟩) hHeld ?_
            try simp only [Act.put, List.setIfInBounds_toArray, List.set_cons_zero, List.set_cons_succ]
            refine wpAnyH_take (i := 12) (v := undef) (by simp only [List.getElem?_toArray, List.getElem?_cons_succ, List.getElem?_cons_zero]; exact rfl) (by kernel_rfl) (by kernel_rfl) (by kernel_rfl) (by intro _ _ _ h; exact h) (Or.inr ⟨by rfl, rfl⟩) hHeld ?_
            try simp only [Act.put, List.setIfInBounds_toArray, List.set_cons_zero, List.set_cons_succ]
            refine wpAnyH_take (i := 13) (v := undef) (by simp only [List.getElem?_toArray, List.getElem?_cons_succ, List.getElem?_cons_zero]; exact rfl) (by kernel_rfl) (by kernel_rfl) (by kernel_rfl) (by intro _ _ _ h; exact h) (Or.inr ⟨by rfl, rfl⟩) hHeld ?_
            try simp only [Act.put, List.setIfInBounds_toArray, List.set_cons_zero, List.set_cons_succ]
            refine wpAnyH_take (i := 14) (v := undef) (by simp only [List.getElem?_toArray, List.getElem?_cons_succ, List.getElem?_cons_zero]; exact rfl) (by kernel_rfl) (by kernel_rfl) (by kernel_rfl) (by intro _ _ _ h; exact h) (Or.inr ⟨by rfl, rfl⟩) hHeld ?_
            try simp only [Act.put, List.setIfInBounds_toArray, List.set_cons_zero, List.set_cons_succ]
            refine wpAnyH_take (i := 15) (v := undef) (by simp only [List.getElem?_toArray, List.getElem?_cons_succ, List.getElem?_cons_zero]; exact rfl) (by kernel_rfl) (by kernel_rfl) (by kernel_rfl) (by intro _ _ _ h; exact h) (Or.inr ⟨by rfl, rfl⟩) hHeld ?_
            try simp only [Act.put, List.setIfInBounds_toArray, List.set_cons_zero, List.set_cons_succ]
            refine wpAnyH_take (i := 16) (v := ?_) (by simp only [List.getElem?_toArray, List.getElem?_cons_succ, List.getElem?_cons_zero]; exact rfl) (by kernel_rfl) (by kernel_rfl) (by kernel_rfl) (by intro _ _ _ h; exact h) (Or.inl ⟨by rfl, fun W hSw => ?_⟩) hHeld ?_
            rotate_left
            focus ((try dsimp only at hSw); first | (go_simp; done) | (go_simp; with_reducible rfl))
            try simp only [Act.put, List.setIfInBounds_toArray, List.set_cons_zero, List.set_cons_succ]
            refine wpAnyH_done (by kernel_rfl) ?_ _
            clear hHeld
            have HL8 := Lib.hid (HL7.out.below (Below.refl _ _).drew)
            have hends := HL8.out.ends
            have p1 : decide (((es5).length : Int) > nn) = false := by have := hends.1; simp; omega
            have p2 : decide (sumE (es5) > mm) = false := by have := hends.2.2.1; simp; omega
            clear hends
            have KL := Lib.hid (live_len HL8.out); have KB := Lib.hid (live_bytes HL8.out); have KK := Lib.hid (live_keys HL8.out)
            go_wp2_with fail
            (with_reducible refine KL.out.mono ?_)
            rintro e v1 ⟨rfl, rfl⟩
            go_wp2_with fail
            (with_reducible refine KB.out.mono ?_)
            rintro e v1 ⟨rfl, rfl⟩
            go_wp2_with fail
            (with_reducible refine KL.out.mono ?_)
            rintro e v1 ⟨rfl, rfl⟩
            go_wp2_with fail
            (with_reducible refine KK.out.mono ?_)
            rintro e v5 ⟨ka5, kc5, rfl, -, hb5⟩
            have HL5 := Lib.hid (HL8.out.below hb5)
            have hml5 : ((es5).map fun e => e.x.key.data.toList).length = (es5).length := by rw [List.length_map]
            rw [hml5]
            clear hb5 hml5 KL KB KK
            go_wp2
            go_roundw
            case rel => exact ⟨k + 1, _, put + 1, by omega, by go_num, by omega, by omega, HL5⟩
            case measure => simp [intOf]; omega
        have t0 : (r == 0) = false := by simpa using r0
        by_cases r1 : r = 1
        · subst r1
          have kf := live_find HLW.out a.key a.rA a.rn a.rc a.rl HA.out.r (by have := HA.out.r.fld; omega) (fun f hf => by have := ho7 f hf; omega) (by omega) HT.out
          unfold FoundL at kf
          have KF := Lib.hid kf
          clear kf
          cases hbo : bestL a.key a.rl es with
          | none =>
            rw [hbo] at KF
            go_wp2_with fail
            (with_reducible refine KF.out.mono ?_)
            rintro e w5 ⟨rfl, hl5, -⟩
            have HL4 := Lib.hid hl5
            clear hl5 KF
            have hends := HL4.out.ends
            have p1 : decide (((es).length : Int) > nn) = false := by have := hends.1; simp; omega
            have p2 : decide (sumE (es) > mm) = false := by have := hends.2.2.1; simp; omega
            clear hends
            have KL := Lib.hid (live_len HL4.out); have KB := Lib.hid (live_bytes HL4.out); have KK := Lib.hid (live_keys HL4.out)
            go_wp2_with fail
            (with_reducible refine KL.out.mono ?_)
            rintro e v1 ⟨rfl, rfl⟩
            go_wp2_with fail
            (with_reducible refine KB.out.mono ?_)
            rintro e v1 ⟨rfl, rfl⟩
            go_wp2_with fail
            (with_reducible refine KL.out.mono ?_)
            rintro e v1 ⟨rfl, rfl⟩
            go_wp2_with fail
            (with_reducible refine KK.out.mono ?_)
            rintro e v5 ⟨ka5, kc5, rfl, -, hb5⟩
            have HL5 := Lib.hid (HL4.out.below hb5)
            have hml5 : ((es).map fun e => e.x.key.data.toList).length = (es).length := by rw [List.length_map]
            rw [hml5]
            clear hb5 hml5 KL KB KK
            go_wp2
            go_roundw
            case rel => exact ⟨k + 1, _, put, by omega, by go_num, by omega, by omega, HL5⟩
            case measure => simp [intOf]; omega
          | some bb =>
            rw [hbo] at KF
            go_wp2_with fail
            (with_reducible refine KF.out.mono ?_)
            rintro e w5 ⟨fa, fac, fv, fvc, rfl, -, -, hl5, -⟩
            generalize getE bb.key es = es5 at *
            have HL4 := Lib.hid hl5
            clear hl5 KF
            have hends := HL4.out.ends
            have p1 : decide (((es5).length : Int) > nn) = false := by have := hends.1; simp; omega
            have p2 : decide (sumE (es5) > mm) = false := by have := hends.2.2.1; simp; omega
            clear hends
            have KL := Lib.hid (live_len HL4.out); have KB := Lib.hid (live_bytes HL4.out); have KK := Lib.hid (live_keys HL4.out)
            go_wp2_with fail
            (with_reducible refine KL.out.mono ?_)
            rintro e v1 ⟨rfl, rfl⟩
            go_wp2_with fail
            (with_reducible refine KB.out.mono ?_)
            rintro e v1 ⟨rfl, rfl⟩
            go_wp2_with fail
            (with_reducible refine KL.out.mono ?_)
            rintro e v1 ⟨rfl, rfl⟩
            go_wp2_with fail
            (with_reducible refine KK.out.mono ?_)
            rintro e v5 ⟨ka5, kc5, rfl, -, hb5⟩
            have HL5 := Lib.hid (HL4.out.below hb5)
            have hml5 : ((es5).map fun e => e.x.key.data.toList).length = (es5).length := by rw [List.length_map]
            rw [hml5]
            clear hb5 hml5 KL KB KK
            go_wp2
            go_roundw
            case rel => exact ⟨k + 1, _, put, by omega, by go_num, by omega, by omega, HL5⟩
            case measure => simp [intOf]; omega
        have t1 : (r == 1) = false := by simpa using r1
        by_cases r2 : r = 2
        · subst r2
          have kr := live_remove HLW.out a.key a.st a.mi a.asked a.got a.re a.bo a.fA a.vA a.fn a.fc a.vn a.vc a.vl HA.out.v (by omega) (by omega) (by omega) HT.out
          unfold entV at kr
          have KR := Lib.hid kr
          clear kr
          go_wp2_with fail
          (with_reducible refine KR.out.mono ?_)
          rintro e w5 ⟨rfl, hl5, -⟩
          generalize delE (nameB a.key a.vl) es = es5 at *
          have HL4 := Lib.hid hl5
          clear hl5 KR
          have hends := HL4.out.ends
          have p1 : decide (((es5).length : Int) > nn) = false := by have := hends.1; simp; omega
          have p2 : decide (sumE (es5) > mm) = false := by have := hends.2.2.1; simp; omega
          clear hends
          have KL := Lib.hid (live_len HL4.out); have KB := Lib.hid (live_bytes HL4.out); have KK := Lib.hid (live_keys HL4.out)
          go_wp2_with fail
          (with_reducible refine KL.out.mono ?_)
          rintro e v1 ⟨rfl, rfl⟩
          go_wp2_with fail
          (with_reducible refine KB.out.mono ?_)
          rintro e v1 ⟨rfl, rfl⟩
          go_wp2_with fail
          (with_reducible refine KL.out.mono ?_)
          rintro e v1 ⟨rfl, rfl⟩
          go_wp2_with fail
          (with_reducible refine KK.out.mono ?_)
          rintro e v5 ⟨ka5, kc5, rfl, -, hb5⟩
          have HL5 := Lib.hid (HL4.out.below hb5)
          have hml5 : ((es5).map fun e => e.x.key.data.toList).length = (es5).length := by rw [List.length_map]
          rw [hml5]
          clear hb5 hml5 KL KB KK
          go_wp2
          go_roundw
          case rel => exact ⟨k + 1, _, put, by omega, by go_num, by omega, by omega, HL5⟩
          case measure => simp [intOf]; omega
        have t2 : (r == 2) = false := by simpa using r2
        by_cases r3 : r = 3
        · subst r3
          have KR := Lib.hid (live_drop HLW.out a.key)
          go_wp2_with fail
          (with_reducible refine KR.out.mono ?_)
          rintro e w5 ⟨rfl, hl5, -⟩
          generalize dropL a.key es = es5 at *
          have HL4 := Lib.hid hl5
          clear hl5 KR
          have hends := HL4.out.ends
          have p1 : decide (((es5).length : Int) > nn) = false := by have := hends.1; simp; omega
          have p2 : decide (sumE (es5) > mm) = false := by have := hends.2.2.1; simp; omega
          clear hends
          have KL := Lib.hid (live_len HL4.out); have KB := Lib.hid (live_bytes HL4.out); have KK := Lib.hid (live_keys HL4.out)
          go_wp2_with fail
          (with_reducible refine KL.out.mono ?_)
          rintro e v1 ⟨rfl, rfl⟩
          go_wp2_with fail
          (with_reducible refine KB.out.mono ?_)
          rintro e v1 ⟨rfl, rfl⟩
          go_wp2_with fail
          (with_reducible refine KL.out.mono ?_)
          rintro e v1 ⟨rfl, rfl⟩
          go_wp2_with fail
          (with_reducible refine KK.out.mono ?_)
          rintro e v5 ⟨ka5, kc5, rfl, -, hb5⟩
          have HL5 := Lib.hid (HL4.out.below hb5)
          have hml5 : ((es5).map fun e => e.x.key.data.toList).length = (es5).length := by rw [List.length_map]
          rw [hml5]
          clear hb5 hml5 KL KB KK
          go_wp2
          go_roundw
          case rel => exact ⟨k + 1, _, put, by omega, by go_num, by omega, by omega, HL5⟩
          case measure => simp [intOf]; omega
        have t3 : (r == 3) = false := by simpa using r3
        have KR := Lib.hid (live_forget HLW.out a.num)
        go_wp2_with fail
        (with_reducible refine KR.out.mono ?_)
        rintro e w5 ⟨rfl, hl5, -⟩
        generalize forL es a.num = es5 at *
        have HL4 := Lib.hid hl5
        clear hl5 KR
        have hends := HL4.out.ends
        have p1 : decide (((es5).length : Int) > nn) = false := by have := hends.1; simp; omega
        have p2 : decide (sumE (es5) > mm) = false := by have := hends.2.2.1; simp; omega
        clear hends
        have KL := Lib.hid (live_len HL4.out); have KB := Lib.hid (live_bytes HL4.out); have KK := Lib.hid (live_keys HL4.out)
        go_wp2_with fail
        (with_reducible refine KL.out.mono ?_)
        rintro e v1 ⟨rfl, rfl⟩
        go_wp2_with fail
        (with_reducible refine KB.out.mono ?_)
        rintro e v1 ⟨rfl, rfl⟩
        go_wp2_with fail
        (with_reducible refine KL.out.mono ?_)
        rintro e v1 ⟨rfl, rfl⟩
        go_wp2_with fail
        (with_reducible refine KK.out.mono ?_)
        rintro e v5 ⟨ka5, kc5, rfl, -, hb5⟩
        have HL5 := Lib.hid (HL4.out.below hb5)
        have hml5 : ((es5).map fun e => e.x.key.data.toList).length = (es5).length := by rw [List.length_map]
        rw [hml5]
        clear hb5 hml5 KL KB KK
        go_wp2
        go_roundw
        case rel => exact ⟨k + 1, _, put, by omega, by go_num, by omega, by omega, HL5⟩
        case measure => simp [intOf]; omega
      · have K9 := Lib.hid (awake19_any wr (HT.out.on HL.out.base)); have HB9 := Lib.hid HL.out.base
        clear HL
        go_wp2_with fail
        (with_reducible refine K9.out.mono ?_)
        rintro e w4 ⟨rfl, hb4⟩
        go_wp2
        go_ret
        exact ⟨rfl, bt HB9.out hb4⟩
end Go.Proofs.YtokhlmoanlcjmaaDoor
/- StoreBound: the law as it is handed in. -/
namespace Go.Proofs.YtokhlmoanlcjmaaDoor
open Go.ChangeShapes Go.WideShapes Go.RowKit
set_option maxRecDepth 100000

theorem storeBound_law {H : Type} {enc : TypeId × Value → H} {W : World} {base0 base1 : Nat}
    (v0 : Value) (hv0 : Value.okWide Tryd.prog W .any base0 23 v0) {d0 : DataW H} {p0 : List MemPlace} (h0 : DataW.Trod enc Tryd.prog W 0 (fun _ => true) true 23 v0 d0 p0) (_ : Reach 23 d0)
    (v1 : Value) (hv1 : Value.okWide Tryd.prog W .any base1 24 v1) {d1 : DataW H} {p1 : List MemPlace} (h1 : DataW.Trod enc Tryd.prog W 0 (fun _ => true) true 24 v1 d1 p1) (hr1 : Reach 24 d1)
    (w : World) (hw : w = W) (hT : TabN W) :
    Calls Tryd.prog 5 #[v0, v1] w fun e w' => e = .returned (.bool true) ∧ Below w.heap.size w w' := by
  subst hw
  obtain ⟨a, b, rfl, ha, hb⟩ := open_two16 hv0 h0
  obtain ⟨A, n, c, xs, rfl, hR, hn, hx⟩ := open_pacts_v hv1 h1 hr1
  exact storeBound_any a b A n c xs w ha hb hR hx hn hT
end Go.Proofs.YtokhlmoanlcjmaaDoor
