/- Dates: the walk of Put (printed by wip/tools/dateput.py). -/
import Derived.Test.YthnfmhjjpodhfaaDoorDateP
import Derived.Deep.RegionHeld3
namespace Go.Proofs.YthnfmhjjpodhfaaDoor
open Go.RowKit
set_option maxRecDepth 100000

/-- What holds behind each operation may be asked more of from here on. -/
theorem wpAnyH_strong {P : Program} {md : Region.Mode} {ops : Array Oper} {Q : Exit → Act → World → Prop} {S S' : World → Prop} (hSS : ∀ w, S' w → S w) : ∀ {fuel : Nat} {listed : Array Bool} {a : Act} {w : World}, wpAnyH P md ops Q S' fuel listed a w → wpAnyH P md ops Q S fuel listed a w
  | 0, _, _, _, h => h
  | _ + 1, _, _, _, h => ⟨h.1, fun i hi => wpOp_mono (fun _ _ h' => ⟨hSS _ h'.1, wpAnyH_strong hSS h'.2⟩) (h.2 i hi)⟩
theorem dmon_ok (y : Int) (r0 : Int) (h : r0 < dmons y 12) : ∀ (f j : Nat) (r : Int), j + f = 12 → 0 ≤ r → r = r0 - dmons y j → 0 ≤ (dmon y f r (j + 1)).1 ∧ (dmon y f r (j + 1)).1 ≤ 30 ∧ 1 ≤ (dmon y f r (j + 1)).2 ∧ (dmon y f r (j + 1)).2 ≤ 12
  | 0, j, r, hj, h0, hr => by
    have : j = 12 := by omega
    subst this
    omega
  | f + 1, j, r, hj, h0, hr => by
    rw [dmon]
    have hl := dlong_le y ((j : Int) + 1)
    have hd : dmons y (j + 1) = dmons y j + dlong y ((j : Int) + 1) := rfl
    split
    · rename_i hle
      have ih := dmon_ok y r0 h f (j + 1) (r - dlong y ((j : Int) + 1)) (by omega) (by omega) (by rw [hd]; omega)
      have e1 : (((j + 1 : Nat) : Int) + 1) = (j : Int) + 1 + 1 := by omega
      rw [e1] at ih
      exact ih
    · simp only
      omega
theorem days_at (k : Nat) (h : k < 7) : ∃ dn, (ddays[k]'h) = dn ∧ ddays.getD k [] = dn ∧ 6 ≤ dn.length := by
  refine ⟨_, rfl, ?_, ?_⟩
  · rw [List.getD_eq_getElem?_getD, List.getElem?_eq_getElem h]; rfl
  · have : ∀ x ∈ ddays, 6 ≤ x.length := by decide
    exact this _ (List.getElem_mem h)
set_option maxHeartbeats 4000000 in
theorem dput_none (t : Int) (w : World) (h : t < 0 ∨ 253402300799 < t) : Calls Tryd.prog 18 #[.int .i64 t] w fun e w' => e = .returned (.string ⟨(dputL t).toArray⟩) ∧ Below w.heap.size w w' := by
  have hx : dputL t = [] := by unfold dputL; rw [if_pos h]
  rw [hx]
  rcases h with h | h
  · have t1 : decide (t < 0) = true := by simpa using h
    go_enter Tryd.func18, Tryd.ntmps18
    go_wp2
    go_ret
    exact ⟨rfl, Below.refl _ _⟩
  · have t1 : decide (t < 0) = false := by simp; omega
    have t2 : decide (t > 253402300799) = true := by simpa using h
    go_enter Tryd.func18, Tryd.ntmps18
    go_wp2
    go_ret
    exact ⟨rfl, Below.refl _ _⟩
set_option maxHeartbeats 32000000 in
theorem dput_in (t : Int) (w : World) (hE : DEnv w) (h : 0 ≤ t ∧ t ≤ 253402300799) : Calls Tryd.prog 18 #[.int .i64 t] w fun e w' => e = .returned (.string ⟨(dputL t).toArray⟩) ∧ Below w.heap.size w w' := by
  have hx : dputL t = dputD (t / 86400) (t % 86400) := by unfold dputL; rw [if_neg (by omega)]
  rw [hx]
  have t1 : decide (t < 0) = false := by simp; omega
  have t2 : decide (t > 253402300799) = false := by simp; omega
  have e1 : t.tdiv 86400 = t / 86400 := Int.tdiv_eq_ediv_of_nonneg h.1
  have e2 : t.tmod 86400 = t % 86400 := Int.tmod_eq_emod_of_nonneg h.1
  obtain ⟨d, hd⟩ : ∃ d, t / 86400 = d := ⟨_, rfl⟩
  obtain ⟨s, hs⟩ : ∃ s, t % 86400 = s := ⟨_, rfl⟩
  have hdb : 0 ≤ d ∧ d ≤ 2932896 := by omega
  have hsb : 0 ≤ s ∧ s ≤ 86399 := by omega
  rw [hd] at e1 ⊢
  rw [hs] at e2 ⊢
  have w0 : IntKind.i64.wrap d = d := by rw [IntKind.wrap_i64]; omega
  have w1 : IntKind.i64.wrap s = s := by rw [IntKind.wrap_i64]; omega
  have hok := dyearO_ok d hdb
  have ky := dyear_any d (by omega) w
  unfold dputD
  generalize dyearO d = YR at *
  obtain ⟨Y, r0⟩ := YR
  simp only at hok ky ⊢
  have hYb : 0 ≤ Y ∧ Y ≤ 100000 := by omega
  have hmo := dmon_ok Y r0 hok.2.2.2 12 0 r0 rfl hok.2.2.1 (by simp [dmons])
  rw [show ((0 : Nat) : Int) + 1 = 1 from rfl] at hmo
  obtain ⟨M, hM⟩ : ∃ M, dmon Y 12 r0 1 = M := ⟨_, rfl⟩
  rw [hM] at hmo ⊢
  obtain ⟨d7, hd7⟩ : ∃ k7 : Nat, (d % 7).toNat = k7 := ⟨_, rfl⟩
  obtain ⟨RES, hRES⟩ : ∃ RES, ((ddays.getD (d % 7).toNat []).take 3) ++ [44, 32] ++ dtwo (M.1 + 1) ++ [32] ++ ((dmonths.drop (3 * M.2.toNat - 3)).take 3) ++ [32] ++ dtwo (Y / 100) ++ dtwo Y ++ [32] ++ dtwo (s / 3600) ++ [58] ++ dtwo (s / 60 % 60) ++ [58] ++ dtwo (s % 60) ++ [32, 71, 77, 84] = RES := ⟨_, rfl⟩
  rw [hRES]
  have HRES := Lib.hid hRES; have HM := Lib.hid hM; have KY := Lib.hid ky; have HOK := Lib.hid hok; have HMO := Lib.hid hmo; have HE := Lib.hid hE; have HDB := Lib.hid hdb; have HSB := Lib.hid hsb
  clear hRES hM ky hok hmo hE hd hs hd7 hx hdb hsb
  go_enter Tryd.func18, Tryd.ntmps18
  go_wp2_with fail
  (with_reducible refine KY.out.mono ?_)
  rintro e w2 ⟨rfl, rfl⟩
  go_wp2_with fail
  go_loopw [6, 7] (fun rv mv wr => ∃ (j : Nat) (r : Int), rv = .int .i64 r ∧ mv = .int .i64 ((j : Int) + 1) ∧ j ≤ 11 ∧ 0 ≤ r ∧ Hid (r = r0 - dmons Y j) ∧ Hid (dmon Y (12 - j) r ((j : Int) + 1) = M) ∧ wr = w2) (fun _ mv _ => 20 - (intD mv).toNat)
  case atStart => exact ⟨0, r0, rfl, rfl, by omega, HOK.out.2.2.1, Lib.hid (by simp [dmons]), Lib.hid HM.out, rfl⟩
  case round =>
    obtain ⟨j, r, rfl, rfl, hj, hr0, HJ, HDM, rfl⟩ := hrel
    have kl := fun w' => dlong_any Y ((j : Int) + 1) hYb w'
    have hl := dlong_le Y ((j : Int) + 1)
    have hdn : dmons Y (j + 1) = dmons Y j + dlong Y ((j : Int) + 1) := rfl
    have hD := HDM.out
    rw [show 12 - j = (11 - j) + 1 from by omega, dmon] at hD
    have hjs := HJ.out
    by_cases hge : dlong Y ((j : Int) + 1) ≤ r
    · have hj11 : j < 11 := by
        rcases Nat.lt_or_ge j 11 with h' | h'
        · exact h'
        · have : j = 11 := by omega
          subst this
          have := HOK.out.2.2.2
          have e12 : dmons Y 12 = dmons Y 11 + dlong Y ((11 : Nat) + 1 : Int) := rfl
          omega
      rw [if_pos hge] at hD
      have hjn : r - dlong Y ((j : Int) + 1) = r0 - dmons Y (j + 1) := by rw [hdn]; omega
      have hr1 : r ≤ 400 := by
        have := HOK.out.2.2.2
        rw [dmons_12] at this
        have := dmons_le Y j
        split at * <;> omega
      have v1 : IntKind.i64.wrap (r - dlong Y ((j : Int) + 1)) = r - dlong Y ((j : Int) + 1) := by rw [IntKind.wrap_i64]; omega
      have v2 : IntKind.i64.wrap ((j : Int) + 1 + 1) = (j : Int) + 1 + 1 := by rw [IntKind.wrap_i64]; omega
      have t3 : decide (r ≥ dlong Y ((j : Int) + 1)) = true := by simpa using hge
      have KL := Lib.hid kl; have HJN := Lib.hid hjn; have HDN := Lib.hid hD
      clear kl hdn hD hjs hjn HJ HDM
      go_wp2_with fail
      (with_reducible refine (KL.out _).mono ?_)
      rintro e w3 ⟨rfl, rfl⟩
      go_wp2_with fail
      (with_reducible refine (KL.out _).mono ?_)
      rintro e w3 ⟨rfl, rfl⟩
      go_wp2
      go_roundw
      case rel => exact ⟨j + 1, _, rfl, rfl, hj11, by omega, HJN, Lib.hid (by rw [show 12 - (j + 1) = 11 - j from by omega]; exact HDN.out), trivial⟩
      case measure => simp [intD]; omega
    · have hM2 : M = (r, (j : Int) + 1) := by rw [if_neg hge] at hD; exact hD.symm
      have t3 : decide (r ≥ dlong Y ((j : Int) + 1)) = false := by simpa using hge
      have KL := Lib.hid kl
      subst hM2
      have hmo2 := HMO.out
      simp only at hmo2
      have HRES2 := HRES.out
      simp only at HRES2
      have hmt : ((j : Int) + 1).toNat = j + 1 := by omega
      rw [hmt] at HRES2
      have hk7 : (d % 7).toNat < 7 := by have := HDB.out; omega
      obtain ⟨dn, hday, hgd, hdl⟩ := days_at (d % 7).toNat hk7
      rw [hgd] at HRES2
      have em7 : d.tmod 7 = d % 7 := Int.tmod_eq_emod_of_nonneg HDB.out.1
      have hdc : d % 7 = (((d % 7).toNat : Nat) : Int) := by have := HDB.out; omega
      generalize (d % 7).toNat = k7 at *
      rw [hdc] at em7
      have q1 : Y.tdiv 100 = Y / 100 := Int.tdiv_eq_ediv_of_nonneg (by omega)
      have q2 : s.tdiv 3600 = s / 3600 := Int.tdiv_eq_ediv_of_nonneg HSB.out.1
      have q3 : s.tdiv 60 = s / 60 := Int.tdiv_eq_ediv_of_nonneg HSB.out.1
      have q4 : (s / 60).tmod 60 = s / 60 % 60 := Int.tmod_eq_emod_of_nonneg (by have := HSB.out; omega)
      have q5 : s.tmod 60 = s % 60 := Int.tmod_eq_emod_of_nonneg HSB.out.1
      have hsb := HSB.out
      have hok := HOK.out
      have T1 := Lib.hid (fun w' => dtwo_any (r + 1) (by omega) w')
      have T2 := Lib.hid (fun w' => dtwo_any (Y / 100) (by omega) w')
      have T3 := Lib.hid (fun w' => dtwo_any Y (by omega) w')
      have T4 := Lib.hid (fun w' => dtwo_any (s / 3600) (by omega) w')
      have T5 := Lib.hid (fun w' => dtwo_any (s / 60 % 60) (by omega) w')
      have T6 := Lib.hid (fun w' => dtwo_any (s % 60) (by omega) w')
      have x1 : IntKind.i64.wrap (r + 1) = r + 1 := by rw [IntKind.wrap_i64]; omega
      have x2 : IntKind.i64.wrap (3 * ((j : Int) + 1)) = 3 * ((j : Int) + 1) := by rw [IntKind.wrap_i64]; omega
      have x3 : IntKind.i64.wrap (3 * ((j : Int) + 1) - 3) = 3 * ((j : Int) + 1) - 3 := by rw [IntKind.wrap_i64]; omega
      have x4 : IntKind.i64.wrap (Y / 100) = Y / 100 := by rw [IntKind.wrap_i64]; omega
      have x5 : IntKind.i64.wrap (s / 3600) = s / 3600 := by rw [IntKind.wrap_i64]; omega
      have x6 : IntKind.i64.wrap (s / 60) = s / 60 := by rw [IntKind.wrap_i64]; omega
      have x7 : IntKind.i64.wrap (s / 60 % 60) = s / 60 % 60 := by rw [IntKind.wrap_i64]; omega
      have x8 : IntKind.i64.wrap (s % 60) = s % 60 := by rw [IntKind.wrap_i64]; omega
      have b0 : (k7 : Int) < 7 := by omega
      have b1 : 0 ≤ 3 * ((j : Int) + 1) := by omega
      have hdni : (3 : Int) ≤ (dn.length : Int) := by omega
      obtain ⟨d3, hd3⟩ : ∃ d3, dn.take 3 = d3 := ⟨_, rfl⟩
      have hd3l : d3.length = 3 := by rw [← hd3, List.length_take]; omega
      have hdx : (⟨dn.toArray⟩ : ByteArray).extract 0 3 = ⟨d3.toArray⟩ := by
        apply str_eq
        rw [Lib.extract_data]
        simp only [List.drop_zero]
        exact hd3
      rw [hd3] at HRES2
      clear hd3
      have b2 : 3 * ((j : Int) + 1) ≤ 36 := by omega
      have b3 : 3 ≤ 3 * ((j : Int) + 1) := by omega
      have b4 : 3 * ((j : Int) + 1) - 3 ≤ 3 * ((j : Int) + 1) := by omega
      obtain ⟨mo, hmo3⟩ : ∃ mo, (dmonths.drop (3 * (j + 1) - 3)).take 3 = mo := ⟨_, rfl⟩
      rw [hmo3] at HRES2
      have hex : (⟨#[74, 97, 110, 70, 101, 98, 77, 97, 114, 65, 112, 114, 77, 97, 121, 74, 117, 110, 74, 117, 108, 65, 117, 103, 83, 101, 112, 79, 99, 116, 78, 111, 118, 68, 101, 99]⟩ : ByteArray).extract (3 * ((j : Int) + 1) - 3).toNat (3 * ((j : Int) + 1)).toNat = ⟨mo.toArray⟩ := by
        apply str_eq
        rw [Lib.extract_data, show (3 * ((j : Int) + 1) - 3).toNat = 3 * (j + 1) - 3 from by omega, show (3 * ((j : Int) + 1)).toNat = 3 * (j + 1) from by omega, show 3 * (j + 1) - (3 * (j + 1) - 3) = 3 from by omega]
        exact hmo3
      have hmol : mo.length = 3 := by rw [← hmo3, List.length_take, List.length_drop]; show min 3 (36 - _) = 3; omega
      clear hmo3
      generalize hp1 : dtwo (r + 1) = p1 at *
      generalize hp2 : dtwo (Y / 100) = p2 at *
      generalize hp3 : dtwo Y = p3 at *
      generalize hp4 : dtwo (s / 3600) = p4 at *
      generalize hp5 : dtwo (s / 60 % 60) = p5 at *
      generalize hp6 : dtwo (s % 60) = p6 at *
      have l1 : p1.length = 2 := by rw [← hp1]; rfl
      have l2 : p2.length = 2 := by rw [← hp2]; rfl
      have l3 : p3.length = 2 := by rw [← hp3]; rfl
      have l4 : p4.length = 2 := by rw [← hp4]; rfl
      have l5 : p5.length = 2 := by rw [← hp5]; rfl
      have l6 : p6.length = 2 := by rw [← hp6]; rfl
      clear hp1 hp2 hp3 hp4 hp5 hp6
      have HR2 := Lib.hid HRES2
      clear hD hdn hjs HJ HDM kl HRES HRES2 hsb hok hmo2 HMO hgd
      go_wp2_with fail
      (with_reducible refine (KL.out _).mono ?_)
      rintro e w3 ⟨rfl, rfl⟩
      have KD := Lib.hid (fun w' (hb : Below w3.heap.size w3 w') => ddays_any w' (HE.out.below hb))
      have hv : (⟨d3.toArray⟩ : ByteArray) ++ ⟨#[44, 32]⟩ ++ ⟨p1.toArray⟩ ++ ⟨#[32]⟩ ++ ⟨mo.toArray⟩ ++ ⟨#[32]⟩ ++ ⟨p2.toArray⟩ ++ ⟨p3.toArray⟩ ++ ⟨#[32]⟩ ++ ⟨p4.toArray⟩ ++ ⟨#[58]⟩ ++ ⟨p5.toArray⟩ ++ ⟨#[58]⟩ ++ ⟨p6.toArray⟩ ++ ⟨#[32, 71, 77, 84]⟩ = ⟨RES.toArray⟩ := by
        apply str_eq
        rw [← HR2.out]
        simp
      have HV := Lib.hid hv
      clear hv
      go_wp2_with fail
      refine wp_region_held_drew (S := fun w' => Below w3.heap.size w3 w') (by kernel_rfl) ((Below.refl _ w3).drew) (fun hHeld => ?_)
      refine wpAnyH_take (i := 1) (v := ?_) (by simp only [List.getElem?_toArray, List.getElem?_cons_succ, List.getElem?_cons_zero]; exact rfl) (by kernel_rfl) (by kernel_rfl) (by kernel_rfl) (by intro _ _ _ h; exact h) (Or.inl ⟨by rfl, fun W hSw => ?_⟩) hHeld ?_
      rotate_left
      focus ((try dsimp only at hSw); first | (go_simp; done) | (go_simp; with_reducible rfl))
      try simp only [Act.put, List.setIfInBounds_toArray, List.set_cons_zero, List.set_cons_succ]
      refine wpAnyH_take (i := 2) (v := ?_) (by simp only [List.getElem?_toArray, List.getElem?_cons_succ, List.getElem?_cons_zero]; exact rfl) (by kernel_rfl) (by kernel_rfl) (by kernel_rfl) (by intro _ _ _ h; exact h) (Or.inl ⟨by rfl, fun W hSw => ?_⟩) hHeld ?_
      rotate_left
      focus ((try dsimp only at hSw); first | (go_simp; done) | (go_simp; with_reducible rfl))
      try simp only [Act.put, List.setIfInBounds_toArray, List.set_cons_zero, List.set_cons_succ]
      refine wpAnyH_take (i := 7) (v := ?_) (by simp only [List.getElem?_toArray, List.getElem?_cons_succ, List.getElem?_cons_zero]; exact rfl) (by kernel_rfl) (by kernel_rfl) (by kernel_rfl) (by intro _ _ _ h; exact h) (Or.inl ⟨by rfl, fun W hSw => ?_⟩) hHeld ?_
      rotate_left
      focus ((try dsimp only at hSw); first | (go_simp; done) | (go_simp; with_reducible rfl))
      try simp only [Act.put, List.setIfInBounds_toArray, List.set_cons_zero, List.set_cons_succ]
      refine wpAnyH_take (i := 8) (v := ?_) (by simp only [List.getElem?_toArray, List.getElem?_cons_succ, List.getElem?_cons_zero]; exact rfl) (by kernel_rfl) (by kernel_rfl) (by kernel_rfl) (by intro _ _ _ h; exact h) (Or.inl ⟨by rfl, fun W hSw => ?_⟩) hHeld ?_
      rotate_left
      focus ((try dsimp only at hSw); first | (go_simp; done) | (go_simp; with_reducible rfl))
      try simp only [Act.put, List.setIfInBounds_toArray, List.set_cons_zero, List.set_cons_succ]
      refine wpAnyH_take (i := 12) (v := ?_) (by simp only [List.getElem?_toArray, List.getElem?_cons_succ, List.getElem?_cons_zero]; exact rfl) (by kernel_rfl) (by kernel_rfl) (by kernel_rfl) (by intro _ _ _ h; exact h) (Or.inl ⟨by rfl, fun W hSw => ?_⟩) hHeld ?_
      rotate_left
      focus ((try dsimp only at hSw); first | (go_simp; done) | (go_simp; with_reducible rfl))
      try simp only [Act.put, List.setIfInBounds_toArray, List.set_cons_zero, List.set_cons_succ]
      refine wpAnyH_take (i := 13) (v := ?_) (by simp only [List.getElem?_toArray, List.getElem?_cons_succ, List.getElem?_cons_zero]; exact rfl) (by kernel_rfl) (by kernel_rfl) (by kernel_rfl) (by intro _ _ _ h; exact h) (Or.inl ⟨by rfl, fun W hSw => ?_⟩) hHeld ?_
      rotate_left
      focus ((try dsimp only at hSw); first | (go_simp; done) | (go_simp; with_reducible rfl))
      try simp only [Act.put, List.setIfInBounds_toArray, List.set_cons_zero, List.set_cons_succ]
      refine wpAnyH_take (i := 14) (v := ?_) (by simp only [List.getElem?_toArray, List.getElem?_cons_succ, List.getElem?_cons_zero]; exact rfl) (by kernel_rfl) (by kernel_rfl) (by kernel_rfl) (by intro _ _ _ h; exact h) (Or.inl ⟨by rfl, fun W hSw => ?_⟩) hHeld ?_
      rotate_left
      focus ((try dsimp only at hSw); first | (go_simp; done) | (go_simp; with_reducible rfl))
      try simp only [Act.put, List.setIfInBounds_toArray, List.set_cons_zero, List.set_cons_succ]
      refine wpAnyH_take (i := 15) (v := ?_) (by simp only [List.getElem?_toArray, List.getElem?_cons_succ, List.getElem?_cons_zero]; exact rfl) (by kernel_rfl) (by kernel_rfl) (by kernel_rfl) (by intro _ _ _ h; exact h) (Or.inl ⟨by rfl, fun W hSw => ?_⟩) hHeld ?_
      rotate_left
      focus ((try dsimp only at hSw); first | (go_simp; done) | (go_simp; with_reducible rfl))
      try simp only [Act.put, List.setIfInBounds_toArray, List.set_cons_zero, List.set_cons_succ]
      refine wpAnyH_take (i := 16) (v := ?_) (by simp only [List.getElem?_toArray, List.getElem?_cons_succ, List.getElem?_cons_zero]; exact rfl) (by kernel_rfl) (by kernel_rfl) (by kernel_rfl) (by intro _ _ _ h; exact h) (Or.inl ⟨by rfl, fun W hSw => ?_⟩) hHeld ?_
      rotate_left
      focus ((try dsimp only at hSw); first | (go_simp; done) | (go_simp; with_reducible rfl))
      try simp only [Act.put, List.setIfInBounds_toArray, List.set_cons_zero, List.set_cons_succ]
      refine wpAnyH_take (i := 17) (v := ?_) (by simp only [List.getElem?_toArray, List.getElem?_cons_succ, List.getElem?_cons_zero]; exact rfl) (by kernel_rfl) (by kernel_rfl) (by kernel_rfl) (by intro _ _ _ h; exact h) (Or.inl ⟨by rfl, fun W hSw => ?_⟩) hHeld ?_
      rotate_left
      focus ((try dsimp only at hSw); first | (go_simp; done) | (go_simp; with_reducible rfl))
      try simp only [Act.put, List.setIfInBounds_toArray, List.set_cons_zero, List.set_cons_succ]
      refine wpAnyH_take (i := 20) (v := ?_) (by simp only [List.getElem?_toArray, List.getElem?_cons_succ, List.getElem?_cons_zero]; exact rfl) (by kernel_rfl) (by kernel_rfl) (by kernel_rfl) (by intro _ _ _ h; exact h) (Or.inl ⟨by rfl, fun W hSw => ?_⟩) hHeld ?_
      rotate_left
      focus ((try dsimp only at hSw); first | (go_simp; done) | (go_simp; with_reducible rfl))
      try simp only [Act.put, List.setIfInBounds_toArray, List.set_cons_zero, List.set_cons_succ]
      refine wpAnyH_take (i := 21) (v := ?_) (by simp only [List.getElem?_toArray, List.getElem?_cons_succ, List.getElem?_cons_zero]; exact rfl) (by kernel_rfl) (by kernel_rfl) (by kernel_rfl) (by intro _ _ _ h; exact h) (Or.inl ⟨by rfl, fun W hSw => ?_⟩) hHeld ?_
      rotate_left
      focus ((try dsimp only at hSw); first | (go_simp; done) | (go_simp; with_reducible rfl))
      try simp only [Act.put, List.setIfInBounds_toArray, List.set_cons_zero, List.set_cons_succ]
      refine wpAnyH_take (i := 24) (v := ?_) (by simp only [List.getElem?_toArray, List.getElem?_cons_succ, List.getElem?_cons_zero]; exact rfl) (by kernel_rfl) (by kernel_rfl) (by kernel_rfl) (by intro _ _ _ h; exact h) (Or.inl ⟨by rfl, fun W hSw => ?_⟩) hHeld ?_
      rotate_left
      focus ((try dsimp only at hSw); first | (go_simp; done) | (go_simp; with_reducible rfl))
      try simp only [Act.put, List.setIfInBounds_toArray, List.set_cons_zero, List.set_cons_succ]
      refine wpAnyH_take (i := 28) (v := ?_) (by simp only [List.getElem?_toArray, List.getElem?_cons_succ, List.getElem?_cons_zero]; exact rfl) (by kernel_rfl) (by kernel_rfl) (by kernel_rfl) (by intro _ _ _ h; exact h) (Or.inl ⟨by rfl, fun W hSw => ?_⟩) hHeld ?_
      rotate_left
      focus ((try dsimp only at hSw); first | (go_simp; done) | (go_simp; with_reducible rfl))
      try simp only [Act.put, List.setIfInBounds_toArray, List.set_cons_zero, List.set_cons_succ]
      refine wpAnyH_take (i := 29) (v := ?_) (by simp only [List.getElem?_toArray, List.getElem?_cons_succ, List.getElem?_cons_zero]; exact rfl) (by kernel_rfl) (by kernel_rfl) (by kernel_rfl) (by intro _ _ _ h; exact h) (Or.inl ⟨by rfl, fun W hSw => ?_⟩) hHeld ?_
      rotate_left
      focus ((try dsimp only at hSw); first | (go_simp; done) | (go_simp; with_reducible rfl))
      try simp only [Act.put, List.setIfInBounds_toArray, List.set_cons_zero, List.set_cons_succ]
      refine wpAnyH_take (i := 33) (v := ?_) (by simp only [List.getElem?_toArray, List.getElem?_cons_succ, List.getElem?_cons_zero]; exact rfl) (by kernel_rfl) (by kernel_rfl) (by kernel_rfl) (by intro _ _ _ h; exact h) (Or.inl ⟨by rfl, fun W hSw => ?_⟩) hHeld ?_
      rotate_left
      focus ((try dsimp only at hSw); first | (go_simp; done) | (go_simp; with_reducible rfl))
      try simp only [Act.put, List.setIfInBounds_toArray, List.set_cons_zero, List.set_cons_succ]
      refine wpAnyH_take (i := 34) (v := ?_) (by simp only [List.getElem?_toArray, List.getElem?_cons_succ, List.getElem?_cons_zero]; exact rfl) (by kernel_rfl) (by kernel_rfl) (by kernel_rfl) (by intro _ _ _ h; exact h) (Or.inl ⟨by rfl, fun W hSw => ?_⟩) hHeld ?_
      rotate_left
      focus ((try dsimp only at hSw); first | (go_simp; done) | (go_simp; with_reducible rfl))
      try simp only [Act.put, List.setIfInBounds_toArray, List.set_cons_zero, List.set_cons_succ]
      refine wpAnyH_take (i := 35) (v := ?_) (by simp only [List.getElem?_toArray, List.getElem?_cons_succ, List.getElem?_cons_zero]; exact rfl) (by kernel_rfl) (by kernel_rfl) (by kernel_rfl) (by intro _ _ _ h; exact h) (Or.inl ⟨by rfl, fun W hSw => ?_⟩) hHeld ?_
      rotate_left
      focus ((try dsimp only at hSw); first | (go_simp; done) | (go_simp; with_reducible rfl))
      try simp only [Act.put, List.setIfInBounds_toArray, List.set_cons_zero, List.set_cons_succ]
      refine wpAnyH_take (i := 39) (v := ?_) (by simp only [List.getElem?_toArray, List.getElem?_cons_succ, List.getElem?_cons_zero]; exact rfl) (by kernel_rfl) (by kernel_rfl) (by kernel_rfl) (by intro _ _ _ h; exact h) (Or.inl ⟨by rfl, fun W hSw => ?_⟩) hHeld ?_
      rotate_left
      focus ((try dsimp only at hSw); first | (go_simp; done) | (go_simp; with_reducible rfl))
      try simp only [Act.put, List.setIfInBounds_toArray, List.set_cons_zero, List.set_cons_succ]
      refine wpAnyH_take (i := 40) (v := ?_) (by simp only [List.getElem?_toArray, List.getElem?_cons_succ, List.getElem?_cons_zero]; exact rfl) (by kernel_rfl) (by kernel_rfl) (by kernel_rfl) (by intro _ _ _ h; exact h) (Or.inl ⟨by rfl, fun W hSw => ?_⟩) hHeld ?_
      rotate_left
      focus ((try dsimp only at hSw); first | (go_simp; done) | (go_simp; with_reducible rfl))
      try simp only [Act.put, List.setIfInBounds_toArray, List.set_cons_zero, List.set_cons_succ]
      refine wpAnyH_ready (rs := [0]) (by kernel_rfl) (by simp) (AllReadyH.cons (by simp only [List.getElem?_toArray, List.getElem?_cons_zero]; exact rfl) (fun K hK => ?_) AllReadyH.nil)
      rw [if_pos (by rfl)]
      go_simp
      refine (KD.out _ ((Below.refl _ w3).drew)).mono ?_
      rintro e w5 ⟨rfl, hr5, hb5⟩
      have hb05 : Below w3.heap.size w3 w5 := ((Below.refl _ w3).drew).trans hb5
      obtain ⟨g5, o5, e5, hl5, hc5⟩ := hr5.str_at (k := k7) hk7
      cases e5
      rw [Nat.zero_add, hday] at hc5
      go_wp2_with fail
      refine hK.out _ _ (hb05) (fun hHeld => ?_)
      clear hK K
      try simp only [Act.put, List.setIfInBounds_toArray, List.set_cons_zero, List.set_cons_succ]
      refine wpAnyH_strong (S' := fun w' => Below w3.heap.size w3 w' ∧ w'.cell? ⟨w3.heap.size, k7, none⟩ = some (.string ⟨dn.toArray⟩)) (fun _ h => h.1) ?_
      replace hHeld : Below w3.heap.size w3 w5 ∧ w5.cell? ⟨w3.heap.size, k7, none⟩ = some (.string ⟨dn.toArray⟩) := ⟨hb05, hc5⟩
      refine wpAnyH_take (i := 3) (v := ?_) (by simp only [List.getElem?_toArray, List.getElem?_cons_succ, List.getElem?_cons_zero]; exact rfl) (by kernel_rfl) (by kernel_rfl) (by kernel_rfl) (by intro _ _ _ h; exact h) (Or.inl ⟨by rfl, fun W hSw => ?_⟩) hHeld ?_
      rotate_left
      focus ((try dsimp only at hSw); first | (go_simp; done) | (go_simp; with_reducible rfl))
      try simp only [Act.put, List.setIfInBounds_toArray, List.set_cons_zero, List.set_cons_succ]
      refine wpAnyH_take (i := 4) (v := ?_) (by simp only [List.getElem?_toArray, List.getElem?_cons_succ, List.getElem?_cons_zero]; exact rfl) (by kernel_rfl) (by kernel_rfl) (by kernel_rfl) (by intro _ _ _ h; exact h) (Or.inl ⟨by rfl, fun W hSw => ?_⟩) hHeld ?_
      rotate_left
      focus ((try dsimp only at hSw); first | (go_simp; done) | (go_simp; with_reducible rfl))
      try simp only [Act.put, List.setIfInBounds_toArray, List.set_cons_zero, List.set_cons_succ]
      refine wpAnyH_take (i := 5) (v := ?_) (by simp only [List.getElem?_toArray, List.getElem?_cons_succ, List.getElem?_cons_zero]; exact rfl) (by kernel_rfl) (by kernel_rfl) (by kernel_rfl) (by intro _ _ _ h; exact h) (Or.inl ⟨by rfl, fun W hSw => ?_⟩) hHeld ?_
      rotate_left
      focus ((try dsimp only at hSw); first | (go_simp; done) | (go_simp; with_reducible rfl))
      try simp only [Act.put, List.setIfInBounds_toArray, List.set_cons_zero, List.set_cons_succ]
      refine wpAnyH_take (i := 6) (v := ?_) (by simp only [List.getElem?_toArray, List.getElem?_cons_succ, List.getElem?_cons_zero]; exact rfl) (by kernel_rfl) (by kernel_rfl) (by kernel_rfl) (by intro _ _ _ h; exact h) (Or.inl ⟨by rfl, fun W hSw => ?_⟩) hHeld ?_
      rotate_left
      focus ((try dsimp only at hSw); first | (go_simp; done) | (go_simp; with_reducible rfl))
      try simp only [Act.put, List.setIfInBounds_toArray, List.set_cons_zero, List.set_cons_succ]
      refine wpAnyH_ready (rs := [9]) (by kernel_rfl) (by simp) (AllReadyH.cons (by simp only [List.getElem?_toArray, List.getElem?_cons_succ, List.getElem?_cons_zero]; exact rfl) (fun K hK => ?_) AllReadyH.nil)
      rw [if_pos (by rfl)]
      go_simp
      refine (T1.out _).mono ?_
      rintro e w6 ⟨rfl, hx6⟩
      have hb06 : Below w3.heap.size w3 w6 := hb05.trans (hx6.mono hb05.size)
      have hl6 := World.block_lt_of_cell? _ _ hc5
      have hc6 : w6.cell? ⟨w3.heap.size, k7, none⟩ = some (.string ⟨dn.toArray⟩) := (hx6.cell (p := ⟨w3.heap.size, k7, none⟩) hl6).trans hc5
      go_wp2_with fail
      refine hK.out _ _ (⟨hb06, hc6⟩) (fun hHeld => ?_)
      clear hK K
      try simp only [Act.put, List.setIfInBounds_toArray, List.set_cons_zero, List.set_cons_succ]
      refine wpAnyH_take (i := 10) (v := ?_) (by simp only [List.getElem?_toArray, List.getElem?_cons_succ, List.getElem?_cons_zero]; exact rfl) (by kernel_rfl) (by kernel_rfl) (by kernel_rfl) (by intro _ _ _ h; exact h) (Or.inl ⟨by rfl, fun W hSw => ?_⟩) hHeld ?_
      rotate_left
      focus ((try dsimp only at hSw); first | (go_simp; done) | (go_simp; with_reducible rfl))
      try simp only [Act.put, List.setIfInBounds_toArray, List.set_cons_zero, List.set_cons_succ]
      refine wpAnyH_take (i := 11) (v := ?_) (by simp only [List.getElem?_toArray, List.getElem?_cons_succ, List.getElem?_cons_zero]; exact rfl) (by kernel_rfl) (by kernel_rfl) (by kernel_rfl) (by intro _ _ _ h; exact h) (Or.inl ⟨by rfl, fun W hSw => ?_⟩) hHeld ?_
      rotate_left
      focus ((try dsimp only at hSw); first | (go_simp; done) | (go_simp; with_reducible rfl))
      try simp only [Act.put, List.setIfInBounds_toArray, List.set_cons_zero, List.set_cons_succ]
      refine wpAnyH_take (i := 18) (v := ?_) (by simp only [List.getElem?_toArray, List.getElem?_cons_succ, List.getElem?_cons_zero]; exact rfl) (by kernel_rfl) (by kernel_rfl) (by kernel_rfl) (by intro _ _ _ h; exact h) (Or.inl ⟨by rfl, fun W hSw => ?_⟩) hHeld ?_
      rotate_left
      focus ((try dsimp only at hSw); first | (go_simp; done) | (go_simp; with_reducible rfl))
      try simp only [Act.put, List.setIfInBounds_toArray, List.set_cons_zero, List.set_cons_succ]
      refine wpAnyH_take (i := 19) (v := ?_) (by simp only [List.getElem?_toArray, List.getElem?_cons_succ, List.getElem?_cons_zero]; exact rfl) (by kernel_rfl) (by kernel_rfl) (by kernel_rfl) (by intro _ _ _ h; exact h) (Or.inl ⟨by rfl, fun W hSw => ?_⟩) hHeld ?_
      rotate_left
      focus ((try dsimp only at hSw); first | (go_simp; done) | (go_simp; with_reducible rfl))
      try simp only [Act.put, List.setIfInBounds_toArray, List.set_cons_zero, List.set_cons_succ]
      refine wpAnyH_ready (rs := [22]) (by kernel_rfl) (by simp) (AllReadyH.cons (by simp only [List.getElem?_toArray, List.getElem?_cons_succ, List.getElem?_cons_zero]; exact rfl) (fun K hK => ?_) AllReadyH.nil)
      rw [if_pos (by rfl)]
      go_simp
      refine (T2.out _).mono ?_
      rintro e w7 ⟨rfl, hx7⟩
      have hb07 : Below w3.heap.size w3 w7 := hb06.trans (hx7.mono hb06.size)
      have hl7 := World.block_lt_of_cell? _ _ hc6
      have hc7 : w7.cell? ⟨w3.heap.size, k7, none⟩ = some (.string ⟨dn.toArray⟩) := (hx7.cell (p := ⟨w3.heap.size, k7, none⟩) hl7).trans hc6
      go_wp2_with fail
      refine hK.out _ _ (⟨hb07, hc7⟩) (fun hHeld => ?_)
      clear hK K
      try simp only [Act.put, List.setIfInBounds_toArray, List.set_cons_zero, List.set_cons_succ]
      refine wpAnyH_take (i := 23) (v := ?_) (by simp only [List.getElem?_toArray, List.getElem?_cons_succ, List.getElem?_cons_zero]; exact rfl) (by kernel_rfl) (by kernel_rfl) (by kernel_rfl) (by intro _ _ _ h; exact h) (Or.inl ⟨by rfl, fun W hSw => ?_⟩) hHeld ?_
      rotate_left
      focus ((try dsimp only at hSw); first | (go_simp; done) | (go_simp; with_reducible rfl))
      try simp only [Act.put, List.setIfInBounds_toArray, List.set_cons_zero, List.set_cons_succ]
      refine wpAnyH_ready (rs := [25]) (by kernel_rfl) (by simp) (AllReadyH.cons (by simp only [List.getElem?_toArray, List.getElem?_cons_succ, List.getElem?_cons_zero]; exact rfl) (fun K hK => ?_) AllReadyH.nil)
      rw [if_pos (by rfl)]
      go_simp
      refine (T3.out _).mono ?_
      rintro e w8 ⟨rfl, hx8⟩
      have hb08 : Below w3.heap.size w3 w8 := hb07.trans (hx8.mono hb07.size)
      have hl8 := World.block_lt_of_cell? _ _ hc7
      have hc8 : w8.cell? ⟨w3.heap.size, k7, none⟩ = some (.string ⟨dn.toArray⟩) := (hx8.cell (p := ⟨w3.heap.size, k7, none⟩) hl8).trans hc7
      go_wp2_with fail
      refine hK.out _ _ (⟨hb08, hc8⟩) (fun hHeld => ?_)
      clear hK K
      try simp only [Act.put, List.setIfInBounds_toArray, List.set_cons_zero, List.set_cons_succ]
      refine wpAnyH_take (i := 26) (v := ?_) (by simp only [List.getElem?_toArray, List.getElem?_cons_succ, List.getElem?_cons_zero]; exact rfl) (by kernel_rfl) (by kernel_rfl) (by kernel_rfl) (by intro _ _ _ h; exact h) (Or.inl ⟨by rfl, fun W hSw => ?_⟩) hHeld ?_
      rotate_left
      focus ((try dsimp only at hSw); first | (go_simp; done) | (go_simp; with_reducible rfl))
      try simp only [Act.put, List.setIfInBounds_toArray, List.set_cons_zero, List.set_cons_succ]
      refine wpAnyH_take (i := 27) (v := ?_) (by simp only [List.getElem?_toArray, List.getElem?_cons_succ, List.getElem?_cons_zero]; exact rfl) (by kernel_rfl) (by kernel_rfl) (by kernel_rfl) (by intro _ _ _ h; exact h) (Or.inl ⟨by rfl, fun W hSw => ?_⟩) hHeld ?_
      rotate_left
      focus ((try dsimp only at hSw); first | (go_simp; done) | (go_simp; with_reducible rfl))
      try simp only [Act.put, List.setIfInBounds_toArray, List.set_cons_zero, List.set_cons_succ]
      refine wpAnyH_ready (rs := [30]) (by kernel_rfl) (by simp) (AllReadyH.cons (by simp only [List.getElem?_toArray, List.getElem?_cons_succ, List.getElem?_cons_zero]; exact rfl) (fun K hK => ?_) AllReadyH.nil)
      rw [if_pos (by rfl)]
      go_simp
      refine (T4.out _).mono ?_
      rintro e w9 ⟨rfl, hx9⟩
      have hb09 : Below w3.heap.size w3 w9 := hb08.trans (hx9.mono hb08.size)
      have hl9 := World.block_lt_of_cell? _ _ hc8
      have hc9 : w9.cell? ⟨w3.heap.size, k7, none⟩ = some (.string ⟨dn.toArray⟩) := (hx9.cell (p := ⟨w3.heap.size, k7, none⟩) hl9).trans hc8
      go_wp2_with fail
      refine hK.out _ _ (⟨hb09, hc9⟩) (fun hHeld => ?_)
      clear hK K
      try simp only [Act.put, List.setIfInBounds_toArray, List.set_cons_zero, List.set_cons_succ]
      refine wpAnyH_take (i := 31) (v := ?_) (by simp only [List.getElem?_toArray, List.getElem?_cons_succ, List.getElem?_cons_zero]; exact rfl) (by kernel_rfl) (by kernel_rfl) (by kernel_rfl) (by intro _ _ _ h; exact h) (Or.inl ⟨by rfl, fun W hSw => ?_⟩) hHeld ?_
      rotate_left
      focus ((try dsimp only at hSw); first | (go_simp; done) | (go_simp; with_reducible rfl))
      try simp only [Act.put, List.setIfInBounds_toArray, List.set_cons_zero, List.set_cons_succ]
      refine wpAnyH_take (i := 32) (v := ?_) (by simp only [List.getElem?_toArray, List.getElem?_cons_succ, List.getElem?_cons_zero]; exact rfl) (by kernel_rfl) (by kernel_rfl) (by kernel_rfl) (by intro _ _ _ h; exact h) (Or.inl ⟨by rfl, fun W hSw => ?_⟩) hHeld ?_
      rotate_left
      focus ((try dsimp only at hSw); first | (go_simp; done) | (go_simp; with_reducible rfl))
      try simp only [Act.put, List.setIfInBounds_toArray, List.set_cons_zero, List.set_cons_succ]
      refine wpAnyH_ready (rs := [36]) (by kernel_rfl) (by simp) (AllReadyH.cons (by simp only [List.getElem?_toArray, List.getElem?_cons_succ, List.getElem?_cons_zero]; exact rfl) (fun K hK => ?_) AllReadyH.nil)
      rw [if_pos (by rfl)]
      go_simp
      refine (T5.out _).mono ?_
      rintro e w10 ⟨rfl, hx10⟩
      have hb010 : Below w3.heap.size w3 w10 := hb09.trans (hx10.mono hb09.size)
      have hl10 := World.block_lt_of_cell? _ _ hc9
      have hc10 : w10.cell? ⟨w3.heap.size, k7, none⟩ = some (.string ⟨dn.toArray⟩) := (hx10.cell (p := ⟨w3.heap.size, k7, none⟩) hl10).trans hc9
      go_wp2_with fail
      refine hK.out _ _ (⟨hb010, hc10⟩) (fun hHeld => ?_)
      clear hK K
      try simp only [Act.put, List.setIfInBounds_toArray, List.set_cons_zero, List.set_cons_succ]
      refine wpAnyH_take (i := 37) (v := ?_) (by simp only [List.getElem?_toArray, List.getElem?_cons_succ, List.getElem?_cons_zero]; exact rfl) (by kernel_rfl) (by kernel_rfl) (by kernel_rfl) (by intro _ _ _ h; exact h) (Or.inl ⟨by rfl, fun W hSw => ?_⟩) hHeld ?_
      rotate_left
      focus ((try dsimp only at hSw); first | (go_simp; done) | (go_simp; with_reducible rfl))
      try simp only [Act.put, List.setIfInBounds_toArray, List.set_cons_zero, List.set_cons_succ]
      refine wpAnyH_take (i := 38) (v := ?_) (by simp only [List.getElem?_toArray, List.getElem?_cons_succ, List.getElem?_cons_zero]; exact rfl) (by kernel_rfl) (by kernel_rfl) (by kernel_rfl) (by intro _ _ _ h; exact h) (Or.inl ⟨by rfl, fun W hSw => ?_⟩) hHeld ?_
      rotate_left
      focus ((try dsimp only at hSw); first | (go_simp; done) | (go_simp; with_reducible rfl))
      try simp only [Act.put, List.setIfInBounds_toArray, List.set_cons_zero, List.set_cons_succ]
      refine wpAnyH_ready (rs := [41]) (by kernel_rfl) (by simp) (AllReadyH.cons (by simp only [List.getElem?_toArray, List.getElem?_cons_succ, List.getElem?_cons_zero]; exact rfl) (fun K hK => ?_) AllReadyH.nil)
      rw [if_pos (by rfl)]
      go_simp
      refine (T6.out _).mono ?_
      rintro e w11 ⟨rfl, hx11⟩
      have hb011 : Below w3.heap.size w3 w11 := hb010.trans (hx11.mono hb010.size)
      have hl11 := World.block_lt_of_cell? _ _ hc10
      have hc11 : w11.cell? ⟨w3.heap.size, k7, none⟩ = some (.string ⟨dn.toArray⟩) := (hx11.cell (p := ⟨w3.heap.size, k7, none⟩) hl11).trans hc10
      go_wp2_with fail
      refine hK.out _ _ (⟨hb011, hc11⟩) (fun hHeld => ?_)
      clear hK K
      try simp only [Act.put, List.setIfInBounds_toArray, List.set_cons_zero, List.set_cons_succ]
      refine wpAnyH_take (i := 42) (v := ?_) (by simp only [List.getElem?_toArray, List.getElem?_cons_succ, List.getElem?_cons_zero]; exact rfl) (by kernel_rfl) (by kernel_rfl) (by kernel_rfl) (by intro _ _ _ h; exact h) (Or.inl ⟨by rfl, fun W hSw => ?_⟩) hHeld ?_
      rotate_left
      focus ((try dsimp only at hSw); first | (go_simp; done) | (go_simp; with_reducible rfl))
      try simp only [Act.put, List.setIfInBounds_toArray, List.set_cons_zero, List.set_cons_succ]
      refine wpAnyH_take (i := 43) (v := ?_) (by simp only [List.getElem?_toArray, List.getElem?_cons_succ, List.getElem?_cons_zero]; exact rfl) (by kernel_rfl) (by kernel_rfl) (by kernel_rfl) (by intro _ _ _ h; exact h) (Or.inl ⟨by rfl, fun W hSw => ?_⟩) hHeld ?_
      rotate_left
      focus ((try dsimp only at hSw); first | (go_simp; done) | (go_simp; with_reducible rfl))
      try simp only [Act.put, List.setIfInBounds_toArray, List.set_cons_zero, List.set_cons_succ]
      refine wpAnyH_take (i := 44) (v := ?_) (by simp only [List.getElem?_toArray, List.getElem?_cons_succ, List.getElem?_cons_zero]; exact rfl) (by kernel_rfl) (by kernel_rfl) (by kernel_rfl) (by intro _ _ _ h; exact h) (Or.inl ⟨by rfl, fun W hSw => ?_⟩) hHeld ?_
      rotate_left
      focus ((try dsimp only at hSw); first | (go_simp; done) | (go_simp; with_reducible rfl))
      try simp only [Act.put, List.setIfInBounds_toArray, List.set_cons_zero, List.set_cons_succ]
      refine wpAnyH_done (by kernel_rfl) ?_ _
      clear hHeld
      go_wp2
      go_ret
      exact ⟨by rw [← HV.out]; rfl, hb011⟩
theorem dput_any (t : Int) (w : World) (hE : DEnv w) : Calls Tryd.prog 18 #[.int .i64 t] w fun e w' => e = .returned (.string ⟨(dputL t).toArray⟩) ∧ Below w.heap.size w w' := by
  by_cases h : t < 0 ∨ 253402300799 < t
  · exact dput_none t w h
  · exact dput_in t w hE (by omega)
end Go.Proofs.YthnfmhjjpodhfaaDoor
