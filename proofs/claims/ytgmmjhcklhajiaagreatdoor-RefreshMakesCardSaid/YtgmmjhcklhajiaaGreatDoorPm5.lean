/- Joined out of the texts DatePut, Works20, TabOf, DEnv, OpenT, Open, OpenV, OpenRep, SameF04, Same20, Few20 (wip/tools/merge.py). -/
import Derived.Test.YtgmmjhcklhajiaaGreatDoorPm4
import Derived.Deep.RegionHeld3
import Derived.Lib.LaidU8
import Derived.MakeChecks
import Derived.OpenShut
import Derived.SizedLaws
import Derived.Deep.Slices
import Derived.SliceStrings
import Derived.ChangeSame
import Derived.IntWalk
/- Dates: the walk of Put (printed by wip/tools/dateput.py). -/
namespace Go.Proofs.YtgmmjhcklhajiaaGreatDoor
open Go.RowKit
set_option maxRecDepth 100000

/-- What holds behind each operation may be asked more of from here on. -/
theorem wpAnyH_strong {P : Program} {md : Region.Mode} {ops : Array Oper} {Q : Exit → Act → World → Prop} {S S' : World → Prop} (hSS : ∀ w, S' w → S w) : ∀ {fuel : Nat} {listed : Array Bool} {a : Act} {w : World}, wpAnyH P md ops Q S' fuel listed a w → wpAnyH P md ops Q S fuel listed a w
  | 0, _, _, _, h => h
  | _ + 1, _, _, _, h => ⟨h.1, fun i hi => wpOp_mono (fun _ _ h' => ⟨hSS _ h'.1, wpAnyH_strong hSS h'.2⟩) (h.2 i hi)⟩
theorem dmon_ok (y : Int) (r0 : Int) (h : r0 < dmons y 12) : ∀ (f j : Nat) (r : Int), j + f = 12 → 0 ≤ r → r = r0 - dmons y j → 0 ≤ (dmon y f r (j + 1)).1 ∧ (dmon y f r (j + 1)).1 ≤ 30 ∧ 1 ≤ (dmon y f r (j + 1)).2 ∧ (dmon y f r (j + 1)).2 ≤ 12
  | 0, j, r, hj, h0, hr => by
    have : j = 12 := by omega
    subst this
    omega
  | f + 1, j, r, hj, h0, hr => by
    rw [dmon]
    have hl := dlong_le y ((j : Int) + 1)
    have hd : dmons y (j + 1) = dmons y j + dlong y ((j : Int) + 1) := rfl
    split
    · rename_i hle
      have ih := dmon_ok y r0 h f (j + 1) (r - dlong y ((j : Int) + 1)) (by omega) (by omega) (by rw [hd]; omega)
      have e1 : (((j + 1 : Nat) : Int) + 1) = (j : Int) + 1 + 1 := by omega
      rw [e1] at ih
      exact ih
    · simp only
      omega
theorem days_at (k : Nat) (h : k < 7) : ∃ dn, (ddays[k]'h) = dn ∧ ddays.getD k [] = dn ∧ 6 ≤ dn.length := by
  refine ⟨_, rfl, ?_, ?_⟩
  · rw [List.getD_eq_getElem?_getD, List.getElem?_eq_getElem h]; rfl
  · have : ∀ x ∈ ddays, 6 ≤ x.length := by decide
    exact this _ (List.getElem_mem h)
set_option maxHeartbeats 4000000 in
theorem dput_none (t : Int) (w : World) (h : t < 0 ∨ 253402300799 < t) : Calls Tryz.prog 41 #[.int .i64 t] w fun e w' => e = .returned (.string ⟨(dputL t).toArray⟩) ∧ Below w.heap.size w w' := by
  have hx : dputL t = [] := by unfold dputL; rw [if_pos h]
  rw [hx]
  rcases h with h | h
  · have t1 : decide (t < 0) = true := by simpa using h
    go_enter Tryz.func41, Tryz.ntmps41
    go_wp2
    go_ret
    exact ⟨rfl, Below.refl _ _⟩
  · have t1 : decide (t < 0) = false := by simp; omega
    have t2 : decide (t > 253402300799) = true := by simpa using h
    go_enter Tryz.func41, Tryz.ntmps41
    go_wp2
    go_ret
    exact ⟨rfl, Below.refl _ _⟩
set_option maxHeartbeats 32000000 in
theorem dput_in (t : Int) (w : World) (hE : DEnv w) (h : 0 ≤ t ∧ t ≤ 253402300799) : Calls Tryz.prog 41 #[.int .i64 t] w fun e w' => e = .returned (.string ⟨(dputL t).toArray⟩) ∧ Below w.heap.size w w' := by
  have hx : dputL t = dputD (t / 86400) (t % 86400) := by unfold dputL; rw [if_neg (by omega)]
  rw [hx]
  have t1 : decide (t < 0) = false := by simp; omega
  have t2 : decide (t > 253402300799) = false := by simp; omega
  have e1 : t.tdiv 86400 = t / 86400 := Int.tdiv_eq_ediv_of_nonneg h.1
  have e2 : t.tmod 86400 = t % 86400 := Int.tmod_eq_emod_of_nonneg h.1
  obtain ⟨d, hd⟩ : ∃ d, t / 86400 = d := ⟨_, rfl⟩
  obtain ⟨s, hs⟩ : ∃ s, t % 86400 = s := ⟨_, rfl⟩
  have hdb : 0 ≤ d ∧ d ≤ 2932896 := by omega
  have hsb : 0 ≤ s ∧ s ≤ 86399 := by omega
  rw [hd] at e1 ⊢
  rw [hs] at e2 ⊢
  have w0 : IntKind.i64.wrap d = d := by rw [IntKind.wrap_i64]; omega
  have w1 : IntKind.i64.wrap s = s := by rw [IntKind.wrap_i64]; omega
  have hok := dyearO_ok d hdb
  have ky := dyear_any d (by omega) w
  unfold dputD
  generalize dyearO d = YR at *
  obtain ⟨Y, r0⟩ := YR
  simp only at hok ky ⊢
  have hYb : 0 ≤ Y ∧ Y ≤ 100000 := by omega
  have hmo := dmon_ok Y r0 hok.2.2.2 12 0 r0 rfl hok.2.2.1 (by simp [dmons])
  rw [show ((0 : Nat) : Int) + 1 = 1 from rfl] at hmo
  obtain ⟨M, hM⟩ : ∃ M, dmon Y 12 r0 1 = M := ⟨_, rfl⟩
  rw [hM] at hmo ⊢
  obtain ⟨d7, hd7⟩ : ∃ k7 : Nat, (d % 7).toNat = k7 := ⟨_, rfl⟩
  obtain ⟨RES, hRES⟩ : ∃ RES, ((ddays.getD (d % 7).toNat []).take 3) ++ [44, 32] ++ dtwo (M.1 + 1) ++ [32] ++ ((dmonths.drop (3 * M.2.toNat - 3)).take 3) ++ [32] ++ dtwo (Y / 100) ++ dtwo Y ++ [32] ++ dtwo (s / 3600) ++ [58] ++ dtwo (s / 60 % 60) ++ [58] ++ dtwo (s % 60) ++ [32, 71, 77, 84] = RES := ⟨_, rfl⟩
  rw [hRES]
  have HRES := Lib.hid hRES; have HM := Lib.hid hM; have KY := Lib.hid ky; have HOK := Lib.hid hok; have HMO := Lib.hid hmo; have HE := Lib.hid hE; have HDB := Lib.hid hdb; have HSB := Lib.hid hsb
  clear hRES hM ky hok hmo hE hd hs hd7 hx hdb hsb
  go_enter Tryz.func41, Tryz.ntmps41
  go_wp2_with fail
  (with_reducible refine KY.out.mono ?_)
  rintro e w2 ⟨rfl, rfl⟩
  go_wp2_with fail
  go_loopw [6, 7] (fun rv mv wr => ∃ (j : Nat) (r : Int), rv = .int .i64 r ∧ mv = .int .i64 ((j : Int) + 1) ∧ j ≤ 11 ∧ 0 ≤ r ∧ Hid (r = r0 - dmons Y j) ∧ Hid (dmon Y (12 - j) r ((j : Int) + 1) = M) ∧ wr = w2) (fun _ mv _ => 20 - (intD mv).toNat)
  case atStart => exact ⟨0, r0, rfl, rfl, by omega, HOK.out.2.2.1, Lib.hid (by simp [dmons]), Lib.hid HM.out, rfl⟩
  case round =>
    obtain ⟨j, r, rfl, rfl, hj, hr0, HJ, HDM, rfl⟩ := hrel
    have kl := fun w' => dlong_any Y ((j : Int) + 1) hYb w'
    have hl := dlong_le Y ((j : Int) + 1)
    have hdn : dmons Y (j + 1) = dmons Y j + dlong Y ((j : Int) + 1) := rfl
    have hD := HDM.out
    rw [show 12 - j = (11 - j) + 1 from by omega, dmon] at hD
    have hjs := HJ.out
    by_cases hge : dlong Y ((j : Int) + 1) ≤ r
    · have hj11 : j < 11 := by
        rcases Nat.lt_or_ge j 11 with h' | h'
        · exact h'
        · have : j = 11 := by omega
          subst this
          have := HOK.out.2.2.2
          have e12 : dmons Y 12 = dmons Y 11 + dlong Y ((11 : Nat) + 1 : Int) := rfl
          omega
      rw [if_pos hge] at hD
      have hjn : r - dlong Y ((j : Int) + 1) = r0 - dmons Y (j + 1) := by rw [hdn]; omega
      have hr1 : r ≤ 400 := by
        have := HOK.out.2.2.2
        rw [dmons_12] at this
        have := dmons_le Y j
        split at * <;> omega
      have v1 : IntKind.i64.wrap (r - dlong Y ((j : Int) + 1)) = r - dlong Y ((j : Int) + 1) := by rw [IntKind.wrap_i64]; omega
      have v2 : IntKind.i64.wrap ((j : Int) + 1 + 1) = (j : Int) + 1 + 1 := by rw [IntKind.wrap_i64]; omega
      have t3 : decide (r ≥ dlong Y ((j : Int) + 1)) = true := by simpa using hge
      have KL := Lib.hid kl; have HJN := Lib.hid hjn; have HDN := Lib.hid hD
      clear kl hdn hD hjs hjn HJ HDM
      go_wp2_with fail
      (with_reducible refine (KL.out _).mono ?_)
      rintro e w3 ⟨rfl, rfl⟩
      go_wp2_with fail
      (with_reducible refine (KL.out _).mono ?_)
      rintro e w3 ⟨rfl, rfl⟩
      go_wp2
      go_roundw
      case rel => exact ⟨j + 1, _, rfl, rfl, hj11, by omega, HJN, Lib.hid (by rw [show 12 - (j + 1) = 11 - j from by omega]; exact HDN.out), trivial⟩
      case measure => simp [intD]; omega
    · have hM2 : M = (r, (j : Int) + 1) := by rw [if_neg hge] at hD; exact hD.symm
      have t3 : decide (r ≥ dlong Y ((j : Int) + 1)) = false := by simpa using hge
      have KL := Lib.hid kl
      subst hM2
      have hmo2 := HMO.out
      simp only at hmo2
      have HRES2 := HRES.out
      simp only at HRES2
      have hmt : ((j : Int) + 1).toNat = j + 1 := by omega
      rw [hmt] at HRES2
      have hk7 : (d % 7).toNat < 7 := by have := HDB.out; omega
      obtain ⟨dn, hday, hgd, hdl⟩ := days_at (d % 7).toNat hk7
      rw [hgd] at HRES2
      have em7 : d.tmod 7 = d % 7 := Int.tmod_eq_emod_of_nonneg HDB.out.1
      have hdc : d % 7 = (((d % 7).toNat : Nat) : Int) := by have := HDB.out; omega
      generalize (d % 7).toNat = k7 at *
      rw [hdc] at em7
      have q1 : Y.tdiv 100 = Y / 100 := Int.tdiv_eq_ediv_of_nonneg (by omega)
      have q2 : s.tdiv 3600 = s / 3600 := Int.tdiv_eq_ediv_of_nonneg HSB.out.1
      have q3 : s.tdiv 60 = s / 60 := Int.tdiv_eq_ediv_of_nonneg HSB.out.1
      have q4 : (s / 60).tmod 60 = s / 60 % 60 := Int.tmod_eq_emod_of_nonneg (by have := HSB.out; omega)
      have q5 : s.tmod 60 = s % 60 := Int.tmod_eq_emod_of_nonneg HSB.out.1
      have hsb := HSB.out
      have hok := HOK.out
      have T1 := Lib.hid (fun w' => dtwo_any (r + 1) (by omega) w')
      have T2 := Lib.hid (fun w' => dtwo_any (Y / 100) (by omega) w')
      have T3 := Lib.hid (fun w' => dtwo_any Y (by omega) w')
      have T4 := Lib.hid (fun w' => dtwo_any (s / 3600) (by omega) w')
      have T5 := Lib.hid (fun w' => dtwo_any (s / 60 % 60) (by omega) w')
      have T6 := Lib.hid (fun w' => dtwo_any (s % 60) (by omega) w')
      have x1 : IntKind.i64.wrap (r + 1) = r + 1 := by rw [IntKind.wrap_i64]; omega
      have x2 : IntKind.i64.wrap (3 * ((j : Int) + 1)) = 3 * ((j : Int) + 1) := by rw [IntKind.wrap_i64]; omega
      have x3 : IntKind.i64.wrap (3 * ((j : Int) + 1) - 3) = 3 * ((j : Int) + 1) - 3 := by rw [IntKind.wrap_i64]; omega
      have x4 : IntKind.i64.wrap (Y / 100) = Y / 100 := by rw [IntKind.wrap_i64]; omega
      have x5 : IntKind.i64.wrap (s / 3600) = s / 3600 := by rw [IntKind.wrap_i64]; omega
      have x6 : IntKind.i64.wrap (s / 60) = s / 60 := by rw [IntKind.wrap_i64]; omega
      have x7 : IntKind.i64.wrap (s / 60 % 60) = s / 60 % 60 := by rw [IntKind.wrap_i64]; omega
      have x8 : IntKind.i64.wrap (s % 60) = s % 60 := by rw [IntKind.wrap_i64]; omega
      have b0 : (k7 : Int) < 7 := by omega
      have b1 : 0 ≤ 3 * ((j : Int) + 1) := by omega
      have hdni : (3 : Int) ≤ (dn.length : Int) := by omega
      obtain ⟨d3, hd3⟩ : ∃ d3, dn.take 3 = d3 := ⟨_, rfl⟩
      have hd3l : d3.length = 3 := by rw [← hd3, List.length_take]; omega
      have hdx : (⟨dn.toArray⟩ : ByteArray).extract 0 3 = ⟨d3.toArray⟩ := by
        apply str_eq
        rw [Lib.extract_data]
        simp only [List.drop_zero]
        exact hd3
      rw [hd3] at HRES2
      clear hd3
      have b2 : 3 * ((j : Int) + 1) ≤ 36 := by omega
      have b3 : 3 ≤ 3 * ((j : Int) + 1) := by omega
      have b4 : 3 * ((j : Int) + 1) - 3 ≤ 3 * ((j : Int) + 1) := by omega
      obtain ⟨mo, hmo3⟩ : ∃ mo, (dmonths.drop (3 * (j + 1) - 3)).take 3 = mo := ⟨_, rfl⟩
      rw [hmo3] at HRES2
      have hex : (⟨#[74, 97, 110, 70, 101, 98, 77, 97, 114, 65, 112, 114, 77, 97, 121, 74, 117, 110, 74, 117, 108, 65, 117, 103, 83, 101, 112, 79, 99, 116, 78, 111, 118, 68, 101, 99]⟩ : ByteArray).extract (3 * ((j : Int) + 1) - 3).toNat (3 * ((j : Int) + 1)).toNat = ⟨mo.toArray⟩ := by
        apply str_eq
        rw [Lib.extract_data, show (3 * ((j : Int) + 1) - 3).toNat = 3 * (j + 1) - 3 from by omega, show (3 * ((j : Int) + 1)).toNat = 3 * (j + 1) from by omega, show 3 * (j + 1) - (3 * (j + 1) - 3) = 3 from by omega]
        exact hmo3
      have hmol : mo.length = 3 := by rw [← hmo3, List.length_take, List.length_drop]; show min 3 (36 - _) = 3; omega
      clear hmo3
      generalize hp1 : dtwo (r + 1) = p1 at *
      generalize hp2 : dtwo (Y / 100) = p2 at *
      generalize hp3 : dtwo Y = p3 at *
      generalize hp4 : dtwo (s / 3600) = p4 at *
      generalize hp5 : dtwo (s / 60 % 60) = p5 at *
      generalize hp6 : dtwo (s % 60) = p6 at *
      have l1 : p1.length = 2 := by rw [← hp1]; rfl
      have l2 : p2.length = 2 := by rw [← hp2]; rfl
      have l3 : p3.length = 2 := by rw [← hp3]; rfl
      have l4 : p4.length = 2 := by rw [← hp4]; rfl
      have l5 : p5.length = 2 := by rw [← hp5]; rfl
      have l6 : p6.length = 2 := by rw [← hp6]; rfl
      clear hp1 hp2 hp3 hp4 hp5 hp6
      have HR2 := Lib.hid HRES2
      clear hD hdn hjs HJ HDM kl HRES HRES2 hsb hok hmo2 HMO hgd
      go_wp2_with fail
      (with_reducible refine (KL.out _).mono ?_)
      rintro e w3 ⟨rfl, rfl⟩
      have KD := Lib.hid (fun w' (hb : Below w3.heap.size w3 w') => ddays_any w' (HE.out.below hb))
      have hv : (⟨d3.toArray⟩ : ByteArray) ++ ⟨#[44, 32]⟩ ++ ⟨p1.toArray⟩ ++ ⟨#[32]⟩ ++ ⟨mo.toArray⟩ ++ ⟨#[32]⟩ ++ ⟨p2.toArray⟩ ++ ⟨p3.toArray⟩ ++ ⟨#[32]⟩ ++ ⟨p4.toArray⟩ ++ ⟨#[58]⟩ ++ ⟨p5.toArray⟩ ++ ⟨#[58]⟩ ++ ⟨p6.toArray⟩ ++ ⟨#[32, 71, 77, 84]⟩ = ⟨RES.toArray⟩ := by
        apply str_eq
        rw [← HR2.out]
        simp
      have HV := Lib.hid hv
      clear hv
      go_wp2_with fail
      refine wp_region_held_drew (S := fun w' => Below w3.heap.size w3 w') (by kernel_rfl) ((Below.refl _ w3).drew) (fun hHeld => ?_)
      refine wpAnyH_take (i := 1) (v := ?_) (by simp only [List.getElem?_toArray, List.getElem?_cons_succ, List.getElem?_cons_zero]; exact rfl) (by kernel_rfl) (by kernel_rfl) (by kernel_rfl) (by intro _ _ _ h; exact h) (Or.inl ⟨by rfl, fun W hSw => ?_⟩) hHeld ?_
      rotate_left
      focus ((try dsimp only at hSw); first | (go_simp; done) | (go_simp; with_reducible rfl))
      try simp only [Act.put, List.setIfInBounds_toArray, List.set_cons_zero, List.set_cons_succ]
      refine wpAnyH_take (i := 2) (v := ?_) (by simp only [List.getElem?_toArray, List.getElem?_cons_succ, List.getElem?_cons_zero]; exact rfl) (by kernel_rfl) (by kernel_rfl) (by kernel_rfl) (by intro _ _ _ h; exact h) (Or.inl ⟨by rfl, fun W hSw => ?_⟩) hHeld ?_
      rotate_left
      focus ((try dsimp only at hSw); first | (go_simp; done) | (go_simp; with_reducible rfl))
      try simp only [Act.put, List.setIfInBounds_toArray, List.set_cons_zero, List.set_cons_succ]
      refine wpAnyH_take (i := 7) (v := ?_) (by simp only [List.getElem?_toArray, List.getElem?_cons_succ, List.getElem?_cons_zero]; exact rfl) (by kernel_rfl) (by kernel_rfl) (by kernel_rfl) (by intro _ _ _ h; exact h) (Or.inl ⟨by rfl, fun W hSw => ?_⟩) hHeld ?_
      rotate_left
      focus ((try dsimp only at hSw); first | (go_simp; done) | (go_simp; with_reducible rfl))
      try simp only [Act.put, List.setIfInBounds_toArray, List.set_cons_zero, List.set_cons_succ]
      refine wpAnyH_take (i := 8) (v := ?_) (by simp only [List.getElem?_toArray, List.getElem?_cons_succ, List.getElem?_cons_zero]; exact rfl) (by kernel_rfl) (by kernel_rfl) (by kernel_rfl) (by intro _ _ _ h; exact h) (Or.inl ⟨by rfl, fun W hSw => ?_⟩) hHeld ?_
      rotate_left
      focus ((try dsimp only at hSw); first | (go_simp; done) | (go_simp; with_reducible rfl))
      try simp only [Act.put, List.setIfInBounds_toArray, List.set_cons_zero, List.set_cons_succ]
      refine wpAnyH_take (i := 12) (v := ?_) (by simp only [List.getElem?_toArray, List.getElem?_cons_succ, List.getElem?_cons_zero]; exact rfl) (by kernel_rfl) (by kernel_rfl) (by kernel_rfl) (by intro _ _ _ h; exact h) (Or.inl ⟨by rfl, fun W hSw => ?_⟩) hHeld ?_
      rotate_left
      focus ((try dsimp only at hSw); first | (go_simp; done) | (go_simp; with_reducible rfl))
      try simp only [Act.put, List.setIfInBounds_toArray, List.set_cons_zero, List.set_cons_succ]
      refine wpAnyH_take (i := 13) (v := ?_) (by simp only [List.getElem?_toArray, List.getElem?_cons_succ, List.getElem?_cons_zero]; exact rfl) (by kernel_rfl) (by kernel_rfl) (by kernel_rfl) (by intro _ _ _ h; exact h) (Or.inl ⟨by rfl, fun W hSw => ?_⟩) hHeld ?_
      rotate_left
      focus ((try dsimp only at hSw); first | (go_simp; done) | (go_simp; with_reducible rfl))
      try simp only [Act.put, List.setIfInBounds_toArray, List.set_cons_zero, List.set_cons_succ]
      refine wpAnyH_take (i := 14) (v := ?_) (by simp only [List.getElem?_toArray, List.getElem?_cons_succ, List.getElem?_cons_zero]; exact rfl) (by kernel_rfl) (by kernel_rfl) (by kernel_rfl) (by intro _ _ _ h; exact h) (Or.inl ⟨by rfl, fun W hSw => ?_⟩) hHeld ?_
      rotate_left
      focus ((try dsimp only at hSw); first | (go_simp; done) | (go_simp; with_reducible rfl))
      try simp only [Act.put, List.setIfInBounds_toArray, List.set_cons_zero, List.set_cons_succ]
      refine wpAnyH_take (i := 15) (v := ?_) (by simp only [List.getElem?_toArray, List.getElem?_cons_succ, List.getElem?_cons_zero]; exact rfl) (by kernel_rfl) (by kernel_rfl) (by kernel_rfl) (by intro _ _ _ h; exact h) (Or.inl ⟨by rfl, fun W hSw => ?_⟩) hHeld ?_
      rotate_left
      focus ((try dsimp only at hSw); first | (go_simp; done) | (go_simp; with_reducible rfl))
      try simp only [Act.put, List.setIfInBounds_toArray, List.set_cons_zero, List.set_cons_succ]
      refine wpAnyH_take (i := 16) (v := ?_) (by simp only [List.getElem?_toArray, List.getElem?_cons_succ, List.getElem?_cons_zero]; exact rfl) (by kernel_rfl) (by kernel_rfl) (by kernel_rfl) (by intro _ _ _ h; exact h) (Or.inl ⟨by rfl, fun W hSw => ?_⟩) hHeld ?_
      rotate_left
      focus ((try dsimp only at hSw); first | (go_simp; done) | (go_simp; with_reducible rfl))
      try simp only [Act.put, List.setIfInBounds_toArray, List.set_cons_zero, List.set_cons_succ]
      refine wpAnyH_take (i := 17) (v := ?_) (by simp only [List.getElem?_toArray, List.getElem?_cons_succ, List.getElem?_cons_zero]; exact rfl) (by kernel_rfl) (by kernel_rfl) (by kernel_rfl) (by intro _ _ _ h; exact h) (Or.inl ⟨by rfl, fun W hSw => ?_⟩) hHeld ?_
      rotate_left
      focus ((try dsimp only at hSw); first | (go_simp; done) | (go_simp; with_reducible rfl))
      try simp only [Act.put, List.setIfInBounds_toArray, List.set_cons_zero, List.set_cons_succ]
      refine wpAnyH_take (i := 20) (v := ?_) (by simp only [List.getElem?_toArray, List.getElem?_cons_succ, List.getElem?_cons_zero]; exact rfl) (by kernel_rfl) (by kernel_rfl) (by kernel_rfl) (by intro _ _ _ h; exact h) (Or.inl ⟨by rfl, fun W hSw => ?_⟩) hHeld ?_
      rotate_left
      focus ((try dsimp only at hSw); first | (go_simp; done) | (go_simp; with_reducible rfl))
      try simp only [Act.put, List.setIfInBounds_toArray, List.set_cons_zero, List.set_cons_succ]
      refine wpAnyH_take (i := 21) (v := ?_) (by simp only [List.getElem?_toArray, List.getElem?_cons_succ, List.getElem?_cons_zero]; exact rfl) (by kernel_rfl) (by kernel_rfl) (by kernel_rfl) (by intro _ _ _ h; exact h) (Or.inl ⟨by rfl, fun W hSw => ?_⟩) hHeld ?_
      rotate_left
      focus ((try dsimp only at hSw); first | (go_simp; done) | (go_simp; with_reducible rfl))
      try simp only [Act.put, List.setIfInBounds_toArray, List.set_cons_zero, List.set_cons_succ]
      refine wpAnyH_take (i := 24) (v := ?_) (by simp only [List.getElem?_toArray, List.getElem?_cons_succ, List.getElem?_cons_zero]; exact rfl) (by kernel_rfl) (by kernel_rfl) (by kernel_rfl) (by intro _ _ _ h; exact h) (Or.inl ⟨by rfl, fun W hSw => ?_⟩) hHeld ?_
      rotate_left
      focus ((try dsimp only at hSw); first | (go_simp; done) | (go_simp; with_reducible rfl))
      try simp only [Act.put, List.setIfInBounds_toArray, List.set_cons_zero, List.set_cons_succ]
      refine wpAnyH_take (i := 28) (v := ?_) (by simp only [List.getElem?_toArray, List.getElem?_cons_succ, List.getElem?_cons_zero]; exact rfl) (by kernel_rfl) (by kernel_rfl) (by kernel_rfl) (by intro _ _ _ h; exact h) (Or.inl ⟨by rfl, fun W hSw => ?_⟩) hHeld ?_
      rotate_left
      focus ((try dsimp only at hSw); first | (go_simp; done) | (go_simp; with_reducible rfl))
      try simp only [Act.put, List.setIfInBounds_toArray, List.set_cons_zero, List.set_cons_succ]
      refine wpAnyH_take (i := 29) (v := ?_) (by simp only [List.getElem?_toArray, List.getElem?_cons_succ, List.getElem?_cons_zero]; exact rfl) (by kernel_rfl) (by kernel_rfl) (by kernel_rfl) (by intro _ _ _ h; exact h) (Or.inl ⟨by rfl, fun W hSw => ?_⟩) hHeld ?_
      rotate_left
      focus ((try dsimp only at hSw); first | (go_simp; done) | (go_simp; with_reducible rfl))
      try simp only [Act.put, List.setIfInBounds_toArray, List.set_cons_zero, List.set_cons_succ]
      refine wpAnyH_take (i := 33) (v := ?_) (by simp only [List.getElem?_toArray, List.getElem?_cons_succ, List.getElem?_cons_zero]; exact rfl) (by kernel_rfl) (by kernel_rfl) (by kernel_rfl) (by intro _ _ _ h; exact h) (Or.inl ⟨by rfl, fun W hSw => ?_⟩) hHeld ?_
      rotate_left
      focus ((try dsimp only at hSw); first | (go_simp; done) | (go_simp; with_reducible rfl))
      try simp only [Act.put, List.setIfInBounds_toArray, List.set_cons_zero, List.set_cons_succ]
      refine wpAnyH_take (i := 34) (v := ?_) (by simp only [List.getElem?_toArray, List.getElem?_cons_succ, List.getElem?_cons_zero]; exact rfl) (by kernel_rfl) (by kernel_rfl) (by kernel_rfl) (by intro _ _ _ h; exact h) (Or.inl ⟨by rfl, fun W hSw => ?_⟩) hHeld ?_
      rotate_left
      focus ((try dsimp only at hSw); first | (go_simp; done) | (go_simp; with_reducible rfl))
      try simp only [Act.put, List.setIfInBounds_toArray, List.set_cons_zero, List.set_cons_succ]
      refine wpAnyH_take (i := 35) (v := ?_) (by simp only [List.getElem?_toArray, List.getElem?_cons_succ, List.getElem?_cons_zero]; exact rfl) (by kernel_rfl) (by kernel_rfl) (by kernel_rfl) (by intro _ _ _ h; exact h) (Or.inl ⟨by rfl, fun W hSw => ?_⟩) hHeld ?_
      rotate_left
      focus ((try dsimp only at hSw); first | (go_simp; done) | (go_simp; with_reducible rfl))
      try simp only [Act.put, List.setIfInBounds_toArray, List.set_cons_zero, List.set_cons_succ]
      refine wpAnyH_take (i := 39) (v := ?_) (by simp only [List.getElem?_toArray, List.getElem?_cons_succ, List.getElem?_cons_zero]; exact rfl) (by kernel_rfl) (by kernel_rfl) (by kernel_rfl) (by intro _ _ _ h; exact h) (Or.inl ⟨by rfl, fun W hSw => ?_⟩) hHeld ?_
      rotate_left
      focus ((try dsimp only at hSw); first | (go_simp; done) | (go_simp; with_reducible rfl))
      try simp only [Act.put, List.setIfInBounds_toArray, List.set_cons_zero, List.set_cons_succ]
      refine wpAnyH_take (i := 40) (v := ?_) (by simp only [List.getElem?_toArray, List.getElem?_cons_succ, List.getElem?_cons_zero]; exact rfl) (by kernel_rfl) (by kernel_rfl) (by kernel_rfl) (by intro _ _ _ h; exact h) (Or.inl ⟨by rfl, fun W hSw => ?_⟩) hHeld ?_
      rotate_left
      focus ((try dsimp only at hSw); first | (go_simp; done) | (go_simp; with_reducible rfl))
      try simp only [Act.put, List.setIfInBounds_toArray, List.set_cons_zero, List.set_cons_succ]
      refine wpAnyH_ready (rs := [0]) (by kernel_rfl) (by simp) (AllReadyH.cons (by simp only [List.getElem?_toArray, List.getElem?_cons_zero]; exact rfl) (fun K hK => ?_) AllReadyH.nil)
      rw [if_pos (by rfl)]
      go_simp
      refine (KD.out _ ((Below.refl _ w3).drew)).mono ?_
      rintro e w5 ⟨rfl, hr5, hb5⟩
      have hb05 : Below w3.heap.size w3 w5 := ((Below.refl _ w3).drew).trans hb5
      obtain ⟨g5, o5, e5, hl5, hc5⟩ := hr5.str_at (k := k7) hk7
      cases e5
      rw [Nat.zero_add, hday] at hc5
      go_wp2_with fail
      refine hK.out _ _ (hb05) (fun hHeld => ?_)
      clear hK K
      try simp only [Act.put, List.setIfInBounds_toArray, List.set_cons_zero, List.set_cons_succ]
      refine wpAnyH_strong (S' := fun w' => Below w3.heap.size w3 w' ∧ w'.cell? ⟨w3.heap.size, k7, none⟩ = some (.string ⟨dn.toArray⟩)) (fun _ h => h.1) ?_
      replace hHeld : Below w3.heap.size w3 w5 ∧ w5.cell? ⟨w3.heap.size, k7, none⟩ = some (.string ⟨dn.toArray⟩) := ⟨hb05, hc5⟩
      refine wpAnyH_take (i := 3) (v := ?_) (by simp only [List.getElem?_toArray, List.getElem?_cons_succ, List.getElem?_cons_zero]; exact rfl) (by kernel_rfl) (by kernel_rfl) (by kernel_rfl) (by intro _ _ _ h; exact h) (Or.inl ⟨by rfl, fun W hSw => ?_⟩) hHeld ?_
      rotate_left
      focus ((try dsimp only at hSw); first | (go_simp; done) | (go_simp; with_reducible rfl))
      try simp only [Act.put, List.setIfInBounds_toArray, List.set_cons_zero, List.set_cons_succ]
      refine wpAnyH_take (i := 4) (v := ?_) (by simp only [List.getElem?_toArray, List.getElem?_cons_succ, List.getElem?_cons_zero]; exact rfl) (by kernel_rfl) (by kernel_rfl) (by kernel_rfl) (by intro _ _ _ h; exact h) (Or.inl ⟨by rfl, fun W hSw => ?_⟩) hHeld ?_
      rotate_left
      focus ((try dsimp only at hSw); first | (go_simp; done) | (go_simp; with_reducible rfl))
      try simp only [Act.put, List.setIfInBounds_toArray, List.set_cons_zero, List.set_cons_succ]
      refine wpAnyH_take (i := 5) (v := ?_) (by simp only [List.getElem?_toArray, List.getElem?_cons_succ, List.getElem?_cons_zero]; exact rfl) (by kernel_rfl) (by kernel_rfl) (by kernel_rfl) (by intro _ _ _ h; exact h) (Or.inl ⟨by rfl, fun W hSw => ?_⟩) hHeld ?_
      rotate_left
      focus ((try dsimp only at hSw); first | (go_simp; done) | (go_simp; with_reducible rfl))
      try simp only [Act.put, List.setIfInBounds_toArray, List.set_cons_zero, List.set_cons_succ]
      refine wpAnyH_take (i := 6) (v := ?_) (by simp only [List.getElem?_toArray, List.getElem?_cons_succ, List.getElem?_cons_zero]; exact rfl) (by kernel_rfl) (by kernel_rfl) (by kernel_rfl) (by intro _ _ _ h; exact h) (Or.inl ⟨by rfl, fun W hSw => ?_⟩) hHeld ?_
      rotate_left
      focus ((try dsimp only at hSw); first | (go_simp; done) | (go_simp; with_reducible rfl))
      try simp only [Act.put, List.setIfInBounds_toArray, List.set_cons_zero, List.set_cons_succ]
      refine wpAnyH_ready (rs := [9]) (by kernel_rfl) (by simp) (AllReadyH.cons (by simp only [List.getElem?_toArray, List.getElem?_cons_succ, List.getElem?_cons_zero]; exact rfl) (fun K hK => ?_) AllReadyH.nil)
      rw [if_pos (by rfl)]
      go_simp
      refine (T1.out _).mono ?_
      rintro e w6 ⟨rfl, hx6⟩
      have hb06 : Below w3.heap.size w3 w6 := hb05.trans (hx6.mono hb05.size)
      have hl6 := World.block_lt_of_cell? _ _ hc5
      have hc6 : w6.cell? ⟨w3.heap.size, k7, none⟩ = some (.string ⟨dn.toArray⟩) := (hx6.cell (p := ⟨w3.heap.size, k7, none⟩) hl6).trans hc5
      go_wp2_with fail
      refine hK.out _ _ (⟨hb06, hc6⟩) (fun hHeld => ?_)
      clear hK K
      try simp only [Act.put, List.setIfInBounds_toArray, List.set_cons_zero, List.set_cons_succ]
      refine wpAnyH_take (i := 10) (v := ?_) (by simp only [List.getElem?_toArray, List.getElem?_cons_succ, List.getElem?_cons_zero]; exact rfl) (by kernel_rfl) (by kernel_rfl) (by kernel_rfl) (by intro _ _ _ h; exact h) (Or.inl ⟨by rfl, fun W hSw => ?_⟩) hHeld ?_
      rotate_left
      focus ((try dsimp only at hSw); first | (go_simp; done) | (go_simp; with_reducible rfl))
      try simp only [Act.put, List.setIfInBounds_toArray, List.set_cons_zero, List.set_cons_succ]
      refine wpAnyH_take (i := 11) (v := ?_) (by simp only [List.getElem?_toArray, List.getElem?_cons_succ, List.getElem?_cons_zero]; exact rfl) (by kernel_rfl) (by kernel_rfl) (by kernel_rfl) (by intro _ _ _ h; exact h) (Or.inl ⟨by rfl, fun W hSw => ?_⟩) hHeld ?_
      rotate_left
      focus ((try dsimp only at hSw); first | (go_simp; done) | (go_simp; with_reducible rfl))
      try simp only [Act.put, List.setIfInBounds_toArray, List.set_cons_zero, List.set_cons_succ]
      refine wpAnyH_take (i := 18) (v := ?_) (by simp only [List.getElem?_toArray, List.getElem?_cons_succ, List.getElem?_cons_zero]; exact rfl) (by kernel_rfl) (by kernel_rfl) (by kernel_rfl) (by intro _ _ _ h; exact h) (Or.inl ⟨by rfl, fun W hSw => ?_⟩) hHeld ?_
      rotate_left
      focus ((try dsimp only at hSw); first | (go_simp; done) | (go_simp; with_reducible rfl))
      try simp only [Act.put, List.setIfInBounds_toArray, List.set_cons_zero, List.set_cons_succ]
      refine wpAnyH_take (i := 19) (v := ?_) (by simp only [List.getElem?_toArray, List.getElem?_cons_succ, List.getElem?_cons_zero]; exact rfl) (by kernel_rfl) (by kernel_rfl) (by kernel_rfl) (by intro _ _ _ h; exact h) (Or.inl ⟨by rfl, fun W hSw => ?_⟩) hHeld ?_
      rotate_left
      focus ((try dsimp only at hSw); first | (go_simp; done) | (go_simp; with_reducible rfl))
      try simp only [Act.put, List.setIfInBounds_toArray, List.set_cons_zero, List.set_cons_succ]
      refine wpAnyH_ready (rs := [22]) (by kernel_rfl) (by simp) (AllReadyH.cons (by simp only [List.getElem?_toArray, List.getElem?_cons_succ, List.getElem?_cons_zero]; exact rfl) (fun K hK => ?_) AllReadyH.nil)
      rw [if_pos (by rfl)]
      go_simp
      refine (T2.out _).mono ?_
      rintro e w7 ⟨rfl, hx7⟩
      have hb07 : Below w3.heap.size w3 w7 := hb06.trans (hx7.mono hb06.size)
      have hl7 := World.block_lt_of_cell? _ _ hc6
      have hc7 : w7.cell? ⟨w3.heap.size, k7, none⟩ = some (.string ⟨dn.toArray⟩) := (hx7.cell (p := ⟨w3.heap.size, k7, none⟩) hl7).trans hc6
      go_wp2_with fail
      refine hK.out _ _ (⟨hb07, hc7⟩) (fun hHeld => ?_)
      clear hK K
      try simp only [Act.put, List.setIfInBounds_toArray, List.set_cons_zero, List.set_cons_succ]
      refine wpAnyH_take (i := 23) (v := ?_) (by simp only [List.getElem?_toArray, List.getElem?_cons_succ, List.getElem?_cons_zero]; exact rfl) (by kernel_rfl) (by kernel_rfl) (by kernel_rfl) (by intro _ _ _ h; exact h) (Or.inl ⟨by rfl, fun W hSw => ?_⟩) hHeld ?_
      rotate_left
      focus ((try dsimp only at hSw); first | (go_simp; done) | (go_simp; with_reducible rfl))
      try simp only [Act.put, List.setIfInBounds_toArray, List.set_cons_zero, List.set_cons_succ]
      refine wpAnyH_ready (rs := [25]) (by kernel_rfl) (by simp) (AllReadyH.cons (by simp only [List.getElem?_toArray, List.getElem?_cons_succ, List.getElem?_cons_zero]; exact rfl) (fun K hK => ?_) AllReadyH.nil)
      rw [if_pos (by rfl)]
      go_simp
      refine (T3.out _).mono ?_
      rintro e w8 ⟨rfl, hx8⟩
      have hb08 : Below w3.heap.size w3 w8 := hb07.trans (hx8.mono hb07.size)
      have hl8 := World.block_lt_of_cell? _ _ hc7
      have hc8 : w8.cell? ⟨w3.heap.size, k7, none⟩ = some (.string ⟨dn.toArray⟩) := (hx8.cell (p := ⟨w3.heap.size, k7, none⟩) hl8).trans hc7
      go_wp2_with fail
      refine hK.out _ _ (⟨hb08, hc8⟩) (fun hHeld => ?_)
      clear hK K
      try simp only [Act.put, List.setIfInBounds_toArray, List.set_cons_zero, List.set_cons_succ]
      refine wpAnyH_take (i := 26) (v := ?_) (by simp only [List.getElem?_toArray, List.getElem?_cons_succ, List.getElem?_cons_zero]; exact rfl) (by kernel_rfl) (by kernel_rfl) (by kernel_rfl) (by intro _ _ _ h; exact h) (Or.inl ⟨by rfl, fun W hSw => ?_⟩) hHeld ?_
      rotate_left
      focus ((try dsimp only at hSw); first | (go_simp; done) | (go_simp; with_reducible rfl))
      try simp only [Act.put, List.setIfInBounds_toArray, List.set_cons_zero, List.set_cons_succ]
      refine wpAnyH_take (i := 27) (v := ?_) (by simp only [List.getElem?_toArray, List.getElem?_cons_succ, List.getElem?_cons_zero]; exact rfl) (by kernel_rfl) (by kernel_rfl) (by kernel_rfl) (by intro _ _ _ h; exact h) (Or.inl ⟨by rfl, fun W hSw => ?_⟩) hHeld ?_
      rotate_left
      focus ((try dsimp only at hSw); first | (go_simp; done) | (go_simp; with_reducible rfl))
      try simp only [Act.put, List.setIfInBounds_toArray, List.set_cons_zero, List.set_cons_succ]
      refine wpAnyH_ready (rs := [30]) (by kernel_rfl) (by simp) (AllReadyH.cons (by simp only [List.getElem?_toArray, List.getElem?_cons_succ, List.getElem?_cons_zero]; exact rfl) (fun K hK => ?_) AllReadyH.nil)
      rw [if_pos (by rfl)]
      go_simp
      refine (T4.out _).mono ?_
      rintro e w9 ⟨rfl, hx9⟩
      have hb09 : Below w3.heap.size w3 w9 := hb08.trans (hx9.mono hb08.size)
      have hl9 := World.block_lt_of_cell? _ _ hc8
      have hc9 : w9.cell? ⟨w3.heap.size, k7, none⟩ = some (.string ⟨dn.toArray⟩) := (hx9.cell (p := ⟨w3.heap.size, k7, none⟩) hl9).trans hc8
      go_wp2_with fail
      refine hK.out _ _ (⟨hb09, hc9⟩) (fun hHeld => ?_)
      clear hK K
      try simp only [Act.put, List.setIfInBounds_toArray, List.set_cons_zero, List.set_cons_succ]
      refine wpAnyH_take (i := 31) (v := ?_) (by simp only [List.getElem?_toArray, List.getElem?_cons_succ, List.getElem?_cons_zero]; exact rfl) (by kernel_rfl) (by kernel_rfl) (by kernel_rfl) (by intro _ _ _ h; exact h) (Or.inl ⟨by rfl, fun W hSw => ?_⟩) hHeld ?_
      rotate_left
      focus ((try dsimp only at hSw); first | (go_simp; done) | (go_simp; with_reducible rfl))
      try simp only [Act.put, List.setIfInBounds_toArray, List.set_cons_zero, List.set_cons_succ]
      refine wpAnyH_take (i := 32) (v := ?_) (by simp only [List.getElem?_toArray, List.getElem?_cons_succ, List.getElem?_cons_zero]; exact rfl) (by kernel_rfl) (by kernel_rfl) (by kernel_rfl) (by intro _ _ _ h; exact h) (Or.inl ⟨by rfl, fun W hSw => ?_⟩) hHeld ?_
      rotate_left
      focus ((try dsimp only at hSw); first | (go_simp; done) | (go_simp; with_reducible rfl))
      try simp only [Act.put, List.setIfInBounds_toArray, List.set_cons_zero, List.set_cons_succ]
      refine wpAnyH_ready (rs := [36]) (by kernel_rfl) (by simp) (AllReadyH.cons (by simp only [List.getElem?_toArray, List.getElem?_cons_succ, List.getElem?_cons_zero]; exact rfl) (fun K hK => ?_) AllReadyH.nil)
      rw [if_pos (by rfl)]
      go_simp
      refine (T5.out _).mono ?_
      rintro e w10 ⟨rfl, hx10⟩
      have hb010 : Below w3.heap.size w3 w10 := hb09.trans (hx10.mono hb09.size)
      have hl10 := World.block_lt_of_cell? _ _ hc9
      have hc10 : w10.cell? ⟨w3.heap.size, k7, none⟩ = some (.string ⟨dn.toArray⟩) := (hx10.cell (p := ⟨w3.heap.size, k7, none⟩) hl10).trans hc9
      go_wp2_with fail
      refine hK.out _ _ (⟨hb010, hc10⟩) (fun hHeld => ?_)
      clear hK K
      try simp only [Act.put, List.setIfInBounds_toArray, List.set_cons_zero, List.set_cons_succ]
      refine wpAnyH_take (i := 37) (v := ?_) (by simp only [List.getElem?_toArray, List.getElem?_cons_succ, List.getElem?_cons_zero]; exact rfl) (by kernel_rfl) (by kernel_rfl) (by kernel_rfl) (by intro _ _ _ h; exact h) (Or.inl ⟨by rfl, fun W hSw => ?_⟩) hHeld ?_
      rotate_left
      focus ((try dsimp only at hSw); first | (go_simp; done) | (go_simp; with_reducible rfl))
      try simp only [Act.put, List.setIfInBounds_toArray, List.set_cons_zero, List.set_cons_succ]
      refine wpAnyH_take (i := 38) (v := ?_) (by simp only [List.getElem?_toArray, List.getElem?_cons_succ, List.getElem?_cons_zero]; exact rfl) (by kernel_rfl) (by kernel_rfl) (by kernel_rfl) (by intro _ _ _ h; exact h) (Or.inl ⟨by rfl, fun W hSw => ?_⟩) hHeld ?_
      rotate_left
      focus ((try dsimp only at hSw); first | (go_simp; done) | (go_simp; with_reducible rfl))
      try simp only [Act.put, List.setIfInBounds_toArray, List.set_cons_zero, List.set_cons_succ]
      refine wpAnyH_ready (rs := [41]) (by kernel_rfl) (by simp) (AllReadyH.cons (by simp only [List.getElem?_toArray, List.getElem?_cons_succ, List.getElem?_cons_zero]; exact rfl) (fun K hK => ?_) AllReadyH.nil)
      rw [if_pos (by rfl)]
      go_simp
      refine (T6.out _).mono ?_
      rintro e w11 ⟨rfl, hx11⟩
      have hb011 : Below w3.heap.size w3 w11 := hb010.trans (hx11.mono hb010.size)
      have hl11 := World.block_lt_of_cell? _ _ hc10
      have hc11 : w11.cell? ⟨w3.heap.size, k7, none⟩ = some (.string ⟨dn.toArray⟩) := (hx11.cell (p := ⟨w3.heap.size, k7, none⟩) hl11).trans hc10
      go_wp2_with fail
      refine hK.out _ _ (⟨hb011, hc11⟩) (fun hHeld => ?_)
      clear hK K
      try simp only [Act.put, List.setIfInBounds_toArray, List.set_cons_zero, List.set_cons_succ]
      refine wpAnyH_take (i := 42) (v := ?_) (by simp only [List.getElem?_toArray, List.getElem?_cons_succ, List.getElem?_cons_zero]; exact rfl) (by kernel_rfl) (by kernel_rfl) (by kernel_rfl) (by intro _ _ _ h; exact h) (Or.inl ⟨by rfl, fun W hSw => ?_⟩) hHeld ?_
      rotate_left
      focus ((try dsimp only at hSw); first | (go_simp; done) | (go_simp; with_reducible rfl))
      try simp only [Act.put, List.setIfInBounds_toArray, List.set_cons_zero, List.set_cons_succ]
      refine wpAnyH_take (i := 43) (v := ?_) (by simp only [List.getElem?_toArray, List.getElem?_cons_succ, List.getElem?_cons_zero]; exact rfl) (by kernel_rfl) (by kernel_rfl) (by kernel_rfl) (by intro _ _ _ h; exact h) (Or.inl ⟨by rfl, fun W hSw => ?_⟩) hHeld ?_
      rotate_left
      focus ((try dsimp only at hSw); first | (go_simp; done) | (go_simp; with_reducible rfl))
      try simp only [Act.put, List.setIfInBounds_toArray, List.set_cons_zero, List.set_cons_succ]
      refine wpAnyH_take (i := 44) (v := ?_) (by simp only [List.getElem?_toArray, List.getElem?_cons_succ, List.getElem?_cons_zero]; exact rfl) (by kernel_rfl) (by kernel_rfl) (by kernel_rfl) (by intro _ _ _ h; exact h) (Or.inl ⟨by rfl, fun W hSw => ?_⟩) hHeld ?_
      rotate_left
      focus ((try dsimp only at hSw); first | (go_simp; done) | (go_simp; with_reducible rfl))
      try simp only [Act.put, List.setIfInBounds_toArray, List.set_cons_zero, List.set_cons_succ]
      refine wpAnyH_done (by kernel_rfl) ?_ _
      clear hHeld
      go_wp2
      go_ret
      exact ⟨by rw [← HV.out]; rfl, hb011⟩
theorem dput_any (t : Int) (w : World) (hE : DEnv w) : Calls Tryz.prog 41 #[.int .i64 t] w fun e w' => e = .returned (.string ⟨(dputL t).toArray⟩) ∧ Below w.heap.size w w' := by
  by_cases h : t < 0 ∨ 253402300799 < t
  · exact dput_none t w h
  · exact dput_in t w hE (by omega)
end Go.Proofs.YtgmmjhcklhajiaaGreatDoor
/- The walk of the law's works (layer 20; printed by wip/tools/known20.py). -/
namespace Go.Proofs.YtgmmjhcklhajiaaGreatDoor
open Go.RowKit
set_option maxRecDepth 100000

theorem Rd.newP (w : World) (fs : List Fld) (T : TypeId) : Rd (some ⟨w.heap.size, 0, none⟩) (fs.length * 2) 1 (fldsV fs) (w.alloc (.cells (fldsV fs).toArray T)) := by
  refine ⟨by rw [fldsV_len]; omega, fun _ => ⟨w.heap.size, 0, rfl, by simp, fun j u hu => ?_⟩⟩
  rw [Nat.zero_add, World.cell?_alloc_mark]
  simpa using hu
theorem of20_new (fs : List Fld) (n : Nat) (hn : fs.length * 2 = n) (w : World) (hn2 : n ≤ 100) :
    Calls Tryz.prog 47 #[.slice (some ⟨w.heap.size, 0, none⟩) n n] (w.alloc (.cells (fldsV fs).toArray 9)) fun e w' => ∃ a c, e = .returned (.agg #[.int .i64 200, .string ⟨#[79, 75]⟩, .int .i64 1, .slice a fs.length c, .string ⟨#[98]⟩, .int .i64 0, .int .i64 0, .slice none 0 0]) ∧ Rd a fs.length 2 (fldsV fs) w' ∧ Below w.heap.size w w' := by
  subst hn
  have hal := (Below.refl w.heap.size w).alloc (Nat.le_refl _) (.cells (fldsV fs).toArray 9)
  refine (of20_any _ (fs.length * 2) _ fs _ (Rd.newP w fs 9) hn2).mono ?_
  rintro e w' ⟨a, c, rfl, ho, hb⟩
  exact ⟨a, c, rfl, ho.rd.2, bt hal hb⟩
def D1k : ByteArray := ⟨(dputL 1000).toArray⟩
theorem okP (w : World) (hE : DEnv w) : Calls Tryz.prog 41 #[.int .i64 1000] w fun e w' => e = .returned (.string D1k) ∧ Below w.heap.size w w' := dput_any 1000 w hE
theorem ok0 (w : World) : Calls Tryz.prog 47 #[.slice (some ⟨w.heap.size, 0, none⟩) 4 4] (w.alloc (.cells #[.string ⟨#[69, 84, 97, 103]⟩, .string ⟨#[34, 97, 34]⟩, .string ⟨#[76, 97, 115, 116, 45, 77, 111, 100, 105, 102, 105, 101, 100]⟩, .string D1k] 9)) fun e w' => ∃ a c, e = .returned (.agg #[.int .i64 200, .string ⟨#[79, 75]⟩, .int .i64 1, .slice a 2 c, .string ⟨#[98]⟩, .int .i64 0, .int .i64 0, .slice none 0 0]) ∧ Rd a 2 2 (fldsV [([69, 84, 97, 103], [34, 97, 34]), ([76, 97, 115, 116, 45, 77, 111, 100, 105, 102, 105, 101, 100], dputL 1000)]) w' ∧ Below w.heap.size w w' :=
  of20_new [([69, 84, 97, 103], [34, 97, 34]), ([76, 97, 115, 116, 45, 77, 111, 100, 105, 102, 105, 101, 100], dputL 1000)] 4 rfl w (by decide)
theorem ok1 (a : Option Addr) (c : Nat) (w : World) (hE : DEnv w) (hr : Rd a 2 2 (fldsV [([69, 84, 97, 103], [34, 97, 34]), ([76, 97, 115, 116, 45, 77, 111, 100, 105, 102, 105, 101, 100], dputL 1000)]) w) : Calls Tryz.prog 46 #[.agg #[.int .i64 200, .string ⟨#[79, 75]⟩, .int .i64 1, .slice a 2 c, .string ⟨#[98]⟩, .int .i64 0, .int .i64 0, .slice none 0 0]] w fun e w' => ∃ a c, e = .returned (.slice a 2 c) ∧ Rd a 2 2 (fldsV [([73, 102, 45, 78, 111, 110, 101, 45, 77, 97, 116, 99, 104], [34, 97, 34]), ([73, 102, 45, 77, 111, 100, 105, 102, 105, 101, 100, 45, 83, 105, 110, 99, 101], dputL 1000)]) w' ∧ Below w.heap.size w w' := by
  have k := ask_any 200 1 0 0 ⟨#[79, 75]⟩ ⟨#[98]⟩ a none 2 c 0 0 [([69, 84, 97, 103], [34, 97, 34]), ([76, 97, 115, 116, 45, 77, 111, 100, 105, 102, 105, 101, 100], dputL 1000)] w hE hr (by decide) (of_decide_eq_true (by kernel_rfl))
  rw [show askL [([69, 84, 97, 103], [34, 97, 34]), ([76, 97, 115, 116, 45, 77, 111, 100, 105, 102, 105, 101, 100], dputL 1000)] 0 = [([73, 102, 45, 78, 111, 110, 101, 45, 77, 97, 116, 99, 104], [34, 97, 34]), ([73, 102, 45, 77, 111, 100, 105, 102, 105, 101, 100, 45, 83, 105, 110, 99, 101], dputL 1000)] from by kernel_rfl] at k
  refine k.mono ?_
  rintro e w' ⟨a, c, rfl, ho, hb⟩
  exact ⟨a, c, rfl, ho.rd.2, hb⟩
theorem ok2 (w : World) : Calls Tryz.prog 47 #[.slice (some ⟨w.heap.size, 0, none⟩) 4 4] (w.alloc (.cells #[.string ⟨#[65]⟩, .string ⟨#[49]⟩, .string ⟨#[86, 97, 114, 121]⟩, .string ⟨#[98]⟩] 9)) fun e w' => ∃ a c, e = .returned (.agg #[.int .i64 200, .string ⟨#[79, 75]⟩, .int .i64 1, .slice a 2 c, .string ⟨#[98]⟩, .int .i64 0, .int .i64 0, .slice none 0 0]) ∧ Rd a 2 2 (fldsV [([65], [49]), ([86, 97, 114, 121], [98])]) w' ∧ Below w.heap.size w w' :=
  of20_new [([65], [49]), ([86, 97, 114, 121], [98])] 4 rfl w (by decide)
theorem ok3 (w : World) : Calls Tryz.prog 47 #[.slice (some ⟨w.heap.size, 0, none⟩) 2 2] (w.alloc (.cells #[.string ⟨#[86, 97, 114, 121]⟩, .string ⟨#[99]⟩] 9)) fun e w' => ∃ a c, e = .returned (.agg #[.int .i64 200, .string ⟨#[79, 75]⟩, .int .i64 1, .slice a 1 c, .string ⟨#[98]⟩, .int .i64 0, .int .i64 0, .slice none 0 0]) ∧ Rd a 1 2 (fldsV [([86, 97, 114, 121], [99])]) w' ∧ Below w.heap.size w w' :=
  of20_new [([86, 97, 114, 121], [99])] 2 rfl w (by decide)
theorem ok4 (a b : Option Addr) (c d : Nat) (w : World) (hr : Rd a 2 2 (fldsV [([65], [49]), ([86, 97, 114, 121], [98])]) w) (hq : Rd b 1 2 (fldsV [([86, 97, 114, 121], [99])]) w) : Calls Tryz.prog 15 #[.agg #[.int .i64 200, .string ⟨#[79, 75]⟩, .int .i64 1, .slice a 2 c, .string ⟨#[98]⟩, .int .i64 0, .int .i64 0, .slice none 0 0], .agg #[.int .i64 200, .string ⟨#[79, 75]⟩, .int .i64 1, .slice b 1 d, .string ⟨#[98]⟩], .int .i64 3, .int .i64 4] w fun e w' => ∃ a c b d, e = .returned (.agg #[.int .i64 200, .string ⟨#[79, 75]⟩, .int .i64 1, .slice a 2 c, .string ⟨#[98]⟩, .int .i64 3, .int .i64 4, .slice b 0 d]) ∧ Rd a 2 2 (fldsV [([65], [49]), ([86, 97, 114, 121], [98])]) w' ∧ Below w.heap.size w w' := by
  have k := with_any 200 1 0 0 200 1 3 4 ⟨#[79, 75]⟩ ⟨#[98]⟩ ⟨#[79, 75]⟩ ⟨#[98]⟩ a none b 2 c 0 0 1 d [([65], [49]), ([86, 97, 114, 121], [98])] [] [([86, 97, 114, 121], [99])] w hr Rd.nil hq (by decide) (by decide) (by decide) (by decide) (by decide)
  rw [show withL [([65], [49]), ([86, 97, 114, 121], [98])] [([86, 97, 114, 121], [99])] = [([65], [49]), ([86, 97, 114, 121], [98])] from by kernel_rfl] at k
  refine k.mono ?_
  rintro e w' ⟨a, c, b, d, rfl, ho, _, hb⟩
  exact ⟨a, c, b, d, rfl, ho.rd.2, hb⟩
theorem ok5 (a : Option Addr) (c : Nat) (w : World) (hr : Rd a 2 2 (fldsV [([65], [49]), ([86, 97, 114, 121], [98])]) w) : Calls Tryz.prog 48 #[.slice a 2 c] w fun e w' => e = .returned (.string ⟨#[65, 58, 32, 49, 13, 10, 86, 97, 114, 121, 58, 32, 98, 13, 10]⟩) ∧ Below w.heap.size w w' := by
  have k := put4_any a 2 c [([65], [49]), ([86, 97, 114, 121], [98])] w hr (by decide) (by decide)
  rw [show putL [([65], [49]), ([86, 97, 114, 121], [98])] = [65, 58, 32, 49, 13, 10, 86, 97, 114, 121, 58, 32, 98, 13, 10] from by kernel_rfl] at k
  exact k
set_option maxHeartbeats 32000000 in
theorem works20_any (w0 : World) (hE : DEnv w0) :
    Calls Tryz.prog 13 #[] w0 fun e w' => e = .returned (.bool true) ∧ Below w0.heap.size w0 w' := by
  have HB := Lib.hid (Below.refl w0.heap.size w0)
  go_enter Tryz.func13, Tryz.ntmps13
  have KK := Lib.hid (okP w0 hE)
  go_wp2_with fail
  (with_reducible refine KK.out.mono ?_)
  clear KK
  rintro e w1 ⟨rfl, hb⟩
  have HB := Lib.hid (bt HB.out hb); clear hb
  have KK := Lib.hid (ok0 w1)
  go_wp2_with fail
  (with_reducible refine KK.out.mono ?_)
  clear KK
  rintro e w2 ⟨a1, c1, rfl, r1, hb⟩
  have HB := Lib.hid (bt HB.out hb); clear hb
  have KK := Lib.hid (ok1 a1 c1 w2 (hE.below HB.out) r1)
  go_wp2_with fail
  (with_reducible refine KK.out.mono ?_)
  clear KK
  rintro e w3 ⟨a2, c2, rfl, r2, hb⟩
  have HB := Lib.hid (bt HB.out hb); clear hb r1
  have KK := Lib.hid (ok2 w3)
  go_wp2_with fail
  (with_reducible refine KK.out.mono ?_)
  clear KK
  rintro e w4 ⟨a3, c3, rfl, r3, hb⟩
  have q2 : Rd a2 2 2 (fldsV [([73, 102, 45, 78, 111, 110, 101, 45, 77, 97, 116, 99, 104], [34, 97, 34]), ([73, 102, 45, 77, 111, 100, 105, 102, 105, 101, 100, 45, 83, 105, 110, 99, 101], dputL 1000)]) w4 := r2.below hb
  have HB := Lib.hid (bt HB.out hb); clear hb r2
  have KK := Lib.hid (ok3 w4)
  go_wp2_with fail
  (with_reducible refine KK.out.mono ?_)
  clear KK
  rintro e w5 ⟨a4, c4, rfl, r4, hb⟩
  have q3 := r3.below hb
  have q2 := q2.below hb
  have HB := Lib.hid (bt HB.out hb); clear hb r3
  have hfd : ∀ w : World, (Instr.field 26 (.agg #[.int .i64 200, .string ⟨#[79, 75]⟩, .int .i64 1, .slice a4 1 c4, .string ⟨#[98]⟩, .int .i64 0, .int .i64 0, .slice none 0 0]) 0).run Tryz.prog w = .ok (.agg #[.int .i64 200, .string ⟨#[79, 75]⟩, .int .i64 1, .slice a4 1 c4, .string ⟨#[98]⟩]) w := fun _ => by kernel_rfl
  have KK := Lib.hid (ok4 a3 a4 c3 c4 w5 q3 r4)
  go_wp2_with fail
  (with_reducible refine KK.out.mono ?_)
  clear KK
  rintro e w6 ⟨a5, c5, b5, d5, rfl, r5, hb⟩
  have q2 := q2.below hb
  have HB := Lib.hid (bt HB.out hb); clear hb q3 r4
  obtain ⟨W7, hW7⟩ : ∃ W, w6.alloc (.cells #[.int .i64 200, .string ⟨#[79, 75]⟩, .int .i64 1, .slice a5 2 c5, .string ⟨#[98]⟩, .int .i64 3, .int .i64 4, .slice b5 0 d5] 26) = W := ⟨_, rfl⟩
  have b7 : Below w6.heap.size w6 W7 := by rw [← hW7]; exact (Below.refl w6.heap.size w6).alloc (Nat.le_refl _) _
  have x7 : W7.heap[w6.heap.size]? = some (.cells #[.int .i64 200, .string ⟨#[79, 75]⟩, .int .i64 1, .slice a5 2 c5, .string ⟨#[98]⟩, .int .i64 3, .int .i64 4, .slice b5 0 d5] 26 (0, 0)) := by rw [← hW7]; exact heap_new w6 _ _ rfl
  have e3 := (of_heap x7 3).1
  have hl7 := (of_heap x7 3).2.2
  simp only [List.getElem?_toArray, List.getElem?_cons_succ, List.getElem?_cons_zero] at e3
  have q2 := q2.below b7
  have r5 := r5.below b7
  obtain ⟨b, o, rfl, hl, d0, d1⟩ := q2.fld_at (k := 0) (by decide)
  obtain ⟨b', o', ee, _, f0, f1⟩ := q2.fld_at (k := 1) (by decide)
  cases ee
  simp only [List.getElem_cons_zero, List.getElem_cons_succ, Nat.zero_mul, Nat.add_zero, Nat.one_mul] at d0 d1 f0 f1
  have HB := Lib.hid (bt HB.out b7)
  have KK := Lib.hid (ok5 a5 c5 W7 r5)
  have X7 := Lib.hid x7; have HW7 := Lib.hid hW7
  clear hW7 b7 x7 q2
  go_upto_region 3 with (fail)
  rw [HW7.out]
  go_wp2_with fail
  (with_reducible refine KK.out.mono ?_)
  rintro e w8 ⟨rfl, hb⟩
  have x8 := (hb.block w6.heap.size hl7).trans X7.out
  have g5 := (of_heap x8 5).1; have g6 := (of_heap x8 6).1
  simp only [List.getElem?_toArray, List.getElem?_cons_succ, List.getElem?_cons_zero] at g5 g6
  have HB := Lib.hid (bt HB.out hb)
  clear hb x8
  go_wp2
  go_ret
  exact ⟨rfl, HB.out⟩
end Go.Proofs.YtgmmjhcklhajiaaGreatDoor
/- What a listed table gives: what a variable reads as, in cells. -/
namespace Go.Proofs.YtgmmjhcklhajiaaGreatDoor
open Go.RowKit

theorem tab_of_reads {P : Program} {W : World} {name : String} {k : IntKind} {zs : List Int} {g : Nat} {t e : TypeId} {n : Nat}
    (hg : P.globalNamed name = some g) (hty : (P.globals[g]?).map (·.type) = some t) (ht : P.underlying t = some (.array n e)) (he : P.underlying e = some (.int k)) (hce : P.cellsOf e = 1) (hct : P.cellsOf t = n)
    (h : Lib.VarReads P W name (Lib.tabData k zs)) : Lib.TabIs P W name k zs := by
  obtain ⟨g', t', cs, fuel, p, hg', ht', hvar, hd⟩ := h
  obtain rfl := Option.some.inj (hg.symm.trans hg')
  obtain rfl := Option.some.inj (hty.symm.trans ht')
  unfold Lib.TabIs
  rw [hvar, ← Lib.cells_of_tab ht he hce hct hd]
end Go.Proofs.YtgmmjhcklhajiaaGreatDoor
/- What the listed tables and the form's mark give the dates' walks. -/
namespace Go.Proofs.YtgmmjhcklhajiaaGreatDoor
open Go.RowKit
set_option maxRecDepth 100000

theorem maxL_of {w : World} (h : w.ShapedOpen Tryz.prog) : MaxL w :=
  MaxL.of (Go.Proofs.cell_of_shapedOpen_int (zero := #[.int .i64 0]) (t := 3) h (of_decide_eq_true (by kernel_rfl)) (by kernel_rfl) rfl (by kernel_rfl) (by kernel_rfl) Tryz.underlying3)
theorem spaces_of {W : World} {l : List (String × DataW Unit)} (hp : (l.all fun x => x.2.handleName?.isNone) = true) (hm : ("strings.asciiSpace", Lib.tabData .u8 Lib.asciiSpaceTab) ∈ l) (h : laidMetH Tryz.prog l W) : Lib.TabIs Tryz.prog W "strings.asciiSpace" .u8 Lib.asciiSpaceTab := by
  rw [MakeChecks.laidMetH_plain _ _ _ hp] at h
  exact tab_of_reads (g := 0) (by kernel_rfl) (by kernel_rfl) Tryz.underlying168 Tryz.underlying5 (by kernel_rfl) (by kernel_rfl) (Lib.laidMet.reads h hm)
theorem var_lt {P : Program} {w : World} {name : String} {k : IntKind} {zs : List Int} {g : Nat} (hg : P.globalNamed name = some g) (h : Lib.TabIs P w name k zs) : g < w.heap.size := by
  unfold Lib.TabIs World.var? at h
  rw [hg] at h
  rcases Nat.lt_or_ge g w.heap.size with h' | h'
  · exact h'
  · simp [Array.getElem?_eq_none h'] at h
theorem dEnv_of {W : World} {l : List (String × DataW Unit)} (hp : (l.all fun x => x.2.handleName?.isNone) = true) (hm : ("strings.asciiSpace", Lib.tabData .u8 Lib.asciiSpaceTab) ∈ l) (h : laidMetH Tryz.prog l W) (hsh : W.ShapedOpen Tryz.prog) : DEnv W :=
  ⟨maxL_of hsh, var_lt (by kernel_rfl) (spaces_of hp hm h), spaces_of hp hm h⟩
end Go.Proofs.YtgmmjhcklhajiaaGreatDoor
/- What came in, opened: texts and fields in slices; replies and entries by value. -/
namespace Go.Proofs.YtgmmjhcklhajiaaGreatDoor
open Go.ChangeShapes Go.WideShapes Go.RowKit
set_option maxRecDepth 100000

/-- The form's own reach: each string, slice and map within d. -/
def Reach {H : Type} (T : TypeId) (d : DataW H) : Prop := ∀ n ∈ d.weights Tryz.prog T, n ≤ reachBytes
theorem reach_each {H : Type} {ts : List TypeId} {ds : List (DataW H)} (h : (DataW.weightsEach Tryz.prog ts ds).all (· ≤ reachBytes) = true) {j : Nat} {t : TypeId} {d : DataW H} (ht : ts[j]? = some t) (hd : ds[j]? = some d) : Reach t d :=
  fun n hn => of_decide_eq_true (List.all_eq_true.1 h n (DataW.weights_mem_each ht hd n hn))
theorem reach_str {H : Type} {T : TypeId} {l : List UInt8} (h : Reach (H := H) T (.lit (.string l))) : l.length ≤ reachBytes := h _ (by simp [DataW.weights])
theorem weightsAll_mem' {H : Type} {e : TypeId} : ∀ {ds : List (DataW H)} {d : DataW H}, d ∈ ds → ∀ n ∈ d.weights Tryz.prog e, n ∈ DataW.weightsAll Tryz.prog e ds
  | x :: r, d, hd, n, hn => by
    simp only [DataW.weightsAll, List.mem_append]
    rcases List.mem_cons.1 hd with rfl | h
    · exact Or.inl hn
    · exact Or.inr (weightsAll_mem' h n hn)
theorem reach_elem {H : Type} {t e : TypeId} (hu : Tryz.prog.underlying t = some (.slice e)) {elems spare : List (DataW H)} (h : Reach t (.slice elems spare)) {d : DataW H} (hd : d ∈ elems) : Reach e d := by
  intro n hn
  refine h n ?_
  simp only [DataW.weights, hu, List.mem_cons, List.mem_append]
  exact Or.inr (Or.inl (weightsAll_mem' hd n hn))
theorem reach_len {H : Type} {t e : TypeId} (hu : Tryz.prog.underlying t = some (.slice e)) {elems spare : List (DataW H)} (h : Reach t (.slice elems spare)) : elems.length * Tryz.prog.bytesOf e ≤ reachBytes := by
  have := h ((elems.length + spare.length) * Tryz.prog.bytesOf e) (by simp [DataW.weights, hu])
  exact Nat.le_trans (Nat.mul_le_mul_right _ (by omega)) this
theorem reach_part {H : Type} {t : TypeId} {fs : Array Field} (hu : Tryz.prog.underlying t = some (.struct fs)) {parts : List (DataW H)} (h : Reach t (.agg parts)) {j : Nat} {f : Field} {d : DataW H} (hf : fs[j]? = some f) (hd : parts[j]? = some d) : Reach f.type d := by
  intro n hn
  refine h n ?_
  simp only [DataW.weights, hu]
  exact DataW.weights_mem_each (j := j) (by simp [hf]) hd n hn

theorem two_of {α : Type} : ∀ (l : List α), l.length = 2 → ∃ u v, l = [u, v]
  | [u, v], _ => ⟨u, v, rfl⟩
theorem exists_listL {α : Type} (n : Nat) (Pr : Nat → α → Prop) (h : ∀ i, i < n → ∃ x, Pr i x) : ∃ xs : List α, xs.length = n ∧ ∀ i (hi : i < xs.length), Pr i xs[i] := by
  induction n with
  | zero => exact ⟨[], rfl, fun i hi => by simp at hi⟩
  | succ n ih =>
    obtain ⟨xs, hl, hx⟩ := ih (fun i hi => h i (by omega))
    obtain ⟨x, hx1⟩ := h n (by omega)
    refine ⟨xs ++ [x], by simp [hl], fun i hi => ?_⟩
    rw [List.length_append, List.length_singleton] at hi
    by_cases hin : i < xs.length
    · rw [List.getElem_append_left hin]; exact hx i hin
    · have : i = n := by omega
      subst this
      rw [List.getElem_append_right (by omega)]
      simpa [hl] using hx1

section
variable {H : Type} {enc : TypeId × Value → H} {W : World}
/-- A slice of texts that came in. -/
theorem open_texts {fuel : Nat} {cs : List Value} {x : DataW H × List MemPlace} (h : DataW.trod enc Tryz.prog W 0 (fun _ => true) true fuel 57 cs = some x) (hr : Reach 57 x.1) :
    ∃ A n c ls, cs = [.slice A n c] ∧ Rd A n 1 (strsV ls) W ∧ n * 16 ≤ reachBytes ∧ ∀ l ∈ ls, l.length ≤ reachBytes := by
  rcases Go.Deep.open_slice Tryz.underlying57 h with ⟨rfl, rfl⟩ | ⟨a, len, cap, m, n, D, Pl, rfl, hb, hl, hm, hmm, rfl, hi⟩
  · exact ⟨none, 0, 0, [], rfl, Rd.nil, by decide, by simp⟩
  · simp only [if_true] at hmm
    subst hmm
    have hc1 : Tryz.prog.cellsOf 9 = 1 := by kernel_rfl
    have key : ∀ i, i < len → ∃ s : List UInt8, W.cell? (a.add i) = some (.string ⟨s.toArray⟩) ∧ D i = .lit (.string s) := by
      intro i hi'
      obtain ⟨cs', hcs, ht⟩ := hi i (by omega)
      rw [hc1, Nat.mul_one] at hcs
      obtain ⟨s, rfl, hx, _⟩ := DataW.trod_string Tryz.underlying9 ht
      obtain ⟨_, _, hat⟩ := World.cells?_some hcs
      refine ⟨s.data.toList, ?_, congrArg Prod.fst hx⟩
      have := hat 0 (by omega)
      rw [str_of]
      simpa [Addr.add] using this
    obtain ⟨ls, hll, hls⟩ := exists_listL len _ key
    refine ⟨some a, len, _, ls, rfl, ⟨by simp [strsV, hll], fun hn => ?_⟩, ?_, ?_⟩
    · have hspot : a.spot = none := by
        have := World.cell?_spot (hls 0 (by omega)).1
        simpa [Addr.add] using this
      obtain ⟨b, o, spot⟩ := a
      simp only at hspot
      subst hspot
      refine ⟨b, o, rfl, ?_, fun j u hu => ?_⟩
      · rcases Nat.lt_or_ge b W.heap.size with h' | h'
        · exact h'
        · have := (hls 0 (by omega)).1
          simp [World.cell?, Addr.add, Array.getElem?_eq_none h'] at this
      · have hj : j < ls.length := by have := (List.getElem?_eq_some_iff.1 hu).1; simpa [strsV] using this
        have h1 := (hls j hj).1
        have e : (⟨b, o, none⟩ : Addr).add j = ⟨b, o + j, none⟩ := by unfold Addr.add; split <;> simp_all
        rw [e] at h1
        rw [h1, ← hu]; simp [strsV, hj]
    · have := reach_len Tryz.underlying57 hr
      rw [List.length_map, List.length_range, show Tryz.prog.bytesOf 9 = 16 from by kernel_rfl] at this
      exact this
    · intro l hl'
      obtain ⟨i, hi', e⟩ := List.mem_iff_getElem.1 hl'
      have h2 := (hls i hi').2
      rw [e] at h2
      exact reach_str (reach_elem Tryz.underlying57 hr (List.mem_map.2 ⟨i, List.mem_range.2 (by omega), h2⟩))
theorem open_texts_v {base : Nat} {v : Value} {d : DataW H} {p : List MemPlace} (hv : Value.okWide Tryz.prog W .any base 57 v) (h : DataW.Trod enc Tryz.prog W 0 (fun _ => true) true 57 v d p) (hr : Reach 57 d) :
    ∃ A n c ls, v = .slice A n c ∧ Rd A n 1 (strsV ls) W ∧ n * 16 ≤ reachBytes ∧ ∀ l ∈ ls, l.length ≤ reachBytes := by
  obtain ⟨a0, len, cap, rfl⟩ := okWide_slice Tryz.underlying57 hv
  obtain ⟨fuel, hf⟩ := h
  have hf' : DataW.trod enc Tryz.prog W 0 (fun _ => true) true fuel 57 [.slice a0 len cap] = some (d, p) := hf
  obtain ⟨A, n, c, xs, e, r⟩ := open_texts hf' hr
  exact ⟨A, n, c, xs, (List.cons.inj e).1, r⟩
end
end Go.Proofs.YtgmmjhcklhajiaaGreatDoor
/- Slices of fields that came in, opened. -/
namespace Go.Proofs.YtgmmjhcklhajiaaGreatDoor
open Go.ChangeShapes Go.WideShapes Go.RowKit
set_option maxRecDepth 100000

section
variable {H : Type} {enc : TypeId × Value → H} {W : World}

/-- A slice of fields that came in. -/
theorem open_flds {fuel : Nat} {cs : List Value} {x : DataW H × List MemPlace} (h : DataW.trod enc Tryz.prog W 0 (fun _ => true) true fuel 22 cs = some x) (hr : Reach 22 x.1) :
    ∃ A n c xs, cs = [.slice A n c] ∧ Rd A n 2 (fldsV xs) W ∧ n * 32 ≤ reachBytes ∧ ∀ f ∈ xs, f.1.length ≤ reachBytes ∧ f.2.length ≤ reachBytes := by
  rcases Go.Deep.open_slice Tryz.underlying22 h with ⟨rfl, rfl⟩ | ⟨a, len, cap, m, n, D, Pl, rfl, hb, hl, hm, hmm, rfl, hi⟩
  · exact ⟨none, 0, 0, [], rfl, Rd.nil, by decide, by simp⟩
  · simp only [if_true] at hmm
    subst hmm
    have hc2 : Tryz.prog.cellsOf 55 = 2 := by kernel_rfl
    have hc1 : Tryz.prog.cellsOf 9 = 1 := by kernel_rfl
    have key : ∀ i, i < len → ∃ f : Fld, W.cell? (a.add (i * 2)) = some (.string ⟨f.1.toArray⟩) ∧ W.cell? (a.add (i * 2 + 1)) = some (.string ⟨f.2.toArray⟩) ∧ D i = .agg [.lit (.string f.1), .lit (.string f.2)] := by
      intro i hi'
      obtain ⟨cs', hcs, ht⟩ := hi i (by omega)
      rw [hc2] at hcs
      obtain ⟨_, hlen, hat⟩ := World.cells?_some hcs
      obtain ⟨ys, n', _, hx, _, hyl, hg⟩ := DataW.trod_struct Tryz.underlying55 ht
      obtain ⟨u, v, rfl⟩ := two_of cs' hlen
      obtain ⟨y0, y1, rfl⟩ := two_of ys hyl
      have g0 : DataW.trod enc Tryz.prog W 0 (fun _ => true) true n' 9 (([u, v].drop 0).take (Tryz.prog.cellsOf 9)) = some y0 := hg 0 _ rfl
      have g1 : DataW.trod enc Tryz.prog W 0 (fun _ => true) true n' 9 (([u, v].drop 1).take (Tryz.prog.cellsOf 9)) = some y1 := hg 1 _ rfl
      rw [hc1] at g0 g1
      obtain ⟨s0, e0, z0, _⟩ := DataW.trod_string Tryz.underlying9 (cs := [u]) (x := y0) (by simpa using g0)
      obtain ⟨s1, e1, z1, _⟩ := DataW.trod_string Tryz.underlying9 (cs := [v]) (x := y1) (by simpa using g1)
      have e0' : u = .string s0 := (List.cons.inj e0).1
      have e1' : v = .string s1 := (List.cons.inj e1).1
      subst e0'; subst e1'; subst z0; subst z1
      have a0 : W.cell? ((a.add (i * 2)).add 0) = some (.string s0) := hat 0 (by omega)
      have a1 : W.cell? ((a.add (i * 2)).add 1) = some (.string s1) := hat 1 (by omega)
      have hD : D i = .agg [.lit (.string s0.data.toList), .lit (.string s1.data.toList)] := (Prod.mk.inj hx).1
      clear hx g0 g1 e0 e1 hat hcs ht hg
      refine ⟨(s0.data.toList, s1.data.toList), ?_, ?_, hD⟩
      · rw [Go.Deep.add_add] at a0
        show _ = some (Value.string ⟨s0.data.toList.toArray⟩)
        rw [str_of]; exact a0
      · rw [Go.Deep.add_add] at a1
        show _ = some (Value.string ⟨s1.data.toList.toArray⟩)
        rw [str_of]; exact a1
    obtain ⟨xs, hll, hls⟩ := exists_listL len _ key
    refine ⟨some a, len, _, xs, rfl, ⟨by rw [fldsV_len, hll], fun hn => ?_⟩, ?_, ?_⟩
    · have hspot : a.spot = none := by
        have := World.cell?_spot (hls 0 (by omega)).1
        simpa [Addr.add] using this
      obtain ⟨b, o, spot⟩ := a
      simp only at hspot
      subst hspot
      have e : ∀ j, (⟨b, o, none⟩ : Addr).add j = ⟨b, o + j, none⟩ := fun j => by unfold Addr.add; split <;> simp_all
      refine ⟨b, o, rfl, ?_, fun j u hu => ?_⟩
      · rcases Nat.lt_or_ge b W.heap.size with h' | h'
        · exact h'
        · have := (hls 0 (by omega)).1
          simp [World.cell?, Addr.add, Array.getElem?_eq_none h'] at this
      · have hj : j < xs.length * 2 := by have := (List.getElem?_eq_some_iff.1 hu).1; rwa [fldsV_len] at this
        have hk : j / 2 < xs.length := by omega
        have h1 := hls (j / 2) hk
        have h2 := fldsV_at xs (j / 2) hk
        rw [e, e] at h1
        rcases Nat.mod_two_eq_zero_or_one j with h0 | h0
        · have ej : j / 2 * 2 = j := by omega
          rw [ej] at h1 h2
          rw [h2.1] at hu
          cases hu
          exact h1.1
        · have ej : j / 2 * 2 + 1 = j := by omega
          rw [ej] at h1 h2
          rw [h2.2] at hu
          cases hu
          exact h1.2.1
    · have := reach_len Tryz.underlying22 hr
      rw [List.length_map, List.length_range, show Tryz.prog.bytesOf 55 = 32 from by kernel_rfl] at this
      exact this
    · intro f hf'
      obtain ⟨i, hi', e⟩ := List.mem_iff_getElem.1 hf'
      have h2 := (hls i hi').2.2
      rw [e] at h2
      have h3 := reach_elem Tryz.underlying22 hr (List.mem_map.2 ⟨i, List.mem_range.2 (by omega), h2⟩)
      exact ⟨reach_str (reach_part Tryz.underlying55 h3 (j := 0) rfl rfl), reach_str (reach_part Tryz.underlying55 h3 (j := 1) rfl rfl)⟩
end
end Go.Proofs.YtgmmjhcklhajiaaGreatDoor
/- Slices of fields and of texts that came in, opened. -/
namespace Go.Proofs.YtgmmjhcklhajiaaGreatDoor
open Go.ChangeShapes Go.WideShapes Go.RowKit
set_option maxRecDepth 100000

section
variable {H : Type} {enc : TypeId × Value → H} {W : World}
theorem open_flds_v {base : Nat} {v : Value} {d : DataW H} {p : List MemPlace} (hv : Value.okWide Tryz.prog W .any base 22 v) (h : DataW.Trod enc Tryz.prog W 0 (fun _ => true) true 22 v d p) (hr : Reach 22 d) :
    ∃ A n c xs, v = .slice A n c ∧ Rd A n 2 (fldsV xs) W ∧ n * 32 ≤ reachBytes ∧ ∀ f ∈ xs, f.1.length ≤ reachBytes ∧ f.2.length ≤ reachBytes := by
  obtain ⟨a0, len, cap, rfl⟩ := okWide_slice Tryz.underlying22 hv
  obtain ⟨fuel, hf⟩ := h
  have hf' : DataW.trod enc Tryz.prog W 0 (fun _ => true) true fuel 22 [.slice a0 len cap] = some (d, p) := hf
  obtain ⟨A, n, c, xs, e, r⟩ := open_flds hf' hr
  exact ⟨A, n, c, xs, (List.cons.inj e).1, r⟩
/-- A field that came in by value. -/
theorem open_fld_v {base : Nat} {v : Value} {d : DataW H} {p : List MemPlace} (hv : Value.okWide Tryz.prog W .any base 55 v) (h : DataW.Trod enc Tryz.prog W 0 (fun _ => true) true 55 v d p) (hr : Reach 55 d) :
    ∃ f : Fld, v = .agg #[.string ⟨f.1.toArray⟩, .string ⟨f.2.toArray⟩] ∧ f.1.length ≤ reachBytes ∧ f.2.length ≤ reachBytes := by
  obtain ⟨cs, rfl, hsz⟩ := okWide_struct Tryz.underlying55 hv
  obtain ⟨fuel, hf⟩ := h
  obtain ⟨l⟩ := cs
  have hf' : DataW.trod enc Tryz.prog W 0 (fun _ => true) true fuel 55 l = some (d, p) := hf
  have hc2 : Tryz.prog.cellsOf 55 = 2 := by kernel_rfl
  have hc1 : Tryz.prog.cellsOf 9 = 1 := by kernel_rfl
  obtain ⟨ys, n', _, hx, hcl, hyl, hg⟩ := DataW.trod_struct Tryz.underlying55 hf'
  obtain ⟨u, v, rfl⟩ := two_of l (hcl.trans hc2)
  obtain ⟨y0, y1, rfl⟩ := two_of ys hyl
  have g0 : DataW.trod enc Tryz.prog W 0 (fun _ => true) true n' 9 (([u, v].drop 0).take (Tryz.prog.cellsOf 9)) = some y0 := hg 0 _ rfl
  have g1 : DataW.trod enc Tryz.prog W 0 (fun _ => true) true n' 9 (([u, v].drop 1).take (Tryz.prog.cellsOf 9)) = some y1 := hg 1 _ rfl
  rw [hc1] at g0 g1
  obtain ⟨s0, e0, z0, _⟩ := DataW.trod_string Tryz.underlying9 (cs := [u]) (x := y0) (by simpa using g0)
  obtain ⟨s1, e1, z1, _⟩ := DataW.trod_string Tryz.underlying9 (cs := [v]) (x := y1) (by simpa using g1)
  have e0' : u = .string s0 := (List.cons.inj e0).1
  have e1' : v = .string s1 := (List.cons.inj e1).1
  subst e0'; subst e1'; subst z0; subst z1
  have hd : d = .agg [.lit (.string s0.data.toList), .lit (.string s1.data.toList)] := (Prod.mk.inj hx).1
  rw [hd] at hr
  refine ⟨(s0.data.toList, s1.data.toList), ?_, reach_str (reach_part Tryz.underlying55 hr (j := 0) rfl rfl), reach_str (reach_part Tryz.underlying55 hr (j := 1) rfl rfl)⟩
  simp only [str_of]
end
end Go.Proofs.YtgmmjhcklhajiaaGreatDoor
/- Replies and entries that came in by value, opened. -/
namespace Go.Proofs.YtgmmjhcklhajiaaGreatDoor
open Go.ChangeShapes Go.WideShapes Go.RowKit
set_option maxRecDepth 100000

theorem five_of {α : Type} : ∀ (l : List α), l.length = 5 → ∃ a b c d e, l = [a, b, c, d, e]
  | [a, b, c, d, e], _ => ⟨a, b, c, d, e, rfl⟩
theorem eight_of {α : Type} : ∀ (l : List α), l.length = 8 → ∃ a b c d e f g h, l = [a, b, c, d, e, f, g, h]
  | [a, b, c, d, e, f, g, h], _ => ⟨a, b, c, d, e, f, g, h, rfl⟩
theorem four_of {α : Type} : ∀ (l : List α), l.length = 4 → ∃ a b c d, l = [a, b, c, d]
  | [a, b, c, d], _ => ⟨a, b, c, d, rfl⟩

section
variable {H : Type} {enc : TypeId × Value → H} {W : World}
theorem open_reply_cs {fuel : Nat} {cs : List Value} {x : DataW H × List MemPlace} (h : DataW.trod enc Tryz.prog W 0 (fun _ => true) true fuel 24 cs = some x) (hr : Reach 24 x.1) :
    ∃ (st : Int) (re : ByteArray) (mi : Int) (A : Option Addr) (n c : Nat) (bo : ByteArray) (xs : List Fld), cs = [.int .i64 st, .string re, .int .i64 mi, .slice A n c, .string bo] ∧ Rd A n 2 (fldsV xs) W ∧ n * 32 ≤ reachBytes ∧ (∀ f ∈ xs, f.1.length ≤ reachBytes ∧ f.2.length ≤ reachBytes) ∧ re.size ≤ reachBytes ∧ bo.size ≤ reachBytes := by
  obtain ⟨ys, n', _, hx, hcl, hyl, hg⟩ := DataW.trod_struct Tryz.underlying24 h
  have hc5 : Tryz.prog.cellsOf 24 = 5 := by kernel_rfl
  have hcs : Tryz.prog.cellsOf 9 = 1 := by kernel_rfl
  have hci : Tryz.prog.cellsOf 3 = 1 := by kernel_rfl
  have hcf : Tryz.prog.cellsOf 22 = 1 := by kernel_rfl
  obtain ⟨c0, c1, c2, c3, c4, rfl⟩ := five_of cs (hcl.trans hc5)
  obtain ⟨y0, y1, y2, y3, y4, rfl⟩ := five_of ys hyl
  have g0 : DataW.trod enc Tryz.prog W 0 (fun _ => true) true n' 3 (([c0, c1, c2, c3, c4].drop 0).take (Tryz.prog.cellsOf 3)) = some y0 := hg 0 _ rfl
  have g1 : DataW.trod enc Tryz.prog W 0 (fun _ => true) true n' 9 (([c0, c1, c2, c3, c4].drop 1).take (Tryz.prog.cellsOf 9)) = some y1 := hg 1 _ rfl
  have g2 : DataW.trod enc Tryz.prog W 0 (fun _ => true) true n' 3 (([c0, c1, c2, c3, c4].drop 2).take (Tryz.prog.cellsOf 3)) = some y2 := hg 2 _ rfl
  have g3 : DataW.trod enc Tryz.prog W 0 (fun _ => true) true n' 22 (([c0, c1, c2, c3, c4].drop 3).take (Tryz.prog.cellsOf 22)) = some y3 := hg 3 _ rfl
  have g4 : DataW.trod enc Tryz.prog W 0 (fun _ => true) true n' 9 (([c0, c1, c2, c3, c4].drop 4).take (Tryz.prog.cellsOf 9)) = some y4 := hg 4 _ rfl
  rw [hci] at g0 g2
  rw [hcs] at g1 g4
  rw [hcf] at g3
  rw [hx] at hr
  have r1 : Reach 9 y1.1 := reach_part Tryz.underlying24 hr (j := 1) rfl rfl
  have r3 : Reach 22 y3.1 := reach_part Tryz.underlying24 hr (j := 3) rfl rfl
  have r4 : Reach 9 y4.1 := reach_part Tryz.underlying24 hr (j := 4) rfl rfl
  obtain ⟨a0, e0, _⟩ := DataW.trod_int Tryz.underlying3 (cs := [c0]) g0
  obtain ⟨s1, e1, z1, _⟩ := DataW.trod_string Tryz.underlying9 (cs := [c1]) g1
  obtain ⟨a2, e2, _⟩ := DataW.trod_int Tryz.underlying3 (cs := [c2]) g2
  obtain ⟨A, n, c, xs, e3, hR, hn, hl⟩ := open_flds (cs := [c3]) g3 r3
  obtain ⟨s4, e4, z4, _⟩ := DataW.trod_string Tryz.underlying9 (cs := [c4]) g4
  have e0' := (List.cons.inj e0).1
  have e1' := (List.cons.inj e1).1
  have e2' := (List.cons.inj e2).1
  have e3' := (List.cons.inj e3).1
  have e4' := (List.cons.inj e4).1
  subst e0'; subst e1'; subst e2'; subst e3'; subst e4'
  rw [z1] at r1
  rw [z4] at r4
  have q1 := reach_str r1
  have q4 := reach_str r4
  rw [← Lib.size_eq] at q1 q4
  exact ⟨a0, s1, a2, A, n, c, s4, xs, rfl, hR, hn, hl, q1, q4⟩
set_option maxRecDepth 100000 in
theorem open_reply {base : Nat} {v : Value} {d : DataW H} {p : List MemPlace} (hv : Value.okWide Tryz.prog W .any base 24 v) (h : DataW.Trod enc Tryz.prog W 0 (fun _ => true) true 24 v d p) (hr : Reach 24 d) :
    ∃ (st : Int) (re : ByteArray) (mi : Int) (A : Option Addr) (n c : Nat) (bo : ByteArray) (xs : List Fld), v = .agg #[.int .i64 st, .string re, .int .i64 mi, .slice A n c, .string bo] ∧ Rd A n 2 (fldsV xs) W ∧ n * 32 ≤ reachBytes ∧ (∀ f ∈ xs, f.1.length ≤ reachBytes ∧ f.2.length ≤ reachBytes) ∧ re.size ≤ reachBytes ∧ bo.size ≤ reachBytes := by
  obtain ⟨cs, rfl, hsz⟩ := okWide_struct Tryz.underlying24 hv
  obtain ⟨fuel, hf⟩ := h
  obtain ⟨l⟩ := cs
  have hf' : DataW.trod enc Tryz.prog W 0 (fun _ => true) true fuel 24 l = some (d, p) := hf
  have hr' : Reach 24 (d, p).1 := hr
  obtain ⟨st, re, mi, A, n, c, bo, xs, e, r⟩ := open_reply_cs hf' hr'
  have e' : l = _ := e
  subst e'
  exact ⟨st, re, mi, A, n, c, bo, xs, rfl, r⟩
theorem open_entry {base : Nat} {v : Value} {d : DataW H} {p : List MemPlace} (hv : Value.okWide Tryz.prog W .any base 26 v) (h : DataW.Trod enc Tryz.prog W 0 (fun _ => true) true 26 v d p) (hr : Reach 26 d) :
    ∃ (st : Int) (re : ByteArray) (mi : Int) (A : Option Addr) (n c : Nat) (bo : ByteArray) (xs : List Fld) (asd gt : Int) (va : Option Addr) (vn vc : Nat) (es : List Fld),
      v = .agg #[.int .i64 st, .string re, .int .i64 mi, .slice A n c, .string bo, .int .i64 asd, .int .i64 gt, .slice va vn vc] ∧
      (Rd A n 2 (fldsV xs) W ∧ n * 32 ≤ reachBytes ∧ (∀ f ∈ xs, f.1.length ≤ reachBytes ∧ f.2.length ≤ reachBytes) ∧ re.size ≤ reachBytes ∧ bo.size ≤ reachBytes) ∧
      (Lit.int .i64 asd).wf = true ∧ (Lit.int .i64 gt).wf = true ∧
      Rd va vn 2 (fldsV es) W ∧ vn * 32 ≤ reachBytes ∧ (∀ f ∈ es, f.1.length ≤ reachBytes ∧ f.2.length ≤ reachBytes) := by
  obtain ⟨cs, rfl, hsz⟩ := okWide_struct Tryz.underlying26 hv
  obtain ⟨fuel, hf⟩ := h
  obtain ⟨l⟩ := cs
  have hf' : DataW.trod enc Tryz.prog W 0 (fun _ => true) true fuel 26 l = some (d, p) := hf
  have hc8 : Tryz.prog.cellsOf 26 = 8 := by kernel_rfl
  have hc5 : Tryz.prog.cellsOf 24 = 5 := by kernel_rfl
  have hci : Tryz.prog.cellsOf 2 = 1 := by kernel_rfl
  have hcf : Tryz.prog.cellsOf 22 = 1 := by kernel_rfl
  obtain ⟨ys, n', _, hx, hcl, hyl, hg⟩ := DataW.trod_struct Tryz.underlying26 hf'
  obtain ⟨c0, c1, c2, c3, c4, c5, c6, c7, rfl⟩ := eight_of l (hcl.trans hc8)
  obtain ⟨y0, y1, y2, y3, rfl⟩ := four_of ys hyl
  have g0 : DataW.trod enc Tryz.prog W 0 (fun _ => true) true n' 24 (([c0, c1, c2, c3, c4, c5, c6, c7].drop 0).take (Tryz.prog.cellsOf 24)) = some y0 := hg 0 _ rfl
  have g1 : DataW.trod enc Tryz.prog W 0 (fun _ => true) true n' 2 (([c0, c1, c2, c3, c4, c5, c6, c7].drop 5).take (Tryz.prog.cellsOf 2)) = some y1 := hg 1 _ rfl
  have g2 : DataW.trod enc Tryz.prog W 0 (fun _ => true) true n' 2 (([c0, c1, c2, c3, c4, c5, c6, c7].drop 6).take (Tryz.prog.cellsOf 2)) = some y2 := hg 2 _ rfl
  have g3 : DataW.trod enc Tryz.prog W 0 (fun _ => true) true n' 22 (([c0, c1, c2, c3, c4, c5, c6, c7].drop 7).take (Tryz.prog.cellsOf 22)) = some y3 := hg 3 _ rfl
  rw [hc5] at g0
  rw [hci] at g1 g2
  rw [hcf] at g3
  have hd : d = .agg [y0.1, y1.1, y2.1, y3.1] := (Prod.mk.inj hx).1
  rw [hd] at hr
  have r0 : Reach 24 y0.1 := reach_part Tryz.underlying26 hr (j := 0) rfl rfl
  have r3 : Reach 22 y3.1 := reach_part Tryz.underlying26 hr (j := 3) rfl rfl
  obtain ⟨st, re, mi, A, n, c, bo, xs, e0, r⟩ := open_reply_cs (cs := [c0, c1, c2, c3, c4]) g0 r0
  obtain ⟨a1, e1, _, w1⟩ := DataW.trod_int Tryz.underlying2 (cs := [c5]) g1
  obtain ⟨a2, e2, _, w2⟩ := DataW.trod_int Tryz.underlying2 (cs := [c6]) g2
  obtain ⟨va, vn, vc, es, e3, hR, hn, hl⟩ := open_flds (cs := [c7]) g3 r3
  simp only [List.cons.injEq, and_true] at e0 e1 e2 e3
  obtain ⟨rfl, rfl, rfl, rfl, rfl⟩ := e0
  subst e1; subst e2; subst e3
  exact ⟨st, re, mi, A, n, c, bo, xs, a1, a2, va, vn, vc, es, rfl, r, w1, w2, hR, hn, hl⟩
end
end Go.Proofs.YtgmmjhcklhajiaaGreatDoor
/- The walk of the document's Same (two lists of fields). -/
namespace Go.Proofs.YtgmmjhcklhajiaaGreatDoor
open Go.RowKit

set_option maxHeartbeats 4000000 in
theorem samef04_any (A : Option Addr) (n c : Nat) (xs : List Fld) (B : Option Addr) (m d : Nat) (ys : List Fld) (w : World) (hA : Rd A n 2 (fldsV xs) w) (hB : Rd B m 2 (fldsV ys) w) (h1 : xs.length ≤ 1000001) (h2 : ys.length ≤ 1000001) :
    Calls Tryz.prog 18 #[.slice A n c, .slice B m d] w fun e w' => e = .returned (.bool (xs == ys)) ∧ Below w.heap.size w w' := by
  obtain rfl := hA.fld
  obtain rfl := hB.fld
  have HA := Lib.hid hA; have HB := Lib.hid hB; clear hA hB
  cases hl : ((xs.length : Int) == (ys.length : Int))
  · have nl : ((xs.length : Int) != (ys.length : Int)) = true := by simp [bne, hl]
    have hr : (xs == ys) = false := by
      rw [beq_eq_false_iff_ne]; intro e; subst e; simp at hl
    have HR := Lib.hid hr; clear hr
    go_enter Tryz.func18, Tryz.ntmps18
    go_wp2
    go_ret
    rw [HR.out]
    exact ⟨rfl, Below.refl _ w⟩
  · have nl : ((xs.length : Int) != (ys.length : Int)) = false := by simp [bne, hl]
    have hle : xs.length = ys.length := by simp at hl; omega
    go_enter Tryz.func18, Tryz.ntmps18
    go_wp2
    go_loopw [5] (fun i wr => ∃ k : Nat, k ≤ xs.length ∧ i = .int .i64 k ∧ Below w.heap.size w wr ∧ Hid (xs.take k = ys.take k)) (fun i _ => xs.length - (intOf i).toNat)
    case atStart => exact ⟨0, Nat.zero_le _, rfl, Below.refl _ w, by show _ = _; rfl⟩
    case round =>
      obtain ⟨k, hk, rfl, hbw, HT⟩ := hrel
      by_cases hlt : k < xs.length
      · have hl2 : k < ys.length := by omega
        obtain ⟨b1, o1, rfl, _, c1, c2⟩ := (HA.out.below hbw).fld_at (k := k) hlt
        obtain ⟨b2, o2, rfl, _, c3, c4⟩ := (HB.out.below hbw).fld_at (k := k) hl2
        have t1 : decide ((k : Int) < (ys.length : Int)) = true := by simp; omega
        have t2 : decide ((k : Int) < (xs.length : Int)) = true := by simp; omega
        have hno : xs[k] ≠ ys[k] → Hid ((xs == ys) = false) := by
          intro h; refine Lib.hid ?_
          rw [beq_eq_false_iff_ne]; intro e; subst e; exact h rfl
        have hyes : xs[k] = ys[k] → Hid (xs.take (k + 1) = ys.take (k + 1)) := by
          intro h; refine Lib.hid ?_
          rw [List.take_succ_eq_append_getElem hlt, List.take_succ_eq_append_getElem hl2, HT.out, h]
        generalize xs[k] = f at *
        generalize ys[k] = g at *
        obtain ⟨f1, f2⟩ := f
        obtain ⟨g1, g2⟩ := g
        simp only at c1 c2 c3 c4
        have HNO := Lib.hid hno; have HYES := Lib.hid hyes; clear hno hyes HT hle
        cases e1 : (f1 == g1) <;> cases e2 : (f2 == g2)
        all_goals first
          | (have HR := HNO.out (by intro h; cases h; simp at e1 e2)
             go_wp2
             go_quiet (fail)
             go_wp2
             go_ret
             rw [HR.out]
             exact ⟨rfl, Go.below_drewN hbw _⟩)
          | (have HN := HYES.out (by rw [beq_iff_eq.1 e1, beq_iff_eq.1 e2])
             go_wp2
             go_quiet (fail)
             go_wp2
             go_roundw
             case rel => exact ⟨k + 1, by omega, by go_num, Go.below_drewN hbw _, HN⟩
             case measure => simp [intOf]; omega)
      · have hke : k = xs.length := by omega
        subst hke
        have hr : (xs == ys) = true := by
          have := HT.out; rw [List.take_length, hle, List.take_length] at this; rw [this]; simp
        have HR := Lib.hid hr; clear hr
        have t1 : decide ((xs.length : Int) < (xs.length : Int)) = false := by simp
        go_wp2
        go_ret
        rw [HR.out]
        exact ⟨rfl, hbw⟩
end Go.Proofs.YtgmmjhcklhajiaaGreatDoor
/- The walk of the document's Same (layer 20), of entries that are. -/
namespace Go.Proofs.YtgmmjhcklhajiaaGreatDoor
open Go.RowKit
set_option maxRecDepth 100000

set_option maxHeartbeats 8000000 in
theorem same20_any (st mi asked got : Int) (re bo : ByteArray) (A V A' V' : Option Addr) (c d c' d' : Nat) (xs vs : List Fld) (w : World) (hA : Rd A xs.length 2 (fldsV xs) w) (hV : Rd V vs.length 2 (fldsV vs) w) (hA' : Rd A' xs.length 2 (fldsV xs) w) (hV' : Rd V' vs.length 2 (fldsV vs) w) (h1 : xs.length ≤ 1000) (h2 : vs.length ≤ 1000) :
    Calls Tryz.prog 17 #[.agg #[.int .i64 st, .string re, .int .i64 mi, .slice A xs.length c, .string bo, .int .i64 asked, .int .i64 got, .slice V vs.length d], .agg #[.int .i64 st, .string re, .int .i64 mi, .slice A' xs.length c', .string bo, .int .i64 asked, .int .i64 got, .slice V' vs.length d']] w fun e w' => e = .returned (.bool true) ∧ Below w.heap.size w w' := by
  obtain ⟨W1, hW1⟩ : ∃ W1, w.alloc (.cells #[.int .i64 st, .string re, .int .i64 mi, .slice A xs.length c, .string bo, .int .i64 asked, .int .i64 got, .slice V vs.length d] 26) = W1 := ⟨_, rfl⟩
  have b1 : Below w.heap.size w W1 := by rw [← hW1]; exact (Below.refl w.heap.size w).alloc (Nat.le_refl _) _
  have z1 : W1.heap.size = w.heap.size + 1 := by rw [← hW1]; simp
  have x1 : W1.heap[w.heap.size]? = some (.cells #[.int .i64 st, .string re, .int .i64 mi, .slice A xs.length c, .string bo, .int .i64 asked, .int .i64 got, .slice V vs.length d] 26 (0, 0)) := by rw [← hW1]; exact heap_new w _ _ rfl
  obtain ⟨W2, hW2⟩ : ∃ W2, W1.alloc (.cells #[.int .i64 st, .string re, .int .i64 mi, .slice A' xs.length c', .string bo, .int .i64 asked, .int .i64 got, .slice V' vs.length d'] 26) = W2 := ⟨_, rfl⟩
  have b2 : Below W1.heap.size W1 W2 := by rw [← hW2]; exact (Below.refl W1.heap.size W1).alloc (Nat.le_refl _) _
  have x2 : W2.heap[w.heap.size + 1]? = some (.cells #[.int .i64 st, .string re, .int .i64 mi, .slice A' xs.length c', .string bo, .int .i64 asked, .int .i64 got, .slice V' vs.length d'] 26 (0, 0)) := by rw [← hW2]; exact heap_new W1 _ _ z1
  have x1 := (b2.block w.heap.size (by omega)).trans x1
  have hB2 := bt b1 b2
  have k1 := samef04_any V vs.length d vs V' vs.length d' vs W2 (hV.below hB2) (hV'.below hB2) (by omega) (by omega)
  rw [show (vs == vs) = true from by simp] at k1
  have k2 := fun W (hb : Below w.heap.size w W) => samef04_any A xs.length c xs A' xs.length c' xs W (hA.below hb) (hA'.below hb) (by omega) (by omega)
  rw [show (xs == xs) = true from by simp] at k2
  have c1 := (of_heap x1 1).1; have c2 := (of_heap x1 2).1; have c7 := (of_heap x1 7).1; have hl1 := (of_heap x1 1).2.2
  have d1 := (of_heap x2 1).1; have d2 := (of_heap x2 2).1; have d7 := (of_heap x2 7).1; have hl2 := (of_heap x2 1).2.2
  simp only [List.getElem?_toArray, List.getElem?_cons_succ, List.getElem?_cons_zero] at c1 c2 c7 d1 d2 d7
  have e1 : (asked == asked) = true := by simp
  have e2 : (got == got) = true := by simp
  have e3 : (st == st) = true := by simp
  have e4 : (mi == mi) = true := by simp
  have e5 : (re.data.toList == re.data.toList) = true := by simp
  have e6 : (bo.data.toList == bo.data.toList) = true := by simp
  have HW1 := Lib.hid hW1; have HW2 := Lib.hid hW2; have K1 := Lib.hid k1; have K2 := Lib.hid k2; have X1 := Lib.hid x1; have X2 := Lib.hid x2; have HB2 := Lib.hid hB2
  clear hW1 hW2 k1 k2 x1 x2 b1 b2 z1 hB2 hA hV hA' hV'
  go_enter Tryz.func17, Tryz.ntmps17
  go_upto_region 0 with (fail)
  go_wp2_with fail
  rw [HW1.out, HW2.out]
  (with_reducible refine K1.out.mono ?_)
  rintro e w3 ⟨rfl, hb3⟩
  have y1 := (hb3.block w.heap.size hl1).trans X1.out
  have y2 := (hb3.block (w.heap.size + 1) hl2).trans X2.out
  have HB3 := Lib.hid (bt HB2.out hb3)
  clear c1 c2 c7 d1 d2 d7 hb3
  have c0 := (of_heap y1 0).1; have c1 := (of_heap y1 1).1; have c2 := (of_heap y1 2).1; have c3 := (of_heap y1 3).1; have c4 := (of_heap y1 4).1
  have d0 := (of_heap y2 0).1; have d1 := (of_heap y2 1).1; have d2 := (of_heap y2 2).1; have d3 := (of_heap y2 3).1; have d4 := (of_heap y2 4).1
  simp only [List.getElem?_toArray, List.getElem?_cons_succ, List.getElem?_cons_zero] at c0 c1 c2 c3 c4 d0 d1 d2 d3 d4
  clear y1 y2
  go_wp2_with fail
  (with_reducible refine (K2.out _ HB3.out).mono ?_)
  rintro e w4 ⟨rfl, hb4⟩
  go_wp2
  go_ret
  exact ⟨rfl, bt HB3.out hb4⟩
end Go.Proofs.YtgmmjhcklhajiaaGreatDoor
/- The walk of the law's few (layer 20). -/
namespace Go.Proofs.YtgmmjhcklhajiaaGreatDoor
open Go.RowKit
set_option maxRecDepth 100000

def few20 (xs : List Fld) : Bool := decide (xs.length ≤ 80) && decide (sumF xs ≤ 6000)
theorem few20_yes {xs : List Fld} (h : few20 xs = true) : xs.length ≤ 80 ∧ sumF xs ≤ 6000 := by
  unfold few20 at h; simpa using h

set_option maxHeartbeats 4000000 in
theorem few20_any (A : Option Addr) (n c : Nat) (xs : List Fld) (w : World) (hr : Rd A n 2 (fldsV xs) w) (hn : n ≤ 140737488355328) (hs : ∀ f ∈ xs, f.1.length ≤ 140737488355328 ∧ f.2.length ≤ 140737488355328) :
    Calls Tryz.prog 12 #[.slice A n c] w fun e w' => e = .returned (.bool (few20 xs)) ∧ Below w.heap.size w w' := by
  obtain rfl := hr.fld
  have hB := Below.refl w.heap.size w
  by_cases h80 : xs.length ≤ 80
  · have hbad : ∀ k (h : k < xs.length), 6000 < sumF (xs.take k) + (xs[k].1.length + xs[k].2.length) → few20 xs = false := by
      intro k h h1
      have h2 := sumF_take xs (k + 1)
      rw [sumF_snoc xs k h] at h2
      unfold few20
      rw [show decide (sumF xs ≤ 6000) = false from by simp; omega, Bool.and_false]
    have hgood : sumF (xs.take xs.length) ≤ 6000 → few20 xs = true := by
      intro h; rw [List.take_length] at h; unfold few20; simp; exact ⟨h80, h⟩
    have hsn := sumF_snoc xs
    have h00 : sumF (xs.take 0) = 0 := rfl
    have HR := Lib.hid hr; have HS := Lib.hid hs; have HBAD := Lib.hid hbad; have HG := Lib.hid hgood; have HSN := Lib.hid hsn; have H00 := Lib.hid h00; clear hr hs hbad hgood hsn h00
    generalize few20 xs = out at *
    go_enter Tryz.func12, Tryz.ntmps12
    go_wp2
    go_loopw [4, 3] (fun i x wr => ∃ (k : Nat) (r : Int), k ≤ xs.length ∧ i = .int .i64 k ∧ x = .int .i64 r ∧ Hid (r = 6000 - (sumF (xs.take k) : Int)) ∧ 0 ≤ r ∧ r ≤ 6000 ∧ Below w.heap.size w wr) (fun i _ _ => xs.length - (intOf i).toNat)
    case atStart => exact ⟨0, 6000, Nat.zero_le _, rfl, rfl, Lib.hid (by rw [H00.out]; rfl), by omega, by omega, hB⟩
    case round =>
      clear hB H00
      obtain ⟨k, r, hk, rfl, rfl, HE, hr0, hr1, hbw⟩ := hrel
      by_cases hlt : k < xs.length
      · obtain ⟨b, o, rfl, hl, c1, c2⟩ := HR.out.fld_at (k := k) hlt
        have hf := HS.out xs[k] (List.getElem_mem _)
        have hbd := HBAD.out k hlt
        have hsn := HSN.out k hlt
        have he := HE.out
        generalize xs[k] = f at *
        obtain ⟨f1, f2⟩ := f
        simp only at c1 c2 hf hbd hsn
        have hn2 : sumF (xs.take (k + 1)) = sumF (xs.take k) + (f1.length + f2.length) := hsn
        clear hsn
        obtain ⟨s1, hs1⟩ : ∃ s1, sumF (xs.take (k + 1)) = s1 := ⟨_, rfl⟩
        rw [hs1] at hn2
        have HS1 := Lib.hid hs1; clear hs1
        generalize sumF (xs.take k) = s0 at *
        have d1 := (hbw.cell (p := ⟨b, o + k * 2, none⟩) hl).trans c1
        have d2 := (hbw.cell (p := ⟨b, o + k * 2 + 1, none⟩) hl).trans c2
        clear c1 c2 HBAD HSN HG HE
        have z1 : (⟨f1.toArray⟩ : ByteArray).size = f1.length := by rw [Lib.size_eq]
        have z2 : (⟨f2.toArray⟩ : ByteArray).size = f2.length := by rw [Lib.size_eq]
        obtain ⟨hf1, hf2⟩ := hf
        generalize f1.length = n1 at *
        generalize f2.length = n2 at *
        have hwid : (0 : Int) ≤ n1 ∧ (0 : Int) ≤ n2 := by omega
        cases t1 : decide ((n1 : Int) > r)
        · have q1 : IntKind.i64.wrap (r - (n1 : Int)) = r - (n1 : Int) := IntWalk.i64_in _ (by simp at t1; omega)
          cases t2 : decide ((n2 : Int) > r - (n1 : Int))
          · have q2 : IntKind.i64.wrap (r - (n1 : Int) - (n2 : Int)) = r - (n1 : Int) - (n2 : Int) := IntWalk.i64_in _ (by simp at t1 t2; omega)
            have hnx : r - (n1 : Int) - (n2 : Int) = 6000 - (s1 : Int) := by omega
            have hg0 : 0 ≤ r - (n1 : Int) - (n2 : Int) := by simp at t1 t2; omega
            have HNX := Lib.hid hnx; have HG0 := Lib.hid hg0
            clear hbd he hnx hn2 hg0
            go_wp2
            go_quiet (fail)
            go_wp2
            go_quiet (fail)
            go_wp2
            go_roundw
            case rel => exact ⟨k + 1, _, by omega, by go_num, rfl, by rw [HS1.out]; exact HNX, HG0.out, by omega, Go.below_drewN hbw _⟩
            case measure => simp [intOf]; omega
          · have hx := hbd (by simp at t1 t2; omega)
            have Hx := Lib.hid hx
            clear hx hbd he hn2
            go_wp2
            go_quiet (fail)
            go_wp2
            go_ret
            rw [Hx.out]
            exact ⟨rfl, Go.below_drewN hbw _⟩
        · have hx := hbd (by simp at t1; omega)
          have Hx := Lib.hid hx
          clear hx hbd he hn2
          go_wp2
          go_quiet (fail)
          go_wp2
          go_ret
          rw [Hx.out]
          exact ⟨rfl, Go.below_drewN hbw _⟩
      · have hke : k = xs.length := by omega
        subst hke
        have hx := HG.out (by have := HE.out; omega)
        have Hx := Lib.hid hx; clear hx HE
        go_wp2
        go_ret
        rw [Hx.out]
        exact ⟨rfl, hbw⟩
  · have hx : few20 xs = false := by unfold few20; rw [show decide (xs.length ≤ 80) = false from by simpa using h80, Bool.false_and]
    rw [hx]
    clear hx hs hr
    go_enter Tryz.func12, Tryz.ntmps12
    go_wp2
    go_ret
    exact ⟨rfl, hB⟩
end Go.Proofs.YtgmmjhcklhajiaaGreatDoor
