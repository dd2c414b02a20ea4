/- Joined out of the texts RWalk8, RWalk9, RWalkC, RNot14, OpenT, Open, OpenV, TabOf, DEnv (wip/tools/merge.py). -/
import Derived.Test.YtedmiganmifepaaGreatDoorPe4
import Derived.OpenShut
import Derived.SizedLaws
import Derived.Deep.Slices
import Derived.SliceStrings
import Derived.ChangeSame
import Derived.Lib.LaidU8
import Derived.MakeChecks
/- The document's dates: the walks of Fixed, Old (printed by wip/tools/rwalk7.py). -/
namespace Go.Proofs.YtedmiganmifepaaGreatDoor
open Go.RowKit
set_option maxRecDepth 100000

set_option maxHeartbeats 16000000 in
theorem ifixed_any (Y Mo D h mi s : Int) (hd : rmay ⟨Y, Mo, D, h, mi, s⟩ = true) (w : World) :
    Calls Tryz.prog 39 #[.agg #[.int .i64 Y, .int .i64 Mo, .int .i64 D, .int .i64 h, .int .i64 mi, .int .i64 s]] w fun e w' => e = .returned (.string ⟨(rfixed ⟨Y, Mo, D, h, mi, s⟩).toArray⟩) ∧ Below w.heap.size w w' := by
  obtain ⟨a1, a2, a3, a4, a5, a6, a7, a8, a9, a10, a11, a12⟩ := rmay_is hd
  simp only at a1 a2 a3 a4 a5 a6 a7 a8 a9 a10 a11 a12
  have hdl := dlong_hi Y Mo
  obtain ⟨W1, hW1⟩ : ∃ W1, w.alloc (.cells #[.int .i64 Y, .int .i64 Mo, .int .i64 D, .int .i64 h, .int .i64 mi, .int .i64 s] 65) = W1 := ⟨_, rfl⟩
  have b1 : Below w.heap.size w W1 := by rw [← hW1]; exact (Below.refl w.heap.size w).alloc (Nat.le_refl _) _
  have x1 : W1.heap[w.heap.size]? = some (.cells #[.int .i64 Y, .int .i64 Mo, .int .i64 D, .int .i64 h, .int .i64 mi, .int .i64 s] 65 (0, 0)) := by rw [← hW1]; exact heap_new w _ _ rfl
  have c0 := (of_heap x1 0).1; have c1 := (of_heap x1 1).1; have c2 := (of_heap x1 2).1; have c3 := (of_heap x1 3).1; have c4 := (of_heap x1 4).1; have c5 := (of_heap x1 5).1; have hEl := (of_heap x1 0).2.2
  simp only [List.getElem?_toArray, List.getElem?_cons_succ, List.getElem?_cons_zero] at c0 c1 c2 c3 c4 c5
  have kc : ∀ w', Below W1.heap.size W1 w' → w'.cell? ⟨w.heap.size, 0, none⟩ = some (.int .i64 Y) ∧ w'.cell? ⟨w.heap.size, 1, none⟩ = some (.int .i64 Mo) ∧ w'.cell? ⟨w.heap.size, 2, none⟩ = some (.int .i64 D) ∧ w'.cell? ⟨w.heap.size, 3, none⟩ = some (.int .i64 h) ∧ w'.cell? ⟨w.heap.size, 4, none⟩ = some (.int .i64 mi) ∧ w'.cell? ⟨w.heap.size, 5, none⟩ = some (.int .i64 s) ∧ Below W1.heap.size W1 w' := fun w' h => ⟨(h.cell (p := ⟨w.heap.size, 0, none⟩) hEl).trans c0, (h.cell (p := ⟨w.heap.size, 1, none⟩) hEl).trans c1, (h.cell (p := ⟨w.heap.size, 2, none⟩) hEl).trans c2, (h.cell (p := ⟨w.heap.size, 3, none⟩) hEl).trans c3, (h.cell (p := ⟨w.heap.size, 4, none⟩) hEl).trans c4, (h.cell (p := ⟨w.heap.size, 5, none⟩) hEl).trans c5, h⟩
  obtain ⟨N, hN, hNb⟩ := rcount_in _ hd
  have kn := fun W => icount_any Y Mo D h mi s ⟨a1, a2⟩ ⟨a3, a4⟩ ⟨a5, by omega⟩ W
  rw [hN] at kn
  have ks := fun W => ishort_any W
  have kw := fun A c W hr => iweekS_any A c N hNb W hr
  have kd := fun W => idig2_any D (by omega) (by omega) W
  have km := fun W => imons_any W
  have ky := fun W => idig4_any Y (by omega) (by omega) W
  have kk := fun W => iclock_any Y Mo D h mi s ⟨a7, by omega, a9, by omega, a11, by omega⟩ W
  obtain ⟨j, hj', hjm, hje⟩ := rmon_is Mo a3 a4
  have hj : j < rmons.length := hj'
  have hmo : rmons[j] = rmon Mo := by rw [hjm, List.getD_eq_getElem?_getD, List.getElem?_eq_getElem hj]; rfl
  have hml : (rmon Mo).length = 3 := by rw [hjm]; exact mon_len j hj'
  have hwl : (rwd rshort N).length ≤ 3 := by
    have hall : ∀ x ∈ rshort, x.length ≤ 3 := by decide
    unfold rwd
    have hi : (((N : Int) + 3) % 7).toNat < rshort.length := by show _ < 7; omega
    rw [List.getD_eq_getElem?_getD, List.getElem?_eq_getElem hi]
    exact hall _ (List.getElem_mem hi)
  have hcl : (rclock ⟨Y, Mo, D, h, mi, s⟩).length = 8 := by unfold rclock; simp [rdig_len]
  have hw1 : IntKind.i64.wrap (Mo - 1) = (j : Int) := by rw [IntKind.wrap_i64]; omega
  have hfin : ((((((((((⟨(rwd rshort N).toArray⟩ : ByteArray) ++ ⟨#[44, 32]⟩) ++ ⟨(rdig 2 D).toArray⟩) ++ ⟨#[32]⟩) ++ ⟨(rmon Mo).toArray⟩) ++ ⟨#[32]⟩) ++ ⟨(rdig 4 Y).toArray⟩) ++ ⟨#[32]⟩) ++ ⟨(rclock ⟨Y, Mo, D, h, mi, s⟩).toArray⟩) ++ ⟨#[32, 71, 77, 84]⟩) = ⟨(rfixed ⟨Y, Mo, D, h, mi, s⟩).toArray⟩ := by
    apply str_eq
    simp only [app_list]
    unfold rfixed
    rw [hN]
    simp
  have z1 : (⟨(rwd rshort N).toArray⟩ : ByteArray).size ≤ 3 := by rw [Lib.size_eq]; exact hwl
  have z2 : (⟨(rdig 2 D).toArray⟩ : ByteArray).size ≤ 2 := by rw [Lib.size_eq]; exact Nat.le_of_eq (rdig_len 2 D)
  have z3 : (⟨(rmon Mo).toArray⟩ : ByteArray).size ≤ 3 := by rw [Lib.size_eq]; exact Nat.le_of_eq hml
  have z4 : (⟨(rdig 4 Y).toArray⟩ : ByteArray).size ≤ 4 := by rw [Lib.size_eq]; show (rdig 4 Y).length ≤ 4; rw [rdig_len]; omega
  have z5 : (⟨(rclock ⟨Y, Mo, D, h, mi, s⟩).toArray⟩ : ByteArray).size ≤ 8 := by rw [Lib.size_eq]; exact Nat.le_of_eq hcl
  have hmo2 : (⟨rmons[j].toArray⟩ : ByteArray) = ⟨(rmon Mo).toArray⟩ := by rw [hmo]
  have hrl : rmons.length = 12 := rfl
  have hjb : j < 12 := hj'
  generalize (⟨(rwd rshort N).toArray⟩ : ByteArray) = q1 at *
  generalize (⟨(rdig 2 D).toArray⟩ : ByteArray) = q2 at *
  generalize (⟨(rmon Mo).toArray⟩ : ByteArray) = mo at *
  generalize (⟨(rdig 4 Y).toArray⟩ : ByteArray) = q4 at *
  generalize (⟨(rclock ⟨Y, Mo, D, h, mi, s⟩).toArray⟩ : ByteArray) = q5 at *
  generalize (⟨(rfixed ⟨Y, Mo, D, h, mi, s⟩).toArray⟩ : ByteArray) = R at *
  have f1 : ¬ (9223372036854775807 < q1.size + 2) := by omega
  have f2 : ¬ (9223372036854775807 < q1.size + 2 + q2.size) := by omega
  have f3 : ¬ (9223372036854775807 < q1.size + 2 + q2.size + 1) := by omega
  have f4 : ¬ (9223372036854775807 < q1.size + 2 + q2.size + 1 + mo.size) := by omega
  have f5 : ¬ (9223372036854775807 < q1.size + 2 + q2.size + 1 + mo.size + 1) := by omega
  have f6 : ¬ (9223372036854775807 < q1.size + 2 + q2.size + 1 + mo.size + 1 + q4.size) := by omega
  have f7 : ¬ (9223372036854775807 < q1.size + 2 + q2.size + 1 + mo.size + 1 + q4.size + 1) := by omega
  have f8 : ¬ (9223372036854775807 < q1.size + 2 + q2.size + 1 + mo.size + 1 + q4.size + 1 + q5.size) := by omega
  have f9 : ¬ (9223372036854775807 < q1.size + 2 + q2.size + 1 + mo.size + 1 + q4.size + 1 + q5.size + 4) := by omega
  have i1 : (0 : Int) ≤ (j : Int) := by omega
  have i2 : (j : Int) < 12 := by omega
  have i4 : ((j : Int)).toNat = j := by simp
  have i5 : decide ((j : Int) < 0) = false := by simp
  have KN := Lib.hid kn; have KS := Lib.hid ks; have KW := Lib.hid kw; have KD := Lib.hid kd; have KM := Lib.hid km; have KY := Lib.hid ky; have KK := Lib.hid kk; have KC := Lib.hid kc; have HW1 := Lib.hid hW1; have HF := Lib.hid hfin; have HMO := Lib.hid hmo2
  have hB1 : Below W1.heap.size W1 W1.drew := (Below.refl _ _).drew
  clear kn ks kw kd km ky kk kc hW1 x1 hfin hmo2 hmo hml hwl hcl hN hd hjm hje hj' c0 c1 c2 c3 c4 c5 hEl hrl
  go_enter Tryz.func39, Tryz.ntmps39
  go_upto_region 1 with (fail)
  rw [HW1.out]
  go_wp2_with fail
  refine wp_region_held_drew (S := (fun w' => w'.cell? ⟨w.heap.size, 0, none⟩ = some (.int .i64 Y) ∧ w'.cell? ⟨w.heap.size, 1, none⟩ = some (.int .i64 Mo) ∧ w'.cell? ⟨w.heap.size, 2, none⟩ = some (.int .i64 D) ∧ w'.cell? ⟨w.heap.size, 3, none⟩ = some (.int .i64 h) ∧ w'.cell? ⟨w.heap.size, 4, none⟩ = some (.int .i64 mi) ∧ w'.cell? ⟨w.heap.size, 5, none⟩ = some (.int .i64 s) ∧ Below W1.heap.size W1 w')) (by kernel_rfl) (KC.out _ hB1) (fun hHeld => ?_)
  refine wpAnyH_take (i := 0) (v := ?_) (by simp only [List.getElem?_toArray, List.getElem?_cons_zero]; exact rfl) (by kernel_rfl) (by kernel_rfl) (by kernel_rfl) (by intro _ _ _ h; exact h) (Or.inl ⟨by rfl, fun W hSw => ?_⟩) hHeld ?_
  rotate_left
  focus ((try dsimp only at hSw); first | (go_simp; done) | (go_simp; with_reducible rfl))
  try simp only [Act.put, List.setIfInBounds_toArray, List.set_cons_zero, List.set_cons_succ]
  refine wpAnyH_take (i := 5) (v := ?_) (by simp only [List.getElem?_toArray, List.getElem?_cons_succ, List.getElem?_cons_zero]; exact rfl) (by kernel_rfl) (by kernel_rfl) (by kernel_rfl) (by intro _ _ _ h; exact h) (Or.inl ⟨by rfl, fun W hSw => ?_⟩) hHeld ?_
  rotate_left
  focus ((try dsimp only at hSw); first | (go_simp; done) | (go_simp; with_reducible rfl))
  try simp only [Act.put, List.setIfInBounds_toArray, List.set_cons_zero, List.set_cons_succ]
  refine wpAnyH_take (i := 6) (v := ?_) (by simp only [List.getElem?_toArray, List.getElem?_cons_succ, List.getElem?_cons_zero]; exact rfl) (by kernel_rfl) (by kernel_rfl) (by kernel_rfl) (by intro _ _ _ h; exact h) (Or.inl ⟨by rfl, fun W hSw => ?_⟩) hHeld ?_
  rotate_left
  focus ((try dsimp only at hSw); first | (go_simp; done) | (go_simp; with_reducible rfl))
  try simp only [Act.put, List.setIfInBounds_toArray, List.set_cons_zero, List.set_cons_succ]
  refine wpAnyH_take (i := 11) (v := ?_) (by simp only [List.getElem?_toArray, List.getElem?_cons_succ, List.getElem?_cons_zero]; exact rfl) (by kernel_rfl) (by kernel_rfl) (by kernel_rfl) (by intro _ _ _ h; exact h) (Or.inl ⟨by rfl, fun W hSw => ?_⟩) hHeld ?_
  rotate_left
  focus ((try dsimp only at hSw); first | (go_simp; done) | (go_simp; with_reducible rfl))
  try simp only [Act.put, List.setIfInBounds_toArray, List.set_cons_zero, List.set_cons_succ]
  refine wpAnyH_take (i := 12) (v := ?_) (by simp only [List.getElem?_toArray, List.getElem?_cons_succ, List.getElem?_cons_zero]; exact rfl) (by kernel_rfl) (by kernel_rfl) (by kernel_rfl) (by intro _ _ _ h; exact h) (Or.inl ⟨by rfl, fun W hSw => ?_⟩) hHeld ?_
  rotate_left
  focus ((try dsimp only at hSw); first | (go_simp; done) | (go_simp; with_reducible rfl))
  try simp only [Act.put, List.setIfInBounds_toArray, List.set_cons_zero, List.set_cons_succ]
  refine wpAnyH_take (i := 13) (v := ?_) (by simp only [List.getElem?_toArray, List.getElem?_cons_succ, List.getElem?_cons_zero]; exact rfl) (by kernel_rfl) (by kernel_rfl) (by kernel_rfl) (by intro _ _ _ h; exact h) (Or.inl ⟨by rfl, fun W hSw => ?_⟩) hHeld ?_
  rotate_left
  focus ((try dsimp only at hSw); first | (go_simp; done) | (go_simp; with_reducible rfl))
  try simp only [Act.put, List.setIfInBounds_toArray, List.set_cons_zero, List.set_cons_succ]
  refine wpAnyH_take (i := 18) (v := ?_) (by simp only [List.getElem?_toArray, List.getElem?_cons_succ, List.getElem?_cons_zero]; exact rfl) (by kernel_rfl) (by kernel_rfl) (by kernel_rfl) (by intro _ _ _ h; exact h) (Or.inl ⟨by rfl, fun W hSw => ?_⟩) hHeld ?_
  rotate_left
  focus ((try dsimp only at hSw); first | (go_simp; done) | (go_simp; with_reducible rfl))
  try simp only [Act.put, List.setIfInBounds_toArray, List.set_cons_zero, List.set_cons_succ]
  refine wpAnyH_take (i := 19) (v := ?_) (by simp only [List.getElem?_toArray, List.getElem?_cons_succ, List.getElem?_cons_zero]; exact rfl) (by kernel_rfl) (by kernel_rfl) (by kernel_rfl) (by intro _ _ _ h; exact h) (Or.inl ⟨by rfl, fun W hSw => ?_⟩) hHeld ?_
  rotate_left
  focus ((try dsimp only at hSw); first | (go_simp; done) | (go_simp; with_reducible rfl))
  try simp only [Act.put, List.setIfInBounds_toArray, List.set_cons_zero, List.set_cons_succ]
  refine wpAnyH_take (i := 23) (v := ?_) (by simp only [List.getElem?_toArray, List.getElem?_cons_succ, List.getElem?_cons_zero]; exact rfl) (by kernel_rfl) (by kernel_rfl) (by kernel_rfl) (by intro _ _ _ h; exact h) (Or.inl ⟨by rfl, fun W hSw => ?_⟩) hHeld ?_
  rotate_left
  focus ((try dsimp only at hSw); first | (go_simp; done) | (go_simp; with_reducible rfl))
  try simp only [Act.put, List.setIfInBounds_toArray, List.set_cons_zero, List.set_cons_succ]
  refine wpAnyH_ready (rs := [1]) (by kernel_rfl) (by simp) (AllReadyH.cons (by simp only [List.getElem?_toArray, List.getElem?_cons_succ, List.getElem?_cons_zero]; exact rfl) (fun K hK => ?_) AllReadyH.nil)
  rw [if_pos (by rfl)]
  go_simp
  (with_reducible refine (KN.out _).mono ?_); rintro e w2 ⟨rfl, hb2⟩; have hB2 := bt hB1 hb2; go_wp2_with fail
  refine hK.out _ _ (KC.out _ hB2) (fun hHeld => ?_)
  clear hK K
  try simp only [Act.put, List.setIfInBounds_toArray, List.set_cons_zero, List.set_cons_succ]
  refine wpAnyH_ready (rs := [2]) (by kernel_rfl) (by simp) (AllReadyH.cons (by simp only [List.getElem?_toArray, List.getElem?_cons_succ, List.getElem?_cons_zero]; exact rfl) (fun K hK => ?_) AllReadyH.nil)
  rw [if_pos (by rfl)]
  go_simp
  (with_reducible refine (KS.out _).mono ?_); rintro e w3 ⟨rfl, hrd3, hb3⟩; have hB3 := bt hB2 hb3; go_wp2_with fail
  refine hK.out _ _ (KC.out _ hB3) (fun hHeld => ?_)
  clear hK K
  try simp only [Act.put, List.setIfInBounds_toArray, List.set_cons_zero, List.set_cons_succ]
  refine wpAnyH_ready (rs := [3]) (by kernel_rfl) (by simp) (AllReadyH.cons (by simp only [List.getElem?_toArray, List.getElem?_cons_succ, List.getElem?_cons_zero]; exact rfl) (fun K hK => ?_) AllReadyH.nil)
  rw [if_pos (by rfl)]
  go_simp
  (with_reducible refine (KW.out _ _ _ hrd3).mono ?_); rintro e w4 ⟨rfl, rfl⟩; go_wp2_with fail
  refine hK.out _ _ (KC.out _ hB3) (fun hHeld => ?_)
  clear hK K
  try simp only [Act.put, List.setIfInBounds_toArray, List.set_cons_zero, List.set_cons_succ]
  refine wpAnyH_take (i := 4) (v := ?_) (by simp only [List.getElem?_toArray, List.getElem?_cons_succ, List.getElem?_cons_zero]; exact rfl) (by kernel_rfl) (by kernel_rfl) (by kernel_rfl) (by intro _ _ _ h; exact h) (Or.inl ⟨by rfl, fun W hSw => ?_⟩) hHeld ?_
  rotate_left
  focus ((try dsimp only at hSw); first | (go_simp; done) | (go_simp; with_reducible rfl))
  try simp only [Act.put, List.setIfInBounds_toArray, List.set_cons_zero, List.set_cons_succ]
  refine wpAnyH_ready (rs := [7]) (by kernel_rfl) (by simp) (AllReadyH.cons (by simp only [List.getElem?_toArray, List.getElem?_cons_succ, List.getElem?_cons_zero]; exact rfl) (fun K hK => ?_) AllReadyH.nil)
  rw [if_pos (by rfl)]
  go_simp
  (with_reducible refine (KD.out _).mono ?_); rintro e w5 ⟨rfl, hb5⟩; have hB5 := bt hB3 hb5; go_wp2_with fail
  refine hK.out _ _ (KC.out _ hB5) (fun hHeld => ?_)
  clear hK K
  try simp only [Act.put, List.setIfInBounds_toArray, List.set_cons_zero, List.set_cons_succ]
  refine wpAnyH_take (i := 8) (v := ?_) (by simp only [List.getElem?_toArray, List.getElem?_cons_succ, List.getElem?_cons_zero]; exact rfl) (by kernel_rfl) (by kernel_rfl) (by kernel_rfl) (by intro _ _ _ h; exact h) (Or.inl ⟨by rfl, fun W hSw => ?_⟩) hHeld ?_
  rotate_left
  focus ((try dsimp only at hSw); first | (go_simp; done) | (go_simp; with_reducible rfl))
  try simp only [Act.put, List.setIfInBounds_toArray, List.set_cons_zero, List.set_cons_succ]
  refine wpAnyH_take (i := 9) (v := ?_) (by simp only [List.getElem?_toArray, List.getElem?_cons_succ, List.getElem?_cons_zero]; exact rfl) (by kernel_rfl) (by kernel_rfl) (by kernel_rfl) (by intro _ _ _ h; exact h) (Or.inl ⟨by rfl, fun W hSw => ?_⟩) hHeld ?_
  rotate_left
  focus ((try dsimp only at hSw); first | (go_simp; done) | (go_simp; with_reducible rfl))
  try simp only [Act.put, List.setIfInBounds_toArray, List.set_cons_zero, List.set_cons_succ]
  refine wpAnyH_ready (rs := [10]) (by kernel_rfl) (by simp) (AllReadyH.cons (by simp only [List.getElem?_toArray, List.getElem?_cons_succ, List.getElem?_cons_zero]; exact rfl) (fun K hK => ?_) AllReadyH.nil)
  rw [if_pos (by rfl)]
  go_simp
  (with_reducible refine (KM.out _).mono ?_); rintro e w6 ⟨rfl, hrd6, hb6⟩; have hB6 := bt hB5 hb6; go_wp2_with fail
  refine hK.out _ _ (KC.out _ hB6) (fun hHeld => ?_)
  clear hK K
  try simp only [Act.put, List.setIfInBounds_toArray, List.set_cons_zero, List.set_cons_succ]
  obtain ⟨gm, om, em, hlm, hcm⟩ := hrd6.str_at (k := j) hj
  cases em
  rw [Nat.zero_add, HMO.out] at hcm
  have kc2 : ∀ w', Below w6.heap.size w6 w' → w'.cell? ⟨w.heap.size, 0, none⟩ = some (.int .i64 Y) ∧ w'.cell? ⟨w.heap.size, 1, none⟩ = some (.int .i64 Mo) ∧ w'.cell? ⟨w.heap.size, 2, none⟩ = some (.int .i64 D) ∧ w'.cell? ⟨w.heap.size, 3, none⟩ = some (.int .i64 h) ∧ w'.cell? ⟨w.heap.size, 4, none⟩ = some (.int .i64 mi) ∧ w'.cell? ⟨w.heap.size, 5, none⟩ = some (.int .i64 s) ∧ w'.cell? ⟨w5.heap.size, j, none⟩ = some (.string mo) ∧ Below W1.heap.size W1 w' ∧ Below w6.heap.size w6 w' := fun w' hq => by obtain ⟨g0, g1, g2, g3, g4, g5, _⟩ := KC.out _ (bt hB6 hq); exact ⟨g0, g1, g2, g3, g4, g5, (hq.cell (p := ⟨w5.heap.size, j, none⟩) hlm).trans hcm, bt hB6 hq, hq⟩
  have KC2 := Lib.hid kc2; clear kc2 hcm hrd6
  refine wpAnyH_strong (S' := (fun w' => w'.cell? ⟨w.heap.size, 0, none⟩ = some (.int .i64 Y) ∧ w'.cell? ⟨w.heap.size, 1, none⟩ = some (.int .i64 Mo) ∧ w'.cell? ⟨w.heap.size, 2, none⟩ = some (.int .i64 D) ∧ w'.cell? ⟨w.heap.size, 3, none⟩ = some (.int .i64 h) ∧ w'.cell? ⟨w.heap.size, 4, none⟩ = some (.int .i64 mi) ∧ w'.cell? ⟨w.heap.size, 5, none⟩ = some (.int .i64 s) ∧ w'.cell? ⟨w5.heap.size, j, none⟩ = some (.string mo) ∧ Below W1.heap.size W1 w' ∧ Below w6.heap.size w6 w')) (fun _ hq => ⟨hq.1, hq.2.1, hq.2.2.1, hq.2.2.2.1, hq.2.2.2.2.1, hq.2.2.2.2.2.1, hq.2.2.2.2.2.2.2.1⟩) ?_
  replace hHeld := KC2.out _ (Below.refl _ w6)
  refine wpAnyH_take (i := 14) (v := ?_) (by simp only [List.getElem?_toArray, List.getElem?_cons_succ, List.getElem?_cons_zero]; exact rfl) (by kernel_rfl) (by kernel_rfl) (by kernel_rfl) (by intro _ _ _ h; exact h) (Or.inl ⟨by rfl, fun W hSw => ?_⟩) hHeld ?_
  rotate_left
  focus ((try dsimp only at hSw); first | (go_simp; done) | (go_simp; with_reducible rfl))
  try simp only [Act.put, List.setIfInBounds_toArray, List.set_cons_zero, List.set_cons_succ]
  refine wpAnyH_take (i := 15) (v := ?_) (by simp only [List.getElem?_toArray, List.getElem?_cons_succ, List.getElem?_cons_zero]; exact rfl) (by kernel_rfl) (by kernel_rfl) (by kernel_rfl) (by intro _ _ _ h; exact h) (Or.inl ⟨by rfl, fun W hSw => ?_⟩) hHeld ?_
  rotate_left
  focus ((try dsimp only at hSw); first | (go_simp; done) | (go_simp; with_reducible rfl))
  try simp only [Act.put, List.setIfInBounds_toArray, List.set_cons_zero, List.set_cons_succ]
  refine wpAnyH_take (i := 16) (v := ?_) (by simp only [List.getElem?_toArray, List.getElem?_cons_succ, List.getElem?_cons_zero]; exact rfl) (by kernel_rfl) (by kernel_rfl) (by kernel_rfl) (by intro _ _ _ h; exact h) (Or.inl ⟨by rfl, fun W hSw => ?_⟩) hHeld ?_
  rotate_left
  focus ((try dsimp only at hSw); first | (go_simp; done) | (go_simp; with_reducible rfl))
  try simp only [Act.put, List.setIfInBounds_toArray, List.set_cons_zero, List.set_cons_succ]
  refine wpAnyH_take (i := 17) (v := ?_) (by simp only [List.getElem?_toArray, List.getElem?_cons_succ, List.getElem?_cons_zero]; exact rfl) (by kernel_rfl) (by kernel_rfl) (by kernel_rfl) (by intro _ _ _ h; exact h) (Or.inl ⟨by rfl, fun W hSw => ?_⟩) hHeld ?_
  rotate_left
  focus ((try dsimp only at hSw); first | (go_simp; done) | (go_simp; with_reducible rfl))
  try simp only [Act.put, List.setIfInBounds_toArray, List.set_cons_zero, List.set_cons_succ]
  refine wpAnyH_ready (rs := [20]) (by kernel_rfl) (by simp) (AllReadyH.cons (by simp only [List.getElem?_toArray, List.getElem?_cons_succ, List.getElem?_cons_zero]; exact rfl) (fun K hK => ?_) AllReadyH.nil)
  rw [if_pos (by rfl)]
  go_simp
  (with_reducible refine (KY.out _).mono ?_); rintro e w7 ⟨rfl, hb7⟩; have hC7 := hb7; go_wp2_with fail
  refine hK.out _ _ (KC2.out _ hC7) (fun hHeld => ?_)
  clear hK K
  try simp only [Act.put, List.setIfInBounds_toArray, List.set_cons_zero, List.set_cons_succ]
  refine wpAnyH_take (i := 21) (v := ?_) (by simp only [List.getElem?_toArray, List.getElem?_cons_succ, List.getElem?_cons_zero]; exact rfl) (by kernel_rfl) (by kernel_rfl) (by kernel_rfl) (by intro _ _ _ h; exact h) (Or.inl ⟨by rfl, fun W hSw => ?_⟩) hHeld ?_
  rotate_left
  focus ((try dsimp only at hSw); first | (go_simp; done) | (go_simp; with_reducible rfl))
  try simp only [Act.put, List.setIfInBounds_toArray, List.set_cons_zero, List.set_cons_succ]
  refine wpAnyH_take (i := 22) (v := ?_) (by simp only [List.getElem?_toArray, List.getElem?_cons_succ, List.getElem?_cons_zero]; exact rfl) (by kernel_rfl) (by kernel_rfl) (by kernel_rfl) (by intro _ _ _ h; exact h) (Or.inl ⟨by rfl, fun W hSw => ?_⟩) hHeld ?_
  rotate_left
  focus ((try dsimp only at hSw); first | (go_simp; done) | (go_simp; with_reducible rfl))
  try simp only [Act.put, List.setIfInBounds_toArray, List.set_cons_zero, List.set_cons_succ]
  refine wpAnyH_ready (rs := [24]) (by kernel_rfl) (by simp) (AllReadyH.cons (by simp only [List.getElem?_toArray, List.getElem?_cons_succ, List.getElem?_cons_zero]; exact rfl) (fun K hK => ?_) AllReadyH.nil)
  rw [if_pos (by rfl)]
  go_simp
  (with_reducible refine (KK.out _).mono ?_); rintro e w8 ⟨rfl, hb8⟩; have hC8 := bt hC7 hb8; go_wp2_with fail
  refine hK.out _ _ (KC2.out _ hC8) (fun hHeld => ?_)
  clear hK K
  try simp only [Act.put, List.setIfInBounds_toArray, List.set_cons_zero, List.set_cons_succ]
  refine wpAnyH_take (i := 25) (v := ?_) (by simp only [List.getElem?_toArray, List.getElem?_cons_succ, List.getElem?_cons_zero]; exact rfl) (by kernel_rfl) (by kernel_rfl) (by kernel_rfl) (by intro _ _ _ h; exact h) (Or.inl ⟨by rfl, fun W hSw => ?_⟩) hHeld ?_
  rotate_left
  focus ((try dsimp only at hSw); first | (go_simp; done) | (go_simp; with_reducible rfl))
  try simp only [Act.put, List.setIfInBounds_toArray, List.set_cons_zero, List.set_cons_succ]
  refine wpAnyH_take (i := 26) (v := ?_) (by simp only [List.getElem?_toArray, List.getElem?_cons_succ, List.getElem?_cons_zero]; exact rfl) (by kernel_rfl) (by kernel_rfl) (by kernel_rfl) (by intro _ _ _ h; exact h) (Or.inl ⟨by rfl, fun W hSw => ?_⟩) hHeld ?_
  rotate_left
  focus ((try dsimp only at hSw); first | (go_simp; done) | (go_simp; with_reducible rfl))
  try simp only [Act.put, List.setIfInBounds_toArray, List.set_cons_zero, List.set_cons_succ]
  refine wpAnyH_take (i := 27) (v := ?_) (by simp only [List.getElem?_toArray, List.getElem?_cons_succ, List.getElem?_cons_zero]; exact rfl) (by kernel_rfl) (by kernel_rfl) (by kernel_rfl) (by intro _ _ _ h; exact h) (Or.inl ⟨by rfl, fun W hSw => ?_⟩) hHeld ?_
  rotate_left
  focus ((try dsimp only at hSw); first | (go_simp; done) | (go_simp; with_reducible rfl))
  try simp only [Act.put, List.setIfInBounds_toArray, List.set_cons_zero, List.set_cons_succ]
  refine wpAnyH_done (by kernel_rfl) ?_ _
  clear hHeld
  go_wp2
  go_ret
  exact ⟨by rw [← HF.out]; rfl, bt b1 (bt hB6 hC8)⟩
set_option maxHeartbeats 16000000 in
theorem iold_any (Y Mo D h mi s : Int) (hd : rmay ⟨Y, Mo, D, h, mi, s⟩ = true) (w : World) :
    Calls Tryz.prog 42 #[.agg #[.int .i64 Y, .int .i64 Mo, .int .i64 D, .int .i64 h, .int .i64 mi, .int .i64 s]] w fun e w' => e = .returned (.string ⟨(rold ⟨Y, Mo, D, h, mi, s⟩).toArray⟩) ∧ Below w.heap.size w w' := by
  obtain ⟨a1, a2, a3, a4, a5, a6, a7, a8, a9, a10, a11, a12⟩ := rmay_is hd
  simp only at a1 a2 a3 a4 a5 a6 a7 a8 a9 a10 a11 a12
  have hdl := dlong_hi Y Mo
  obtain ⟨W1, hW1⟩ : ∃ W1, w.alloc (.cells #[.int .i64 Y, .int .i64 Mo, .int .i64 D, .int .i64 h, .int .i64 mi, .int .i64 s] 65) = W1 := ⟨_, rfl⟩
  have b1 : Below w.heap.size w W1 := by rw [← hW1]; exact (Below.refl w.heap.size w).alloc (Nat.le_refl _) _
  have x1 : W1.heap[w.heap.size]? = some (.cells #[.int .i64 Y, .int .i64 Mo, .int .i64 D, .int .i64 h, .int .i64 mi, .int .i64 s] 65 (0, 0)) := by rw [← hW1]; exact heap_new w _ _ rfl
  have c0 := (of_heap x1 0).1; have c1 := (of_heap x1 1).1; have c2 := (of_heap x1 2).1; have c3 := (of_heap x1 3).1; have c4 := (of_heap x1 4).1; have c5 := (of_heap x1 5).1; have hEl := (of_heap x1 0).2.2
  simp only [List.getElem?_toArray, List.getElem?_cons_succ, List.getElem?_cons_zero] at c0 c1 c2 c3 c4 c5
  have kc : ∀ w', Below W1.heap.size W1 w' → w'.cell? ⟨w.heap.size, 0, none⟩ = some (.int .i64 Y) ∧ w'.cell? ⟨w.heap.size, 1, none⟩ = some (.int .i64 Mo) ∧ w'.cell? ⟨w.heap.size, 2, none⟩ = some (.int .i64 D) ∧ w'.cell? ⟨w.heap.size, 3, none⟩ = some (.int .i64 h) ∧ w'.cell? ⟨w.heap.size, 4, none⟩ = some (.int .i64 mi) ∧ w'.cell? ⟨w.heap.size, 5, none⟩ = some (.int .i64 s) ∧ Below W1.heap.size W1 w' := fun w' h => ⟨(h.cell (p := ⟨w.heap.size, 0, none⟩) hEl).trans c0, (h.cell (p := ⟨w.heap.size, 1, none⟩) hEl).trans c1, (h.cell (p := ⟨w.heap.size, 2, none⟩) hEl).trans c2, (h.cell (p := ⟨w.heap.size, 3, none⟩) hEl).trans c3, (h.cell (p := ⟨w.heap.size, 4, none⟩) hEl).trans c4, (h.cell (p := ⟨w.heap.size, 5, none⟩) hEl).trans c5, h⟩
  obtain ⟨N, hN, hNb⟩ := rcount_in _ hd
  have kn := fun W => icount_any Y Mo D h mi s ⟨a1, a2⟩ ⟨a3, a4⟩ ⟨a5, by omega⟩ W
  rw [hN] at kn
  have ks := fun W => ilong_any W
  have kw := fun A c W hr => iweekL_any A c N hNb W hr
  have kd := fun W => idig2_any D (by omega) (by omega) W
  have km := fun W => imons_any W
  have ky := fun W => idig2_any Y (by omega) (by omega) W
  have kk := fun W => iclock_any Y Mo D h mi s ⟨a7, by omega, a9, by omega, a11, by omega⟩ W
  obtain ⟨j, hj', hjm, hje⟩ := rmon_is Mo a3 a4
  have hj : j < rmons.length := hj'
  have hmo : rmons[j] = rmon Mo := by rw [hjm, List.getD_eq_getElem?_getD, List.getElem?_eq_getElem hj]; rfl
  have hml : (rmon Mo).length = 3 := by rw [hjm]; exact mon_len j hj'
  have hwl : (rwd rlong N).length ≤ 9 := by
    have hall : ∀ x ∈ rlong, x.length ≤ 9 := by decide
    unfold rwd
    have hi : (((N : Int) + 3) % 7).toNat < rlong.length := by show _ < 7; omega
    rw [List.getD_eq_getElem?_getD, List.getElem?_eq_getElem hi]
    exact hall _ (List.getElem_mem hi)
  have hcl : (rclock ⟨Y, Mo, D, h, mi, s⟩).length = 8 := by unfold rclock; simp [rdig_len]
  have hw1 : IntKind.i64.wrap (Mo - 1) = (j : Int) := by rw [IntKind.wrap_i64]; omega
  have hfin : ((((((((((⟨(rwd rlong N).toArray⟩ : ByteArray) ++ ⟨#[44, 32]⟩) ++ ⟨(rdig 2 D).toArray⟩) ++ ⟨#[45]⟩) ++ ⟨(rmon Mo).toArray⟩) ++ ⟨#[45]⟩) ++ ⟨(rdig 2 Y).toArray⟩) ++ ⟨#[32]⟩) ++ ⟨(rclock ⟨Y, Mo, D, h, mi, s⟩).toArray⟩) ++ ⟨#[32, 71, 77, 84]⟩) = ⟨(rold ⟨Y, Mo, D, h, mi, s⟩).toArray⟩ := by
    apply str_eq
    simp only [app_list]
    unfold rold
    rw [hN]
    simp
  have z1 : (⟨(rwd rlong N).toArray⟩ : ByteArray).size ≤ 9 := by rw [Lib.size_eq]; exact hwl
  have z2 : (⟨(rdig 2 D).toArray⟩ : ByteArray).size ≤ 2 := by rw [Lib.size_eq]; exact Nat.le_of_eq (rdig_len 2 D)
  have z3 : (⟨(rmon Mo).toArray⟩ : ByteArray).size ≤ 3 := by rw [Lib.size_eq]; exact Nat.le_of_eq hml
  have z4 : (⟨(rdig 2 Y).toArray⟩ : ByteArray).size ≤ 4 := by rw [Lib.size_eq]; show (rdig 2 Y).length ≤ 4; rw [rdig_len]; omega
  have z5 : (⟨(rclock ⟨Y, Mo, D, h, mi, s⟩).toArray⟩ : ByteArray).size ≤ 8 := by rw [Lib.size_eq]; exact Nat.le_of_eq hcl
  have hmo2 : (⟨rmons[j].toArray⟩ : ByteArray) = ⟨(rmon Mo).toArray⟩ := by rw [hmo]
  have hrl : rmons.length = 12 := rfl
  have hjb : j < 12 := hj'
  generalize (⟨(rwd rlong N).toArray⟩ : ByteArray) = q1 at *
  generalize (⟨(rdig 2 D).toArray⟩ : ByteArray) = q2 at *
  generalize (⟨(rmon Mo).toArray⟩ : ByteArray) = mo at *
  generalize (⟨(rdig 2 Y).toArray⟩ : ByteArray) = q4 at *
  generalize (⟨(rclock ⟨Y, Mo, D, h, mi, s⟩).toArray⟩ : ByteArray) = q5 at *
  generalize (⟨(rold ⟨Y, Mo, D, h, mi, s⟩).toArray⟩ : ByteArray) = R at *
  have f1 : ¬ (9223372036854775807 < q1.size + 2) := by omega
  have f2 : ¬ (9223372036854775807 < q1.size + 2 + q2.size) := by omega
  have f3 : ¬ (9223372036854775807 < q1.size + 2 + q2.size + 1) := by omega
  have f4 : ¬ (9223372036854775807 < q1.size + 2 + q2.size + 1 + mo.size) := by omega
  have f5 : ¬ (9223372036854775807 < q1.size + 2 + q2.size + 1 + mo.size + 1) := by omega
  have f6 : ¬ (9223372036854775807 < q1.size + 2 + q2.size + 1 + mo.size + 1 + q4.size) := by omega
  have f7 : ¬ (9223372036854775807 < q1.size + 2 + q2.size + 1 + mo.size + 1 + q4.size + 1) := by omega
  have f8 : ¬ (9223372036854775807 < q1.size + 2 + q2.size + 1 + mo.size + 1 + q4.size + 1 + q5.size) := by omega
  have f9 : ¬ (9223372036854775807 < q1.size + 2 + q2.size + 1 + mo.size + 1 + q4.size + 1 + q5.size + 4) := by omega
  have i1 : (0 : Int) ≤ (j : Int) := by omega
  have i2 : (j : Int) < 12 := by omega
  have i4 : ((j : Int)).toNat = j := by simp
  have i5 : decide ((j : Int) < 0) = false := by simp
  have KN := Lib.hid kn; have KS := Lib.hid ks; have KW := Lib.hid kw; have KD := Lib.hid kd; have KM := Lib.hid km; have KY := Lib.hid ky; have KK := Lib.hid kk; have KC := Lib.hid kc; have HW1 := Lib.hid hW1; have HF := Lib.hid hfin; have HMO := Lib.hid hmo2
  have hB1 : Below W1.heap.size W1 W1.drew := (Below.refl _ _).drew
  clear kn ks kw kd km ky kk kc hW1 x1 hfin hmo2 hmo hml hwl hcl hN hd hjm hje hj' c0 c1 c2 c3 c4 c5 hEl hrl
  go_enter Tryz.func42, Tryz.ntmps42
  go_upto_region 1 with (fail)
  rw [HW1.out]
  go_wp2_with fail
  refine wp_region_held_drew (S := (fun w' => w'.cell? ⟨w.heap.size, 0, none⟩ = some (.int .i64 Y) ∧ w'.cell? ⟨w.heap.size, 1, none⟩ = some (.int .i64 Mo) ∧ w'.cell? ⟨w.heap.size, 2, none⟩ = some (.int .i64 D) ∧ w'.cell? ⟨w.heap.size, 3, none⟩ = some (.int .i64 h) ∧ w'.cell? ⟨w.heap.size, 4, none⟩ = some (.int .i64 mi) ∧ w'.cell? ⟨w.heap.size, 5, none⟩ = some (.int .i64 s) ∧ Below W1.heap.size W1 w')) (by kernel_rfl) (KC.out _ hB1) (fun hHeld => ?_)
  refine wpAnyH_take (i := 0) (v := ?_) (by simp only [List.getElem?_toArray, List.getElem?_cons_zero]; exact rfl) (by kernel_rfl) (by kernel_rfl) (by kernel_rfl) (by intro _ _ _ h; exact h) (Or.inl ⟨by rfl, fun W hSw => ?_⟩) hHeld ?_
  rotate_left
  focus ((try dsimp only at hSw); first | (go_simp; done) | (go_simp; with_reducible rfl))
  try simp only [Act.put, List.setIfInBounds_toArray, List.set_cons_zero, List.set_cons_succ]
  refine wpAnyH_take (i := 5) (v := ?_) (by simp only [List.getElem?_toArray, List.getElem?_cons_succ, List.getElem?_cons_zero]; exact rfl) (by kernel_rfl) (by kernel_rfl) (by kernel_rfl) (by intro _ _ _ h; exact h) (Or.inl ⟨by rfl, fun W hSw => ?_⟩) hHeld ?_
  rotate_left
  focus ((try dsimp only at hSw); first | (go_simp; done) | (go_simp; with_reducible rfl))
  try simp only [Act.put, List.setIfInBounds_toArray, List.set_cons_zero, List.set_cons_succ]
  refine wpAnyH_take (i := 6) (v := ?_) (by simp only [List.getElem?_toArray, List.getElem?_cons_succ, List.getElem?_cons_zero]; exact rfl) (by kernel_rfl) (by kernel_rfl) (by kernel_rfl) (by intro _ _ _ h; exact h) (Or.inl ⟨by rfl, fun W hSw => ?_⟩) hHeld ?_
  rotate_left
  focus ((try dsimp only at hSw); first | (go_simp; done) | (go_simp; with_reducible rfl))
  try simp only [Act.put, List.setIfInBounds_toArray, List.set_cons_zero, List.set_cons_succ]
  refine wpAnyH_take (i := 11) (v := ?_) (by simp only [List.getElem?_toArray, List.getElem?_cons_succ, List.getElem?_cons_zero]; exact rfl) (by kernel_rfl) (by kernel_rfl) (by kernel_rfl) (by intro _ _ _ h; exact h) (Or.inl ⟨by rfl, fun W hSw => ?_⟩) hHeld ?_
  rotate_left
  focus ((try dsimp only at hSw); first | (go_simp; done) | (go_simp; with_reducible rfl))
  try simp only [Act.put, List.setIfInBounds_toArray, List.set_cons_zero, List.set_cons_succ]
  refine wpAnyH_take (i := 12) (v := ?_) (by simp only [List.getElem?_toArray, List.getElem?_cons_succ, List.getElem?_cons_zero]; exact rfl) (by kernel_rfl) (by kernel_rfl) (by kernel_rfl) (by intro _ _ _ h; exact h) (Or.inl ⟨by rfl, fun W hSw => ?_⟩) hHeld ?_
  rotate_left
  focus ((try dsimp only at hSw); first | (go_simp; done) | (go_simp; with_reducible rfl))
  try simp only [Act.put, List.setIfInBounds_toArray, List.set_cons_zero, List.set_cons_succ]
  refine wpAnyH_take (i := 13) (v := ?_) (by simp only [List.getElem?_toArray, List.getElem?_cons_succ, List.getElem?_cons_zero]; exact rfl) (by kernel_rfl) (by kernel_rfl) (by kernel_rfl) (by intro _ _ _ h; exact h) (Or.inl ⟨by rfl, fun W hSw => ?_⟩) hHeld ?_
  rotate_left
  focus ((try dsimp only at hSw); first | (go_simp; done) | (go_simp; with_reducible rfl))
  try simp only [Act.put, List.setIfInBounds_toArray, List.set_cons_zero, List.set_cons_succ]
  refine wpAnyH_take (i := 18) (v := ?_) (by simp only [List.getElem?_toArray, List.getElem?_cons_succ, List.getElem?_cons_zero]; exact rfl) (by kernel_rfl) (by kernel_rfl) (by kernel_rfl) (by intro _ _ _ h; exact h) (Or.inl ⟨by rfl, fun W hSw => ?_⟩) hHeld ?_
  rotate_left
  focus ((try dsimp only at hSw); first | (go_simp; done) | (go_simp; with_reducible rfl))
  try simp only [Act.put, List.setIfInBounds_toArray, List.set_cons_zero, List.set_cons_succ]
  refine wpAnyH_take (i := 19) (v := ?_) (by simp only [List.getElem?_toArray, List.getElem?_cons_succ, List.getElem?_cons_zero]; exact rfl) (by kernel_rfl) (by kernel_rfl) (by kernel_rfl) (by intro _ _ _ h; exact h) (Or.inl ⟨by rfl, fun W hSw => ?_⟩) hHeld ?_
  rotate_left
  focus ((try dsimp only at hSw); first | (go_simp; done) | (go_simp; with_reducible rfl))
  try simp only [Act.put, List.setIfInBounds_toArray, List.set_cons_zero, List.set_cons_succ]
  refine wpAnyH_take (i := 23) (v := ?_) (by simp only [List.getElem?_toArray, List.getElem?_cons_succ, List.getElem?_cons_zero]; exact rfl) (by kernel_rfl) (by kernel_rfl) (by kernel_rfl) (by intro _ _ _ h; exact h) (Or.inl ⟨by rfl, fun W hSw => ?_⟩) hHeld ?_
  rotate_left
  focus ((try dsimp only at hSw); first | (go_simp; done) | (go_simp; with_reducible rfl))
  try simp only [Act.put, List.setIfInBounds_toArray, List.set_cons_zero, List.set_cons_succ]
  refine wpAnyH_ready (rs := [1]) (by kernel_rfl) (by simp) (AllReadyH.cons (by simp only [List.getElem?_toArray, List.getElem?_cons_succ, List.getElem?_cons_zero]; exact rfl) (fun K hK => ?_) AllReadyH.nil)
  rw [if_pos (by rfl)]
  go_simp
  (with_reducible refine (KN.out _).mono ?_); rintro e w2 ⟨rfl, hb2⟩; have hB2 := bt hB1 hb2; go_wp2_with fail
  refine hK.out _ _ (KC.out _ hB2) (fun hHeld => ?_)
  clear hK K
  try simp only [Act.put, List.setIfInBounds_toArray, List.set_cons_zero, List.set_cons_succ]
  refine wpAnyH_ready (rs := [2]) (by kernel_rfl) (by simp) (AllReadyH.cons (by simp only [List.getElem?_toArray, List.getElem?_cons_succ, List.getElem?_cons_zero]; exact rfl) (fun K hK => ?_) AllReadyH.nil)
  rw [if_pos (by rfl)]
  go_simp
  (with_reducible refine (KS.out _).mono ?_); rintro e w3 ⟨rfl, hrd3, hb3⟩; have hB3 := bt hB2 hb3; go_wp2_with fail
  refine hK.out _ _ (KC.out _ hB3) (fun hHeld => ?_)
  clear hK K
  try simp only [Act.put, List.setIfInBounds_toArray, List.set_cons_zero, List.set_cons_succ]
  refine wpAnyH_ready (rs := [3]) (by kernel_rfl) (by simp) (AllReadyH.cons (by simp only [List.getElem?_toArray, List.getElem?_cons_succ, List.getElem?_cons_zero]; exact rfl) (fun K hK => ?_) AllReadyH.nil)
  rw [if_pos (by rfl)]
  go_simp
  (with_reducible refine (KW.out _ _ _ hrd3).mono ?_); rintro e w4 ⟨rfl, rfl⟩; go_wp2_with fail
  refine hK.out _ _ (KC.out _ hB3) (fun hHeld => ?_)
  clear hK K
  try simp only [Act.put, List.setIfInBounds_toArray, List.set_cons_zero, List.set_cons_succ]
  refine wpAnyH_take (i := 4) (v := ?_) (by simp only [List.getElem?_toArray, List.getElem?_cons_succ, List.getElem?_cons_zero]; exact rfl) (by kernel_rfl) (by kernel_rfl) (by kernel_rfl) (by intro _ _ _ h; exact h) (Or.inl ⟨by rfl, fun W hSw => ?_⟩) hHeld ?_
  rotate_left
  focus ((try dsimp only at hSw); first | (go_simp; done) | (go_simp; with_reducible rfl))
  try simp only [Act.put, List.setIfInBounds_toArray, List.set_cons_zero, List.set_cons_succ]
  refine wpAnyH_ready (rs := [7]) (by kernel_rfl) (by simp) (AllReadyH.cons (by simp only [List.getElem?_toArray, List.getElem?_cons_succ, List.getElem?_cons_zero]; exact rfl) (fun K hK => ?_) AllReadyH.nil)
  rw [if_pos (by rfl)]
  go_simp
  (with_reducible refine (KD.out _).mono ?_); rintro e w5 ⟨rfl, hb5⟩; have hB5 := bt hB3 hb5; go_wp2_with fail
  refine hK.out _ _ (KC.out _ hB5) (fun hHeld => ?_)
  clear hK K
  try simp only [Act.put, List.setIfInBounds_toArray, List.set_cons_zero, List.set_cons_succ]
  refine wpAnyH_take (i := 8) (v := ?_) (by simp only [List.getElem?_toArray, List.getElem?_cons_succ, List.getElem?_cons_zero]; exact rfl) (by kernel_rfl) (by kernel_rfl) (by kernel_rfl) (by intro _ _ _ h; exact h) (Or.inl ⟨by rfl, fun W hSw => ?_⟩) hHeld ?_
  rotate_left
  focus ((try dsimp only at hSw); first | (go_simp; done) | (go_simp; with_reducible rfl))
  try simp only [Act.put, List.setIfInBounds_toArray, List.set_cons_zero, List.set_cons_succ]
  refine wpAnyH_take (i := 9) (v := ?_) (by simp only [List.getElem?_toArray, List.getElem?_cons_succ, List.getElem?_cons_zero]; exact rfl) (by kernel_rfl) (by kernel_rfl) (by kernel_rfl) (by intro _ _ _ h; exact h) (Or.inl ⟨by rfl, fun W hSw => ?_⟩) hHeld ?_
  rotate_left
  focus ((try dsimp only at hSw); first | (go_simp; done) | (go_simp; with_reducible rfl))
  try simp only [Act.put, List.setIfInBounds_toArray, List.set_cons_zero, List.set_cons_succ]
  refine wpAnyH_ready (rs := [10]) (by kernel_rfl) (by simp) (AllReadyH.cons (by simp only [List.getElem?_toArray, List.getElem?_cons_succ, List.getElem?_cons_zero]; exact rfl) (fun K hK => ?_) AllReadyH.nil)
  rw [if_pos (by rfl)]
  go_simp
  (with_reducible refine (KM.out _).mono ?_); rintro e w6 ⟨rfl, hrd6, hb6⟩; have hB6 := bt hB5 hb6; go_wp2_with fail
  refine hK.out _ _ (KC.out _ hB6) (fun hHeld => ?_)
  clear hK K
  try simp only [Act.put, List.setIfInBounds_toArray, List.set_cons_zero, List.set_cons_succ]
  obtain ⟨gm, om, em, hlm, hcm⟩ := hrd6.str_at (k := j) hj
  cases em
  rw [Nat.zero_add, HMO.out] at hcm
  have kc2 : ∀ w', Below w6.heap.size w6 w' → w'.cell? ⟨w.heap.size, 0, none⟩ = some (.int .i64 Y) ∧ w'.cell? ⟨w.heap.size, 1, none⟩ = some (.int .i64 Mo) ∧ w'.cell? ⟨w.heap.size, 2, none⟩ = some (.int .i64 D) ∧ w'.cell? ⟨w.heap.size, 3, none⟩ = some (.int .i64 h) ∧ w'.cell? ⟨w.heap.size, 4, none⟩ = some (.int .i64 mi) ∧ w'.cell? ⟨w.heap.size, 5, none⟩ = some (.int .i64 s) ∧ w'.cell? ⟨w5.heap.size, j, none⟩ = some (.string mo) ∧ Below W1.heap.size W1 w' ∧ Below w6.heap.size w6 w' := fun w' hq => by obtain ⟨g0, g1, g2, g3, g4, g5, _⟩ := KC.out _ (bt hB6 hq); exact ⟨g0, g1, g2, g3, g4, g5, (hq.cell (p := ⟨w5.heap.size, j, none⟩) hlm).trans hcm, bt hB6 hq, hq⟩
  have KC2 := Lib.hid kc2; clear kc2 hcm hrd6
  refine wpAnyH_strong (S' := (fun w' => w'.cell? ⟨w.heap.size, 0, none⟩ = some (.int .i64 Y) ∧ w'.cell? ⟨w.heap.size, 1, none⟩ = some (.int .i64 Mo) ∧ w'.cell? ⟨w.heap.size, 2, none⟩ = some (.int .i64 D) ∧ w'.cell? ⟨w.heap.size, 3, none⟩ = some (.int .i64 h) ∧ w'.cell? ⟨w.heap.size, 4, none⟩ = some (.int .i64 mi) ∧ w'.cell? ⟨w.heap.size, 5, none⟩ = some (.int .i64 s) ∧ w'.cell? ⟨w5.heap.size, j, none⟩ = some (.string mo) ∧ Below W1.heap.size W1 w' ∧ Below w6.heap.size w6 w')) (fun _ hq => ⟨hq.1, hq.2.1, hq.2.2.1, hq.2.2.2.1, hq.2.2.2.2.1, hq.2.2.2.2.2.1, hq.2.2.2.2.2.2.2.1⟩) ?_
  replace hHeld := KC2.out _ (Below.refl _ w6)
  refine wpAnyH_take (i := 14) (v := ?_) (by simp only [List.getElem?_toArray, List.getElem?_cons_succ, List.getElem?_cons_zero]; exact rfl) (by kernel_rfl) (by kernel_rfl) (by kernel_rfl) (by intro _ _ _ h; exact h) (Or.inl ⟨by rfl, fun W hSw => ?_⟩) hHeld ?_
  rotate_left
  focus ((try dsimp only at hSw); first | (go_simp; done) | (go_simp; with_reducible rfl))
  try simp only [Act.put, List.setIfInBounds_toArray, List.set_cons_zero, List.set_cons_succ]
  refine wpAnyH_take (i := 15) (v := ?_) (by simp only [List.getElem?_toArray, List.getElem?_cons_succ, List.getElem?_cons_zero]; exact rfl) (by kernel_rfl) (by kernel_rfl) (by kernel_rfl) (by intro _ _ _ h; exact h) (Or.inl ⟨by rfl, fun W hSw => ?_⟩) hHeld ?_
  rotate_left
  focus ((try dsimp only at hSw); first | (go_simp; done) | (go_simp; with_reducible rfl))
  try simp only [Act.put, List.setIfInBounds_toArray, List.set_cons_zero, List.set_cons_succ]
  refine wpAnyH_take (i := 16) (v := ?_) (by simp only [List.getElem?_toArray, List.getElem?_cons_succ, List.getElem?_cons_zero]; exact rfl) (by kernel_rfl) (by kernel_rfl) (by kernel_rfl) (by intro _ _ _ h; exact h) (Or.inl ⟨by rfl, fun W hSw => ?_⟩) hHeld ?_
  rotate_left
  focus ((try dsimp only at hSw); first | (go_simp; done) | (go_simp; with_reducible rfl))
  try simp only [Act.put, List.setIfInBounds_toArray, List.set_cons_zero, List.set_cons_succ]
  refine wpAnyH_take (i := 17) (v := ?_) (by simp only [List.getElem?_toArray, List.getElem?_cons_succ, List.getElem?_cons_zero]; exact rfl) (by kernel_rfl) (by kernel_rfl) (by kernel_rfl) (by intro _ _ _ h; exact h) (Or.inl ⟨by rfl, fun W hSw => ?_⟩) hHeld ?_
  rotate_left
  focus ((try dsimp only at hSw); first | (go_simp; done) | (go_simp; with_reducible rfl))
  try simp only [Act.put, List.setIfInBounds_toArray, List.set_cons_zero, List.set_cons_succ]
  refine wpAnyH_ready (rs := [20]) (by kernel_rfl) (by simp) (AllReadyH.cons (by simp only [List.getElem?_toArray, List.getElem?_cons_succ, List.getElem?_cons_zero]; exact rfl) (fun K hK => ?_) AllReadyH.nil)
  rw [if_pos (by rfl)]
  go_simp
  (with_reducible refine (KY.out _).mono ?_); rintro e w7 ⟨rfl, hb7⟩; have hC7 := hb7; go_wp2_with fail
  refine hK.out _ _ (KC2.out _ hC7) (fun hHeld => ?_)
  clear hK K
  try simp only [Act.put, List.setIfInBounds_toArray, List.set_cons_zero, List.set_cons_succ]
  refine wpAnyH_take (i := 21) (v := ?_) (by simp only [List.getElem?_toArray, List.getElem?_cons_succ, List.getElem?_cons_zero]; exact rfl) (by kernel_rfl) (by kernel_rfl) (by kernel_rfl) (by intro _ _ _ h; exact h) (Or.inl ⟨by rfl, fun W hSw => ?_⟩) hHeld ?_
  rotate_left
  focus ((try dsimp only at hSw); first | (go_simp; done) | (go_simp; with_reducible rfl))
  try simp only [Act.put, List.setIfInBounds_toArray, List.set_cons_zero, List.set_cons_succ]
  refine wpAnyH_take (i := 22) (v := ?_) (by simp only [List.getElem?_toArray, List.getElem?_cons_succ, List.getElem?_cons_zero]; exact rfl) (by kernel_rfl) (by kernel_rfl) (by kernel_rfl) (by intro _ _ _ h; exact h) (Or.inl ⟨by rfl, fun W hSw => ?_⟩) hHeld ?_
  rotate_left
  focus ((try dsimp only at hSw); first | (go_simp; done) | (go_simp; with_reducible rfl))
  try simp only [Act.put, List.setIfInBounds_toArray, List.set_cons_zero, List.set_cons_succ]
  refine wpAnyH_ready (rs := [24]) (by kernel_rfl) (by simp) (AllReadyH.cons (by simp only [List.getElem?_toArray, List.getElem?_cons_succ, List.getElem?_cons_zero]; exact rfl) (fun K hK => ?_) AllReadyH.nil)
  rw [if_pos (by rfl)]
  go_simp
  (with_reducible refine (KK.out _).mono ?_); rintro e w8 ⟨rfl, hb8⟩; have hC8 := bt hC7 hb8; go_wp2_with fail
  refine hK.out _ _ (KC2.out _ hC8) (fun hHeld => ?_)
  clear hK K
  try simp only [Act.put, List.setIfInBounds_toArray, List.set_cons_zero, List.set_cons_succ]
  refine wpAnyH_take (i := 25) (v := ?_) (by simp only [List.getElem?_toArray, List.getElem?_cons_succ, List.getElem?_cons_zero]; exact rfl) (by kernel_rfl) (by kernel_rfl) (by kernel_rfl) (by intro _ _ _ h; exact h) (Or.inl ⟨by rfl, fun W hSw => ?_⟩) hHeld ?_
  rotate_left
  focus ((try dsimp only at hSw); first | (go_simp; done) | (go_simp; with_reducible rfl))
  try simp only [Act.put, List.setIfInBounds_toArray, List.set_cons_zero, List.set_cons_succ]
  refine wpAnyH_take (i := 26) (v := ?_) (by simp only [List.getElem?_toArray, List.getElem?_cons_succ, List.getElem?_cons_zero]; exact rfl) (by kernel_rfl) (by kernel_rfl) (by kernel_rfl) (by intro _ _ _ h; exact h) (Or.inl ⟨by rfl, fun W hSw => ?_⟩) hHeld ?_
  rotate_left
  focus ((try dsimp only at hSw); first | (go_simp; done) | (go_simp; with_reducible rfl))
  try simp only [Act.put, List.setIfInBounds_toArray, List.set_cons_zero, List.set_cons_succ]
  refine wpAnyH_take (i := 27) (v := ?_) (by simp only [List.getElem?_toArray, List.getElem?_cons_succ, List.getElem?_cons_zero]; exact rfl) (by kernel_rfl) (by kernel_rfl) (by kernel_rfl) (by intro _ _ _ h; exact h) (Or.inl ⟨by rfl, fun W hSw => ?_⟩) hHeld ?_
  rotate_left
  focus ((try dsimp only at hSw); first | (go_simp; done) | (go_simp; with_reducible rfl))
  try simp only [Act.put, List.setIfInBounds_toArray, List.set_cons_zero, List.set_cons_succ]
  refine wpAnyH_done (by kernel_rfl) ?_ _
  clear hHeld
  go_wp2
  go_ret
  exact ⟨by rw [← HF.out]; rfl, bt b1 (bt hB6 hC8)⟩
end Go.Proofs.YtedmiganmifepaaGreatDoor
/- The document's dates: the walk of Plain (printed by wip/tools/rwalk9.py). -/
namespace Go.Proofs.YtedmiganmifepaaGreatDoor
open Go.RowKit
set_option maxRecDepth 100000

set_option maxHeartbeats 16000000 in
theorem iplainF_any (Y Mo D h mi s : Int) (hd : rmay ⟨Y, Mo, D, h, mi, s⟩ = true) (w : World) :
    Calls Tryz.prog 43 #[.agg #[.int .i64 Y, .int .i64 Mo, .int .i64 D, .int .i64 h, .int .i64 mi, .int .i64 s], .bool false] w fun e w' => e = .returned (.string ⟨(rplain ⟨Y, Mo, D, h, mi, s⟩ false).toArray⟩) ∧ Below w.heap.size w w' := by
  obtain ⟨a1, a2, a3, a4, a5, a6, a7, a8, a9, a10, a11, a12⟩ := rmay_is hd
  simp only at a1 a2 a3 a4 a5 a6 a7 a8 a9 a10 a11 a12
  have hdl := dlong_hi Y Mo
  obtain ⟨W1, hW1⟩ : ∃ W1, w.alloc (.cells #[.int .i64 Y, .int .i64 Mo, .int .i64 D, .int .i64 h, .int .i64 mi, .int .i64 s] 65) = W1 := ⟨_, rfl⟩
  have b1 : Below w.heap.size w W1 := by rw [← hW1]; exact (Below.refl w.heap.size w).alloc (Nat.le_refl _) _
  have x1 : W1.heap[w.heap.size]? = some (.cells #[.int .i64 Y, .int .i64 Mo, .int .i64 D, .int .i64 h, .int .i64 mi, .int .i64 s] 65 (0, 0)) := by rw [← hW1]; exact heap_new w _ _ rfl
  have c0 := (of_heap x1 0).1; have c1 := (of_heap x1 1).1; have c2 := (of_heap x1 2).1; have c3 := (of_heap x1 3).1; have c4 := (of_heap x1 4).1; have c5 := (of_heap x1 5).1; have hEl := (of_heap x1 0).2.2
  simp only [List.getElem?_toArray, List.getElem?_cons_succ, List.getElem?_cons_zero] at c0 c1 c2 c3 c4 c5
  have kc : ∀ w', Below W1.heap.size W1 w' → w'.cell? ⟨w.heap.size, 0, none⟩ = some (.int .i64 Y) ∧ w'.cell? ⟨w.heap.size, 1, none⟩ = some (.int .i64 Mo) ∧ w'.cell? ⟨w.heap.size, 2, none⟩ = some (.int .i64 D) ∧ w'.cell? ⟨w.heap.size, 3, none⟩ = some (.int .i64 h) ∧ w'.cell? ⟨w.heap.size, 4, none⟩ = some (.int .i64 mi) ∧ w'.cell? ⟨w.heap.size, 5, none⟩ = some (.int .i64 s) ∧ Below W1.heap.size W1 w' := fun w' h => ⟨(h.cell (p := ⟨w.heap.size, 0, none⟩) hEl).trans c0, (h.cell (p := ⟨w.heap.size, 1, none⟩) hEl).trans c1, (h.cell (p := ⟨w.heap.size, 2, none⟩) hEl).trans c2, (h.cell (p := ⟨w.heap.size, 3, none⟩) hEl).trans c3, (h.cell (p := ⟨w.heap.size, 4, none⟩) hEl).trans c4, (h.cell (p := ⟨w.heap.size, 5, none⟩) hEl).trans c5, h⟩
  obtain ⟨N, hN, hNb⟩ := rcount_in _ hd
  have kn := fun W => icount_any Y Mo D h mi s ⟨a1, a2⟩ ⟨a3, a4⟩ ⟨a5, by omega⟩ W
  rw [hN] at kn
  have ks := fun W => ishort_any W
  have kw := fun A c W hr => iweekS_any A c N hNb W hr
  have kd := fun W => idig2_any D (by omega) (by omega) W
  have kd1 := fun W => idig1_any D (by omega) (by omega) W
  have km := fun W => imons_any W
  have ky := fun W => idig4_any Y (by omega) (by omega) W
  have kk := fun W => iclock_any Y Mo D h mi s ⟨a7, by omega, a9, by omega, a11, by omega⟩ W
  obtain ⟨j, hj', hjm, hje⟩ := rmon_is Mo a3 a4
  have hj : j < rmons.length := hj'
  have hmo : rmons[j] = rmon Mo := by rw [hjm, List.getD_eq_getElem?_getD, List.getElem?_eq_getElem hj]; rfl
  have hml : (rmon Mo).length = 3 := by rw [hjm]; exact mon_len j hj'
  have hwl : (rwd rshort N).length ≤ 3 := by
    have hall : ∀ x ∈ rshort, x.length ≤ 3 := by decide
    unfold rwd
    have hi : (((N : Int) + 3) % 7).toNat < rshort.length := by show _ < 7; omega
    rw [List.getD_eq_getElem?_getD, List.getElem?_eq_getElem hi]
    exact hall _ (List.getElem_mem hi)
  have hcl : (rclock ⟨Y, Mo, D, h, mi, s⟩).length = 8 := by unfold rclock; simp [rdig_len]
  have hw1 : IntKind.i64.wrap (Mo - 1) = (j : Int) := by rw [IntKind.wrap_i64]; omega
  have hfin : ((((((((((⟨(rwd rshort N).toArray⟩ : ByteArray) ++ ⟨#[32]⟩) ++ ⟨(rmon Mo).toArray⟩) ++ ⟨#[32]⟩) ++ ⟨(rdig 2 D).toArray⟩) ++ ⟨#[32]⟩) ++ ⟨(rclock ⟨Y, Mo, D, h, mi, s⟩).toArray⟩) ++ ⟨#[32]⟩) ++ ⟨(rdig 4 Y).toArray⟩)) = ⟨(rplain ⟨Y, Mo, D, h, mi, s⟩ false).toArray⟩ := by
    apply str_eq
    simp only [app_list]
    unfold rplain
    rw [hN]
    simp
  have z1 : (⟨(rwd rshort N).toArray⟩ : ByteArray).size ≤ 3 := by rw [Lib.size_eq]; exact hwl
  have z2 : (⟨(rdig 2 D).toArray⟩ : ByteArray).size ≤ 2 := by rw [Lib.size_eq]; exact Nat.le_of_eq (rdig_len 2 D)
  have z6 : (⟨(rdig 1 D).toArray⟩ : ByteArray).size ≤ 1 := by rw [Lib.size_eq]; exact Nat.le_of_eq (rdig_len 1 D)
  have z3 : (⟨(rmon Mo).toArray⟩ : ByteArray).size ≤ 3 := by rw [Lib.size_eq]; exact Nat.le_of_eq hml
  have z4 : (⟨(rdig 4 Y).toArray⟩ : ByteArray).size ≤ 4 := by rw [Lib.size_eq]; exact Nat.le_of_eq (rdig_len 4 Y)
  have z5 : (⟨(rclock ⟨Y, Mo, D, h, mi, s⟩).toArray⟩ : ByteArray).size ≤ 8 := by rw [Lib.size_eq]; exact Nat.le_of_eq hcl
  have hmo2 : (⟨rmons[j].toArray⟩ : ByteArray) = ⟨(rmon Mo).toArray⟩ := by rw [hmo]
  have hrl : rmons.length = 12 := rfl
  have hjb : j < 12 := hj'
  generalize (⟨(rwd rshort N).toArray⟩ : ByteArray) = q1 at *
  generalize (⟨(rdig 2 D).toArray⟩ : ByteArray) = q2 at *
  generalize (⟨(rdig 1 D).toArray⟩ : ByteArray) = q3 at *
  generalize (⟨(rmon Mo).toArray⟩ : ByteArray) = mo at *
  generalize (⟨(rdig 4 Y).toArray⟩ : ByteArray) = q4 at *
  generalize (⟨(rclock ⟨Y, Mo, D, h, mi, s⟩).toArray⟩ : ByteArray) = q5 at *
  generalize (⟨(rplain ⟨Y, Mo, D, h, mi, s⟩ false).toArray⟩ : ByteArray) = R at *
  have f1 : ¬ (9223372036854775807 < q1.size + 1) := by omega
  have f2 : ¬ (9223372036854775807 < q1.size + 1 + mo.size) := by omega
  have f3 : ¬ (9223372036854775807 < q1.size + 1 + mo.size + 1) := by omega
  have f4 : ¬ (9223372036854775807 < q1.size + 1 + mo.size + 1 + q2.size) := by omega
  have f5 : ¬ (9223372036854775807 < q1.size + 1 + mo.size + 1 + q2.size + 1) := by omega
  have f6 : ¬ (9223372036854775807 < q1.size + 1 + mo.size + 1 + q2.size + 1 + q5.size) := by omega
  have f7 : ¬ (9223372036854775807 < q1.size + 1 + mo.size + 1 + q2.size + 1 + q5.size + 1) := by omega
  have f8 : ¬ (9223372036854775807 < q1.size + 1 + mo.size + 1 + q2.size + 1 + q5.size + 1 + q4.size) := by omega
  have i1 : (0 : Int) ≤ (j : Int) := by omega
  have i2 : (j : Int) < 12 := by omega
  have i4 : ((j : Int)).toNat = j := by simp
  have i5 : decide ((j : Int) < 0) = false := by simp
  have KN := Lib.hid kn; have KS := Lib.hid ks; have KW := Lib.hid kw; have KD := Lib.hid kd; have KD1 := Lib.hid kd1; have KM := Lib.hid km; have KY := Lib.hid ky; have KK := Lib.hid kk; have KC := Lib.hid kc; have HW1 := Lib.hid hW1; have HF := Lib.hid hfin; have HMO := Lib.hid hmo2
  clear kn ks kw kd kd1 km ky kk kc hW1 x1 hfin hmo2 hmo hml hwl hcl hN hd hjm hje hj' hrl
  go_enter Tryz.func43, Tryz.ntmps43
  go_upto_region 1 with (fail)
  rw [HW1.out]
  go_wp2_with fail
  (with_reducible refine (KD.out _).mono ?_)
  rintro e wd ⟨rfl, hbd⟩
  have hBd := hbd
  go_wp2_with fail
  clear c0 c1 c2 c3 c4 c5
  refine wp_region_held_drew (S := (fun w' => w'.cell? ⟨w.heap.size, 0, none⟩ = some (.int .i64 Y) ∧ w'.cell? ⟨w.heap.size, 1, none⟩ = some (.int .i64 Mo) ∧ w'.cell? ⟨w.heap.size, 2, none⟩ = some (.int .i64 D) ∧ w'.cell? ⟨w.heap.size, 3, none⟩ = some (.int .i64 h) ∧ w'.cell? ⟨w.heap.size, 4, none⟩ = some (.int .i64 mi) ∧ w'.cell? ⟨w.heap.size, 5, none⟩ = some (.int .i64 s) ∧ Below W1.heap.size W1 w')) (by kernel_rfl) (KC.out _ hBd.drew) (fun hHeld => ?_)
  refine wpAnyH_take (i := 0) (v := ?_) (by simp only [List.getElem?_toArray, List.getElem?_cons_zero]; exact rfl) (by kernel_rfl) (by kernel_rfl) (by kernel_rfl) (by intro _ _ _ h; exact h) (Or.inl ⟨by rfl, fun W hSw => ?_⟩) hHeld ?_
  rotate_left
  focus ((try dsimp only at hSw); first | (go_simp; done) | (go_simp; with_reducible rfl))
  try simp only [Act.put, List.setIfInBounds_toArray, List.set_cons_zero, List.set_cons_succ]
  refine wpAnyH_take (i := 6) (v := ?_) (by simp only [List.getElem?_toArray, List.getElem?_cons_succ, List.getElem?_cons_zero]; exact rfl) (by kernel_rfl) (by kernel_rfl) (by kernel_rfl) (by intro _ _ _ h; exact h) (Or.inl ⟨by rfl, fun W hSw => ?_⟩) hHeld ?_
  rotate_left
  focus ((try dsimp only at hSw); first | (go_simp; done) | (go_simp; with_reducible rfl))
  try simp only [Act.put, List.setIfInBounds_toArray, List.set_cons_zero, List.set_cons_succ]
  refine wpAnyH_take (i := 7) (v := ?_) (by simp only [List.getElem?_toArray, List.getElem?_cons_succ, List.getElem?_cons_zero]; exact rfl) (by kernel_rfl) (by kernel_rfl) (by kernel_rfl) (by intro _ _ _ h; exact h) (Or.inl ⟨by rfl, fun W hSw => ?_⟩) hHeld ?_
  rotate_left
  focus ((try dsimp only at hSw); first | (go_simp; done) | (go_simp; with_reducible rfl))
  try simp only [Act.put, List.setIfInBounds_toArray, List.set_cons_zero, List.set_cons_succ]
  refine wpAnyH_take (i := 8) (v := ?_) (by simp only [List.getElem?_toArray, List.getElem?_cons_succ, List.getElem?_cons_zero]; exact rfl) (by kernel_rfl) (by kernel_rfl) (by kernel_rfl) (by intro _ _ _ h; exact h) (Or.inl ⟨by rfl, fun W hSw => ?_⟩) hHeld ?_
  rotate_left
  focus ((try dsimp only at hSw); first | (go_simp; done) | (go_simp; with_reducible rfl))
  try simp only [Act.put, List.setIfInBounds_toArray, List.set_cons_zero, List.set_cons_succ]
  refine wpAnyH_take (i := 13) (v := ?_) (by simp only [List.getElem?_toArray, List.getElem?_cons_succ, List.getElem?_cons_zero]; exact rfl) (by kernel_rfl) (by kernel_rfl) (by kernel_rfl) (by intro _ _ _ h; exact h) (Or.inl ⟨by rfl, fun W hSw => ?_⟩) hHeld ?_
  rotate_left
  focus ((try dsimp only at hSw); first | (go_simp; done) | (go_simp; with_reducible rfl))
  try simp only [Act.put, List.setIfInBounds_toArray, List.set_cons_zero, List.set_cons_succ]
  refine wpAnyH_take (i := 16) (v := ?_) (by simp only [List.getElem?_toArray, List.getElem?_cons_succ, List.getElem?_cons_zero]; exact rfl) (by kernel_rfl) (by kernel_rfl) (by kernel_rfl) (by intro _ _ _ h; exact h) (Or.inl ⟨by rfl, fun W hSw => ?_⟩) hHeld ?_
  rotate_left
  focus ((try dsimp only at hSw); first | (go_simp; done) | (go_simp; with_reducible rfl))
  try simp only [Act.put, List.setIfInBounds_toArray, List.set_cons_zero, List.set_cons_succ]
  refine wpAnyH_take (i := 20) (v := ?_) (by simp only [List.getElem?_toArray, List.getElem?_cons_succ, List.getElem?_cons_zero]; exact rfl) (by kernel_rfl) (by kernel_rfl) (by kernel_rfl) (by intro _ _ _ h; exact h) (Or.inl ⟨by rfl, fun W hSw => ?_⟩) hHeld ?_
  rotate_left
  focus ((try dsimp only at hSw); first | (go_simp; done) | (go_simp; with_reducible rfl))
  try simp only [Act.put, List.setIfInBounds_toArray, List.set_cons_zero, List.set_cons_succ]
  refine wpAnyH_take (i := 21) (v := ?_) (by simp only [List.getElem?_toArray, List.getElem?_cons_succ, List.getElem?_cons_zero]; exact rfl) (by kernel_rfl) (by kernel_rfl) (by kernel_rfl) (by intro _ _ _ h; exact h) (Or.inl ⟨by rfl, fun W hSw => ?_⟩) hHeld ?_
  rotate_left
  focus ((try dsimp only at hSw); first | (go_simp; done) | (go_simp; with_reducible rfl))
  try simp only [Act.put, List.setIfInBounds_toArray, List.set_cons_zero, List.set_cons_succ]
  refine wpAnyH_ready (rs := [1]) (by kernel_rfl) (by simp) (AllReadyH.cons (by simp only [List.getElem?_toArray, List.getElem?_cons_succ, List.getElem?_cons_zero]; exact rfl) (fun K hK => ?_) AllReadyH.nil)
  rw [if_pos (by rfl)]
  go_simp
  (with_reducible refine (KN.out _).mono ?_); rintro e w2 ⟨rfl, hb2⟩; have hB2 := bt hBd.drew hb2; go_wp2_with fail
  refine hK.out _ _ (KC.out _ hB2) (fun hHeld => ?_)
  clear hK K
  try simp only [Act.put, List.setIfInBounds_toArray, List.set_cons_zero, List.set_cons_succ]
  refine wpAnyH_ready (rs := [2]) (by kernel_rfl) (by simp) (AllReadyH.cons (by simp only [List.getElem?_toArray, List.getElem?_cons_succ, List.getElem?_cons_zero]; exact rfl) (fun K hK => ?_) AllReadyH.nil)
  rw [if_pos (by rfl)]
  go_simp
  (with_reducible refine (KS.out _).mono ?_); rintro e w3 ⟨rfl, hrd3, hb3⟩; have hB3 := bt hB2 hb3; go_wp2_with fail
  refine hK.out _ _ (KC.out _ hB3) (fun hHeld => ?_)
  clear hK K
  try simp only [Act.put, List.setIfInBounds_toArray, List.set_cons_zero, List.set_cons_succ]
  refine wpAnyH_ready (rs := [3]) (by kernel_rfl) (by simp) (AllReadyH.cons (by simp only [List.getElem?_toArray, List.getElem?_cons_succ, List.getElem?_cons_zero]; exact rfl) (fun K hK => ?_) AllReadyH.nil)
  rw [if_pos (by rfl)]
  go_simp
  (with_reducible refine (KW.out _ _ _ hrd3).mono ?_); rintro e w5 ⟨rfl, rfl⟩; go_wp2_with fail
  refine hK.out _ _ (KC.out _ hB3) (fun hHeld => ?_)
  clear hK K
  try simp only [Act.put, List.setIfInBounds_toArray, List.set_cons_zero, List.set_cons_succ]
  refine wpAnyH_take (i := 4) (v := ?_) (by simp only [List.getElem?_toArray, List.getElem?_cons_succ, List.getElem?_cons_zero]; exact rfl) (by kernel_rfl) (by kernel_rfl) (by kernel_rfl) (by intro _ _ _ h; exact h) (Or.inl ⟨by rfl, fun W hSw => ?_⟩) hHeld ?_
  rotate_left
  focus ((try dsimp only at hSw); first | (go_simp; done) | (go_simp; with_reducible rfl))
  try simp only [Act.put, List.setIfInBounds_toArray, List.set_cons_zero, List.set_cons_succ]
  refine wpAnyH_ready (rs := [5]) (by kernel_rfl) (by simp) (AllReadyH.cons (by simp only [List.getElem?_toArray, List.getElem?_cons_succ, List.getElem?_cons_zero]; exact rfl) (fun K hK => ?_) AllReadyH.nil)
  rw [if_pos (by rfl)]
  go_simp
  (with_reducible refine (KM.out _).mono ?_); rintro e w6 ⟨rfl, hrd6, hb6⟩; have hB6 := bt hB3 hb6; go_wp2_with fail
  refine hK.out _ _ (KC.out _ hB6) (fun hHeld => ?_)
  clear hK K
  try simp only [Act.put, List.setIfInBounds_toArray, List.set_cons_zero, List.set_cons_succ]
  obtain ⟨gm, om, em, hlm, hcm⟩ := hrd6.str_at (k := j) hj
  cases em
  rw [Nat.zero_add, HMO.out] at hcm
  have kc2 : ∀ w', Below w6.heap.size w6 w' → w'.cell? ⟨w.heap.size, 0, none⟩ = some (.int .i64 Y) ∧ w'.cell? ⟨w.heap.size, 1, none⟩ = some (.int .i64 Mo) ∧ w'.cell? ⟨w.heap.size, 2, none⟩ = some (.int .i64 D) ∧ w'.cell? ⟨w.heap.size, 3, none⟩ = some (.int .i64 h) ∧ w'.cell? ⟨w.heap.size, 4, none⟩ = some (.int .i64 mi) ∧ w'.cell? ⟨w.heap.size, 5, none⟩ = some (.int .i64 s) ∧ w'.cell? ⟨w5.heap.size, j, none⟩ = some (.string mo) ∧ Below W1.heap.size W1 w' ∧ Below w6.heap.size w6 w' := fun w' hq => by obtain ⟨g0, g1, g2, g3, g4, g5, _⟩ := KC.out _ (bt hB6 hq); exact ⟨g0, g1, g2, g3, g4, g5, (hq.cell (p := ⟨w5.heap.size, j, none⟩) hlm).trans hcm, bt hB6 hq, hq⟩
  have KC2 := Lib.hid kc2; clear kc2 hcm hrd6
  refine wpAnyH_strong (S' := (fun w' => w'.cell? ⟨w.heap.size, 0, none⟩ = some (.int .i64 Y) ∧ w'.cell? ⟨w.heap.size, 1, none⟩ = some (.int .i64 Mo) ∧ w'.cell? ⟨w.heap.size, 2, none⟩ = some (.int .i64 D) ∧ w'.cell? ⟨w.heap.size, 3, none⟩ = some (.int .i64 h) ∧ w'.cell? ⟨w.heap.size, 4, none⟩ = some (.int .i64 mi) ∧ w'.cell? ⟨w.heap.size, 5, none⟩ = some (.int .i64 s) ∧ w'.cell? ⟨w5.heap.size, j, none⟩ = some (.string mo) ∧ Below W1.heap.size W1 w' ∧ Below w6.heap.size w6 w')) (fun _ hq => ⟨hq.1, hq.2.1, hq.2.2.1, hq.2.2.2.1, hq.2.2.2.2.1, hq.2.2.2.2.2.1, hq.2.2.2.2.2.2.2.1⟩) ?_
  replace hHeld := KC2.out _ (Below.refl _ w6)
  refine wpAnyH_take (i := 9) (v := ?_) (by simp only [List.getElem?_toArray, List.getElem?_cons_succ, List.getElem?_cons_zero]; exact rfl) (by kernel_rfl) (by kernel_rfl) (by kernel_rfl) (by intro _ _ _ h; exact h) (Or.inl ⟨by rfl, fun W hSw => ?_⟩) hHeld ?_
  rotate_left
  focus ((try dsimp only at hSw); first | (go_simp; done) | (go_simp; with_reducible rfl))
  try simp only [Act.put, List.setIfInBounds_toArray, List.set_cons_zero, List.set_cons_succ]
  refine wpAnyH_take (i := 10) (v := ?_) (by simp only [List.getElem?_toArray, List.getElem?_cons_succ, List.getElem?_cons_zero]; exact rfl) (by kernel_rfl) (by kernel_rfl) (by kernel_rfl) (by intro _ _ _ h; exact h) (Or.inl ⟨by rfl, fun W hSw => ?_⟩) hHeld ?_
  rotate_left
  focus ((try dsimp only at hSw); first | (go_simp; done) | (go_simp; with_reducible rfl))
  try simp only [Act.put, List.setIfInBounds_toArray, List.set_cons_zero, List.set_cons_succ]
  refine wpAnyH_take (i := 11) (v := ?_) (by simp only [List.getElem?_toArray, List.getElem?_cons_succ, List.getElem?_cons_zero]; exact rfl) (by kernel_rfl) (by kernel_rfl) (by kernel_rfl) (by intro _ _ _ h; exact h) (Or.inl ⟨by rfl, fun W hSw => ?_⟩) hHeld ?_
  rotate_left
  focus ((try dsimp only at hSw); first | (go_simp; done) | (go_simp; with_reducible rfl))
  try simp only [Act.put, List.setIfInBounds_toArray, List.set_cons_zero, List.set_cons_succ]
  refine wpAnyH_take (i := 12) (v := ?_) (by simp only [List.getElem?_toArray, List.getElem?_cons_succ, List.getElem?_cons_zero]; exact rfl) (by kernel_rfl) (by kernel_rfl) (by kernel_rfl) (by intro _ _ _ h; exact h) (Or.inl ⟨by rfl, fun W hSw => ?_⟩) hHeld ?_
  rotate_left
  focus ((try dsimp only at hSw); first | (go_simp; done) | (go_simp; with_reducible rfl))
  try simp only [Act.put, List.setIfInBounds_toArray, List.set_cons_zero, List.set_cons_succ]
  refine wpAnyH_take (i := 14) (v := ?_) (by simp only [List.getElem?_toArray, List.getElem?_cons_succ, List.getElem?_cons_zero]; exact rfl) (by kernel_rfl) (by kernel_rfl) (by kernel_rfl) (by intro _ _ _ h; exact h) (Or.inl ⟨by rfl, fun W hSw => ?_⟩) hHeld ?_
  rotate_left
  focus ((try dsimp only at hSw); first | (go_simp; done) | (go_simp; with_reducible rfl))
  try simp only [Act.put, List.setIfInBounds_toArray, List.set_cons_zero, List.set_cons_succ]
  refine wpAnyH_take (i := 15) (v := ?_) (by simp only [List.getElem?_toArray, List.getElem?_cons_succ, List.getElem?_cons_zero]; exact rfl) (by kernel_rfl) (by kernel_rfl) (by kernel_rfl) (by intro _ _ _ h; exact h) (Or.inl ⟨by rfl, fun W hSw => ?_⟩) hHeld ?_
  rotate_left
  focus ((try dsimp only at hSw); first | (go_simp; done) | (go_simp; with_reducible rfl))
  try simp only [Act.put, List.setIfInBounds_toArray, List.set_cons_zero, List.set_cons_succ]
  refine wpAnyH_ready (rs := [17]) (by kernel_rfl) (by simp) (AllReadyH.cons (by simp only [List.getElem?_toArray, List.getElem?_cons_succ, List.getElem?_cons_zero]; exact rfl) (fun K hK => ?_) AllReadyH.nil)
  rw [if_pos (by rfl)]
  go_simp
  (with_reducible refine (KK.out _).mono ?_); rintro e w7 ⟨rfl, hb7⟩; have hC7 := hb7; go_wp2_with fail
  refine hK.out _ _ (KC2.out _ hC7) (fun hHeld => ?_)
  clear hK K
  try simp only [Act.put, List.setIfInBounds_toArray, List.set_cons_zero, List.set_cons_succ]
  refine wpAnyH_take (i := 18) (v := ?_) (by simp only [List.getElem?_toArray, List.getElem?_cons_succ, List.getElem?_cons_zero]; exact rfl) (by kernel_rfl) (by kernel_rfl) (by kernel_rfl) (by intro _ _ _ h; exact h) (Or.inl ⟨by rfl, fun W hSw => ?_⟩) hHeld ?_
  rotate_left
  focus ((try dsimp only at hSw); first | (go_simp; done) | (go_simp; with_reducible rfl))
  try simp only [Act.put, List.setIfInBounds_toArray, List.set_cons_zero, List.set_cons_succ]
  refine wpAnyH_take (i := 19) (v := ?_) (by simp only [List.getElem?_toArray, List.getElem?_cons_succ, List.getElem?_cons_zero]; exact rfl) (by kernel_rfl) (by kernel_rfl) (by kernel_rfl) (by intro _ _ _ h; exact h) (Or.inl ⟨by rfl, fun W hSw => ?_⟩) hHeld ?_
  rotate_left
  focus ((try dsimp only at hSw); first | (go_simp; done) | (go_simp; with_reducible rfl))
  try simp only [Act.put, List.setIfInBounds_toArray, List.set_cons_zero, List.set_cons_succ]
  refine wpAnyH_ready (rs := [22]) (by kernel_rfl) (by simp) (AllReadyH.cons (by simp only [List.getElem?_toArray, List.getElem?_cons_succ, List.getElem?_cons_zero]; exact rfl) (fun K hK => ?_) AllReadyH.nil)
  rw [if_pos (by rfl)]
  go_simp
  (with_reducible refine (KY.out _).mono ?_); rintro e w8 ⟨rfl, hb8⟩; have hC8 := bt hC7 hb8; go_wp2_with fail
  refine hK.out _ _ (KC2.out _ hC8) (fun hHeld => ?_)
  clear hK K
  try simp only [Act.put, List.setIfInBounds_toArray, List.set_cons_zero, List.set_cons_succ]
  refine wpAnyH_take (i := 23) (v := ?_) (by simp only [List.getElem?_toArray, List.getElem?_cons_succ, List.getElem?_cons_zero]; exact rfl) (by kernel_rfl) (by kernel_rfl) (by kernel_rfl) (by intro _ _ _ h; exact h) (Or.inl ⟨by rfl, fun W hSw => ?_⟩) hHeld ?_
  rotate_left
  focus ((try dsimp only at hSw); first | (go_simp; done) | (go_simp; with_reducible rfl))
  try simp only [Act.put, List.setIfInBounds_toArray, List.set_cons_zero, List.set_cons_succ]
  refine wpAnyH_take (i := 24) (v := ?_) (by simp only [List.getElem?_toArray, List.getElem?_cons_succ, List.getElem?_cons_zero]; exact rfl) (by kernel_rfl) (by kernel_rfl) (by kernel_rfl) (by intro _ _ _ h; exact h) (Or.inl ⟨by rfl, fun W hSw => ?_⟩) hHeld ?_
  rotate_left
  focus ((try dsimp only at hSw); first | (go_simp; done) | (go_simp; with_reducible rfl))
  try simp only [Act.put, List.setIfInBounds_toArray, List.set_cons_zero, List.set_cons_succ]
  refine wpAnyH_done (by kernel_rfl) ?_ _
  clear hHeld
  go_wp2
  go_ret
  exact ⟨by rw [← HF.out]; rfl, bt b1 (bt hB6 hC8)⟩
set_option maxHeartbeats 16000000 in
theorem iplainT_any (Y Mo D h mi s : Int) (hd : rmay ⟨Y, Mo, D, h, mi, s⟩ = true) (w : World) :
    Calls Tryz.prog 43 #[.agg #[.int .i64 Y, .int .i64 Mo, .int .i64 D, .int .i64 h, .int .i64 mi, .int .i64 s], .bool true] w fun e w' => e = .returned (.string ⟨(rplain ⟨Y, Mo, D, h, mi, s⟩ true).toArray⟩) ∧ Below w.heap.size w w' := by
  obtain ⟨a1, a2, a3, a4, a5, a6, a7, a8, a9, a10, a11, a12⟩ := rmay_is hd
  simp only at a1 a2 a3 a4 a5 a6 a7 a8 a9 a10 a11 a12
  have hdl := dlong_hi Y Mo
  obtain ⟨W1, hW1⟩ : ∃ W1, w.alloc (.cells #[.int .i64 Y, .int .i64 Mo, .int .i64 D, .int .i64 h, .int .i64 mi, .int .i64 s] 65) = W1 := ⟨_, rfl⟩
  have b1 : Below w.heap.size w W1 := by rw [← hW1]; exact (Below.refl w.heap.size w).alloc (Nat.le_refl _) _
  have x1 : W1.heap[w.heap.size]? = some (.cells #[.int .i64 Y, .int .i64 Mo, .int .i64 D, .int .i64 h, .int .i64 mi, .int .i64 s] 65 (0, 0)) := by rw [← hW1]; exact heap_new w _ _ rfl
  have c0 := (of_heap x1 0).1; have c1 := (of_heap x1 1).1; have c2 := (of_heap x1 2).1; have c3 := (of_heap x1 3).1; have c4 := (of_heap x1 4).1; have c5 := (of_heap x1 5).1; have hEl := (of_heap x1 0).2.2
  simp only [List.getElem?_toArray, List.getElem?_cons_succ, List.getElem?_cons_zero] at c0 c1 c2 c3 c4 c5
  have kc : ∀ w', Below W1.heap.size W1 w' → w'.cell? ⟨w.heap.size, 0, none⟩ = some (.int .i64 Y) ∧ w'.cell? ⟨w.heap.size, 1, none⟩ = some (.int .i64 Mo) ∧ w'.cell? ⟨w.heap.size, 2, none⟩ = some (.int .i64 D) ∧ w'.cell? ⟨w.heap.size, 3, none⟩ = some (.int .i64 h) ∧ w'.cell? ⟨w.heap.size, 4, none⟩ = some (.int .i64 mi) ∧ w'.cell? ⟨w.heap.size, 5, none⟩ = some (.int .i64 s) ∧ Below W1.heap.size W1 w' := fun w' h => ⟨(h.cell (p := ⟨w.heap.size, 0, none⟩) hEl).trans c0, (h.cell (p := ⟨w.heap.size, 1, none⟩) hEl).trans c1, (h.cell (p := ⟨w.heap.size, 2, none⟩) hEl).trans c2, (h.cell (p := ⟨w.heap.size, 3, none⟩) hEl).trans c3, (h.cell (p := ⟨w.heap.size, 4, none⟩) hEl).trans c4, (h.cell (p := ⟨w.heap.size, 5, none⟩) hEl).trans c5, h⟩
  obtain ⟨N, hN, hNb⟩ := rcount_in _ hd
  have kn := fun W => icount_any Y Mo D h mi s ⟨a1, a2⟩ ⟨a3, a4⟩ ⟨a5, by omega⟩ W
  rw [hN] at kn
  have ks := fun W => ishort_any W
  have kw := fun A c W hr => iweekS_any A c N hNb W hr
  have kd := fun W => idig2_any D (by omega) (by omega) W
  have kd1 := fun W => idig1_any D (by omega) (by omega) W
  have km := fun W => imons_any W
  have ky := fun W => idig4_any Y (by omega) (by omega) W
  have kk := fun W => iclock_any Y Mo D h mi s ⟨a7, by omega, a9, by omega, a11, by omega⟩ W
  obtain ⟨j, hj', hjm, hje⟩ := rmon_is Mo a3 a4
  have hj : j < rmons.length := hj'
  have hmo : rmons[j] = rmon Mo := by rw [hjm, List.getD_eq_getElem?_getD, List.getElem?_eq_getElem hj]; rfl
  have hml : (rmon Mo).length = 3 := by rw [hjm]; exact mon_len j hj'
  have hwl : (rwd rshort N).length ≤ 3 := by
    have hall : ∀ x ∈ rshort, x.length ≤ 3 := by decide
    unfold rwd
    have hi : (((N : Int) + 3) % 7).toNat < rshort.length := by show _ < 7; omega
    rw [List.getD_eq_getElem?_getD, List.getElem?_eq_getElem hi]
    exact hall _ (List.getElem_mem hi)
  have hcl : (rclock ⟨Y, Mo, D, h, mi, s⟩).length = 8 := by unfold rclock; simp [rdig_len]
  have hw1 : IntKind.i64.wrap (Mo - 1) = (j : Int) := by rw [IntKind.wrap_i64]; omega
  have hfin : ((((((((((⟨(rwd rshort N).toArray⟩ : ByteArray) ++ ⟨#[32]⟩) ++ ⟨(rmon Mo).toArray⟩) ++ ⟨#[32]⟩) ++ (⟨#[32]⟩ ++ ⟨(rdig 1 D).toArray⟩)) ++ ⟨#[32]⟩) ++ ⟨(rclock ⟨Y, Mo, D, h, mi, s⟩).toArray⟩) ++ ⟨#[32]⟩) ++ ⟨(rdig 4 Y).toArray⟩)) = ⟨(rplain ⟨Y, Mo, D, h, mi, s⟩ true).toArray⟩ := by
    apply str_eq
    simp only [app_list]
    unfold rplain
    rw [hN]
    simp
  have z1 : (⟨(rwd rshort N).toArray⟩ : ByteArray).size ≤ 3 := by rw [Lib.size_eq]; exact hwl
  have z2 : (⟨(rdig 2 D).toArray⟩ : ByteArray).size ≤ 2 := by rw [Lib.size_eq]; exact Nat.le_of_eq (rdig_len 2 D)
  have z6 : (⟨(rdig 1 D).toArray⟩ : ByteArray).size ≤ 1 := by rw [Lib.size_eq]; exact Nat.le_of_eq (rdig_len 1 D)
  have z3 : (⟨(rmon Mo).toArray⟩ : ByteArray).size ≤ 3 := by rw [Lib.size_eq]; exact Nat.le_of_eq hml
  have z4 : (⟨(rdig 4 Y).toArray⟩ : ByteArray).size ≤ 4 := by rw [Lib.size_eq]; exact Nat.le_of_eq (rdig_len 4 Y)
  have z5 : (⟨(rclock ⟨Y, Mo, D, h, mi, s⟩).toArray⟩ : ByteArray).size ≤ 8 := by rw [Lib.size_eq]; exact Nat.le_of_eq hcl
  have hmo2 : (⟨rmons[j].toArray⟩ : ByteArray) = ⟨(rmon Mo).toArray⟩ := by rw [hmo]
  have hrl : rmons.length = 12 := rfl
  have hjb : j < 12 := hj'
  generalize (⟨(rwd rshort N).toArray⟩ : ByteArray) = q1 at *
  generalize (⟨(rdig 2 D).toArray⟩ : ByteArray) = q2 at *
  generalize (⟨(rdig 1 D).toArray⟩ : ByteArray) = q3 at *
  generalize (⟨(rmon Mo).toArray⟩ : ByteArray) = mo at *
  generalize (⟨(rdig 4 Y).toArray⟩ : ByteArray) = q4 at *
  generalize (⟨(rclock ⟨Y, Mo, D, h, mi, s⟩).toArray⟩ : ByteArray) = q5 at *
  generalize (⟨(rplain ⟨Y, Mo, D, h, mi, s⟩ true).toArray⟩ : ByteArray) = R at *
  have f1 : ¬ (9223372036854775807 < q1.size + 1) := by omega
  have f2 : ¬ (9223372036854775807 < q1.size + 1 + mo.size) := by omega
  have f3 : ¬ (9223372036854775807 < q1.size + 1 + mo.size + 1) := by omega
  have f4 : ¬ (9223372036854775807 < q1.size + 1 + mo.size + 1 + (1 + q3.size)) := by omega
  have f5 : ¬ (9223372036854775807 < q1.size + 1 + mo.size + 1 + (1 + q3.size) + 1) := by omega
  have f6 : ¬ (9223372036854775807 < q1.size + 1 + mo.size + 1 + (1 + q3.size) + 1 + q5.size) := by omega
  have f7 : ¬ (9223372036854775807 < q1.size + 1 + mo.size + 1 + (1 + q3.size) + 1 + q5.size + 1) := by omega
  have f8 : ¬ (9223372036854775807 < q1.size + 1 + mo.size + 1 + (1 + q3.size) + 1 + q5.size + 1 + q4.size) := by omega
  have f9 : ¬ (9223372036854775807 < 1 + q3.size) := by omega
  have i1 : (0 : Int) ≤ (j : Int) := by omega
  have i2 : (j : Int) < 12 := by omega
  have i4 : ((j : Int)).toNat = j := by simp
  have i5 : decide ((j : Int) < 0) = false := by simp
  have KN := Lib.hid kn; have KS := Lib.hid ks; have KW := Lib.hid kw; have KD := Lib.hid kd; have KD1 := Lib.hid kd1; have KM := Lib.hid km; have KY := Lib.hid ky; have KK := Lib.hid kk; have KC := Lib.hid kc; have HW1 := Lib.hid hW1; have HF := Lib.hid hfin; have HMO := Lib.hid hmo2
  clear kn ks kw kd kd1 km ky kk kc hW1 x1 hfin hmo2 hmo hml hwl hcl hN hd hjm hje hj' hrl
  go_enter Tryz.func43, Tryz.ntmps43
  go_upto_region 1 with (fail)
  rw [HW1.out]
  go_wp2_with fail
  (with_reducible refine (KD.out _).mono ?_)
  rintro e wd ⟨rfl, hbd⟩
  obtain ⟨g0, g1, g2, g3, g4, g5, _⟩ := KC.out wd hbd
  go_wp2_with fail
  (with_reducible refine (KD1.out _).mono ?_)
  rintro e wx ⟨rfl, hbx⟩
  have hBd := bt hbd hbx
  clear g0 g1 g2 g3 g4 g5
  go_wp2_with fail
  clear c0 c1 c2 c3 c4 c5
  refine wp_region_held_drew (S := (fun w' => w'.cell? ⟨w.heap.size, 0, none⟩ = some (.int .i64 Y) ∧ w'.cell? ⟨w.heap.size, 1, none⟩ = some (.int .i64 Mo) ∧ w'.cell? ⟨w.heap.size, 2, none⟩ = some (.int .i64 D) ∧ w'.cell? ⟨w.heap.size, 3, none⟩ = some (.int .i64 h) ∧ w'.cell? ⟨w.heap.size, 4, none⟩ = some (.int .i64 mi) ∧ w'.cell? ⟨w.heap.size, 5, none⟩ = some (.int .i64 s) ∧ Below W1.heap.size W1 w')) (by kernel_rfl) (KC.out _ hBd.drew) (fun hHeld => ?_)
  refine wpAnyH_take (i := 0) (v := ?_) (by simp only [List.getElem?_toArray, List.getElem?_cons_zero]; exact rfl) (by kernel_rfl) (by kernel_rfl) (by kernel_rfl) (by intro _ _ _ h; exact h) (Or.inl ⟨by rfl, fun W hSw => ?_⟩) hHeld ?_
  rotate_left
  focus ((try dsimp only at hSw); first | (go_simp; done) | (go_simp; with_reducible rfl))
  try simp only [Act.put, List.setIfInBounds_toArray, List.set_cons_zero, List.set_cons_succ]
  refine wpAnyH_take (i := 6) (v := ?_) (by simp only [List.getElem?_toArray, List.getElem?_cons_succ, List.getElem?_cons_zero]; exact rfl) (by kernel_rfl) (by kernel_rfl) (by kernel_rfl) (by intro _ _ _ h; exact h) (Or.inl ⟨by rfl, fun W hSw => ?_⟩) hHeld ?_
  rotate_left
  focus ((try dsimp only at hSw); first | (go_simp; done) | (go_simp; with_reducible rfl))
  try simp only [Act.put, List.setIfInBounds_toArray, List.set_cons_zero, List.set_cons_succ]
  refine wpAnyH_take (i := 7) (v := ?_) (by simp only [List.getElem?_toArray, List.getElem?_cons_succ, List.getElem?_cons_zero]; exact rfl) (by kernel_rfl) (by kernel_rfl) (by kernel_rfl) (by intro _ _ _ h; exact h) (Or.inl ⟨by rfl, fun W hSw => ?_⟩) hHeld ?_
  rotate_left
  focus ((try dsimp only at hSw); first | (go_simp; done) | (go_simp; with_reducible rfl))
  try simp only [Act.put, List.setIfInBounds_toArray, List.set_cons_zero, List.set_cons_succ]
  refine wpAnyH_take (i := 8) (v := ?_) (by simp only [List.getElem?_toArray, List.getElem?_cons_succ, List.getElem?_cons_zero]; exact rfl) (by kernel_rfl) (by kernel_rfl) (by kernel_rfl) (by intro _ _ _ h; exact h) (Or.inl ⟨by rfl, fun W hSw => ?_⟩) hHeld ?_
  rotate_left
  focus ((try dsimp only at hSw); first | (go_simp; done) | (go_simp; with_reducible rfl))
  try simp only [Act.put, List.setIfInBounds_toArray, List.set_cons_zero, List.set_cons_succ]
  refine wpAnyH_take (i := 13) (v := ?_) (by simp only [List.getElem?_toArray, List.getElem?_cons_succ, List.getElem?_cons_zero]; exact rfl) (by kernel_rfl) (by kernel_rfl) (by kernel_rfl) (by intro _ _ _ h; exact h) (Or.inl ⟨by rfl, fun W hSw => ?_⟩) hHeld ?_
  rotate_left
  focus ((try dsimp only at hSw); first | (go_simp; done) | (go_simp; with_reducible rfl))
  try simp only [Act.put, List.setIfInBounds_toArray, List.set_cons_zero, List.set_cons_succ]
  refine wpAnyH_take (i := 16) (v := ?_) (by simp only [List.getElem?_toArray, List.getElem?_cons_succ, List.getElem?_cons_zero]; exact rfl) (by kernel_rfl) (by kernel_rfl) (by kernel_rfl) (by intro _ _ _ h; exact h) (Or.inl ⟨by rfl, fun W hSw => ?_⟩) hHeld ?_
  rotate_left
  focus ((try dsimp only at hSw); first | (go_simp; done) | (go_simp; with_reducible rfl))
  try simp only [Act.put, List.setIfInBounds_toArray, List.set_cons_zero, List.set_cons_succ]
  refine wpAnyH_take (i := 20) (v := ?_) (by simp only [List.getElem?_toArray, List.getElem?_cons_succ, List.getElem?_cons_zero]; exact rfl) (by kernel_rfl) (by kernel_rfl) (by kernel_rfl) (by intro _ _ _ h; exact h) (Or.inl ⟨by rfl, fun W hSw => ?_⟩) hHeld ?_
  rotate_left
  focus ((try dsimp only at hSw); first | (go_simp; done) | (go_simp; with_reducible rfl))
  try simp only [Act.put, List.setIfInBounds_toArray, List.set_cons_zero, List.set_cons_succ]
  refine wpAnyH_take (i := 21) (v := ?_) (by simp only [List.getElem?_toArray, List.getElem?_cons_succ, List.getElem?_cons_zero]; exact rfl) (by kernel_rfl) (by kernel_rfl) (by kernel_rfl) (by intro _ _ _ h; exact h) (Or.inl ⟨by rfl, fun W hSw => ?_⟩) hHeld ?_
  rotate_left
  focus ((try dsimp only at hSw); first | (go_simp; done) | (go_simp; with_reducible rfl))
  try simp only [Act.put, List.setIfInBounds_toArray, List.set_cons_zero, List.set_cons_succ]
  refine wpAnyH_ready (rs := [1]) (by kernel_rfl) (by simp) (AllReadyH.cons (by simp only [List.getElem?_toArray, List.getElem?_cons_succ, List.getElem?_cons_zero]; exact rfl) (fun K hK => ?_) AllReadyH.nil)
  rw [if_pos (by rfl)]
  go_simp
  (with_reducible refine (KN.out _).mono ?_); rintro e w2 ⟨rfl, hb2⟩; have hB2 := bt hBd.drew hb2; go_wp2_with fail
  refine hK.out _ _ (KC.out _ hB2) (fun hHeld => ?_)
  clear hK K
  try simp only [Act.put, List.setIfInBounds_toArray, List.set_cons_zero, List.set_cons_succ]
  refine wpAnyH_ready (rs := [2]) (by kernel_rfl) (by simp) (AllReadyH.cons (by simp only [List.getElem?_toArray, List.getElem?_cons_succ, List.getElem?_cons_zero]; exact rfl) (fun K hK => ?_) AllReadyH.nil)
  rw [if_pos (by rfl)]
  go_simp
  (with_reducible refine (KS.out _).mono ?_); rintro e w3 ⟨rfl, hrd3, hb3⟩; have hB3 := bt hB2 hb3; go_wp2_with fail
  refine hK.out _ _ (KC.out _ hB3) (fun hHeld => ?_)
  clear hK K
  try simp only [Act.put, List.setIfInBounds_toArray, List.set_cons_zero, List.set_cons_succ]
  refine wpAnyH_ready (rs := [3]) (by kernel_rfl) (by simp) (AllReadyH.cons (by simp only [List.getElem?_toArray, List.getElem?_cons_succ, List.getElem?_cons_zero]; exact rfl) (fun K hK => ?_) AllReadyH.nil)
  rw [if_pos (by rfl)]
  go_simp
  (with_reducible refine (KW.out _ _ _ hrd3).mono ?_); rintro e w5 ⟨rfl, rfl⟩; go_wp2_with fail
  refine hK.out _ _ (KC.out _ hB3) (fun hHeld => ?_)
  clear hK K
  try simp only [Act.put, List.setIfInBounds_toArray, List.set_cons_zero, List.set_cons_succ]
  refine wpAnyH_take (i := 4) (v := ?_) (by simp only [List.getElem?_toArray, List.getElem?_cons_succ, List.getElem?_cons_zero]; exact rfl) (by kernel_rfl) (by kernel_rfl) (by kernel_rfl) (by intro _ _ _ h; exact h) (Or.inl ⟨by rfl, fun W hSw => ?_⟩) hHeld ?_
  rotate_left
  focus ((try dsimp only at hSw); first | (go_simp; done) | (go_simp; with_reducible rfl))
  try simp only [Act.put, List.setIfInBounds_toArray, List.set_cons_zero, List.set_cons_succ]
  refine wpAnyH_ready (rs := [5]) (by kernel_rfl) (by simp) (AllReadyH.cons (by simp only [List.getElem?_toArray, List.getElem?_cons_succ, List.getElem?_cons_zero]; exact rfl) (fun K hK => ?_) AllReadyH.nil)
  rw [if_pos (by rfl)]
  go_simp
  (with_reducible refine (KM.out _).mono ?_); rintro e w6 ⟨rfl, hrd6, hb6⟩; have hB6 := bt hB3 hb6; go_wp2_with fail
  refine hK.out _ _ (KC.out _ hB6) (fun hHeld => ?_)
  clear hK K
  try simp only [Act.put, List.setIfInBounds_toArray, List.set_cons_zero, List.set_cons_succ]
  obtain ⟨gm, om, em, hlm, hcm⟩ := hrd6.str_at (k := j) hj
  cases em
  rw [Nat.zero_add, HMO.out] at hcm
  have kc2 : ∀ w', Below w6.heap.size w6 w' → w'.cell? ⟨w.heap.size, 0, none⟩ = some (.int .i64 Y) ∧ w'.cell? ⟨w.heap.size, 1, none⟩ = some (.int .i64 Mo) ∧ w'.cell? ⟨w.heap.size, 2, none⟩ = some (.int .i64 D) ∧ w'.cell? ⟨w.heap.size, 3, none⟩ = some (.int .i64 h) ∧ w'.cell? ⟨w.heap.size, 4, none⟩ = some (.int .i64 mi) ∧ w'.cell? ⟨w.heap.size, 5, none⟩ = some (.int .i64 s) ∧ w'.cell? ⟨w5.heap.size, j, none⟩ = some (.string mo) ∧ Below W1.heap.size W1 w' ∧ Below w6.heap.size w6 w' := fun w' hq => by obtain ⟨g0, g1, g2, g3, g4, g5, _⟩ := KC.out _ (bt hB6 hq); exact ⟨g0, g1, g2, g3, g4, g5, (hq.cell (p := ⟨w5.heap.size, j, none⟩) hlm).trans hcm, bt hB6 hq, hq⟩
  have KC2 := Lib.hid kc2; clear kc2 hcm hrd6
  refine wpAnyH_strong (S' := (fun w' => w'.cell? ⟨w.heap.size, 0, none⟩ = some (.int .i64 Y) ∧ w'.cell? ⟨w.heap.size, 1, none⟩ = some (.int .i64 Mo) ∧ w'.cell? ⟨w.heap.size, 2, none⟩ = some (.int .i64 D) ∧ w'.cell? ⟨w.heap.size, 3, none⟩ = some (.int .i64 h) ∧ w'.cell? ⟨w.heap.size, 4, none⟩ = some (.int .i64 mi) ∧ w'.cell? ⟨w.heap.size, 5, none⟩ = some (.int .i64 s) ∧ w'.cell? ⟨w5.heap.size, j, none⟩ = some (.string mo) ∧ Below W1.heap.size W1 w' ∧ Below w6.heap.size w6 w')) (fun _ hq => ⟨hq.1, hq.2.1, hq.2.2.1, hq.2.2.2.1, hq.2.2.2.2.1, hq.2.2.2.2.2.1, hq.2.2.2.2.2.2.2.1⟩) ?_
  replace hHeld := KC2.out _ (Below.refl _ w6)
  refine wpAnyH_take (i := 9) (v := ?_) (by simp only [List.getElem?_toArray, List.getElem?_cons_succ, List.getElem?_cons_zero]; exact rfl) (by kernel_rfl) (by kernel_rfl) (by kernel_rfl) (by intro _ _ _ h; exact h) (Or.inl ⟨by rfl, fun W hSw => ?_⟩) hHeld ?_
  rotate_left
  focus ((try dsimp only at hSw); first | (go_simp; done) | (go_simp; with_reducible rfl))
  try simp only [Act.put, List.setIfInBounds_toArray, List.set_cons_zero, List.set_cons_succ]
  refine wpAnyH_take (i := 10) (v := ?_) (by simp only [List.getElem?_toArray, List.getElem?_cons_succ, List.getElem?_cons_zero]; exact rfl) (by kernel_rfl) (by kernel_rfl) (by kernel_rfl) (by intro _ _ _ h; exact h) (Or.inl ⟨by rfl, fun W hSw => ?_⟩) hHeld ?_
  rotate_left
  focus ((try dsimp only at hSw); first | (go_simp; done) | (go_simp; with_reducible rfl))
  try simp only [Act.put, List.setIfInBounds_toArray, List.set_cons_zero, List.set_cons_succ]
  refine wpAnyH_take (i := 11) (v := ?_) (by simp only [List.getElem?_toArray, List.getElem?_cons_succ, List.getElem?_cons_zero]; exact rfl) (by kernel_rfl) (by kernel_rfl) (by kernel_rfl) (by intro _ _ _ h; exact h) (Or.inl ⟨by rfl, fun W hSw => ?_⟩) hHeld ?_
  rotate_left
  focus ((try dsimp only at hSw); first | (go_simp; done) | (go_simp; with_reducible rfl))
  try simp only [Act.put, List.setIfInBounds_toArray, List.set_cons_zero, List.set_cons_succ]
  refine wpAnyH_take (i := 12) (v := ?_) (by simp only [List.getElem?_toArray, List.getElem?_cons_succ, List.getElem?_cons_zero]; exact rfl) (by kernel_rfl) (by kernel_rfl) (by kernel_rfl) (by intro _ _ _ h; exact h) (Or.inl ⟨by rfl, fun W hSw => ?_⟩) hHeld ?_
  rotate_left
  focus ((try dsimp only at hSw); first | (go_simp; done) | (go_simp; with_reducible rfl))
  try simp only [Act.put, List.setIfInBounds_toArray, List.set_cons_zero, List.set_cons_succ]
  refine wpAnyH_take (i := 14) (v := ?_) (by simp only [List.getElem?_toArray, List.getElem?_cons_succ, List.getElem?_cons_zero]; exact rfl) (by kernel_rfl) (by kernel_rfl) (by kernel_rfl) (by intro _ _ _ h; exact h) (Or.inl ⟨by rfl, fun W hSw => ?_⟩) hHeld ?_
  rotate_left
  focus ((try dsimp only at hSw); first | (go_simp; done) | (go_simp; with_reducible rfl))
  try simp only [Act.put, List.setIfInBounds_toArray, List.set_cons_zero, List.set_cons_succ]
  refine wpAnyH_take (i := 15) (v := ?_) (by simp only [List.getElem?_toArray, List.getElem?_cons_succ, List.getElem?_cons_zero]; exact rfl) (by kernel_rfl) (by kernel_rfl) (by kernel_rfl) (by intro _ _ _ h; exact h) (Or.inl ⟨by rfl, fun W hSw => ?_⟩) hHeld ?_
  rotate_left
  focus ((try dsimp only at hSw); first | (go_simp; done) | (go_simp; with_reducible rfl))
  try simp only [Act.put, List.setIfInBounds_toArray, List.set_cons_zero, List.set_cons_succ]
  refine wpAnyH_ready (rs := [17]) (by kernel_rfl) (by simp) (AllReadyH.cons (by simp only [List.getElem?_toArray, List.getElem?_cons_succ, List.getElem?_cons_zero]; exact rfl) (fun K hK => ?_) AllReadyH.nil)
  rw [if_pos (by rfl)]
  go_simp
  (with_reducible refine (KK.out _).mono ?_); rintro e w7 ⟨rfl, hb7⟩; have hC7 := hb7; go_wp2_with fail
  refine hK.out _ _ (KC2.out _ hC7) (fun hHeld => ?_)
  clear hK K
  try simp only [Act.put, List.setIfInBounds_toArray, List.set_cons_zero, List.set_cons_succ]
  refine wpAnyH_take (i := 18) (v := ?_) (by simp only [List.getElem?_toArray, List.getElem?_cons_succ, List.getElem?_cons_zero]; exact rfl) (by kernel_rfl) (by kernel_rfl) (by kernel_rfl) (by intro _ _ _ h; exact h) (Or.inl ⟨by rfl, fun W hSw => ?_⟩) hHeld ?_
  rotate_left
  focus ((try dsimp only at hSw); first | (go_simp; done) | (go_simp; with_reducible rfl))
  try simp only [Act.put, List.setIfInBounds_toArray, List.set_cons_zero, List.set_cons_succ]
  refine wpAnyH_take (i := 19) (v := ?_) (by simp only [List.getElem?_toArray, List.getElem?_cons_succ, List.getElem?_cons_zero]; exact rfl) (by kernel_rfl) (by kernel_rfl) (by kernel_rfl) (by intro _ _ _ h; exact h) (Or.inl ⟨by rfl, fun W hSw => ?_⟩) hHeld ?_
  rotate_left
  focus ((try dsimp only at hSw); first | (go_simp; done) | (go_simp; with_reducible rfl))
  try simp only [Act.put, List.setIfInBounds_toArray, List.set_cons_zero, List.set_cons_succ]
  refine wpAnyH_ready (rs := [22]) (by kernel_rfl) (by simp) (AllReadyH.cons (by simp only [List.getElem?_toArray, List.getElem?_cons_succ, List.getElem?_cons_zero]; exact rfl) (fun K hK => ?_) AllReadyH.nil)
  rw [if_pos (by rfl)]
  go_simp
  (with_reducible refine (KY.out _).mono ?_); rintro e w8 ⟨rfl, hb8⟩; have hC8 := bt hC7 hb8; go_wp2_with fail
  refine hK.out _ _ (KC2.out _ hC8) (fun hHeld => ?_)
  clear hK K
  try simp only [Act.put, List.setIfInBounds_toArray, List.set_cons_zero, List.set_cons_succ]
  refine wpAnyH_take (i := 23) (v := ?_) (by simp only [List.getElem?_toArray, List.getElem?_cons_succ, List.getElem?_cons_zero]; exact rfl) (by kernel_rfl) (by kernel_rfl) (by kernel_rfl) (by intro _ _ _ h; exact h) (Or.inl ⟨by rfl, fun W hSw => ?_⟩) hHeld ?_
  rotate_left
  focus ((try dsimp only at hSw); first | (go_simp; done) | (go_simp; with_reducible rfl))
  try simp only [Act.put, List.setIfInBounds_toArray, List.set_cons_zero, List.set_cons_succ]
  refine wpAnyH_take (i := 24) (v := ?_) (by simp only [List.getElem?_toArray, List.getElem?_cons_succ, List.getElem?_cons_zero]; exact rfl) (by kernel_rfl) (by kernel_rfl) (by kernel_rfl) (by intro _ _ _ h; exact h) (Or.inl ⟨by rfl, fun W hSw => ?_⟩) hHeld ?_
  rotate_left
  focus ((try dsimp only at hSw); first | (go_simp; done) | (go_simp; with_reducible rfl))
  try simp only [Act.put, List.setIfInBounds_toArray, List.set_cons_zero, List.set_cons_succ]
  refine wpAnyH_done (by kernel_rfl) ?_ _
  clear hHeld
  go_wp2
  go_ret
  exact ⟨by rw [← HF.out]; rfl, bt b1 (bt hB6 hC8)⟩
end Go.Proofs.YtedmiganmifepaaGreatDoor
/- The document's dates: the walk of Parse (printed by wip/tools/rwalkc.py). -/
namespace Go.Proofs.YtedmiganmifepaaGreatDoor
open Go.RowKit
set_option maxRecDepth 100000

theorem imonthI_any (s : ByteArray) (i : Int) (a : Nat) (hi : i = a) (ha : a ≤ 1000000000) (w : World) :
    Calls Tryz.prog 36 #[.string s, .int .i64 i] w fun e w' => e = .returned (.int .i64 (rmonth s.data.toList a)) ∧ Below w.heap.size w w' := by
  subst hi
  exact imonth_any s a ha w
theorem comma_in : ∀ (l : List UInt8) (k : Nat) (_ : k < (l.takeWhile (· != 44)).length), ∃ h2 : k < l.length, l[k] ≠ 44
  | [], k, h => by simp at h
  | x :: r, k, h => by
    by_cases hx : x = 44
    · subst hx; simp at h
    · rw [List.takeWhile_cons_of_pos (by simpa using hx)] at h
      match k with
      | 0 => exact ⟨by simp, by simpa using hx⟩
      | k + 1 =>
        obtain ⟨h2, h3⟩ := comma_in r k (by simpa using h)
        exact ⟨by simpa using h2, by simpa using h3⟩
theorem comma_end : ∀ (l : List UInt8) (_ : (l.takeWhile (· != 44)).length < l.length), l[(l.takeWhile (· != 44)).length] = 44
  | [], h => by simp at h
  | x :: r, h => by
    by_cases hx : x = 44
    · subst hx; simp
    · have e : (x :: r).takeWhile (· != 44) = x :: r.takeWhile (· != 44) := List.takeWhile_cons_of_pos (by simpa using hx)
      have h' : (r.takeWhile (· != 44)).length < r.length := by rw [e] at h; simpa using h
      have := comma_end r h'
      simp only [e, List.length_cons, List.getElem_cons_succ]
      exact this
theorem comma_le (l : List UInt8) : (l.takeWhile (· != 44)).length ≤ l.length := by
  have := List.takeWhile_append_dropWhile (p := fun x : UInt8 => x != 44) (l := l)
  have h := congrArg List.length this
  rw [List.length_append] at h
  omega
set_option maxHeartbeats 64000000 in
theorem iparse_any (s : ByteArray) (now : Int) (hs : s.size ≤ 1000000) (w : World) :
    Calls Tryz.prog 20 #[.string s, .int .i64 now] w fun e w' => e = .returned (.tuple #[.int .i64 (rparse s.data.toList now).1, .int .i64 (rparse s.data.toList now).2]) ∧ Below w.heap.size w w' := by
  obtain ⟨R, hR⟩ : ∃ R, rparse s.data.toList now = R := ⟨_, rfl⟩
  rw [hR]
  unfold rparse rdA rdB rdC rdE at hR
  have hln : s.data.toList.length = s.size := (Lib.size_eq s).symm
  have hcle := comma_le s.data.toList
  have hcin : ∀ k (h : k < rcomma s.data.toList), ∃ h2 : k < s.size, s[k].toNat ≠ 44 := fun k h => by
    obtain ⟨h2, h3⟩ := comma_in s.data.toList k h
    refine ⟨by omega, fun e => h3 ?_⟩
    rw [← UInt8.toNat_inj]
    exact e
  have hcend : ∀ h : rcomma s.data.toList < s.size, s[rcomma s.data.toList].toNat = 44 := fun h => by
    have := comma_end s.data.toList (by show rcomma s.data.toList < _; omega)
    have h2 : s[rcomma s.data.toList] = 44 := this
    rw [h2]; rfl
  have hcs : rcomma s.data.toList ≤ s.size := by rw [← hln]; exact hcle
  clear hcle
  have hsh := rnum_hi2 s.data.toList (rcomma s.data.toList + 9)
  have ka1 := fun W => inumI_any s 5 2 5 2 rfl rfl (by omega) (by omega) W
  have ka2 := fun W => imonthI_any s 8 8 rfl (by omega) W
  have ka3 := fun W => inumI_any s 12 4 12 4 rfl rfl (by omega) (by omega) W
  have ka4 : ∀ Y Mo D W, Calls Tryz.prog 37 #[.agg #[.int .i64 Y, .int .i64 Mo, .int .i64 D, .int .i64 0, .int .i64 0, .int .i64 0], .string s, .int .i64 17] W fun e w' => e = .returned (.agg #[.int .i64 Y, .int .i64 Mo, .int .i64 D, .int .i64 (rnum s.data.toList 17 2), .int .i64 (rnum s.data.toList 20 2), .int .i64 (rnum s.data.toList 23 2)]) ∧ Below W.heap.size W w' := fun Y Mo D W => itime_any Y Mo D 0 0 0 s 17 17 rfl (by omega) W
  have kb0 := fun W => inumI_any s ((rcomma s.data.toList : Int) + 9) 2 (rcomma s.data.toList + 9) 2 (by omega) rfl (by omega) (by omega) W
  have kb1 := fun W => inumI_any s ((rcomma s.data.toList : Int) + 2) 2 (rcomma s.data.toList + 2) 2 (by omega) rfl (by omega) (by omega) W
  have kb2 := fun W => imonthI_any s ((rcomma s.data.toList : Int) + 5) (rcomma s.data.toList + 5) (by omega) (by omega) W
  have kb3 := fun h W => inear_any (rnum s.data.toList (rcomma s.data.toList + 9) 2) now ⟨h, hsh⟩ W
  have kb4 : ∀ Y Mo D W, Calls Tryz.prog 37 #[.agg #[.int .i64 Y, .int .i64 Mo, .int .i64 D, .int .i64 0, .int .i64 0, .int .i64 0], .string s, .int .i64 ((rcomma s.data.toList : Int) + 12)] W fun e w' => e = .returned (.agg #[.int .i64 Y, .int .i64 Mo, .int .i64 D, .int .i64 (rnum s.data.toList (rcomma s.data.toList + 12) 2), .int .i64 (rnum s.data.toList (rcomma s.data.toList + 15) 2), .int .i64 (rnum s.data.toList (rcomma s.data.toList + 18) 2)]) ∧ Below W.heap.size W w' := fun Y Mo D W => itime_any Y Mo D 0 0 0 s ((rcomma s.data.toList : Int) + 12) (rcomma s.data.toList + 12) (by omega) (by omega) W
  have kc1 := fun W => inumI_any s 8 2 8 2 rfl rfl (by omega) (by omega) W
  have kc2 := fun W => imonthI_any s 4 4 rfl (by omega) W
  have kc3 := fun W => inumI_any s 20 4 20 4 rfl rfl (by omega) (by omega) W
  have kc4 : ∀ Y Mo D W, Calls Tryz.prog 37 #[.agg #[.int .i64 Y, .int .i64 Mo, .int .i64 D, .int .i64 0, .int .i64 0, .int .i64 0], .string s, .int .i64 11] W fun e w' => e = .returned (.agg #[.int .i64 Y, .int .i64 Mo, .int .i64 D, .int .i64 (rnum s.data.toList 11 2), .int .i64 (rnum s.data.toList 14 2), .int .i64 (rnum s.data.toList 17 2)]) ∧ Below W.heap.size W w' := fun Y Mo D W => itime_any Y Mo D 0 0 0 s 11 11 rfl (by omega) W
  have ke1 := fun W => inumI_any s 9 1 9 1 rfl rfl (by omega) (by omega) W
  generalize rnum s.data.toList 17 2 = ah at *
  generalize rnum s.data.toList 20 2 = am at *
  generalize rnum s.data.toList 23 2 = as_ at *
  generalize rnum s.data.toList 5 2 = aD at *
  generalize rmonth s.data.toList 8 = aM at *
  generalize rnum s.data.toList 12 4 = aY at *
  generalize rnum s.data.toList (rcomma s.data.toList + 9) 2 = sh at *
  generalize rnum s.data.toList (rcomma s.data.toList + 2) 2 = bD at *
  generalize rmonth s.data.toList (rcomma s.data.toList + 5) = bM at *
  generalize rnum s.data.toList (rcomma s.data.toList + 12) 2 = bh at *
  generalize rnum s.data.toList (rcomma s.data.toList + 15) 2 = bm at *
  generalize rnum s.data.toList (rcomma s.data.toList + 18) 2 = bs at *
  generalize rnear sh now = bY at *
  generalize rnum s.data.toList 8 2 = cD at *
  generalize rmonth s.data.toList 4 = cM at *
  generalize rnum s.data.toList 20 4 = cY at *
  generalize rnum s.data.toList 11 2 = ch at *
  generalize rnum s.data.toList 14 2 = cm_ at *
  generalize rnum s.data.toList 9 1 = eD at *
  generalize rcomma s.data.toList = cm at *
  have hmA := fun W => imay_any aY aM aD ah am as_ W
  have hfA := fun (h : rmay ⟨aY, aM, aD, ah, am, as_⟩ = true) W => ifixed_any aY aM aD ah am as_ h W
  have htA := fun (h : rmay ⟨aY, aM, aD, ah, am, as_⟩ = true) W => itick_any aY aM aD ah am as_ h W
  generalize rmay ⟨aY, aM, aD, ah, am, as_⟩ = mA at *
  generalize rfixed ⟨aY, aM, aD, ah, am, as_⟩ = fA at *
  generalize rtick ⟨aY, aM, aD, ah, am, as_⟩ = tA at *
  have HMA := Lib.hid hmA; have HFA := Lib.hid hfA; have HTA := Lib.hid htA
  clear hmA hfA htA
  have hmB := fun W => imay_any bY bM bD bh bm bs W
  have hfB := fun (h : rmay ⟨bY, bM, bD, bh, bm, bs⟩ = true) W => iold_any bY bM bD bh bm bs h W
  have htB := fun (h : rmay ⟨bY, bM, bD, bh, bm, bs⟩ = true) W => itick_any bY bM bD bh bm bs h W
  generalize rmay ⟨bY, bM, bD, bh, bm, bs⟩ = mB at *
  generalize rold ⟨bY, bM, bD, bh, bm, bs⟩ = fB at *
  generalize rtick ⟨bY, bM, bD, bh, bm, bs⟩ = tB at *
  have HMB := Lib.hid hmB; have HFB := Lib.hid hfB; have HTB := Lib.hid htB
  clear hmB hfB htB
  have hmC := fun W => imay_any cY cM cD ch cm_ ah W
  have hfC := fun (h : rmay ⟨cY, cM, cD, ch, cm_, ah⟩ = true) W => iplainF_any cY cM cD ch cm_ ah h W
  have htC := fun (h : rmay ⟨cY, cM, cD, ch, cm_, ah⟩ = true) W => itick_any cY cM cD ch cm_ ah h W
  generalize rmay ⟨cY, cM, cD, ch, cm_, ah⟩ = mC at *
  generalize rplain ⟨cY, cM, cD, ch, cm_, ah⟩ false = fC at *
  generalize rtick ⟨cY, cM, cD, ch, cm_, ah⟩ = tC at *
  have HMC := Lib.hid hmC; have HFC := Lib.hid hfC; have HTC := Lib.hid htC
  clear hmC hfC htC
  have hmE := fun W => imay_any cY cM eD ch cm_ ah W
  have hfE := fun (h : rmay ⟨cY, cM, eD, ch, cm_, ah⟩ = true) W => iplainT_any cY cM eD ch cm_ ah h W
  have htE := fun (h : rmay ⟨cY, cM, eD, ch, cm_, ah⟩ = true) W => itick_any cY cM eD ch cm_ ah h W
  generalize rmay ⟨cY, cM, eD, ch, cm_, ah⟩ = mE at *
  generalize rplain ⟨cY, cM, eD, ch, cm_, ah⟩ true = fE at *
  generalize rtick ⟨cY, cM, eD, ch, cm_, ah⟩ = tE at *
  have HME := Lib.hid hmE; have HFE := Lib.hid hfE; have HTE := Lib.hid htE
  clear hmE hfE htE
  rw [← Lib.toList_data] at hR
  have HR := Lib.hid hR
  have KA1 := Lib.hid ka1; have KA2 := Lib.hid ka2; have KA3 := Lib.hid ka3; have KA4 := Lib.hid ka4
  have KB0 := Lib.hid kb0; have KB1 := Lib.hid kb1; have KB2 := Lib.hid kb2; have KB3 := Lib.hid kb3; have KB4 := Lib.hid kb4
  have KC1 := Lib.hid kc1; have KC2 := Lib.hid kc2; have KC3 := Lib.hid kc3; have KC4 := Lib.hid kc4; have KE1 := Lib.hid ke1
  have CIN := Lib.hid hcin; have CEND := Lib.hid hcend
  clear hR ka1 ka2 ka3 ka4 kb0 kb1 kb2 kb3 kb4 kc1 kc2 kc3 kc4 ke1 hcin hcend hln
  have w9 : IntKind.i64.wrap ((cm : Int) + 9) = (cm : Int) + 9 := by rw [IntKind.wrap_i64]; omega
  have w2 : IntKind.i64.wrap ((cm : Int) + 2) = (cm : Int) + 2 := by rw [IntKind.wrap_i64]; omega
  have w5 : IntKind.i64.wrap ((cm : Int) + 5) = (cm : Int) + 5 := by rw [IntKind.wrap_i64]; omega
  have w12 : IntKind.i64.wrap ((cm : Int) + 12) = (cm : Int) + 12 := by rw [IntKind.wrap_i64]; omega
  go_enter Tryz.func20, Tryz.ntmps20
  go_wp2_with fail
  (with_reducible refine (KA1.out _).mono ?_)
  rintro e v0 ⟨rfl, hv0⟩
  subst hv0
  go_wp2_with fail
  (with_reducible refine (KA2.out _).mono ?_)
  rintro e v1 ⟨rfl, hv1⟩
  go_wp2_with fail
  (with_reducible refine (KA3.out _).mono ?_)
  rintro e v3 ⟨rfl, hv3⟩
  subst hv3
  go_wp2_with fail
  (with_reducible refine (KA4.out _ _ _ _).mono ?_)
  rintro e v2 ⟨rfl, hv2⟩
  have hv := bt hv1 hv2
  clear hv1 hv2
  obtain ⟨W1, hW1⟩ : ∃ W, v2.alloc (.cells #[.int .i64 aY, .int .i64 aM, .int .i64 aD, .int .i64 ah, .int .i64 am, .int .i64 as_] 65) = W := ⟨_, rfl⟩
  have bW1 : Below v2.heap.size v2 W1 := by rw [← hW1]; exact (Below.refl v2.heap.size v2).alloc (Nat.le_refl _) _
  have xW1 : DateAt v2.heap.size aY aM aD ah am as_ W1 := by rw [← hW1]; exact heap_new v2 _ _ rfl
  have XW1 := Lib.hid xW1; have HBW1 := Lib.hid (bt hv bW1); have HW1 := Lib.hid hW1
  clear xW1 bW1 hW1
  go_upto_region 2 with (fail)
  rw [HW1.out]
  go_cut [27] (fun sc wx => sc = .bool (mA && (fA == s.toList)) ∧ Below W1.heap.size W1 wx)
  case first =>
    cases hm : mA
    · rw [hm] at HMA
      obtain ⟨d0, d1, d2, d3, d4, d5, _⟩ := XW1.out.cells
      go_wp2_with fail
      (with_reducible refine (HMA.out _).mono ?_)
      rintro e y1 ⟨rfl, hy1⟩
      clear d0 d1 d2 d3 d4 d5
      go_wp2
      go_meet
      exact ⟨by rw [hm]; rfl, hy1⟩
    · rw [hm] at HMA
      have kf := HFA.out hm
      have KF := Lib.hid kf
      clear kf
      obtain ⟨d0, d1, d2, d3, d4, d5, _⟩ := XW1.out.cells
      go_wp2_with fail
      (with_reducible refine (HMA.out _).mono ?_)
      rintro e y1 ⟨rfl, hy1⟩
      clear d0 d1 d2 d3 d4 d5
      obtain ⟨d0, d1, d2, d3, d4, d5, _⟩ := (XW1.out.below hy1).cells
      go_wp2_with fail
      (with_reducible refine (KF.out _).mono ?_)
      rintro e y2 ⟨rfl, hy2⟩
      clear d0 d1 d2 d3 d4 d5
      have hy := bt hy1 hy2
      cases hq : (fA == s.toList)
      · go_wp2
        go_meet
        exact ⟨by rw [hm, hq]; rfl, hy⟩
      · go_wp2
        go_meet
        exact ⟨by rw [hm, hq]; rfl, hy⟩
  case rest =>
    obtain ⟨rfl, hcb⟩ := hcut
    have hCB := bt HBW1.out hcb
    cases hp : (mA && (fA == s.toList))
    rotate_left
    · rw [Bool.and_eq_true, beq_iff_eq] at hp
      have hm := hp.1
      have hr := HR.out
      rw [if_pos hp] at hr
      subst hr
      clear HR hp
      have kt := HTA.out hm
      have KT := Lib.hid kt
      clear kt
      obtain ⟨d0, d1, d2, d3, d4, d5, _⟩ := (XW1.out.below hcb).cells
      go_wp2_with fail
      (with_reducible refine (KT.out _).mono ?_)
      rintro e y3 ⟨rfl, hy3⟩
      clear d0 d1 d2 d3 d4 d5
      go_wp2
      go_ret2
      exact ⟨rfl, bt hCB hy3⟩
    · have hn : ¬ (mA = true ∧ fA = s.toList) := by
        intro h
        rw [h.1, h.2] at hp
        simp at hp
      have hr := HR.out
      rw [if_neg hn] at hr
      have HR2 := Lib.hid hr
      obtain ⟨WC, hWC⟩ : ∃ W : World, W = wc := ⟨_, rfl⟩
      subst hWC
      clear HR hr hn hp HMA HFA HTA KA1 KA2 KA3 KA4 XW1 HW1 HBW1 hcb hv
      go_wp2_with fail
      go_loopw [7] (fun i wr => ∃ k : Nat, k ≤ cm ∧ i = .int .i64 k ∧ wr = WC) (fun i _ => cm - (intOf i).toNat)
      case atStart => exact ⟨0, Nat.zero_le _, rfl, rfl⟩
      case round =>
        obtain ⟨k, hk, rfl, rfl⟩ := hrel
        by_cases hlt : k < cm
        · obtain ⟨h2, h3⟩ := CIN.out k hlt
          have t1 : decide ((k : Int) < (s.size : Int)) = true := by simp; omega
          have t2 : ((s[k].toNat : Int) == 44) = false := by rw [beq_eq_false_iff_ne]; omega
          have t3 : ((s[k].toNat : Int) != 44) = true := by simp [bne, t2]
          have hu := u8_lt s[k]
          go_wp2
          go_roundw
          case rel => exact ⟨k + 1, hlt, by go_num, trivial⟩
          case measure => simp [intOf]; omega
        · have hke : k = cm := by omega
          subst hke
          have hend := CEND.out
          obtain ⟨wx, hwx⟩ : ∃ W : World, W = wr := ⟨_, rfl⟩
          subst hwx
          have stop : ∀ b1 b2 : Bool, True := fun _ _ => trivial
          clear stop
          by_cases hin : k < s.size
          all_goals (
            first
            | (have h44 := hend hin
               have t1 : decide ((k : Int) < (s.size : Int)) = true := by simp; omega
               have t2 : ((s[k].toNat : Int) == 44) = true := by rw [beq_iff_eq]; omega
               have t3 : ((s[k].toNat : Int) != 44) = false := by simp [bne, t2])
            | (have t1 : decide ((k : Int) < (s.size : Int)) = false := by simp; omega)
            clear hend CIN CEND
            go_wp2_with fail
            (with_reducible refine (KB0.out _).mono ?_)
            rintro e v9 ⟨rfl, hv9⟩
            subst hv9
            try clear t2 t3 h44
            clear t1
            go_upto_if 47 with (fail)
            go_cut [8] (fun sc wx => sc = .int .i64 sh ∧ Hid (¬ (0 ≤ sh ∧ mB = true ∧ fB = s.toList)) ∧ Below v9.heap.size v9 wx)
            case first =>
              by_cases hge : 0 ≤ sh
              · have t5 : decide (sh ≥ 0) = true := by simpa using hge
                have t6 : decide (0 ≤ sh) = true := by simpa using hge
                go_wp2_with fail
                (with_reducible refine (KB1.out _).mono ?_)
                rintro e v0 ⟨rfl, hv0⟩
                subst hv0
                go_wp2_with fail
                (with_reducible refine (KB2.out _).mono ?_)
                rintro e v1 ⟨rfl, hv1⟩
                go_wp2_with fail
                (with_reducible refine (KB3.out hge _).mono ?_)
                rintro e v3 ⟨rfl, hv3⟩
                have hv13 := bt hv1 hv3
                go_wp2_with fail
                (with_reducible refine (KB4.out _ _ _ _).mono ?_)
                rintro e v2 ⟨rfl, hv2⟩
                have hv := bt hv13 hv2
                clear hv1 hv2 hv3 hv13
                obtain ⟨W2, hW2⟩ : ∃ W, v2.alloc (.cells #[.int .i64 bY, .int .i64 bM, .int .i64 bD, .int .i64 bh, .int .i64 bm, .int .i64 bs] 65) = W := ⟨_, rfl⟩
                have bW2 : Below v2.heap.size v2 W2 := by rw [← hW2]; exact (Below.refl v2.heap.size v2).alloc (Nat.le_refl _) _
                have xW2 : DateAt v2.heap.size bY bM bD bh bm bs W2 := by rw [← hW2]; exact heap_new v2 _ _ rfl
                have XW2 := Lib.hid xW2; have HBW2 := Lib.hid (bt hv bW2); have HW2 := Lib.hid hW2
                clear xW2 bW2 hW2
                go_upto_region 10 with (fail)
                rw [HW2.out]
                go_cut [71] (fun sc wx => sc = .bool (mB && (fB == s.toList)) ∧ Below W2.heap.size W2 wx)
                case first =>
                  cases hm : mB
                  · rw [hm] at HMB
                    obtain ⟨d0, d1, d2, d3, d4, d5, _⟩ := XW2.out.cells
                    go_wp2_with fail
                    (with_reducible refine (HMB.out _).mono ?_)
                    rintro e y1 ⟨rfl, hy1⟩
                    clear d0 d1 d2 d3 d4 d5
                    go_wp2
                    go_meet
                    exact ⟨by rw [hm]; rfl, hy1⟩
                  · rw [hm] at HMB
                    have kf := HFB.out hm
                    have KF := Lib.hid kf
                    clear kf
                    obtain ⟨d0, d1, d2, d3, d4, d5, _⟩ := XW2.out.cells
                    go_wp2_with fail
                    (with_reducible refine (HMB.out _).mono ?_)
                    rintro e y1 ⟨rfl, hy1⟩
                    clear d0 d1 d2 d3 d4 d5
                    obtain ⟨d0, d1, d2, d3, d4, d5, _⟩ := (XW2.out.below hy1).cells
                    go_wp2_with fail
                    (with_reducible refine (KF.out _).mono ?_)
                    rintro e y2 ⟨rfl, hy2⟩
                    clear d0 d1 d2 d3 d4 d5
                    have hy := bt hy1 hy2
                    cases hq : (fB == s.toList)
                    · go_wp2
                      go_meet
                      exact ⟨by rw [hm, hq]; rfl, hy⟩
                    · go_wp2
                      go_meet
                      exact ⟨by rw [hm, hq]; rfl, hy⟩
                case rest =>
                  obtain ⟨rfl, hcb⟩ := hcut
                  have hCB2 := bt HBW2.out hcb
                  cases hp : (mB && (fB == s.toList))
                  rotate_left
                  · rw [Bool.and_eq_true, beq_iff_eq] at hp
                    have hm := hp.1
                    have hr := HR2.out
                    rw [if_pos ⟨hge, hp⟩] at hr
                    subst hr
                    clear HR2 hp
                    have kt := HTB.out hm
                    have KT := Lib.hid kt
                    clear kt
                    obtain ⟨d0, d1, d2, d3, d4, d5, _⟩ := (XW2.out.below hcb).cells
                    go_wp2_with fail
                    (with_reducible refine (KT.out _).mono ?_)
                    rintro e y3 ⟨rfl, hy3⟩
                    clear d0 d1 d2 d3 d4 d5
                    go_wp2
                    go_ret2
                    exact ⟨rfl, bt (bt hCB hCB2) hy3⟩
                  · have hn : ¬ (0 ≤ sh ∧ mB = true ∧ fB = s.toList) := by
                      intro h
                      rw [h.2.1, h.2.2] at hp
                      simp at hp
                    have HN := Lib.hid hn
                    clear hn hp
                    go_wp2
                    go_meet
                    exact ⟨rfl, HN, hCB2⟩
              · have t5 : decide (sh ≥ 0) = false := by simpa using hge
                have t6 : decide (0 ≤ sh) = false := by simpa using hge
                go_wp2
                go_meet
                exact ⟨rfl, Lib.hid (fun h => by have := h.1; omega), Below.refl _ _⟩
            case rest =>
              obtain ⟨rfl, HN, hcb3⟩ := hcut
              have hr := HR2.out
              rw [if_neg HN.out] at hr
              have HR3 := Lib.hid hr
              have hCC := bt hCB hcb3
              clear hr HR2 HN hcb3 KB0 KB1 KB2 KB3 KB4 HMB HFB HTB
              go_wp2_with fail
              (with_reducible refine (KC1.out _).mono ?_)
              rintro e v0 ⟨rfl, hv0⟩
              subst hv0
              go_wp2_with fail
              (with_reducible refine (KC2.out _).mono ?_)
              rintro e v1 ⟨rfl, hv1⟩
              go_wp2_with fail
              (with_reducible refine (KC3.out _).mono ?_)
              rintro e v3 ⟨rfl, hv3⟩
              subst hv3
              go_wp2_with fail
              (with_reducible refine (KC4.out _ _ _ _).mono ?_)
              rintro e v2 ⟨rfl, hv2⟩
              have hv := bt hv1 hv2
              clear hv1 hv2
              obtain ⟨W3, hW3⟩ : ∃ W, v2.alloc (.cells #[.int .i64 cY, .int .i64 cM, .int .i64 cD, .int .i64 ch, .int .i64 cm_, .int .i64 ah] 65) = W := ⟨_, rfl⟩
              have bW3 : Below v2.heap.size v2 W3 := by rw [← hW3]; exact (Below.refl v2.heap.size v2).alloc (Nat.le_refl _) _
              have xW3 : DateAt v2.heap.size cY cM cD ch cm_ ah W3 := by rw [← hW3]; exact heap_new v2 _ _ rfl
              have XW3 := Lib.hid xW3; have HBW3 := Lib.hid (bt hv bW3); have HW3 := Lib.hid hW3
              clear xW3 bW3 hW3
              go_upto_region 13 with (fail)
              rw [HW3.out]
              go_cut [90] (fun sc wx => sc = .bool (mC && (fC == s.toList)) ∧ Below W3.heap.size W3 wx)
              case first =>
                cases hm : mC
                · rw [hm] at HMC
                  obtain ⟨d0, d1, d2, d3, d4, d5, _⟩ := XW3.out.cells
                  go_wp2_with fail
                  (with_reducible refine (HMC.out _).mono ?_)
                  rintro e y1 ⟨rfl, hy1⟩
                  clear d0 d1 d2 d3 d4 d5
                  go_wp2
                  go_meet
                  exact ⟨by rw [hm]; rfl, hy1⟩
                · rw [hm] at HMC
                  have kf := HFC.out hm
                  have KF := Lib.hid kf
                  clear kf
                  obtain ⟨d0, d1, d2, d3, d4, d5, _⟩ := XW3.out.cells
                  go_wp2_with fail
                  (with_reducible refine (HMC.out _).mono ?_)
                  rintro e y1 ⟨rfl, hy1⟩
                  clear d0 d1 d2 d3 d4 d5
                  obtain ⟨d0, d1, d2, d3, d4, d5, _⟩ := (XW3.out.below hy1).cells
                  go_wp2_with fail
                  (with_reducible refine (KF.out _).mono ?_)
                  rintro e y2 ⟨rfl, hy2⟩
                  clear d0 d1 d2 d3 d4 d5
                  have hy := bt hy1 hy2
                  cases hq : (fC == s.toList)
                  · go_wp2
                    go_meet
                    exact ⟨by rw [hm, hq]; rfl, hy⟩
                  · go_wp2
                    go_meet
                    exact ⟨by rw [hm, hq]; rfl, hy⟩
              case rest =>
                obtain ⟨rfl, hcb⟩ := hcut
                have hCD := bt hCC (bt HBW3.out hcb)
                cases hp : (mC && (fC == s.toList))
                rotate_left
                · rw [Bool.and_eq_true, beq_iff_eq] at hp
                  have hm := hp.1
                  have hr := HR3.out
                  rw [if_pos hp] at hr
                  subst hr
                  clear HR3 hp
                  have kt := HTC.out hm
                  have KT := Lib.hid kt
                  clear kt
                  obtain ⟨d0, d1, d2, d3, d4, d5, _⟩ := (XW3.out.below hcb).cells
                  go_wp2_with fail
                  (with_reducible refine (KT.out _).mono ?_)
                  rintro e y3 ⟨rfl, hy3⟩
                  clear d0 d1 d2 d3 d4 d5
                  go_wp2
                  go_ret2
                  exact ⟨rfl, bt hCD hy3⟩
                · have hn : ¬ (mC = true ∧ fC = s.toList) := by
                    intro h
                    rw [h.1, h.2] at hp
                    simp at hp
                  have hr := HR3.out
                  rw [if_neg hn] at hr
                  have HR4 := Lib.hid hr
                  have XD := Lib.hid (XW3.out.below hcb)
                  clear hr hn hp HR3 HMC HFC HTC KC1 KC2 KC3 KC4
                  obtain ⟨T, hT⟩ : ∃ T, v2.heap.size = T := ⟨_, rfl⟩
                  rw [hT] at XD ⊢
                  have HT := Lib.hid hT
                  clear hT
                  obtain ⟨d0, d1, d2, d3, d4, d5, dl⟩ := XD.out.cells
                  obtain ⟨q0, q1, q2, q3, q4, q5⟩ := XD.out.frozen
                  go_wp2_with fail
                  (with_reducible refine (KE1.out _).mono ?_)
                  rintro e v4 ⟨rfl, hv4⟩
                  subst hv4
                  have xe := XD.out.set2 eD
                  have be := hCD.setCell (p := ⟨T, 2, none⟩) (by have h1 := hCC.size; have h2 := hv.size; have h3 := HT.out; show _ ≤ T; omega) (.int .i64 eD)
                  obtain ⟨W4, hW4⟩ : ∃ W, World.setCell v4 ⟨T, 2, none⟩ (.int .i64 eD) = W := ⟨_, rfl⟩
                  rw [hW4] at xe be
                  have XW4 := Lib.hid xe; have HW4 := Lib.hid hW4
                  clear xe hW4
                  go_upto_region 16 with (fail)
                  clear d0 d1 d2 d3 d4 d5 q0 q1 q2 q3 q4 q5 dl
                  rw [HW4.out]
                  go_cut [103] (fun sc wx => sc = .bool (mE && (fE == s.toList)) ∧ Below W4.heap.size W4 wx)
                  case first =>
                    cases hm : mE
                    · rw [hm] at HME
                      obtain ⟨d0, d1, d2, d3, d4, d5, _⟩ := XW4.out.cells
                      go_wp2_with fail
                      (with_reducible refine (HME.out _).mono ?_)
                      rintro e y1 ⟨rfl, hy1⟩
                      clear d0 d1 d2 d3 d4 d5
                      go_wp2
                      go_meet
                      exact ⟨by rw [hm]; rfl, hy1⟩
                    · rw [hm] at HME
                      have kf := HFE.out hm
                      have KF := Lib.hid kf
                      clear kf
                      obtain ⟨d0, d1, d2, d3, d4, d5, _⟩ := XW4.out.cells
                      go_wp2_with fail
                      (with_reducible refine (HME.out _).mono ?_)
                      rintro e y1 ⟨rfl, hy1⟩
                      clear d0 d1 d2 d3 d4 d5
                      obtain ⟨d0, d1, d2, d3, d4, d5, _⟩ := (XW4.out.below hy1).cells
                      go_wp2_with fail
                      (with_reducible refine (KF.out _).mono ?_)
                      rintro e y2 ⟨rfl, hy2⟩
                      clear d0 d1 d2 d3 d4 d5
                      have hy := bt hy1 hy2
                      cases hq : (fE == s.toList)
                      · go_wp2
                        go_meet
                        exact ⟨by rw [hm, hq]; rfl, hy⟩
                      · go_wp2
                        go_meet
                        exact ⟨by rw [hm, hq]; rfl, hy⟩
                  case rest =>
                    obtain ⟨rfl, hcb⟩ := hcut
                    have hCE := bt be hcb
                    cases hp : (mE && (fE == s.toList))
                    rotate_left
                    · rw [Bool.and_eq_true, beq_iff_eq] at hp
                      have hm := hp.1
                      have hr := HR4.out
                      rw [if_pos hp] at hr
                      subst hr
                      clear HR4 hp
                      have kt := HTE.out hm
                      have KT := Lib.hid kt
                      clear kt
                      obtain ⟨d0, d1, d2, d3, d4, d5, _⟩ := (XW4.out.below hcb).cells
                      go_wp2_with fail
                      (with_reducible refine (KT.out _).mono ?_)
                      rintro e y3 ⟨rfl, hy3⟩
                      clear d0 d1 d2 d3 d4 d5
                      go_wp2
                      go_ret2
                      exact ⟨rfl, bt hCE hy3⟩
                    · have hn : ¬ (mE = true ∧ fE = s.toList) := by
                        intro h
                        rw [h.1, h.2] at hp
                        simp at hp
                      have hr := HR4.out
                      rw [if_neg hn] at hr
                      subst hr
                      clear HR4 hn hp
                      go_wp2
                      go_ret2
                      exact ⟨rfl, hCE⟩)
end Go.Proofs.YtedmiganmifepaaGreatDoor
/- The document's NotModified (printed by wip/tools/rnot.py). -/
namespace Go.Proofs.YtedmiganmifepaaGreatDoor
open Go.RowKit
set_option maxRecDepth 100000

theorem same_comm (x y : Ent) : x.same y = y.same x := by
  unfold Ent.same
  rw [Bool.and_comm x.right, show (x.tag.data.toList == y.tag.data.toList) = (y.tag.data.toList == x.tag.data.toList) from by rw [Bool.eq_iff_iff, beq_iff_eq, beq_iff_eq]; exact eq_comm]
theorem getL_no {xs : List Fld} {nm : List UInt8} (h : (getL xs nm).2 = false) : (getL xs nm).1 = [] := by
  unfold getL at *
  simp only [decide_eq_false_iff_not] at h
  have : valuesL xs nm = [] := List.length_eq_zero_iff.1 (by omega)
  simp only [this]
  rfl
set_option maxHeartbeats 16000000 in
theorem rnotMod_any (A B : Option Addr) (n c m d : Nat) (st mi : Int) (re bo : ByteArray) (xs ys : List Fld) (now : Int) (w : World) (hr : Rd A n 2 (fldsV xs) w) (hq : Rd B m 2 (fldsV ys) w) (hn : n ≤ 100) (hm : m ≤ 100) (hs : sumF xs ≤ 7000) (hsq : sumF ys ≤ 7000) :
    Calls Tryz.prog 7 #[.slice A n c, .agg #[.int .i64 st, .string re, .int .i64 mi, .slice B m d, .string bo], .int .i64 now] w fun e w' => e = .returned (.bool (notModL xs ys now)) ∧ Below w.heap.size w w' := by
  obtain ⟨W1, hW1⟩ : ∃ W, w.alloc (.cells #[.int .i64 st, .string re, .int .i64 mi, .slice B m d, .string bo] 26) = W := ⟨_, rfl⟩
  have b1 : Below w.heap.size w W1 := by rw [← hW1]; exact (Below.refl w.heap.size w).alloc (Nat.le_refl _) _
  have x1 : W1.heap[w.heap.size]? = some (.cells #[.int .i64 st, .string re, .int .i64 mi, .slice B m d, .string bo] 26 (0, 0)) := by rw [← hW1]; exact heap_new w _ _ rfl
  have z1 : w.heap.size < W1.heap.size := by rw [← hW1]; simp
  have kc : ∀ w', Below W1.heap.size W1 w' → w'.cell? ⟨w.heap.size, 3, none⟩ = some (.slice B m d) := fun w' hb => (of_heap ((hb.block w.heap.size z1).trans x1) 3).1
  have hxf := hr.fld; have hyf := hq.fld
  have k1 := fun W (hb : Below W1.heap.size W1 W) => rget_any A n c xs ⟨#[105, 102, 45, 110, 111, 110, 101, 45, 109, 97, 116, 99, 104]⟩ W ((hr.below b1).below hb) (by omega) (by omega) (by decide)
  have k2 := fun W (hb : Below W1.heap.size W1 W) => rget_any B m d ys ⟨#[101, 116, 97, 103]⟩ W ((hq.below b1).below hb) (by omega) (by omega) (by decide)
  have k3 := fun W (hb : Below W1.heap.size W1 W) => rget_any A n c xs ⟨#[105, 102, 45, 109, 111, 100, 105, 102, 105, 101, 100, 45, 115, 105, 110, 99, 101]⟩ W ((hr.below b1).below hb) (by omega) (by omega) (by decide)
  have k4 := fun W (hb : Below W1.heap.size W1 W) => rget_any B m d ys ⟨#[108, 97, 115, 116, 45, 109, 111, 100, 105, 102, 105, 101, 100]⟩ W ((hq.below b1).below hb) (by omega) (by omega) (by decide)
  rw [show (⟨#[105, 102, 45, 110, 111, 110, 101, 45, 109, 97, 116, 99, 104]⟩ : ByteArray).data.toList = [105, 102, 45, 110, 111, 110, 101, 45, 109, 97, 116, 99, 104] from rfl] at k1
  rw [show (⟨#[101, 116, 97, 103]⟩ : ByteArray).data.toList = [101, 116, 97, 103] from rfl] at k2
  rw [show (⟨#[105, 102, 45, 109, 111, 100, 105, 102, 105, 101, 100, 45, 115, 105, 110, 99, 101]⟩ : ByteArray).data.toList = [105, 102, 45, 109, 111, 100, 105, 102, 105, 101, 100, 45, 115, 105, 110, 99, 101] from rfl] at k3
  rw [show (⟨#[108, 97, 115, 116, 45, 109, 111, 100, 105, 102, 105, 101, 100]⟩ : ByteArray).data.toList = [108, 97, 115, 116, 45, 109, 111, 100, 105, 102, 105, 101, 100] from rfl] at k4
  have l1 := getL_le xs [105, 102, 45, 110, 111, 110, 101, 45, 109, 97, 116, 99, 104]; have l2 := getL_le ys [101, 116, 97, 103]; have l3 := getL_le xs [105, 102, 45, 109, 111, 100, 105, 102, 105, 101, 100, 45, 115, 105, 110, 99, 101]; have l4 := getL_le ys [108, 97, 115, 116, 45, 109, 111, 100, 105, 102, 105, 101, 100]
  have hno := @getL_no xs [105, 102, 45, 110, 111, 110, 101, 45, 109, 97, 116, 99, 104]
  unfold notModL momL
  unfold getV at k1 k2 k3 k4
  generalize getL xs [105, 102, 45, 110, 111, 110, 101, 45, 109, 97, 116, 99, 104] = g1 at *
  generalize getL ys [101, 116, 97, 103] = g2 at *
  generalize getL xs [105, 102, 45, 109, 111, 100, 105, 102, 105, 101, 100, 45, 115, 105, 110, 99, 101] = g3 at *
  generalize getL ys [108, 97, 115, 116, 45, 109, 111, 100, 105, 102, 105, 101, 100] = g4 at *
  obtain ⟨v1, i1⟩ := g1; obtain ⟨v2, i2⟩ := g2; obtain ⟨v3, i3⟩ := g3; obtain ⟨v4, i4⟩ := g4
  simp only at k1 k2 k3 k4 l1 l2 l3 l4 hno ⊢
  have k5 := fun W => relist_any ⟨v1.toArray⟩ W (by rw [Lib.size_eq]; show v1.length ≤ _; omega)
  have hsm := etagL_small v1 (by omega)
  rw [show (⟨v1.toArray⟩ : ByteArray).data.toList = v1 from rfl] at k5
  have k6 := fun (p : List UInt8) (hp : p.length ≤ 8000) W => rweak_any ⟨v2.toArray⟩ ⟨p.toArray⟩ W (by rw [Lib.size_eq]; show v2.length ≤ _; omega) (by rw [Lib.size_eq]; exact hp)
  have k7 := fun W => iparse_any ⟨v3.toArray⟩ now (by rw [Lib.size_eq]; show v3.length ≤ _; omega) W
  have k8 := fun W => iparse_any ⟨v4.toArray⟩ now (by rw [Lib.size_eq]; show v4.length ≤ _; omega) W
  rw [show (⟨v3.toArray⟩ : ByteArray).data.toList = v3 from rfl, ← date_eq] at k7
  rw [show (⟨v4.toArray⟩ : ByteArray).data.toList = v4 from rfl, ← date_eq] at k8
  generalize dateP v3 now = r3 at *
  generalize dateP v4 now = r4 at *
  obtain ⟨t3, e3⟩ := r3; obtain ⟨t4, e4⟩ := r4
  simp only at k7 k8 ⊢
  generalize etagL v1 = el at *
  obtain ⟨ls, er⟩ := el
  unfold SplitPost at k5
  simp only at k5 hsm ⊢
  have he : (⟨v1.toArray⟩ : ByteArray).toList = v1 := by rw [Lib.toList_data]
  have KC := Lib.hid kc; have K1 := Lib.hid k1; have K2 := Lib.hid k2; have K3 := Lib.hid k3; have K4 := Lib.hid k4; have K5 := Lib.hid k5; have K6 := Lib.hid k6; have K7 := Lib.hid k7; have K8 := Lib.hid k8
  have HW1 := Lib.hid hW1; have B1 := Lib.hid b1; have HSM := Lib.hid hsm; have HNO := Lib.hid hno
  clear kc k1 k2 k3 k4 k5 k6 k7 k8 hW1 b1 hsm x1 z1 hr hq hs hsq l1 l2 l3 l4 hno hxf hyf
  cases i1
  · have hv : v1 = [] := HNO.out rfl
    subst hv
    clear HNO HSM K5 K6 K2
    go_enter Tryz.func7, Tryz.ntmps7
    go_upto_region 1 with (fail)
    rw [HW1.out]
    go_wp2_with fail
    (with_reducible refine (K1.out _ (Below.refl _ _)).mono ?_)
    rintro e w1 ⟨rfl, hb1⟩
    go_wp2_with fail
    (with_reducible refine (K3.out _ hb1).mono ?_)
    rintro e w2 ⟨rfl, hb2⟩
    have hB2 := bt hb1 hb2
    have c3 := KC.out _ hB2
    clear hb1 hb2
    go_wp2_with fail
    (with_reducible refine (K4.out _ hB2).mono ?_)
    rintro e w3 ⟨rfl, hb3⟩
    have hB3 := bt hB2 hb3
    clear c3 hb3
    cases i3
    · go_wp2
      go_ret
      exact ⟨by simp, bt B1.out hB3⟩
    cases i4
    · go_wp2
      go_ret
      exact ⟨by simp, bt B1.out hB3⟩
    go_wp2_with fail
    (with_reducible refine (K7.out _).mono ?_)
    rintro e w4 ⟨rfl, hb4⟩
    go_wp2_with fail
    (with_reducible refine (K8.out _).mono ?_)
    rintro e w5 ⟨rfl, hb5⟩
    have hB4 := bt (bt hB3 hb4) hb5
    clear hb4 hb5
    by_cases h3 : e3 = 0
    · subst h3
      by_cases h4 : e4 = 0
      · subst h4
        go_wp2
        go_ret
        exact ⟨by simp, bt B1.out hB4⟩
      · have t4' : (e4 == 0) = false := by simp [h4]
        go_wp2
        go_ret
        exact ⟨by simp [h4], bt B1.out hB4⟩
    · have t3' : (e3 == 0) = false := by simp [h3]
      go_wp2
      go_ret
      exact ⟨by simp [h3], bt B1.out hB4⟩
  · clear HNO K3 K4 K7 K8
    cases hst : (v1 == [42])
    rotate_left
    · have hv : v1 = [42] := beq_iff_eq.1 hst
      subst hv
      go_enter Tryz.func7, Tryz.ntmps7
      go_upto_region 1 with (fail)
      rw [HW1.out]
      go_wp2_with fail
      (with_reducible refine (K1.out _ (Below.refl _ _)).mono ?_)
      rintro e w1 ⟨rfl, hb1⟩
      go_wp2
      go_ret
      exact ⟨by simp, bt B1.out hb1⟩
    simp only [cond_false, cond_true]
    obtain ⟨own, hown⟩ : ∃ o : ByteArray, ⟨v2.toArray⟩ = o := ⟨_, rfl⟩
    rw [hown] at K2 K6 ⊢
    have HL := Lib.hid HSM.out.2
    have hll := HSM.out.1
    clear HSM hown
    go_enter Tryz.func7, Tryz.ntmps7
    go_upto_region 1 with (fail)
    rw [HW1.out]
    go_wp2_with fail
    (with_reducible refine (K1.out _ (Below.refl _ _)).mono ?_)
    rintro e w1 ⟨rfl, hb1⟩
    have c3 := KC.out _ hb1
    go_wp2_with fail
    (with_reducible refine (K2.out _ hb1).mono ?_)
    rintro e w2 ⟨rfl, hb2⟩
    clear c3
    go_wp2_with fail
    (with_reducible refine (K5.out _).mono ?_)
    rintro e w3 ⟨a3, n3, rfl, ho3, hb3⟩
    have HR := Lib.hid (OwnS.rd ho3).2
    have HB3 := Lib.hid (bt B1.out (bt (bt hb1 hb2) hb3))
    clear ho3 hb1 hb2 hb3 hst he
    go_wp2_with fail
    go_loopw [13] (fun i wr => ∃ k : Nat, k ≤ ls.length ∧ i = .int .i64 k ∧ Hid (anyE (ls.take k) own = false) ∧ Below w3.heap.size w3 wr) (fun i _ => ls.length - (intOf i).toNat)
    case atStart => exact ⟨0, Nat.zero_le _, rfl, Lib.hid rfl, Below.refl _ _⟩
    case round =>
      obtain ⟨k, hk, rfl, HA, hbw⟩ := hrel
      by_cases hlt : k < ls.length
      · obtain ⟨b, o, rfl, hl, c1⟩ := (HR.out.below hbw).str_at (k := k) hlt
        have hv := HL.out ls[k] (List.getElem_mem _)
        have hbad : (ent ⟨ls[k].toArray⟩).same (ent own) = true → Hid (anyE ls own = true) := by
          intro h
          exact Lib.hid (by unfold anyE; rw [List.any_eq_true]; exact ⟨ls[k], List.getElem_mem _, h⟩)
        have hgood : (ent ⟨ls[k].toArray⟩).same (ent own) = false → Hid (anyE (ls.take (k + 1)) own = false) := by
          intro h
          refine Lib.hid ?_
          have h0 := HA.out
          unfold anyE at h0 ⊢
          rw [List.take_succ_eq_append_getElem hlt, List.any_append, h0]
          simp [h]
        generalize ls[k] = p at *
        have k1 := K6.out p hv wr
        rw [same_comm] at k1
        have HBAD := Lib.hid hbad; have HGOOD := Lib.hid hgood; clear hbad hgood HA
        cases hq : (ent ⟨p.toArray⟩).same (ent own)
        · rw [hq] at k1
          have hf := HGOOD.out hq
          have K9 := Lib.hid k1; clear k1 hq
          go_wp2_with fail
          (with_reducible refine K9.out.mono ?_)
          rintro e w4 ⟨rfl, hb4⟩
          go_wp2
          go_roundw
          case rel => exact ⟨k + 1, by omega, by go_num, hf, bt hbw hb4⟩
          case measure => simp [intOf]; omega
        · rw [hq] at k1
          have hf := HBAD.out hq
          have K9 := Lib.hid k1; clear k1 hq
          go_wp2_with fail
          (with_reducible refine K9.out.mono ?_)
          rintro e w4 ⟨rfl, hb4⟩
          go_wp2
          go_ret
          exact ⟨by rw [hf.out]; rfl, bt HB3.out (bt hbw hb4)⟩
      · have hke : k = ls.length := by omega
        subst hke
        have ha := HA.out
        rw [List.take_length] at ha
        have HA2 := Lib.hid ha; clear ha HA
        go_wp2
        go_ret
        exact ⟨by rw [HA2.out]; rfl, bt HB3.out hbw⟩
end Go.Proofs.YtedmiganmifepaaGreatDoor
/- What came in, opened: texts and fields in slices; replies and entries by value. -/
namespace Go.Proofs.YtedmiganmifepaaGreatDoor
open Go.ChangeShapes Go.WideShapes Go.RowKit
set_option maxRecDepth 100000

/-- The form's own reach: each string, slice and map within d. -/
def Reach {H : Type} (T : TypeId) (d : DataW H) : Prop := ∀ n ∈ d.weights Tryz.prog T, n ≤ reachBytes
theorem reach_each {H : Type} {ts : List TypeId} {ds : List (DataW H)} (h : (DataW.weightsEach Tryz.prog ts ds).all (· ≤ reachBytes) = true) {j : Nat} {t : TypeId} {d : DataW H} (ht : ts[j]? = some t) (hd : ds[j]? = some d) : Reach t d :=
  fun n hn => of_decide_eq_true (List.all_eq_true.1 h n (DataW.weights_mem_each ht hd n hn))
theorem reach_str {H : Type} {T : TypeId} {l : List UInt8} (h : Reach (H := H) T (.lit (.string l))) : l.length ≤ reachBytes := h _ (by simp [DataW.weights])
theorem weightsAll_mem' {H : Type} {e : TypeId} : ∀ {ds : List (DataW H)} {d : DataW H}, d ∈ ds → ∀ n ∈ d.weights Tryz.prog e, n ∈ DataW.weightsAll Tryz.prog e ds
  | x :: r, d, hd, n, hn => by
    simp only [DataW.weightsAll, List.mem_append]
    rcases List.mem_cons.1 hd with rfl | h
    · exact Or.inl hn
    · exact Or.inr (weightsAll_mem' h n hn)
theorem reach_elem {H : Type} {t e : TypeId} (hu : Tryz.prog.underlying t = some (.slice e)) {elems spare : List (DataW H)} (h : Reach t (.slice elems spare)) {d : DataW H} (hd : d ∈ elems) : Reach e d := by
  intro n hn
  refine h n ?_
  simp only [DataW.weights, hu, List.mem_cons, List.mem_append]
  exact Or.inr (Or.inl (weightsAll_mem' hd n hn))
theorem reach_len {H : Type} {t e : TypeId} (hu : Tryz.prog.underlying t = some (.slice e)) {elems spare : List (DataW H)} (h : Reach t (.slice elems spare)) : elems.length * Tryz.prog.bytesOf e ≤ reachBytes := by
  have := h ((elems.length + spare.length) * Tryz.prog.bytesOf e) (by simp [DataW.weights, hu])
  exact Nat.le_trans (Nat.mul_le_mul_right _ (by omega)) this
theorem reach_part {H : Type} {t : TypeId} {fs : Array Field} (hu : Tryz.prog.underlying t = some (.struct fs)) {parts : List (DataW H)} (h : Reach t (.agg parts)) {j : Nat} {f : Field} {d : DataW H} (hf : fs[j]? = some f) (hd : parts[j]? = some d) : Reach f.type d := by
  intro n hn
  refine h n ?_
  simp only [DataW.weights, hu]
  exact DataW.weights_mem_each (j := j) (by simp [hf]) hd n hn

theorem two_of {α : Type} : ∀ (l : List α), l.length = 2 → ∃ u v, l = [u, v]
  | [u, v], _ => ⟨u, v, rfl⟩
theorem exists_listL {α : Type} (n : Nat) (Pr : Nat → α → Prop) (h : ∀ i, i < n → ∃ x, Pr i x) : ∃ xs : List α, xs.length = n ∧ ∀ i (hi : i < xs.length), Pr i xs[i] := by
  induction n with
  | zero => exact ⟨[], rfl, fun i hi => by simp at hi⟩
  | succ n ih =>
    obtain ⟨xs, hl, hx⟩ := ih (fun i hi => h i (by omega))
    obtain ⟨x, hx1⟩ := h n (by omega)
    refine ⟨xs ++ [x], by simp [hl], fun i hi => ?_⟩
    rw [List.length_append, List.length_singleton] at hi
    by_cases hin : i < xs.length
    · rw [List.getElem_append_left hin]; exact hx i hin
    · have : i = n := by omega
      subst this
      rw [List.getElem_append_right (by omega)]
      simpa [hl] using hx1

section
variable {H : Type} {enc : TypeId × Value → H} {W : World}
/-- A slice of texts that came in. -/
theorem open_texts {fuel : Nat} {cs : List Value} {x : DataW H × List MemPlace} (h : DataW.trod enc Tryz.prog W 0 (fun _ => true) true fuel 36 cs = some x) (hr : Reach 36 x.1) :
    ∃ A n c ls, cs = [.slice A n c] ∧ Rd A n 1 (strsV ls) W ∧ n * 16 ≤ reachBytes ∧ ∀ l ∈ ls, l.length ≤ reachBytes := by
  rcases Go.Deep.open_slice Tryz.underlying36 h with ⟨rfl, rfl⟩ | ⟨a, len, cap, m, n, D, Pl, rfl, hb, hl, hm, hmm, rfl, hi⟩
  · exact ⟨none, 0, 0, [], rfl, Rd.nil, by decide, by simp⟩
  · simp only [if_true] at hmm
    subst hmm
    have hc1 : Tryz.prog.cellsOf 9 = 1 := by kernel_rfl
    have key : ∀ i, i < len → ∃ s : List UInt8, W.cell? (a.add i) = some (.string ⟨s.toArray⟩) ∧ D i = .lit (.string s) := by
      intro i hi'
      obtain ⟨cs', hcs, ht⟩ := hi i (by omega)
      rw [hc1, Nat.mul_one] at hcs
      obtain ⟨s, rfl, hx, _⟩ := DataW.trod_string Tryz.underlying9 ht
      obtain ⟨_, _, hat⟩ := World.cells?_some hcs
      refine ⟨s.data.toList, ?_, congrArg Prod.fst hx⟩
      have := hat 0 (by omega)
      rw [str_of]
      simpa [Addr.add] using this
    obtain ⟨ls, hll, hls⟩ := exists_listL len _ key
    refine ⟨some a, len, _, ls, rfl, ⟨by simp [strsV, hll], fun hn => ?_⟩, ?_, ?_⟩
    · have hspot : a.spot = none := by
        have := World.cell?_spot (hls 0 (by omega)).1
        simpa [Addr.add] using this
      obtain ⟨b, o, spot⟩ := a
      simp only at hspot
      subst hspot
      refine ⟨b, o, rfl, ?_, fun j u hu => ?_⟩
      · rcases Nat.lt_or_ge b W.heap.size with h' | h'
        · exact h'
        · have := (hls 0 (by omega)).1
          simp [World.cell?, Addr.add, Array.getElem?_eq_none h'] at this
      · have hj : j < ls.length := by have := (List.getElem?_eq_some_iff.1 hu).1; simpa [strsV] using this
        have h1 := (hls j hj).1
        have e : (⟨b, o, none⟩ : Addr).add j = ⟨b, o + j, none⟩ := by unfold Addr.add; split <;> simp_all
        rw [e] at h1
        rw [h1, ← hu]; simp [strsV, hj]
    · have := reach_len Tryz.underlying36 hr
      rw [List.length_map, List.length_range, show Tryz.prog.bytesOf 9 = 16 from by kernel_rfl] at this
      exact this
    · intro l hl'
      obtain ⟨i, hi', e⟩ := List.mem_iff_getElem.1 hl'
      have h2 := (hls i hi').2
      rw [e] at h2
      exact reach_str (reach_elem Tryz.underlying36 hr (List.mem_map.2 ⟨i, List.mem_range.2 (by omega), h2⟩))
theorem open_texts_v {base : Nat} {v : Value} {d : DataW H} {p : List MemPlace} (hv : Value.okWide Tryz.prog W .any base 36 v) (h : DataW.Trod enc Tryz.prog W 0 (fun _ => true) true 36 v d p) (hr : Reach 36 d) :
    ∃ A n c ls, v = .slice A n c ∧ Rd A n 1 (strsV ls) W ∧ n * 16 ≤ reachBytes ∧ ∀ l ∈ ls, l.length ≤ reachBytes := by
  obtain ⟨a0, len, cap, rfl⟩ := okWide_slice Tryz.underlying36 hv
  obtain ⟨fuel, hf⟩ := h
  have hf' : DataW.trod enc Tryz.prog W 0 (fun _ => true) true fuel 36 [.slice a0 len cap] = some (d, p) := hf
  obtain ⟨A, n, c, xs, e, r⟩ := open_texts hf' hr
  exact ⟨A, n, c, xs, (List.cons.inj e).1, r⟩
end
end Go.Proofs.YtedmiganmifepaaGreatDoor
/- Slices of fields that came in, opened. -/
namespace Go.Proofs.YtedmiganmifepaaGreatDoor
open Go.ChangeShapes Go.WideShapes Go.RowKit
set_option maxRecDepth 100000

section
variable {H : Type} {enc : TypeId × Value → H} {W : World}

/-- A slice of fields that came in. -/
theorem open_flds {fuel : Nat} {cs : List Value} {x : DataW H × List MemPlace} (h : DataW.trod enc Tryz.prog W 0 (fun _ => true) true fuel 22 cs = some x) (hr : Reach 22 x.1) :
    ∃ A n c xs, cs = [.slice A n c] ∧ Rd A n 2 (fldsV xs) W ∧ n * 32 ≤ reachBytes ∧ ∀ f ∈ xs, f.1.length ≤ reachBytes ∧ f.2.length ≤ reachBytes := by
  rcases Go.Deep.open_slice Tryz.underlying22 h with ⟨rfl, rfl⟩ | ⟨a, len, cap, m, n, D, Pl, rfl, hb, hl, hm, hmm, rfl, hi⟩
  · exact ⟨none, 0, 0, [], rfl, Rd.nil, by decide, by simp⟩
  · simp only [if_true] at hmm
    subst hmm
    have hc2 : Tryz.prog.cellsOf 30 = 2 := by kernel_rfl
    have hc1 : Tryz.prog.cellsOf 9 = 1 := by kernel_rfl
    have key : ∀ i, i < len → ∃ f : Fld, W.cell? (a.add (i * 2)) = some (.string ⟨f.1.toArray⟩) ∧ W.cell? (a.add (i * 2 + 1)) = some (.string ⟨f.2.toArray⟩) ∧ D i = .agg [.lit (.string f.1), .lit (.string f.2)] := by
      intro i hi'
      obtain ⟨cs', hcs, ht⟩ := hi i (by omega)
      rw [hc2] at hcs
      obtain ⟨_, hlen, hat⟩ := World.cells?_some hcs
      obtain ⟨ys, n', _, hx, _, hyl, hg⟩ := DataW.trod_struct Tryz.underlying30 ht
      obtain ⟨u, v, rfl⟩ := two_of cs' hlen
      obtain ⟨y0, y1, rfl⟩ := two_of ys hyl
      have g0 : DataW.trod enc Tryz.prog W 0 (fun _ => true) true n' 9 (([u, v].drop 0).take (Tryz.prog.cellsOf 9)) = some y0 := hg 0 _ rfl
      have g1 : DataW.trod enc Tryz.prog W 0 (fun _ => true) true n' 9 (([u, v].drop 1).take (Tryz.prog.cellsOf 9)) = some y1 := hg 1 _ rfl
      rw [hc1] at g0 g1
      obtain ⟨s0, e0, z0, _⟩ := DataW.trod_string Tryz.underlying9 (cs := [u]) (x := y0) (by simpa using g0)
      obtain ⟨s1, e1, z1, _⟩ := DataW.trod_string Tryz.underlying9 (cs := [v]) (x := y1) (by simpa using g1)
      have e0' : u = .string s0 := (List.cons.inj e0).1
      have e1' : v = .string s1 := (List.cons.inj e1).1
      subst e0'; subst e1'; subst z0; subst z1
      have a0 : W.cell? ((a.add (i * 2)).add 0) = some (.string s0) := hat 0 (by omega)
      have a1 : W.cell? ((a.add (i * 2)).add 1) = some (.string s1) := hat 1 (by omega)
      have hD : D i = .agg [.lit (.string s0.data.toList), .lit (.string s1.data.toList)] := (Prod.mk.inj hx).1
      clear hx g0 g1 e0 e1 hat hcs ht hg
      refine ⟨(s0.data.toList, s1.data.toList), ?_, ?_, hD⟩
      · rw [Go.Deep.add_add] at a0
        show _ = some (Value.string ⟨s0.data.toList.toArray⟩)
        rw [str_of]; exact a0
      · rw [Go.Deep.add_add] at a1
        show _ = some (Value.string ⟨s1.data.toList.toArray⟩)
        rw [str_of]; exact a1
    obtain ⟨xs, hll, hls⟩ := exists_listL len _ key
    refine ⟨some a, len, _, xs, rfl, ⟨by rw [fldsV_len, hll], fun hn => ?_⟩, ?_, ?_⟩
    · have hspot : a.spot = none := by
        have := World.cell?_spot (hls 0 (by omega)).1
        simpa [Addr.add] using this
      obtain ⟨b, o, spot⟩ := a
      simp only at hspot
      subst hspot
      have e : ∀ j, (⟨b, o, none⟩ : Addr).add j = ⟨b, o + j, none⟩ := fun j => by unfold Addr.add; split <;> simp_all
      refine ⟨b, o, rfl, ?_, fun j u hu => ?_⟩
      · rcases Nat.lt_or_ge b W.heap.size with h' | h'
        · exact h'
        · have := (hls 0 (by omega)).1
          simp [World.cell?, Addr.add, Array.getElem?_eq_none h'] at this
      · have hj : j < xs.length * 2 := by have := (List.getElem?_eq_some_iff.1 hu).1; rwa [fldsV_len] at this
        have hk : j / 2 < xs.length := by omega
        have h1 := hls (j / 2) hk
        have h2 := fldsV_at xs (j / 2) hk
        rw [e, e] at h1
        rcases Nat.mod_two_eq_zero_or_one j with h0 | h0
        · have ej : j / 2 * 2 = j := by omega
          rw [ej] at h1 h2
          rw [h2.1] at hu
          cases hu
          exact h1.1
        · have ej : j / 2 * 2 + 1 = j := by omega
          rw [ej] at h1 h2
          rw [h2.2] at hu
          cases hu
          exact h1.2.1
    · have := reach_len Tryz.underlying22 hr
      rw [List.length_map, List.length_range, show Tryz.prog.bytesOf 30 = 32 from by kernel_rfl] at this
      exact this
    · intro f hf'
      obtain ⟨i, hi', e⟩ := List.mem_iff_getElem.1 hf'
      have h2 := (hls i hi').2.2
      rw [e] at h2
      have h3 := reach_elem Tryz.underlying22 hr (List.mem_map.2 ⟨i, List.mem_range.2 (by omega), h2⟩)
      exact ⟨reach_str (reach_part Tryz.underlying30 h3 (j := 0) rfl rfl), reach_str (reach_part Tryz.underlying30 h3 (j := 1) rfl rfl)⟩
end
end Go.Proofs.YtedmiganmifepaaGreatDoor
/- Slices of fields and of texts that came in, opened. -/
namespace Go.Proofs.YtedmiganmifepaaGreatDoor
open Go.ChangeShapes Go.WideShapes Go.RowKit
set_option maxRecDepth 100000

section
variable {H : Type} {enc : TypeId × Value → H} {W : World}
theorem open_flds_v {base : Nat} {v : Value} {d : DataW H} {p : List MemPlace} (hv : Value.okWide Tryz.prog W .any base 22 v) (h : DataW.Trod enc Tryz.prog W 0 (fun _ => true) true 22 v d p) (hr : Reach 22 d) :
    ∃ A n c xs, v = .slice A n c ∧ Rd A n 2 (fldsV xs) W ∧ n * 32 ≤ reachBytes ∧ ∀ f ∈ xs, f.1.length ≤ reachBytes ∧ f.2.length ≤ reachBytes := by
  obtain ⟨a0, len, cap, rfl⟩ := okWide_slice Tryz.underlying22 hv
  obtain ⟨fuel, hf⟩ := h
  have hf' : DataW.trod enc Tryz.prog W 0 (fun _ => true) true fuel 22 [.slice a0 len cap] = some (d, p) := hf
  obtain ⟨A, n, c, xs, e, r⟩ := open_flds hf' hr
  exact ⟨A, n, c, xs, (List.cons.inj e).1, r⟩
/-- A field that came in by value. -/
theorem open_fld_v {base : Nat} {v : Value} {d : DataW H} {p : List MemPlace} (hv : Value.okWide Tryz.prog W .any base 30 v) (h : DataW.Trod enc Tryz.prog W 0 (fun _ => true) true 30 v d p) (hr : Reach 30 d) :
    ∃ f : Fld, v = .agg #[.string ⟨f.1.toArray⟩, .string ⟨f.2.toArray⟩] ∧ f.1.length ≤ reachBytes ∧ f.2.length ≤ reachBytes := by
  obtain ⟨cs, rfl, hsz⟩ := okWide_struct Tryz.underlying30 hv
  obtain ⟨fuel, hf⟩ := h
  obtain ⟨l⟩ := cs
  have hf' : DataW.trod enc Tryz.prog W 0 (fun _ => true) true fuel 30 l = some (d, p) := hf
  have hc2 : Tryz.prog.cellsOf 30 = 2 := by kernel_rfl
  have hc1 : Tryz.prog.cellsOf 9 = 1 := by kernel_rfl
  obtain ⟨ys, n', _, hx, hcl, hyl, hg⟩ := DataW.trod_struct Tryz.underlying30 hf'
  obtain ⟨u, v, rfl⟩ := two_of l (hcl.trans hc2)
  obtain ⟨y0, y1, rfl⟩ := two_of ys hyl
  have g0 : DataW.trod enc Tryz.prog W 0 (fun _ => true) true n' 9 (([u, v].drop 0).take (Tryz.prog.cellsOf 9)) = some y0 := hg 0 _ rfl
  have g1 : DataW.trod enc Tryz.prog W 0 (fun _ => true) true n' 9 (([u, v].drop 1).take (Tryz.prog.cellsOf 9)) = some y1 := hg 1 _ rfl
  rw [hc1] at g0 g1
  obtain ⟨s0, e0, z0, _⟩ := DataW.trod_string Tryz.underlying9 (cs := [u]) (x := y0) (by simpa using g0)
  obtain ⟨s1, e1, z1, _⟩ := DataW.trod_string Tryz.underlying9 (cs := [v]) (x := y1) (by simpa using g1)
  have e0' : u = .string s0 := (List.cons.inj e0).1
  have e1' : v = .string s1 := (List.cons.inj e1).1
  subst e0'; subst e1'; subst z0; subst z1
  have hd : d = .agg [.lit (.string s0.data.toList), .lit (.string s1.data.toList)] := (Prod.mk.inj hx).1
  rw [hd] at hr
  refine ⟨(s0.data.toList, s1.data.toList), ?_, reach_str (reach_part Tryz.underlying30 hr (j := 0) rfl rfl), reach_str (reach_part Tryz.underlying30 hr (j := 1) rfl rfl)⟩
  simp only [str_of]
end
end Go.Proofs.YtedmiganmifepaaGreatDoor
/- What a listed table gives: what a variable reads as, in cells. -/
namespace Go.Proofs.YtedmiganmifepaaGreatDoor
open Go.RowKit

theorem tab_of_reads {P : Program} {W : World} {name : String} {k : IntKind} {zs : List Int} {g : Nat} {t e : TypeId} {n : Nat}
    (hg : P.globalNamed name = some g) (hty : (P.globals[g]?).map (·.type) = some t) (ht : P.underlying t = some (.array n e)) (he : P.underlying e = some (.int k)) (hce : P.cellsOf e = 1) (hct : P.cellsOf t = n)
    (h : Lib.VarReads P W name (Lib.tabData k zs)) : Lib.TabIs P W name k zs := by
  obtain ⟨g', t', cs, fuel, p, hg', ht', hvar, hd⟩ := h
  obtain rfl := Option.some.inj (hg.symm.trans hg')
  obtain rfl := Option.some.inj (hty.symm.trans ht')
  unfold Lib.TabIs
  rw [hvar, ← Lib.cells_of_tab ht he hce hct hd]
end Go.Proofs.YtedmiganmifepaaGreatDoor
/- What the listed tables and the form's mark give the dates' walks. -/
namespace Go.Proofs.YtedmiganmifepaaGreatDoor
open Go.RowKit
set_option maxRecDepth 100000

theorem maxL_of {w : World} (h : w.ShapedOpen Tryz.prog) : MaxL w :=
  MaxL.of (Go.Proofs.cell_of_shapedOpen_int (zero := #[.int .i64 0]) (t := 3) h (of_decide_eq_true (by kernel_rfl)) (by kernel_rfl) rfl (by kernel_rfl) (by kernel_rfl) Tryz.underlying3)
theorem spaces_of {W : World} {l : List (String × DataW Unit)} (hp : (l.all fun x => x.2.handleName?.isNone) = true) (hm : ("strings.asciiSpace", Lib.tabData .u8 Lib.asciiSpaceTab) ∈ l) (h : laidMetH Tryz.prog l W) : Lib.TabIs Tryz.prog W "strings.asciiSpace" .u8 Lib.asciiSpaceTab := by
  rw [MakeChecks.laidMetH_plain _ _ _ hp] at h
  exact tab_of_reads (g := 0) (by kernel_rfl) (by kernel_rfl) Tryz.underlying121 Tryz.underlying5 (by kernel_rfl) (by kernel_rfl) (Lib.laidMet.reads h hm)
theorem var_lt {P : Program} {w : World} {name : String} {k : IntKind} {zs : List Int} {g : Nat} (hg : P.globalNamed name = some g) (h : Lib.TabIs P w name k zs) : g < w.heap.size := by
  unfold Lib.TabIs World.var? at h
  rw [hg] at h
  rcases Nat.lt_or_ge g w.heap.size with h' | h'
  · exact h'
  · simp [Array.getElem?_eq_none h'] at h
theorem dEnv_of {W : World} {l : List (String × DataW Unit)} (hp : (l.all fun x => x.2.handleName?.isNone) = true) (hm : ("strings.asciiSpace", Lib.tabData .u8 Lib.asciiSpaceTab) ∈ l) (h : laidMetH Tryz.prog l W) (hsh : W.ShapedOpen Tryz.prog) : DEnv W :=
  ⟨maxL_of hsh, var_lt (by kernel_rfl) (spaces_of hp hm h), spaces_of hp hm h⟩
end Go.Proofs.YtedmiganmifepaaGreatDoor
