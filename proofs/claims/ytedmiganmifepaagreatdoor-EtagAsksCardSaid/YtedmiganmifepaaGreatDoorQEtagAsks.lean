/- Joined out of the texts EtagAsks (wip/tools/merge.py). -/
import Derived.Test.YtedmiganmifepaaGreatDoorPe5
/- EtagAsks: the walk of the law, and the law as it is handed in (printed by wip/tools/asks14.py). -/
namespace Go.Proofs.YtedmiganmifepaaGreatDoor
open Go.RowKit Go.ChangeShapes Go.WideShapes
set_option maxRecDepth 100000

set_option maxHeartbeats 32000000 in
theorem etagAsks_any (A B : Option Addr) (n c m d : Nat) (xs ys : List Fld) (now : Int) (w : World) (hE : DEnv w) (hr : Rd A n 2 (fldsV xs) w) (hq : Rd B m 2 (fldsV ys) w) (hn : n ≤ 140737488355328) (hm : m ≤ 140737488355328) (hs : (∀ f ∈ xs, f.1.length ≤ 140737488355328 ∧ f.2.length ≤ 140737488355328)) (hsq : (∀ f ∈ ys, f.1.length ≤ 140737488355328 ∧ f.2.length ≤ 140737488355328)) :
    Calls Tryz.prog 3 #[.slice A n c, .slice B m d, .int .i64 now] w fun e w' => e = .returned (.bool true) ∧ Below w.heap.size w w' := by
  have k0 := few14_any A n c xs w hr hn hs
  have ka := fun W (_ : Below w.heap.size w W) => works_any W
  cases hf : few14 xs
  · rw [hf] at k0
    have K0 := Lib.hid k0; have HA := Lib.hid ka
    clear k0 ka hr hq hs hsq hE
    go_enter Tryz.func3, Tryz.ntmps3
    go_wp2_with fail
    (with_reducible refine K0.out.mono ?_)
    rintro e w1 ⟨rfl, hb1⟩
    go_wp2_with fail
    (with_reducible refine (HA.out _ hb1).mono ?_)
    rintro e w2 ⟨rfl, hb2⟩
    go_wp2
    go_ret
    exact ⟨rfl, bt hb1 hb2⟩
  rw [hf] at k0
  have k1 := fun W (hb : Below w.heap.size w W) => few14_any B m d ys W (hq.below hb) hm hsq
  cases hg : few14 ys
  · rw [hg] at k1
    have K0 := Lib.hid k0; have K1 := Lib.hid k1; have HA := Lib.hid ka
    clear k0 k1 ka hr hq hs hsq hE
    go_enter Tryz.func3, Tryz.ntmps3
    go_wp2_with fail
    (with_reducible refine K0.out.mono ?_)
    rintro e w1 ⟨rfl, hb1⟩
    go_wp2_with fail
    (with_reducible refine (K1.out _ hb1).mono ?_)
    rintro e w2 ⟨rfl, hb2⟩
    have hB2 := bt hb1 hb2
    go_wp2_with fail
    (with_reducible refine (HA.out _ hB2).mono ?_)
    rintro e w3 ⟨rfl, hb3⟩
    go_wp2
    go_ret
    exact ⟨rfl, bt hB2 hb3⟩
  · rw [hg] at k1
    obtain ⟨hx40, hxs⟩ := few14_yes hf
    obtain ⟨hy40, hys⟩ := few14_yes hg
    have hxn := hr.fld; have hyn := hq.fld
    have k2 := fun W (hb : Below w.heap.size w W) => notMod_any A B n c m d 200 0 ⟨#[]⟩ ⟨#[]⟩ xs ys now W (hE.below hb) (hr.below hb) (hq.below hb) (by omega) (by omega) (by omega) (by omega)
    have k3 := fun W (hb : Below w.heap.size w W) => rnotMod_any A B n c m d 200 0 ⟨#[]⟩ ⟨#[]⟩ xs ys now W (hr.below hb) (hq.below hb) (by omega) (by omega) (by omega) (by omega)
    generalize notModL xs ys now = L at *
    have e1 : (L == L) = true := by simp
    have K0 := Lib.hid k0; have K1 := Lib.hid k1; have K2 := Lib.hid k2; have K3 := Lib.hid k3; have HA := Lib.hid ka
    clear k0 k1 k2 k3 ka hr hq hs hsq hE hxs hys hx40 hy40 hxn hyn hf hg
    go_enter Tryz.func3, Tryz.ntmps3
    go_wp2_with fail
    (with_reducible refine K0.out.mono ?_)
    rintro e w1 ⟨rfl, hb1⟩
    go_wp2_with fail
    (with_reducible refine (K1.out _ hb1).mono ?_)
    rintro e w2 ⟨rfl, hb2⟩
    have hB2 := bt hb1 hb2
    clear hb1 hb2
    go_upto_region 4 with (fail)
    obtain ⟨W1, hW1⟩ : ∃ W1, w2.alloc (.cells #[.int .i64 200, .string ⟨#[]⟩, .int .i64 0, .slice B m d, .string ⟨#[]⟩] 26) = W1 := ⟨_, rfl⟩
    have b3 : Below w.heap.size w W1 := by rw [← hW1]; exact hB2.alloc hB2.size _
    have x3 : W1.heap[w2.heap.size]? = some (.cells #[.int .i64 200, .string ⟨#[]⟩, .int .i64 0, .slice B m d, .string ⟨#[]⟩] 26 (0, 0)) := by rw [← hW1]; exact heap_new w2 _ _ rfl
    have z3 : w2.heap.size < W1.heap.size := by rw [← hW1]; simp
    rw [hW1]
    have kc : ∀ w', Below W1.heap.size W1 w' → w'.cell? ⟨w2.heap.size, 0, none⟩ = some (.int .i64 200) ∧ w'.cell? ⟨w2.heap.size, 1, none⟩ = some (.string ⟨#[]⟩) ∧ w'.cell? ⟨w2.heap.size, 2, none⟩ = some (.int .i64 0) ∧ w'.cell? ⟨w2.heap.size, 3, none⟩ = some (.slice B m d) ∧ w'.cell? ⟨w2.heap.size, 4, none⟩ = some (.string ⟨#[]⟩) ∧ Below W1.heap.size W1 w' := fun w' hb => by
      have x4 := (hb.block w2.heap.size z3).trans x3
      exact ⟨(of_heap x4 0).1, (of_heap x4 1).1, (of_heap x4 2).1, (of_heap x4 3).1, (of_heap x4 4).1, hb⟩
    have KC := Lib.hid kc
    have HB3 := Lib.hid b3
    have hd0 : Below W1.heap.size W1 W1.drew := (Below.refl _ _).drew
    clear kc b3 x3 z3 hW1 hB2
    refine wp_region_held_drew (S := (fun w' => w'.cell? ⟨w2.heap.size, 0, none⟩ = some (.int .i64 200) ∧ w'.cell? ⟨w2.heap.size, 1, none⟩ = some (.string ⟨#[]⟩) ∧ w'.cell? ⟨w2.heap.size, 2, none⟩ = some (.int .i64 0) ∧ w'.cell? ⟨w2.heap.size, 3, none⟩ = some (.slice B m d) ∧ w'.cell? ⟨w2.heap.size, 4, none⟩ = some (.string ⟨#[]⟩) ∧ Below W1.heap.size W1 w')) (by kernel_rfl) (KC.out _ hd0) (fun hHeld => ?_)
    refine wpAnyH_take (i := 0) (v := ?_) (by simp only [List.getElem?_toArray, List.getElem?_cons_zero]; exact rfl) (by kernel_rfl) (by kernel_rfl) (by kernel_rfl) (by intro _ _ _ h; exact h) (Or.inl ⟨by rfl, fun W hSw => ?_⟩) hHeld ?_
    rotate_left
    focus ((try dsimp only at hSw); first | (go_simp; done) | (go_simp; with_reducible rfl))
    try simp only [Act.put, List.setIfInBounds_toArray, List.set_cons_zero, List.set_cons_succ]
    refine wpAnyH_take (i := 1) (v := ?_) (by simp only [List.getElem?_toArray, List.getElem?_cons_succ, List.getElem?_cons_zero]; exact rfl) (by kernel_rfl) (by kernel_rfl) (by kernel_rfl) (by intro _ _ _ h; exact h) (Or.inl ⟨by rfl, fun W hSw => ?_⟩) hHeld ?_
    rotate_left
    focus ((try dsimp only at hSw); first | (go_simp; done) | (go_simp; with_reducible rfl))
    try simp only [Act.put, List.setIfInBounds_toArray, List.set_cons_zero, List.set_cons_succ]
    refine wpAnyH_take (i := 2) (v := ?_) (by simp only [List.getElem?_toArray, List.getElem?_cons_succ, List.getElem?_cons_zero]; exact rfl) (by kernel_rfl) (by kernel_rfl) (by kernel_rfl) (by intro _ _ _ h; exact h) (Or.inl ⟨by rfl, fun W hSw => ?_⟩) hHeld ?_
    rotate_left
    focus ((try dsimp only at hSw); first | (go_simp; done) | (go_simp; with_reducible rfl))
    try simp only [Act.put, List.setIfInBounds_toArray, List.set_cons_zero, List.set_cons_succ]
    refine wpAnyH_take (i := 4) (v := ?_) (by simp only [List.getElem?_toArray, List.getElem?_cons_succ, List.getElem?_cons_zero]; exact rfl) (by kernel_rfl) (by kernel_rfl) (by kernel_rfl) (by intro _ _ _ h; exact h) (Or.inl ⟨by rfl, fun W hSw => ?_⟩) hHeld ?_
    rotate_left
    focus ((try dsimp only at hSw); first | (go_simp; done) | (go_simp; with_reducible rfl))
    try simp only [Act.put, List.setIfInBounds_toArray, List.set_cons_zero, List.set_cons_succ]
    refine wpAnyH_take (i := 5) (v := ?_) (by simp only [List.getElem?_toArray, List.getElem?_cons_succ, List.getElem?_cons_zero]; exact rfl) (by kernel_rfl) (by kernel_rfl) (by kernel_rfl) (by intro _ _ _ h; exact h) (Or.inl ⟨by rfl, fun W hSw => ?_⟩) hHeld ?_
    rotate_left
    focus ((try dsimp only at hSw); first | (go_simp; done) | (go_simp; with_reducible rfl))
    try simp only [Act.put, List.setIfInBounds_toArray, List.set_cons_zero, List.set_cons_succ]
    refine wpAnyH_take (i := 6) (v := ?_) (by simp only [List.getElem?_toArray, List.getElem?_cons_succ, List.getElem?_cons_zero]; exact rfl) (by kernel_rfl) (by kernel_rfl) (by kernel_rfl) (by intro _ _ _ h; exact h) (Or.inl ⟨by rfl, fun W hSw => ?_⟩) hHeld ?_
    rotate_left
    focus ((try dsimp only at hSw); first | (go_simp; done) | (go_simp; with_reducible rfl))
    try simp only [Act.put, List.setIfInBounds_toArray, List.set_cons_zero, List.set_cons_succ]
    refine wpAnyH_ready (rs := [3]) (by kernel_rfl) (by simp) (AllReadyH.cons (by simp only [List.getElem?_toArray, List.getElem?_cons_succ, List.getElem?_cons_zero]; exact rfl) (fun K hK => ?_) AllReadyH.nil)
    rw [if_pos (by rfl)]
    go_simp
    (with_reducible refine (K2.out _ (bt HB3.out hd0)).mono ?_); rintro e v1 ⟨rfl, hv1⟩; have hd1 := bt hd0 hv1; go_wp2_with fail
    refine hK.out _ _ (KC.out _ hd1) (fun hHeld => ?_)
    clear hK K
    try simp only [Act.put, List.setIfInBounds_toArray, List.set_cons_zero, List.set_cons_succ]
    refine wpAnyH_ready (rs := [7]) (by kernel_rfl) (by simp) (AllReadyH.cons (by simp only [List.getElem?_toArray, List.getElem?_cons_succ, List.getElem?_cons_zero]; exact rfl) (fun K hK => ?_) AllReadyH.nil)
    rw [if_pos (by rfl)]
    go_simp
    (with_reducible refine (K3.out _ (bt HB3.out hd1)).mono ?_); rintro e v2 ⟨rfl, hv2⟩; have hd2 := bt hd1 hv2; go_wp2_with fail
    refine hK.out _ _ (KC.out _ hd2) (fun hHeld => ?_)
    clear hK K
    try simp only [Act.put, List.setIfInBounds_toArray, List.set_cons_zero, List.set_cons_succ]
    refine wpAnyH_take (i := 8) (v := ?_) (by simp only [List.getElem?_toArray, List.getElem?_cons_succ, List.getElem?_cons_zero]; exact rfl) (by kernel_rfl) (by kernel_rfl) (by kernel_rfl) (by intro _ _ _ h; exact h) (Or.inl ⟨by rfl, fun W hSw => ?_⟩) hHeld ?_
    rotate_left
    focus ((try dsimp only at hSw); first | (go_simp; done) | (go_simp; with_reducible rfl))
    try simp only [Act.put, List.setIfInBounds_toArray, List.set_cons_zero, List.set_cons_succ]
    refine wpAnyH_take (i := 9) (v := ?_) (by simp only [List.getElem?_toArray, List.getElem?_cons_succ, List.getElem?_cons_zero]; exact rfl) (by kernel_rfl) (by kernel_rfl) (by kernel_rfl) (by intro _ _ _ h; exact h) (Or.inl ⟨by rfl, fun W hSw => ?_⟩) hHeld ?_
    rotate_left
    focus ((try dsimp only at hSw); first | (go_simp; done) | (go_simp; with_reducible rfl))
    try simp only [Act.put, List.setIfInBounds_toArray, List.set_cons_zero, List.set_cons_succ]
    refine wpAnyH_ready (rs := [10]) (by kernel_rfl) (by simp) (AllReadyH.cons (by simp only [List.getElem?_toArray, List.getElem?_cons_succ, List.getElem?_cons_zero]; exact rfl) (fun K hK => ?_) AllReadyH.nil)
    rw [if_pos (by rfl)]
    go_simp
    (with_reducible refine (HA.out _ (bt HB3.out hd2)).mono ?_); rintro e v3 ⟨rfl, hv3⟩; have hd3 := bt hd2 hv3; go_wp2_with fail
    refine hK.out _ _ (KC.out _ hd3) (fun hHeld => ?_)
    clear hK K
    try simp only [Act.put, List.setIfInBounds_toArray, List.set_cons_zero, List.set_cons_succ]
    refine wpAnyH_take (i := 11) (v := ?_) (by simp only [List.getElem?_toArray, List.getElem?_cons_succ, List.getElem?_cons_zero]; exact rfl) (by kernel_rfl) (by kernel_rfl) (by kernel_rfl) (by intro _ _ _ h; exact h) (Or.inl ⟨by rfl, fun W hSw => ?_⟩) hHeld ?_
    rotate_left
    focus ((try dsimp only at hSw); first | (go_simp; done) | (go_simp; with_reducible rfl))
    try simp only [Act.put, List.setIfInBounds_toArray, List.set_cons_zero, List.set_cons_succ]
    refine wpAnyH_take (i := 12) (v := ?_) (by simp only [List.getElem?_toArray, List.getElem?_cons_succ, List.getElem?_cons_zero]; exact rfl) (by kernel_rfl) (by kernel_rfl) (by kernel_rfl) (by intro _ _ _ h; exact h) (Or.inl ⟨by rfl, fun W hSw => ?_⟩) hHeld ?_
    rotate_left
    focus ((try dsimp only at hSw); first | (go_simp; done) | (go_simp; with_reducible rfl))
    try simp only [Act.put, List.setIfInBounds_toArray, List.set_cons_zero, List.set_cons_succ]
    refine wpAnyH_done (by kernel_rfl) ?_ _
    clear hHeld
    go_wp2
    go_ret
    exact ⟨rfl, bt HB3.out hd3⟩
theorem etagAsks_law {H : Type} {enc : TypeId × Value → H} {W : World} {base0 base1 : Nat}
    (v0 : Value) (hv0 : Value.okWide Tryz.prog W .any base0 22 v0) {d0 : DataW H} {p0 : List MemPlace} (h0 : DataW.Trod enc Tryz.prog W 0 (fun _ => true) true 22 v0 d0 p0) (hr0 : Reach 22 d0)
    (v1 : Value) (hv1 : Value.okWide Tryz.prog W .any base1 22 v1) {d1 : DataW H} {p1 : List MemPlace} (h1 : DataW.Trod enc Tryz.prog W 0 (fun _ => true) true 22 v1 d1 p1) (hr1 : Reach 22 d1)
    (now : Int) (w : World) (hw : w = W) (hE : DEnv W) :
    Calls Tryz.prog 3 #[v0, v1, .int .i64 now] w fun e w' => e = .returned (.bool true) ∧ Below w.heap.size w w' := by
  subst hw
  obtain ⟨A, n, c, xs, rfl, hR, hn, hl⟩ := open_flds_v hv0 h0 hr0
  obtain ⟨B, m, d, ys, rfl, hQ, hm, hql⟩ := open_flds_v hv1 h1 hr1
  have hrb : reachBytes ≤ 140737488355328 := by decide
  exact etagAsks_any A B n c m d xs ys now w hE hR hQ (by omega) (by omega) (fun f hf => by have := hl f hf; omega) (fun f hf => by have := hql f hf; omega) 
end Go.Proofs.YtedmiganmifepaaGreatDoor
