/- Joined out of the texts St7, OpenT, Open, OpenV, OpenRep, OpenAct, St8, St9, St10 (wip/tools/merge.py). -/
import Derived.Test.YtokhlmoanlcjmaaDoorPt2
import Derived.OpenShut
import Derived.SizedLaws
import Derived.Deep.Slices
import Derived.SliceStrings
import Derived.ChangeSame
import Derived.ArgAppend
import Derived.Maps.AppendAt
/- Store: the walks of Forget, Drop, New (printed by wip/tools/st7.py). -/
namespace Go.Proofs.YtokhlmoanlcjmaaDoor
open Go.RowKit
set_option maxRecDepth 100000

/-- What is left when the k-th goes. -/
def forL (es : List Ent) (k : Int) : List Ent := if h : 0 ≤ k ∧ k.toNat < es.length then delE (es[k.toNat]'h.2).key es else es
def forB (es : List Ent) (k : Int) : Bool := decide (0 ≤ k ∧ k.toNat < es.length)
theorem hasE_at {es : List Ent} (hnd : (es.map (·.key)).Nodup) {k : Nat} (hk : k < es.length) : hasE es[k].key es = true := by
  unfold hasE; rw [find_at hnd hk]; rfl
theorem StAt.deled {w w' : World} {sb : Nat} {fp : List Nat} {bl : Nat} {n m : Int} {es : List Ent} {put : Int} {k : ByteArray} (h : StAt w sb fp bl n m es put) (hs : StI w w' fp bl n m (delE k es)) : StTo w w' sb fp bl n m (delE k es) put :=
  h.turn hs (h.goodsub hs.choose_spec.2.1 (fun _ hb => List.mem_cons_of_mem _ hb) (fun _ he => (List.mem_filter.1 he).1))
set_option maxHeartbeats 16000000 in
theorem forget19_any {w : World} {sb : Nat} {fp : List Nat} {bl : Nat} {nn mm : Int} {es : List Ent} {put : Int} (h : StAt w sb fp bl nn mm es put) (k : Int) :
    Calls Tryd.prog 15 #[.pointer (some ⟨sb, 0, none⟩), .int .i64 k] w fun e w' => e = .returned (.bool (forB es k)) ∧ StTo w w' sb fp bl nn mm (forL es k) put := by
  have hlen : es.length ≤ 4096 := by have := h.bud.ends; omega
  have ki := is19_any h
  have kk2 := keysI_q h.bud
  have y0 := (of_heap h.blk 0).1
  simp only [List.getElem?_toArray, List.getElem?_cons_zero] at y0
  have HH := Lib.hid h; have KI := Lib.hid ki; have KK := Lib.hid kk2
  clear h ki kk2
  unfold ptr at *
  have e1 : forB es k = decide (0 ≤ k ∧ k.toNat < es.length) := rfl
  by_cases hb : 0 ≤ k ∧ k.toNat < es.length
  · have e2 : forL es k = delE (es[k.toNat]'hb.2).key es := by unfold forL; rw [dif_pos hb]
    rw [e1, e2, decide_eq_true hb]
    clear e1 e2
    go_enter Tryd.func15, Tryd.ntmps15
    go_wp2_with fail
    (with_reducible refine KI.out.mono ?_)
    rintro e w1 ⟨rfl, rfl⟩
    go_wp2_with fail
    (with_reducible refine KK.out.mono ?_)
    rintro e w3 ⟨ka, kc, rfl, hO, hb3⟩
    have hkl : (strs (es.map (·.key))).length = es.length := by unfold strs; simp
    have h3 := HH.out.below hb3
    obtain ⟨b, o, rfl, hlb, f1⟩ := hO.rd.2.str_at (k := k.toNat) (by rw [hkl]; exact hb.2)
    have hst : (strs (es.map (·.key)))[k.toNat]'(by rw [hkl]; exact hb.2) = (es[k.toNat]'hb.2).key.data.toList := by unfold strs; simp
    rw [hst, str_of] at f1
    have kd := dropI_q (h3.below ((Below.refl _ _).drew)).bud (es[k.toNat]'hb.2).key (h3.bud.sz _ (List.getElem_mem hb.2)).2
    rw [hasE_at h3.bud.nd hb.2] at kd
    have hgb : w.heap.size ≤ b := by
      rcases hO.2 with ⟨hv, _⟩ | ⟨g, cp, cur, hv, hg, _⟩
      · cases hv
      · injection hv with hv _ _
        injection hv with hv
        injection hv with hv _
        omega
    have kf : ∀ w', StI w3.drew w' fp bl nn mm (delE (es[k.toNat]'hb.2).key es) → (w'.cell? ⟨sb, 0, none⟩ = some (.pointer (some ⟨bl, 0, none⟩)) ∧ w'.cell? ⟨b, o + k.toNat, none⟩ = some (.string (es[k.toNat]'hb.2).key)) ∧ StTo w w' sb fp bl nn mm (delE (es[k.toNat]'hb.2).key es) put := fun w' hs => by
      have h3d := h3.below ((Below.refl _ _).drew)
      have htc := hs.choose_spec.2.1
      have x6 := (htc.2.2.2.2 sb h3d.lt h3d.sep).trans h3d.blk
      have x7 : w'.cell? ⟨b, o + k.toNat, none⟩ = w3.drew.cell? ⟨b, o + k.toNat, none⟩ := World.cell?_of_block (a := ⟨b, o + k.toNat, none⟩) (htc.2.2.2.2 b hlb (fun hm => by have := HH.out.low _ (List.mem_cons_of_mem _ hm); omega))
      exact ⟨⟨(of_heap x6 0).1, x7.trans f1⟩, StTo.trans (Touch.of_below hb3.drew (Touch.refl _ _)) (fun b hb => Or.inl hb) (h3d.deled hs)⟩
    have y3 := (of_heap h3.blk 0).1
    simp only [List.getElem?_toArray, List.getElem?_cons_zero] at y3
    rw [hkl]
    generalize hkey : (es[k.toNat]'hb.2).key = key at *
    have HKEY := Lib.hid hkey
    clear hkey
    have t1 : decide (k ≥ 0) = true := by simpa using hb.1
    have t2 : decide (k < (es.length : Int)) = true := by have := hb.1; have := hb.2; simp; omega
    have t3 : (0 : Int) ≤ k := hb.1
    have t4 : k < (es.length : Int) := by have := hb.2; omega
    have KD := Lib.hid kd; have KF := Lib.hid kf
    clear kd kf hst hO h3 hkl KI KK hb3
    unfold ptr at *
    go_upto_region 4 with (fail)
    refine wp_region_held_drew (S := (fun w' => w'.cell? ⟨sb, 0, none⟩ = some (.pointer (some ⟨bl, 0, none⟩)) ∧ w'.cell? ⟨b, o + k.toNat, none⟩ = some (.string key))) (by kernel_rfl) (⟨y3, f1⟩) (fun hHeld => ?_)
    refine wpAnyH_take (i := 0) (v := ?_) (by simp only [List.getElem?_toArray, List.getElem?_cons_zero]; exact rfl) (by kernel_rfl) (by kernel_rfl) (by kernel_rfl) (by intro _ _ _ h; exact h) (Or.inl ⟨by rfl, fun W hSw => ?_⟩) hHeld ?_
    rotate_left
    focus ((try dsimp only at hSw); first | (go_simp; done) | (go_simp; with_reducible rfl))
    try simp only [Act.put, List.setIfInBounds_toArray, List.set_cons_zero, List.set_cons_succ]
    refine wpAnyH_take (i := 1) (v := ?_) (by simp only [List.getElem?_toArray, List.getElem?_cons_succ, List.getElem?_cons_zero]; exact rfl) (by kernel_rfl) (by kernel_rfl) (by kernel_rfl) (by intro _ _ _ h; exact h) (Or.inl ⟨by rfl, fun W hSw => ?_⟩) hHeld ?_
    rotate_left
    focus ((try dsimp only at hSw); first | (go_simp; done) | (go_simp; with_reducible rfl))
    try simp only [Act.put, List.setIfInBounds_toArray, List.set_cons_zero, List.set_cons_succ]
    refine wpAnyH_take (i := 2) (v := ?_) (by simp only [List.getElem?_toArray, List.getElem?_cons_succ, List.getElem?_cons_zero]; exact rfl) (by kernel_rfl) (by kernel_rfl) (by kernel_rfl) (by intro _ _ _ h; exact h) (Or.inl ⟨by rfl, fun W hSw => ?_⟩) hHeld ?_
    rotate_left
    focus ((try dsimp only at hSw); first | (go_simp; done) | (go_simp; with_reducible rfl))
    try simp only [Act.put, List.setIfInBounds_toArray, List.set_cons_zero, List.set_cons_succ]
    refine wpAnyH_take (i := 3) (v := ?_) (by simp only [List.getElem?_toArray, List.getElem?_cons_succ, List.getElem?_cons_zero]; exact rfl) (by kernel_rfl) (by kernel_rfl) (by kernel_rfl) (by intro _ _ _ h; exact h) (Or.inl ⟨by rfl, fun W hSw => ?_⟩) hHeld ?_
    rotate_left
    focus ((try dsimp only at hSw); first | (go_simp; done) | (go_simp; with_reducible rfl))
    try simp only [Act.put, List.setIfInBounds_toArray, List.set_cons_zero, List.set_cons_succ]
    refine wpAnyH_take (i := 4) (v := ?_) (by simp only [List.getElem?_toArray, List.getElem?_cons_succ, List.getElem?_cons_zero]; exact rfl) (by kernel_rfl) (by kernel_rfl) (by kernel_rfl) (by intro _ _ _ h; exact h) (Or.inl ⟨by rfl, fun W hSw => ?_⟩) hHeld ?_
    rotate_left
    focus ((try dsimp only at hSw); first | (go_simp; done) | (go_simp; with_reducible rfl))
    try simp only [Act.put, List.setIfInBounds_toArray, List.set_cons_zero, List.set_cons_succ]
    refine wpAnyH_take (i := 5) (v := ?_) (by simp only [List.getElem?_toArray, List.getElem?_cons_succ, List.getElem?_cons_zero]; exact rfl) (by kernel_rfl) (by kernel_rfl) (by kernel_rfl) (by intro _ _ _ h; exact h) (Or.inl ⟨by rfl, fun W hSw => ?_⟩) hHeld ?_
    rotate_left
    focus ((try dsimp only at hSw); first | (go_simp; done) | (go_simp; with_reducible rfl))
    try simp only [Act.put, List.setIfInBounds_toArray, List.set_cons_zero, List.set_cons_succ]
    refine wpAnyH_take (i := 6) (v := ?_) (by simp only [List.getElem?_toArray, List.getElem?_cons_succ, List.getElem?_cons_zero]; exact rfl) (by kernel_rfl) (by kernel_rfl) (by kernel_rfl) (by intro _ _ _ h; exact h) (Or.inl ⟨by rfl, fun W hSw => ?_⟩) hHeld ?_
    rotate_left
    focus ((try dsimp only at hSw); first | (go_simp; done) | (go_simp; with_reducible rfl))
    try simp only [Act.put, List.setIfInBounds_toArray, List.set_cons_zero, List.set_cons_succ]
    refine wpAnyH_take (i := 7) (v := ?_) (by simp only [List.getElem?_toArray, List.getElem?_cons_succ, List.getElem?_cons_zero]; exact rfl) (by kernel_rfl) (by kernel_rfl) (by kernel_rfl) (by intro _ _ _ h; exact h) (Or.inl ⟨by rfl, fun W hSw => ?_⟩) hHeld ?_
    rotate_left
    focus ((try dsimp only at hSw); first | (go_simp; done) | (go_simp; with_reducible rfl))
    try simp only [Act.put, List.setIfInBounds_toArray, List.set_cons_zero, List.set_cons_succ]
    refine wpAnyH_take (i := 8) (v := ?_) (by simp only [List.getElem?_toArray, List.getElem?_cons_succ, List.getElem?_cons_zero]; exact rfl) (by kernel_rfl) (by kernel_rfl) (by kernel_rfl) (by intro _ _ _ h; exact h) (Or.inl ⟨by rfl, fun W hSw => ?_⟩) hHeld ?_
    rotate_left
    focus ((try dsimp only at hSw); first | (go_simp; done) | (go_simp; with_reducible rfl))
    try simp only [Act.put, List.setIfInBounds_toArray, List.set_cons_zero, List.set_cons_succ]
    refine wpAnyH_take (i := 9) (v := ?_) (by simp only [List.getElem?_toArray, List.getElem?_cons_succ, List.getElem?_cons_zero]; exact rfl) (by kernel_rfl) (by kernel_rfl) (by kernel_rfl) (by intro _ _ _ h; exact h) (Or.inl ⟨by rfl, fun W hSw => ?_⟩) hHeld ?_
    rotate_left
    focus ((try dsimp only at hSw); first | (go_simp; done) | (go_simp; with_reducible rfl))
    try simp only [Act.put, List.setIfInBounds_toArray, List.set_cons_zero, List.set_cons_succ]
    refine wpAnyH_take (i := 10) (v := ?_) (by simp only [List.getElem?_toArray, List.getElem?_cons_succ, List.getElem?_cons_zero]; exact rfl) (by kernel_rfl) (by kernel_rfl) (by kernel_rfl) (by intro _ _ _ h; exact h) (Or.inl ⟨by rfl, fun W hSw => ?_⟩) hHeld ?_
    rotate_left
    focus ((try dsimp only at hSw); first | (go_simp; done) | (go_simp; with_reducible rfl))
    try simp only [Act.put, List.setIfInBounds_toArray, List.set_cons_zero, List.set_cons_succ]
    refine wpAnyH_take (i := 11) (v := ?_) (by simp only [List.getElem?_toArray, List.getElem?_cons_succ, List.getElem?_cons_zero]; exact rfl) (by kernel_rfl) (by kernel_rfl) (by kernel_rfl) (by intro _ _ _ h; exact h) (Or.inl ⟨by rfl, fun W hSw => ?_⟩) hHeld ?_
    rotate_left
    focus ((try dsimp only at hSw); first | (go_simp; done) | (go_simp; with_reducible rfl))
    try simp only [Act.put, List.setIfInBounds_toArray, List.set_cons_zero, List.set_cons_succ]
    refine wpAnyH_take (i := 12) (v := ?_) (by simp only [List.getElem?_toArray, List.getElem?_cons_succ, List.getElem?_cons_zero]; exact rfl) (by kernel_rfl) (by kernel_rfl) (by kernel_rfl) (by intro _ _ _ h; exact h) (Or.inl ⟨by rfl, fun W hSw => ?_⟩) hHeld ?_
    rotate_left
    focus ((try dsimp only at hSw); first | (go_simp; done) | (go_simp; with_reducible rfl))
    try simp only [Act.put, List.setIfInBounds_toArray, List.set_cons_zero, List.set_cons_succ]
    refine wpAnyH_take (i := 13) (v := ?_) (by simp only [List.getElem?_toArray, List.getElem?_cons_succ, List.getElem?_cons_zero]; exact rfl) (by kernel_rfl) (by kernel_rfl) (by kernel_rfl) (by intro _ _ _ h; exact h) (Or.inl ⟨by rfl, fun W hSw => ?_⟩) hHeld ?_
    rotate_left
    focus ((try dsimp only at hSw); first | (go_simp; done) | (go_simp; with_reducible rfl))
    try simp only [Act.put, List.setIfInBounds_toArray, List.set_cons_zero, List.set_cons_succ]
    refine wpAnyH_take (i := 14) (v := ?_) (by simp only [List.getElem?_toArray, List.getElem?_cons_succ, List.getElem?_cons_zero]; exact rfl) (by kernel_rfl) (by kernel_rfl) (by kernel_rfl) (by intro _ _ _ h; exact h) (Or.inl ⟨by rfl, fun W hSw => ?_⟩) hHeld ?_
    rotate_left
    focus ((try dsimp only at hSw); first | (go_simp; done) | (go_simp; with_reducible rfl))
    try simp only [Act.put, List.setIfInBounds_toArray, List.set_cons_zero, List.set_cons_succ]
    refine wpAnyH_take (i := 15) (v := ?_) (by simp only [List.getElem?_toArray, List.getElem?_cons_succ, List.getElem?_cons_zero]; exact rfl) (by kernel_rfl) (by kernel_rfl) (by kernel_rfl) (by intro _ _ _ h; exact h) (Or.inl ⟨by rfl, fun W hSw => ?_⟩) hHeld ?_
    rotate_left
    focus ((try dsimp only at hSw); first | (go_simp; done) | (go_simp; with_reducible rfl))
    try simp only [Act.put, List.setIfInBounds_toArray, List.set_cons_zero, List.set_cons_succ]
    refine wpAnyH_take (i := 16) (v := ?_) (by simp only [List.getElem?_toArray, List.getElem?_cons_succ, List.getElem?_cons_zero]; exact rfl) (by kernel_rfl) (by kernel_rfl) (by kernel_rfl) (by intro _ _ _ h; exact h) (Or.inl ⟨by rfl, fun W hSw => ?_⟩) hHeld ?_
    rotate_left
    focus ((try dsimp only at hSw); first | (go_simp; done) | (go_simp; with_reducible rfl))
    try simp only [Act.put, List.setIfInBounds_toArray, List.set_cons_zero, List.set_cons_succ]
    refine wpAnyH_ready (rs := [17]) (by kernel_rfl) (by simp) (AllReadyH.cons (by simp only [List.getElem?_toArray, List.getElem?_cons_succ, List.getElem?_cons_zero]; exact rfl) (fun K hK => ?_) AllReadyH.nil)
    rw [if_pos (by rfl)]
    go_simp
    (with_reducible refine KD.out.mono ?_); rintro e v3 ⟨rfl, hst⟩; have kf := KF.out _ hst; go_wp2_with fail
    refine hK.out _ _ (kf.1) (fun hHeld => ?_)
    clear hK K
    try simp only [Act.put, List.setIfInBounds_toArray, List.set_cons_zero, List.set_cons_succ]
    refine wpAnyH_take (i := 18) (v := ?_) (by simp only [List.getElem?_toArray, List.getElem?_cons_succ, List.getElem?_cons_zero]; exact rfl) (by kernel_rfl) (by kernel_rfl) (by kernel_rfl) (by intro _ _ _ h; exact h) (Or.inl ⟨by rfl, fun W hSw => ?_⟩) hHeld ?_
    rotate_left
    focus ((try dsimp only at hSw); first | (go_simp; done) | (go_simp; with_reducible rfl))
    try simp only [Act.put, List.setIfInBounds_toArray, List.set_cons_zero, List.set_cons_succ]
    refine wpAnyH_take (i := 19) (v := ?_) (by simp only [List.getElem?_toArray, List.getElem?_cons_succ, List.getElem?_cons_zero]; exact rfl) (by kernel_rfl) (by kernel_rfl) (by kernel_rfl) (by intro _ _ _ h; exact h) (Or.inl ⟨by rfl, fun W hSw => ?_⟩) hHeld ?_
    rotate_left
    focus ((try dsimp only at hSw); first | (go_simp; done) | (go_simp; with_reducible rfl))
    try simp only [Act.put, List.setIfInBounds_toArray, List.set_cons_zero, List.set_cons_succ]
    refine wpAnyH_done (by kernel_rfl) ?_ _
    clear hHeld
    go_wp2
    go_ret
    exact ⟨rfl, by rw [HKEY.out]; exact kf.2⟩
  · have e2 : forL es k = es := by unfold forL; rw [dif_neg hb]
    rw [e1, e2, decide_eq_false hb]
    clear e1 e2
    have hto := fun w3 (hb3 : Below w.heap.size w w3) => StTo.same HH.out hb3
    have HTO := Lib.hid hto
    clear hto HH
    by_cases hk0 : 0 ≤ k
    · have t1 : decide (k ≥ 0) = true := by simpa using hk0
      have t2 : decide (k < (es.length : Int)) = false := by simp; omega
      go_enter Tryd.func15, Tryd.ntmps15
      go_wp2_with fail
      (with_reducible refine KI.out.mono ?_)
      rintro e w1 ⟨rfl, rfl⟩
      go_wp2_with fail
      (with_reducible refine KK.out.mono ?_)
      rintro e w3 ⟨ka, kc, rfl, hO, hb3⟩
      have hkl : (strs (es.map (·.key))).length = es.length := by unfold strs; simp
      rw [hkl]
      have HF := Lib.hid (HTO.out _ hb3.drew)
      clear hO hkl hb3 KI KK HTO
      go_upto_region 4 with (fail)
      refine wp_region_held_drew (S := (fun _ => True)) (by kernel_rfl) (trivial) (fun hHeld => ?_)
      refine wpAnyH_take (i := 0) (v := ?_) (by simp only [List.getElem?_toArray, List.getElem?_cons_zero]; exact rfl) (by kernel_rfl) (by kernel_rfl) (by kernel_rfl) (by intro _ _ _ h; exact h) (Or.inl ⟨by rfl, fun W hSw => ?_⟩) hHeld ?_
      rotate_left
      focus ((try dsimp only at hSw); first | (go_simp; done) | (go_simp; with_reducible rfl))
      try simp only [Act.put, List.setIfInBounds_toArray, List.set_cons_zero, List.set_cons_succ]
      refine wpAnyH_take (i := 1) (v := ?_) (by simp only [List.getElem?_toArray, List.getElem?_cons_succ, List.getElem?_cons_zero]; exact rfl) (by kernel_rfl) (by kernel_rfl) (by kernel_rfl) (by intro _ _ _ h; exact h) (Or.inl ⟨by rfl, fun W hSw => ?_⟩) hHeld ?_
      rotate_left
      focus ((try dsimp only at hSw); first | (go_simp; done) | (go_simp; with_reducible rfl))
      try simp only [Act.put, List.setIfInBounds_toArray, List.set_cons_zero, List.set_cons_succ]
      refine wpAnyH_take (i := 2) (v := ?_) (by simp only [List.getElem?_toArray, List.getElem?_cons_succ, List.getElem?_cons_zero]; exact rfl) (by kernel_rfl) (by kernel_rfl) (by kernel_rfl) (by intro _ _ _ h; exact h) (Or.inl ⟨by rfl, fun W hSw => ?_⟩) hHeld ?_
      rotate_left
      focus ((try dsimp only at hSw); first | (go_simp; done) | (go_simp; with_reducible rfl))
      try simp only [Act.put, List.setIfInBounds_toArray, List.set_cons_zero, List.set_cons_succ]
      refine wpAnyH_take (i := 3) (v := ?_) (by simp only [List.getElem?_toArray, List.getElem?_cons_succ, List.getElem?_cons_zero]; exact rfl) (by kernel_rfl) (by kernel_rfl) (by kernel_rfl) (by intro _ _ _ h; exact h) (Or.inl ⟨by rfl, fun W hSw => ?_⟩) hHeld ?_
      rotate_left
      focus ((try dsimp only at hSw); first | (go_simp; done) | (go_simp; with_reducible rfl))
      try simp only [Act.put, List.setIfInBounds_toArray, List.set_cons_zero, List.set_cons_succ]
      refine wpAnyH_take (i := 4) (v := ?_) (by simp only [List.getElem?_toArray, List.getElem?_cons_succ, List.getElem?_cons_zero]; exact rfl) (by kernel_rfl) (by kernel_rfl) (by kernel_rfl) (by intro _ _ _ h; exact h) (Or.inl ⟨by rfl, fun W hSw => ?_⟩) hHeld ?_
      rotate_left
      focus ((try dsimp only at hSw); first | (go_simp; done) | (go_simp; with_reducible rfl))
      try simp only [Act.put, List.setIfInBounds_toArray, List.set_cons_zero, List.set_cons_succ]
      refine wpAnyH_take (i := 5) (v := ?_) (by simp only [List.getElem?_toArray, List.getElem?_cons_succ, List.getElem?_cons_zero]; exact rfl) (by kernel_rfl) (by kernel_rfl) (by kernel_rfl) (by intro _ _ _ h; exact h) (Or.inl ⟨by rfl, fun W hSw => ?_⟩) hHeld ?_
      rotate_left
      focus ((try dsimp only at hSw); first | (go_simp; done) | (go_simp; with_reducible rfl))
      try simp only [Act.put, List.setIfInBounds_toArray, List.set_cons_zero, List.set_cons_succ]
      refine wpAnyH_take (i := 6) (v := ?_) (by simp only [List.getElem?_toArray, List.getElem?_cons_succ, List.getElem?_cons_zero]; exact rfl) (by kernel_rfl) (by kernel_rfl) (by kernel_rfl) (by intro _ _ _ h; exact h) (Or.inl ⟨by rfl, fun W hSw => ?_⟩) hHeld ?_
      rotate_left
      focus ((try dsimp only at hSw); first | (go_simp; done) | (go_simp; with_reducible rfl))
      try simp only [Act.put, List.setIfInBounds_toArray, List.set_cons_zero, List.set_cons_succ]
      refine wpAnyH_take (i := 7) (v := ?_) (by simp only [List.getElem?_toArray, List.getElem?_cons_succ, List.getElem?_cons_zero]; exact rfl) (by kernel_rfl) (by kernel_rfl) (by kernel_rfl) (by intro _ _ _ h; exact h) (Or.inl ⟨by rfl, fun W hSw => ?_⟩) hHeld ?_
      rotate_left
      focus ((try dsimp only at hSw); first | (go_simp; done) | (go_simp; with_reducible rfl))
      try simp only [Act.put, List.setIfInBounds_toArray, List.set_cons_zero, List.set_cons_succ]
      refine wpAnyH_take (i := 8) (v := ?_) (by simp only [List.getElem?_toArray, List.getElem?_cons_succ, List.getElem?_cons_zero]; exact rfl) (by kernel_rfl) (by kernel_rfl) (by kernel_rfl) (by intro _ _ _ h; exact h) (Or.inl ⟨by rfl, fun W hSw => ?_⟩) hHeld ?_
      rotate_left
      focus ((try dsimp only at hSw); first | (go_simp; done) | (go_simp; with_reducible rfl))
      try simp only [Act.put, List.setIfInBounds_toArray, List.set_cons_zero, List.set_cons_succ]
      refine wpAnyH_take (i := 9) (v := undef) (by simp only [List.getElem?_toArray, List.getElem?_cons_succ, List.getElem?_cons_zero]; exact rfl) (by kernel_rfl) (by kernel_rfl) (by kernel_rfl) (by intro _ _ _ h; exact h) (Or.inr ⟨by rfl, rfl⟩) hHeld ?_
      try simp only [Act.put, List.setIfInBounds_toArray, List.set_cons_zero, List.set_cons_succ]
      refine wpAnyH_take (i := 10) (v := undef) (by simp only [List.getElem?_toArray, List.getElem?_cons_succ, List.getElem?_cons_zero]; exact rfl) (by kernel_rfl) (by kernel_rfl) (by kernel_rfl) (by intro _ _ _ h; exact h) (Or.inr ⟨by rfl, rfl⟩) hHeld ?_
      try simp only [Act.put, List.setIfInBounds_toArray, List.set_cons_zero, List.set_cons_succ]
      refine wpAnyH_take (i := 11) (v := undef) (by simp only [List.getElem?_toArray, List.getElem?_cons_succ, List.getElem?_cons_zero]; exact rfl) (by kernel_rfl) (by kernel_rfl) (by kernel_rfl) (by intro _ _ _ h; exact h) (Or.inr ⟨by rfl, rfl⟩) hHeld ?_
      try simp only [Act.put, List.setIfInBounds_toArray, List.set_cons_zero, List.set_cons_succ]
      refine wpAnyH_take (i := 12) (v := undef) (by simp only [List.getElem?_toArray, List.getElem?_cons_succ, List.getElem?_cons_zero]; exact rfl) (by kernel_rfl) (by kernel_rfl) (by kernel_rfl) (by intro _ _ _ h; exact h) (Or.inr ⟨by rfl, rfl⟩) hHeld ?_
      try simp only [Act.put, List.setIfInBounds_toArray, List.set_cons_zero, List.set_cons_succ]
      refine wpAnyH_take (i := 13) (v := undef) (by simp only [List.getElem?_toArray, List.getElem?_cons_succ, List.getElem?_cons_zero]; exact rfl) (by kernel_rfl) (by kernel_rfl) (by kernel_rfl) (by intro _ _ _ h; exact h) (Or.inr ⟨by rfl, rfl⟩) hHeld ?_
      try simp only [Act.put, List.setIfInBounds_toArray, List.set_cons_zero, List.set_cons_succ]
      refine wpAnyH_take (i := 14) (v := undef) (by simp only [List.getElem?_toArray, List.getElem?_cons_succ, List.getElem?_cons_zero]; exact rfl) (by kernel_rfl) (by kernel_rfl) (by kernel_rfl) (by intro _ _ _ h; exact h) (Or.inr ⟨by rfl, rfl⟩) hHeld ?_
      try simp only [Act.put, List.setIfInBounds_toArray, List.set_cons_zero, List.set_cons_succ]
      refine wpAnyH_take (i := 15) (v := undef) (by simp only [List.getElem?_toArray, List.getElem?_cons_succ, List.getElem?_cons_zero]; exact rfl) (by kernel_rfl) (by kernel_rfl) (by kernel_rfl) (by intro _ _ _ h; exact h) (Or.inr ⟨by rfl, rfl⟩) hHeld ?_
      try simp only [Act.put, List.setIfInBounds_toArray, List.set_cons_zero, List.set_cons_succ]
      refine wpAnyH_take (i := 16) (v := undef) (by simp only [List.getElem?_toArray, List.getElem?_cons_succ, List.getElem?_cons_zero]; exact rfl) (by kernel_rfl) (by kernel_rfl) (by kernel_rfl) (by intro _ _ _ h; exact h) (Or.inr ⟨by rfl, rfl⟩) hHeld ?_
      try simp only [Act.put, List.setIfInBounds_toArray, List.set_cons_zero, List.set_cons_succ]
      refine wpAnyH_take (i := 17) (v := undef) (by simp only [List.getElem?_toArray, List.getElem?_cons_succ, List.getElem?_cons_zero]; exact rfl) (by kernel_rfl) (by kernel_rfl) (by kernel_rfl) (by intro _ _ _ h; exact h) (Or.inr ⟨by rfl, rfl⟩) hHeld ?_
      try simp only [Act.put, List.setIfInBounds_toArray, List.set_cons_zero, List.set_cons_succ]
      refine wpAnyH_take (i := 18) (v := ?_) (by simp only [List.getElem?_toArray, List.getElem?_cons_succ, List.getElem?_cons_zero]; exact rfl) (by kernel_rfl) (by kernel_rfl) (by kernel_rfl) (by intro _ _ _ h; exact h) (Or.inl ⟨by rfl, fun W hSw => ?_⟩) hHeld ?_
      rotate_left
      focus ((try dsimp only at hSw); first | (go_simp; done) | (go_simp; with_reducible rfl))
      try simp only [Act.put, List.setIfInBounds_toArray, List.set_cons_zero, List.set_cons_succ]
      refine wpAnyH_take (i := 19) (v := ?_) (by simp only [List.getElem?_toArray, List.getElem?_cons_succ, List.getElem?_cons_zero]; exact rfl) (by kernel_rfl) (by kernel_rfl) (by kernel_rfl) (by intro _ _ _ h; exact h) (Or.inl ⟨by rfl, fun W hSw => ?_⟩) hHeld ?_
      rotate_left
      focus ((try dsimp only at hSw); first | (go_simp; done) | (go_simp; with_reducible rfl))
      try simp only [Act.put, List.setIfInBounds_toArray, List.set_cons_zero, List.set_cons_succ]
      refine wpAnyH_done (by kernel_rfl) ?_ _
      clear hHeld
      go_wp2
      go_ret
      exact ⟨rfl, HF.out⟩
    · have t1 : decide (k ≥ 0) = false := by simpa using hk0
      go_enter Tryd.func15, Tryd.ntmps15
      go_wp2_with fail
      (with_reducible refine KI.out.mono ?_)
      rintro e w1 ⟨rfl, rfl⟩
      go_wp2_with fail
      (with_reducible refine KK.out.mono ?_)
      rintro e w3 ⟨ka, kc, rfl, hO, hb3⟩
      have HF := Lib.hid (HTO.out _ hb3.drew)
      clear hO hb3 KI KK HTO
      go_upto_region 4 with (fail)
      refine wp_region_held_drew (S := (fun _ => True)) (by kernel_rfl) (trivial) (fun hHeld => ?_)
      refine wpAnyH_take (i := 0) (v := ?_) (by simp only [List.getElem?_toArray, List.getElem?_cons_zero]; exact rfl) (by kernel_rfl) (by kernel_rfl) (by kernel_rfl) (by intro _ _ _ h; exact h) (Or.inl ⟨by rfl, fun W hSw => ?_⟩) hHeld ?_
      rotate_left
      focus ((try dsimp only at hSw); first | (go_simp; done) | (go_simp; with_reducible rfl))
      try simp only [Act.put, List.setIfInBounds_toArray, List.set_cons_zero, List.set_cons_succ]
      refine wpAnyH_take (i := 1) (v := ?_) (by simp only [List.getElem?_toArray, List.getElem?_cons_succ, List.getElem?_cons_zero]; exact rfl) (by kernel_rfl) (by kernel_rfl) (by kernel_rfl) (by intro _ _ _ h; exact h) (Or.inl ⟨by rfl, fun W hSw => ?_⟩) hHeld ?_
      rotate_left
      focus ((try dsimp only at hSw); first | (go_simp; done) | (go_simp; with_reducible rfl))
      try simp only [Act.put, List.setIfInBounds_toArray, List.set_cons_zero, List.set_cons_succ]
      refine wpAnyH_take (i := 2) (v := ?_) (by simp only [List.getElem?_toArray, List.getElem?_cons_succ, List.getElem?_cons_zero]; exact rfl) (by kernel_rfl) (by kernel_rfl) (by kernel_rfl) (by intro _ _ _ h; exact h) (Or.inl ⟨by rfl, fun W hSw => ?_⟩) hHeld ?_
      rotate_left
      focus ((try dsimp only at hSw); first | (go_simp; done) | (go_simp; with_reducible rfl))
      try simp only [Act.put, List.setIfInBounds_toArray, List.set_cons_zero, List.set_cons_succ]
      refine wpAnyH_take (i := 3) (v := undef) (by simp only [List.getElem?_toArray, List.getElem?_cons_succ, List.getElem?_cons_zero]; exact rfl) (by kernel_rfl) (by kernel_rfl) (by kernel_rfl) (by intro _ _ _ h; exact h) (Or.inr ⟨by rfl, rfl⟩) hHeld ?_
      try simp only [Act.put, List.setIfInBounds_toArray, List.set_cons_zero, List.set_cons_succ]
      refine wpAnyH_take (i := 4) (v := undef) (by simp only [List.getElem?_toArray, List.getElem?_cons_succ, List.getElem?_cons_zero]; exact rfl) (by kernel_rfl) (by kernel_rfl) (by kernel_rfl) (by intro _ _ _ h; exact h) (Or.inr ⟨by rfl, rfl⟩) hHeld ?_
      try simp only [Act.put, List.setIfInBounds_toArray, List.set_cons_zero, List.set_cons_succ]
      refine wpAnyH_take (i := 5) (v := undef) (by simp only [List.getElem?_toArray, List.getElem?_cons_succ, List.getElem?_cons_zero]; exact rfl) (by kernel_rfl) (by kernel_rfl) (by kernel_rfl) (by intro _ _ _ h; exact h) (Or.inr ⟨by rfl, rfl⟩) hHeld ?_
      try simp only [Act.put, List.setIfInBounds_toArray, List.set_cons_zero, List.set_cons_succ]
      refine wpAnyH_take (i := 6) (v := undef) (by simp only [List.getElem?_toArray, List.getElem?_cons_succ, List.getElem?_cons_zero]; exact rfl) (by kernel_rfl) (by kernel_rfl) (by kernel_rfl) (by intro _ _ _ h; exact h) (Or.inr ⟨by rfl, rfl⟩) hHeld ?_
      try simp only [Act.put, List.setIfInBounds_toArray, List.set_cons_zero, List.set_cons_succ]
      refine wpAnyH_take (i := 7) (v := ?_) (by simp only [List.getElem?_toArray, List.getElem?_cons_succ, List.getElem?_cons_zero]; exact rfl) (by kernel_rfl) (by kernel_rfl) (by kernel_rfl) (by intro _ _ _ h; exact h) (Or.inl ⟨by rfl, fun W hSw => ?_⟩) hHeld ?_
      rotate_left
      focus ((try dsimp only at hSw); first | (go_simp; done) | (go_simp; with_reducible rfl))
      try simp only [Act.put, List.setIfInBounds_toArray, List.set_cons_zero, List.set_cons_succ]
      refine wpAnyH_take (i := 8) (v := ?_) (by simp only [List.getElem?_toArray, List.getElem?_cons_succ, List.getElem?_cons_zero]; exact rfl) (by kernel_rfl) (by kernel_rfl) (by kernel_rfl) (by intro _ _ _ h; exact h) (Or.inl ⟨by rfl, fun W hSw => ?_⟩) hHeld ?_
      rotate_left
      focus ((try dsimp only at hSw); first | (go_simp; done) | (go_simp; with_reducible rfl))
      try simp only [Act.put, List.setIfInBounds_toArray, List.set_cons_zero, List.set_cons_succ]
      refine wpAnyH_take (i := 9) (v := undef) (by simp only [List.getElem?_toArray, List.getElem?_cons_succ, List.getElem?_cons_zero]; exact rfl) (by kernel_rfl) (by kernel_rfl) (by kernel_rfl) (by intro _ _ _ h; exact h) (Or.inr ⟨by rfl, rfl⟩) hHeld ?_
      try simp only [Act.put, List.setIfInBounds_toArray, List.set_cons_zero, List.set_cons_succ]
      refine wpAnyH_take (i := 10) (v := undef) (by simp only [List.getElem?_toArray, List.getElem?_cons_succ, List.getElem?_cons_zero]; exact rfl) (by kernel_rfl) (by kernel_rfl) (by kernel_rfl) (by intro _ _ _ h; exact h) (Or.inr ⟨by rfl, rfl⟩) hHeld ?_
      try simp only [Act.put, List.setIfInBounds_toArray, List.set_cons_zero, List.set_cons_succ]
      refine wpAnyH_take (i := 11) (v := undef) (by simp only [List.getElem?_toArray, List.getElem?_cons_succ, List.getElem?_cons_zero]; exact rfl) (by kernel_rfl) (by kernel_rfl) (by kernel_rfl) (by intro _ _ _ h; exact h) (Or.inr ⟨by rfl, rfl⟩) hHeld ?_
      try simp only [Act.put, List.setIfInBounds_toArray, List.set_cons_zero, List.set_cons_succ]
      refine wpAnyH_take (i := 12) (v := undef) (by simp only [List.getElem?_toArray, List.getElem?_cons_succ, List.getElem?_cons_zero]; exact rfl) (by kernel_rfl) (by kernel_rfl) (by kernel_rfl) (by intro _ _ _ h; exact h) (Or.inr ⟨by rfl, rfl⟩) hHeld ?_
      try simp only [Act.put, List.setIfInBounds_toArray, List.set_cons_zero, List.set_cons_succ]
      refine wpAnyH_take (i := 13) (v := undef) (by simp only [List.getElem?_toArray, List.getElem?_cons_succ, List.getElem?_cons_zero]; exact rfl) (by kernel_rfl) (by kernel_rfl) (by kernel_rfl) (by intro _ _ _ h; exact h) (Or.inr ⟨by rfl, rfl⟩) hHeld ?_
      try simp only [Act.put, List.setIfInBounds_toArray, List.set_cons_zero, List.set_cons_succ]
      refine wpAnyH_take (i := 14) (v := undef) (by simp only [List.getElem?_toArray, List.getElem?_cons_succ, List.getElem?_cons_zero]; exact rfl) (by kernel_rfl) (by kernel_rfl) (by kernel_rfl) (by intro _ _ _ h; exact h) (Or.inr ⟨by rfl, rfl⟩) hHeld ?_
      try simp only [Act.put, List.setIfInBounds_toArray, List.set_cons_zero, List.set_cons_succ]
      refine wpAnyH_take (i := 15) (v := undef) (by simp only [List.getElem?_toArray, List.getElem?_cons_succ, List.getElem?_cons_zero]; exact rfl) (by kernel_rfl) (by kernel_rfl) (by kernel_rfl) (by intro _ _ _ h; exact h) (Or.inr ⟨by rfl, rfl⟩) hHeld ?_
      try simp only [Act.put, List.setIfInBounds_toArray, List.set_cons_zero, List.set_cons_succ]
      refine wpAnyH_take (i := 16) (v := undef) (by simp only [List.getElem?_toArray, List.getElem?_cons_succ, List.getElem?_cons_zero]; exact rfl) (by kernel_rfl) (by kernel_rfl) (by kernel_rfl) (by intro _ _ _ h; exact h) (Or.inr ⟨by rfl, rfl⟩) hHeld ?_
      try simp only [Act.put, List.setIfInBounds_toArray, List.set_cons_zero, List.set_cons_succ]
      refine wpAnyH_take (i := 17) (v := undef) (by simp only [List.getElem?_toArray, List.getElem?_cons_succ, List.getElem?_cons_zero]; exact rfl) (by kernel_rfl) (by kernel_rfl) (by kernel_rfl) (by intro _ _ _ h; exact h) (Or.inr ⟨by rfl, rfl⟩) hHeld ?_
      try simp only [Act.put, List.setIfInBounds_toArray, List.set_cons_zero, List.set_cons_succ]
      refine wpAnyH_take (i := 18) (v := ?_) (by simp only [List.getElem?_toArray, List.getElem?_cons_succ, List.getElem?_cons_zero]; exact rfl) (by kernel_rfl) (by kernel_rfl) (by kernel_rfl) (by intro _ _ _ h; exact h) (Or.inl ⟨by rfl, fun W hSw => ?_⟩) hHeld ?_
      rotate_left
      focus ((try dsimp only at hSw); first | (go_simp; done) | (go_simp; with_reducible rfl))
      try simp only [Act.put, List.setIfInBounds_toArray, List.set_cons_zero, List.set_cons_succ]
      refine wpAnyH_take (i := 19) (v := ?_) (by simp only [List.getElem?_toArray, List.getElem?_cons_succ, List.getElem?_cons_zero]; exact rfl) (by kernel_rfl) (by kernel_rfl) (by kernel_rfl) (by intro _ _ _ h; exact h) (Or.inl ⟨by rfl, fun W hSw => ?_⟩) hHeld ?_
      rotate_left
      focus ((try dsimp only at hSw); first | (go_simp; done) | (go_simp; with_reducible rfl))
      try simp only [Act.put, List.setIfInBounds_toArray, List.set_cons_zero, List.set_cons_succ]
      refine wpAnyH_done (by kernel_rfl) ?_ _
      clear hHeld
      go_wp2
      go_ret
      exact ⟨rfl, HF.out⟩

/-- What is left when all of a key go. -/
def dropL (kk : List UInt8) (es : List Ent) : List Ent := es.filter fun e => !(e.x.key.data.toList == kk)
def dropN (kk : List UInt8) (es : List Ent) : Nat := (es.filter fun e => e.x.key.data.toList == kk).length
theorem dropL_step {p q : List Ent} {e : Ent} (hnd : ((p ++ e :: q).map (·.key)).Nodup) : delE e.key (p ++ e :: q) = p ++ q := by
  unfold delE
  rw [List.filter_append, List.filter_cons, keyIs_iff.2 rfl]
  rw [List.map_append, List.map_cons, List.nodup_append] at hnd
  have h1 : p.filter (fun x => !keyIs e.key x) = p := List.filter_eq_self.2 (fun x hx => by
    have : x.key ≠ e.key := fun h => hnd.2.2 x.key (List.mem_map.2 ⟨x, hx, rfl⟩) e.key (by simp) h
    rw [keyIs_false.2 this]; rfl)
  have h2 : q.filter (fun x => !keyIs e.key x) = q := List.filter_eq_self.2 (fun x hx => by
    have : x.key ≠ e.key := fun h => (List.nodup_cons.1 hnd.2.1).1 (List.mem_map.2 ⟨x, hx, h⟩)
    rw [keyIs_false.2 this]; rfl)
  rw [h1, h2]; rfl
set_option maxHeartbeats 16000000 in
theorem drop19_any {w : World} {sb : Nat} {fp : List Nat} {bl : Nat} {nn mm : Int} {es : List Ent} {put : Int} (h : StAt w sb fp bl nn mm es put) (kk : List UInt8) :
    Calls Tryd.prog 12 #[.pointer (some ⟨sb, 0, none⟩), .string ⟨kk.toArray⟩] w fun e w' => e = .returned (.int .i64 (dropN kk es : Nat)) ∧ StTo w w' sb fp bl nn mm (dropL kk es) put := by
  have hlen : es.length ≤ 4096 := by have := h.bud.ends; omega
  have ki := is19_any h
  have kk2 := keysI_q h.bud
  have y0 := (of_heap h.blk 0).1
  simp only [List.getElem?_toArray, List.getElem?_cons_zero] at y0
  have hs0 : dropL kk (es.take 0) ++ es.drop 0 = es := rfl
  have hsn : ∀ k (hk : k < es.length), (es[k].x.key.data.toList == kk) = true → dropN kk (es.take (k + 1)) = dropN kk (es.take k) + 1 ∧ dropL kk (es.take (k + 1)) = dropL kk (es.take k) := fun k hk hc => by
    unfold dropN dropL
    rw [List.take_succ_eq_append_getElem hk, List.filter_append, List.filter_append]
    simp [hc]
  have hsm : ∀ k (hk : k < es.length), (es[k].x.key.data.toList == kk) = false → dropN kk (es.take (k + 1)) = dropN kk (es.take k) ∧ dropL kk (es.take (k + 1)) = dropL kk (es.take k) ++ [es[k]] := fun k hk hc => by
    unfold dropN dropL
    rw [List.take_succ_eq_append_getElem hk, List.filter_append, List.filter_append]
    simp [hc]
  have hdr : ∀ k (hk : k < es.length), es.drop k = es[k] :: es.drop (k + 1) := fun k hk => List.drop_eq_getElem_cons hk
  have hfin : dropN kk (es.take es.length) = dropN kk es ∧ dropL kk (es.take es.length) ++ es.drop es.length = dropL kk es := by
    rw [List.take_length, List.drop_length, List.append_nil]; exact ⟨rfl, rfl⟩
  have hnl : ∀ k, dropN kk (es.take k) ≤ 5000 := fun k => by
    unfold dropN
    have := List.length_filter_le (fun e : Ent => e.x.key.data.toList == kk) (es.take k)
    have : (es.take k).length ≤ es.length := by rw [List.length_take]; omega
    omega
  have HH := Lib.hid h; have KI := Lib.hid ki; have KK := Lib.hid kk2; have HS0 := Lib.hid hs0; have HSN := Lib.hid hsn; have HSM := Lib.hid hsm; have HDR := Lib.hid hdr; have HFIN := Lib.hid hfin; have HNL := Lib.hid hnl
  clear h ki kk2 hs0 hsn hsm hdr hfin hnl
  unfold ptr at *
  go_enter Tryd.func12, Tryd.ntmps12
  go_wp2_with fail
  (with_reducible refine KI.out.mono ?_)
  rintro e w1 ⟨rfl, rfl⟩
  go_wp2_with fail
  (with_reducible refine KK.out.mono ?_)
  rintro e w3 ⟨ka, kc, rfl, hO, hb3⟩
  have hkl : (strs (es.map (·.key))).length = es.length := by unfold strs; simp
  have HKL := Lib.hid hkl
  rw [hkl] at hO ⊢
  clear hkl KI KK y0
  have h3 := HH.out.below hb3
  have kro : ∀ W, Touch (sb :: fp) w3 W → Rd ka es.length 1 (strsV (strs (es.map (·.key)))) W := fun W ht => by
    have := (hO.touch ht (fun b hb => Or.inl (HH.out.low b hb))).rd.2
    rw [HKL.out] at this
    exact this
  have H3 := Lib.hid h3; have KRO := Lib.hid kro; have HB3 := Lib.hid hb3
  clear hO h3 kro hb3
  go_wp2_with fail
  go_loopw [19, 5] (fun i c wr => ∃ k : Nat, k ≤ es.length ∧ i = .int .i64 k ∧ c = .int .i64 (dropN kk (es.take k) : Nat) ∧ Hid (StTo w3 wr sb fp bl nn mm (dropL kk (es.take k) ++ es.drop k) put)) (fun i _ _ => es.length - (intOf i).toNat)
  case atStart => exact ⟨0, Nat.zero_le _, rfl, rfl, by rw [HS0.out]; exact Lib.hid (StTo.same H3.out (Below.refl _ _))⟩
  case round =>
    obtain ⟨k, hkk, rfl, rfl, HST⟩ := hrel
    obtain ⟨fpr, hsr, htr, hfr⟩ := HST.out
    by_cases hlt : k < es.length
    · obtain ⟨b, o, rfl, hlb, e1⟩ := (KRO.out wr htr).str_at (k := k) (by rw [HKL.out]; exact hlt)
      have hst : (strs (es.map (·.key)))[k]'(by rw [HKL.out]; exact hlt) = es[k].key.data.toList := by unfold strs; simp
      rw [hst, str_of] at e1
      have y4 := (of_heap hsr.blk 0).1
      simp only [List.getElem?_toArray, List.getElem?_cons_zero] at y4
      have hd := HDR.out k hlt
      have hsn := HSN.out k hlt; have hsm := HSM.out k hlt; have hnl := HNL.out k
      have hsr2 := hsr
      rw [hd] at hsr2
      generalize es[k] = ex at *
      have hmem : ex ∈ dropL kk (es.take k) ++ ex :: es.drop (k + 1) := by simp
      have kp := peekI_q hsr2.bud ex.key (hsr2.bud.sz _ hmem).2
      unfold valE hasE at kp
      rw [find_mid hsr2.bud.nd] at kp
      have kd := fun W (hb : Below wr.heap.size wr W) => dropI_q (hsr2.below hb).bud ex.key (hsr2.bud.sz _ hmem).2
      rw [dropL_step hsr2.bud.nd] at kd
      have hh : hasE ex.key (dropL kk (es.take k) ++ ex :: es.drop (k + 1)) = true := by unfold hasE; rw [find_mid hsr2.bud.nd]; rfl
      rw [hh] at kd
      have kf : ∀ W w', Below wr.heap.size wr W → StI W w' fpr bl nn mm (dropL kk (es.take k) ++ es.drop (k + 1)) → StTo w3 w' sb fp bl nn mm (dropL kk (es.take k) ++ es.drop (k + 1)) put := fun W w' hb hs => by
        have hW := hsr2.below hb
        have hto := hW.turn hs (hW.goodsub hs.choose_spec.2.1 (fun _ hb => List.mem_cons_of_mem _ hb) (fun e he => by
          rcases List.mem_append.1 he with h' | h'
          · exact List.mem_append_left _ h'
          · exact List.mem_append_right _ (List.mem_cons_of_mem _ h')))
        exact StTo.trans (htr.trans (Touch.of_below hb (Touch.refl [] _)) (fun b hb => by cases hb)) hfr hto
      obtain ⟨y, hy⟩ : ∃ y : List UInt8, ex.x.key = ⟨y.toArray⟩ := ⟨ex.x.key.data.toList, (str_back ex.x.key).symm⟩
      have hy2 : ex.x.key.data.toList = y := by rw [hy]
      rw [hy2] at hsn hsm
      unfold Hv.val at kp
      rw [hy] at kp
      have KP := Lib.hid kp; have KD := Lib.hid kd; have KF := Lib.hid kf; have HD := Lib.hid hd; have HSR := Lib.hid hsr; have HTR := Lib.hid htr
      clear kp kd kf hd hsr2 hsr htr hst hmem hh HSN HSM
      unfold ptr at *
      go_wp2_with fail
      (with_reducible refine KP.out.mono ?_)
      rintro e w5 ⟨rfl, hb5⟩
      obtain ⟨W6, hW6⟩ : ∃ W6, w5.alloc (.cells #[.string ⟨y.toArray⟩, .int .i64 ex.x.st, .string ex.x.re, .int .i64 ex.x.mi, .slice ex.x.fA ex.x.fn ex.x.fc, .string ex.x.bo, .int .i64 ex.x.asked, .int .i64 ex.x.got, .slice ex.x.vA ex.x.vn ex.x.vc, .int .i64 ex.x.num] 60) = W6 := ⟨_, rfl⟩
      have b6 : Below wr.heap.size wr W6 := by rw [← hW6]; exact hb5.alloc hb5.size _
      have xg : W6.heap[w5.heap.size]? = some (.cells #[.string ⟨y.toArray⟩, .int .i64 ex.x.st, .string ex.x.re, .int .i64 ex.x.mi, .slice ex.x.fA ex.x.fn ex.x.fc, .string ex.x.bo, .int .i64 ex.x.asked, .int .i64 ex.x.got, .slice ex.x.vA ex.x.vn ex.x.vc, .int .i64 ex.x.num] 60 (0, 0)) := by rw [← hW6]; exact heap_new w5 _ _ rfl
      have g0 := (of_heap xg 0).1
      simp only [List.getElem?_toArray, List.getElem?_cons_zero] at g0
      have y6 := (b6.cell (p := ⟨sb, 0, none⟩) (HSR.out.lt)).trans y4
      have HW6 := Lib.hid hW6; have B6 := Lib.hid b6
      clear hW6 b6 xg hb5 KP
      go_upto_region 8 with (fail)
      rw [HW6.out]
      cases hc1 : (y == kk)
      · obtain ⟨hz1, hz2⟩ := hsm hc1
        have HZ := Lib.hid (And.intro hz1 hz2)
        have HF : Hid (StTo w3 W6 sb fp bl nn mm (dropL kk (es.take (k + 1)) ++ es.drop (k + 1)) put) := by
          rw [hz2, List.append_assoc, List.singleton_append, ← HD.out]
          exact Lib.hid (HST.out.then B6.out)
        clear hz1 hz2 hsn hsm HST
        go_wp2
        go_roundw
        case rel => exact ⟨k + 1, by omega, by go_num, by rw [HZ.out.1], HF⟩
        case measure => simp [intOf]; omega
      · obtain ⟨hz1, hz2⟩ := hsn hc1
        have HZ := Lib.hid (And.intro hz1 hz2)
        have a1 : IntKind.i64.wrap ((dropN kk (es.take k) : Nat) + 1 : Int) = ((dropN kk (es.take k) : Nat) : Int) + 1 := by rw [IntKind.wrap_i64]; omega
        clear hz1 hz2 hsn hsm HST
        go_wp2_with fail
        (with_reducible refine (KD.out _ B6.out).mono ?_)
        rintro e w7 ⟨rfl, hst7⟩
        have hf7 := KF.out _ _ B6.out hst7
        have HF : Hid (StTo w3 w7 sb fp bl nn mm (dropL kk (es.take (k + 1)) ++ es.drop (k + 1)) put) := by
          rw [HZ.out.2]; exact Lib.hid hf7
        clear hf7 hst7 KD KF
        go_wp2
        go_roundw
        case rel => exact ⟨k + 1, by omega, by go_num, by rw [HZ.out.1]; rfl, HF⟩
        case measure => simp [intOf]; omega
    · have hke : k = es.length := by omega
      subst hke
      have hf := HST.out
      rw [HFIN.out.2] at hf
      have HF := Lib.hid (StTo.trans (Touch.of_below HB3.out (Touch.refl (sb :: fp) _)) (fun b hb => Or.inl hb) hf)
      rw [HFIN.out.1]
      clear hf HST hsr htr hfr
      go_wp2
      go_ret
      exact ⟨rfl, HF.out⟩
theorem new19_any (n m : Int) (w : World) (hn : 1 ≤ n ∧ n ≤ 4096) (hm : 1 ≤ m ∧ m ≤ 1073741824) :
    Calls Tryd.prog 7 #[.int .i64 n, .int .i64 m] w fun e w' => ∃ sb fp bl, e = .returned (.pointer (some ⟨sb, 0, none⟩)) ∧ StAt w' sb fp bl n m [] 0 ∧ Below w.heap.size w w' ∧ ∀ b ∈ sb :: fp, w.heap.size ≤ b := by
  have K1 := Lib.hid (newI_q n m w hn hm)
  go_enter Tryd.func7, Tryd.ntmps7
  go_wp2_with fail
  (with_reducible refine K1.out.mono ?_)
  rintro e w1 ⟨bl, fp, rfl, hq, hb, hf⟩
  have hq2 := hq.below ((Below.refl w1.heap.size w1).alloc (Nat.le_refl _) (.cells #[.pointer (some ⟨bl, 0, none⟩), .int .i64 0] 57))
  have hlow := hq.low
  have HQ := Lib.hid hq2; have HB := Lib.hid hb; have HF := Lib.hid hf; have HL := Lib.hid hlow
  clear hq hq2 hb hf hlow
  go_wp2
  go_ret
  refine ⟨w1.heap.size, fp, bl, rfl, ⟨heap_new w1 _ _ rfl, HQ.out, fun hm => by have := HL.out _ hm; omega, by simp⟩, HB.out.alloc HB.out.size _, fun b hb => ?_⟩
  rcases List.mem_cons.1 hb with rfl | hb
  · exact HB.out.size
  · exact HF.out b hb
end Go.Proofs.YtokhlmoanlcjmaaDoor
/- What came in, opened: texts and fields in slices; replies and entries by value. -/
namespace Go.Proofs.YtokhlmoanlcjmaaDoor
open Go.ChangeShapes Go.WideShapes Go.RowKit
set_option maxRecDepth 100000

/-- The form's own reach: each string, slice and map within d. -/
def Reach {H : Type} (T : TypeId) (d : DataW H) : Prop := ∀ n ∈ d.weights Tryd.prog T, n ≤ reachBytes
theorem reach_each {H : Type} {ts : List TypeId} {ds : List (DataW H)} (h : (DataW.weightsEach Tryd.prog ts ds).all (· ≤ reachBytes) = true) {j : Nat} {t : TypeId} {d : DataW H} (ht : ts[j]? = some t) (hd : ds[j]? = some d) : Reach t d :=
  fun n hn => of_decide_eq_true (List.all_eq_true.1 h n (DataW.weights_mem_each ht hd n hn))
theorem reach_str {H : Type} {T : TypeId} {l : List UInt8} (h : Reach (H := H) T (.lit (.string l))) : l.length ≤ reachBytes := h _ (by simp [DataW.weights])
theorem weightsAll_mem' {H : Type} {e : TypeId} : ∀ {ds : List (DataW H)} {d : DataW H}, d ∈ ds → ∀ n ∈ d.weights Tryd.prog e, n ∈ DataW.weightsAll Tryd.prog e ds
  | x :: r, d, hd, n, hn => by
    simp only [DataW.weightsAll, List.mem_append]
    rcases List.mem_cons.1 hd with rfl | h
    · exact Or.inl hn
    · exact Or.inr (weightsAll_mem' h n hn)
theorem reach_elem {H : Type} {t e : TypeId} (hu : Tryd.prog.underlying t = some (.slice e)) {elems spare : List (DataW H)} (h : Reach t (.slice elems spare)) {d : DataW H} (hd : d ∈ elems) : Reach e d := by
  intro n hn
  refine h n ?_
  simp only [DataW.weights, hu, List.mem_cons, List.mem_append]
  exact Or.inr (Or.inl (weightsAll_mem' hd n hn))
theorem reach_len {H : Type} {t e : TypeId} (hu : Tryd.prog.underlying t = some (.slice e)) {elems spare : List (DataW H)} (h : Reach t (.slice elems spare)) : elems.length * Tryd.prog.bytesOf e ≤ reachBytes := by
  have := h ((elems.length + spare.length) * Tryd.prog.bytesOf e) (by simp [DataW.weights, hu])
  exact Nat.le_trans (Nat.mul_le_mul_right _ (by omega)) this
theorem reach_part {H : Type} {t : TypeId} {fs : Array Field} (hu : Tryd.prog.underlying t = some (.struct fs)) {parts : List (DataW H)} (h : Reach t (.agg parts)) {j : Nat} {f : Field} {d : DataW H} (hf : fs[j]? = some f) (hd : parts[j]? = some d) : Reach f.type d := by
  intro n hn
  refine h n ?_
  simp only [DataW.weights, hu]
  exact DataW.weights_mem_each (j := j) (by simp [hf]) hd n hn

theorem two_of {α : Type} : ∀ (l : List α), l.length = 2 → ∃ u v, l = [u, v]
  | [u, v], _ => ⟨u, v, rfl⟩
theorem exists_listL {α : Type} (n : Nat) (Pr : Nat → α → Prop) (h : ∀ i, i < n → ∃ x, Pr i x) : ∃ xs : List α, xs.length = n ∧ ∀ i (hi : i < xs.length), Pr i xs[i] := by
  induction n with
  | zero => exact ⟨[], rfl, fun i hi => by simp at hi⟩
  | succ n ih =>
    obtain ⟨xs, hl, hx⟩ := ih (fun i hi => h i (by omega))
    obtain ⟨x, hx1⟩ := h n (by omega)
    refine ⟨xs ++ [x], by simp [hl], fun i hi => ?_⟩
    rw [List.length_append, List.length_singleton] at hi
    by_cases hin : i < xs.length
    · rw [List.getElem_append_left hin]; exact hx i hin
    · have : i = n := by omega
      subst this
      rw [List.getElem_append_right (by omega)]
      simpa [hl] using hx1

section
variable {H : Type} {enc : TypeId × Value → H} {W : World}
/-- A slice of texts that came in. -/
theorem open_texts {fuel : Nat} {cs : List Value} {x : DataW H × List MemPlace} (h : DataW.trod enc Tryd.prog W 0 (fun _ => true) true fuel 47 cs = some x) (hr : Reach 47 x.1) :
    ∃ A n c ls, cs = [.slice A n c] ∧ Rd A n 1 (strsV ls) W ∧ n * 16 ≤ reachBytes ∧ ∀ l ∈ ls, l.length ≤ reachBytes := by
  rcases Go.Deep.open_slice Tryd.underlying47 h with ⟨rfl, rfl⟩ | ⟨a, len, cap, m, n, D, Pl, rfl, hb, hl, hm, hmm, rfl, hi⟩
  · exact ⟨none, 0, 0, [], rfl, Rd.nil, by decide, by simp⟩
  · simp only [if_true] at hmm
    subst hmm
    have hc1 : Tryd.prog.cellsOf 9 = 1 := by kernel_rfl
    have key : ∀ i, i < len → ∃ s : List UInt8, W.cell? (a.add i) = some (.string ⟨s.toArray⟩) ∧ D i = .lit (.string s) := by
      intro i hi'
      obtain ⟨cs', hcs, ht⟩ := hi i (by omega)
      rw [hc1, Nat.mul_one] at hcs
      obtain ⟨s, rfl, hx, _⟩ := DataW.trod_string Tryd.underlying9 ht
      obtain ⟨_, _, hat⟩ := World.cells?_some hcs
      refine ⟨s.data.toList, ?_, congrArg Prod.fst hx⟩
      have := hat 0 (by omega)
      rw [str_of]
      simpa [Addr.add] using this
    obtain ⟨ls, hll, hls⟩ := exists_listL len _ key
    refine ⟨some a, len, _, ls, rfl, ⟨by simp [strsV, hll], fun hn => ?_⟩, ?_, ?_⟩
    · have hspot : a.spot = none := by
        have := World.cell?_spot (hls 0 (by omega)).1
        simpa [Addr.add] using this
      obtain ⟨b, o, spot⟩ := a
      simp only at hspot
      subst hspot
      refine ⟨b, o, rfl, ?_, fun j u hu => ?_⟩
      · rcases Nat.lt_or_ge b W.heap.size with h' | h'
        · exact h'
        · have := (hls 0 (by omega)).1
          simp [World.cell?, Addr.add, Array.getElem?_eq_none h'] at this
      · have hj : j < ls.length := by have := (List.getElem?_eq_some_iff.1 hu).1; simpa [strsV] using this
        have h1 := (hls j hj).1
        have e : (⟨b, o, none⟩ : Addr).add j = ⟨b, o + j, none⟩ := by unfold Addr.add; split <;> simp_all
        rw [e] at h1
        rw [h1, ← hu]; simp [strsV, hj]
    · have := reach_len Tryd.underlying47 hr
      rw [List.length_map, List.length_range, show Tryd.prog.bytesOf 9 = 16 from by kernel_rfl] at this
      exact this
    · intro l hl'
      obtain ⟨i, hi', e⟩ := List.mem_iff_getElem.1 hl'
      have h2 := (hls i hi').2
      rw [e] at h2
      exact reach_str (reach_elem Tryd.underlying47 hr (List.mem_map.2 ⟨i, List.mem_range.2 (by omega), h2⟩))
theorem open_texts_v {base : Nat} {v : Value} {d : DataW H} {p : List MemPlace} (hv : Value.okWide Tryd.prog W .any base 47 v) (h : DataW.Trod enc Tryd.prog W 0 (fun _ => true) true 47 v d p) (hr : Reach 47 d) :
    ∃ A n c ls, v = .slice A n c ∧ Rd A n 1 (strsV ls) W ∧ n * 16 ≤ reachBytes ∧ ∀ l ∈ ls, l.length ≤ reachBytes := by
  obtain ⟨a0, len, cap, rfl⟩ := okWide_slice Tryd.underlying47 hv
  obtain ⟨fuel, hf⟩ := h
  have hf' : DataW.trod enc Tryd.prog W 0 (fun _ => true) true fuel 47 [.slice a0 len cap] = some (d, p) := hf
  obtain ⟨A, n, c, xs, e, r⟩ := open_texts hf' hr
  exact ⟨A, n, c, xs, (List.cons.inj e).1, r⟩
end
end Go.Proofs.YtokhlmoanlcjmaaDoor
/- Slices of fields that came in, opened. -/
namespace Go.Proofs.YtokhlmoanlcjmaaDoor
open Go.ChangeShapes Go.WideShapes Go.RowKit
set_option maxRecDepth 100000

section
variable {H : Type} {enc : TypeId × Value → H} {W : World}

/-- A slice of fields that came in. -/
theorem open_flds {fuel : Nat} {cs : List Value} {x : DataW H × List MemPlace} (h : DataW.trod enc Tryd.prog W 0 (fun _ => true) true fuel 29 cs = some x) (hr : Reach 29 x.1) :
    ∃ A n c xs, cs = [.slice A n c] ∧ Rd A n 2 (fldsV xs) W ∧ n * 32 ≤ reachBytes ∧ ∀ f ∈ xs, f.1.length ≤ reachBytes ∧ f.2.length ≤ reachBytes := by
  rcases Go.Deep.open_slice Tryd.underlying29 h with ⟨rfl, rfl⟩ | ⟨a, len, cap, m, n, D, Pl, rfl, hb, hl, hm, hmm, rfl, hi⟩
  · exact ⟨none, 0, 0, [], rfl, Rd.nil, by decide, by simp⟩
  · simp only [if_true] at hmm
    subst hmm
    have hc2 : Tryd.prog.cellsOf 62 = 2 := by kernel_rfl
    have hc1 : Tryd.prog.cellsOf 9 = 1 := by kernel_rfl
    have key : ∀ i, i < len → ∃ f : Fld, W.cell? (a.add (i * 2)) = some (.string ⟨f.1.toArray⟩) ∧ W.cell? (a.add (i * 2 + 1)) = some (.string ⟨f.2.toArray⟩) ∧ D i = .agg [.lit (.string f.1), .lit (.string f.2)] := by
      intro i hi'
      obtain ⟨cs', hcs, ht⟩ := hi i (by omega)
      rw [hc2] at hcs
      obtain ⟨_, hlen, hat⟩ := World.cells?_some hcs
      obtain ⟨ys, n', _, hx, _, hyl, hg⟩ := DataW.trod_struct Tryd.underlying62 ht
      obtain ⟨u, v, rfl⟩ := two_of cs' hlen
      obtain ⟨y0, y1, rfl⟩ := two_of ys hyl
      have g0 : DataW.trod enc Tryd.prog W 0 (fun _ => true) true n' 9 (([u, v].drop 0).take (Tryd.prog.cellsOf 9)) = some y0 := hg 0 _ rfl
      have g1 : DataW.trod enc Tryd.prog W 0 (fun _ => true) true n' 9 (([u, v].drop 1).take (Tryd.prog.cellsOf 9)) = some y1 := hg 1 _ rfl
      rw [hc1] at g0 g1
      obtain ⟨s0, e0, z0, _⟩ := DataW.trod_string Tryd.underlying9 (cs := [u]) (x := y0) (by simpa using g0)
      obtain ⟨s1, e1, z1, _⟩ := DataW.trod_string Tryd.underlying9 (cs := [v]) (x := y1) (by simpa using g1)
      have e0' : u = .string s0 := (List.cons.inj e0).1
      have e1' : v = .string s1 := (List.cons.inj e1).1
      subst e0'; subst e1'; subst z0; subst z1
      have a0 : W.cell? ((a.add (i * 2)).add 0) = some (.string s0) := hat 0 (by omega)
      have a1 : W.cell? ((a.add (i * 2)).add 1) = some (.string s1) := hat 1 (by omega)
      have hD : D i = .agg [.lit (.string s0.data.toList), .lit (.string s1.data.toList)] := (Prod.mk.inj hx).1
      clear hx g0 g1 e0 e1 hat hcs ht hg
      refine ⟨(s0.data.toList, s1.data.toList), ?_, ?_, hD⟩
      · rw [Go.Deep.add_add] at a0
        show _ = some (Value.string ⟨s0.data.toList.toArray⟩)
        rw [str_of]; exact a0
      · rw [Go.Deep.add_add] at a1
        show _ = some (Value.string ⟨s1.data.toList.toArray⟩)
        rw [str_of]; exact a1
    obtain ⟨xs, hll, hls⟩ := exists_listL len _ key
    refine ⟨some a, len, _, xs, rfl, ⟨by rw [fldsV_len, hll], fun hn => ?_⟩, ?_, ?_⟩
    · have hspot : a.spot = none := by
        have := World.cell?_spot (hls 0 (by omega)).1
        simpa [Addr.add] using this
      obtain ⟨b, o, spot⟩ := a
      simp only at hspot
      subst hspot
      have e : ∀ j, (⟨b, o, none⟩ : Addr).add j = ⟨b, o + j, none⟩ := fun j => by unfold Addr.add; split <;> simp_all
      refine ⟨b, o, rfl, ?_, fun j u hu => ?_⟩
      · rcases Nat.lt_or_ge b W.heap.size with h' | h'
        · exact h'
        · have := (hls 0 (by omega)).1
          simp [World.cell?, Addr.add, Array.getElem?_eq_none h'] at this
      · have hj : j < xs.length * 2 := by have := (List.getElem?_eq_some_iff.1 hu).1; rwa [fldsV_len] at this
        have hk : j / 2 < xs.length := by omega
        have h1 := hls (j / 2) hk
        have h2 := fldsV_at xs (j / 2) hk
        rw [e, e] at h1
        rcases Nat.mod_two_eq_zero_or_one j with h0 | h0
        · have ej : j / 2 * 2 = j := by omega
          rw [ej] at h1 h2
          rw [h2.1] at hu
          cases hu
          exact h1.1
        · have ej : j / 2 * 2 + 1 = j := by omega
          rw [ej] at h1 h2
          rw [h2.2] at hu
          cases hu
          exact h1.2.1
    · have := reach_len Tryd.underlying29 hr
      rw [List.length_map, List.length_range, show Tryd.prog.bytesOf 62 = 32 from by kernel_rfl] at this
      exact this
    · intro f hf'
      obtain ⟨i, hi', e⟩ := List.mem_iff_getElem.1 hf'
      have h2 := (hls i hi').2.2
      rw [e] at h2
      have h3 := reach_elem Tryd.underlying29 hr (List.mem_map.2 ⟨i, List.mem_range.2 (by omega), h2⟩)
      exact ⟨reach_str (reach_part Tryd.underlying62 h3 (j := 0) rfl rfl), reach_str (reach_part Tryd.underlying62 h3 (j := 1) rfl rfl)⟩
end
end Go.Proofs.YtokhlmoanlcjmaaDoor
/- Slices of fields and of texts that came in, opened. -/
namespace Go.Proofs.YtokhlmoanlcjmaaDoor
open Go.ChangeShapes Go.WideShapes Go.RowKit
set_option maxRecDepth 100000

section
variable {H : Type} {enc : TypeId × Value → H} {W : World}
theorem open_flds_v {base : Nat} {v : Value} {d : DataW H} {p : List MemPlace} (hv : Value.okWide Tryd.prog W .any base 29 v) (h : DataW.Trod enc Tryd.prog W 0 (fun _ => true) true 29 v d p) (hr : Reach 29 d) :
    ∃ A n c xs, v = .slice A n c ∧ Rd A n 2 (fldsV xs) W ∧ n * 32 ≤ reachBytes ∧ ∀ f ∈ xs, f.1.length ≤ reachBytes ∧ f.2.length ≤ reachBytes := by
  obtain ⟨a0, len, cap, rfl⟩ := okWide_slice Tryd.underlying29 hv
  obtain ⟨fuel, hf⟩ := h
  have hf' : DataW.trod enc Tryd.prog W 0 (fun _ => true) true fuel 29 [.slice a0 len cap] = some (d, p) := hf
  obtain ⟨A, n, c, xs, e, r⟩ := open_flds hf' hr
  exact ⟨A, n, c, xs, (List.cons.inj e).1, r⟩
/-- A field that came in by value. -/
theorem open_fld_v {base : Nat} {v : Value} {d : DataW H} {p : List MemPlace} (hv : Value.okWide Tryd.prog W .any base 62 v) (h : DataW.Trod enc Tryd.prog W 0 (fun _ => true) true 62 v d p) (hr : Reach 62 d) :
    ∃ f : Fld, v = .agg #[.string ⟨f.1.toArray⟩, .string ⟨f.2.toArray⟩] ∧ f.1.length ≤ reachBytes ∧ f.2.length ≤ reachBytes := by
  obtain ⟨cs, rfl, hsz⟩ := okWide_struct Tryd.underlying62 hv
  obtain ⟨fuel, hf⟩ := h
  obtain ⟨l⟩ := cs
  have hf' : DataW.trod enc Tryd.prog W 0 (fun _ => true) true fuel 62 l = some (d, p) := hf
  have hc2 : Tryd.prog.cellsOf 62 = 2 := by kernel_rfl
  have hc1 : Tryd.prog.cellsOf 9 = 1 := by kernel_rfl
  obtain ⟨ys, n', _, hx, hcl, hyl, hg⟩ := DataW.trod_struct Tryd.underlying62 hf'
  obtain ⟨u, v, rfl⟩ := two_of l (hcl.trans hc2)
  obtain ⟨y0, y1, rfl⟩ := two_of ys hyl
  have g0 : DataW.trod enc Tryd.prog W 0 (fun _ => true) true n' 9 (([u, v].drop 0).take (Tryd.prog.cellsOf 9)) = some y0 := hg 0 _ rfl
  have g1 : DataW.trod enc Tryd.prog W 0 (fun _ => true) true n' 9 (([u, v].drop 1).take (Tryd.prog.cellsOf 9)) = some y1 := hg 1 _ rfl
  rw [hc1] at g0 g1
  obtain ⟨s0, e0, z0, _⟩ := DataW.trod_string Tryd.underlying9 (cs := [u]) (x := y0) (by simpa using g0)
  obtain ⟨s1, e1, z1, _⟩ := DataW.trod_string Tryd.underlying9 (cs := [v]) (x := y1) (by simpa using g1)
  have e0' : u = .string s0 := (List.cons.inj e0).1
  have e1' : v = .string s1 := (List.cons.inj e1).1
  subst e0'; subst e1'; subst z0; subst z1
  have hd : d = .agg [.lit (.string s0.data.toList), .lit (.string s1.data.toList)] := (Prod.mk.inj hx).1
  rw [hd] at hr
  refine ⟨(s0.data.toList, s1.data.toList), ?_, reach_str (reach_part Tryd.underlying62 hr (j := 0) rfl rfl), reach_str (reach_part Tryd.underlying62 hr (j := 1) rfl rfl)⟩
  simp only [str_of]
end
end Go.Proofs.YtokhlmoanlcjmaaDoor
/- Replies and entries that came in by value, opened. -/
namespace Go.Proofs.YtokhlmoanlcjmaaDoor
open Go.ChangeShapes Go.WideShapes Go.RowKit
set_option maxRecDepth 100000

theorem five_of {α : Type} : ∀ (l : List α), l.length = 5 → ∃ a b c d e, l = [a, b, c, d, e]
  | [a, b, c, d, e], _ => ⟨a, b, c, d, e, rfl⟩
theorem eight_of {α : Type} : ∀ (l : List α), l.length = 8 → ∃ a b c d e f g h, l = [a, b, c, d, e, f, g, h]
  | [a, b, c, d, e, f, g, h], _ => ⟨a, b, c, d, e, f, g, h, rfl⟩
theorem four_of {α : Type} : ∀ (l : List α), l.length = 4 → ∃ a b c d, l = [a, b, c, d]
  | [a, b, c, d], _ => ⟨a, b, c, d, rfl⟩

section
variable {H : Type} {enc : TypeId × Value → H} {W : World}
theorem open_reply_cs {fuel : Nat} {cs : List Value} {x : DataW H × List MemPlace} (h : DataW.trod enc Tryd.prog W 0 (fun _ => true) true fuel 31 cs = some x) (hr : Reach 31 x.1) :
    ∃ (st : Int) (re : ByteArray) (mi : Int) (A : Option Addr) (n c : Nat) (bo : ByteArray) (xs : List Fld), cs = [.int .i64 st, .string re, .int .i64 mi, .slice A n c, .string bo] ∧ Rd A n 2 (fldsV xs) W ∧ n * 32 ≤ reachBytes ∧ (∀ f ∈ xs, f.1.length ≤ reachBytes ∧ f.2.length ≤ reachBytes) ∧ re.size ≤ reachBytes ∧ bo.size ≤ reachBytes := by
  obtain ⟨ys, n', _, hx, hcl, hyl, hg⟩ := DataW.trod_struct Tryd.underlying31 h
  have hc5 : Tryd.prog.cellsOf 31 = 5 := by kernel_rfl
  have hcs : Tryd.prog.cellsOf 9 = 1 := by kernel_rfl
  have hci : Tryd.prog.cellsOf 3 = 1 := by kernel_rfl
  have hcf : Tryd.prog.cellsOf 29 = 1 := by kernel_rfl
  obtain ⟨c0, c1, c2, c3, c4, rfl⟩ := five_of cs (hcl.trans hc5)
  obtain ⟨y0, y1, y2, y3, y4, rfl⟩ := five_of ys hyl
  have g0 : DataW.trod enc Tryd.prog W 0 (fun _ => true) true n' 3 (([c0, c1, c2, c3, c4].drop 0).take (Tryd.prog.cellsOf 3)) = some y0 := hg 0 _ rfl
  have g1 : DataW.trod enc Tryd.prog W 0 (fun _ => true) true n' 9 (([c0, c1, c2, c3, c4].drop 1).take (Tryd.prog.cellsOf 9)) = some y1 := hg 1 _ rfl
  have g2 : DataW.trod enc Tryd.prog W 0 (fun _ => true) true n' 3 (([c0, c1, c2, c3, c4].drop 2).take (Tryd.prog.cellsOf 3)) = some y2 := hg 2 _ rfl
  have g3 : DataW.trod enc Tryd.prog W 0 (fun _ => true) true n' 29 (([c0, c1, c2, c3, c4].drop 3).take (Tryd.prog.cellsOf 29)) = some y3 := hg 3 _ rfl
  have g4 : DataW.trod enc Tryd.prog W 0 (fun _ => true) true n' 9 (([c0, c1, c2, c3, c4].drop 4).take (Tryd.prog.cellsOf 9)) = some y4 := hg 4 _ rfl
  rw [hci] at g0 g2
  rw [hcs] at g1 g4
  rw [hcf] at g3
  rw [hx] at hr
  have r1 : Reach 9 y1.1 := reach_part Tryd.underlying31 hr (j := 1) rfl rfl
  have r3 : Reach 29 y3.1 := reach_part Tryd.underlying31 hr (j := 3) rfl rfl
  have r4 : Reach 9 y4.1 := reach_part Tryd.underlying31 hr (j := 4) rfl rfl
  obtain ⟨a0, e0, _⟩ := DataW.trod_int Tryd.underlying3 (cs := [c0]) g0
  obtain ⟨s1, e1, z1, _⟩ := DataW.trod_string Tryd.underlying9 (cs := [c1]) g1
  obtain ⟨a2, e2, _⟩ := DataW.trod_int Tryd.underlying3 (cs := [c2]) g2
  obtain ⟨A, n, c, xs, e3, hR, hn, hl⟩ := open_flds (cs := [c3]) g3 r3
  obtain ⟨s4, e4, z4, _⟩ := DataW.trod_string Tryd.underlying9 (cs := [c4]) g4
  have e0' := (List.cons.inj e0).1
  have e1' := (List.cons.inj e1).1
  have e2' := (List.cons.inj e2).1
  have e3' := (List.cons.inj e3).1
  have e4' := (List.cons.inj e4).1
  subst e0'; subst e1'; subst e2'; subst e3'; subst e4'
  rw [z1] at r1
  rw [z4] at r4
  have q1 := reach_str r1
  have q4 := reach_str r4
  rw [← Lib.size_eq] at q1 q4
  exact ⟨a0, s1, a2, A, n, c, s4, xs, rfl, hR, hn, hl, q1, q4⟩
set_option maxRecDepth 100000 in
theorem open_reply {base : Nat} {v : Value} {d : DataW H} {p : List MemPlace} (hv : Value.okWide Tryd.prog W .any base 31 v) (h : DataW.Trod enc Tryd.prog W 0 (fun _ => true) true 31 v d p) (hr : Reach 31 d) :
    ∃ (st : Int) (re : ByteArray) (mi : Int) (A : Option Addr) (n c : Nat) (bo : ByteArray) (xs : List Fld), v = .agg #[.int .i64 st, .string re, .int .i64 mi, .slice A n c, .string bo] ∧ Rd A n 2 (fldsV xs) W ∧ n * 32 ≤ reachBytes ∧ (∀ f ∈ xs, f.1.length ≤ reachBytes ∧ f.2.length ≤ reachBytes) ∧ re.size ≤ reachBytes ∧ bo.size ≤ reachBytes := by
  obtain ⟨cs, rfl, hsz⟩ := okWide_struct Tryd.underlying31 hv
  obtain ⟨fuel, hf⟩ := h
  obtain ⟨l⟩ := cs
  have hf' : DataW.trod enc Tryd.prog W 0 (fun _ => true) true fuel 31 l = some (d, p) := hf
  have hr' : Reach 31 (d, p).1 := hr
  obtain ⟨st, re, mi, A, n, c, bo, xs, e, r⟩ := open_reply_cs hf' hr'
  have e' : l = _ := e
  subst e'
  exact ⟨st, re, mi, A, n, c, bo, xs, rfl, r⟩
theorem open_entry {base : Nat} {v : Value} {d : DataW H} {p : List MemPlace} (hv : Value.okWide Tryd.prog W .any base 33 v) (h : DataW.Trod enc Tryd.prog W 0 (fun _ => true) true 33 v d p) (hr : Reach 33 d) :
    ∃ (st : Int) (re : ByteArray) (mi : Int) (A : Option Addr) (n c : Nat) (bo : ByteArray) (xs : List Fld) (asd gt : Int) (va : Option Addr) (vn vc : Nat) (es : List Fld),
      v = .agg #[.int .i64 st, .string re, .int .i64 mi, .slice A n c, .string bo, .int .i64 asd, .int .i64 gt, .slice va vn vc] ∧
      (Rd A n 2 (fldsV xs) W ∧ n * 32 ≤ reachBytes ∧ (∀ f ∈ xs, f.1.length ≤ reachBytes ∧ f.2.length ≤ reachBytes) ∧ re.size ≤ reachBytes ∧ bo.size ≤ reachBytes) ∧
      (Lit.int .i64 asd).wf = true ∧ (Lit.int .i64 gt).wf = true ∧
      Rd va vn 2 (fldsV es) W ∧ vn * 32 ≤ reachBytes ∧ (∀ f ∈ es, f.1.length ≤ reachBytes ∧ f.2.length ≤ reachBytes) := by
  obtain ⟨cs, rfl, hsz⟩ := okWide_struct Tryd.underlying33 hv
  obtain ⟨fuel, hf⟩ := h
  obtain ⟨l⟩ := cs
  have hf' : DataW.trod enc Tryd.prog W 0 (fun _ => true) true fuel 33 l = some (d, p) := hf
  have hc8 : Tryd.prog.cellsOf 33 = 8 := by kernel_rfl
  have hc5 : Tryd.prog.cellsOf 31 = 5 := by kernel_rfl
  have hci : Tryd.prog.cellsOf 2 = 1 := by kernel_rfl
  have hcf : Tryd.prog.cellsOf 29 = 1 := by kernel_rfl
  obtain ⟨ys, n', _, hx, hcl, hyl, hg⟩ := DataW.trod_struct Tryd.underlying33 hf'
  obtain ⟨c0, c1, c2, c3, c4, c5, c6, c7, rfl⟩ := eight_of l (hcl.trans hc8)
  obtain ⟨y0, y1, y2, y3, rfl⟩ := four_of ys hyl
  have g0 : DataW.trod enc Tryd.prog W 0 (fun _ => true) true n' 31 (([c0, c1, c2, c3, c4, c5, c6, c7].drop 0).take (Tryd.prog.cellsOf 31)) = some y0 := hg 0 _ rfl
  have g1 : DataW.trod enc Tryd.prog W 0 (fun _ => true) true n' 2 (([c0, c1, c2, c3, c4, c5, c6, c7].drop 5).take (Tryd.prog.cellsOf 2)) = some y1 := hg 1 _ rfl
  have g2 : DataW.trod enc Tryd.prog W 0 (fun _ => true) true n' 2 (([c0, c1, c2, c3, c4, c5, c6, c7].drop 6).take (Tryd.prog.cellsOf 2)) = some y2 := hg 2 _ rfl
  have g3 : DataW.trod enc Tryd.prog W 0 (fun _ => true) true n' 29 (([c0, c1, c2, c3, c4, c5, c6, c7].drop 7).take (Tryd.prog.cellsOf 29)) = some y3 := hg 3 _ rfl
  rw [hc5] at g0
  rw [hci] at g1 g2
  rw [hcf] at g3
  have hd : d = .agg [y0.1, y1.1, y2.1, y3.1] := (Prod.mk.inj hx).1
  rw [hd] at hr
  have r0 : Reach 31 y0.1 := reach_part Tryd.underlying33 hr (j := 0) rfl rfl
  have r3 : Reach 29 y3.1 := reach_part Tryd.underlying33 hr (j := 3) rfl rfl
  obtain ⟨st, re, mi, A, n, c, bo, xs, e0, r⟩ := open_reply_cs (cs := [c0, c1, c2, c3, c4]) g0 r0
  obtain ⟨a1, e1, _, w1⟩ := DataW.trod_int Tryd.underlying2 (cs := [c5]) g1
  obtain ⟨a2, e2, _, w2⟩ := DataW.trod_int Tryd.underlying2 (cs := [c6]) g2
  obtain ⟨va, vn, vc, es, e3, hR, hn, hl⟩ := open_flds (cs := [c7]) g3 r3
  simp only [List.cons.injEq, and_true] at e0 e1 e2 e3
  obtain ⟨rfl, rfl, rfl, rfl, rfl⟩ := e0
  subst e1; subst e2; subst e3
  exact ⟨st, re, mi, A, n, c, bo, xs, a1, a2, va, vn, vc, es, rfl, r, w1, w2, hR, hn, hl⟩
end
end Go.Proofs.YtokhlmoanlcjmaaDoor
/- Slices of the store's acts that came in, opened. -/
namespace Go.Proofs.YtokhlmoanlcjmaaDoor
open Go.ChangeShapes Go.WideShapes Go.RowKit
set_option maxRecDepth 100000

/-- An act; beside its slices what they hold. -/
structure PAct where
  what : Int
  num : Int
  key : List UInt8
  st : Int
  re : ByteArray
  mi : Int
  fA : Option Addr
  fn : Nat
  fc : Nat
  bo : ByteArray
  asked : Int
  got : Int
  vA : Option Addr
  vn : Nat
  vc : Nat
  rA : Option Addr
  rn : Nat
  rc : Nat
  fl : List Fld
  vl : List Fld
  rl : List Fld
def pactV (a : PAct) : List Value := [.int .i64 a.what, .int .i64 a.num, .string ⟨a.key.toArray⟩, .int .i64 a.st, .string a.re, .int .i64 a.mi, .slice a.fA a.fn a.fc, .string a.bo, .int .i64 a.asked, .int .i64 a.got, .slice a.vA a.vn a.vc, .slice a.rA a.rn a.rc]
def pactsV (xs : List PAct) : List Value := xs.flatMap pactV
theorem flat_len {α : Type} (f : α → List Value) (m : Nat) (hm : ∀ a, (f a).length = m) (xs : List α) : (xs.flatMap f).length = xs.length * m := by
  induction xs with
  | nil => simp
  | cons x r ih => rw [List.flatMap_cons, List.length_append, ih, hm, List.length_cons, Nat.succ_mul]; omega
theorem flat_at {α : Type} (f : α → List Value) (m : Nat) (hm : ∀ a, (f a).length = m) : ∀ (xs : List α) (k : Nat) (hk : k < xs.length) (j : Nat), j < m → (xs.flatMap f)[k * m + j]? = (f xs[k])[j]?
  | x :: r, 0, _, j, hj => by
    rw [List.flatMap_cons, Nat.zero_mul, Nat.zero_add, List.getElem?_append_left (by rw [hm]; exact hj)]; rfl
  | x :: r, k + 1, hk, j, hj => by
    have ih := flat_at f m hm r k (by simpa using hk) j hj
    rw [List.flatMap_cons, List.getElem?_append_right (by rw [hm, Nat.succ_mul]; omega), hm, show (k + 1) * m + j - m = k * m + j from by rw [Nat.succ_mul]; omega, ih]
    rfl
theorem pactsV_len (xs : List PAct) : (pactsV xs).length = xs.length * 12 := flat_len pactV 12 (fun _ => rfl) xs
/-- What an act that came in is. -/
structure ActR (W : World) (a : PAct) : Prop where
  f : Rd a.fA a.fn 2 (fldsV a.fl) W
  v : Rd a.vA a.vn 2 (fldsV a.vl) W
  r : Rd a.rA a.rn 2 (fldsV a.rl) W
  what : -9223372036854775808 ≤ a.what ∧ a.what ≤ 9223372036854775807
  key : a.key.length ≤ reachBytes
  re : a.re.size ≤ reachBytes
  bo : a.bo.size ≤ reachBytes
  fb : a.fn * 32 ≤ reachBytes ∧ ∀ f ∈ a.fl, f.1.length ≤ reachBytes ∧ f.2.length ≤ reachBytes
  vb : a.vn * 32 ≤ reachBytes ∧ ∀ f ∈ a.vl, f.1.length ≤ reachBytes ∧ f.2.length ≤ reachBytes
  rb : a.rn * 32 ≤ reachBytes ∧ ∀ f ∈ a.rl, f.1.length ≤ reachBytes ∧ f.2.length ≤ reachBytes
  cap : a.fn ≤ a.fc
theorem ActR.below {W W' : World} {a : PAct} (h : ActR W a) (hb : Below W.heap.size W W') : ActR W' a := ⟨h.f.below hb, h.v.below hb, h.r.below hb, h.what, h.key, h.re, h.bo, h.fb, h.vb, h.rb, h.cap⟩
theorem Rd.pact {A : Option Addr} {n : Nat} {xs : List PAct} {w : World} (h : Rd A n 12 (pactsV xs) w) : n = xs.length := by
  have := h.1; rw [pactsV_len] at this; omega
theorem Rd.pact_at {A : Option Addr} {n k : Nat} {xs : List PAct} {w : World} (h : Rd A n 12 (pactsV xs) w) (hk : k < xs.length) :
    ∃ b o, A = some ⟨b, o, none⟩ ∧ b < w.heap.size ∧ ∀ j u, (pactV xs[k])[j]? = some u → w.cell? ⟨b, o + k * 12 + j, none⟩ = some u := by
  obtain ⟨b, o, e, hl, hc⟩ := h.2 (by rw [h.pact]; omega)
  refine ⟨b, o, e, hl, fun j u hu => ?_⟩
  have hj : j < 12 := (List.getElem?_eq_some_iff.1 hu).1
  rw [Nat.add_assoc]
  exact hc _ _ ((flat_at pactV 12 (fun _ => rfl) xs k hk j hj).trans hu)
theorem twelve_of {α : Type} : ∀ (l : List α), l.length = 12 → ∃ a b c d e f g h i j k m, l = [a, b, c, d, e, f, g, h, i, j, k, m]
  | [a, b, c, d, e, f, g, h, i, j, k, m], _ => ⟨a, b, c, d, e, f, g, h, i, j, k, m, rfl⟩
section
variable {H : Type} {enc : TypeId × Value → H} {W : World}
theorem open_entry_cs {fuel : Nat} {l : List Value} {x : DataW H × List MemPlace} (hf' : DataW.trod enc Tryd.prog W 0 (fun _ => true) true fuel 33 l = some x) (hr : Reach 33 x.1) :
    ∃ (st : Int) (re : ByteArray) (mi : Int) (A : Option Addr) (n c : Nat) (bo : ByteArray) (xs : List Fld) (asd gt : Int) (va : Option Addr) (vn vc : Nat) (es : List Fld),
      l = [.int .i64 st, .string re, .int .i64 mi, .slice A n c, .string bo, .int .i64 asd, .int .i64 gt, .slice va vn vc] ∧
      (Rd A n 2 (fldsV xs) W ∧ n * 32 ≤ reachBytes ∧ (∀ f ∈ xs, f.1.length ≤ reachBytes ∧ f.2.length ≤ reachBytes) ∧ re.size ≤ reachBytes ∧ bo.size ≤ reachBytes) ∧
      Rd va vn 2 (fldsV es) W ∧ vn * 32 ≤ reachBytes ∧ (∀ f ∈ es, f.1.length ≤ reachBytes ∧ f.2.length ≤ reachBytes) := by
  have hc8 : Tryd.prog.cellsOf 33 = 8 := by kernel_rfl
  have hc5 : Tryd.prog.cellsOf 31 = 5 := by kernel_rfl
  have hci : Tryd.prog.cellsOf 2 = 1 := by kernel_rfl
  have hcf : Tryd.prog.cellsOf 29 = 1 := by kernel_rfl
  obtain ⟨ys, n', _, hx, hcl, hyl, hg⟩ := DataW.trod_struct Tryd.underlying33 hf'
  obtain ⟨c0, c1, c2, c3, c4, c5, c6, c7, rfl⟩ := eight_of l (hcl.trans hc8)
  obtain ⟨y0, y1, y2, y3, rfl⟩ := four_of ys hyl
  have g0 : DataW.trod enc Tryd.prog W 0 (fun _ => true) true n' 31 (([c0, c1, c2, c3, c4, c5, c6, c7].drop 0).take (Tryd.prog.cellsOf 31)) = some y0 := hg 0 _ rfl
  have g1 : DataW.trod enc Tryd.prog W 0 (fun _ => true) true n' 2 (([c0, c1, c2, c3, c4, c5, c6, c7].drop 5).take (Tryd.prog.cellsOf 2)) = some y1 := hg 1 _ rfl
  have g2 : DataW.trod enc Tryd.prog W 0 (fun _ => true) true n' 2 (([c0, c1, c2, c3, c4, c5, c6, c7].drop 6).take (Tryd.prog.cellsOf 2)) = some y2 := hg 2 _ rfl
  have g3 : DataW.trod enc Tryd.prog W 0 (fun _ => true) true n' 29 (([c0, c1, c2, c3, c4, c5, c6, c7].drop 7).take (Tryd.prog.cellsOf 29)) = some y3 := hg 3 _ rfl
  rw [hc5] at g0
  rw [hci] at g1 g2
  rw [hcf] at g3
  have hd : x.1 = .agg [y0.1, y1.1, y2.1, y3.1] := by rw [hx]; rfl
  rw [hd] at hr
  have r0 : Reach 31 y0.1 := reach_part Tryd.underlying33 hr (j := 0) rfl rfl
  have r3 : Reach 29 y3.1 := reach_part Tryd.underlying33 hr (j := 3) rfl rfl
  obtain ⟨st, re, mi, A, n, c, bo, xs, e0, r⟩ := open_reply_cs (cs := [c0, c1, c2, c3, c4]) g0 r0
  obtain ⟨a1, e1, _, _⟩ := DataW.trod_int Tryd.underlying2 (cs := [c5]) g1
  obtain ⟨a2, e2, _, _⟩ := DataW.trod_int Tryd.underlying2 (cs := [c6]) g2
  obtain ⟨va, vn, vc, es, e3, hR, hn, hl⟩ := open_flds (cs := [c7]) g3 r3
  simp only [List.cons.injEq, and_true] at e0 e1 e2 e3
  obtain ⟨rfl, rfl, rfl, rfl, rfl⟩ := e0
  subst e1; subst e2; subst e3
  exact ⟨st, re, mi, A, n, c, bo, xs, a1, a2, va, vn, vc, es, rfl, r, hR, hn, hl⟩
theorem cap_slice {t e : TypeId} (hu : Tryd.prog.underlying t = some (.slice e)) {fuel : Nat} {A : Option Addr} {n c : Nat} {x : DataW H × List MemPlace} (h : DataW.trod enc Tryd.prog W 0 (fun _ => true) true fuel t [.slice A n c] = some x) : n ≤ c := by
  rcases Go.Deep.open_slice hu h with ⟨he, _⟩ | ⟨a, len, cap, m, nn, D, Pl, he, hb, hl, _⟩
  · injection he with he
    injection he with _ h1 h2
    omega
  · injection he with he
    injection he with _ h1 h2
    omega
theorem cap_entry {fuel : Nat} {l : List Value} {x : DataW H × List MemPlace} (hf' : DataW.trod enc Tryd.prog W 0 (fun _ => true) true fuel 33 l = some x) {c0 c1 c2 c4 c5 c6 c7 : Value} {A : Option Addr} {n c : Nat} (hl : l = [c0, c1, c2, .slice A n c, c4, c5, c6, c7]) : n ≤ c := by
  subst hl
  have hc5 : Tryd.prog.cellsOf 31 = 5 := by kernel_rfl
  have hcf : Tryd.prog.cellsOf 29 = 1 := by kernel_rfl
  obtain ⟨ys, n', _, hx, hcl, hyl, hg⟩ := DataW.trod_struct Tryd.underlying33 hf'
  obtain ⟨y0, y1, y2, y3, rfl⟩ := four_of ys hyl
  have g0 : DataW.trod enc Tryd.prog W 0 (fun _ => true) true n' 31 (([c0, c1, c2, .slice A n c, c4, c5, c6, c7].drop 0).take (Tryd.prog.cellsOf 31)) = some y0 := hg 0 _ rfl
  rw [hc5] at g0
  obtain ⟨zs, n2, _, _, _, hzl, hz⟩ := DataW.trod_struct Tryd.underlying31 g0
  obtain ⟨z0, z1, z2, z3, z4, rfl⟩ := five_of zs hzl
  have g3 : DataW.trod enc Tryd.prog W 0 (fun _ => true) true n2 29 (((([c0, c1, c2, .slice A n c, c4, c5, c6, c7].drop 0).take 5).drop 3).take (Tryd.prog.cellsOf 29)) = some z3 := hz 3 _ rfl
  rw [hcf] at g3
  exact cap_slice Tryd.underlying29 g3
theorem open_pact_cs {fuel : Nat} {l : List Value} {x : DataW H × List MemPlace} (hf' : DataW.trod enc Tryd.prog W 0 (fun _ => true) true fuel 35 l = some x) (hr : Reach 35 x.1) : ∃ a : PAct, l = pactV a ∧ ActR W a := by
  have hc12 : Tryd.prog.cellsOf 35 = 12 := by kernel_rfl
  have hc8 : Tryd.prog.cellsOf 33 = 8 := by kernel_rfl
  have hci : Tryd.prog.cellsOf 3 = 1 := by kernel_rfl
  have hcs : Tryd.prog.cellsOf 9 = 1 := by kernel_rfl
  have hcf : Tryd.prog.cellsOf 29 = 1 := by kernel_rfl
  obtain ⟨ys, n', _, hx, hcl, hyl, hg⟩ := DataW.trod_struct Tryd.underlying35 hf'
  obtain ⟨c0, c1, c2, c3, c4, c5, c6, c7, c8, c9, c10, c11, rfl⟩ := twelve_of l (hcl.trans hc12)
  obtain ⟨y0, y1, y2, y3, y4, rfl⟩ := five_of ys hyl
  have g0 : DataW.trod enc Tryd.prog W 0 (fun _ => true) true n' 3 (([c0, c1, c2, c3, c4, c5, c6, c7, c8, c9, c10, c11].drop 0).take (Tryd.prog.cellsOf 3)) = some y0 := hg 0 _ rfl
  have g1 : DataW.trod enc Tryd.prog W 0 (fun _ => true) true n' 3 (([c0, c1, c2, c3, c4, c5, c6, c7, c8, c9, c10, c11].drop 1).take (Tryd.prog.cellsOf 3)) = some y1 := hg 1 _ rfl
  have g2 : DataW.trod enc Tryd.prog W 0 (fun _ => true) true n' 9 (([c0, c1, c2, c3, c4, c5, c6, c7, c8, c9, c10, c11].drop 2).take (Tryd.prog.cellsOf 9)) = some y2 := hg 2 _ rfl
  have g3 : DataW.trod enc Tryd.prog W 0 (fun _ => true) true n' 33 (([c0, c1, c2, c3, c4, c5, c6, c7, c8, c9, c10, c11].drop 3).take (Tryd.prog.cellsOf 33)) = some y3 := hg 3 _ rfl
  have g4 : DataW.trod enc Tryd.prog W 0 (fun _ => true) true n' 29 (([c0, c1, c2, c3, c4, c5, c6, c7, c8, c9, c10, c11].drop 11).take (Tryd.prog.cellsOf 29)) = some y4 := hg 4 _ rfl
  rw [hci] at g0 g1
  rw [hcs] at g2
  rw [hc8] at g3
  rw [hcf] at g4
  have hd : x.1 = .agg [y0.1, y1.1, y2.1, y3.1, y4.1] := by rw [hx]; rfl
  rw [hd] at hr
  have r2 : Reach 9 y2.1 := reach_part Tryd.underlying35 hr (j := 2) rfl rfl
  have r3 : Reach 33 y3.1 := reach_part Tryd.underlying35 hr (j := 3) rfl rfl
  have r4 : Reach 29 y4.1 := reach_part Tryd.underlying35 hr (j := 4) rfl rfl
  obtain ⟨a0, e0, _, w0⟩ := DataW.trod_int Tryd.underlying3 (cs := [c0]) g0
  obtain ⟨a1, e1, _, _⟩ := DataW.trod_int Tryd.underlying3 (cs := [c1]) g1
  obtain ⟨s2, e2, z2, _⟩ := DataW.trod_string Tryd.underlying9 (cs := [c2]) g2
  obtain ⟨st, re, mi, A, n, c, bo, xs, asd, gt, va, vn, vc, es, e3, ⟨hR, hn, hl, hre, hbo⟩, hV, hvn, hvl⟩ := open_entry_cs (l := [c3, c4, c5, c6, c7, c8, c9, c10]) g3 r3
  obtain ⟨ra, rn, rc, qs, e4, hQ, hqn, hql⟩ := open_flds (cs := [c11]) g4 r4
  rw [z2] at r2
  have q2 := reach_str r2
  simp only [List.cons.injEq, and_true] at e0 e1 e2 e3 e4
  obtain ⟨rfl, rfl, rfl, rfl, rfl, rfl, rfl, rfl⟩ := e3
  subst e0; subst e1; subst e2; subst e4
  refine ⟨⟨a0, a1, s2.data.toList, st, re, mi, A, n, c, bo, asd, gt, va, vn, vc, ra, rn, rc, xs, es, qs⟩, ?_, ⟨hR, hV, hQ, ?_, q2, hre, hbo, ⟨hn, hl⟩, ⟨hvn, hvl⟩, ⟨hqn, hql⟩, cap_entry g3 rfl⟩⟩
  · unfold pactV
    simp only [str_of]
  · have m1 : IntKind.i64.min = -9223372036854775808 := by decide
    have m2 : IntKind.i64.max = 9223372036854775807 := by decide
    simp [Lit.wf] at w0
    show -9223372036854775808 ≤ a0 ∧ a0 ≤ 9223372036854775807
    omega
/-- A slice of acts that came in. -/
theorem open_pacts_v {base : Nat} {v : Value} {d : DataW H} {p : List MemPlace} (hv : Value.okWide Tryd.prog W .any base 24 v) (h : DataW.Trod enc Tryd.prog W 0 (fun _ => true) true 24 v d p) (hr : Reach 24 d) :
    ∃ A n c xs, v = .slice A n c ∧ Rd A n 12 (pactsV xs) W ∧ n ≤ maxLen ∧ ∀ a ∈ xs, ActR W a := by
  obtain ⟨a0, len0, cap0, rfl⟩ := okWide_slice Tryd.underlying24 hv
  obtain ⟨fuel, hf⟩ := h
  have hf' : DataW.trod enc Tryd.prog W 0 (fun _ => true) true fuel 24 [.slice a0 len0 cap0] = some (d, p) := hf
  rcases Go.Deep.open_slice Tryd.underlying24 hf' with ⟨he, _⟩ | ⟨a, len, cap, m, n, D, Pl, he, hb, hl, hm, hmm, hx, hi⟩
  · have := (List.cons.inj he).1
    rw [this]
    exact ⟨none, 0, 0, [], rfl, Rd.nil, Nat.zero_le _, by simp⟩
  · have hes := (List.cons.inj he).1
    rw [hes]
    simp only [if_true] at hmm
    subst hmm
    have hd := (Prod.mk.inj hx).1
    rw [hd] at hr
    have hc12 : Tryd.prog.cellsOf 35 = 12 := by kernel_rfl
    have key : ∀ i, i < len → ∃ d : PAct, (∀ j u, (pactV d)[j]? = some u → W.cell? (a.add (i * 12 + j)) = some u) ∧ ActR W d := by
      intro i hi'
      obtain ⟨cs', hcs, ht⟩ := hi i (by omega)
      rw [hc12] at hcs
      obtain ⟨_, hlen, hat⟩ := World.cells?_some hcs
      obtain ⟨d, rfl, hx⟩ := open_pact_cs ht (reach_elem Tryd.underlying24 hr (List.mem_map.2 ⟨i, List.mem_range.2 (by omega), rfl⟩))
      refine ⟨d, fun j u hu => ?_, hx⟩
      have hj : j < 12 := (List.getElem?_eq_some_iff.1 hu).1
      have := hat j hj
      rw [Go.Deep.add_add] at this
      rw [this, ← hu, List.getElem?_eq_getElem (show j < (pactV d).length from hj)]
    obtain ⟨xs, hll, hls⟩ := exists_listL len _ key
    refine ⟨some a, len, _, xs, rfl, ⟨by rw [pactsV_len, hll], fun hn => ?_⟩, by omega, ?_⟩
    · have hspot : a.spot = none := by
        have := World.cell?_spot ((hls 0 (by omega)).1 0 _ rfl)
        simpa [Addr.add] using this
      obtain ⟨b, o, spot⟩ := a
      simp only at hspot
      subst hspot
      have e : ∀ j, (⟨b, o, none⟩ : Addr).add j = ⟨b, o + j, none⟩ := fun j => by unfold Addr.add; split <;> simp_all
      refine ⟨b, o, rfl, ?_, fun j u hu => ?_⟩
      · rcases Nat.lt_or_ge b W.heap.size with h' | h'
        · exact h'
        · have := (hls 0 (by omega)).1 0 _ rfl
          simp [World.cell?, Addr.add, Array.getElem?_eq_none h'] at this
      · have hj : j < xs.length * 12 := by have := (List.getElem?_eq_some_iff.1 hu).1; rwa [pactsV_len] at this
        have hk : j / 12 < xs.length := by omega
        have h4 : j % 12 < 12 := Nat.mod_lt _ (by omega)
        have ej : j / 12 * 12 + j % 12 = j := by omega
        have key2 : (pactV xs[j / 12])[j % 12]? = some u := by
          rw [← flat_at pactV 12 (fun _ => rfl) xs (j / 12) hk (j % 12) h4, ej]; exact hu
        have h3 := (hls (j / 12) hk).1 (j % 12) u key2
        rw [e, ej] at h3
        exact h3
    · intro d hd'
      obtain ⟨i, hi', e⟩ := List.mem_iff_getElem.1 hd'
      have h2 := (hls i hi').2
      rw [e] at h2
      exact h2
end
end Go.Proofs.YtokhlmoanlcjmaaDoor
/- The laws of layer 19: few (printed by wip/tools/st8.py). -/
namespace Go.Proofs.YtokhlmoanlcjmaaDoor
open Go.RowKit
set_option maxRecDepth 100000

def okF (l : List Fld) : Bool := l.all fun f => decide (f.1.length + f.2.length ≤ 300)
def okA (a : PAct) : Bool := decide (a.fl.length + a.vl.length + a.rl.length ≤ 10) && (decide (a.key.length ≤ 300) && (decide (a.bo.size ≤ 3000) && (decide (a.re.size ≤ 300) && okF (a.fl ++ a.vl ++ a.rl))))
def few19 (xs : List PAct) : Bool := (xs.take 70).all okA && decide (xs.length ≤ 60)
theorem few19_yes {xs : List PAct} (h : few19 xs = true) : xs.length ≤ 60 ∧ ∀ a ∈ xs, okA a = true := by
  unfold few19 at h
  rw [Bool.and_eq_true, decide_eq_true_eq] at h
  refine ⟨h.2, fun a ha => ?_⟩
  have h1 := h.1
  rw [List.take_of_length_le (by omega), List.all_eq_true] at h1
  exact h1 a ha
theorem okA_yes {a : PAct} (h : okA a = true) : a.fl.length + a.vl.length + a.rl.length ≤ 10 ∧ a.key.length ≤ 300 ∧ a.bo.size ≤ 3000 ∧ a.re.size ≤ 300 ∧ (∀ f ∈ a.fl, f.1.length + f.2.length ≤ 300) ∧ (∀ f ∈ a.vl, f.1.length + f.2.length ≤ 300) ∧ ∀ f ∈ a.rl, f.1.length + f.2.length ≤ 300 := by
  unfold okA okF at h
  simp only [Bool.and_eq_true, decide_eq_true_eq, List.all_eq_true] at h
  obtain ⟨h1, h2, h3, h4, h5⟩ := h
  exact ⟨h1, h2, h3, h4, fun f hf => h5 f (by simp [hf]), fun f hf => h5 f (by simp [hf]), fun f hf => h5 f (by simp [hf])⟩
theorem sumF_few {l : List Fld} (h : ∀ f ∈ l, f.1.length + f.2.length ≤ 300) : sumF l ≤ 300 * l.length := by
  unfold sumF
  induction l with
  | nil => simp
  | cons x r ih =>
    rw [List.map_cons, List.sum_cons, List.length_cons]
    have h1 := h x (by simp)
    have h2 := ih (fun f hf => h f (by simp [hf]))
    omega

/-- A list of fields that came in, cut to its length, or one that the call made. -/
def LSt (B : Nat) (l : Value) (ls : List Fld) (w : World) : Prop := (∃ A n, l = .slice A n n ∧ Rd A n 2 (fldsV ls) w) ∨ OwnF B l ls w
theorem LSt.rd {B : Nat} {l : Value} {ls : List Fld} {w : World} (h : LSt B l ls w) : ∃ A n c, l = .slice A n c ∧ Rd A n 2 (fldsV ls) w := by
  rcases h with ⟨A, n, rfl, hr⟩ | h
  · exact ⟨A, n, n, rfl, hr⟩
  · obtain ⟨a, c, rfl⟩ := h.shape
    exact ⟨a, _, c, rfl, h.rd.2⟩
theorem run_app_zero2 {P : Program} (w : World) (t ty e : TypeId) (i : TypeInfo) (ht : P.underlying t = some (.slice e)) (hi : P.info? e = some i) (A : Option Addr) (n : Nat) (x : Option Addr) (c : Nat) :
    (Builtin.append_ #[t, t] ty #[.slice A n n, .slice x 0 c]).run P w = .ok (.slice A n n) w := by
  cases A <;> cases x <;> simp [Builtin.append_, run_underlying ht, sizeOf, typeInfo, hi, Builtin.lenOf, Builtin.firstCells, storeCells, loadCells, loadCellsFrom]
theorem run_app_none2 {P : Program} (w : World) (base : Nat) (t ty e : TypeId) (i : TypeInfo) (size c : Nat) (ht : P.underlying t = some (.slice e)) (hi : P.info? e = some i)
    (v : Value) (n : Nat) (xs : List Value) (x : Option Addr) (hown : w.ownsRow base e size v n xs) :
    (Builtin.append_ #[t, t] ty #[v, .slice x 0 c]).run P w = .ok v w := by
  rcases hown.2 with ⟨rfl, rfl⟩ | ⟨g, cap, cur, rfl, _, _, hnc, _⟩
  · cases x <;> simp [Builtin.append_, run_underlying ht, sizeOf, typeInfo, hi, Builtin.lenOf, Builtin.firstCells, loadCells, loadCellsFrom]
  · cases x <;> simp [Builtin.append_, run_underlying ht, sizeOf, typeInfo, hi, Builtin.lenOf, Builtin.firstCells, hnc, storeCells, loadCells, loadCellsFrom]
theorem addr_lit (b o j : Nat) : (⟨b, o, none⟩ : Addr).add j = ⟨b, o + j, none⟩ := by unfold Addr.add; split <;> simp_all
theorem fldsV_cat (xs ys : List Fld) : fldsV (xs ++ ys) = fldsV xs ++ fldsV ys := by unfold fldsV; simp
theorem run_cat (B : Nat) {w : World} {l : Value} {ls ys : List Fld} {X : Option Addr} {m c : Nat} (hl : LSt B l ls w) (hX : Rd X m 2 (fldsV ys) w) (hB : B ≤ w.heap.size) (hn : ls.length + m ≤ 1000) (ty : TypeId) :
    ∃ l' w1, (Builtin.append_ #[29, 29] ty #[l, .slice X m c]).run Tryd.prog w = .ok l' w1 ∧ LSt B l' (ls ++ ys) w1 ∧ Below B w w1 := by
  obtain rfl := hX.fld
  obtain ⟨i0, hi, hz0, hz1, hz2⟩ := info_parts uFld
  rcases Nat.eq_zero_or_pos ys.length with h0 | h0
  · have hy : ys = [] := List.eq_nil_of_length_eq_zero h0
    subst hy
    rw [List.append_nil]
    rcases hl with ⟨A, n, rfl, hr⟩ | hl
    · exact ⟨_, w, run_app_zero2 w _ _ 62 i0 Tryd.underlying29 hi A n X c, Or.inl ⟨A, n, rfl, hr⟩, Below.refl _ _⟩
    · exact ⟨_, w, run_app_none2 w B _ _ 62 i0 2 c Tryd.underlying29 hi l _ _ X hl, Or.inr hl, Below.refl _ _⟩
  · obtain ⟨b2, o2, rfl, hl2, hc2⟩ := hX.2 h0
    have hnews : ∀ j u, (fldsV ys)[j]? = some u → w.cell? ((⟨b2, o2, none⟩ : Addr).add j) = some u := fun j u hu => by rw [addr_lit]; exact hc2 j u hu
    have fin : ∀ v' w1, w1.ownsRow B 62 2 v' (ls.length + ys.length) (fldsV ls ++ fldsV ys) → LSt B v' (ls ++ ys) w1 := fun v' w1 h1 => by
      refine Or.inr ?_
      unfold OwnF
      rw [List.length_append, fldsV_cat]
      exact h1
    rcases hl with ⟨A, n, rfl, hr⟩ | hl
    · obtain rfl := hr.fld
      cases A with
      | some b1 =>
        have holds : ∀ j u, (fldsV ls)[j]? = some u → w.cell? (b1.add j) = some u := by
          intro j u hj
          have hjl : j < ls.length * 2 := by have := (List.getElem?_eq_some_iff.1 hj).1; rwa [fldsV_len] at this
          obtain ⟨b, o', e, _, hc⟩ := hr.2 (by omega)
          cases e
          rw [addr_lit]; exact hc j u hj
        obtain ⟨v', w', hrun, r1, r2⟩ := run_append_arg_grows (P := Tryd.prog) w 29 ty 62 i0 (.agg #[.string ByteArray.empty, .string ByteArray.empty]) 2 32 Tryd.underlying29 hi hz0 hz1 hz2 rfl (by decide) b1 ls.length ls.length (fldsV ls) (fldsV_len ls) holds ⟨b2, o2, none⟩ ys.length c (fldsV ys) (fldsV_len ys) hnews (by omega) (by unfold maxLen; omega) (by omega)
        refine ⟨v', w', hrun, fin v' w' ?_, (Below.refl B w).grown r2 hB (fun k hk => by cases hk)⟩
        exact OwnF.base (fs := ls ++ ys) (B := w.heap.size) (by unfold OwnF; rw [List.length_append, fldsV_cat]; exact r1) hB |> fun h => by unfold OwnF at h; rw [List.length_append, fldsV_cat] at h; exact h
      | none =>
        have hx0 : ls.length = 0 := by
          rcases Nat.eq_zero_or_pos ls.length with h | h
          · exact h
          · obtain ⟨b, o, e, _⟩ := hr.2 h; cases e
        have hx0 : ls = [] := List.eq_nil_of_length_eq_zero hx0
        subst hx0
        obtain ⟨v', w', hrun, r1, r2, _⟩ := run_append_own (P := Tryd.prog) w B 29 ty 62 i0 (.agg #[.string ByteArray.empty, .string ByteArray.empty]) 2 32 Tryd.underlying29 hi hz0 hz1 hz2 rfl (by decide) (.slice none 0 0) 0 [] (World.ownsRow_nil w _ _ _) ⟨b2, o2, none⟩ ys.length c (fldsV ys) (fldsV_len ys) hnews (fldsV_one ys) (by unfold maxLen; simp at hn; omega) (by simp at hn; omega) hB
        exact ⟨v', w', hrun, fin v' w' (by rw [show fldsV ([] : List Fld) = [] from rfl]; simpa using r1), (Below.refl B w).grown r2 hB (fun k hk => by cases hk)⟩
    · obtain ⟨v', w', hrun, h2, h3, _, h5⟩ := run_append_own_at (P := Tryd.prog) w B 29 ty 62 i0 (.agg #[.string ByteArray.empty, .string ByteArray.empty]) 2 32 Tryd.underlying29 hi hz0 hz1 hz2 rfl (by decide) l ls.length (fldsV ls) hl ⟨b2, o2, none⟩ ys.length c (fldsV ys) (fldsV_len ys) hnews (fldsV_one ys) (by unfold maxLen; omega) (by omega) hB
      exact ⟨v', w', hrun, fin v' w' h2, (Below.refl B w).grown h3 hB (fun k hk => (World.ownsRow.lt hl k hk).1)⟩
theorem wp_cat {o : Oper} {a : Act} {K : Act → World → Prop} {Q : Exit → Act → World → Prop} (B : Nat) (s x : Operand) {l : Value} {X : Option Addr} {m c : Nat} {ls ys : List Fld} {w : World}
    (ho : o.op = .call { callee := .builtin .append, args := #[s, x], argTypes := #[29, 29] })
    (hs : a.eval s = l) (hx : a.eval x = .slice X m c) (hl : LSt B l ls w) (hX : Rd X m 2 (fldsV ys) w) (hB : B ≤ w.heap.size) (hn : ls.length + m ≤ 1000)
    (hK : ∀ l' w1, LSt B l' (ls ++ ys) w1 → Below B w w1 → Below B w w1 → K (a.put o.dst l') w1) : o.wp Tryd.prog a w K Q := by
  obtain ⟨l', w1, hrun, h1, h2⟩ := run_cat B (c := c) hl hX hB hn o.type
  unfold Oper.wp execOp
  simp only [ho, resolve, invoke, builtin, Sem.run_bind, Sem.run_pure, Result.andThen_ok, List.map_toArray, List.map_cons, List.map_nil, hs, hx, hrun]
  exact hK l' w1 h1 h2 h2
theorem list_cat {ops : Array Oper} {rest : List Oper} {o : Oper} {a : Act} {Q : Exit → Act → World → Prop} (B : Nat) {l : Value} {X : Option Addr} {m c : Nat} {ls ys : List Fld} {w : World}
    (hl : LSt B l ls w) (hX : Rd X m 2 (fldsV ys) w) (hB : B ≤ w.heap.size) (hn : ls.length + m ≤ 1000) (hgd : o.guard = none) (s x : Operand)
    (ho : o.op = .call { callee := .builtin .append, args := #[s, x], argTypes := #[29, 29] })
    (hs : a.eval s = l) (hx : a.eval x = .slice X m c)
    (hK : ∀ l' w1, LSt B l' (ls ++ ys) w1 → Below B w w1 → wpList Tryd.prog ops Q rest (a.put o.dst l') w1) : wpList Tryd.prog ops Q (o :: rest) a w :=
  wpList_plain hgd fun _ hK' => wp_cat B s x ho hs hx hl hX hB hn fun l' w1 h1 h2 _ => hK' _ _ (hK l' w1 h1 h2)
set_option maxHeartbeats 32000000 in
theorem few19_any (A : Option Addr) (n c : Nat) (xs : List PAct) (w : World) (hr : Rd A n 12 (pactsV xs) w) (hx : ∀ a ∈ xs, ActR w a) (hn : n ≤ maxLen) :
    Calls Tryd.prog 8 #[.slice A n c] w fun e w' => e = .returned (.bool (few19 xs)) ∧ Below w.heap.size w w' := by
  obtain rfl := hr.pact
  have hbad : ∀ k (h : k < xs.length), k < 70 → okA xs[k] = false → few19 xs = false := by
    intro k h h7 h1
    unfold few19
    have : (xs.take 70).all okA = false := by
      rw [List.all_eq_false]
      exact ⟨xs[k], by rw [List.mem_take_iff_getElem]; exact ⟨k, by omega, rfl⟩, by rw [h1]; simp⟩
    rw [this]; rfl
  have hgood : ∀ k, (k = xs.length ∨ k = 70) → (xs.take k).all okA = true → few19 xs = decide (xs.length ≤ 60) := by
    intro k hk h1
    unfold few19
    by_cases h6 : xs.length ≤ 60
    · rw [decide_eq_true h6, Bool.and_true]
      rcases hk with rfl | rfl
      · rw [List.take_length] at h1
        rw [List.take_of_length_le (by omega)]; exact h1
      · exact h1
    · rw [decide_eq_false h6, Bool.and_false]
  have hsn : ∀ k (h : k < xs.length), (xs.take k).all okA = true → okA xs[k] = true → (xs.take (k + 1)).all okA = true := by
    intro k h h1 h2
    rw [List.take_succ_eq_append_getElem h, List.all_append, h1]
    simp [h2]
  have h00 : (xs.take 0).all okA = true := rfl
  have hml : maxLen = 9223372036854775807 := rfl
  have HR := Lib.hid hr; have HX := Lib.hid hx; have HBAD := Lib.hid hbad; have HG := Lib.hid hgood; have HSN := Lib.hid hsn; have H00 := Lib.hid h00
  clear hr hx hbad hgood hsn h00
  generalize few19 xs = out at *
  go_enter Tryd.func8, Tryd.ntmps8
  go_wp2
  go_loopw [3] (fun i wr => ∃ k : Nat, k ≤ xs.length ∧ k ≤ 70 ∧ i = .int .i64 k ∧ Hid ((xs.take k).all okA = true) ∧ Below w.heap.size w wr) (fun i _ => xs.length - (intOf i).toNat)
  case atStart => exact ⟨0, Nat.zero_le _, by omega, rfl, Lib.hid H00.out, Below.refl _ _⟩
  case round =>
    obtain ⟨k, hk, hk7, rfl, HALL, hbw⟩ := hrel
    by_cases hlt : k < xs.length
    · by_cases h70 : k < 70
      · have t1 : decide ((k : Int) < 70) = true := by simp; omega
        obtain ⟨b, o, rfl, hlb, hcell⟩ := (HR.out.below hbw).pact_at (k := k) hlt
        have ha := (HX.out xs[k] (List.getElem_mem _)).below hbw
        have hbadk := HBAD.out k hlt h70
        have hsnk := HSN.out k hlt HALL.out
        generalize xs[k] = a at *
        have c0 : wr.cell? ⟨b, o + k * 12, none⟩ = some (.int .i64 a.what) := hcell 0 _ rfl; have c1 := hcell 1 _ rfl; have c2 := hcell 2 _ rfl; have c3 := hcell 3 _ rfl; have c4 := hcell 4 _ rfl; have c5 := hcell 5 _ rfl; have c6 := hcell 6 _ rfl; have c7 := hcell 7 _ rfl; have c8 := hcell 8 _ rfl; have c9 := hcell 9 _ rfl; have c10 := hcell 10 _ rfl; have c11 := hcell 11 _ rfl
        obtain ⟨W, hW⟩ : ∃ W, wr.alloc (.cells #[.int .i64 a.what, .int .i64 a.num, .string ⟨a.key.toArray⟩, .int .i64 a.st, .string a.re, .int .i64 a.mi, .slice a.fA a.fn a.fc, .string a.bo, .int .i64 a.asked, .int .i64 a.got, .slice a.vA a.vn a.vc, .slice a.rA a.rn a.rc] 35) = W := ⟨_, rfl⟩
        have bW : Below wr.heap.size wr W := by rw [← hW]; exact (Below.refl _ _).alloc (Nat.le_refl _) _
        have xW : W.heap[wr.heap.size]? = some (.cells #[.int .i64 a.what, .int .i64 a.num, .string ⟨a.key.toArray⟩, .int .i64 a.st, .string a.re, .int .i64 a.mi, .slice a.fA a.fn a.fc, .string a.bo, .int .i64 a.asked, .int .i64 a.got, .slice a.vA a.vn a.vc, .slice a.rA a.rn a.rc] 35 (0, 0)) := by rw [← hW]; exact heap_new wr _ _ rfl
        have hBw := hbw.trans (bW.mono hbw.size)
        have haW := ha.below bW
        have HW := Lib.hid hW
        clear hcell hW
        go_upto_region 5 with (fail)
        rw [HW.out]
        have d0 := (of_heap xW 0).1; have d2 := (of_heap xW 2).1; have d4 := (of_heap xW 4).1; have d6 := (of_heap xW 6).1; have d7 := (of_heap xW 7).1; have d10 := (of_heap xW 10).1; have d11 := (of_heap xW 11).1; have dz := (of_heap xW 0).2.2
        simp only [List.getElem?_toArray, List.getElem?_cons_succ, List.getElem?_cons_zero] at d0 d2 d4 d6 d7 d10 d11
        have E := Lib.hid (And.intro haW.f.fld (And.intro haW.v.fld haW.r.fld))
        have b1 := haW.fb.1; have b2 := haW.vb.1; have b3 := haW.rb.1
        have hrb : reachBytes ≤ 140737488355328 := by decide
        have s1 : IntKind.i64.wrap ((a.fn : Int) + (a.vn : Int)) = (a.fn : Int) + (a.vn : Int) := by rw [IntKind.wrap_i64]; omega
        have s2 : IntKind.i64.wrap ((a.fn : Int) + (a.vn : Int) + (a.rn : Int)) = (a.fn : Int) + (a.vn : Int) + (a.rn : Int) := by rw [IntKind.wrap_i64]; omega
        clear c0 c1 c2 c3 c4 c5 c6 c7 c8 c9 c10 c11
        have XW := Lib.hid xW; have HAW := Lib.hid haW
        clear xW haW ha
        by_cases q1 : 10 < (a.fn : Int) + (a.vn : Int) + (a.rn : Int)
        · have p1 : decide ((a.fn : Int) + (a.vn : Int) + (a.rn : Int) > 10) = true := by simpa using q1
          have HO := Lib.hid (hbadk (by unfold okA; rw [decide_eq_false (by obtain ⟨e1, e2, e3⟩ := E.out; omega)]; rfl))
          clear hbadk hsnk
          go_wp2
          go_ret
          rw [HO.out]
          exact ⟨rfl, hBw⟩
        have p1 : decide ((a.fn : Int) + (a.vn : Int) + (a.rn : Int) > 10) = false := by simpa using q1
        by_cases q2 : 300 < a.key.length
        · have p2 : decide ((a.key.length : Int) > 300) = true := by simp; omega
          have HO := Lib.hid (hbadk (by unfold okA; rw [decide_eq_false (p := a.key.length ≤ 300) (by omega)]; simp))
          clear hbadk hsnk
          go_wp2
          go_ret
          rw [HO.out]
          exact ⟨rfl, hBw⟩
        have p2 : decide ((a.key.length : Int) > 300) = false := by simp; omega
        by_cases q3 : 3000 < a.bo.size
        · have p3 : decide ((a.bo.size : Int) > 3000) = true := by simp; omega
          have HO := Lib.hid (hbadk (by unfold okA; rw [decide_eq_false (p := a.bo.size ≤ 3000) (by omega)]; simp))
          clear hbadk hsnk
          go_wp2
          go_ret
          rw [HO.out]
          exact ⟨rfl, hBw⟩
        have p3 : decide ((a.bo.size : Int) > 3000) = false := by simp; omega
        by_cases q4 : 300 < a.re.size
        · have p4 : decide ((a.re.size : Int) > 300) = true := by simp; omega
          have HO := Lib.hid (hbadk (by unfold okA; rw [decide_eq_false (p := a.re.size ≤ 300) (by omega)]; simp))
          clear hbadk hsnk
          go_wp2
          go_ret
          rw [HO.out]
          exact ⟨rfl, hBw⟩
        have p4 : decide ((a.re.size : Int) > 300) = false := by simp; omega
        have hok : okA a = okF (a.fl ++ a.vl ++ a.rl) := by
          unfold okA
          rw [decide_eq_true (by obtain ⟨e1, e2, e3⟩ := E.out; omega), decide_eq_true (p := a.key.length ≤ 300) (by omega), decide_eq_true (p := a.bo.size ≤ 3000) (by omega), decide_eq_true (p := a.re.size ≤ 300) (by omega)]
          rfl
        rw [hok] at hbadk hsnk
        have hn7 : a.fl.length + a.vn ≤ 1000 := by obtain ⟨e1, e2, e3⟩ := E.out; omega
        have hn8 : (a.fl ++ a.vl).length + a.rn ≤ 1000 := by obtain ⟨e1, e2, e3⟩ := E.out; rw [List.length_append]; omega
        have kc : ∀ w', Below W.heap.size W w' → w'.cell? ⟨wr.heap.size, 6, none⟩ = some (.slice a.fA a.fn a.fc) ∧ w'.cell? ⟨wr.heap.size, 10, none⟩ = some (.slice a.vA a.vn a.vc) := fun w' hb => by
          have x4 := (hb.block wr.heap.size dz).trans XW.out
          exact ⟨(of_heap x4 6).1, (of_heap x4 10).1⟩
        have hf := fun w' (hb : Below W.heap.size W w') => HAW.out.f.below hb
        have hv := fun w' (hb : Below W.heap.size W w') => HAW.out.v.below hb
        have hd0 : Below W.heap.size W W.drew := (Below.refl _ _).drew
        have hcap := HAW.out.cap
        have hcl : (∀ f ∈ a.fl ++ a.vl ++ a.rl, f.1.length ≤ 140737488355328 ∧ f.2.length ≤ 140737488355328) := fun f hf => by
          rcases List.mem_append.1 hf with hf | hf
          · rcases List.mem_append.1 hf with hf | hf
            · have := HAW.out.fb.2 f hf; omega
            · have := HAW.out.vb.2 f hf; omega
          · have := HAW.out.rb.2 f hf; omega
        have u1 : (0 : Int) ≤ (a.fn : Int) := by omega
        have u2' : (a.fn : Int) ≤ (a.fc : Int) := by omega
        have KC := Lib.hid kc; have HF := Lib.hid hf; have HV := Lib.hid hv; have HCL := Lib.hid hcl; have HBK := Lib.hid hbadk; have HSK := Lib.hid hsnk
        clear kc hf hv hcl hbadk hsnk
        go_upto_region 7 with (fail)
        clear d0 d2 d4 d6 d7 d10 d11
        refine wp_region_held_drew (S := (fun w' => w'.cell? ⟨wr.heap.size, 6, none⟩ = some (.slice a.fA a.fn a.fc) ∧ w'.cell? ⟨wr.heap.size, 10, none⟩ = some (.slice a.vA a.vn a.vc))) (by kernel_rfl) (KC.out _ hd0) (fun hHeld => ?_)
        refine wpAnyH_take (i := 0) (v := ?_) (by simp only [List.getElem?_toArray, List.getElem?_cons_zero]; exact rfl) (by kernel_rfl) (by kernel_rfl) (by kernel_rfl) (by intro _ _ _ h; exact h) (Or.inl ⟨by rfl, fun W hSw => ?_⟩) hHeld ?_
        rotate_left
        focus ((try dsimp only at hSw); first | (go_simp; done) | (go_simp; with_reducible rfl))
        try simp only [Act.put, List.setIfInBounds_toArray, List.set_cons_zero, List.set_cons_succ]
        refine wpAnyH_take (i := 1) (v := ?_) (by simp only [List.getElem?_toArray, List.getElem?_cons_succ, List.getElem?_cons_zero]; exact rfl) (by kernel_rfl) (by kernel_rfl) (by kernel_rfl) (by intro _ _ _ h; exact h) (Or.inl ⟨by rfl, fun W hSw => ?_⟩) hHeld ?_
        rotate_left
        focus ((try dsimp only at hSw); first | (go_simp; done) | (go_simp; with_reducible rfl))
        try simp only [Act.put, List.setIfInBounds_toArray, List.set_cons_zero, List.set_cons_succ]
        refine wpAnyH_take (i := 2) (v := ?_) (by simp only [List.getElem?_toArray, List.getElem?_cons_succ, List.getElem?_cons_zero]; exact rfl) (by kernel_rfl) (by kernel_rfl) (by kernel_rfl) (by intro _ _ _ h; exact h) (Or.inl ⟨by rfl, fun W hSw => ?_⟩) hHeld ?_
        rotate_left
        focus ((try dsimp only at hSw); first | (go_simp; done) | (go_simp; with_reducible rfl))
        try simp only [Act.put, List.setIfInBounds_toArray, List.set_cons_zero, List.set_cons_succ]
        refine wpAnyH_take (i := 3) (v := ?_) (by simp only [List.getElem?_toArray, List.getElem?_cons_succ, List.getElem?_cons_zero]; exact rfl) (by kernel_rfl) (by kernel_rfl) (by kernel_rfl) (by intro _ _ _ h; exact h) (Or.inl ⟨by rfl, fun W hSw => ?_⟩) hHeld ?_
        rotate_left
        focus ((try dsimp only at hSw); first | (go_simp; done) | (go_simp; with_reducible rfl))
        try simp only [Act.put, List.setIfInBounds_toArray, List.set_cons_zero, List.set_cons_succ]
        refine wpAnyH_take (i := 4) (v := ?_) (by simp only [List.getElem?_toArray, List.getElem?_cons_succ, List.getElem?_cons_zero]; exact rfl) (by kernel_rfl) (by kernel_rfl) (by kernel_rfl) (by intro _ _ _ h; exact h) (Or.inl ⟨by rfl, fun W hSw => ?_⟩) hHeld ?_
        rotate_left
        focus ((try dsimp only at hSw); first | (go_simp; done) | (go_simp; with_reducible rfl))
        try simp only [Act.put, List.setIfInBounds_toArray, List.set_cons_zero, List.set_cons_succ]
        refine wpAnyH_take (i := 5) (v := ?_) (by simp only [List.getElem?_toArray, List.getElem?_cons_succ, List.getElem?_cons_zero]; exact rfl) (by kernel_rfl) (by kernel_rfl) (by kernel_rfl) (by intro _ _ _ h; exact h) (Or.inl ⟨by rfl, fun W hSw => ?_⟩) hHeld ?_
        rotate_left
        focus ((try dsimp only at hSw); first | (go_simp; done) | (go_simp; with_reducible rfl))
        try simp only [Act.put, List.setIfInBounds_toArray, List.set_cons_zero, List.set_cons_succ]
        refine wpAnyH_take (i := 6) (v := ?_) (by simp only [List.getElem?_toArray, List.getElem?_cons_succ, List.getElem?_cons_zero]; exact rfl) (by kernel_rfl) (by kernel_rfl) (by kernel_rfl) (by intro _ _ _ h; exact h) (Or.inl ⟨by rfl, fun W hSw => ?_⟩) hHeld ?_
        rotate_left
        focus ((try dsimp only at hSw); first | (go_simp; done) | (go_simp; with_reducible rfl))
        try simp only [Act.put, List.setIfInBounds_toArray, List.set_cons_zero, List.set_cons_succ]
        refine wpAnyH_take (i := 7) (v := ?_) (by simp only [List.getElem?_toArray, List.getElem?_cons_succ, List.getElem?_cons_zero]; exact rfl) (by kernel_rfl) (by kernel_rfl) (by kernel_rfl) (by intro _ _ _ h; exact h) (Or.inl ⟨by rfl, fun W hSw => ?_⟩) hHeld ?_
        rotate_left
        focus ((try dsimp only at hSw); first | (go_simp; done) | (go_simp; with_reducible rfl))
        try simp only [Act.put, List.setIfInBounds_toArray, List.set_cons_zero, List.set_cons_succ]
        refine wpAnyH_take (i := 8) (v := ?_) (by simp only [List.getElem?_toArray, List.getElem?_cons_succ, List.getElem?_cons_zero]; exact rfl) (by kernel_rfl) (by kernel_rfl) (by kernel_rfl) (by intro _ _ _ h; exact h) (Or.inl ⟨by rfl, fun W hSw => ?_⟩) hHeld ?_
        rotate_left
        focus ((try dsimp only at hSw); first | (go_simp; done) | (go_simp; with_reducible rfl))
        try simp only [Act.put, List.setIfInBounds_toArray, List.set_cons_zero, List.set_cons_succ]
        refine wpAnyH_take (i := 9) (v := ?_) (by simp only [List.getElem?_toArray, List.getElem?_cons_succ, List.getElem?_cons_zero]; exact rfl) (by kernel_rfl) (by kernel_rfl) (by kernel_rfl) (by intro _ _ _ h; exact h) (Or.inl ⟨by rfl, fun W hSw => ?_⟩) hHeld ?_
        rotate_left
        focus ((try dsimp only at hSw); first | (go_simp; done) | (go_simp; with_reducible rfl))
        try simp only [Act.put, List.setIfInBounds_toArray, List.set_cons_zero, List.set_cons_succ]
        refine wpAnyH_take (i := 10) (v := ?_) (by simp only [List.getElem?_toArray, List.getElem?_cons_succ, List.getElem?_cons_zero]; exact rfl) (by kernel_rfl) (by kernel_rfl) (by kernel_rfl) (by intro _ _ _ h; exact h) (Or.inl ⟨by rfl, fun W hSw => ?_⟩) hHeld ?_
        rotate_left
        focus ((try dsimp only at hSw); first | (go_simp; done) | (go_simp; with_reducible rfl))
        try simp only [Act.put, List.setIfInBounds_toArray, List.set_cons_zero, List.set_cons_succ]
        refine wpAnyH_take (i := 11) (v := ?_) (by simp only [List.getElem?_toArray, List.getElem?_cons_succ, List.getElem?_cons_zero]; exact rfl) (by kernel_rfl) (by kernel_rfl) (by kernel_rfl) (by intro _ _ _ h; exact h) (Or.inl ⟨by rfl, fun W hSw => ?_⟩) hHeld ?_
        rotate_left
        focus ((try dsimp only at hSw); first | (go_simp; done) | (go_simp; with_reducible rfl))
        try simp only [Act.put, List.setIfInBounds_toArray, List.set_cons_zero, List.set_cons_succ]
        refine wpAnyH_take (i := 12) (v := ?_) (by simp only [List.getElem?_toArray, List.getElem?_cons_succ, List.getElem?_cons_zero]; exact rfl) (by kernel_rfl) (by kernel_rfl) (by kernel_rfl) (by intro _ _ _ h; exact h) (Or.inl ⟨by rfl, fun W hSw => ?_⟩) hHeld ?_
        rotate_left
        focus ((try dsimp only at hSw); first | (go_simp; done) | (go_simp; with_reducible rfl))
        try simp only [Act.put, List.setIfInBounds_toArray, List.set_cons_zero, List.set_cons_succ]
        refine wpAnyH_take (i := 13) (v := ?_) (by simp only [List.getElem?_toArray, List.getElem?_cons_succ, List.getElem?_cons_zero]; exact rfl) (by kernel_rfl) (by kernel_rfl) (by kernel_rfl) (by intro _ _ _ h; exact h) (Or.inl ⟨by rfl, fun W hSw => ?_⟩) hHeld ?_
        rotate_left
        focus ((try dsimp only at hSw); first | (go_simp; done) | (go_simp; with_reducible rfl))
        try simp only [Act.put, List.setIfInBounds_toArray, List.set_cons_zero, List.set_cons_succ]
        refine wpAnyH_take (i := 14) (v := ?_) (by simp only [List.getElem?_toArray, List.getElem?_cons_succ, List.getElem?_cons_zero]; exact rfl) (by kernel_rfl) (by kernel_rfl) (by kernel_rfl) (by intro _ _ _ h; exact h) (Or.inl ⟨by rfl, fun W hSw => ?_⟩) hHeld ?_
        rotate_left
        focus ((try dsimp only at hSw); first | (go_simp; done) | (go_simp; with_reducible rfl))
        try simp only [Act.put, List.setIfInBounds_toArray, List.set_cons_zero, List.set_cons_succ]
        refine wpAnyH_take (i := 15) (v := ?_) (by simp only [List.getElem?_toArray, List.getElem?_cons_succ, List.getElem?_cons_zero]; exact rfl) (by kernel_rfl) (by kernel_rfl) (by kernel_rfl) (by intro _ _ _ h; exact h) (Or.inl ⟨by rfl, fun W hSw => ?_⟩) hHeld ?_
        rotate_left
        focus ((try dsimp only at hSw); first | (go_simp; done) | (go_simp; with_reducible rfl))
        try simp only [Act.put, List.setIfInBounds_toArray, List.set_cons_zero, List.set_cons_succ]
        refine wpAnyH_take (i := 16) (v := ?_) (by simp only [List.getElem?_toArray, List.getElem?_cons_succ, List.getElem?_cons_zero]; exact rfl) (by kernel_rfl) (by kernel_rfl) (by kernel_rfl) (by intro _ _ _ h; exact h) (Or.inl ⟨by rfl, fun W hSw => ?_⟩) hHeld ?_
        rotate_left
        focus ((try dsimp only at hSw); first | (go_simp; done) | (go_simp; with_reducible rfl))
        try simp only [Act.put, List.setIfInBounds_toArray, List.set_cons_zero, List.set_cons_succ]
        refine wpAnyH_take (i := 17) (v := ?_) (by simp only [List.getElem?_toArray, List.getElem?_cons_succ, List.getElem?_cons_zero]; exact rfl) (by kernel_rfl) (by kernel_rfl) (by kernel_rfl) (by intro _ _ _ h; exact h) (Or.inl ⟨by rfl, fun W hSw => ?_⟩) hHeld ?_
        rotate_left
        focus ((try dsimp only at hSw); first | (go_simp; done) | (go_simp; with_reducible rfl))
        try simp only [Act.put, List.setIfInBounds_toArray, List.set_cons_zero, List.set_cons_succ]
        refine wpAnyH_ready (rs := [18]) (by kernel_rfl) (by simp) (AllReadyH.cons (by simp only [List.getElem?_toArray, List.getElem?_cons_succ, List.getElem?_cons_zero]; exact rfl) (fun K hK => ?_) AllReadyH.nil)
        rw [if_pos (by rfl)]
        refine wp_cat W.heap.size (.tmp 72) (.tmp 75) rfl rfl rfl (Or.inl ⟨_, _, rfl, HF.out _ hd0⟩) (HV.out _ hd0) (Nat.le_refl _) hn7 ?_
        intro l7 w7 hl7 hb7w hb7
        refine hK.out _ _ (KC.out _ (hd0.trans hb7)) (fun hHeld => ?_)
        clear hK K
        try simp only [Act.put, List.setIfInBounds_toArray, List.set_cons_zero, List.set_cons_succ]
        refine wpAnyH_take (i := 19) (v := ?_) (by simp only [List.getElem?_toArray, List.getElem?_cons_succ, List.getElem?_cons_zero]; exact rfl) (by kernel_rfl) (by kernel_rfl) (by kernel_rfl) (by intro _ _ _ h; exact h) (Or.inl ⟨by rfl, fun W hSw => ?_⟩) hHeld ?_
        rotate_left
        focus ((try dsimp only at hSw); first | (go_simp; done) | (go_simp; with_reducible rfl))
        try simp only [Act.put, List.setIfInBounds_toArray, List.set_cons_zero, List.set_cons_succ]
        refine wpAnyH_done (by kernel_rfl) ?_ _
        clear hHeld
        have hd7 := hd0.trans hb7
        have x7 := (hd7.block wr.heap.size dz).trans XW.out
        have d11 := (of_heap x7 11).1
        simp only [List.getElem?_toArray, List.getElem?_cons_succ, List.getElem?_cons_zero] at d11
        have hr7 := HAW.out.r.below hd7
        have hz7 := hd7.size
        generalize hL2 : a.fl ++ a.vl = L2 at *
        generalize hL3 : L2 ++ a.rl = L at *
        have HL3 := Lib.hid hL3
        have hlen8 : L.length ≤ 1000 := by
          obtain ⟨e1, e2, e3⟩ := E.out
          rw [← hL3, ← hL2, List.length_append, List.length_append]; omega
        have HL7 := Lib.hid hl7; have HR7 := Lib.hid hr7
        clear hL2 hL3
        clear hl7 hr7 x7 hb7w KC HF HV
        go_wp2_with (at_builtin; refine list_cat W.heap.size HL7.out HR7.out hz7 hn8 rfl _ _ rfl rfl rfl ?_)
        intro l8 w8 hl8 hb8
        have hd8 := hBw.trans ((hd7.trans hb8).mono hBw.size)
        obtain ⟨A8, n8, c8, rfl, hr8⟩ := hl8.rd
        have hln8 := hr8.fld
        have hne : ∀ (l : List Fld) j (h : j < l.length), ¬ (l[j].1.length + l[j].2.length ≤ 300) → okF l = false := fun l j h hj => by
          unfold okF
          rw [List.all_eq_false]
          exact ⟨l[j], List.getElem_mem _, by simpa using hj⟩
        have hyes : ∀ l : List Fld, (∀ j (h : j < l.length), l[j].1.length + l[j].2.length ≤ 300) → okF l = true := fun l hj => by
          unfold okF
          rw [List.all_eq_true]
          intro f hf
          obtain ⟨j, hj', e⟩ := List.mem_iff_getElem.1 hf
          rw [← e]; simpa using hj j hj'
        rw [HL3.out] at hr8 hln8
        have HNE := Lib.hid (hne L); have HYES := Lib.hid (hyes L); have HR8 := Lib.hid hr8
        clear hl8 hr8 hne hyes hb8 hb7 hd7 d11 HL7 HR7 hok E HAW XW
        subst hln8
        clear hn7 hn8
        go_wp2_with fail
        go_loopw [6] (fun i wi => ∃ j : Nat, j ≤ L.length ∧ i = .int .i64 j ∧ Hid (∀ q (h : q < L.length), q < j → L[q].1.length + L[q].2.length ≤ 300) ∧ Below w8.heap.size w8 wi) (fun i _ => L.length - (intOf i).toNat)
        case atStart => exact ⟨0, Nat.zero_le _, rfl, Lib.hid (fun q _ h => absurd h (by omega)), Below.refl _ _⟩
        case round =>
          obtain ⟨j, hj, rfl, HQ, hbi⟩ := hrel
          have hbwi := bt hd8 hbi
          by_cases hjl : j < L.length
          · obtain ⟨b', o', rfl, hlb', f1, f2⟩ := (HR8.out.below hbi).fld_at (k := j) hjl
            have hcl := HCL.out L[j] (List.getElem_mem _)
            have hne := HNE.out j hjl
            have hq2 : L[j].1.length + L[j].2.length ≤ 300 → Hid (∀ q (h : q < L.length), q < j + 1 → L[q].1.length + L[q].2.length ≤ 300) := fun e => Lib.hid (fun q h hq => by
              by_cases hqj : q = j
              · subst hqj; exact e
              · exact HQ.out q h (by omega))
            generalize L[j] = f at *
            obtain ⟨g1, g2⟩ := f
            simp only at f1 f2 hcl hne hq2
            have v1 : IntKind.i64.wrap ((g1.length : Int) + (g2.length : Int)) = (g1.length : Int) + (g2.length : Int) := by rw [IntKind.wrap_i64]; omega
            have v2 : (0 : Int) ≤ (j : Int) := by omega
            have v3 : (j : Int) < (L.length : Int) := by omega
            by_cases hs : g1.length + g2.length ≤ 300
            · have v4 : decide ((g1.length : Int) + (g2.length : Int) > 300) = false := by simp; omega
              have HQ2 := hq2 hs
              clear hne hq2 HQ
              go_wp2
              go_region
              go_wp2
              go_roundw
              case rel => exact ⟨j + 1, by omega, by go_num, HQ2, hbi.drew⟩
              case measure => simp [intOf]; omega
            · have v4 : decide ((g1.length : Int) + (g2.length : Int) > 300) = true := by simp; omega
              have HO := Lib.hid (HBK.out (hne hs))
              clear hne hq2 HQ
              go_wp2
              go_region
              go_wp2
              go_ret
              rw [HO.out]
              exact ⟨rfl, hbwi.drew⟩
          · have hyes := HYES.out (fun q h => HQ.out q h (by omega))
            have HS2 := Lib.hid (HSK.out hyes)
            clear hyes HQ
            go_wp2
            go_roundw
            case rel => exact ⟨k + 1, by omega, by omega, by go_num, HS2, hbwi⟩
            case measure => simp [intOf]; omega
      · have hk70 : k = 70 := by omega
        have t1 : decide ((k : Int) < 70) = false := by simp; omega
        have ho := HG.out k (Or.inr hk70) HALL.out
        have HO := Lib.hid ho
        clear ho
        go_wp2
        go_ret
        rw [HO.out]
        exact ⟨by simp; omega, hbw⟩
    · have ho := HG.out k (Or.inl (by omega)) HALL.out
      have HO := Lib.hid ho
      clear ho
      go_wp2
      go_ret
      rw [HO.out]
      exact ⟨by simp; omega, hbw⟩
end Go.Proofs.YtokhlmoanlcjmaaDoor
/- Store: its functions over a store that the law made; plain laws of what is put. -/
namespace Go.Proofs.YtokhlmoanlcjmaaDoor
open Go.RowKit
set_option maxRecDepth 100000

/-- A store that was made behind w0 stands in w. -/
def Live (w0 w : World) (sb bl : Nat) (n m : Int) (es : List Ent) (put : Int) : Prop :=
  ∃ fp, StAt w sb fp bl n m es put ∧ Below w0.heap.size w0 w ∧ ∀ b ∈ sb :: fp, w0.heap.size ≤ b
theorem Live.to {w0 w w' : World} {sb bl : Nat} {n m : Int} {es' : List Ent} {put' : Int} {fp : List Nat} (hb : Below w0.heap.size w0 w) (hf : ∀ b ∈ sb :: fp, w0.heap.size ≤ b) (h : StTo w w' sb fp bl n m es' put') : Live w0 w' sb bl n m es' put' := by
  obtain ⟨fp', ha, ht, hg⟩ := h
  refine ⟨fp', ha, hb.trans (ht.below hf hb.size), fun b hb' => ?_⟩
  rcases List.mem_cons.1 hb' with rfl | hb'
  · exact hf _ List.mem_cons_self
  · rcases hg b hb' with h' | h'
    · exact hf b (List.mem_cons_of_mem _ h')
    · exact Nat.le_trans hb.size h'
theorem Live.below {w0 w w' : World} {sb bl : Nat} {n m : Int} {es : List Ent} {put : Int} (h : Live w0 w sb bl n m es put) (hb : Below w.heap.size w w') : Live w0 w' sb bl n m es put := by
  obtain ⟨fp, ha, h1, hf⟩ := h
  exact ⟨fp, ha.below hb, bt h1 hb, hf⟩
theorem Live.base {w0 w : World} {sb bl : Nat} {n m : Int} {es : List Ent} {put : Int} (h : Live w0 w sb bl n m es put) : Below w0.heap.size w0 w := by
  obtain ⟨fp, ha, h1, hf⟩ := h
  exact h1
theorem Live.ends {w0 w : World} {sb bl : Nat} {n m : Int} {es : List Ent} {put : Int} (h : Live w0 w sb bl n m es put) : (es.length : Int) ≤ n ∧ 0 ≤ sumE es ∧ sumE es ≤ m ∧ n ≤ 4096 ∧ m ≤ 1073741824 ∧ 1 ≤ n ∧ 1 ≤ m := by
  obtain ⟨fp, ha, h1, hf⟩ := h
  exact ha.bud.ends
theorem Live.good {w0 w : World} {sb bl : Nat} {n m : Int} {es : List Ent} {put : Int} (h : Live w0 w sb bl n m es put) : ∀ e ∈ es, GoodE w e ∧ e.x.num ≤ put := by
  obtain ⟨fp, ha, h1, hf⟩ := h
  exact ha.good
theorem Live.nd {w0 w : World} {sb bl : Nat} {n m : Int} {es : List Ent} {put : Int} (h : Live w0 w sb bl n m es put) : (es.map (·.key)).Nodup := by
  obtain ⟨fp, ha, h1, hf⟩ := h
  exact ha.bud.nd
theorem Live.lt {w0 w : World} {sb bl : Nat} {n m : Int} {es : List Ent} {put : Int} (h : Live w0 w sb bl n m es put) : w0.heap.size ≤ sb ∧ sb < w.heap.size := by
  obtain ⟨fp, ha, h1, hf⟩ := h
  exact ⟨hf _ List.mem_cons_self, ha.lt⟩

/-- What is none of a store's blocks was not turned. -/
def Kept (w w' : World) : Prop := w.heap.size ≤ w'.heap.size ∧ ∀ (g : Nat) (cs : Array Value) (T : TypeId) (z : Nat × Nat), w.heap[g]? = some (Obj.cells cs T z) → T ≠ 89 → T ≠ 92 → T ≠ 57 → w'.heap[g]? = some (Obj.cells cs T z)
theorem Kept.trans {w w1 w2 : World} (h : Kept w w1) (h2 : Kept w1 w2) : Kept w w2 := ⟨Nat.le_trans h.1 h2.1, fun g cs T z h1 a b c => h2.2 g cs T z (h.2 g cs T z h1 a b c) a b c⟩
theorem Kept.of_below {w w' : World} (hb : Below w.heap.size w w') : Kept w w' := ⟨hb.size, fun g cs T z h1 _ _ _ => by
  rcases Nat.lt_or_ge g w.heap.size with h' | h'
  · exact (hb.block g h').trans h1
  · simp [Array.getElem?_eq_none h'] at h1⟩
theorem StTo.kept {w w' : World} {sb : Nat} {fp : List Nat} {bl : Nat} {n m : Int} {es es' : List Ent} {put put' : Int} (ht : StTo w w' sb fp bl n m es' put') (h : StAt w sb fp bl n m es put) : Kept w w' := by
  obtain ⟨fp', _, ht, _⟩ := ht
  refine ⟨ht.2.2.2.1, fun g cs T z h1 a b c => ?_⟩
  rcases Nat.lt_or_ge g w.heap.size with h' | h'
  · refine (ht.2.2.2.2 g h' (fun hm => ?_)).trans h1
    rcases List.mem_cons.1 hm with rfl | hm
    · rw [h.blk] at h1
      injection h1 with h1
      injection h1 with _ h1 _
      exact c h1.symm
    · rcases h.bud.kind g hm _ _ _ h1 with e | e
      · exact a e
      · exact b e
  · simp [Array.getElem?_eq_none h'] at h1
theorem Kept.own {w w' : World} {B : Nat} {v : Value} {fs : List Fld} (h : Kept w w') (ho : OwnF B v fs w) : OwnF B v fs w' := by
  refine ⟨ho.1, ?_⟩
  rcases ho.2 with h2 | ⟨g, cap, cur, hv, hg, hh, r⟩
  · exact Or.inl h2
  · exact Or.inr ⟨g, cap, cur, hv, hg, h.2 g _ _ _ hh (by decide) (by decide) (by decide), r⟩
/-- What was put, but for where its rows lie. -/
structure NewX (x : Hv) (key : List UInt8) (st mi asked got : Int) (re bo : ByteArray) (fl vl : List Fld) (num : Int) : Prop where
  key : x.key = ⟨key.toArray⟩
  st : x.st = st
  mi : x.mi = mi
  asked : x.asked = asked
  got : x.got = got
  re : x.re = re
  bo : x.bo = bo
  fl : x.fl = fl
  vl : x.vl = vl
  num : x.num = num
theorem live_put {w0 w : World} {sb bl : Nat} {nn mm : Int} {es : List Ent} {put : Int} (h : Live w0 w sb bl nn mm es put) (key : List UInt8) (st mi asked got : Int) (re bo : ByteArray) (A V : Option Addr) (n c m d : Nat) (fl vl : List Fld) (hr : Rd A n 2 (fldsV fl) w0) (hq : Rd V m 2 (fldsV vl) w0) (hk : key.length ≤ 1000) (hn : fl.length ≤ 100) (hm : vl.length ≤ 100) (hs : sumF fl ≤ 10000) (hs2 : sumF vl ≤ 10000) (hre : re.size ≤ 10000) (hbo : bo.size ≤ 10000) (hp : 0 ≤ put ∧ put ≤ 1000) (ht : TabN w0) :
    Calls Tryd.prog 10 #[.pointer (some ⟨sb, 0, none⟩), .string ⟨key.toArray⟩, entV st re mi A n c bo asked got V m d] w fun e w' => ∃ x, NewX x key st mi asked got re bo fl vl (put + 1) ∧ e = .returned (.bool (hasE (nameB key vl) (putE nn mm (nameB key vl) (sizeZ ⟨key.toArray⟩ re bo fl vl) x es).2)) ∧ Live w0 w' sb bl nn mm (putE nn mm (nameB key vl) (sizeZ ⟨key.toArray⟩ re bo fl vl) x es).2 (put + 1) ∧ Kept w w' := by
  obtain ⟨fp, ha, h1, hf⟩ := h
  have hbw : ∀ W, Touch (sb :: fp) w W → Below w0.heap.size w0 W := fun W ht => h1.trans (ht.below hf h1.size)
  refine (put19_any ha key st mi asked got re bo A V n c m d fl vl (fun W ht => hr.below (hbw W ht)) (fun W ht => hq.below (hbw W ht)) hk hn hm hs hs2 hre hbo hp (fun W h' => ht.on (hbw W h'))).mono ?_
  rintro e w' ⟨a, ac, v, vc, rfl, hto⟩
  exact ⟨⟨⟨key.toArray⟩, st, re, mi, a, fl.length, ac, bo, asked, got, v, vl.length, vc, put + 1, fl, vl⟩, ⟨rfl, rfl, rfl, rfl, rfl, rfl, rfl, rfl, rfl, rfl⟩, rfl, Live.to h1 hf hto, hto.kept ha⟩
theorem live_remove {w0 w : World} {sb bl : Nat} {nn mm : Int} {es : List Ent} {put : Int} (h : Live w0 w sb bl nn mm es put) (key : List UInt8) (st mi asked got : Int) (re bo : ByteArray) (A V : Option Addr) (n c m d : Nat) (vl : List Fld) (hq : Rd V m 2 (fldsV vl) w0) (hk : key.length ≤ 1000) (hm : vl.length ≤ 100) (hs : sumF vl ≤ 10000) (ht : TabN w0) :
    Calls Tryd.prog 11 #[.pointer (some ⟨sb, 0, none⟩), .string ⟨key.toArray⟩, entV st re mi A n c bo asked got V m d] w fun e w' => e = .returned (.bool (hasE (nameB key vl) es)) ∧ Live w0 w' sb bl nn mm (delE (nameB key vl) es) put ∧ Kept w w' := by
  obtain ⟨fp, ha, h1, hf⟩ := h
  refine (remove19_any ha key st mi asked got re bo A V n c m d vl (hq.below h1) hk hm hs (ht.on h1)).mono ?_
  rintro e w' ⟨rfl, hto⟩
  exact ⟨rfl, Live.to h1 hf hto, hto.kept ha⟩
theorem live_drop {w0 w : World} {sb bl : Nat} {nn mm : Int} {es : List Ent} {put : Int} (h : Live w0 w sb bl nn mm es put) (key : List UInt8) :
    Calls Tryd.prog 12 #[.pointer (some ⟨sb, 0, none⟩), .string ⟨key.toArray⟩] w fun e w' => e = .returned (.int .i64 (dropN key es : Nat)) ∧ Live w0 w' sb bl nn mm (dropL key es) put ∧ Kept w w' := by
  obtain ⟨fp, ha, h1, hf⟩ := h
  refine (drop19_any ha key).mono ?_
  rintro e w' ⟨rfl, hto⟩
  exact ⟨rfl, Live.to h1 hf hto, hto.kept ha⟩
theorem live_forget {w0 w : World} {sb bl : Nat} {nn mm : Int} {es : List Ent} {put : Int} (h : Live w0 w sb bl nn mm es put) (k : Int) :
    Calls Tryd.prog 15 #[.pointer (some ⟨sb, 0, none⟩), .int .i64 k] w fun e w' => e = .returned (.bool (forB es k)) ∧ Live w0 w' sb bl nn mm (forL es k) put ∧ Kept w w' := by
  obtain ⟨fp, ha, h1, hf⟩ := h
  refine (forget19_any ha k).mono ?_
  rintro e w' ⟨rfl, hto⟩
  exact ⟨rfl, Live.to h1 hf hto, hto.kept ha⟩
/-- What Find hands back. -/
def FoundL (w0 w : World) (sb bl : Nat) (nn mm : Int) (es : List Ent) (put : Int) (bo : Option Ent) (e : Ending) (w' : World) : Prop :=
  match bo with
  | none => e = .returned (.tuple #[entV 0 ⟨#[]⟩ 0 none 0 0 ⟨#[]⟩ 0 0 none 0 0, .bool false]) ∧ Live w0 w' sb bl nn mm es put ∧ Kept w w'
  | some b => ∃ a ac v vc, e = .returned (.tuple #[entV b.x.st b.x.re b.x.mi a b.x.fl.length ac b.x.bo b.x.asked b.x.got v b.x.vl.length vc, .bool true]) ∧ OwnF w.heap.size (.slice a b.x.fl.length ac) b.x.fl w' ∧ OwnF w.heap.size (.slice v b.x.vl.length vc) b.x.vl w' ∧ Live w0 w' sb bl nn mm (getE b.key es) put ∧ Kept w w'
theorem live_find {w0 w : World} {sb bl : Nat} {nn mm : Int} {es : List Ent} {put : Int} (h : Live w0 w sb bl nn mm es put) (kk : List UInt8) (A : Option Addr) (n c : Nat) (xs : List Fld) (hr : Rd A n 2 (fldsV xs) w0) (hn : n ≤ 100) (hs : ∀ f ∈ xs, f.1.length ≤ 10000 ∧ f.2.length ≤ 10000) (hk : kk.length ≤ 1000) (ht : TabN w0) :
    Calls Tryd.prog 13 #[.pointer (some ⟨sb, 0, none⟩), .string ⟨kk.toArray⟩, .slice A n c] w (FoundL w0 w sb bl nn mm es put (bestL kk xs es)) := by
  obtain ⟨fp, ha, h1, hf⟩ := h
  refine (find19_any ha kk A n c xs (hr.below h1) hn hs hk (fun W hb => ht.on (bt h1 hb))).mono ?_
  intro e w' hp
  unfold FindPost at hp
  unfold FoundL
  cases hb : bestL kk xs es with
  | none =>
    rw [hb] at hp
    exact ⟨hp.1, Live.to h1 hf hp.2, hp.2.kept ha⟩
  | some b =>
    rw [hb] at hp
    obtain ⟨a, ac, v, vc, h1', h2, h3, h4⟩ := hp
    exact ⟨a, ac, v, vc, h1', h2, h3, Live.to h1 hf h4, h4.kept ha⟩
theorem live_len {w0 w : World} {sb bl : Nat} {nn mm : Int} {es : List Ent} {put : Int} (h : Live w0 w sb bl nn mm es put) :
    Calls Tryd.prog 19 #[.pointer (some ⟨sb, 0, none⟩)] w fun e w' => e = .returned (.int .i64 es.length) ∧ w = w' := by
  obtain ⟨fp, ha, h1, hf⟩ := h
  exact len19_any ha
theorem live_bytes {w0 w : World} {sb bl : Nat} {nn mm : Int} {es : List Ent} {put : Int} (h : Live w0 w sb bl nn mm es put) :
    Calls Tryd.prog 20 #[.pointer (some ⟨sb, 0, none⟩)] w fun e w' => e = .returned (.int .i64 (sumE es)) ∧ w = w' := by
  obtain ⟨fp, ha, h1, hf⟩ := h
  exact bytes19_any ha
theorem live_keys {w0 w : World} {sb bl : Nat} {nn mm : Int} {es : List Ent} {put : Int} (h : Live w0 w sb bl nn mm es put) :
    Calls Tryd.prog 18 #[.pointer (some ⟨sb, 0, none⟩)] w (TextsPost w (es.map fun e => e.x.key.data.toList)) := by
  obtain ⟨fp, ha, h1, hf⟩ := h
  exact keys19_any ha
theorem live_new (n m : Int) (w0 w : World) (hb : Below w0.heap.size w0 w) (hn : 1 ≤ n ∧ n ≤ 4096) (hm : 1 ≤ m ∧ m ≤ 1073741824) :
    Calls Tryd.prog 7 #[.int .i64 n, .int .i64 m] w fun e w' => ∃ sb bl, e = .returned (.pointer (some ⟨sb, 0, none⟩)) ∧ Live w0 w' sb bl n m [] 0 := by
  refine (new19_any n m w hn hm).mono ?_
  rintro e w' ⟨sb, fp, bl, rfl, ha, hb1, hf⟩
  exact ⟨sb, bl, rfl, fp, ha, bt hb hb1, fun b h => Nat.le_trans hb.size (hf b h)⟩

/-! What is put stays just if it is not too large; then it stands last. -/
theorem evE_last (n m : Int) (hn : 1 ≤ n) (e : Ent) (he : e.size ≤ m) : ∀ p : List Ent, ∃ q, (evE n m (p ++ [e])).2 = q ++ [e]
  | [] => ⟨[], by
    show (evE n m [e]).2 = [e]
    rw [evE]
    have : overE n m [e] = false := by
      unfold overE sumE
      rw [decide_eq_false (by simp; omega), decide_eq_false (by show ¬ m < e.size + 0; omega)]; rfl
    rw [this]; rfl⟩
  | x :: t => by
    rw [List.cons_append, evE]
    split
    · exact evE_last n m hn e he t
    · exact ⟨x :: t, rfl⟩
theorem putE_has {n m : Int} (hn : 1 ≤ n) {k : ByteArray} {s : Int} (hs : 0 ≤ s) (x : Hv) (es : List Ent) : hasE k (putE n m k s x es).2 = decide (s ≤ m) ∧ (s ≤ m → ∃ q, (putE n m k s x es).2 = q ++ [⟨k, s, x⟩]) := by
  by_cases hm : m < s
  · rw [decide_eq_false (by omega)]
    refine ⟨?_, fun h => by omega⟩
    unfold putE
    rw [if_pos hm]
    unfold hasE findE
    have : (delE k es).find? (keyIs k) = none := by
      rw [List.find?_eq_none]
      intro y hy
      unfold delE at hy
      simpa using (List.mem_filter.1 hy).2
    simp only [this]; rfl
  · have e1 : (putE n m k s x es) = evE n m (delE k es ++ [⟨k, s, x⟩]) := by
      unfold putE
      rw [if_neg hm, show max 0 s = s from by omega]
    obtain ⟨q, hq⟩ := evE_last n m hn ⟨k, s, x⟩ (by show s ≤ m; omega) (delE k es)
    rw [e1, decide_eq_true (by omega)]
    refine ⟨?_, fun _ => ⟨q, hq⟩⟩
    rw [hq]
    unfold hasE findE
    rw [List.find?_append]
    cases q.find? (keyIs k) with
    | some _ => rfl
    | none =>
      rw [List.find?_cons, show keyIs k ⟨k, s, x⟩ = true from keyIs_iff.2 rfl]; rfl
theorem sizeZ_nn (key re bo : ByteArray) (fl vl : List Fld) : 0 < sizeZ key re bo fl vl := by unfold sizeZ; omega
end Go.Proofs.YtokhlmoanlcjmaaDoor
/- Store: the laws' small things: body, finds, awake. -/
namespace Go.Proofs.YtokhlmoanlcjmaaDoor
open Go.RowKit
set_option maxRecDepth 100000

set_option maxHeartbeats 4000000 in
theorem body_any (s : ByteArray) (w : World) :
    Calls Tryd.prog 21 #[.string s] w fun e w' => e = .returned (entV 0 ⟨#[]⟩ 0 none 0 0 s 0 0 none 0 0) ∧ Below w.heap.size w w' := by
  go_enter Tryd.func21, Tryd.ntmps21
  go_wp2_with fail
  refine bodyPost_ret_by (v := entV 0 ⟨#[]⟩ 0 none 0 0 s 0 0 none 0 0) ?_ rfl ?_
  · rw [results_cell_one rfl]
    go_simp
    rfl
  · refine ⟨rfl, ?_⟩
    first | exact (Below.refl w.heap.size w).alloc (Nat.le_refl _) _ | exact (Below.refl w.heap.size w).alloc (Nat.le_refl _) _ |>.alloc (by simp) _
/-- finds: the body of what is found. -/
def findsB (bo : Option Ent) : ByteArray := match bo with
  | none => ⟨#[110, 111, 110, 101]⟩
  | some b => b.x.bo
def getO (bo : Option Ent) (es : List Ent) : List Ent := match bo with
  | none => es
  | some b => getE b.key es
set_option maxHeartbeats 4000000 in
theorem finds_any {w0 w : World} {sb bl : Nat} {nn mm : Int} {es : List Ent} {put : Int} (h : Live w0 w sb bl nn mm es put) (kk : List UInt8) (A : Option Addr) (n c : Nat) (xs : List Fld) (hr : Rd A n 2 (fldsV xs) w0) (hn : n ≤ 100) (hs : ∀ f ∈ xs, f.1.length ≤ 10000 ∧ f.2.length ≤ 10000) (hk : kk.length ≤ 1000) (ht : TabN w0) :
    Calls Tryd.prog 16 #[.pointer (some ⟨sb, 0, none⟩), .string ⟨kk.toArray⟩, .slice A n c] w fun e w' => e = .returned (.string (findsB (bestL kk xs es))) ∧ Live w0 w' sb bl nn mm (getO (bestL kk xs es) es) put := by
  have k1 := live_find h kk A n c xs hr hn hs hk ht
  unfold FoundL at k1
  have K1 := Lib.hid k1
  clear k1 h hr
  cases hb : bestL kk xs es with
  | none =>
    rw [hb] at K1
    go_enter Tryd.func16, Tryd.ntmps16
    go_wp2_with fail
    (with_reducible refine K1.out.mono ?_)
    rintro e w1 ⟨rfl, hl, -⟩
    have hl2 := hl.below ((Below.refl w1.heap.size w1).alloc (Nat.le_refl _) (.cells #[.int .i64 0, .string ⟨#[]⟩, .int .i64 0, .slice none 0 0, .string ⟨#[]⟩, .int .i64 0, .int .i64 0, .slice none 0 0] 33))
    have HL := Lib.hid hl2
    clear hl hl2
    unfold entV
    go_wp2
    go_ret
    exact ⟨rfl, HL.out⟩
  | some b =>
    rw [hb] at K1
    go_enter Tryd.func16, Tryd.ntmps16
    go_wp2_with fail
    (with_reducible refine K1.out.mono ?_)
    rintro e w1 ⟨a, ac, v, vc, rfl, -, -, hl, -⟩
    have hl2 := hl.below ((Below.refl w1.heap.size w1).alloc (Nat.le_refl _) (.cells #[.int .i64 b.x.st, .string b.x.re, .int .i64 b.x.mi, .slice a b.x.fl.length ac, .string b.x.bo, .int .i64 b.x.asked, .int .i64 b.x.got, .slice v b.x.vl.length vc] 33))
    have HL := Lib.hid hl2
    clear hl hl2
    unfold entV
    go_wp2
    go_ret
    exact ⟨rfl, HL.out⟩
set_option maxHeartbeats 16000000 in
theorem awake19_any (w : World) (ht : TabN w) :
    Calls Tryd.prog 9 #[] w fun e w' => e = .returned (.bool true) ∧ Below w.heap.size w w' := by
  have K1 := Lib.hid (live_new 2 1000 w w (Below.refl _ _) (by omega) (by omega))
  have HT := Lib.hid ht
  clear ht
  go_enter Tryd.func9, Tryd.ntmps9
  go_wp2_with fail
  (with_reducible refine K1.out.mono ?_)
  rintro e w1 ⟨sb, bl, rfl, h1⟩
  have H1 := Lib.hid h1
  clear h1 K1
  go_wp2_with fail
  (with_reducible refine (body_any ⟨#[120]⟩ _).mono ?_)
  rintro e w2 ⟨rfl, hb2⟩
  have h2 := H1.out.below hb2
  have k2 := live_put h2 [107] 0 0 0 0 ⟨#[]⟩ ⟨#[120]⟩ none none 0 0 0 0 [] [] Rd.nil Rd.nil (by decide) (by decide) (by decide) (by decide) (by decide) (by decide) (by decide) (by omega) HT.out
  have hz : sizeZ ⟨[107].toArray⟩ ⟨#[]⟩ ⟨#[120]⟩ [] [] = 66 := by rfl
  rw [hz] at k2
  have hp : ∀ x, (putE 2 1000 (nameB [107] []) 66 x []).2 = [⟨nameB [107] [], 66, x⟩] := fun x => by rfl
  simp only [hp] at k2
  have hh : ∀ x, hasE (nameB [107] []) [⟨nameB [107] [], 66, x⟩] = true := fun x => by
    unfold hasE findE
    rw [List.find?_cons, show keyIs (nameB [107] []) ⟨nameB [107] [], 66, x⟩ = true from keyIs_iff.2 rfl]; rfl
  simp only [hh] at k2
  have K2 := Lib.hid k2
  clear k2 h2 hb2 hh hp hz H1
  go_wp2_with fail
  (with_reducible refine K2.out.mono ?_)
  rintro e w3 ⟨x, hx, rfl, h3, -⟩
  have k3 := finds_any h3 [107] none 0 0 [] Rd.nil (by omega) (by simp) (by decide) HT.out
  have hb1 : bestL [107] [] [⟨nameB [107] [], 66, x⟩] = some ⟨nameB [107] [], 66, x⟩ := by
    unfold bestL
    rw [List.foldl_cons, List.foldl_nil]
    unfold stepB
    have e1 : (⟨nameB [107] [], 66, x⟩ : Ent).x.key.data.toList = [107] := by rw [hx.key]
    have e2 : (⟨nameB [107] [], 66, x⟩ : Ent).x.num = 1 := hx.num
    have e3 : (⟨nameB [107] [], 66, x⟩ : Ent).x.vl = [] := hx.vl
    rw [e1, e2, e3]
    rfl
  rw [hb1] at k3
  have hg : getO (some ⟨nameB [107] [], 66, x⟩) [⟨nameB [107] [], 66, x⟩] = [⟨nameB [107] [], 66, x⟩] := by
    unfold getO getE findE
    simp only
    rw [List.find?_cons, show keyIs (nameB [107] []) ⟨nameB [107] [], 66, x⟩ = true from keyIs_iff.2 rfl]
    simp only
    unfold delE
    rw [List.filter_cons, show keyIs (nameB [107] []) ⟨nameB [107] [], 66, x⟩ = true from keyIs_iff.2 rfl]
    rfl
  have hf : findsB (some ⟨nameB [107] [], 66, x⟩) = ⟨#[120]⟩ := hx.bo
  rw [hg, hf] at k3
  have hbm : bestL [109] [] [⟨nameB [107] [], 66, x⟩] = none := by
    unfold bestL
    rw [List.foldl_cons, List.foldl_nil]
    unfold stepB
    have e1 : (⟨nameB [107] [], 66, x⟩ : Ent).x.key.data.toList = [107] := by rw [hx.key]
    rw [e1]
    rfl
  have hfl : forL [⟨nameB [107] [], 66, x⟩] 0 = [] := by
    unfold forL
    rw [dif_pos (by simp)]
    show delE (nameB [107] []) [⟨nameB [107] [], 66, x⟩] = []
    unfold delE
    rw [List.filter_cons, show keyIs (nameB [107] []) ⟨nameB [107] [], 66, x⟩ = true from keyIs_iff.2 rfl]
    rfl
  have hfb : forB [⟨nameB [107] [], 66, x⟩] 0 = true := by unfold forB; rw [decide_eq_true (by simp)]
  have hsu : sumE [⟨nameB [107] [], 66, x⟩] = 66 := by show (66 : Int) + 0 = 66; rfl
  have K3 := Lib.hid k3; have HBM := Lib.hid hbm; have HFL := Lib.hid hfl; have HFB := Lib.hid hfb; have HSU := Lib.hid hsu
  clear k3 hb1 hg hf hbm hfl hfb hsu h3 hx K2
  generalize (⟨nameB [107] [], 66, x⟩ : Ent) = en at *
  go_wp2_with fail
  (with_reducible refine K3.out.mono ?_)
  rintro e w4 ⟨rfl, h4⟩
  have k4 := finds_any h4 [109] none 0 0 [] Rd.nil (by omega) (by simp) (by decide) HT.out
  rw [HBM.out] at k4
  have K4 := Lib.hid k4
  clear k4 h4 K3
  unfold findsB getO at K4
  simp only at K4
  go_wp2_with fail
  (with_reducible refine K4.out.mono ?_)
  rintro e w5 ⟨rfl, h5⟩
  have k5 := live_bytes h5
  rw [HSU.out] at k5
  have K5 := Lib.hid k5
  have H5 := Lib.hid h5
  clear k5 h5 K4
  go_wp2_with fail
  (with_reducible refine K5.out.mono ?_)
  rintro e w6 ⟨rfl, rfl⟩
  have k6 := live_forget H5.out 0
  rw [HFB.out, HFL.out] at k6
  have K6 := Lib.hid k6
  clear k6 K5
  go_wp2_with fail
  (with_reducible refine K6.out.mono ?_)
  rintro e w7 ⟨rfl, h7, -⟩
  have k7 := finds_any h7 [107] none 0 0 [] Rd.nil (by omega) (by simp) (by decide) HT.out
  have hb7 : bestL [107] [] [] = none := rfl
  rw [hb7] at k7
  unfold findsB getO at k7
  simp only at k7
  have K7 := Lib.hid k7
  clear k7 hb7 h7 K6
  go_wp2_with fail
  (with_reducible refine K7.out.mono ?_)
  rintro e w8 ⟨rfl, h8⟩
  have HB := Lib.hid h8.base
  clear h8 K7
  go_wp2
  go_ret
  exact ⟨rfl, HB.out⟩
end Go.Proofs.YtokhlmoanlcjmaaDoor
