/- The document's Budget: the walk of Get (printed by wip/tools/budget.py). -/
import Derived.Test.YtheblhgmfkpllaaBudRefP
import Derived.Deep.RegionHeld3
namespace Go.Proofs.Ytheblhgmfkpllaa
open Go.RowKit
set_option maxRecDepth 100000

theorem wp_app_ones {o : Oper} {a : Act} {K : Act → World → Prop} {Q : Exit → Act → World → Prop} {w : World} {fr : List Nat} {es : List Ent} {A : Option Addr} {cap : Nat} (h : Row1 w fr es A cap) (e : Ent) (hx : e.x.oneCell' = true) (hn : es.length ≤ 100000) {ad : Addr} (hc : ∀ j u, (oneV e)[j]? = some u → w.cell? (ad.add j) = some u)
    (s x : Operand) (ho : o.op = .call { callee := .builtin .append, args := #[s, x], argTypes := #[35, 35] })
    (hs : a.eval s = .slice A es.length cap) (hxv : a.eval x = .slice (some ad) 1 1)
    (hK : ∀ A' cap' w1 fr', Row1 w1 fr' (es ++ [e]) A' cap' → Touch fr w w1 → (∀ b ∈ fr', b ∈ fr ∨ w.heap.size ≤ b) → K (a.put o.dst (.slice A' (es.length + 1) cap')) w1) :
    o.wp Try.prog a w K Q := by
  obtain ⟨A', cap', w1, fr', hrun, h1, h2, h3⟩ := run_app_ones h e hx hn o.type hc
  unfold Oper.wp execOp
  simp only [ho, resolve, invoke, builtin, Sem.run_bind, Sem.run_pure, Result.andThen_ok, List.map_toArray, List.map_cons, List.map_nil, hs, hxv, hrun]
  exact hK A' cap' w1 fr' h1 h2 h3
set_option maxHeartbeats 16000000 in
theorem getR_any {w : World} {fr : List Nat} {rb : Nat} {n m : Int} {es : List Ent} (h : BR w fr rb n m es) (hes : EsOk es) (key : ByteArray) :
    Calls Try.prog 32 #[.pointer (some ⟨rb, 0, none⟩), .string key] w fun e w' => e = .returned (.tuple #[valE (.int .i64 0) key es, .bool (hasE key es)]) ∧ StR w w' fr rb n m (getE key es) := by
  have k1 := atR_any h hes key
  have K1 := Lib.hid k1
  have HB := Lib.hid h
  have HES := Lib.hid hes
  clear k1 h hes
  go_enter Try.func32, Try.ntmps32
  go_wp2_with fail
  (with_reducible refine K1.out.mono ?_)
  rintro y w1 ⟨rfl, ⟨hf, rfl⟩ | ⟨p, e, q, rfl, hk, hp, hf, rfl⟩⟩
  · go_wp2
    go_ret2
    exact ⟨by unfold valE hasE; rw [hf]; rfl, by unfold getE; rw [hf]; exact StR.same HB.out⟩
  · obtain ⟨ek, es', ex⟩ := e
    obtain ⟨x0, hx0⟩ := HES.out.x ⟨ek, es', ex⟩ (by simp)
    simp only at hx0
    subst hx0
    obtain ⟨g, o, cap, c2, hcap, d0, d1, d2⟩ := HB.out.at
    simp only at d0 d1 d2
    have hll := HES.out.len
    rw [List.length_append, List.length_cons] at hll
    have hN : (p ++ ⟨ek, es', .int .i64 x0⟩ :: q).length = p.length + q.length + 1 := by rw [List.length_append, List.length_cons]; omega
    rw [hN] at c2
    obtain ⟨k, hk2⟩ : ∃ k, p.length = k := ⟨_, rfl⟩
    rw [hk2] at c2 d0 d1 d2
    obtain ⟨N, hN2⟩ : ∃ N, k + q.length + 1 = N := ⟨_, rfl⟩
    rw [hN2] at c2
    have hkl : k < N := by omega
    have HFF := Lib.hid hf
    rw [hk2]
    clear hN hk hk2 hf hp hcap hN2
    have hal := (Below.refl w.heap.size w).alloc (Nat.le_refl _) (.cells #[.string ek, .int .i64 es', .int .i64 x0] 60 (0, 0))
    have hA := heap_alloc_last w (.cells #[.string ek, .int .i64 es', .int .i64 x0] 60 (0, 0))
    have k2 := dropR_any (HB.out.below hal) HES.out key
    have hdl : hasE key (p ++ ⟨ek, es', .int .i64 x0⟩ :: q) = true := by unfold hasE; rw [HFF.out]; rfl
    have hge : getE key (p ++ ⟨ek, es', .int .i64 x0⟩ :: q) = delE key (p ++ ⟨ek, es', .int .i64 x0⟩ :: q) ++ [⟨ek, es', .int .i64 x0⟩] := by unfold getE; rw [HFF.out]
    have hdlen : (delE key (p ++ ⟨ek, es', .int .i64 x0⟩ :: q)).length ≤ (p ++ ⟨ek, es', .int .i64 x0⟩ :: q).length := List.length_filter_le _ _
    rw [List.length_append, List.length_cons] at hdlen
    have hnn : (delE key (p ++ ⟨ek, es', .int .i64 x0⟩ :: q)).length ≤ 100000 := by omega
    rw [hdl] at k2
    have hlow := HB.out.low
    generalize delE key (p ++ ⟨ek, es', .int .i64 x0⟩ :: q) = zs at *
    have K2 := Lib.hid k2; have HA := Lib.hid hA; have HAL := Lib.hid hal; have HGE := Lib.hid hge; have HLOW := Lib.hid hlow; have HDL := Lib.hid hdl
    clear k2 hA hal hge hlow hdl hdlen hll
    go_wp2_with fail
    (with_reducible refine K2.out.mono ?_)
    rintro y w2 ⟨rfl, fr2, hb2, ht2, hf2⟩
    obtain ⟨A2, cap2, hr2, hnf2, hlt2, _, _, c2, f2⟩ := hb2.cells
    obtain ⟨blk, hblk⟩ := hb2.blk
    obtain ⟨T, hTT⟩ : ∃ T, w.heap.size = T := ⟨_, rfl⟩
    have hT2 : w2.heap[T]? = some (.cells #[.string ek, .int .i64 es', .int .i64 x0] 60 (0, 0)) := by
      rw [← hTT]
      exact (ht2.2.2.2.2 _ (by rw [alloc_sz]; omega) (fun hx => Nat.lt_irrefl _ (HLOW.out _ hx))).trans HA.out
    have hne : T ≠ rb := fun x => by have := HLOW.out rb List.mem_cons_self; omega
    have hnT : T ∉ fr2 := fun hx => by
      rcases hf2 T hx with h' | h'
      · have := HLOW.out T (List.mem_cons_of_mem _ h'); omega
      · rw [alloc_sz] at h'; omega
    have hTl : T < w2.heap.size := by have := ht2.2.2.2.1; rw [alloc_sz] at this; omega
    have kc : ∀ w' : World, w'.heap[T]? = w2.heap[T]? → w'.cell? ⟨T, 0, none⟩ = some (.string ek) ∧ w'.cell? ⟨T, 1, none⟩ = some (.int .i64 es') ∧ w'.cell? ⟨T, 2, none⟩ = some (.int .i64 x0) := fun w' h => by
      refine ⟨?_, ?_, ?_⟩ <;> simp [World.cell?, h, hT2]
    have hal2 := (Below.refl w2.heap.size w2).alloc (Nat.le_refl _) (.cells #[.string ek, .int .i64 es', .int .i64 x0] 60 (0, 0))
    have hbD : w2.drew.heap[T]? = w2.heap[T]? := rfl
    have hbA : (w2.drew.alloc (.cells #[.string ek, .int .i64 es', .int .i64 x0] 60 (0, 0))).heap[T]? = w2.heap[T]? := hal2.block T hTl
    have hra : Row1 (w2.drew.alloc (.cells #[.string ek, .int .i64 es', .int .i64 x0] 60 (0, 0))) fr2 zs A2 cap2 := hr2.of hal2.size (fun b hb => hal2.block b (hr2.low b hb))
    have hcc : ∀ j u, (oneV ⟨ek, es', .int .i64 x0⟩)[j]? = some u → (w2.drew.alloc (.cells #[.string ek, .int .i64 es', .int .i64 x0] 60 (0, 0))).cell? ((⟨w2.heap.size, 0, none⟩ : Addr).add j) = some u := by
      intro j u hu
      rw [Addr.add_lit, Nat.zero_add]
      show (w2.drew.alloc _).cell? ⟨w2.drew.heap.size, j, none⟩ = _
      rw [World.cell?_alloc_mark]
      simpa [oneV] using hu
    have hfin : ∀ A' cap' w3 fr3, Row1 w3 fr3 (zs ++ [⟨ek, es', .int .i64 x0⟩]) A' cap' → Touch fr2 (w2.drew.alloc (.cells #[.string ek, .int .i64 es', .int .i64 x0] 60 (0, 0))) w3 → (∀ b ∈ fr3, b ∈ fr2 ∨ (w2.drew.alloc (.cells #[.string ek, .int .i64 es', .int .i64 x0] 60 (0, 0))).heap.size ≤ b) →
        w3.heap[rb]? = some (.cells #[.int .i64 n, .int .i64 m, blk] 37 (0, 0)) ∧ w3.heap[T]? = w2.heap[T]? ∧ StR w (w3.setCell ⟨rb, 2, none⟩ (.slice A' (zs.length + 1) cap')) fr rb n m (zs ++ [⟨ek, es', .int .i64 x0⟩]) := by
      intro A' cap' w3 fr3 hr3 ht3 hf3
      have hlt3 : rb < (w2.drew.alloc (.cells #[.string ek, .int .i64 es', .int .i64 x0] 60 (0, 0))).heap.size := Nat.lt_of_lt_of_le hlt2 hal2.size
      have hTl3 : T < (w2.drew.alloc (.cells #[.string ek, .int .i64 es', .int .i64 x0] 60 (0, 0))).heap.size := Nat.lt_of_lt_of_le hTl hal2.size
      have hblk3 := ((ht3.2.2.2.2 rb hlt3 hnf2).trans (hal2.block rb hlt2)).trans hblk
      refine ⟨hblk3, (ht3.2.2.2.2 T hTl3 hnT).trans (hal2.block T hTl), ?_⟩
      have t1 : Touch (rb :: fr) w (w.alloc (.cells #[.string ek, .int .i64 es', .int .i64 x0] 60 (0, 0))) := (Touch.refl _ _).alloc _
      have t2 := t1.trans ht2 (fun b hb => Or.inl hb)
      have t3 : Touch (rb :: fr) w (w2.drew.alloc (.cells #[.string ek, .int .i64 es', .int .i64 x0] 60 (0, 0))) := (t2.drew).alloc _
      have hf2' : ∀ b ∈ fr2, b ∈ fr ∨ w.heap.size ≤ b := fun b hb => by
        rcases hf2 b hb with h' | h'
        · exact Or.inl h'
        · rw [alloc_sz] at h'; exact Or.inr (by omega)
      have t4 : Touch (rb :: fr) w w3 := t3.trans ht3 (fun b hb => by
        rcases hf2' b hb with h' | h'
        · exact Or.inl (List.mem_cons_of_mem _ h')
        · exact Or.inr h')
      have hst := BR.store (w := w) (fr := fr) hblk3 hr3 (fun hx => by
        rcases hf3 rb hx with h' | h'
        · exact hnf2 h'
        · omega) t4 (fun b hb => by
        rcases hf3 b hb with h' | h'
        · exact hf2' b h'
        · exact Or.inr (Nat.le_trans t3.2.2.2.1 h')) 0
      rw [List.length_append, List.length_singleton] at hst
      exact hst
    have c2A : (w2.alloc (.cells #[.string ek, .int .i64 es', .int .i64 x0] 60 (0, 0))).cell? ⟨rb, 2, none⟩ = some (.slice A2 zs.length cap2) := (World.cell?_of_block (a := ⟨rb, 2, none⟩) (hal2.block rb hlt2)).trans c2
    have KC := Lib.hid kc; have HRA := Lib.hid hra; have HCC := Lib.hid hcc; have HFIN := Lib.hid hfin; have HNE := Lib.hid (fun x : T = rb => hne x); have HTT := Lib.hid hTT
    clear kc hra hcc hfin hne hnT hr2 hnf2 hlt2 hb2 ht2 hf2 hblk f2 hT2 hal2 hTl d0 d1 d2 HA HAL HLOW
    rw [hTT]
    clear hTT
    go_wp2
    refine wp_region_held_drew (S := (fun w' => w'.cell? ⟨T, 0, none⟩ = some (.string ek) ∧ w'.cell? ⟨T, 1, none⟩ = some (.int .i64 es') ∧ w'.cell? ⟨T, 2, none⟩ = some (.int .i64 x0))) (by kernel_rfl) (KC.out _ hbD) (fun hHeld => ?_)
    refine wpAnyH_take (i := 0) (v := ?_) (by simp only [List.getElem?_toArray, List.getElem?_cons_zero]; exact rfl) (by kernel_rfl) (by kernel_rfl) (by kernel_rfl) (by intro _ _ _ h; exact h) (Or.inl ⟨by rfl, fun W hSw => ?_⟩) hHeld ?_
    rotate_left
    focus ((try dsimp only at hSw); first | (go_simp; done) | (go_simp; with_reducible rfl))
    try simp only [Act.put, List.setIfInBounds_toArray, List.set_cons_zero, List.set_cons_succ]
    refine wpAnyH_take (i := 1) (v := ?_) (by simp only [List.getElem?_toArray, List.getElem?_cons_succ, List.getElem?_cons_zero]; exact rfl) (by kernel_rfl) (by kernel_rfl) (by kernel_rfl) (by intro _ _ _ h; exact h) (Or.inl ⟨by rfl, fun W hSw => ?_⟩) hHeld ?_
    rotate_left
    focus ((try dsimp only at hSw); first | (go_simp; done) | (go_simp; with_reducible rfl))
    try simp only [Act.put, List.setIfInBounds_toArray, List.set_cons_zero, List.set_cons_succ]
    refine wpAnyH_take (i := 2) (v := ?_) (by simp only [List.getElem?_toArray, List.getElem?_cons_succ, List.getElem?_cons_zero]; exact rfl) (by kernel_rfl) (by kernel_rfl) (by kernel_rfl) (by intro _ _ _ h; exact h) (Or.inl ⟨by rfl, fun W hSw => ?_⟩) hHeld ?_
    rotate_left
    focus ((try dsimp only at hSw); first | (go_simp; done) | (go_simp; with_reducible rfl))
    try simp only [Act.put, List.setIfInBounds_toArray, List.set_cons_zero, List.set_cons_succ]
    refine wpAnyH_take (i := 3) (v := ?_) (by simp only [List.getElem?_toArray, List.getElem?_cons_succ, List.getElem?_cons_zero]; exact rfl) (by kernel_rfl) (by kernel_rfl) (by kernel_rfl) (by intro _ _ _ h; exact h) (Or.inl ⟨by rfl, fun W hSw => ?_⟩) hHeld ?_
    rotate_left
    focus ((try dsimp only at hSw); first | (go_simp; done) | (go_simp; with_reducible rfl))
    try simp only [Act.put, List.setIfInBounds_toArray, List.set_cons_zero, List.set_cons_succ]
    refine wpAnyH_take (i := 5) (v := ?_) (by simp only [List.getElem?_toArray, List.getElem?_cons_succ, List.getElem?_cons_zero]; exact rfl) (by kernel_rfl) (by kernel_rfl) (by kernel_rfl) (by intro _ _ _ h; exact h) (Or.inl ⟨by rfl, fun W hSw => ?_⟩) hHeld ?_
    rotate_left
    focus ((try dsimp only at hSw); first | (go_simp; done) | (go_simp; with_reducible rfl))
    try simp only [Act.put, List.setIfInBounds_toArray, List.set_cons_zero, List.set_cons_succ]
    refine wpAnyH_ready (rs := [4, 6]) (by kernel_rfl) (by simp) (AllReadyH.cons (by simp only [List.getElem?_toArray, List.getElem?_cons_succ, List.getElem?_cons_zero]; exact rfl) (fun K hK => ?_) (AllReadyH.cons (by simp only [List.getElem?_toArray, List.getElem?_cons_succ, List.getElem?_cons_zero]; exact rfl) (fun K hK => ?_) AllReadyH.nil))
    · rw [if_pos (by rfl)]
      go_simp
      refine hK.out _ _ (KC.out _ hbD) (fun hHeld => ?_)
      clear hK K
      try simp only [Act.put, List.setIfInBounds_toArray, List.set_cons_zero, List.set_cons_succ]
      refine wpAnyH_ready (rs := [6]) (by kernel_rfl) (by simp) (AllReadyH.cons (by simp only [List.getElem?_toArray, List.getElem?_cons_succ, List.getElem?_cons_zero]; exact rfl) (fun K hK => ?_) AllReadyH.nil)
      rw [if_pos (by rfl)]
      go_simp
      refine hK.out _ _ (KC.out _ hbA) (fun hHeld => ?_)
      clear hK K
      try simp only [Act.put, List.setIfInBounds_toArray, List.set_cons_zero, List.set_cons_succ]
      refine wpAnyH_ready (rs := [7]) (by kernel_rfl) (by simp) (AllReadyH.cons (by simp only [List.getElem?_toArray, List.getElem?_cons_succ, List.getElem?_cons_zero]; exact rfl) (fun K hK => ?_) AllReadyH.nil)
      rw [if_pos (by rfl)]
      refine wp_app_ones HRA.out ⟨ek, es', .int .i64 x0⟩ rfl hnn HCC.out _ _ rfl rfl rfl ?_
      intro A' cap' w3 fr3 hr3 ht3 hf3
      obtain ⟨hblk3, hT3, hst3⟩ := HFIN.out A' cap' w3 fr3 hr3 ht3 hf3
      have c23 : w3.cell? ⟨rb, 2, none⟩ = some blk := by simp [World.cell?, hblk3]
      have f23 : w3.frozen? ⟨rb, 2, none⟩ = false := by simp [World.frozen?, hblk3]
      have HST3 := Lib.hid hst3
      clear hr3 ht3 hf3 hblk3 hst3
      refine hK.out _ _ (KC.out _ hT3) (fun hHeld => ?_)
      clear hK K
      try simp only [Act.put, List.setIfInBounds_toArray, List.set_cons_zero, List.set_cons_succ]
      refine wpAnyH_take (i := 8) (v := ?_) (by simp only [List.getElem?_toArray, List.getElem?_cons_succ, List.getElem?_cons_zero]; exact rfl) (by kernel_rfl) (by kernel_rfl) (by kernel_rfl) (by intro _ _ _ h; exact h) (Or.inl ⟨by rfl, fun W hSw => ?_⟩) hHeld ?_
      rotate_left
      focus ((try dsimp only at hSw); first | (go_simp; done) | (go_simp; with_reducible rfl))
      try simp only [Act.put, List.setIfInBounds_toArray, List.set_cons_zero, List.set_cons_succ]
      refine wpAnyH_take (i := 9) (v := ?_) (by simp only [List.getElem?_toArray, List.getElem?_cons_succ, List.getElem?_cons_zero]; exact rfl) (by kernel_rfl) (by kernel_rfl) (by kernel_rfl) (by intro _ _ _ h; exact h) (Or.inl ⟨by rfl, fun W hSw => ?_⟩) hHeld ?_
      rotate_left
      focus ((try dsimp only at hSw); first | (go_simp; done) | (go_simp; with_reducible rfl))
      try simp only [Act.put, List.setIfInBounds_toArray, List.set_cons_zero, List.set_cons_succ]
      refine wpAnyH_ready (rs := [10]) (by kernel_rfl) (by simp) (AllReadyH.cons (by simp only [List.getElem?_toArray, List.getElem?_cons_succ, List.getElem?_cons_zero]; exact rfl) (fun K hK => ?_) AllReadyH.nil)
      rw [if_pos (by rfl)]
      go_simp
      refine hK.out _ _ (KC.out _ (by rw [heap_set_ne _ _ _ _ _ (fun x => HNE.out x)]; exact hT3)) (fun hHeld => ?_)
      clear hK K
      try simp only [Act.put, List.setIfInBounds_toArray, List.set_cons_zero, List.set_cons_succ]
      refine wpAnyH_done (by kernel_rfl) ?_ _
      obtain ⟨d0, d1, d2⟩ := hHeld
      clear c23 f23
      have hst4 := HST3.out
      go_wp2
      go_ret2
      refine ⟨by unfold valE hasE; rw [HFF.out]; rfl, ?_⟩
      rw [HGE.out]
      exact hst4
    · rw [if_pos (by rfl)]
      go_simp
      refine hK.out _ _ (KC.out _ hbA) (fun hHeld => ?_)
      clear hK K
      try simp only [Act.put, List.setIfInBounds_toArray, List.set_cons_zero, List.set_cons_succ]
      refine wpAnyH_ready (rs := [4]) (by kernel_rfl) (by simp) (AllReadyH.cons (by simp only [List.getElem?_toArray, List.getElem?_cons_succ, List.getElem?_cons_zero]; exact rfl) (fun K hK => ?_) AllReadyH.nil)
      rw [if_pos (by rfl)]
      go_simp
      refine hK.out _ _ (KC.out _ hbA) (fun hHeld => ?_)
      clear hK K
      try simp only [Act.put, List.setIfInBounds_toArray, List.set_cons_zero, List.set_cons_succ]
      refine wpAnyH_ready (rs := [7]) (by kernel_rfl) (by simp) (AllReadyH.cons (by simp only [List.getElem?_toArray, List.getElem?_cons_succ, List.getElem?_cons_zero]; exact rfl) (fun K hK => ?_) AllReadyH.nil)
      rw [if_pos (by rfl)]
      refine wp_app_ones HRA.out ⟨ek, es', .int .i64 x0⟩ rfl hnn HCC.out _ _ rfl rfl rfl ?_
      intro A' cap' w3 fr3 hr3 ht3 hf3
      obtain ⟨hblk3, hT3, hst3⟩ := HFIN.out A' cap' w3 fr3 hr3 ht3 hf3
      have c23 : w3.cell? ⟨rb, 2, none⟩ = some blk := by simp [World.cell?, hblk3]
      have f23 : w3.frozen? ⟨rb, 2, none⟩ = false := by simp [World.frozen?, hblk3]
      have HST3 := Lib.hid hst3
      clear hr3 ht3 hf3 hblk3 hst3
      refine hK.out _ _ (KC.out _ hT3) (fun hHeld => ?_)
      clear hK K
      try simp only [Act.put, List.setIfInBounds_toArray, List.set_cons_zero, List.set_cons_succ]
      refine wpAnyH_take (i := 8) (v := ?_) (by simp only [List.getElem?_toArray, List.getElem?_cons_succ, List.getElem?_cons_zero]; exact rfl) (by kernel_rfl) (by kernel_rfl) (by kernel_rfl) (by intro _ _ _ h; exact h) (Or.inl ⟨by rfl, fun W hSw => ?_⟩) hHeld ?_
      rotate_left
      focus ((try dsimp only at hSw); first | (go_simp; done) | (go_simp; with_reducible rfl))
      try simp only [Act.put, List.setIfInBounds_toArray, List.set_cons_zero, List.set_cons_succ]
      refine wpAnyH_take (i := 9) (v := ?_) (by simp only [List.getElem?_toArray, List.getElem?_cons_succ, List.getElem?_cons_zero]; exact rfl) (by kernel_rfl) (by kernel_rfl) (by kernel_rfl) (by intro _ _ _ h; exact h) (Or.inl ⟨by rfl, fun W hSw => ?_⟩) hHeld ?_
      rotate_left
      focus ((try dsimp only at hSw); first | (go_simp; done) | (go_simp; with_reducible rfl))
      try simp only [Act.put, List.setIfInBounds_toArray, List.set_cons_zero, List.set_cons_succ]
      refine wpAnyH_ready (rs := [10]) (by kernel_rfl) (by simp) (AllReadyH.cons (by simp only [List.getElem?_toArray, List.getElem?_cons_succ, List.getElem?_cons_zero]; exact rfl) (fun K hK => ?_) AllReadyH.nil)
      rw [if_pos (by rfl)]
      go_simp
      refine hK.out _ _ (KC.out _ (by rw [heap_set_ne _ _ _ _ _ (fun x => HNE.out x)]; exact hT3)) (fun hHeld => ?_)
      clear hK K
      try simp only [Act.put, List.setIfInBounds_toArray, List.set_cons_zero, List.set_cons_succ]
      refine wpAnyH_done (by kernel_rfl) ?_ _
      obtain ⟨d0, d1, d2⟩ := hHeld
      clear c23 f23
      have hst4 := HST3.out
      go_wp2
      go_ret2
      refine ⟨by unfold valE hasE; rw [HFF.out]; rfl, ?_⟩
      rw [HGE.out]
      exact hst4
end Go.Proofs.Ytheblhgmfkpllaa
