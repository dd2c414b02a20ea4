/- VaryChooses: the walk of the law. -/
import Derived.Test.YtdlajobnnnmojaaDoorVaryLawA
import Derived.Test.YtdlajobnnnmojaaDoorChooseSpec
import Derived.Test.YtdlajobnnnmojaaDoorSame15
import Derived.Test.YtdlajobnnnmojaaDoorMet
import Derived.Deep.RegionHeld3
namespace Go.Proofs.YtdlajobnnnmojaaDoor
open Go.RowKit

/-- Eight cells of a block. -/
def Box8 (b : Nat) (v0 v1 v2 v3 v4 v5 v6 v7 : Value) (w : World) : Prop :=
  b < w.heap.size ∧ w.cell? ⟨b, 0, none⟩ = some v0 ∧ w.cell? ⟨b, 1, none⟩ = some v1 ∧ w.cell? ⟨b, 2, none⟩ = some v2 ∧ w.cell? ⟨b, 3, none⟩ = some v3 ∧ w.cell? ⟨b, 4, none⟩ = some v4 ∧ w.cell? ⟨b, 5, none⟩ = some v5 ∧ w.cell? ⟨b, 6, none⟩ = some v6 ∧ w.cell? ⟨b, 7, none⟩ = some v7
theorem Box8.below {b : Nat} {v0 v1 v2 v3 v4 v5 v6 v7 : Value} {w w' : World} (h : Box8 b v0 v1 v2 v3 v4 v5 v6 v7 w) (hb : Below w.heap.size w w') : Box8 b v0 v1 v2 v3 v4 v5 v6 v7 w' := by
  obtain ⟨h0, h1, h2, h3, h4, h5, h6, h7, h8⟩ := h
  exact ⟨Nat.lt_of_lt_of_le h0 hb.size, (hb.cell (p := ⟨b, 0, none⟩) h0).trans h1, (hb.cell (p := ⟨b, 1, none⟩) h0).trans h2, (hb.cell (p := ⟨b, 2, none⟩) h0).trans h3, (hb.cell (p := ⟨b, 3, none⟩) h0).trans h4, (hb.cell (p := ⟨b, 4, none⟩) h0).trans h5, (hb.cell (p := ⟨b, 5, none⟩) h0).trans h6, (hb.cell (p := ⟨b, 6, none⟩) h0).trans h7, (hb.cell (p := ⟨b, 7, none⟩) h0).trans h8⟩
theorem zero8_after {wr w5 : World} {v0 v1 v2 v3 v4 v5 v6 v7 : Value} {T : TypeId} (h : Below ((wr.alloc (.cells #[v0, v1, v2, v3, v4, v5, v6, v7] T)).drew).heap.size (wr.alloc (.cells #[v0, v1, v2, v3, v4, v5, v6, v7] T)).drew w5) :
    (w5.cell? ⟨wr.heap.size, 0, none⟩ = some v0 ∧ w5.cell? ⟨wr.heap.size, 1, none⟩ = some v1 ∧ w5.cell? ⟨wr.heap.size, 2, none⟩ = some v2 ∧ w5.cell? ⟨wr.heap.size, 3, none⟩ = some v3 ∧ w5.cell? ⟨wr.heap.size, 4, none⟩ = some v4 ∧ w5.cell? ⟨wr.heap.size, 5, none⟩ = some v5 ∧ w5.cell? ⟨wr.heap.size, 6, none⟩ = some v6 ∧ w5.cell? ⟨wr.heap.size, 7, none⟩ = some v7) ∧
    (∀ j, w5.frozen? ⟨wr.heap.size, j, none⟩ = false) ∧ w5.heap[wr.heap.size]? = some (.cells #[v0, v1, v2, v3, v4, v5, v6, v7] T (0, 0)) := by
  have hs : wr.heap.size < ((wr.alloc (.cells #[v0, v1, v2, v3, v4, v5, v6, v7] T)).drew).heap.size := by simp
  have hc : ∀ j, w5.cell? ⟨wr.heap.size, j, none⟩ = #[v0, v1, v2, v3, v4, v5, v6, v7][j]? := fun j => (h.cell (p := ⟨wr.heap.size, j, none⟩) hs).trans (World.cell?_alloc_mark wr _ _ _ j)
  refine ⟨⟨hc 0, hc 1, hc 2, hc 3, hc 4, hc 5, hc 6, hc 7⟩, fun j => ?_, (h.block _ hs).trans (heap_new wr _ _ rfl)⟩
  refine (h.frozen (p := ⟨wr.heap.size, j, none⟩) hs).trans ?_
  exact (World.frozen?_alloc_mark wr _ _ _ _ j).trans (by simp)
theorem heap_setN {w : World} {b j : Nat} {v : Value} {cs : Array Value} {T : TypeId} {m : Nat × Nat} (h : w.heap[b]? = some (.cells cs T m)) : (w.setCell ⟨b, j, none⟩ v).heap[b]? = some (.cells (cs.setIfInBounds j v) T m) := by
  simp [World.setCell, Array.getElem?_modify, h]
def set8 (w5 : World) (g : Nat) (v0 v1 v2 v3 v4 v5 v6 v7 : Value) : World := ((((((((w5.setCell ⟨g, 0, none⟩ v0).setCell ⟨g, 1, none⟩ v1).setCell ⟨g, 2, none⟩ v2).setCell ⟨g, 3, none⟩ v3).setCell ⟨g, 4, none⟩ v4).setCell ⟨g, 5, none⟩ v5).setCell ⟨g, 6, none⟩ v6).setCell ⟨g, 7, none⟩ v7)
theorem setCell_grown (w : World) (g j : Nat) (v : Value) : w.grownBy (w.setCell ⟨g, j, none⟩ v) (some g) :=
  ⟨rfl, rfl, rfl, by simp, fun k _ hne => Below.heap_setCell _ _ _ _ (by exact fun e => hne (by rw [e]))⟩
theorem set8_grown (w5 : World) (g : Nat) (v0 v1 v2 v3 v4 v5 v6 v7 : Value) : w5.grownBy (set8 w5 g v0 v1 v2 v3 v4 v5 v6 v7) (some g) := by
  have h0 := setCell_grown w5 g 0 v0
  have h1 := h0.trans (setCell_grown _ g 1 v1)
  have h2 := h1.trans (setCell_grown _ g 2 v2)
  have h3 := h2.trans (setCell_grown _ g 3 v3)
  have h4 := h3.trans (setCell_grown _ g 4 v4)
  have h5 := h4.trans (setCell_grown _ g 5 v5)
  have h6 := h5.trans (setCell_grown _ g 6 v6)
  have h7 := h6.trans (setCell_grown _ g 7 v7)
  unfold set8
  with_reducible exact h7
theorem set8_below {wr w5 : World} {g : Nat} (h : Below g wr w5) (v0 v1 v2 v3 v4 v5 v6 v7 : Value) : Below g wr (set8 w5 g v0 v1 v2 v3 v4 v5 v6 v7) := by
  unfold set8
  exact (((((((h.setCell (Nat.le_refl _) _).setCell (Nat.le_refl _) _).setCell (Nat.le_refl _) _).setCell (Nat.le_refl _) _).setCell (Nat.le_refl _) _).setCell (Nat.le_refl _) _).setCell (Nat.le_refl _) _).setCell (Nat.le_refl _) _
theorem set8_box {w5 : World} {g : Nat} {z0 z1 z2 z3 z4 z5 z6 z7 : Value} {T : TypeId} (h : w5.heap[g]? = some (.cells #[z0, z1, z2, z3, z4, z5, z6, z7] T (0, 0))) (v0 v1 v2 v3 v4 v5 v6 v7 : Value) : Box8 g v0 v1 v2 v3 v4 v5 v6 v7 (set8 w5 g v0 v1 v2 v3 v4 v5 v6 v7) := by
  have h0 := heap_setN (j := 0) (v := v0) h
  have h1 := heap_setN (j := 1) (v := v1) h0
  have h2 := heap_setN (j := 2) (v := v2) h1
  have h3 := heap_setN (j := 3) (v := v3) h2
  have h4 := heap_setN (j := 4) (v := v4) h3
  have h5 := heap_setN (j := 5) (v := v5) h4
  have h6 := heap_setN (j := 6) (v := v6) h5
  have h7 := heap_setN (j := 7) (v := v7) h6
  clear h0 h1 h2 h3 h4 h5 h6
  have e : (((((((((#[z0, z1, z2, z3, z4, z5, z6, z7] : Array Value).setIfInBounds 0 v0).setIfInBounds 1 v1).setIfInBounds 2 v2).setIfInBounds 3 v3).setIfInBounds 4 v4).setIfInBounds 5 v5).setIfInBounds 6 v6).setIfInBounds 7 v7) = #[v0, v1, v2, v3, v4, v5, v6, v7] := by simp only [List.setIfInBounds_toArray, List.set_cons_zero, List.set_cons_succ]
  rw [e] at h7
  have hs : set8 w5 g v0 v1 v2 v3 v4 v5 v6 v7 = set8 w5 g v0 v1 v2 v3 v4 v5 v6 v7 := rfl
  conv at hs => lhs; unfold set8
  rw [hs] at h7
  generalize set8 w5 g v0 v1 v2 v3 v4 v5 v6 v7 = X at *
  have hc : ∀ j, X.cell? ⟨g, j, none⟩ = #[v0, v1, v2, v3, v4, v5, v6, v7][j]? := fun j => (of_heap h7 j).1
  exact ⟨(of_heap h7 0).2.2, hc 0, hc 1, hc 2, hc 3, hc 4, hc 5, hc 6, hc 7⟩
set_option maxRecDepth 100000 in
set_option maxHeartbeats 8000000 in
theorem varyChooses_any (st : Int) (re : ByteArray) (mi : Int) (A : Option Addr) (n c : Nat) (bo : ByteArray) (xs : List Fld) (P : Option Addr) (pn pc : Nat) (as_ : List Fld) (Q : Option Addr) (qn qc : Nat) (bs : List Fld) (w : World)
    (hr : Rd A n 2 (fldsV xs) w) (hn : n ≤ 140737488355328) (hs : ∀ f ∈ xs, f.1.length ≤ 140737488355328 ∧ f.2.length ≤ 140737488355328)
    (hP : Rd P pn 2 (fldsV as_) w) (hpn : pn ≤ 140737488355328) (hps : ∀ f ∈ as_, f.1.length ≤ 140737488355328 ∧ f.2.length ≤ 140737488355328)
    (hQ : Rd Q qn 2 (fldsV bs) w) (hqn : qn ≤ 140737488355328) (hqs : ∀ f ∈ bs, f.1.length ≤ 140737488355328 ∧ f.2.length ≤ 140737488355328) :
    Calls Tryd.prog 6 #[.agg #[.int .i64 st, .string re, .int .i64 mi, .slice A n c, .string bo], .slice P pn pc, .slice Q qn qc] w fun e w' => e = .returned (.bool true) ∧ Below w.heap.size w w' := by
  obtain ⟨W0, hW0⟩ : ∃ W0, w.alloc (.cells #[.int .i64 st, .string re, .int .i64 mi, .slice A n c, .string bo] 24) = W0 := ⟨_, rfl⟩
  have hB0 : Below w.heap.size w W0 := by rw [← hW0]; exact (Below.refl w.heap.size w).alloc (Nat.le_refl _) _
  have hX0 : Box5 w.heap.size (.int .i64 st) (.string re) (.int .i64 mi) (.slice A n c) (.string bo) W0 := by rw [← hW0]; exact Box5.new _ _ _ _ _ _ _
  have k1 := fun W (hb : Below W0.heap.size W0 W) => few15_any A n c xs W ((hr.below hB0).below hb) hn hs
  have k2 := fun W (hb : Below W0.heap.size W0 W) => few15_any P pn pc as_ W ((hP.below hB0).below hb) hpn hps
  have k3 := fun W (hb : Below W0.heap.size W0 W) => few15_any Q qn qc bs W ((hQ.below hB0).below hb) hqn hqs
  have hxn := hr.fld; have hpl := hP.fld; have hql := hQ.fld
  have HXN := Lib.hid hxn; have HPL := Lib.hid hpl; have HQL := Lib.hid hql
  have HR := Lib.hid (hr.below hB0); have HP := Lib.hid (hP.below hB0); have HQ := Lib.hid (hQ.below hB0); have HW0 := Lib.hid hW0; have HX0 := Lib.hid hX0
  clear hxn hpl hql hr hP hQ hs hps hqs hn hpn hqn hW0 hX0
  have hf1 := @few15_yes xs
  have hf2 := @few15_yes as_
  have hf3 := @few15_yes bs
  generalize few15 xs = f1 at *
  generalize few15 as_ = f2 at *
  generalize few15 bs = f3 at *
  have K1 := Lib.hid k1; have K2 := Lib.hid k2; have K3 := Lib.hid k3; have HF1 := Lib.hid hf1; have HF2 := Lib.hid hf2; have HF3 := Lib.hid hf3
  clear k1 k2 k3 hf1 hf2 hf3
  have quit : ∀ w', Below W0.heap.size W0 w' → Calls Tryd.prog 9 #[] w' fun e w2 => e = .returned (.bool true) ∧ Below w.heap.size w w2 := fun w' hb => (awake15_any w').mono fun e w2 ⟨h1, h2⟩ => ⟨h1, bt (hB0.trans (hb.mono hB0.size)) h2⟩
  have QUIT := Lib.hid quit; clear quit
  have hb00 := Below.refl W0.heap.size W0
  obtain ⟨_, _, _, _, d3, _⟩ := HX0.out
  cases f1
  · go_enter Tryd.func6, Tryd.ntmps6
    go_upto_region 1 with (fail)
    rw [HW0.out]
    go_wp2_with fail
    refine (K1.out _ hb00).mono ?_
    rintro e w1 ⟨rfl, hb1⟩
    go_wp2_with fail
    refine (QUIT.out _ hb1).mono ?_
    rintro e w2 ⟨rfl, hb2⟩
    go_wp2
    go_ret
    exact ⟨rfl, hb2⟩
  · cases f2
    · go_enter Tryd.func6, Tryd.ntmps6
      go_upto_region 1 with (fail)
      rw [HW0.out]
      go_wp2_with fail
      refine (K1.out _ hb00).mono ?_
      rintro e w1 ⟨rfl, hb1⟩
      go_wp2_with fail
      refine (K2.out _ hb1).mono ?_
      rintro e w2 ⟨rfl, hb2⟩
      go_wp2_with fail
      refine (QUIT.out _ (bt hb1 hb2)).mono ?_
      rintro e w3 ⟨rfl, hb3⟩
      go_wp2
      go_ret
      exact ⟨rfl, hb3⟩
    · cases f3
      · go_enter Tryd.func6, Tryd.ntmps6
        go_upto_region 1 with (fail)
        rw [HW0.out]
        go_wp2_with fail
        refine (K1.out _ hb00).mono ?_
        rintro e w1 ⟨rfl, hb1⟩
        go_wp2_with fail
        refine (K2.out _ hb1).mono ?_
        rintro e w2 ⟨rfl, hb2⟩
        go_wp2_with fail
        refine (K3.out _ (bt hb1 hb2)).mono ?_
        rintro e w3 ⟨rfl, hb3⟩
        go_wp2_with fail
        refine (QUIT.out _ (bt (bt hb1 hb2) hb3)).mono ?_
        rintro e w4 ⟨rfl, hb4⟩
        go_wp2
        go_ret
        exact ⟨rfl, hb4⟩
      · obtain ⟨hx40, hxm⟩ := HF1.out rfl
        obtain ⟨hp40, hpm⟩ := HF2.out rfl
        obtain ⟨hq40, hqm⟩ := HF3.out rfl
        have k4 := fun W (hb : Below W0.heap.size W0 W) => vnames_any st re mi A n c bo xs W (HR.out.below hb) (by rw [HXN.out]; omega) (fun f hf => by have := hxm f hf; omega)
        have hol := optL_len xs
        have hgood := @namesO_good 1000 xs
        unfold repV at k4
        generalize namesO xs = o at *
        have K4 := Lib.hid k4; have HGOOD := Lib.hid (fun l => hgood (l := l) (fun f hf => (hxm f hf).2)); clear k4 hgood hxm
        go_enter Tryd.func6, Tryd.ntmps6
        go_upto_region 1 with (fail)
        rw [HW0.out]
        go_wp2_with fail
        refine (K1.out _ hb00).mono ?_
        rintro e w1 ⟨rfl, hb1⟩
        go_wp2_with fail
        refine (K2.out _ hb1).mono ?_
        rintro e w2 ⟨rfl, hb2⟩
        go_wp2_with fail
        refine (K3.out _ (bt hb1 hb2)).mono ?_
        rintro e w3 ⟨rfl, hb3'⟩
        have hb3 := bt (bt hb1 hb2) hb3'
        clear hb1 hb2 hb3' d3
        obtain ⟨_, e0, e1, e2, e3, e4⟩ := HX0.out.below hb3
        go_wp2_with fail
        clear e0 e1 e2 e3 e4
        refine (K4.out _ hb3).mono ?_
        rintro e w4 ⟨a4, c4, rfl, ho4, hb4'⟩
        have hb4 := bt hb3 hb4'
        clear hb3 hb4'
        cases o with
        | none =>
          go_wp2_with fail
          refine (QUIT.out _ hb4).mono ?_
          rintro e w5 ⟨rfl, hb5⟩
          go_wp2
          go_ret
          exact ⟨rfl, hb5⟩
        | some l =>
          rw [show optL (some l) = l from rfl]
          have hol' : l.length ≤ 2560 := by have : l.length ≤ 64 * xs.length := hol; omega
          have hgd := HGOOD.out l rfl
          have HGD := Lib.hid hgd
          have HL := Lib.hid (show Rd a4 l.length 1 (strsV l) w4 from ho4.rd.2)
          clear ho4 hol hgd HGOOD K1 K2 K3 K4 HF1 HF2 HF3
          show_term skip
          have hb44 := Below.refl w4.heap.size w4
          have HX4 := Lib.hid (HX0.out.below hb4)
          go_wp2_with fail
          go_loopw [9] (fun i wr => ∃ k : Nat, k ≤ l.length ∧ i = .int .i64 k ∧ Below w4.heap.size w4 wr) (fun i _ => l.length - (intOf i).toNat)
          case atStart => exact ⟨0, Nat.zero_le _, rfl, hb44⟩
          case round =>
            clear hb44
            obtain ⟨k, hk, rfl, hbr⟩ := hrel
            by_cases hlt : k < l.length
            · obtain ⟨b, o, rfl, hl, c0⟩ := HL.out.str_at (k := k) hlt
              have hg := HGD.out l[k] (List.getElem_mem _)
              generalize l[k] = x at *
              obtain ⟨htk, hst⟩ := goodN_is hg
              have hlow := hg.2.1
              have hxl := hg.2.2
              have k5 := fun w => token_any ⟨x.toArray⟩ w (by rw [Lib.size_eq]; show x.length ≤ _; omega)
              have k6 := fun w => lower_any ⟨x.toArray⟩ w (by rw [Lib.size_eq]; show x.length ≤ _; omega)
              simp only at k5 k6
              rw [htk] at k5
              rw [hlow] at k6
              have kc : ∀ w', Below w4.heap.size w4 w' → w'.cell? ⟨b, o + k, none⟩ = some (.string ⟨x.toArray⟩) ∧ Below w4.heap.size w4 w' := fun w' h => ⟨(h.cell (p := ⟨b, o + k, none⟩) hl).trans c0, h⟩
              have KC := Lib.hid kc; have K5 := Lib.hid k5; have K6 := Lib.hid k6
              clear kc k5 k6 hg hlow htk c0
              go_wp2_with fail
              go_region_held3 (fun w' => w'.cell? ⟨b, o + k, none⟩ = some (.string ⟨x.toArray⟩) ∧ Below w4.heap.size w4 w') (first | exact KC.out _ hbr | exact KC.out _ hbr.drew | exact KC.out _ hb5 | exact KC.out _ hb6) (first | (go_at_call 21; obtain ⟨_, hb5⟩ := ‹_ ∧ Below w4.heap.size w4 _›; refine (K5.out _).mono ?_; rintro e w5 ⟨rfl, rfl⟩) | (go_at_call 22; refine (K6.out _).mono ?_; rintro e w6 ⟨rfl, h6⟩; have hb6 := bt hb5 h6) | fail)
              go_wp2
              go_roundw
              case rel => exact ⟨k + 1, by omega, by go_num, hb6⟩
              case measure => simp [intOf]; omega
            · have hbr0 : Below W0.heap.size W0 wr := bt hb4 hbr
              have HLr := Lib.hid (HL.out.below hbr)
              obtain ⟨_, e0, e1, e2, e3, e4⟩ := HX4.out.below hbr
              have k7 := fun W (hb : Below wr.heap.size wr W) => select_any a4 l.length c4 l P pn pc as_ W (HLr.out.below hb) (by omega) (fun x hx => by have := (HGD.out x hx).2.2; omega) ((HP.out.below hbr0).below hb) (by rw [HPL.out]; omega) (fun f hf => by have := hpm f hf; omega)
              have k8 := fun W (hb : Below wr.heap.size wr W) => select_any a4 l.length c4 l Q qn qc bs W (HLr.out.below hb) (by omega) (fun x hx => by have := (HGD.out x hx).2.2; omega) ((HQ.out.below hbr0).below hb) (by rw [HQL.out]; omega) (fun f hf => by have := hqm f hf; omega)
              have hself := choose_self l as_
              have hother := choose_other as_ bs l
              have hsl : (selectL l as_).length = l.length := by unfold selectL; rw [List.length_map]
              have hsl2 : (selectL l bs).length = l.length := by unfold selectL; rw [List.length_map]
              have hsn : ∀ f ∈ selectL l as_, f.1.length ≤ 1000000 := by
                intro f hf
                unfold selectL at hf
                obtain ⟨x, hx, e⟩ := List.mem_map.1 hf
                rw [← e]
                have := (HGD.out x hx).2.2
                show x.length ≤ _
                omega
              generalize selectL l as_ = sa at *
              generalize selectL l bs = sb at *
              have K7 := Lib.hid k7; have K8 := Lib.hid k8; have HSELF := Lib.hid hself; have HOTHER := Lib.hid hother; have HSL := Lib.hid hsl; have HSL2 := Lib.hid hsl2; have HSN := Lib.hid hsn
              have HX4r := Lib.hid (HX4.out.below hbr)
              clear k7 k8 hself hother hsl hsl2 hsn
              have kc : ∀ w', Below wr.heap.size wr w' → w'.cell? ⟨w.heap.size, 0, none⟩ = some (.int .i64 st) ∧ w'.cell? ⟨w.heap.size, 1, none⟩ = some (.string re) ∧ w'.cell? ⟨w.heap.size, 2, none⟩ = some (.int .i64 mi) ∧ w'.cell? ⟨w.heap.size, 3, none⟩ = some (.slice A n c) ∧ w'.cell? ⟨w.heap.size, 4, none⟩ = some (.string bo) ∧ Below wr.heap.size wr w' := fun w' h => by
                obtain ⟨_, e0, e1, e2, e3, e4⟩ := HX4r.out.below h
                exact ⟨e0, e1, e2, e3, e4, h⟩
              have KC := Lib.hid kc; clear kc e0 e1 e2 e3 e4
              have hbrr := Below.refl wr.heap.size wr
              have hbz := (hbrr.alloc (Nat.le_refl _) (.cells #[.int .i64 0, .string ⟨#[]⟩, .int .i64 0, .slice none 0 0, .string ⟨#[]⟩, .int .i64 0, .int .i64 0, .slice none 0 0] 33)).drew
              have hbzs : wr.heap.size < (wr.alloc (.cells #[.int .i64 0, .string ⟨#[]⟩, .int .i64 0, .slice none 0 0, .string ⟨#[]⟩, .int .i64 0, .int .i64 0, .slice none 0 0] 33)).drew.heap.size := by simp
              go_upto_region 11 with (fail)
              go_cut [10] (fun s10 wx => ∃ (g : Nat) (a5 : Option Addr) (c5 : Nat), s10 = .pointer (some ⟨g, 0, none⟩) ∧ Hid (Box8 g (.int .i64 st) (.string re) (.int .i64 mi) (.slice A n c) (.string bo) (.int .i64 0) (.int .i64 0) (.slice a5 sa.length c5) wx ∧ Rd a5 sa.length 2 (fldsV sa) wx) ∧ Below wr.heap.size wr wx)
              case first =>
                go_region_held3 (fun w' => w'.cell? ⟨w.heap.size, 0, none⟩ = some (.int .i64 st) ∧ w'.cell? ⟨w.heap.size, 1, none⟩ = some (.string re) ∧ w'.cell? ⟨w.heap.size, 2, none⟩ = some (.int .i64 mi) ∧ w'.cell? ⟨w.heap.size, 3, none⟩ = some (.slice A n c) ∧ w'.cell? ⟨w.heap.size, 4, none⟩ = some (.string bo) ∧ Below wr.heap.size wr w') (first | with_reducible exact KC.out _ hbrr | with_reducible exact KC.out _ hbrr.drew | with_reducible exact KC.out _ hb5 | with_reducible exact KC.out _ hb5.drew | with_reducible exact KC.out _ (hb5.alloc hb5.size _) | with_reducible exact KC.out _ hbz | (have hbs := KC.out _ (set8_below hb5 (.int .i64 st) (.string re) (.int .i64 mi) (.slice A n c) (.string bo) (.int .i64 0) (.int .i64 0) (.slice a5 sa.length c5)); unfold set8 at hbs; with_reducible exact hbs) | fail) (first | (go_at_call 14; (with_reducible refine (K7.out wr.drew hbrr.drew).mono ?_); rintro e w5 ⟨a5, c5, rfl, ho5, h5⟩; have hb5 := hbrr.drew.trans (h5.mono (Nat.le_refl _))) | (go_at_call 14; (with_reducible refine (K7.out (wr.alloc (.cells #[.int .i64 0, .string ⟨#[]⟩, .int .i64 0, .slice none 0 0, .string ⟨#[]⟩, .int .i64 0, .int .i64 0, .slice none 0 0] 33)).drew hbz).mono ?_); rintro e w5 ⟨a5, c5, rfl, ho5, h5⟩; have hb5 := hbz.trans (h5.mono hbz.size); obtain ⟨⟨z0, z1, z2, z3, z4, z5, z6, z7⟩, zf, zs⟩ := zero8_after h5; have y0 := zf 0; have y1 := zf 1; have y2 := zf 2; have y3 := zf 3; have y4 := zf 4; have y5 := zf 5; have y6 := zf 6; have y7 := zf 7; have ZS := Lib.hid zs; clear zf zs) | fail)
                · go_wp2
                  go_meet
                  refine ⟨w5.heap.size, a5, c5, rfl, Lib.hid ⟨⟨by simp, World.cell?_alloc_mark w5 _ _ _ 0, World.cell?_alloc_mark w5 _ _ _ 1, World.cell?_alloc_mark w5 _ _ _ 2, World.cell?_alloc_mark w5 _ _ _ 3, World.cell?_alloc_mark w5 _ _ _ 4, World.cell?_alloc_mark w5 _ _ _ 5, World.cell?_alloc_mark w5 _ _ _ 6, World.cell?_alloc_mark w5 _ _ _ 7⟩, ?_⟩, hb5.alloc hb5.size _⟩
                  exact ho5.rd.2.below ((Below.refl _ w5).alloc (Nat.le_refl _) _)
                · go_wp2
                  go_meet
                  have h1 := set8_box ZS.out (.int .i64 st) (.string re) (.int .i64 mi) (.slice A n c) (.string bo) (.int .i64 0) (.int .i64 0) (.slice a5 sa.length c5)
                  have h2 := set8_below hb5 (.int .i64 st) (.string re) (.int .i64 mi) (.slice A n c) (.string bo) (.int .i64 0) (.int .i64 0) (.slice a5 sa.length c5)
                  have h3 := ho5.rd.2.grown (set8_grown w5 wr.heap.size (.int .i64 st) (.string re) (.int .i64 mi) (.slice A n c) (.string bo) (.int .i64 0) (.int .i64 0) (.slice a5 sa.length c5)) (by
                    intro _ g o e x
                    have h9 := own_new ho5 g o e
                    have ex := Option.some.inj x
                    rw [← ex] at h9
                    exact absurd (Nat.lt_of_lt_of_le hbzs h9) (Nat.lt_irrefl _))
                  unfold set8 at h1 h2 h3
                  exact ⟨wr.heap.size, a5, c5, rfl, Lib.hid ⟨h1, h3⟩, h2⟩
              case rest =>
                obtain ⟨g, a5, c5, rfl, HC, hbc⟩ := hcut
                have hbc0 := bt hbr0 hbc
                have k9 := fun (bb : List Fld) (B : Option Addr) (m d : Nat) W (hb : Below wc.heap.size wc W) (hB : Rd B m 2 (fldsV bb) W) (hm : m ≤ 1000) (hbb : ∀ f ∈ bb, f.1.length ≤ 1000 ∧ f.2.length ≤ 1000) => matches_any st re mi A n c bo 0 0 a5 sa.length c5 sa B m d bb W (HC.out.2.below hb) (by rw [HSL.out]; omega) HSN.out hB hm (fun f hf => by have := hbb f hf; omega)
                have k10 := fun W (hb : Below wc.heap.size wc W) => k9 as_ P pn pc W hb (((HP.out.below hbr0).below hbc).below hb) (by rw [HPL.out]; omega) hpm
                have k11 := fun W (hb : Below wc.heap.size wc W) => k9 bs Q qn qc W hb (((HQ.out.below hbr0).below hbc).below hb) (by rw [HQL.out]; omega) hqm
                unfold entV at k10 k11
                rw [HSELF.out] at k10
                rw [HOTHER.out] at k11
                have k12 : ∀ (b5 : Option Addr) (d5 : Nat) (W : World), Below wc.heap.size wc W → Rd b5 sb.length 2 (fldsV sb) W → Calls Tryd.prog 23 #[.slice a5 sa.length c5, .slice b5 sb.length d5] W fun e w' => e = .returned (.bool (sa == sb)) ∧ Below W.heap.size W w' :=
                  fun b5 d5 W hb h => same15_any a5 _ c5 sa b5 _ d5 sb W (HC.out.2.below hb) h (by rw [HSL.out]; omega) (by rw [HSL2.out]; omega)
                have k8' := fun W (hb : Below wc.heap.size wc W) => K8.out W (bt hbc hb)
                generalize (sa == sb) = t at *
                have kc2 : ∀ w', Below wc.heap.size wc w' → w'.cell? ⟨g, 0, none⟩ = some (.int .i64 st) ∧ w'.cell? ⟨g, 1, none⟩ = some (.string re) ∧ w'.cell? ⟨g, 2, none⟩ = some (.int .i64 mi) ∧ w'.cell? ⟨g, 3, none⟩ = some (.slice A n c) ∧ w'.cell? ⟨g, 4, none⟩ = some (.string bo) ∧ w'.cell? ⟨g, 5, none⟩ = some (.int .i64 0) ∧ w'.cell? ⟨g, 6, none⟩ = some (.int .i64 0) ∧ w'.cell? ⟨g, 7, none⟩ = some (.slice a5 sa.length c5) ∧ Below wc.heap.size wc w' := fun w' h => by
                  obtain ⟨_, e0, e1, e2, e3, e4, e5, e6, e7⟩ := HC.out.1.below h
                  exact ⟨e0, e1, e2, e3, e4, e5, e6, e7, h⟩
                have KC2 := Lib.hid kc2; have K10 := Lib.hid k10; have K11 := Lib.hid k11; have K12 := Lib.hid k12; have K8' := Lib.hid k8'
                have tl : ((sa.length : Int) != (l.length : Int)) = false := by rw [HSL.out]; simp
                clear kc2 k9 k10 k11 k12 k8' KC K7 K8 HSELF HOTHER hbz
                have hcc := Below.refl wc.heap.size wc
                obtain ⟨e0, e1, e2, e3, e4, e5, e6, e7, _⟩ := KC2.out _ hcc
                go_wp2_with fail
                refine (K10.out _ hcc).mono ?_
                rintro e w6 ⟨rfl, hb6⟩
                clear e0 e1 e2 e3 e4 e5 e6 e7 tl
                go_wp2_with fail
                go_region_held3 (fun w' => w'.cell? ⟨g, 0, none⟩ = some (.int .i64 st) ∧ w'.cell? ⟨g, 1, none⟩ = some (.string re) ∧ w'.cell? ⟨g, 2, none⟩ = some (.int .i64 mi) ∧ w'.cell? ⟨g, 3, none⟩ = some (.slice A n c) ∧ w'.cell? ⟨g, 4, none⟩ = some (.string bo) ∧ w'.cell? ⟨g, 5, none⟩ = some (.int .i64 0) ∧ w'.cell? ⟨g, 6, none⟩ = some (.int .i64 0) ∧ w'.cell? ⟨g, 7, none⟩ = some (.slice a5 sa.length c5) ∧ Below wc.heap.size wc w') (first | with_reducible exact KC2.out _ hb6 | with_reducible exact KC2.out _ hb6.drew | with_reducible exact KC2.out _ hb7 | with_reducible exact KC2.out _ hb7.drew | with_reducible exact KC2.out _ hb8 | with_reducible exact KC2.out _ hb9 | with_reducible exact KC2.out _ hb10 | fail) (first | (go_at_call 16; (with_reducible refine (K11.out w6.drew hb6.drew).mono ?_); rintro e w7 ⟨rfl, h7⟩; have hb7 := bt hb6.drew h7) | (go_at_call 14; (with_reducible refine (K8'.out w7 hb7).mono ?_); rintro e w8 ⟨a8, c8, rfl, ho8, h8⟩; have hb8 := bt hb7 h8) | (go_at_call 23; (with_reducible refine (K12.out _ _ w8 hb8 ho8.rd.2).mono ?_); rintro e w9 ⟨rfl, h9⟩; have hb9 := bt hb8 h9) | (go_at_call 9; (with_reducible refine (awake15_any w9).mono ?_); rintro e w10 ⟨rfl, h10⟩; have hb10 := bt hb9 h10) | fail)
                go_wp2
                go_ret
                exact ⟨by simp, hB0.trans ((bt hbc0 hb10).mono hB0.size)⟩
end Go.Proofs.YtdlajobnnnmojaaDoor
