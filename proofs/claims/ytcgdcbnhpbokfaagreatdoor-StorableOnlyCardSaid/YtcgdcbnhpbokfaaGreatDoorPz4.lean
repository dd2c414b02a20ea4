/- Joined out of the texts Fresh2, Fresh3, FreshLife, Fresh4, EtagP, Met, Names, Stor1, Stor2, StorMay, Entry13, Is13, Awake13, Few13, Few16, Open, OpenV, OpenRep, TabOf, DEnv, Date9, DateP, RWalk1 (wip/tools/dce.py). -/
import Derived.Test.YtcgdcbnhpbokfaaGreatDoorPz3
import Derived.Laws.EntriesVeiled
import Derived.Deep.RegionHeld3
import Derived.WalkMore
import Derived.Maps.Own
import Derived.Maps.OwnOps
import Derived.Maps.OwnSet
import Derived.Maps.Views
import Derived.Maps.StringElems
import Derived.Deep.RegionLaw
import Derived.BigRegion
import Derived.IntWalk
import Derived.Lib.LaidU8
import Derived.MakeChecks
/- The walks of layer 13's rules. -/
namespace Go.Proofs.YtcgdcbnhpbokfaaGreatDoor
open Go.RowKit
set_option maxRecDepth 100000

set_option maxHeartbeats 4000000 in
theorem surrogate_any (st mi asked got : Int) (re bo : ByteArray) (A V : Option Addr) (n c m d : Nat) (xs : List Fld) (dev : ByteArray) (w : World) (hM : MaxL w) (hr : Rd A n 2 (fldsV xs) w) (hn : n ≤ 1000) (hs : sumF xs ≤ 800000) :
    Calls Tryz.prog 55 #[entV st re mi A n c bo asked got V m d, .string dev] w fun e w' => e = .returned (.tuple #[.int .i64 (surF xs dev.data.toList).1, .bool (surF xs dev.data.toList).2]) ∧ Below w.heap.size w w' := by
  obtain ⟨W1, hW1⟩ : ∃ W1, w.alloc (.cells #[.int .i64 st, .string re, .int .i64 mi, .slice A n c, .string bo, .int .i64 asked, .int .i64 got, .slice V m d] 30) = W1 := ⟨_, rfl⟩
  have b1 : Below w.heap.size w W1 := by rw [← hW1]; exact (Below.refl w.heap.size w).alloc (Nat.le_refl _) _
  have x1 : W1.heap[w.heap.size]? = some (.cells #[.int .i64 st, .string re, .int .i64 mi, .slice A n c, .string bo, .int .i64 asked, .int .i64 got, .slice V m d] 30 (0, 0)) := by rw [← hW1]; exact heap_new w _ _ rfl
  have k1 := control_any st mi asked got re bo A V n c m d xs dev W1 (hM.below b1) (hr.below b1) hn hs
  unfold surF
  generalize ctlF xs dev.data.toList = k at *
  obtain ⟨a, b, e, h, ag, ex⟩ := k
  unfold ctlV at k1
  simp only at k1 ⊢
  have k2 := fun W => of_any ag W
  have c0 := (of_heap x1 0).1; have c1 := (of_heap x1 1).1; have c2 := (of_heap x1 2).1; have c3 := (of_heap x1 3).1; have c4 := (of_heap x1 4).1; have c5 := (of_heap x1 5).1; have c6 := (of_heap x1 6).1; have c7 := (of_heap x1 7).1
  simp only [List.getElem?_toArray, List.getElem?_cons_succ, List.getElem?_cons_zero] at c0 c1 c2 c3 c4 c5 c6 c7
  have K1 := Lib.hid k1; have K2 := Lib.hid k2; have HW1 := Lib.hid hW1; have B1 := Lib.hid b1
  clear k1 k2 hr hs hM hW1 b1 x1
  unfold entV at *
  go_enter Tryz.func55, Tryz.ntmps55
  go_wp2_with fail
  rw [HW1.out]
  (with_reducible refine K1.out.mono ?_)
  rintro e1 w1 ⟨rfl, hb1⟩
  obtain ⟨W2, hW2⟩ : ∃ W2, w1.alloc (.cells #[.bool a, .bool b, .bool e, .bool h, .int .i64 ag, .int .i64 ex] 88) = W2 := ⟨_, rfl⟩
  have b2 : Below w1.heap.size w1 W2 := by rw [← hW2]; exact (Below.refl w1.heap.size w1).alloc (Nat.le_refl _) _
  have x2 : W2.heap[w1.heap.size]? = some (.cells #[.bool a, .bool b, .bool e, .bool h, .int .i64 ag, .int .i64 ex] 88 (0, 0)) := by rw [← hW2]; exact heap_new w1 _ _ rfl
  have d3 := (of_heap x2 3).1; have d4 := (of_heap x2 4).1
  simp only [List.getElem?_toArray, List.getElem?_cons_succ, List.getElem?_cons_zero] at d3 d4
  have HB := Lib.hid (bt (bt B1.out hb1) b2); have HW2 := Lib.hid hW2
  clear hb1 b2 hW2 x2 K1 B1 c0 c1 c2 c3 c4 c5 c6 c7 HW1
  go_upto_region 2 with (fail)
  rw [HW2.out]
  go_quiet (first | (go_at_call 112; with_reducible exact (K2.out _).mono (fun _ _ ⟨h1, h2⟩ => ⟨h1, _, h2.symm⟩)))
  go_wp2
  go_ret2
  exact ⟨rfl, Go.below_drewN HB.out _⟩

theorem named_any (nm : ByteArray) (none : Bool) (w : World) :
    Calls Tryz.prog 56 #[.string nm, .bool none] w fun e w' => e = .returned (.agg #[.func (.func 113) #[] #[.pointer (some ⟨w.heap.size, 0, .none⟩), .pointer (some ⟨w.heap.size + 1, 0, .none⟩)]]) ∧ w'.cell? ⟨w.heap.size, 0, .none⟩ = some (.string nm) ∧ w'.cell? ⟨w.heap.size + 1, 0, .none⟩ = some (.bool none) ∧ w.heap.size + 1 < w'.heap.size ∧ Below w.heap.size w w' := by
  go_enter Tryz.func56, Tryz.ntmps56
  obtain ⟨W1, hW1⟩ : ∃ W1, w.alloc (.cells #[.string nm] 9) = W1 := ⟨_, rfl⟩
  have b1 : Below w.heap.size w W1 := by rw [← hW1]; exact (Below.refl w.heap.size w).alloc (Nat.le_refl _) _
  have z1 : W1.heap.size = w.heap.size + 1 := by rw [← hW1]; simp
  have c1 : W1.cell? ⟨w.heap.size, 0, .none⟩ = some (.string nm) := by rw [← hW1]; exact World.cell?_alloc_mark w _ _ _ 0
  obtain ⟨W2, hW2⟩ : ∃ W2, W1.alloc (.cells #[.bool none] 4) = W2 := ⟨_, rfl⟩
  have b2 : Below W1.heap.size W1 W2 := by rw [← hW2]; exact (Below.refl W1.heap.size W1).alloc (Nat.le_refl _) _
  have z2 : W2.heap.size = w.heap.size + 2 := by rw [← hW2]; simp [z1]
  have c2 : W2.cell? ⟨w.heap.size + 1, 0, .none⟩ = some (.bool none) := by rw [← hW2, ← z1]; exact World.cell?_alloc_mark W1 _ _ _ 0
  have b3 := (Below.refl W2.heap.size W2).alloc (Nat.le_refl _) (.cells #[.func (.func 113) #[] #[.pointer (some ⟨w.heap.size, 0, .none⟩), .pointer (some ⟨w.heap.size + 1, 0, .none⟩)]] 78)
  have d1 := (b3.cell (p := ⟨w.heap.size, 0, .none⟩) (by show w.heap.size < _; omega)).trans ((b2.cell (p := ⟨w.heap.size, 0, .none⟩) (by show w.heap.size < _; omega)).trans c1)
  have d2 := (b3.cell (p := ⟨w.heap.size + 1, 0, .none⟩) (by show w.heap.size + 1 < _; omega)).trans c2
  have d3 := b3.size
  have HW1 := Lib.hid hW1; have HW2 := Lib.hid hW2; have HB := Lib.hid (bt (bt b1 b2) b3)
  have D1 := Lib.hid d1; have D2 := Lib.hid d2; have Z2 := Lib.hid z2; have D3 := Lib.hid d3
  clear hW1 hW2 b1 b2 b3 c1 c2 d1 d2 z1 z2 d3
  go_wp2_with fail
  rw [HW1.out, HW2.out]
  refine bodyPost_ret_by (v := .agg #[.func (.func 113) #[] #[.pointer (some ⟨w.heap.size, 0, .none⟩), .pointer (some ⟨w.heap.size + 1, 0, .none⟩)]]) ?_ rfl ?_
  · rw [results_cell_one rfl]
    rw [← HW2.out, ← HW1.out]
    go_simp
  · exact ⟨rfl, D1.out, D2.out, by have := Z2.out; have := D3.out; omega, HB.out⟩

set_option maxHeartbeats 8000000 in
theorem rule_any (N B : Nat) (nm : List UInt8) (none : Bool) (st mi asked got : Int) (re bo : ByteArray) (A V : Option Addr) (n c m d : Nat) (xs : List Fld) (dev : ByteArray) (w : World) (hM : MaxL w) (hr : Rd A n 2 (fldsV xs) w) (hn : n ≤ 1000) (hs : sumF xs ≤ 800000) (hnm : nm.length ≤ 100)
    (hN : w.cell? ⟨N, 0, .none⟩ = some (.string ⟨nm.toArray⟩)) (hB : w.cell? ⟨B, 0, .none⟩ = some (.bool none)) (hNl : N < w.heap.size) (hBl : B < w.heap.size) :
    Calls Tryz.prog 113 #[entV st re mi A n c bo asked got V m d, .string dev, .pointer (some ⟨N, 0, .none⟩), .pointer (some ⟨B, 0, .none⟩)] w fun e w' => e = .returned (.tuple #[.int .i64 (ruleF none nm xs).1, .bool (ruleF none nm xs).2]) ∧ Below w.heap.size w w' := by
  obtain ⟨W1, hW1⟩ : ∃ W1, w.alloc (.cells #[.int .i64 st, .string re, .int .i64 mi, .slice A n c, .string bo, .int .i64 asked, .int .i64 got, .slice V m d] 30) = W1 := ⟨_, rfl⟩
  have b1 : Below w.heap.size w W1 := by rw [← hW1]; exact (Below.refl w.heap.size w).alloc (Nat.le_refl _) _
  have x1 : W1.heap[w.heap.size]? = some (.cells #[.int .i64 st, .string re, .int .i64 mi, .slice A n c, .string bo, .int .i64 asked, .int .i64 got, .slice V m d] 30 (0, 0)) := by rw [← hW1]; exact heap_new w _ _ rfl
  have k1 := fun W (hb : Below W1.heap.size W1 W) => values_any A n c xs ⟨#[99, 97, 99, 104, 101, 45, 99, 111, 110, 116, 114, 111, 108]⟩ W (hr.below (bt b1 hb)) (by omega) (fun f hf => by have := sumF_mem hf; omega) (by decide)
  have hvl := valuesL_le xs fCC
  have hvm : ∀ v ∈ valuesL xs fCC, v.length ≤ 900000 := fun v hv => by have := valuesL_sum hv; omega
  rw [show (⟨#[99, 97, 99, 104, 101, 45, 99, 111, 110, 116, 114, 111, 108]⟩ : ByteArray).data.toList = fCC from rfl] at k1
  have k2 := fun W (hb : Below w.heap.size w W) a c' (h : Rd a (valuesL xs fCC).length 1 (strsV (valuesL xs fCC)) W) => dlist_any a (valuesL xs fCC).length c' (valuesL xs fCC) W (hM.below hb) h (by have := hr.fld; omega) (fun v hv => by have := hvm v hv; omega)
  have hgd := dlist_lens (B := 900000) hvm
  have hfw := dlistL_few (valuesL xs fCC)
  have hfl := hr.fld
  have hrf : ruleF none nm xs = match findO (dlistL (valuesL xs fCC)) nm with | some d => (bif none then 0 else numF d.value, true) | Option.none => (0, false) := rfl
  rw [hrf]
  clear hrf
  have hvd : ∀ d, findO (dlistL (valuesL xs fCC)) nm = some d → d.value.length ≤ 1000000 := fun d hd => by have := (hgd d (List.mem_of_find?_eq_some hd)).2; omega
  have hcap : (dlistL (valuesL xs fCC)).length ≤ 1000000 := by omega
  have hnd : ∀ d ∈ dlistL (valuesL xs fCC), d.name.length ≤ 140737488351232 := fun d hd => by have := (hgd d hd).1; omega
  generalize dlistL (valuesL xs fCC) = ds at *
  have k3 := fun W a c' (h : Rd a ds.length 4 (dirsV ds) W) => find_any a ds.length c' ds ⟨nm.toArray⟩ W h hcap hnd (by rw [Lib.size_eq]; show nm.length ≤ _; omega)
  simp only at k3
  have k4 := fun (d : Dir) (hd : findO ds nm = some d) W => number_any ⟨d.value.toArray⟩ W (by rw [Lib.size_eq]; exact hvd d hd)
  have x3 := (of_heap x1 3).1
  have hEl := (of_heap x1 3).2.2
  simp only [List.getElem?_toArray, List.getElem?_cons_succ, List.getElem?_cons_zero] at x3
  have n1 := (b1.cell (p := ⟨N, 0, .none⟩) hNl).trans hN
  have n2 := (b1.cell (p := ⟨B, 0, .none⟩) hBl).trans hB
  have hNl1 := Nat.lt_of_lt_of_le hNl b1.size
  have hBl1 := Nat.lt_of_lt_of_le hBl b1.size
  generalize valuesL xs fCC = vs at *
  generalize findO ds nm = o at *
  have HW1 := Lib.hid hW1; have K1 := Lib.hid k1; have K2 := Lib.hid k2; have K3 := Lib.hid k3; have K4 := Lib.hid k4; have B1 := Lib.hid b1
  clear hW1 k1 k2 k3 k4 x1 hr hs hM b1 hvl hvm hN hB hgd hfw hfl hvd hcap hnd
  unfold entV
  have kc : ∀ w', Below W1.heap.size W1 w' → w'.cell? ⟨w.heap.size, 3, .none⟩ = some (.slice A n c) ∧ w'.cell? ⟨N, 0, .none⟩ = some (.string ⟨nm.toArray⟩) ∧ Below W1.heap.size W1 w' := fun w' hb => ⟨(hb.cell (p := ⟨w.heap.size, 3, .none⟩) hEl).trans x3, (hb.cell (p := ⟨N, 0, .none⟩) hNl1).trans n1, hb⟩
  have KC := Lib.hid kc
  have hd0 : Below W1.heap.size W1 W1.drew := (Below.refl _ _).drew
  clear kc
  go_enter Tryz.func113, Tryz.ntmps113
  go_upto_region 1 with (fail)
  rw [HW1.out]
  go_wp2_with fail
  unfold saidV at *
  cases o with
  | none =>
    simp only at K3
    have k7 := fun W => number_any ⟨#[]⟩ W (by decide)
    have hn0 : numF (⟨#[]⟩ : ByteArray).data.toList = 0 := rfl
    rw [hn0] at k7
    have K7 := Lib.hid k7
    clear k7 K4
    refine wp_region_held_drew (S := (fun w' => w'.cell? ⟨w.heap.size, 3, .none⟩ = some (.slice A n c) ∧ w'.cell? ⟨N, 0, .none⟩ = some (.string ⟨nm.toArray⟩) ∧ Below W1.heap.size W1 w')) (by kernel_rfl) (KC.out _ hd0) (fun hHeld => ?_)
    refine tkS 0 hHeld ?_
    try simp only [Act.put, ps1, ps2, ps3]
    refine tkS 1 hHeld ?_
    try simp only [Act.put, ps1, ps2, ps3]
    refine tkS 2 hHeld ?_
    try simp only [Act.put, ps1, ps2, ps3]
    refine tkS 5 hHeld ?_
    try simp only [Act.put, ps1, ps2, ps3]
    refine wpAnyH_ready (rs := [3, 10]) (by kernel_rfl) (by simp) (AllReadyH.cons (by simp only [List.getElem?_toArray, List.getElem?_cons_succ, List.getElem?_cons_zero]; exact rfl) (fun K hK => ?_) (AllReadyH.cons (by simp only [List.getElem?_toArray, List.getElem?_cons_succ, List.getElem?_cons_zero]; exact rfl) (fun K hK => ?_) AllReadyH.nil))
    · rw [if_pos (by rfl)]
      go_simp
      (with_reducible refine (K1.out _ hd0).mono ?_)
      rintro e w1 ⟨a1, c1, rfl, ho1, hb1⟩
      have hd1 := bt hd0 hb1
      have ho1 := ho1.rd.2
      go_wp2_with fail
      refine hK.out _ _ (KC.out _ hd1) (fun hHeld => ?_)
      clear hK K
      try simp only [Act.put, ps1, ps2, ps3]
      refine wpAnyH_ready (rs := [4, 10]) (by kernel_rfl) (by simp) (AllReadyH.cons (by simp only [List.getElem?_toArray, List.getElem?_cons_succ, List.getElem?_cons_zero]; exact rfl) (fun K hK => ?_) (AllReadyH.cons (by simp only [List.getElem?_toArray, List.getElem?_cons_succ, List.getElem?_cons_zero]; exact rfl) (fun K hK => ?_) AllReadyH.nil))
      · rw [if_pos (by rfl)]
        go_simp
        (with_reducible refine (K2.out _ (bt B1.out hd1) _ c1 (ho1)).mono ?_)
        rintro e w2 ⟨a2, c2, rfl, ho2, hb2⟩
        have hd2 := bt hd1 hb2
        have ho2 := ho2.rd.2
        go_wp2_with fail
        refine hK.out _ _ (KC.out _ hd2) (fun hHeld => ?_)
        clear hK K
        try simp only [Act.put, ps1, ps2, ps3]
        refine wpAnyH_ready (rs := [6, 10]) (by kernel_rfl) (by simp) (AllReadyH.cons (by simp only [List.getElem?_toArray, List.getElem?_cons_succ, List.getElem?_cons_zero]; exact rfl) (fun K hK => ?_) (AllReadyH.cons (by simp only [List.getElem?_toArray, List.getElem?_cons_succ, List.getElem?_cons_zero]; exact rfl) (fun K hK => ?_) AllReadyH.nil))
        · rw [if_pos (by rfl)]
          go_simp
          (with_reducible refine (K3.out _ a2 c2 (ho2)).mono ?_)
          rintro e w3 ⟨rfl, hb3⟩
          have hd3 := bt hd2 hb3
          go_wp2_with fail
          refine hK.out _ _ (KC.out _ hd3) (fun hHeld => ?_)
          clear hK K
          try simp only [Act.put, ps1, ps2, ps3]
          refine tkS 7 hHeld ?_
          try simp only [Act.put, ps1, ps2, ps3]
          refine tkS 8 hHeld ?_
          try simp only [Act.put, ps1, ps2, ps3]
          refine tkS 9 hHeld ?_
          try simp only [Act.put, ps1, ps2, ps3]
          refine wpAnyH_ready (rs := [10]) (by kernel_rfl) (by simp) (AllReadyH.cons (by simp only [List.getElem?_toArray, List.getElem?_cons_succ, List.getElem?_cons_zero]; exact rfl) (fun K hK => ?_) AllReadyH.nil)
          rw [if_pos (by rfl)]
          go_simp
          have hal3 := hd3.alloc hd3.size (.cells #[.string ⟨#[]⟩, .string ⟨#[]⟩, .bool false, .string ⟨#[]⟩] 84)
          refine hK.out _ _ (KC.out _ hal3) (fun hHeld => ?_)
          clear hK K
          try simp only [Act.put, ps1, ps2, ps3]
          refine wpAnyH_ready (rs := [11]) (by kernel_rfl) (by simp) (AllReadyH.cons (by simp only [List.getElem?_toArray, List.getElem?_cons_succ, List.getElem?_cons_zero]; exact rfl) (fun K hK => ?_) AllReadyH.nil)
          rw [if_pos (by rfl)]
          go_simp
          have hfin := hd3.alloc hd3.size (.cells #[.string ⟨#[]⟩, .string ⟨#[]⟩, .bool false, .string ⟨#[]⟩] 84)
          refine hK.out _ _ (KC.out _ hfin) (fun hHeld => ?_)
          clear hK K
          try simp only [Act.put, ps1, ps2, ps3]
          have e1 : (w3.alloc (.cells #[.string ⟨#[]⟩, .string ⟨#[]⟩, .bool false, .string ⟨#[]⟩] 84)).cell? ⟨w3.heap.size, 1, .none⟩ = some (.string ⟨#[]⟩) := World.cell?_alloc_mark w3 _ _ _ 1
          refine tkS 12 hHeld ?_
          try simp only [Act.put, ps1, ps2, ps3]
          refine wpAnyH_done (by kernel_rfl) ?_ _
          obtain ⟨W5, hW5⟩ : ∃ W, (w3.alloc (.cells #[.string ⟨#[]⟩, .string ⟨#[]⟩, .bool false, .string ⟨#[]⟩] 84)) = W := ⟨_, rfl⟩
          rw [hW5] at e1 hfin ⊢
          have n3 := (hfin.cell (p := ⟨B, 0, .none⟩) hBl1).trans n2
          have HB5 := Lib.hid (bt B1.out hfin)
          clear hHeld hW5 hfin hd0 hd1 hd2 hd3 hb1 hb2 hb3 K1 K2 K3 KC n1 n2 x3 ho1 ho2
          clear hal3
          cases none
          · go_wp2_with fail
            (with_reducible refine (K7.out _).mono ?_)
            rintro e w4 ⟨rfl, rfl⟩
            go_wp2
            go_ret2
            exact ⟨rfl, HB5.out⟩
          · go_wp2
            go_ret2
            exact ⟨rfl, HB5.out⟩
        · rw [if_pos (by rfl)]
          go_simp
          have hdA : Below W1.heap.size W1 ((w2).alloc (.cells #[.string ⟨#[]⟩, .string ⟨#[]⟩, .bool false, .string ⟨#[]⟩] 84)) := hd2.alloc hd2.size _
          refine hK.out _ _ (KC.out _ hdA) (fun hHeld => ?_)
          clear hK K
          try simp only [Act.put, ps1, ps2, ps3]
          have hab : Below (w2).heap.size (w2) ((w2).alloc (.cells #[.string ⟨#[]⟩, .string ⟨#[]⟩, .bool false, .string ⟨#[]⟩] 84)) := (Below.refl (w2).heap.size (w2)).alloc (Nat.le_refl _) _
          have ho2 := ho2.below hab
          clear hab
          obtain ⟨bk, hbe⟩ : ∃ b, (w2).heap.size = b := ⟨_, rfl⟩
          have hbk : ((w2).alloc (.cells #[.string ⟨#[]⟩, .string ⟨#[]⟩, .bool false, .string ⟨#[]⟩] 84)).heap[bk]? = some (.cells #[.string ⟨#[]⟩, .string ⟨#[]⟩, .bool false, .string ⟨#[]⟩] 84 (0, 0)) := heap_new (w2) _ _ hbe
          have hbl : bk < ((w2).alloc (.cells #[.string ⟨#[]⟩, .string ⟨#[]⟩, .bool false, .string ⟨#[]⟩] 84)).heap.size := by rw [← hbe]; simp
          have hle : W1.heap.size ≤ bk := by rw [← hbe]; exact hd2.size
          obtain ⟨WA, hWA⟩ : ∃ W, ((w2).alloc (.cells #[.string ⟨#[]⟩, .string ⟨#[]⟩, .bool false, .string ⟨#[]⟩] 84)) = W := ⟨_, rfl⟩
          rw [hWA] at hdA ho2 hbk hbl ⊢
          rw [hWA] at hHeld
          have hbe : w2.heap.size = bk := hbe
          rw [hbe]
          clear hWA
          refine wpAnyH_ready (rs := [6]) (by kernel_rfl) (by simp) (AllReadyH.cons (by simp only [List.getElem?_toArray, List.getElem?_cons_succ, List.getElem?_cons_zero]; exact rfl) (fun K hK => ?_) AllReadyH.nil)
          rw [if_pos (by rfl)]
          go_simp
          (with_reducible refine (K3.out _ a2 c2 (ho2)).mono ?_)
          rintro e w3 ⟨rfl, hb3⟩
          have hd3 := bt hdA hb3
          go_wp2_with fail
          refine hK.out _ _ (KC.out _ hd3) (fun hHeld => ?_)
          clear hK K
          try simp only [Act.put, ps1, ps2, ps3]
          have hbk := (hb3.block bk hbl).trans hbk
          have hbl := Nat.lt_of_lt_of_le hbl hb3.size
          refine tkS 7 hHeld ?_
          try simp only [Act.put, ps1, ps2, ps3]
          refine tkS 8 hHeld ?_
          try simp only [Act.put, ps1, ps2, ps3]
          refine tkS 9 hHeld ?_
          try simp only [Act.put, ps1, ps2, ps3]
          have q0 := (of_heap hbk 0).1
          have q1 := (of_heap hbk 1).1
          have q2 := (of_heap hbk 2).1
          have q3 := (of_heap hbk 3).1
          have p0 := (of_heap hbk 0).2.1
          have p1 := (of_heap hbk 1).2.1
          have p2 := (of_heap hbk 2).2.1
          have p3 := (of_heap hbk 3).2.1
          simp only [List.getElem?_toArray, List.getElem?_cons_succ, List.getElem?_cons_zero] at q0 q1 q2 q3
          refine wpAnyH_ready (rs := [11]) (by kernel_rfl) (by simp) (AllReadyH.cons (by simp only [List.getElem?_toArray, List.getElem?_cons_succ, List.getElem?_cons_zero]; exact rfl) (fun K hK => ?_) AllReadyH.nil)
          rw [if_pos (by rfl)]
          go_simp
          have hfin : Below W1.heap.size W1 ((((w3.setCell ⟨bk, 0, .none⟩ (.string ⟨#[]⟩)).setCell ⟨bk, 1, .none⟩ (.string ⟨#[]⟩)).setCell ⟨bk, 2, .none⟩ (.bool false)).setCell ⟨bk, 3, .none⟩ (.string ⟨#[]⟩)) := (((hd3.setCell (p := ⟨bk, 0, .none⟩) hle _).setCell (p := ⟨bk, 1, .none⟩) hle _).setCell (p := ⟨bk, 2, .none⟩) hle _).setCell (p := ⟨bk, 3, .none⟩) hle _
          refine hK.out _ _ (KC.out _ hfin) (fun hHeld => ?_)
          clear hK K
          try simp only [Act.put, ps1, ps2, ps3]
          have hx1 := heap_setN (j := 3) (v := .string ⟨#[]⟩) (heap_setN (j := 2) (v := .bool false) (heap_setN (j := 1) (v := .string ⟨#[]⟩) (heap_setN (j := 0) (v := .string ⟨#[]⟩) hbk)))
          have e1 := (of_heap hx1 1).1
          simp only [List.setIfInBounds_toArray, List.set_cons_zero, List.set_cons_succ, List.getElem?_toArray, List.getElem?_cons_succ, List.getElem?_cons_zero] at e1
          refine tkS 12 hHeld ?_
          try simp only [Act.put, ps1, ps2, ps3]
          refine wpAnyH_done (by kernel_rfl) ?_ _
          obtain ⟨W5, hW5⟩ : ∃ W, ((((w3.setCell ⟨bk, 0, .none⟩ (.string ⟨#[]⟩)).setCell ⟨bk, 1, .none⟩ (.string ⟨#[]⟩)).setCell ⟨bk, 2, .none⟩ (.bool false)).setCell ⟨bk, 3, .none⟩ (.string ⟨#[]⟩)) = W := ⟨_, rfl⟩
          rw [hW5] at e1 hfin ⊢
          have n3 := (hfin.cell (p := ⟨B, 0, .none⟩) hBl1).trans n2
          have HB5 := Lib.hid (bt B1.out hfin)
          clear hHeld hW5 hfin hd0 hd1 hd2 hd3 hb1 hb2 hb3 K1 K2 K3 KC n1 n2 x3 ho1 ho2
          clear hx1 hbk q0 q1 q2 q3 p0 p1 p2 p3
          cases none
          · go_wp2_with fail
            (with_reducible refine (K7.out _).mono ?_)
            rintro e w4 ⟨rfl, rfl⟩
            go_wp2
            go_ret2
            exact ⟨rfl, HB5.out⟩
          · go_wp2
            go_ret2
            exact ⟨rfl, HB5.out⟩
      · rw [if_pos (by rfl)]
        go_simp
        have hdA : Below W1.heap.size W1 ((w1).alloc (.cells #[.string ⟨#[]⟩, .string ⟨#[]⟩, .bool false, .string ⟨#[]⟩] 84)) := hd1.alloc hd1.size _
        refine hK.out _ _ (KC.out _ hdA) (fun hHeld => ?_)
        clear hK K
        try simp only [Act.put, ps1, ps2, ps3]
        have hab : Below (w1).heap.size (w1) ((w1).alloc (.cells #[.string ⟨#[]⟩, .string ⟨#[]⟩, .bool false, .string ⟨#[]⟩] 84)) := (Below.refl (w1).heap.size (w1)).alloc (Nat.le_refl _) _
        have ho1 := ho1.below hab
        clear hab
        obtain ⟨bk, hbe⟩ : ∃ b, (w1).heap.size = b := ⟨_, rfl⟩
        have hbk : ((w1).alloc (.cells #[.string ⟨#[]⟩, .string ⟨#[]⟩, .bool false, .string ⟨#[]⟩] 84)).heap[bk]? = some (.cells #[.string ⟨#[]⟩, .string ⟨#[]⟩, .bool false, .string ⟨#[]⟩] 84 (0, 0)) := heap_new (w1) _ _ hbe
        have hbl : bk < ((w1).alloc (.cells #[.string ⟨#[]⟩, .string ⟨#[]⟩, .bool false, .string ⟨#[]⟩] 84)).heap.size := by rw [← hbe]; simp
        have hle : W1.heap.size ≤ bk := by rw [← hbe]; exact hd1.size
        obtain ⟨WA, hWA⟩ : ∃ W, ((w1).alloc (.cells #[.string ⟨#[]⟩, .string ⟨#[]⟩, .bool false, .string ⟨#[]⟩] 84)) = W := ⟨_, rfl⟩
        rw [hWA] at hdA ho1 hbk hbl ⊢
        rw [hWA] at hHeld
        have hbe : w1.heap.size = bk := hbe
        rw [hbe]
        clear hWA
        refine wpAnyH_ready (rs := [4]) (by kernel_rfl) (by simp) (AllReadyH.cons (by simp only [List.getElem?_toArray, List.getElem?_cons_succ, List.getElem?_cons_zero]; exact rfl) (fun K hK => ?_) AllReadyH.nil)
        rw [if_pos (by rfl)]
        go_simp
        (with_reducible refine (K2.out _ (bt B1.out hdA) _ c1 (ho1)).mono ?_)
        rintro e w2 ⟨a2, c2, rfl, ho2, hb2⟩
        have hd2 := bt hdA hb2
        have ho2 := ho2.rd.2
        go_wp2_with fail
        refine hK.out _ _ (KC.out _ hd2) (fun hHeld => ?_)
        clear hK K
        try simp only [Act.put, ps1, ps2, ps3]
        have hbk := (hb2.block bk hbl).trans hbk
        have hbl := Nat.lt_of_lt_of_le hbl hb2.size
        refine wpAnyH_ready (rs := [6]) (by kernel_rfl) (by simp) (AllReadyH.cons (by simp only [List.getElem?_toArray, List.getElem?_cons_succ, List.getElem?_cons_zero]; exact rfl) (fun K hK => ?_) AllReadyH.nil)
        rw [if_pos (by rfl)]
        go_simp
        (with_reducible refine (K3.out _ a2 c2 (ho2)).mono ?_)
        rintro e w3 ⟨rfl, hb3⟩
        have hd3 := bt hd2 hb3
        go_wp2_with fail
        refine hK.out _ _ (KC.out _ hd3) (fun hHeld => ?_)
        clear hK K
        try simp only [Act.put, ps1, ps2, ps3]
        have hbk := (hb3.block bk hbl).trans hbk
        have hbl := Nat.lt_of_lt_of_le hbl hb3.size
        refine tkS 7 hHeld ?_
        try simp only [Act.put, ps1, ps2, ps3]
        refine tkS 8 hHeld ?_
        try simp only [Act.put, ps1, ps2, ps3]
        refine tkS 9 hHeld ?_
        try simp only [Act.put, ps1, ps2, ps3]
        have q0 := (of_heap hbk 0).1
        have q1 := (of_heap hbk 1).1
        have q2 := (of_heap hbk 2).1
        have q3 := (of_heap hbk 3).1
        have p0 := (of_heap hbk 0).2.1
        have p1 := (of_heap hbk 1).2.1
        have p2 := (of_heap hbk 2).2.1
        have p3 := (of_heap hbk 3).2.1
        simp only [List.getElem?_toArray, List.getElem?_cons_succ, List.getElem?_cons_zero] at q0 q1 q2 q3
        refine wpAnyH_ready (rs := [11]) (by kernel_rfl) (by simp) (AllReadyH.cons (by simp only [List.getElem?_toArray, List.getElem?_cons_succ, List.getElem?_cons_zero]; exact rfl) (fun K hK => ?_) AllReadyH.nil)
        rw [if_pos (by rfl)]
        go_simp
        have hfin : Below W1.heap.size W1 ((((w3.setCell ⟨bk, 0, .none⟩ (.string ⟨#[]⟩)).setCell ⟨bk, 1, .none⟩ (.string ⟨#[]⟩)).setCell ⟨bk, 2, .none⟩ (.bool false)).setCell ⟨bk, 3, .none⟩ (.string ⟨#[]⟩)) := (((hd3.setCell (p := ⟨bk, 0, .none⟩) hle _).setCell (p := ⟨bk, 1, .none⟩) hle _).setCell (p := ⟨bk, 2, .none⟩) hle _).setCell (p := ⟨bk, 3, .none⟩) hle _
        refine hK.out _ _ (KC.out _ hfin) (fun hHeld => ?_)
        clear hK K
        try simp only [Act.put, ps1, ps2, ps3]
        have hx1 := heap_setN (j := 3) (v := .string ⟨#[]⟩) (heap_setN (j := 2) (v := .bool false) (heap_setN (j := 1) (v := .string ⟨#[]⟩) (heap_setN (j := 0) (v := .string ⟨#[]⟩) hbk)))
        have e1 := (of_heap hx1 1).1
        simp only [List.setIfInBounds_toArray, List.set_cons_zero, List.set_cons_succ, List.getElem?_toArray, List.getElem?_cons_succ, List.getElem?_cons_zero] at e1
        refine tkS 12 hHeld ?_
        try simp only [Act.put, ps1, ps2, ps3]
        refine wpAnyH_done (by kernel_rfl) ?_ _
        obtain ⟨W5, hW5⟩ : ∃ W, ((((w3.setCell ⟨bk, 0, .none⟩ (.string ⟨#[]⟩)).setCell ⟨bk, 1, .none⟩ (.string ⟨#[]⟩)).setCell ⟨bk, 2, .none⟩ (.bool false)).setCell ⟨bk, 3, .none⟩ (.string ⟨#[]⟩)) = W := ⟨_, rfl⟩
        rw [hW5] at e1 hfin ⊢
        have n3 := (hfin.cell (p := ⟨B, 0, .none⟩) hBl1).trans n2
        have HB5 := Lib.hid (bt B1.out hfin)
        clear hHeld hW5 hfin hd0 hd1 hd2 hd3 hb1 hb2 hb3 K1 K2 K3 KC n1 n2 x3 ho1 ho2
        clear hx1 hbk q0 q1 q2 q3 p0 p1 p2 p3
        cases none
        · go_wp2_with fail
          (with_reducible refine (K7.out _).mono ?_)
          rintro e w4 ⟨rfl, rfl⟩
          go_wp2
          go_ret2
          exact ⟨rfl, HB5.out⟩
        · go_wp2
          go_ret2
          exact ⟨rfl, HB5.out⟩
    · rw [if_pos (by rfl)]
      go_simp
      have hdA : Below W1.heap.size W1 ((W1.alloc (.cells #[.string ⟨#[]⟩, .string ⟨#[]⟩, .bool false, .string ⟨#[]⟩] 84)).drew) := hd0.alloc hd0.size _
      refine hK.out _ _ (KC.out _ hdA) (fun hHeld => ?_)
      clear hK K
      try simp only [Act.put, ps1, ps2, ps3]
      have hab : Below (W1.drew).heap.size (W1.drew) ((W1.alloc (.cells #[.string ⟨#[]⟩, .string ⟨#[]⟩, .bool false, .string ⟨#[]⟩] 84)).drew) := (Below.refl (W1.drew).heap.size (W1.drew)).alloc (Nat.le_refl _) _
      clear hab
      have hbk : ((W1.alloc (.cells #[.string ⟨#[]⟩, .string ⟨#[]⟩, .bool false, .string ⟨#[]⟩] 84)).drew).heap[W1.heap.size]? = some (.cells #[.string ⟨#[]⟩, .string ⟨#[]⟩, .bool false, .string ⟨#[]⟩] 84 (0, 0)) := heap_new (W1.drew) _ _ rfl
      have hbl : W1.heap.size < ((W1.alloc (.cells #[.string ⟨#[]⟩, .string ⟨#[]⟩, .bool false, .string ⟨#[]⟩] 84)).drew).heap.size := by simp
      have hle : W1.heap.size ≤ W1.heap.size := Nat.le_refl _
      obtain ⟨WA, hWA⟩ : ∃ W, ((W1.alloc (.cells #[.string ⟨#[]⟩, .string ⟨#[]⟩, .bool false, .string ⟨#[]⟩] 84)).drew) = W := ⟨_, rfl⟩
      rw [hWA] at hdA hbk hbl ⊢
      rw [hWA] at hHeld
      clear hWA
      refine wpAnyH_ready (rs := [3]) (by kernel_rfl) (by simp) (AllReadyH.cons (by simp only [List.getElem?_toArray, List.getElem?_cons_succ, List.getElem?_cons_zero]; exact rfl) (fun K hK => ?_) AllReadyH.nil)
      rw [if_pos (by rfl)]
      go_simp
      (with_reducible refine (K1.out _ hdA).mono ?_)
      rintro e w1 ⟨a1, c1, rfl, ho1, hb1⟩
      have hd1 := bt hdA hb1
      have ho1 := ho1.rd.2
      go_wp2_with fail
      refine hK.out _ _ (KC.out _ hd1) (fun hHeld => ?_)
      clear hK K
      try simp only [Act.put, ps1, ps2, ps3]
      have hbk := (hb1.block W1.heap.size hbl).trans hbk
      have hbl := Nat.lt_of_lt_of_le hbl hb1.size
      refine wpAnyH_ready (rs := [4]) (by kernel_rfl) (by simp) (AllReadyH.cons (by simp only [List.getElem?_toArray, List.getElem?_cons_succ, List.getElem?_cons_zero]; exact rfl) (fun K hK => ?_) AllReadyH.nil)
      rw [if_pos (by rfl)]
      go_simp
      (with_reducible refine (K2.out _ (bt B1.out hd1) _ c1 (ho1)).mono ?_)
      rintro e w2 ⟨a2, c2, rfl, ho2, hb2⟩
      have hd2 := bt hd1 hb2
      have ho2 := ho2.rd.2
      go_wp2_with fail
      refine hK.out _ _ (KC.out _ hd2) (fun hHeld => ?_)
      clear hK K
      try simp only [Act.put, ps1, ps2, ps3]
      have hbk := (hb2.block W1.heap.size hbl).trans hbk
      have hbl := Nat.lt_of_lt_of_le hbl hb2.size
      refine wpAnyH_ready (rs := [6]) (by kernel_rfl) (by simp) (AllReadyH.cons (by simp only [List.getElem?_toArray, List.getElem?_cons_succ, List.getElem?_cons_zero]; exact rfl) (fun K hK => ?_) AllReadyH.nil)
      rw [if_pos (by rfl)]
      go_simp
      (with_reducible refine (K3.out _ a2 c2 (ho2)).mono ?_)
      rintro e w3 ⟨rfl, hb3⟩
      have hd3 := bt hd2 hb3
      go_wp2_with fail
      refine hK.out _ _ (KC.out _ hd3) (fun hHeld => ?_)
      clear hK K
      try simp only [Act.put, ps1, ps2, ps3]
      have hbk := (hb3.block W1.heap.size hbl).trans hbk
      have hbl := Nat.lt_of_lt_of_le hbl hb3.size
      refine tkS 7 hHeld ?_
      try simp only [Act.put, ps1, ps2, ps3]
      refine tkS 8 hHeld ?_
      try simp only [Act.put, ps1, ps2, ps3]
      refine tkS 9 hHeld ?_
      try simp only [Act.put, ps1, ps2, ps3]
      have q0 := (of_heap hbk 0).1
      have q1 := (of_heap hbk 1).1
      have q2 := (of_heap hbk 2).1
      have q3 := (of_heap hbk 3).1
      have p0 := (of_heap hbk 0).2.1
      have p1 := (of_heap hbk 1).2.1
      have p2 := (of_heap hbk 2).2.1
      have p3 := (of_heap hbk 3).2.1
      simp only [List.getElem?_toArray, List.getElem?_cons_succ, List.getElem?_cons_zero] at q0 q1 q2 q3
      refine wpAnyH_ready (rs := [11]) (by kernel_rfl) (by simp) (AllReadyH.cons (by simp only [List.getElem?_toArray, List.getElem?_cons_succ, List.getElem?_cons_zero]; exact rfl) (fun K hK => ?_) AllReadyH.nil)
      rw [if_pos (by rfl)]
      go_simp
      have hfin : Below W1.heap.size W1 ((((w3.setCell ⟨W1.heap.size, 0, .none⟩ (.string ⟨#[]⟩)).setCell ⟨W1.heap.size, 1, .none⟩ (.string ⟨#[]⟩)).setCell ⟨W1.heap.size, 2, .none⟩ (.bool false)).setCell ⟨W1.heap.size, 3, .none⟩ (.string ⟨#[]⟩)) := (((hd3.setCell (p := ⟨W1.heap.size, 0, .none⟩) hle _).setCell (p := ⟨W1.heap.size, 1, .none⟩) hle _).setCell (p := ⟨W1.heap.size, 2, .none⟩) hle _).setCell (p := ⟨W1.heap.size, 3, .none⟩) hle _
      refine hK.out _ _ (KC.out _ hfin) (fun hHeld => ?_)
      clear hK K
      try simp only [Act.put, ps1, ps2, ps3]
      have hx1 := heap_setN (j := 3) (v := .string ⟨#[]⟩) (heap_setN (j := 2) (v := .bool false) (heap_setN (j := 1) (v := .string ⟨#[]⟩) (heap_setN (j := 0) (v := .string ⟨#[]⟩) hbk)))
      have e1 := (of_heap hx1 1).1
      simp only [List.setIfInBounds_toArray, List.set_cons_zero, List.set_cons_succ, List.getElem?_toArray, List.getElem?_cons_succ, List.getElem?_cons_zero] at e1
      refine tkS 12 hHeld ?_
      try simp only [Act.put, ps1, ps2, ps3]
      refine wpAnyH_done (by kernel_rfl) ?_ _
      obtain ⟨W5, hW5⟩ : ∃ W, ((((w3.setCell ⟨W1.heap.size, 0, .none⟩ (.string ⟨#[]⟩)).setCell ⟨W1.heap.size, 1, .none⟩ (.string ⟨#[]⟩)).setCell ⟨W1.heap.size, 2, .none⟩ (.bool false)).setCell ⟨W1.heap.size, 3, .none⟩ (.string ⟨#[]⟩)) = W := ⟨_, rfl⟩
      rw [hW5] at e1 hfin ⊢
      have n3 := (hfin.cell (p := ⟨B, 0, .none⟩) hBl1).trans n2
      have HB5 := Lib.hid (bt B1.out hfin)
      clear hHeld hW5 hfin hd0 hd1 hd2 hd3 hb1 hb2 hb3 K1 K2 K3 KC n1 n2 x3 ho1 ho2
      clear hx1 hbk q0 q1 q2 q3 p0 p1 p2 p3
      cases none
      · go_wp2_with fail
        (with_reducible refine (K7.out _).mono ?_)
        rintro e w4 ⟨rfl, rfl⟩
        go_wp2
        go_ret2
        exact ⟨rfl, HB5.out⟩
      · go_wp2
        go_ret2
        exact ⟨rfl, HB5.out⟩
  | some d =>
    have k7 := K4.out d rfl
    obtain ⟨dn, dv, dh, df⟩ := d
    simp only at k7 K3 ⊢
    have K7 := Lib.hid k7
    clear k7 K4
    refine wp_region_held_drew (S := (fun w' => w'.cell? ⟨w.heap.size, 3, .none⟩ = some (.slice A n c) ∧ w'.cell? ⟨N, 0, .none⟩ = some (.string ⟨nm.toArray⟩) ∧ Below W1.heap.size W1 w')) (by kernel_rfl) (KC.out _ hd0) (fun hHeld => ?_)
    refine tkS 0 hHeld ?_
    try simp only [Act.put, ps1, ps2, ps3]
    refine tkS 1 hHeld ?_
    try simp only [Act.put, ps1, ps2, ps3]
    refine tkS 2 hHeld ?_
    try simp only [Act.put, ps1, ps2, ps3]
    refine tkS 5 hHeld ?_
    try simp only [Act.put, ps1, ps2, ps3]
    refine wpAnyH_ready (rs := [3, 10]) (by kernel_rfl) (by simp) (AllReadyH.cons (by simp only [List.getElem?_toArray, List.getElem?_cons_succ, List.getElem?_cons_zero]; exact rfl) (fun K hK => ?_) (AllReadyH.cons (by simp only [List.getElem?_toArray, List.getElem?_cons_succ, List.getElem?_cons_zero]; exact rfl) (fun K hK => ?_) AllReadyH.nil))
    · rw [if_pos (by rfl)]
      go_simp
      (with_reducible refine (K1.out _ hd0).mono ?_)
      rintro e w1 ⟨a1, c1, rfl, ho1, hb1⟩
      have hd1 := bt hd0 hb1
      have ho1 := ho1.rd.2
      go_wp2_with fail
      refine hK.out _ _ (KC.out _ hd1) (fun hHeld => ?_)
      clear hK K
      try simp only [Act.put, ps1, ps2, ps3]
      refine wpAnyH_ready (rs := [4, 10]) (by kernel_rfl) (by simp) (AllReadyH.cons (by simp only [List.getElem?_toArray, List.getElem?_cons_succ, List.getElem?_cons_zero]; exact rfl) (fun K hK => ?_) (AllReadyH.cons (by simp only [List.getElem?_toArray, List.getElem?_cons_succ, List.getElem?_cons_zero]; exact rfl) (fun K hK => ?_) AllReadyH.nil))
      · rw [if_pos (by rfl)]
        go_simp
        (with_reducible refine (K2.out _ (bt B1.out hd1) _ c1 (ho1)).mono ?_)
        rintro e w2 ⟨a2, c2, rfl, ho2, hb2⟩
        have hd2 := bt hd1 hb2
        have ho2 := ho2.rd.2
        go_wp2_with fail
        refine hK.out _ _ (KC.out _ hd2) (fun hHeld => ?_)
        clear hK K
        try simp only [Act.put, ps1, ps2, ps3]
        refine wpAnyH_ready (rs := [6, 10]) (by kernel_rfl) (by simp) (AllReadyH.cons (by simp only [List.getElem?_toArray, List.getElem?_cons_succ, List.getElem?_cons_zero]; exact rfl) (fun K hK => ?_) (AllReadyH.cons (by simp only [List.getElem?_toArray, List.getElem?_cons_succ, List.getElem?_cons_zero]; exact rfl) (fun K hK => ?_) AllReadyH.nil))
        · rw [if_pos (by rfl)]
          go_simp
          (with_reducible refine (K3.out _ a2 c2 (ho2)).mono ?_)
          rintro e w3 ⟨rfl, hb3⟩
          have hd3 := bt hd2 hb3
          go_wp2_with fail
          refine hK.out _ _ (KC.out _ hd3) (fun hHeld => ?_)
          clear hK K
          try simp only [Act.put, ps1, ps2, ps3]
          refine tkS 7 hHeld ?_
          try simp only [Act.put, ps1, ps2, ps3]
          refine tkS 8 hHeld ?_
          try simp only [Act.put, ps1, ps2, ps3]
          refine tkS 9 hHeld ?_
          try simp only [Act.put, ps1, ps2, ps3]
          refine wpAnyH_ready (rs := [10]) (by kernel_rfl) (by simp) (AllReadyH.cons (by simp only [List.getElem?_toArray, List.getElem?_cons_succ, List.getElem?_cons_zero]; exact rfl) (fun K hK => ?_) AllReadyH.nil)
          rw [if_pos (by rfl)]
          go_simp
          have hal3 := hd3.alloc hd3.size (.cells #[.string ⟨#[]⟩, .string ⟨#[]⟩, .bool false, .string ⟨#[]⟩] 84)
          refine hK.out _ _ (KC.out _ hal3) (fun hHeld => ?_)
          clear hK K
          try simp only [Act.put, ps1, ps2, ps3]
          refine wpAnyH_ready (rs := [11]) (by kernel_rfl) (by simp) (AllReadyH.cons (by simp only [List.getElem?_toArray, List.getElem?_cons_succ, List.getElem?_cons_zero]; exact rfl) (fun K hK => ?_) AllReadyH.nil)
          rw [if_pos (by rfl)]
          go_simp
          have hfin := hd3.alloc hd3.size (.cells #[.string ⟨dn.toArray⟩, .string ⟨dv.toArray⟩, .bool dh, .string ⟨df.toArray⟩] 84)
          refine hK.out _ _ (KC.out _ hfin) (fun hHeld => ?_)
          clear hK K
          try simp only [Act.put, ps1, ps2, ps3]
          have e1 : (w3.alloc (.cells #[.string ⟨dn.toArray⟩, .string ⟨dv.toArray⟩, .bool dh, .string ⟨df.toArray⟩] 84)).cell? ⟨w3.heap.size, 1, .none⟩ = some (.string ⟨dv.toArray⟩) := World.cell?_alloc_mark w3 _ _ _ 1
          refine tkS 12 hHeld ?_
          try simp only [Act.put, ps1, ps2, ps3]
          refine wpAnyH_done (by kernel_rfl) ?_ _
          obtain ⟨W5, hW5⟩ : ∃ W, (w3.alloc (.cells #[.string ⟨dn.toArray⟩, .string ⟨dv.toArray⟩, .bool dh, .string ⟨df.toArray⟩] 84)) = W := ⟨_, rfl⟩
          rw [hW5] at e1 hfin ⊢
          have n3 := (hfin.cell (p := ⟨B, 0, .none⟩) hBl1).trans n2
          have HB5 := Lib.hid (bt B1.out hfin)
          clear hHeld hW5 hfin hd0 hd1 hd2 hd3 hb1 hb2 hb3 K1 K2 K3 KC n1 n2 x3 ho1 ho2
          clear hal3
          cases none
          · go_wp2_with fail
            (with_reducible refine (K7.out _).mono ?_)
            rintro e w4 ⟨rfl, rfl⟩
            go_wp2
            go_ret2
            exact ⟨rfl, HB5.out⟩
          · go_wp2
            go_ret2
            exact ⟨rfl, HB5.out⟩
        · rw [if_pos (by rfl)]
          go_simp
          have hdA : Below W1.heap.size W1 ((w2).alloc (.cells #[.string ⟨#[]⟩, .string ⟨#[]⟩, .bool false, .string ⟨#[]⟩] 84)) := hd2.alloc hd2.size _
          refine hK.out _ _ (KC.out _ hdA) (fun hHeld => ?_)
          clear hK K
          try simp only [Act.put, ps1, ps2, ps3]
          have hab : Below (w2).heap.size (w2) ((w2).alloc (.cells #[.string ⟨#[]⟩, .string ⟨#[]⟩, .bool false, .string ⟨#[]⟩] 84)) := (Below.refl (w2).heap.size (w2)).alloc (Nat.le_refl _) _
          have ho2 := ho2.below hab
          clear hab
          obtain ⟨bk, hbe⟩ : ∃ b, (w2).heap.size = b := ⟨_, rfl⟩
          have hbk : ((w2).alloc (.cells #[.string ⟨#[]⟩, .string ⟨#[]⟩, .bool false, .string ⟨#[]⟩] 84)).heap[bk]? = some (.cells #[.string ⟨#[]⟩, .string ⟨#[]⟩, .bool false, .string ⟨#[]⟩] 84 (0, 0)) := heap_new (w2) _ _ hbe
          have hbl : bk < ((w2).alloc (.cells #[.string ⟨#[]⟩, .string ⟨#[]⟩, .bool false, .string ⟨#[]⟩] 84)).heap.size := by rw [← hbe]; simp
          have hle : W1.heap.size ≤ bk := by rw [← hbe]; exact hd2.size
          obtain ⟨WA, hWA⟩ : ∃ W, ((w2).alloc (.cells #[.string ⟨#[]⟩, .string ⟨#[]⟩, .bool false, .string ⟨#[]⟩] 84)) = W := ⟨_, rfl⟩
          rw [hWA] at hdA ho2 hbk hbl ⊢
          rw [hWA] at hHeld
          have hbe : w2.heap.size = bk := hbe
          rw [hbe]
          clear hWA
          refine wpAnyH_ready (rs := [6]) (by kernel_rfl) (by simp) (AllReadyH.cons (by simp only [List.getElem?_toArray, List.getElem?_cons_succ, List.getElem?_cons_zero]; exact rfl) (fun K hK => ?_) AllReadyH.nil)
          rw [if_pos (by rfl)]
          go_simp
          (with_reducible refine (K3.out _ a2 c2 (ho2)).mono ?_)
          rintro e w3 ⟨rfl, hb3⟩
          have hd3 := bt hdA hb3
          go_wp2_with fail
          refine hK.out _ _ (KC.out _ hd3) (fun hHeld => ?_)
          clear hK K
          try simp only [Act.put, ps1, ps2, ps3]
          have hbk := (hb3.block bk hbl).trans hbk
          have hbl := Nat.lt_of_lt_of_le hbl hb3.size
          refine tkS 7 hHeld ?_
          try simp only [Act.put, ps1, ps2, ps3]
          refine tkS 8 hHeld ?_
          try simp only [Act.put, ps1, ps2, ps3]
          refine tkS 9 hHeld ?_
          try simp only [Act.put, ps1, ps2, ps3]
          have q0 := (of_heap hbk 0).1
          have q1 := (of_heap hbk 1).1
          have q2 := (of_heap hbk 2).1
          have q3 := (of_heap hbk 3).1
          have p0 := (of_heap hbk 0).2.1
          have p1 := (of_heap hbk 1).2.1
          have p2 := (of_heap hbk 2).2.1
          have p3 := (of_heap hbk 3).2.1
          simp only [List.getElem?_toArray, List.getElem?_cons_succ, List.getElem?_cons_zero] at q0 q1 q2 q3
          refine wpAnyH_ready (rs := [11]) (by kernel_rfl) (by simp) (AllReadyH.cons (by simp only [List.getElem?_toArray, List.getElem?_cons_succ, List.getElem?_cons_zero]; exact rfl) (fun K hK => ?_) AllReadyH.nil)
          rw [if_pos (by rfl)]
          go_simp
          have hfin : Below W1.heap.size W1 ((((w3.setCell ⟨bk, 0, .none⟩ (.string ⟨dn.toArray⟩)).setCell ⟨bk, 1, .none⟩ (.string ⟨dv.toArray⟩)).setCell ⟨bk, 2, .none⟩ (.bool dh)).setCell ⟨bk, 3, .none⟩ (.string ⟨df.toArray⟩)) := (((hd3.setCell (p := ⟨bk, 0, .none⟩) hle _).setCell (p := ⟨bk, 1, .none⟩) hle _).setCell (p := ⟨bk, 2, .none⟩) hle _).setCell (p := ⟨bk, 3, .none⟩) hle _
          refine hK.out _ _ (KC.out _ hfin) (fun hHeld => ?_)
          clear hK K
          try simp only [Act.put, ps1, ps2, ps3]
          have hx1 := heap_setN (j := 3) (v := .string ⟨df.toArray⟩) (heap_setN (j := 2) (v := .bool dh) (heap_setN (j := 1) (v := .string ⟨dv.toArray⟩) (heap_setN (j := 0) (v := .string ⟨dn.toArray⟩) hbk)))
          have e1 := (of_heap hx1 1).1
          simp only [List.setIfInBounds_toArray, List.set_cons_zero, List.set_cons_succ, List.getElem?_toArray, List.getElem?_cons_succ, List.getElem?_cons_zero] at e1
          refine tkS 12 hHeld ?_
          try simp only [Act.put, ps1, ps2, ps3]
          refine wpAnyH_done (by kernel_rfl) ?_ _
          obtain ⟨W5, hW5⟩ : ∃ W, ((((w3.setCell ⟨bk, 0, .none⟩ (.string ⟨dn.toArray⟩)).setCell ⟨bk, 1, .none⟩ (.string ⟨dv.toArray⟩)).setCell ⟨bk, 2, .none⟩ (.bool dh)).setCell ⟨bk, 3, .none⟩ (.string ⟨df.toArray⟩)) = W := ⟨_, rfl⟩
          rw [hW5] at e1 hfin ⊢
          have n3 := (hfin.cell (p := ⟨B, 0, .none⟩) hBl1).trans n2
          have HB5 := Lib.hid (bt B1.out hfin)
          clear hHeld hW5 hfin hd0 hd1 hd2 hd3 hb1 hb2 hb3 K1 K2 K3 KC n1 n2 x3 ho1 ho2
          clear hx1 hbk q0 q1 q2 q3 p0 p1 p2 p3
          cases none
          · go_wp2_with fail
            (with_reducible refine (K7.out _).mono ?_)
            rintro e w4 ⟨rfl, rfl⟩
            go_wp2
            go_ret2
            exact ⟨rfl, HB5.out⟩
          · go_wp2
            go_ret2
            exact ⟨rfl, HB5.out⟩
      · rw [if_pos (by rfl)]
        go_simp
        have hdA : Below W1.heap.size W1 ((w1).alloc (.cells #[.string ⟨#[]⟩, .string ⟨#[]⟩, .bool false, .string ⟨#[]⟩] 84)) := hd1.alloc hd1.size _
        refine hK.out _ _ (KC.out _ hdA) (fun hHeld => ?_)
        clear hK K
        try simp only [Act.put, ps1, ps2, ps3]
        have hab : Below (w1).heap.size (w1) ((w1).alloc (.cells #[.string ⟨#[]⟩, .string ⟨#[]⟩, .bool false, .string ⟨#[]⟩] 84)) := (Below.refl (w1).heap.size (w1)).alloc (Nat.le_refl _) _
        have ho1 := ho1.below hab
        clear hab
        obtain ⟨bk, hbe⟩ : ∃ b, (w1).heap.size = b := ⟨_, rfl⟩
        have hbk : ((w1).alloc (.cells #[.string ⟨#[]⟩, .string ⟨#[]⟩, .bool false, .string ⟨#[]⟩] 84)).heap[bk]? = some (.cells #[.string ⟨#[]⟩, .string ⟨#[]⟩, .bool false, .string ⟨#[]⟩] 84 (0, 0)) := heap_new (w1) _ _ hbe
        have hbl : bk < ((w1).alloc (.cells #[.string ⟨#[]⟩, .string ⟨#[]⟩, .bool false, .string ⟨#[]⟩] 84)).heap.size := by rw [← hbe]; simp
        have hle : W1.heap.size ≤ bk := by rw [← hbe]; exact hd1.size
        obtain ⟨WA, hWA⟩ : ∃ W, ((w1).alloc (.cells #[.string ⟨#[]⟩, .string ⟨#[]⟩, .bool false, .string ⟨#[]⟩] 84)) = W := ⟨_, rfl⟩
        rw [hWA] at hdA ho1 hbk hbl ⊢
        rw [hWA] at hHeld
        have hbe : w1.heap.size = bk := hbe
        rw [hbe]
        clear hWA
        refine wpAnyH_ready (rs := [4]) (by kernel_rfl) (by simp) (AllReadyH.cons (by simp only [List.getElem?_toArray, List.getElem?_cons_succ, List.getElem?_cons_zero]; exact rfl) (fun K hK => ?_) AllReadyH.nil)
        rw [if_pos (by rfl)]
        go_simp
        (with_reducible refine (K2.out _ (bt B1.out hdA) _ c1 (ho1)).mono ?_)
        rintro e w2 ⟨a2, c2, rfl, ho2, hb2⟩
        have hd2 := bt hdA hb2
        have ho2 := ho2.rd.2
        go_wp2_with fail
        refine hK.out _ _ (KC.out _ hd2) (fun hHeld => ?_)
        clear hK K
        try simp only [Act.put, ps1, ps2, ps3]
        have hbk := (hb2.block bk hbl).trans hbk
        have hbl := Nat.lt_of_lt_of_le hbl hb2.size
        refine wpAnyH_ready (rs := [6]) (by kernel_rfl) (by simp) (AllReadyH.cons (by simp only [List.getElem?_toArray, List.getElem?_cons_succ, List.getElem?_cons_zero]; exact rfl) (fun K hK => ?_) AllReadyH.nil)
        rw [if_pos (by rfl)]
        go_simp
        (with_reducible refine (K3.out _ a2 c2 (ho2)).mono ?_)
        rintro e w3 ⟨rfl, hb3⟩
        have hd3 := bt hd2 hb3
        go_wp2_with fail
        refine hK.out _ _ (KC.out _ hd3) (fun hHeld => ?_)
        clear hK K
        try simp only [Act.put, ps1, ps2, ps3]
        have hbk := (hb3.block bk hbl).trans hbk
        have hbl := Nat.lt_of_lt_of_le hbl hb3.size
        refine tkS 7 hHeld ?_
        try simp only [Act.put, ps1, ps2, ps3]
        refine tkS 8 hHeld ?_
        try simp only [Act.put, ps1, ps2, ps3]
        refine tkS 9 hHeld ?_
        try simp only [Act.put, ps1, ps2, ps3]
        have q0 := (of_heap hbk 0).1
        have q1 := (of_heap hbk 1).1
        have q2 := (of_heap hbk 2).1
        have q3 := (of_heap hbk 3).1
        have p0 := (of_heap hbk 0).2.1
        have p1 := (of_heap hbk 1).2.1
        have p2 := (of_heap hbk 2).2.1
        have p3 := (of_heap hbk 3).2.1
        simp only [List.getElem?_toArray, List.getElem?_cons_succ, List.getElem?_cons_zero] at q0 q1 q2 q3
        refine wpAnyH_ready (rs := [11]) (by kernel_rfl) (by simp) (AllReadyH.cons (by simp only [List.getElem?_toArray, List.getElem?_cons_succ, List.getElem?_cons_zero]; exact rfl) (fun K hK => ?_) AllReadyH.nil)
        rw [if_pos (by rfl)]
        go_simp
        have hfin : Below W1.heap.size W1 ((((w3.setCell ⟨bk, 0, .none⟩ (.string ⟨dn.toArray⟩)).setCell ⟨bk, 1, .none⟩ (.string ⟨dv.toArray⟩)).setCell ⟨bk, 2, .none⟩ (.bool dh)).setCell ⟨bk, 3, .none⟩ (.string ⟨df.toArray⟩)) := (((hd3.setCell (p := ⟨bk, 0, .none⟩) hle _).setCell (p := ⟨bk, 1, .none⟩) hle _).setCell (p := ⟨bk, 2, .none⟩) hle _).setCell (p := ⟨bk, 3, .none⟩) hle _
        refine hK.out _ _ (KC.out _ hfin) (fun hHeld => ?_)
        clear hK K
        try simp only [Act.put, ps1, ps2, ps3]
        have hx1 := heap_setN (j := 3) (v := .string ⟨df.toArray⟩) (heap_setN (j := 2) (v := .bool dh) (heap_setN (j := 1) (v := .string ⟨dv.toArray⟩) (heap_setN (j := 0) (v := .string ⟨dn.toArray⟩) hbk)))
        have e1 := (of_heap hx1 1).1
        simp only [List.setIfInBounds_toArray, List.set_cons_zero, List.set_cons_succ, List.getElem?_toArray, List.getElem?_cons_succ, List.getElem?_cons_zero] at e1
        refine tkS 12 hHeld ?_
        try simp only [Act.put, ps1, ps2, ps3]
        refine wpAnyH_done (by kernel_rfl) ?_ _
        obtain ⟨W5, hW5⟩ : ∃ W, ((((w3.setCell ⟨bk, 0, .none⟩ (.string ⟨dn.toArray⟩)).setCell ⟨bk, 1, .none⟩ (.string ⟨dv.toArray⟩)).setCell ⟨bk, 2, .none⟩ (.bool dh)).setCell ⟨bk, 3, .none⟩ (.string ⟨df.toArray⟩)) = W := ⟨_, rfl⟩
        rw [hW5] at e1 hfin ⊢
        have n3 := (hfin.cell (p := ⟨B, 0, .none⟩) hBl1).trans n2
        have HB5 := Lib.hid (bt B1.out hfin)
        clear hHeld hW5 hfin hd0 hd1 hd2 hd3 hb1 hb2 hb3 K1 K2 K3 KC n1 n2 x3 ho1 ho2
        clear hx1 hbk q0 q1 q2 q3 p0 p1 p2 p3
        cases none
        · go_wp2_with fail
          (with_reducible refine (K7.out _).mono ?_)
          rintro e w4 ⟨rfl, rfl⟩
          go_wp2
          go_ret2
          exact ⟨rfl, HB5.out⟩
        · go_wp2
          go_ret2
          exact ⟨rfl, HB5.out⟩
    · rw [if_pos (by rfl)]
      go_simp
      have hdA : Below W1.heap.size W1 ((W1.alloc (.cells #[.string ⟨#[]⟩, .string ⟨#[]⟩, .bool false, .string ⟨#[]⟩] 84)).drew) := hd0.alloc hd0.size _
      refine hK.out _ _ (KC.out _ hdA) (fun hHeld => ?_)
      clear hK K
      try simp only [Act.put, ps1, ps2, ps3]
      have hab : Below (W1.drew).heap.size (W1.drew) ((W1.alloc (.cells #[.string ⟨#[]⟩, .string ⟨#[]⟩, .bool false, .string ⟨#[]⟩] 84)).drew) := (Below.refl (W1.drew).heap.size (W1.drew)).alloc (Nat.le_refl _) _
      clear hab
      have hbk : ((W1.alloc (.cells #[.string ⟨#[]⟩, .string ⟨#[]⟩, .bool false, .string ⟨#[]⟩] 84)).drew).heap[W1.heap.size]? = some (.cells #[.string ⟨#[]⟩, .string ⟨#[]⟩, .bool false, .string ⟨#[]⟩] 84 (0, 0)) := heap_new (W1.drew) _ _ rfl
      have hbl : W1.heap.size < ((W1.alloc (.cells #[.string ⟨#[]⟩, .string ⟨#[]⟩, .bool false, .string ⟨#[]⟩] 84)).drew).heap.size := by simp
      have hle : W1.heap.size ≤ W1.heap.size := Nat.le_refl _
      obtain ⟨WA, hWA⟩ : ∃ W, ((W1.alloc (.cells #[.string ⟨#[]⟩, .string ⟨#[]⟩, .bool false, .string ⟨#[]⟩] 84)).drew) = W := ⟨_, rfl⟩
      rw [hWA] at hdA hbk hbl ⊢
      rw [hWA] at hHeld
      clear hWA
      refine wpAnyH_ready (rs := [3]) (by kernel_rfl) (by simp) (AllReadyH.cons (by simp only [List.getElem?_toArray, List.getElem?_cons_succ, List.getElem?_cons_zero]; exact rfl) (fun K hK => ?_) AllReadyH.nil)
      rw [if_pos (by rfl)]
      go_simp
      (with_reducible refine (K1.out _ hdA).mono ?_)
      rintro e w1 ⟨a1, c1, rfl, ho1, hb1⟩
      have hd1 := bt hdA hb1
      have ho1 := ho1.rd.2
      go_wp2_with fail
      refine hK.out _ _ (KC.out _ hd1) (fun hHeld => ?_)
      clear hK K
      try simp only [Act.put, ps1, ps2, ps3]
      have hbk := (hb1.block W1.heap.size hbl).trans hbk
      have hbl := Nat.lt_of_lt_of_le hbl hb1.size
      refine wpAnyH_ready (rs := [4]) (by kernel_rfl) (by simp) (AllReadyH.cons (by simp only [List.getElem?_toArray, List.getElem?_cons_succ, List.getElem?_cons_zero]; exact rfl) (fun K hK => ?_) AllReadyH.nil)
      rw [if_pos (by rfl)]
      go_simp
      (with_reducible refine (K2.out _ (bt B1.out hd1) _ c1 (ho1)).mono ?_)
      rintro e w2 ⟨a2, c2, rfl, ho2, hb2⟩
      have hd2 := bt hd1 hb2
      have ho2 := ho2.rd.2
      go_wp2_with fail
      refine hK.out _ _ (KC.out _ hd2) (fun hHeld => ?_)
      clear hK K
      try simp only [Act.put, ps1, ps2, ps3]
      have hbk := (hb2.block W1.heap.size hbl).trans hbk
      have hbl := Nat.lt_of_lt_of_le hbl hb2.size
      refine wpAnyH_ready (rs := [6]) (by kernel_rfl) (by simp) (AllReadyH.cons (by simp only [List.getElem?_toArray, List.getElem?_cons_succ, List.getElem?_cons_zero]; exact rfl) (fun K hK => ?_) AllReadyH.nil)
      rw [if_pos (by rfl)]
      go_simp
      (with_reducible refine (K3.out _ a2 c2 (ho2)).mono ?_)
      rintro e w3 ⟨rfl, hb3⟩
      have hd3 := bt hd2 hb3
      go_wp2_with fail
      refine hK.out _ _ (KC.out _ hd3) (fun hHeld => ?_)
      clear hK K
      try simp only [Act.put, ps1, ps2, ps3]
      have hbk := (hb3.block W1.heap.size hbl).trans hbk
      have hbl := Nat.lt_of_lt_of_le hbl hb3.size
      refine tkS 7 hHeld ?_
      try simp only [Act.put, ps1, ps2, ps3]
      refine tkS 8 hHeld ?_
      try simp only [Act.put, ps1, ps2, ps3]
      refine tkS 9 hHeld ?_
      try simp only [Act.put, ps1, ps2, ps3]
      have q0 := (of_heap hbk 0).1
      have q1 := (of_heap hbk 1).1
      have q2 := (of_heap hbk 2).1
      have q3 := (of_heap hbk 3).1
      have p0 := (of_heap hbk 0).2.1
      have p1 := (of_heap hbk 1).2.1
      have p2 := (of_heap hbk 2).2.1
      have p3 := (of_heap hbk 3).2.1
      simp only [List.getElem?_toArray, List.getElem?_cons_succ, List.getElem?_cons_zero] at q0 q1 q2 q3
      refine wpAnyH_ready (rs := [11]) (by kernel_rfl) (by simp) (AllReadyH.cons (by simp only [List.getElem?_toArray, List.getElem?_cons_succ, List.getElem?_cons_zero]; exact rfl) (fun K hK => ?_) AllReadyH.nil)
      rw [if_pos (by rfl)]
      go_simp
      have hfin : Below W1.heap.size W1 ((((w3.setCell ⟨W1.heap.size, 0, .none⟩ (.string ⟨dn.toArray⟩)).setCell ⟨W1.heap.size, 1, .none⟩ (.string ⟨dv.toArray⟩)).setCell ⟨W1.heap.size, 2, .none⟩ (.bool dh)).setCell ⟨W1.heap.size, 3, .none⟩ (.string ⟨df.toArray⟩)) := (((hd3.setCell (p := ⟨W1.heap.size, 0, .none⟩) hle _).setCell (p := ⟨W1.heap.size, 1, .none⟩) hle _).setCell (p := ⟨W1.heap.size, 2, .none⟩) hle _).setCell (p := ⟨W1.heap.size, 3, .none⟩) hle _
      refine hK.out _ _ (KC.out _ hfin) (fun hHeld => ?_)
      clear hK K
      try simp only [Act.put, ps1, ps2, ps3]
      have hx1 := heap_setN (j := 3) (v := .string ⟨df.toArray⟩) (heap_setN (j := 2) (v := .bool dh) (heap_setN (j := 1) (v := .string ⟨dv.toArray⟩) (heap_setN (j := 0) (v := .string ⟨dn.toArray⟩) hbk)))
      have e1 := (of_heap hx1 1).1
      simp only [List.setIfInBounds_toArray, List.set_cons_zero, List.set_cons_succ, List.getElem?_toArray, List.getElem?_cons_succ, List.getElem?_cons_zero] at e1
      refine tkS 12 hHeld ?_
      try simp only [Act.put, ps1, ps2, ps3]
      refine wpAnyH_done (by kernel_rfl) ?_ _
      obtain ⟨W5, hW5⟩ : ∃ W, ((((w3.setCell ⟨W1.heap.size, 0, .none⟩ (.string ⟨dn.toArray⟩)).setCell ⟨W1.heap.size, 1, .none⟩ (.string ⟨dv.toArray⟩)).setCell ⟨W1.heap.size, 2, .none⟩ (.bool dh)).setCell ⟨W1.heap.size, 3, .none⟩ (.string ⟨df.toArray⟩)) = W := ⟨_, rfl⟩
      rw [hW5] at e1 hfin ⊢
      have n3 := (hfin.cell (p := ⟨B, 0, .none⟩) hBl1).trans n2
      have HB5 := Lib.hid (bt B1.out hfin)
      clear hHeld hW5 hfin hd0 hd1 hd2 hd3 hb1 hb2 hb3 K1 K2 K3 KC n1 n2 x3 ho1 ho2
      clear hx1 hbk q0 q1 q2 q3 p0 p1 p2 p3
      cases none
      · go_wp2_with fail
        (with_reducible refine (K7.out _).mono ?_)
        rintro e w4 ⟨rfl, rfl⟩
        go_wp2
        go_ret2
        exact ⟨rfl, HB5.out⟩
      · go_wp2
        go_ret2
        exact ⟨rfl, HB5.out⟩

set_option maxHeartbeats 8000000 in
theorem expires_any (st mi asked got : Int) (re bo : ByteArray) (A V : Option Addr) (n c m d : Nat) (xs : List Fld) (dev : ByteArray) (w : World) (hE : DEnv w) (hr : Rd A n 2 (fldsV xs) w) (hn : n ≤ 1000) (hs : sumF xs ≤ 800000) (hg : -9223372036854775808 ≤ got ∧ got ≤ 9223372036854775807) :
    Calls Tryz.prog 57 #[entV st re mi A n c bo asked got V m d, .string dev] w fun e w' => e = .returned (.tuple #[.int .i64 (expF xs got).1, .bool (expF xs got).2]) ∧ Below w.heap.size w w' := by
  obtain ⟨W1, hW1⟩ : ∃ W1, w.alloc (.cells #[.int .i64 st, .string re, .int .i64 mi, .slice A n c, .string bo, .int .i64 asked, .int .i64 got, .slice V m d] 30) = W1 := ⟨_, rfl⟩
  have b1 : Below w.heap.size w W1 := by rw [← hW1]; exact (Below.refl w.heap.size w).alloc (Nat.le_refl _) _
  have x1 : W1.heap[w.heap.size]? = some (.cells #[.int .i64 st, .string re, .int .i64 mi, .slice A n c, .string bo, .int .i64 asked, .int .i64 got, .slice V m d] 30 (0, 0)) := by rw [← hW1]; exact heap_new w _ _ rfl
  have k1 := get_any A n c xs ⟨#[101, 120, 112, 105, 114, 101, 115]⟩ W1 (hr.below b1) (by omega) (by omega) (by decide)
  rw [show (⟨#[101, 120, 112, 105, 114, 101, 115]⟩ : ByteArray).data.toList = fExp from rfl] at k1
  unfold getV at k1
  have k2 := fun W (hb : Below w.heap.size w W) => when_any st mi asked got re bo A V n c m d xs ⟨#[101, 120, 112, 105, 114, 101, 115]⟩ W (hE.below hb) (hr.below hb) hn hs (by decide)
  have k3 := fun W (hb : Below w.heap.size w W) => when_any st mi asked got re bo A V n c m d xs ⟨#[100, 97, 116, 101]⟩ W (hE.below hb) (hr.below hb) hn hs (by decide)
  rw [show (⟨#[101, 120, 112, 105, 114, 101, 115]⟩ : ByteArray).data.toList = fExp from rfl] at k2
  rw [show (⟨#[100, 97, 116, 101]⟩ : ByteArray).data.toList = fDate from rfl] at k3
  have ht := whenF_in xs fExp got
  have hd := whenF_in xs fDate got
  unfold expF
  generalize getL xs fExp = g at *
  generalize whenF xs fExp got = te at *
  generalize whenF xs fDate got = td at *
  obtain ⟨gv, gi⟩ := g
  obtain ⟨t1, i1⟩ := te
  obtain ⟨t2, i2⟩ := td
  simp only at k1 k2 k3 ht hd ⊢
  have x0 := of_heap x1 0; have x3 := (of_heap x1 3).1
  have hcell : ∀ j, W1.cell? ⟨w.heap.size, j, none⟩ = #[.int .i64 st, .string re, .int .i64 mi, .slice A n c, .string bo, .int .i64 asked, .int .i64 got, .slice V m d][j]? := fun j => (of_heap x1 j).1
  have hz : w.heap.size < W1.heap.size := x0.2.2
  have X1 := Lib.hid x1
  have HW1 := Lib.hid hW1; have K1 := Lib.hid k1; have K2 := Lib.hid k2; have K3 := Lib.hid k3; have B1 := Lib.hid b1
  have k4 := fun W => since_any t2 t1 W (by omega) (by omega) (by omega) (by omega)
  have k5 := fun W => since_any got t1 W (by omega) (by omega) (by omega) (by omega)
  have K4 := Lib.hid k4; have K5 := Lib.hid k5
  clear hW1 k1 k2 k3 k4 k5 x1 hr hs hE b1 x0 hcell
  unfold entV at K2 K3 ⊢
  cases gi
  · try simp only
    go_enter Tryz.func57, Tryz.ntmps57
    go_wp2_with fail
    rw [HW1.out]
    (with_reducible refine K1.out.mono ?_)
    rintro e w1 ⟨rfl, hb1⟩
    have HB := Lib.hid (bt B1.out hb1)
    clear hb1 K1 K2 K3 K4 K5
    go_wp2
    go_ret2
    exact ⟨rfl, HB.out⟩
  · try simp only
    go_enter Tryz.func57, Tryz.ntmps57
    go_wp2_with fail
    rw [HW1.out]
    (with_reducible refine K1.out.mono ?_)
    rintro e w1 ⟨rfl, hb1⟩
    have y1 := (hb1.block w.heap.size hz).trans X1.out
    have y0 := (of_heap y1 0).1; have y1a := (of_heap y1 1).1; have y2 := (of_heap y1 2).1; have y3 := (of_heap y1 3).1; have y4 := (of_heap y1 4).1; have y5 := (of_heap y1 5).1; have y6 := (of_heap y1 6).1; have y7 := (of_heap y1 7).1
    simp only [List.getElem?_toArray, List.getElem?_cons_succ, List.getElem?_cons_zero] at y0 y1a y2 y3 y4 y5 y6 y7
    have hz1 := Nat.lt_of_lt_of_le hz hb1.size
    have HB := Lib.hid (bt B1.out hb1)
    have k6 := K2.out w1 HB.out
    have K6 := Lib.hid k6
    have Y1 := Lib.hid y1
    clear hb1 K1 K2 k6 B1 y1
    go_wp2_with fail
    (with_reducible refine K6.out.mono ?_)
    rintro e w2 ⟨rfl, hb2⟩
    have HB2 := Lib.hid (bt HB.out hb2)
    cases i1
    · try simp only
      clear K6 K3 K4 K5 HB hb2
      go_wp2
      go_ret2
      exact ⟨rfl, HB2.out⟩
    · try simp only
      have z1 := (hb2.block w.heap.size hz1).trans Y1.out
      have z0 := (of_heap z1 0).1; have z1a := (of_heap z1 1).1; have z2 := (of_heap z1 2).1; have z3 := (of_heap z1 3).1; have z4 := (of_heap z1 4).1; have z5 := (of_heap z1 5).1; have z6 := (of_heap z1 6).1; have z7 := (of_heap z1 7).1
      simp only [List.getElem?_toArray, List.getElem?_cons_succ, List.getElem?_cons_zero] at z0 z1a z2 z3 z4 z5 z6 z7
      have hz2 := Nat.lt_of_lt_of_le hz1 hb2.size
      have k7 := K3.out w2 HB2.out
      have K7 := Lib.hid k7
      have Z1 := Lib.hid z1
      clear hb2 K6 K3 k7 HB z1 y0 y1a y2 y3 y4 y5 y6 y7 Y1
      go_wp2_with fail
      (with_reducible refine K7.out.mono ?_)
      rintro e w3 ⟨rfl, hb3⟩
      have HB3 := Lib.hid (bt HB2.out hb3)
      have u1 := (hb3.block w.heap.size hz2).trans Z1.out
      have u6 := (of_heap u1 6).1
      simp only [List.getElem?_toArray, List.getElem?_cons_succ, List.getElem?_cons_zero] at u6
      clear hb3 K7 HB2 u1 Z1 z0 z1a z2 z3 z4 z5 z6 z7
      cases i2
      · try simp only
        go_wp2_with fail
        (with_reducible refine (K5.out _).mono ?_)
        rintro e w4 ⟨rfl, rfl⟩
        go_wp2
        go_ret2
        exact ⟨rfl, HB3.out⟩
      · try simp only
        go_wp2_with fail
        (with_reducible refine (K4.out _).mono ?_)
        rintro e w4 ⟨rfl, rfl⟩
        go_wp2
        go_ret2
        exact ⟨rfl, HB3.out⟩
end Go.Proofs.YtcgdcbnhpbokfaaGreatDoor
/- The walks of layer 13's Age, Life, Fresh, Extra. -/
namespace Go.Proofs.YtcgdcbnhpbokfaaGreatDoor
open Go.RowKit
set_option maxRecDepth 100000

/-- An entry's cells in memory. -/
def EntAt (b : Nat) (st : Int) (re : ByteArray) (mi : Int) (A : Option Addr) (n c : Nat) (bo : ByteArray) (asked got : Int) (V : Option Addr) (m d : Nat) (w : World) : Prop :=
  w.heap[b]? = some (.cells #[.int .i64 st, .string re, .int .i64 mi, .slice A n c, .string bo, .int .i64 asked, .int .i64 got, .slice V m d] 30 (0, 0))
theorem EntAt.cells {b : Nat} {st : Int} {re : ByteArray} {mi : Int} {A : Option Addr} {n c : Nat} {bo : ByteArray} {asked got : Int} {V : Option Addr} {m d : Nat} {w : World} (h : EntAt b st re mi A n c bo asked got V m d w) :
    w.cell? ⟨b, 0, none⟩ = some (.int .i64 st) ∧ w.cell? ⟨b, 1, none⟩ = some (.string re) ∧ w.cell? ⟨b, 2, none⟩ = some (.int .i64 mi) ∧ w.cell? ⟨b, 3, none⟩ = some (.slice A n c) ∧ w.cell? ⟨b, 4, none⟩ = some (.string bo) ∧ w.cell? ⟨b, 5, none⟩ = some (.int .i64 asked) ∧ w.cell? ⟨b, 6, none⟩ = some (.int .i64 got) ∧ w.cell? ⟨b, 7, none⟩ = some (.slice V m d) ∧ b < w.heap.size :=
  ⟨(of_heap h 0).1, (of_heap h 1).1, (of_heap h 2).1, (of_heap h 3).1, (of_heap h 4).1, (of_heap h 5).1, (of_heap h 6).1, (of_heap h 7).1, (of_heap h 0).2.2⟩
theorem EntAt.below {b : Nat} {st : Int} {re : ByteArray} {mi : Int} {A : Option Addr} {n c : Nat} {bo : ByteArray} {asked got : Int} {V : Option Addr} {m d : Nat} {w w' : World} (h : EntAt b st re mi A n c bo asked got V m d w) (hb : Below w.heap.size w w') : EntAt b st re mi A n c bo asked got V m d w' :=
  (hb.block b h.cells.2.2.2.2.2.2.2.2).trans h

set_option maxHeartbeats 8000000 in
theorem age_any (st mi asked got now : Int) (re bo : ByteArray) (A V : Option Addr) (n c m d : Nat) (xs : List Fld) (w : World) (hE : DEnv w) (hr : Rd A n 2 (fldsV xs) w) (hn : n ≤ 1000) (hs : sumF xs ≤ 800000) (hg : -9223372036854775808 ≤ got ∧ got ≤ 9223372036854775807) (ha : -9223372036854775808 ≤ asked ∧ asked ≤ 9223372036854775807) (hw : -9223372036854775808 ≤ now ∧ now ≤ 9223372036854775807) :
    Calls Tryz.prog 15 #[entV st re mi A n c bo asked got V m d, .int .i64 now] w fun e w' => e = .returned (.int .i64 (ageF xs asked got now)) ∧ Below w.heap.size w w' := by
  obtain ⟨W1, hW1⟩ : ∃ W1, w.alloc (.cells #[.int .i64 st, .string re, .int .i64 mi, .slice A n c, .string bo, .int .i64 asked, .int .i64 got, .slice V m d] 30) = W1 := ⟨_, rfl⟩
  have b1 : Below w.heap.size w W1 := by rw [← hW1]; exact (Below.refl w.heap.size w).alloc (Nat.le_refl _) _
  have x1 : EntAt w.heap.size st re mi A n c bo asked got V m d W1 := by rw [← hW1]; exact heap_new w _ _ rfl
  have k1 := when_any st mi asked got re bo A V n c m d xs ⟨#[100, 97, 116, 101]⟩ W1 (hE.below b1) (hr.below b1) hn hs (by decide)
  rw [show (⟨#[100, 97, 116, 101]⟩ : ByteArray).data.toList = fDate from rfl] at k1
  have k2 := fun W (hb : Below w.heap.size w W) => get_any A n c xs ⟨#[97, 103, 101]⟩ W (hr.below hb) (by omega) (by omega) (by decide)
  rw [show (⟨#[97, 103, 101]⟩ : ByteArray).data.toList = fAge from rfl] at k2
  have hgl := getL_le xs fAge
  have hd := whenF_in xs fDate got
  have hfl := hr.fld
  have hag : ageF xs asked got now = addB (max (bif (whenF xs fDate got).2 then since (whenF xs fDate got).1 got else 0) (addB (numF (getL xs fAge).1) (since asked got))) (since got now) := rfl
  rw [hag]
  clear hag
  unfold getV at k2
  generalize whenF xs fDate got = td at *
  generalize getL xs fAge = g at *
  obtain ⟨gv, gi⟩ := g
  obtain ⟨t2, i2⟩ := td
  simp only at k1 k2 hd hgl ⊢
  have k3 := fun W => number_any ⟨gv.toArray⟩ W (by rw [Lib.size_eq]; show gv.length ≤ _; omega)
  rw [show (⟨gv.toArray⟩ : ByteArray).data.toList = gv from rfl] at k3
  have k4 := fun W => since_any t2 got W (by omega) (by omega) (by omega) (by omega)
  have k5 := fun W => since_any asked got W (by omega) (by omega) (by omega) (by omega)
  have k6 := fun W => since_any got now W (by omega) (by omega) (by omega) (by omega)
  have s1 := since_lo t2 got; have s1' := since_hi t2 got
  have k7 := fun W => add_any (numF gv) (since asked got) W
  have k8 := fun p W => add_any p (since got now) W
  have u1 := addB_lo (numF gv) (since asked got); have u2 := addB_hi (numF gv) (since asked got)
  generalize since t2 got = sd at *
  generalize since asked got = sa at *
  generalize since got now = sn at *
  generalize numF gv = nv at *
  generalize addB nv sa = told at *
  have X1 := Lib.hid x1; have HW1 := Lib.hid hW1; have K1 := Lib.hid k1; have K2 := Lib.hid k2; have B1 := Lib.hid b1
  have K3 := Lib.hid k3; have K4 := Lib.hid k4; have K5 := Lib.hid k5; have K6 := Lib.hid k6; have K7 := Lib.hid k7; have K8 := Lib.hid k8
  obtain ⟨c0, c1, c2, c3, c4, c5, c6, c7, cl⟩ := x1.cells
  clear hW1 k1 k2 k3 k4 k5 k6 k7 k8 x1 hr hs hE b1 hg ha hw hd hgl hfl
  unfold entV at K1 ⊢
  go_enter Tryz.func15, Tryz.ntmps15
  go_wp2_with fail
  rw [HW1.out]
  (with_reducible refine K1.out.mono ?_)
  rintro e w1 ⟨rfl, hb1⟩
  have X2 := Lib.hid (X1.out.below hb1)
  have HB := Lib.hid (bt B1.out hb1)
  obtain ⟨c0, c1, c2, c3, c4, c5, c6, c7, cl⟩ := X2.out.cells
  clear hb1 K1 X1 B1 HW1
  cases i2
  · go_wp2_with fail
    (with_reducible refine (K2.out _ HB.out).mono ?_)
    rintro e w2 ⟨rfl, hb2⟩
    have X3 := Lib.hid (X2.out.below hb2)
    have HB2 := Lib.hid (bt HB.out hb2)
    clear c0 c1 c2 c3 c4 c5 c6 c7 cl
    obtain ⟨c0, c1, c2, c3, c4, c5, c6, c7, cl⟩ := X3.out.cells
    clear hb2 K2 X2 HB K4
    go_wp2_with fail
    go_quiet (first
      | (go_at_call 50; with_reducible exact (K3.out _).mono (fun _ _ ⟨h1, h2⟩ => ⟨h1, _, h2.symm⟩))
      | (go_at_call 48; with_reducible exact (K5.out _).mono (fun _ _ ⟨h1, h2⟩ => ⟨h1, _, h2.symm⟩))
      | (go_at_call 49; with_reducible exact (K7.out _).mono (fun _ _ ⟨h1, h2⟩ => ⟨h1, _, h2.symm⟩)))
    go_wp2_with fail
    (with_reducible refine (K6.out _).mono ?_)
    rintro e w3 ⟨rfl, rfl⟩
    go_wp2_with fail
    (with_reducible refine (K8.out _ _).mono ?_)
    rintro e w3 ⟨rfl, rfl⟩
    go_wp2
    go_ret
    exact ⟨ret_int (by first | rfl | (congr 1; omega)), Go.below_drewN HB2.out _⟩
  · go_wp2_with fail
    (with_reducible refine (K4.out _).mono ?_)
    rintro e w9 ⟨rfl, rfl⟩
    go_wp2_with fail
    (with_reducible refine (K2.out _ HB.out).mono ?_)
    rintro e w2 ⟨rfl, hb2⟩
    have X3 := Lib.hid (X2.out.below hb2)
    have HB2 := Lib.hid (bt HB.out hb2)
    clear c0 c1 c2 c3 c4 c5 c6 c7 cl
    obtain ⟨c0, c1, c2, c3, c4, c5, c6, c7, cl⟩ := X3.out.cells
    clear hb2 K2 X2 HB K4
    go_wp2_with fail
    go_quiet (first
      | (go_at_call 50; with_reducible exact (K3.out _).mono (fun _ _ ⟨h1, h2⟩ => ⟨h1, _, h2.symm⟩))
      | (go_at_call 48; with_reducible exact (K5.out _).mono (fun _ _ ⟨h1, h2⟩ => ⟨h1, _, h2.symm⟩))
      | (go_at_call 49; with_reducible exact (K7.out _).mono (fun _ _ ⟨h1, h2⟩ => ⟨h1, _, h2.symm⟩)))
    go_wp2_with fail
    (with_reducible refine (K6.out _).mono ?_)
    rintro e w3 ⟨rfl, rfl⟩
    go_wp2_with fail
    (with_reducible refine (K8.out _ _).mono ?_)
    rintro e w3 ⟨rfl, rfl⟩
    go_wp2
    go_ret
    exact ⟨ret_int (by first | rfl | (congr 1; omega)), Go.below_drewN HB2.out _⟩
end Go.Proofs.YtcgdcbnhpbokfaaGreatDoor
/- The walk of fresh.Life (printed by wip/tools/life.py). -/
namespace Go.Proofs.YtcgdcbnhpbokfaaGreatDoor
open Go.RowKit
set_option maxRecDepth 100000

set_option maxHeartbeats 16000000 in
theorem life_any (st mi asked got : Int) (re bo : ByteArray) (A V : Option Addr) (n c m d : Nat) (xs : List Fld) (dev : ByteArray) (w : World) (hE : DEnv w) (hr : Rd A n 2 (fldsV xs) w) (hn : n ≤ 1000) (hs : sumF xs ≤ 800000) (hg : -9223372036854775808 ≤ got ∧ got ≤ 9223372036854775807) :
    Calls Tryz.prog 19 #[entV st re mi A n c bo asked got V m d, .string dev] w fun e w' => e = .returned (.int .i64 (lifeF xs got dev.data.toList)) ∧ Below w.heap.size w w' := by
  obtain ⟨W1, hW1⟩ : ∃ W1, w.alloc (.cells #[.int .i64 st, .string re, .int .i64 mi, .slice A n c, .string bo, .int .i64 asked, .int .i64 got, .slice V m d] 30) = W1 := ⟨_, rfl⟩
  have b1 : Below w.heap.size w W1 := by rw [← hW1]; exact (Below.refl w.heap.size w).alloc (Nat.le_refl _) _
  have x1 : EntAt w.heap.size st re mi A n c bo asked got V m d W1 := by rw [← hW1]; exact heap_new w _ _ rfl
  have f0 := fun W (hb : Below w.heap.size w W) => surrogate_any st mi asked got re bo A V n c m d xs dev W (hE.below hb).1 (hr.below hb) hn hs
  have f4 := fun W (hb : Below w.heap.size w W) => expires_any st mi asked got re bo A V n c m d xs dev W (hE.below hb) (hr.below hb) hn hs hg
  have f1 := fun N B W (hb : Below w.heap.size w W) hN hB hNl hBl => rule_any N B [110, 111, 45, 99, 97, 99, 104, 101] true st mi asked got re bo A V n c m d xs dev W (hE.below hb).1 (hr.below hb) hn hs (by decide) hN hB hNl hBl
  have f2 := fun N B W (hb : Below w.heap.size w W) hN hB hNl hBl => rule_any N B [115, 45, 109, 97, 120, 97, 103, 101] false st mi asked got re bo A V n c m d xs dev W (hE.below hb).1 (hr.below hb) hn hs (by decide) hN hB hNl hBl
  have f3 := fun N B W (hb : Below w.heap.size w W) hN hB hNl hBl => rule_any N B [109, 97, 120, 45, 97, 103, 101] false st mi asked got re bo A V n c m d xs dev W (hE.below hb).1 (hr.below hb) hn hs (by decide) hN hB hNl hBl
  have hlf : lifeF xs got dev.data.toList = lifeR [surF xs dev.data.toList, ruleF true fNoCache xs, ruleF false fSMax xs, ruleF false sMaxAge xs, expF xs got] := rfl
  rw [show ([110, 111, 45, 99, 97, 99, 104, 101] : List UInt8) = fNoCache from rfl] at f1
  rw [show ([115, 45, 109, 97, 120, 97, 103, 101] : List UInt8) = fSMax from rfl] at f2
  rw [show ([109, 97, 120, 45, 97, 103, 101] : List UInt8) = sMaxAge from rfl] at f3
  rw [hlf]
  clear hlf
  generalize surF xs dev.data.toList = r0 at *
  generalize ruleF true fNoCache xs = r1 at *
  generalize ruleF false fSMax xs = r2 at *
  generalize ruleF false sMaxAge xs = r3 at *
  generalize expF xs got = r4 at *
  obtain ⟨n0, i0⟩ := r0; obtain ⟨n1, i1⟩ := r1; obtain ⟨n2, i2⟩ := r2; obtain ⟨n3, i3⟩ := r3; obtain ⟨n4, i4⟩ := r4
  simp only at f0 f1 f2 f3 f4
  have F0 := Lib.hid f0; have F1 := Lib.hid f1; have F2 := Lib.hid f2; have F3 := Lib.hid f3; have F4 := Lib.hid f4
  have X1 := Lib.hid x1; have HW1 := Lib.hid hW1; have B1 := Lib.hid b1
  obtain ⟨L, hL⟩ : ∃ L, lifeR [(n0, i0), (n1, i1), (n2, i2), (n3, i3), (n4, i4)] = L := ⟨_, rfl⟩
  rw [hL]
  have HL := Lib.hid hL
  clear hL hW1 f0 f1 f2 f3 f4 x1 hr hs hE b1 hg
  unfold entV at F0 F1 F2 F3 F4 ⊢
  go_enter Tryz.func19, Tryz.ntmps19
  go_wp2_with fail
  go_step3
  go_wp2_with fail
  go_step3
  go_wp2_with fail
  rw [HW1.out]
  (with_reducible refine (named_any _ _ _).mono ?_)
  rintro e y1 ⟨rfl, p1, q1, z1, hb1⟩
  have P1 := Lib.hid p1; have Q1 := Lib.hid q1; have HB1 := Lib.hid hb1; have Z1 := Lib.hid z1
  clear p1 q1 hb1 z1
  go_wp2_with fail
  (with_reducible refine (named_any _ _ _).mono ?_)
  rintro e y2 ⟨rfl, p2, q2, z2, hb2⟩
  have P2 := Lib.hid p2; have Q2 := Lib.hid q2; have HB2 := Lib.hid hb2; have Z2 := Lib.hid z2
  clear p2 q2 hb2 z2
  go_wp2_with fail
  (with_reducible refine (named_any _ _ _).mono ?_)
  rintro e y3 ⟨rfl, p3, q3, z3, hb3⟩
  have P3 := Lib.hid p3; have Q3 := Lib.hid q3; have HB3 := Lib.hid hb3; have Z3 := Lib.hid z3
  clear p3 q3 hb3 z3
  go_wp2_with fail
  obtain ⟨W5, hW5⟩ : ∃ W, y3.alloc (.cells #[.func (.func 55) #[] #[], .func (.func 113) #[] #[.pointer (some ⟨W1.heap.size, 0, none⟩), .pointer (some ⟨W1.heap.size + 1, 0, none⟩)], .func (.func 113) #[] #[.pointer (some ⟨y1.heap.size, 0, none⟩), .pointer (some ⟨y1.heap.size + 1, 0, none⟩)], .func (.func 113) #[] #[.pointer (some ⟨y2.heap.size, 0, none⟩), .pointer (some ⟨y2.heap.size + 1, 0, none⟩)], .func (.func 57) #[] #[]] 78) = W := ⟨_, rfl⟩
  have b5 : Below y3.heap.size y3 W5 := by rw [← hW5]; exact (Below.refl y3.heap.size y3).alloc (Nat.le_refl _) _
  have a5 : W5.heap[y3.heap.size]? = some (.cells #[.func (.func 55) #[] #[], .func (.func 113) #[] #[.pointer (some ⟨W1.heap.size, 0, none⟩), .pointer (some ⟨W1.heap.size + 1, 0, none⟩)], .func (.func 113) #[] #[.pointer (some ⟨y1.heap.size, 0, none⟩), .pointer (some ⟨y1.heap.size + 1, 0, none⟩)], .func (.func 113) #[] #[.pointer (some ⟨y2.heap.size, 0, none⟩), .pointer (some ⟨y2.heap.size + 1, 0, none⟩)], .func (.func 57) #[] #[]] 78 (0, 0)) := by rw [← hW5]; exact heap_new y3 _ _ rfl
  rw [hW5]
  have hB5 : Below w.heap.size w W5 := bt (bt (bt (bt B1.out HB1.out) HB2.out) HB3.out) b5
  have X5 := Lib.hid ((((X1.out.below HB1.out).below HB2.out).below HB3.out).below b5)
  have s1 := HB1.out.size; have s2 := HB2.out.size; have s3 := HB3.out.size; have s5 := b5.size
  have zz1 := Z1.out; have zz2 := Z2.out; have zz3 := Z3.out
  have P1' := Lib.hid ((b5.cell (p := ⟨W1.heap.size, 0, none⟩) (by show W1.heap.size < _; omega)).trans ((HB3.out.cell (p := ⟨W1.heap.size, 0, none⟩) (by show W1.heap.size < _; omega)).trans ((HB2.out.cell (p := ⟨W1.heap.size, 0, none⟩) (by show W1.heap.size < _; omega)).trans P1.out)))
  have Q1' := Lib.hid ((b5.cell (p := ⟨W1.heap.size + 1, 0, none⟩) (by show W1.heap.size + 1 < _; omega)).trans ((HB3.out.cell (p := ⟨W1.heap.size + 1, 0, none⟩) (by show W1.heap.size + 1 < _; omega)).trans ((HB2.out.cell (p := ⟨W1.heap.size + 1, 0, none⟩) (by show W1.heap.size + 1 < _; omega)).trans Q1.out)))
  have P2' := Lib.hid ((b5.cell (p := ⟨y1.heap.size, 0, none⟩) (by show y1.heap.size < _; omega)).trans ((HB3.out.cell (p := ⟨y1.heap.size, 0, none⟩) (by show y1.heap.size < _; omega)).trans P2.out))
  have Q2' := Lib.hid ((b5.cell (p := ⟨y1.heap.size + 1, 0, none⟩) (by show y1.heap.size + 1 < _; omega)).trans ((HB3.out.cell (p := ⟨y1.heap.size + 1, 0, none⟩) (by show y1.heap.size + 1 < _; omega)).trans Q2.out))
  have P3' := Lib.hid ((b5.cell (p := ⟨y2.heap.size, 0, none⟩) (by show y2.heap.size < _; omega)).trans P3.out)
  have Q3' := Lib.hid ((b5.cell (p := ⟨y2.heap.size + 1, 0, none⟩) (by show y2.heap.size + 1 < _; omega)).trans Q3.out)
  have m1 : W1.heap.size < W5.heap.size := by omega
  have m1' : W1.heap.size + 1 < W5.heap.size := by omega
  have m2 : y1.heap.size < W5.heap.size := by omega
  have m2' : y1.heap.size + 1 < W5.heap.size := by omega
  have m3 : y2.heap.size < W5.heap.size := by omega
  have m3' : y2.heap.size + 1 < W5.heap.size := by omega
  generalize y3.heap.size = R at *
  generalize y2.heap.size = p3 at *
  generalize y1.heap.size = p2 at *
  generalize W1.heap.size = p1 at *
  have HB5 := Lib.hid hB5; have A5 := Lib.hid a5
  have hRl := (of_heap a5 0).2.2
  clear hB5 a5 hW5 b5 s1 s2 s3 s5 zz1 zz2 zz3 P1 P2 P3 Q1 Q2 Q3 Z1 Z2 Z3 HB1 HB2 HB3 X1 B1 HW1
  go_wp2_with fail
  go_loopw [17, 5] (fun i lf wr => ∃ j : Nat, j ≤ 5 ∧ i = .int .i64 j ∧ lf = .int .i64 0 ∧ Hid (lifeR ([(n0, i0), (n1, i1), (n2, i2), (n3, i3), (n4, i4)].drop j) = L) ∧ Below W5.heap.size W5 wr) (fun i _ _ => 5 - (intOf i).toNat)
  case atStart => exact ⟨0, by omega, rfl, rfl, HL, Below.refl _ _⟩
  case round =>
    clear HL
    obtain ⟨j, hj, rfl, rfl, HL, hbw⟩ := hrel
    rcases (by omega : j = 0 ∨ j = 1 ∨ j = 2 ∨ j = 3 ∨ j = 4 ∨ j = 5) with rfl | rfl | rfl | rfl | rfl | rfl
    · have r0 := (hbw.cell (p := ⟨R, 0, none⟩) hRl).trans (of_heap A5.out 0).1
      simp only [List.getElem?_toArray, List.getElem?_cons_zero] at r0
      obtain ⟨W6, hW6⟩ : ∃ W, wr.alloc (.cells #[.func (.func 55) #[] #[]] 78) = W := ⟨_, rfl⟩
      have b6 : Below wr.heap.size wr W6 := by rw [← hW6]; exact (Below.refl wr.heap.size wr).alloc (Nat.le_refl _) _
      have v1 : W6.cell? ⟨wr.heap.size, 0, none⟩ = some (.func (.func 55) #[] #[]) := by rw [← hW6]; exact World.cell?_alloc_mark wr _ _ _ 0
      have hB6 : Below w.heap.size w W6 := bt (bt HB5.out hbw) b6
      have k6 := F0.out W6 hB6
      obtain ⟨c0, c1, c2, c3, c4, c5, c6, c7, cl⟩ := ((X5.out.below hbw).below b6).cells
      have hbw6 := hbw.trans (b6.mono hbw.size)
      have K6 := Lib.hid k6; have HW6 := Lib.hid hW6; have HB6 := Lib.hid hB6; have HBW6 := Lib.hid hbw6
      clear k6 hW6 hB6 b6 hbw6 F0 F1 F2 F3 F4 P1' P2' P3' Q1' Q2' Q3' m1 m1' m2 m2' m3 m3' A5 X5
      cases i0
      · have hl2 : lifeR [(n1, i1), (n2, i2), (n3, i3), (n4, i4)] = L := HL.out
        have HL2 := Lib.hid hl2
        clear hl2 HL
        go_upto_region 5 with (fail)
        rw [HW6.out]
        go_wp2_with fail
        (with_reducible refine K6.out.mono ?_)
        rintro e w7 ⟨rfl, hb7⟩
        have hB7 := HBW6.out.trans (hb7.mono HBW6.out.size)
        clear hb7
        go_wp2
        go_roundw
        case rel => exact ⟨1, by omega, by rfl, rfl, HL2, hB7⟩
        case measure => simp [intOf]
      · have hl2 : n0 = L := HL.out
        have HL2 := Lib.hid hl2
        clear hl2 HL
        go_upto_region 5 with (fail)
        rw [HW6.out]
        go_wp2_with fail
        (with_reducible refine K6.out.mono ?_)
        rintro e w7 ⟨rfl, hb7⟩
        have hB7 := bt HB6.out hb7
        clear hb7
        go_wp2
        rw [Exit.noGoto_ret]
        go_ret
        exact ⟨ret_int HL2.out, hB7⟩
    · have r0 := (hbw.cell (p := ⟨R, 1, none⟩) hRl).trans (of_heap A5.out 1).1
      simp only [List.getElem?_toArray, List.getElem?_cons_succ, List.getElem?_cons_zero] at r0
      obtain ⟨W6, hW6⟩ : ∃ W, wr.alloc (.cells #[.func (.func 113) #[] #[.pointer (some ⟨p1, 0, none⟩), .pointer (some ⟨p1 + 1, 0, none⟩)]] 78) = W := ⟨_, rfl⟩
      have b6 : Below wr.heap.size wr W6 := by rw [← hW6]; exact (Below.refl wr.heap.size wr).alloc (Nat.le_refl _) _
      have v1 : W6.cell? ⟨wr.heap.size, 0, none⟩ = some (.func (.func 113) #[] #[.pointer (some ⟨p1, 0, none⟩), .pointer (some ⟨p1 + 1, 0, none⟩)]) := by rw [← hW6]; exact World.cell?_alloc_mark wr _ _ _ 0
      have hB6 : Below w.heap.size w W6 := bt (bt HB5.out hbw) b6
      have k6 := F1.out p1 (p1 + 1) W6 hB6 ((b6.cell (p := ⟨p1, 0, none⟩) (Nat.lt_of_lt_of_le m1 hbw.size)).trans ((hbw.cell (p := ⟨p1, 0, none⟩) m1).trans P1'.out)) ((b6.cell (p := ⟨p1 + 1, 0, none⟩) (Nat.lt_of_lt_of_le m1' hbw.size)).trans ((hbw.cell (p := ⟨p1 + 1, 0, none⟩) m1').trans Q1'.out)) (Nat.lt_of_lt_of_le (Nat.lt_of_lt_of_le m1 hbw.size) b6.size) (Nat.lt_of_lt_of_le (Nat.lt_of_lt_of_le m1' hbw.size) b6.size)
      obtain ⟨c0, c1, c2, c3, c4, c5, c6, c7, cl⟩ := ((X5.out.below hbw).below b6).cells
      have hbw6 := hbw.trans (b6.mono hbw.size)
      have K6 := Lib.hid k6; have HW6 := Lib.hid hW6; have HB6 := Lib.hid hB6; have HBW6 := Lib.hid hbw6
      clear k6 hW6 hB6 b6 hbw6 F0 F1 F2 F3 F4 P1' P2' P3' Q1' Q2' Q3' m1 m1' m2 m2' m3 m3' A5 X5
      cases i1
      · have hl2 : lifeR [(n2, i2), (n3, i3), (n4, i4)] = L := HL.out
        have HL2 := Lib.hid hl2
        clear hl2 HL
        go_upto_region 5 with (fail)
        rw [HW6.out]
        go_wp2_with fail
        (with_reducible refine K6.out.mono ?_)
        rintro e w7 ⟨rfl, hb7⟩
        have hB7 := HBW6.out.trans (hb7.mono HBW6.out.size)
        clear hb7
        go_wp2
        go_roundw
        case rel => exact ⟨2, by omega, by rfl, rfl, HL2, hB7⟩
        case measure => simp [intOf]
      · have hl2 : n1 = L := HL.out
        have HL2 := Lib.hid hl2
        clear hl2 HL
        go_upto_region 5 with (fail)
        rw [HW6.out]
        go_wp2_with fail
        (with_reducible refine K6.out.mono ?_)
        rintro e w7 ⟨rfl, hb7⟩
        have hB7 := bt HB6.out hb7
        clear hb7
        go_wp2
        rw [Exit.noGoto_ret]
        go_ret
        exact ⟨ret_int HL2.out, hB7⟩
    · have r0 := (hbw.cell (p := ⟨R, 2, none⟩) hRl).trans (of_heap A5.out 2).1
      simp only [List.getElem?_toArray, List.getElem?_cons_succ, List.getElem?_cons_zero] at r0
      obtain ⟨W6, hW6⟩ : ∃ W, wr.alloc (.cells #[.func (.func 113) #[] #[.pointer (some ⟨p2, 0, none⟩), .pointer (some ⟨p2 + 1, 0, none⟩)]] 78) = W := ⟨_, rfl⟩
      have b6 : Below wr.heap.size wr W6 := by rw [← hW6]; exact (Below.refl wr.heap.size wr).alloc (Nat.le_refl _) _
      have v1 : W6.cell? ⟨wr.heap.size, 0, none⟩ = some (.func (.func 113) #[] #[.pointer (some ⟨p2, 0, none⟩), .pointer (some ⟨p2 + 1, 0, none⟩)]) := by rw [← hW6]; exact World.cell?_alloc_mark wr _ _ _ 0
      have hB6 : Below w.heap.size w W6 := bt (bt HB5.out hbw) b6
      have k6 := F2.out p2 (p2 + 1) W6 hB6 ((b6.cell (p := ⟨p2, 0, none⟩) (Nat.lt_of_lt_of_le m2 hbw.size)).trans ((hbw.cell (p := ⟨p2, 0, none⟩) m2).trans P2'.out)) ((b6.cell (p := ⟨p2 + 1, 0, none⟩) (Nat.lt_of_lt_of_le m2' hbw.size)).trans ((hbw.cell (p := ⟨p2 + 1, 0, none⟩) m2').trans Q2'.out)) (Nat.lt_of_lt_of_le (Nat.lt_of_lt_of_le m2 hbw.size) b6.size) (Nat.lt_of_lt_of_le (Nat.lt_of_lt_of_le m2' hbw.size) b6.size)
      obtain ⟨c0, c1, c2, c3, c4, c5, c6, c7, cl⟩ := ((X5.out.below hbw).below b6).cells
      have hbw6 := hbw.trans (b6.mono hbw.size)
      have K6 := Lib.hid k6; have HW6 := Lib.hid hW6; have HB6 := Lib.hid hB6; have HBW6 := Lib.hid hbw6
      clear k6 hW6 hB6 b6 hbw6 F0 F1 F2 F3 F4 P1' P2' P3' Q1' Q2' Q3' m1 m1' m2 m2' m3 m3' A5 X5
      cases i2
      · have hl2 : lifeR [(n3, i3), (n4, i4)] = L := HL.out
        have HL2 := Lib.hid hl2
        clear hl2 HL
        go_upto_region 5 with (fail)
        rw [HW6.out]
        go_wp2_with fail
        (with_reducible refine K6.out.mono ?_)
        rintro e w7 ⟨rfl, hb7⟩
        have hB7 := HBW6.out.trans (hb7.mono HBW6.out.size)
        clear hb7
        go_wp2
        go_roundw
        case rel => exact ⟨3, by omega, by rfl, rfl, HL2, hB7⟩
        case measure => simp [intOf]
      · have hl2 : n2 = L := HL.out
        have HL2 := Lib.hid hl2
        clear hl2 HL
        go_upto_region 5 with (fail)
        rw [HW6.out]
        go_wp2_with fail
        (with_reducible refine K6.out.mono ?_)
        rintro e w7 ⟨rfl, hb7⟩
        have hB7 := bt HB6.out hb7
        clear hb7
        go_wp2
        rw [Exit.noGoto_ret]
        go_ret
        exact ⟨ret_int HL2.out, hB7⟩
    · have r0 := (hbw.cell (p := ⟨R, 3, none⟩) hRl).trans (of_heap A5.out 3).1
      simp only [List.getElem?_toArray, List.getElem?_cons_succ, List.getElem?_cons_zero] at r0
      obtain ⟨W6, hW6⟩ : ∃ W, wr.alloc (.cells #[.func (.func 113) #[] #[.pointer (some ⟨p3, 0, none⟩), .pointer (some ⟨p3 + 1, 0, none⟩)]] 78) = W := ⟨_, rfl⟩
      have b6 : Below wr.heap.size wr W6 := by rw [← hW6]; exact (Below.refl wr.heap.size wr).alloc (Nat.le_refl _) _
      have v1 : W6.cell? ⟨wr.heap.size, 0, none⟩ = some (.func (.func 113) #[] #[.pointer (some ⟨p3, 0, none⟩), .pointer (some ⟨p3 + 1, 0, none⟩)]) := by rw [← hW6]; exact World.cell?_alloc_mark wr _ _ _ 0
      have hB6 : Below w.heap.size w W6 := bt (bt HB5.out hbw) b6
      have k6 := F3.out p3 (p3 + 1) W6 hB6 ((b6.cell (p := ⟨p3, 0, none⟩) (Nat.lt_of_lt_of_le m3 hbw.size)).trans ((hbw.cell (p := ⟨p3, 0, none⟩) m3).trans P3'.out)) ((b6.cell (p := ⟨p3 + 1, 0, none⟩) (Nat.lt_of_lt_of_le m3' hbw.size)).trans ((hbw.cell (p := ⟨p3 + 1, 0, none⟩) m3').trans Q3'.out)) (Nat.lt_of_lt_of_le (Nat.lt_of_lt_of_le m3 hbw.size) b6.size) (Nat.lt_of_lt_of_le (Nat.lt_of_lt_of_le m3' hbw.size) b6.size)
      obtain ⟨c0, c1, c2, c3, c4, c5, c6, c7, cl⟩ := ((X5.out.below hbw).below b6).cells
      have hbw6 := hbw.trans (b6.mono hbw.size)
      have K6 := Lib.hid k6; have HW6 := Lib.hid hW6; have HB6 := Lib.hid hB6; have HBW6 := Lib.hid hbw6
      clear k6 hW6 hB6 b6 hbw6 F0 F1 F2 F3 F4 P1' P2' P3' Q1' Q2' Q3' m1 m1' m2 m2' m3 m3' A5 X5
      cases i3
      · have hl2 : lifeR [(n4, i4)] = L := HL.out
        have HL2 := Lib.hid hl2
        clear hl2 HL
        go_upto_region 5 with (fail)
        rw [HW6.out]
        go_wp2_with fail
        (with_reducible refine K6.out.mono ?_)
        rintro e w7 ⟨rfl, hb7⟩
        have hB7 := HBW6.out.trans (hb7.mono HBW6.out.size)
        clear hb7
        go_wp2
        go_roundw
        case rel => exact ⟨4, by omega, by rfl, rfl, HL2, hB7⟩
        case measure => simp [intOf]
      · have hl2 : n3 = L := HL.out
        have HL2 := Lib.hid hl2
        clear hl2 HL
        go_upto_region 5 with (fail)
        rw [HW6.out]
        go_wp2_with fail
        (with_reducible refine K6.out.mono ?_)
        rintro e w7 ⟨rfl, hb7⟩
        have hB7 := bt HB6.out hb7
        clear hb7
        go_wp2
        rw [Exit.noGoto_ret]
        go_ret
        exact ⟨ret_int HL2.out, hB7⟩
    · have r0 := (hbw.cell (p := ⟨R, 4, none⟩) hRl).trans (of_heap A5.out 4).1
      simp only [List.getElem?_toArray, List.getElem?_cons_succ, List.getElem?_cons_zero] at r0
      obtain ⟨W6, hW6⟩ : ∃ W, wr.alloc (.cells #[.func (.func 57) #[] #[]] 78) = W := ⟨_, rfl⟩
      have b6 : Below wr.heap.size wr W6 := by rw [← hW6]; exact (Below.refl wr.heap.size wr).alloc (Nat.le_refl _) _
      have v1 : W6.cell? ⟨wr.heap.size, 0, none⟩ = some (.func (.func 57) #[] #[]) := by rw [← hW6]; exact World.cell?_alloc_mark wr _ _ _ 0
      have hB6 : Below w.heap.size w W6 := bt (bt HB5.out hbw) b6
      have k6 := F4.out W6 hB6
      obtain ⟨c0, c1, c2, c3, c4, c5, c6, c7, cl⟩ := ((X5.out.below hbw).below b6).cells
      have hbw6 := hbw.trans (b6.mono hbw.size)
      have K6 := Lib.hid k6; have HW6 := Lib.hid hW6; have HB6 := Lib.hid hB6; have HBW6 := Lib.hid hbw6
      clear k6 hW6 hB6 b6 hbw6 F0 F1 F2 F3 F4 P1' P2' P3' Q1' Q2' Q3' m1 m1' m2 m2' m3 m3' A5 X5
      cases i4
      · have hl2 : lifeR [] = L := HL.out
        have HL2 := Lib.hid hl2
        clear hl2 HL
        go_upto_region 5 with (fail)
        rw [HW6.out]
        go_wp2_with fail
        (with_reducible refine K6.out.mono ?_)
        rintro e w7 ⟨rfl, hb7⟩
        have hB7 := HBW6.out.trans (hb7.mono HBW6.out.size)
        clear hb7
        go_wp2
        go_roundw
        case rel => exact ⟨5, by omega, by rfl, rfl, HL2, hB7⟩
        case measure => simp [intOf]
      · have hl2 : n4 = L := HL.out
        have HL2 := Lib.hid hl2
        clear hl2 HL
        go_upto_region 5 with (fail)
        rw [HW6.out]
        go_wp2_with fail
        (with_reducible refine K6.out.mono ?_)
        rintro e w7 ⟨rfl, hb7⟩
        have hB7 := bt HB6.out hb7
        clear hb7
        go_wp2
        rw [Exit.noGoto_ret]
        go_ret
        exact ⟨ret_int HL2.out, hB7⟩
    · have hl2 : (0 : Int) = L := HL.out
      subst hl2
      clear HL F0 F1 F2 F3 F4 P1' P2' P3' Q1' Q2' Q3' m1 m1' m2 m2' m3 m3' A5 X5
      go_wp2
      rw [Exit.noGoto_ret]
      go_ret
      exact ⟨rfl, bt HB5.out hbw⟩
end Go.Proofs.YtcgdcbnhpbokfaaGreatDoor
/- The walks of layer 13's Fresh and Extra (printed by wip/tools/fresh4.py). -/
namespace Go.Proofs.YtcgdcbnhpbokfaaGreatDoor
open Go.RowKit
set_option maxRecDepth 100000

set_option maxHeartbeats 8000000 in
theorem fresh_any (st mi asked got now : Int) (re bo : ByteArray) (A V : Option Addr) (n c m d : Nat) (xs : List Fld) (dev : ByteArray) (w : World) (hE : DEnv w) (hr : Rd A n 2 (fldsV xs) w) (hn : n ≤ 1000) (hs : sumF xs ≤ 800000) (hg : -9223372036854775808 ≤ got ∧ got ≤ 9223372036854775807) (ha : -9223372036854775808 ≤ asked ∧ asked ≤ 9223372036854775807) (hw : -9223372036854775808 ≤ now ∧ now ≤ 9223372036854775807) :
    Calls Tryz.prog 17 #[entV st re mi A n c bo asked got V m d, .int .i64 now, .string dev] w fun e w' => e = .returned (.bool (freshF xs asked got now dev.data.toList)) ∧ Below w.heap.size w w' := by
  obtain ⟨W1, hW1⟩ : ∃ W1, w.alloc (.cells #[.int .i64 st, .string re, .int .i64 mi, .slice A n c, .string bo, .int .i64 asked, .int .i64 got, .slice V m d] 30) = W1 := ⟨_, rfl⟩
  have b1 : Below w.heap.size w W1 := by rw [← hW1]; exact (Below.refl w.heap.size w).alloc (Nat.le_refl _) _
  have x1 : EntAt w.heap.size st re mi A n c bo asked got V m d W1 := by rw [← hW1]; exact heap_new w _ _ rfl
  have kc : ∀ w', Below W1.heap.size W1 w' → w'.cell? ⟨w.heap.size, 0, none⟩ = some (.int .i64 st) ∧ w'.cell? ⟨w.heap.size, 1, none⟩ = some (.string re) ∧ w'.cell? ⟨w.heap.size, 2, none⟩ = some (.int .i64 mi) ∧ w'.cell? ⟨w.heap.size, 3, none⟩ = some (.slice A n c) ∧ w'.cell? ⟨w.heap.size, 4, none⟩ = some (.string bo) ∧ w'.cell? ⟨w.heap.size, 5, none⟩ = some (.int .i64 asked) ∧ w'.cell? ⟨w.heap.size, 6, none⟩ = some (.int .i64 got) ∧ w'.cell? ⟨w.heap.size, 7, none⟩ = some (.slice V m d) ∧ Below W1.heap.size W1 w' := fun w' hb => by
    obtain ⟨a0, a1, a2, a3, a4, a5, a6, a7, _⟩ := (x1.below hb).cells
    exact ⟨a0, a1, a2, a3, a4, a5, a6, a7, hb⟩
  have k1 := fun W (hb : Below w.heap.size w W) => age_any st mi asked got now re bo A V n c m d xs W (hE.below hb) (hr.below hb) hn hs hg ha hw
  have k2 := fun W (hb : Below w.heap.size w W) => life_any st mi asked got re bo A V n c m d xs dev W (hE.below hb) (hr.below hb) hn hs hg
  unfold freshF
  generalize ageF xs asked got now = ag at *
  generalize lifeF xs got dev.data.toList = lf at *
  have K1 := Lib.hid k1; have K2 := Lib.hid k2; have KC := Lib.hid kc; have HW1 := Lib.hid hW1; have B1 := Lib.hid b1
  have hd0 : Below W1.heap.size W1 W1.drew := (Below.refl _ _).drew
  clear k1 k2 kc hW1 b1 x1 hE hr hs hg ha hw
  unfold entV at *
  go_enter Tryz.func17, Tryz.ntmps17
  go_upto_region 1 with (fail)
  rw [HW1.out]
  go_wp2_with fail
  refine wp_region_held_drew (S := (fun w' => w'.cell? ⟨w.heap.size, 0, none⟩ = some (.int .i64 st) ∧ w'.cell? ⟨w.heap.size, 1, none⟩ = some (.string re) ∧ w'.cell? ⟨w.heap.size, 2, none⟩ = some (.int .i64 mi) ∧ w'.cell? ⟨w.heap.size, 3, none⟩ = some (.slice A n c) ∧ w'.cell? ⟨w.heap.size, 4, none⟩ = some (.string bo) ∧ w'.cell? ⟨w.heap.size, 5, none⟩ = some (.int .i64 asked) ∧ w'.cell? ⟨w.heap.size, 6, none⟩ = some (.int .i64 got) ∧ w'.cell? ⟨w.heap.size, 7, none⟩ = some (.slice V m d) ∧ Below W1.heap.size W1 w')) (by kernel_rfl) (KC.out _ hd0) (fun hHeld => ?_)
  refine tkS 0 hHeld ?_
  try simp only [Act.put, ps1, ps2, ps3]
  refine tkS 1 hHeld ?_
  try simp only [Act.put, ps1, ps2, ps3]
  refine tkS 3 hHeld ?_
  try simp only [Act.put, ps1, ps2, ps3]
  refine tkS 4 hHeld ?_
  try simp only [Act.put, ps1, ps2, ps3]
  refine wpAnyH_ready (rs := [2]) (by kernel_rfl) (by simp) (AllReadyH.cons (by simp only [List.getElem?_toArray, List.getElem?_cons_succ, List.getElem?_cons_zero]; exact rfl) (fun K hK => ?_) AllReadyH.nil)
  rw [if_pos (by rfl)]
  go_simp
  refine (K1.out _ (bt B1.out hd0)).mono ?_; rintro e w2 ⟨rfl, hb2⟩; have hd1 := bt hd0 hb2; go_wp2_with fail
  refine hK.out _ _ (KC.out _ hd1) (fun hHeld => ?_)
  clear hK K
  try simp only [Act.put, ps1, ps2, ps3]
  refine wpAnyH_ready (rs := [5]) (by kernel_rfl) (by simp) (AllReadyH.cons (by simp only [List.getElem?_toArray, List.getElem?_cons_succ, List.getElem?_cons_zero]; exact rfl) (fun K hK => ?_) AllReadyH.nil)
  rw [if_pos (by rfl)]
  go_simp
  refine (K2.out _ (bt B1.out hd1)).mono ?_; rintro e w3 ⟨rfl, hb3⟩; have hd2 := bt hd1 hb3; go_wp2_with fail
  refine hK.out _ _ (KC.out _ hd2) (fun hHeld => ?_)
  clear hK K
  try simp only [Act.put, ps1, ps2, ps3]
  refine tkS 6 hHeld ?_
  try simp only [Act.put, ps1, ps2, ps3]
  refine tkS 7 hHeld ?_
  try simp only [Act.put, ps1, ps2, ps3]
  refine wpAnyH_done (by kernel_rfl) ?_ _
  clear hHeld
  go_wp2
  go_ret
  exact ⟨rfl, bt B1.out hd2⟩

set_option maxHeartbeats 4000000 in
theorem extra_any (st mi asked got : Int) (re bo : ByteArray) (A V : Option Addr) (n c m d : Nat) (xs : List Fld) (dev : ByteArray) (w : World) (hM : MaxL w) (hr : Rd A n 2 (fldsV xs) w) (hn : n ≤ 1000) (hs : sumF xs ≤ 800000) :
    Calls Tryz.prog 21 #[entV st re mi A n c bo asked got V m d, .string dev] w fun e w' => e = .returned (.int .i64 (extraF xs dev.data.toList)) ∧ Below w.heap.size w w' := by
  obtain ⟨W1, hW1⟩ : ∃ W1, w.alloc (.cells #[.int .i64 st, .string re, .int .i64 mi, .slice A n c, .string bo, .int .i64 asked, .int .i64 got, .slice V m d] 30) = W1 := ⟨_, rfl⟩
  have b1 : Below w.heap.size w W1 := by rw [← hW1]; exact (Below.refl w.heap.size w).alloc (Nat.le_refl _) _
  have x1 : EntAt w.heap.size st re mi A n c bo asked got V m d W1 := by rw [← hW1]; exact heap_new w _ _ rfl
  have k1 := control_any st mi asked got re bo A V n c m d xs dev W1 (hM.below b1) (hr.below b1) hn hs
  unfold extraF
  generalize ctlF xs dev.data.toList = k at *
  obtain ⟨a, b, e, h, ag, ex⟩ := k
  unfold ctlV at k1
  simp only at k1 ⊢
  have hf5 : ∀ w : World, (Instr.field 88 (.agg #[.bool a, .bool b, .bool e, .bool h, .int .i64 ag, .int .i64 ex]) 5).run Tryz.prog w = .ok (.int .i64 ex) w := fun _ => by kernel_rfl
  obtain ⟨c0, c1, c2, c3, c4, c5, c6, c7, cl⟩ := x1.cells
  have K1 := Lib.hid k1; have HW1 := Lib.hid hW1; have B1 := Lib.hid b1
  clear k1 hW1 b1 x1 hr hs hM
  unfold entV at *
  go_enter Tryz.func21, Tryz.ntmps21
  go_wp2_with fail
  rw [HW1.out]
  (with_reducible refine K1.out.mono ?_)
  rintro e w2 ⟨rfl, hb2⟩
  go_wp2
  go_ret
  exact ⟨rfl, bt B1.out hb2⟩
end Go.Proofs.YtcgdcbnhpbokfaaGreatDoor
/- The walk of etag.Parse. -/
namespace Go.Proofs.YtcgdcbnhpbokfaaGreatDoor
open Go.RowKit
set_option maxHeartbeats 1000000 in
theorem parse_yes (a : ByteArray) (w : World) (ha : a.size ≤ 8000) (h : (ent a).right = true) :
    Calls Tryz.prog 87 #[.string a] w fun e w' => e = .returned (.tuple #[.bool (ent a).weak, .string (ent a).tag, .int .i64 0]) ∧ Below w.heap.size w w' := by
  have hr := rd a
  unfold Ent.val at hr
  rw [h] at hr
  have H := Lib.hid hr
  clear h hr
  generalize (ent a).weak = wk at *
  generalize (ent a).tag = tg at *
  go_enter Tryz.func87, Tryz.ntmps87
  go_wp2_with (go_at_call 94; refine (H.out _ ha).mono ?_; rintro e w' ⟨rfl, hb⟩)
  go_quiet (fail)
  go_wp2
  go_ret3
  exact ⟨rfl, Go.below_drewN (hb.alloc hb.size _) _⟩
set_option maxHeartbeats 1000000 in
theorem parse_no (a : ByteArray) (w : World) (ha : a.size ≤ 8000) (h : (ent a).right = false) :
    Calls Tryz.prog 87 #[.string a] w fun e w' => e = .returned (.tuple #[.bool false, .string empt, .int .i64 4]) ∧ Below w.heap.size w w' := by
  have hr := rd a
  unfold Ent.val at hr
  rw [h] at hr
  have H := Lib.hid hr
  clear h hr
  generalize (ent a).weak = wk at *
  generalize (ent a).tag = tg at *
  go_enter Tryz.func87, Tryz.ntmps87
  go_wp2_with (go_at_call 94; refine (H.out _ ha).mono ?_; rintro e w' ⟨rfl, hb⟩)
  go_ret3
  exact ⟨rfl, hb.alloc hb.size _⟩

def Ent.parse (x : Ent) : Value := bif x.right then .tuple #[.bool x.weak, .string x.tag, .int .i64 0] else .tuple #[.bool false, .string empt, .int .i64 4]
theorem parse_any (a : ByteArray) (w : World) (ha : a.size ≤ 8000) :
    Calls Tryz.prog 87 #[.string a] w fun e w' => e = .returned (ent a).parse ∧ Below w.heap.size w w' := by
  unfold Ent.parse
  cases h : (ent a).right
  · exact parse_no a w ha h
  · exact parse_yes a w ha h
end Go.Proofs.YtcgdcbnhpbokfaaGreatDoor
/- A map from texts to counts that the call made; rows that stay where they are while it is written. -/
namespace Go.Proofs.YtcgdcbnhpbokfaaGreatDoor
open Go.RowKit Go.WideMaps Go.Maps

theorem kStr : Keyed Tryz.prog 9 := string_keyed Tryz.underlying9
theorem zInt (w : World) : (zeroValue 3).run Tryz.prog w = .ok (.int .i64 0) w := by kernel_rfl
theorem keyStr {l : List UInt8} (h : l.length ≤ 1000000000) : keyOf Tryz.prog 9 (.string ⟨l.toArray⟩) = some (.string l) := by
  have := keyOf_string_mk (P := Tryz.prog) Tryz.underlying9 (s := ⟨l.toArray⟩) (by rw [Lib.size_eq]; show l.length ≤ _; unfold maxLen; omega)
  simpa using this
/-- Block M is a map of counts. -/
def Met (M n : Nat) (f : List UInt8 → Int) (w : World) : Prop :=
  ∃ D : DataW Unit, w.ownsMap Tryz.prog 9 (plainElem Tryz.prog 3) M n D ∧ IsMap D ∧ ∀ l : List UInt8, D.atKey (.string l) (.lit (.int .i64 0)) = .lit (.int .i64 (f l))
theorem Met.start (w : World) : Met w.heap.size 0 (fun _ => 0) (w.alloc (.map #[] 0)) := ⟨.map [], World.ownsMap_made _ _ _ _, isMap_empty, fun l => by simp [DataW.atKey]⟩
theorem Met.kept {M n : Nat} {f : List UInt8 → Int} {w w1 : World} {row : Option Nat} (h : Met M n f w) (hg : w.grownBy w1 row) (hne : some M ≠ row) : Met M n f w1 := by
  obtain ⟨D, h1, h2, h3⟩ := h
  exact ⟨D, h1.kept hg hne, h2, h3⟩
theorem grown_below {w w1 : World} (h : Below w.heap.size w w1) (row : Option Nat) : w.grownBy w1 row := ⟨h.os, h.tape, h.output, h.size, fun k hk _ => h.block k hk⟩
theorem Met.below {M n : Nat} {f : List UInt8 → Int} {w w1 : World} (h : Met M n f w) (hb : Below w.heap.size w w1) : Met M n f w1 := h.kept (grown_below hb none) (by simp)
theorem Met.map {M n : Nat} {f : List UInt8 → Int} {w : World} (h : Met M n f w) : ∃ es c, w.heap[M]? = some (.map es c) := by
  obtain ⟨D, ⟨es, c, h1, _⟩, _⟩ := h
  exact ⟨es, c, h1⟩
theorem not_map {w : World} {M : Nat} {e : TypeId} {size B n : Nat} {v : Value} {xs : List Value} {es : Array MapEntry} {c : Nat} (hm : w.heap[M]? = some (.map es c)) (h : w.ownsRow B e size v n xs) : some M ≠ v.ownBlock := by
  intro he
  rcases h.2 with ⟨rfl, _⟩ | ⟨g, cap, cur, rfl, _, hh, _⟩
  · simp [Value.ownBlock] at he
  · have : g = M := by simpa [Value.ownBlock] using he.symm
    subst this
    rw [hh] at hm; cases hm
theorem Met.far {M n B : Nat} {e : TypeId} {size m : Nat} {f : List UInt8 → Int} {w w1 : World} {v v' : Value} {xs : List Value} (h : Met M n f w) (ho : w.ownsRow B e size v m xs) (hf : Far w w1 v v') : Met M n f w1 := by
  obtain ⟨es, c, hm⟩ := h.map
  exact h.kept hf.1 (not_map hm ho)
theorem Rd.grown {A : Option Addr} {n size : Nat} {xs : List Value} {w w1 : World} {row : Option Nat} (h : Rd A n size xs w) (hg : w.grownBy w1 row) (hne : 0 < n → ∀ g o, A = some ⟨g, o, none⟩ → row ≠ some g) : Rd A n size xs w1 := by
  refine ⟨h.1, fun hn => ?_⟩
  obtain ⟨b, o, e, hl, hc⟩ := h.2 hn
  have hb := hg.block b hl (fun x => hne hn b o e x.symm)
  exact ⟨b, o, e, Nat.lt_of_lt_of_le hl hg.size, fun j u hu => (World.cell?_of_block (a := ⟨b, o + j, none⟩) hb).trans (hc j u hu)⟩
theorem rd_not_map {A : Option Addr} {n size : Nat} {xs : List Value} {w : World} {M : Nat} {es : Array MapEntry} {c : Nat} (h : Rd A n size xs w) (hs : 0 < size) (hm : w.heap[M]? = some (.map es c)) : 0 < n → ∀ g o, A = some ⟨g, o, none⟩ → some M ≠ some g := by
  intro hn g o e he
  obtain ⟨b, o', e', hl, hc⟩ := h.2 hn
  rw [e'] at e
  cases e
  cases he
  have hp : 0 < n * size := Nat.mul_pos hn hs
  have h0 := hc 0 (xs[0]'(by rw [h.1]; exact hp)) (List.getElem?_eq_getElem _)
  simp [World.cell?, hm] at h0
theorem own_grown {B : Nat} {e : TypeId} {size m : Nat} {v : Value} {xs : List Value} {w w1 : World} {row : Option Nat} (h : w.ownsRow B e size v m xs) (hg : w.grownBy w1 row) (hne : row ≠ v.ownBlock ∨ v.ownBlock = none) : w1.ownsRow B e size v m xs := by
  obtain ⟨h1, h2⟩ := h
  refine ⟨h1, ?_⟩
  rcases h2 with h2 | ⟨g, cap, cur, rfl, hb, hh, r⟩
  · exact Or.inl h2
  · refine Or.inr ⟨g, cap, cur, rfl, hb, ?_, r⟩
    have hlt : g < w.heap.size := by
      rcases Nat.lt_or_ge g w.heap.size with h' | h'
      · exact h'
      · simp [Array.getElem?_eq_none h'] at hh
    rw [hg.block g hlt (by
      rcases hne with h | h
      · exact fun x => h x.symm
      · simp [Value.ownBlock] at h)]
    exact hh
end Go.Proofs.YtcgdcbnhpbokfaaGreatDoor
/- The walk of vary.Names. -/
namespace Go.Proofs.YtcgdcbnhpbokfaaGreatDoor
open Go.RowKit Go.WideMaps Go.Maps

/-- A reply, by value. -/
def repV (st : Int) (re : ByteArray) (mi : Int) (fa : Option Addr) (fn fc : Nat) (bo : ByteArray) : Value := .agg #[.int .i64 st, .string re, .int .i64 mi, .slice fa fn fc, .string bo]
def NamesPost (w : World) (o : Option (List (List UInt8))) (e : Ending) (w' : World) : Prop :=
  ∃ a cap, e = .returned (.tuple #[.slice a (optL o).length cap, .bool o.isSome]) ∧ OwnS w.heap.size (.slice a (optL o).length cap) (optL o) w' ∧ Below w.heap.size w w'
theorem NamesPost.none {w w' : World} (h : Below w.heap.size w w') : NamesPost w Option.none (.returned (.tuple #[.slice Option.none 0 0, .bool false])) w' := ⟨Option.none, 0, rfl, OwnS.nil _ _, h⟩
def tailO (o : Option (List (List UInt8))) (rest : List (List UInt8)) : Option (List (List UInt8)) := match o with | none => none | some a => namesVs a rest

set_option maxRecDepth 100000 in
set_option maxHeartbeats 4000000 in
theorem vnames_any (st : Int) (re : ByteArray) (mi : Int) (A : Option Addr) (n c : Nat) (bo : ByteArray) (xs : List Fld) (w : World) (hr : Rd A n 2 (fldsV xs) w) (hn : n ≤ 1000) (hs : ∀ f ∈ xs, f.1.length ≤ 1000000 ∧ f.2.length ≤ 1000000) :
    Calls Tryz.prog 72 #[repV st re mi A n c bo] w (NamesPost w (namesO xs)) := by
  have hmm := @run_makeMap Tryz.prog
  obtain ⟨W0, hW0⟩ : ∃ W0, w.alloc (.cells #[.int .i64 st, .string re, .int .i64 mi, .slice A n c, .string bo] 26) = W0 := ⟨_, rfl⟩
  have hB0 : Below w.heap.size w W0 := by rw [← hW0]; exact (Below.refl w.heap.size w).alloc (Nat.le_refl _) _
  have hV0 : W0.cell? ⟨w.heap.size, 3, none⟩ = some (.slice A n c) := by rw [← hW0]; exact World.cell?_alloc_mark w _ _ _ 3
  have hz0 : W0.heap.size = w.heap.size + 1 := by rw [← hW0]; simp
  have k0 := fun W (hb : Below w.heap.size w W) => values_any A n c xs ⟨varyW.toArray⟩ W (hr.below hb) (by omega) (fun f hf => (hs f hf).1) (by decide)
  have hvl := valuesL_le xs varyW
  have hxn := hr.fld
  have hvb : ∀ v ∈ valuesL xs varyW, v.length ≤ 1000000 := by
    intro v hv
    obtain ⟨f, hf, e⟩ := valuesL_mem hv
    rw [← e]; exact (hs f hf).2
  have hvn : (valuesL xs varyW).length ≤ 1000 := by omega
  simp only at k0
  obtain ⟨tot, htot⟩ : ∃ t, namesO xs = t := ⟨_, rfl⟩
  rw [htot]
  have ht2 : namesVs [] (valuesL xs varyW) = tot := htot
  clear hvl hxn hr hs htot
  generalize valuesL xs varyW = vs at *
  have K0 := Lib.hid k0; have HVB := Lib.hid hvb; have HT := Lib.hid ht2; have HW0 := Lib.hid hW0; have HZ0 := Lib.hid hz0; clear k0 hvb ht2 hW0 hz0
  unfold repV
  go_enter Tryz.func72, Tryz.ntmps72
  go_upto_region 1 with (fail)
  rw [HW0.out]
  have hV1 := (World.cell?_alloc_lt W0 (.map #[] 0) ⟨w.heap.size, 3, none⟩ (by show w.heap.size < W0.heap.size; have := HZ0.out; omega)).trans hV0
  go_wp2_with fail
  clear hmm hV1
  have hB1 := hB0.alloc hB0.size (.map #[] 0)
  refine (K0.out _ hB1).mono ?_
  rintro e w2 ⟨va, vc, rfl, ho2, hb2⟩
  have hMet0 := (Met.start W0).below hb2
  have HV := Lib.hid ho2.rd.2
  have hB2 := hB1.trans (hb2.mono hB1.size)
  have hM : W0.heap.size < w2.heap.size := by have := hb2.size; simp at this; omega
  have hMw : w.heap.size ≤ W0.heap.size := hB0.size
  clear ho2 hb2 hB1 hB0 hV0
  generalize W0.heap.size = M at *
  have hnm : 0 < vs.length → ∀ g o, va = some ⟨g, o, none⟩ → some M ≠ some g := by
    obtain ⟨es, cl, hm⟩ := hMet0.map
    exact rd_not_map HV.out (by decide) hm
  have HM0 := Lib.hid hMet0; have HNM := Lib.hid hnm; clear hMet0 hnm
  have hg0 := World.grownBy.refl w2 (some M)
  go_wp2_with fail
  go_loopw [18, 5] (fun i l wr => ∃ (k q : Nat) (acc : List (List UInt8)) (f : List UInt8 → Int), k ≤ vs.length ∧ i = .int .i64 k ∧ q ≤ 64 * k ∧ acc.length ≤ q ∧ Hid (OwnS w2.heap.size l acc wr ∧ Met M q f wr ∧ Count f acc q) ∧ w2.grownBy wr (some M) ∧ Hid (namesVs acc (vs.drop k) = tot)) (fun i _ _ => vs.length - (intOf i).toNat)
  case atStart => exact ⟨0, 0, [], fun _ => 0, Nat.zero_le _, rfl, by omega, by simp, Lib.hid ⟨OwnS.nil _ _, HM0.out, Count.start⟩, hg0, by rw [List.drop_zero]; exact HT⟩
  case round =>
    clear hg0 HM0 HT
    obtain ⟨k, q, acc, f, hk, rfl, hq, hacc, HO, hgr, HT⟩ := hrel
    have hVr := HV.out.grown hgr HNM.out
    by_cases hlt : k < vs.length
    · obtain ⟨b, o, rfl, hl, c1⟩ := hVr.str_at (k := k) hlt
      have hv := HVB.out vs[k] (List.getElem_mem _)
      have hdr := HT.out
      rw [drop_consL vs k hlt] at hdr
      generalize vs[k] = v at *
      rw [namesVs] at hdr
      have hpl := splitL_le' 44 v
      have hpt := Nat.le_trans (split_total 44 v) hv
      have k1 := fun w => split_any ⟨v.toArray⟩ 44 w (by rw [Lib.size_eq]; exact hv)
      simp only at k1
      generalize splitL 44 v = r at *
      obtain ⟨ps, er⟩ := r
      simp only at hpl hpt hdr
      have K1 := Lib.hid k1; have HD := Lib.hid hdr
      clear k1 hdr hv hVr
      go_wp2_with fail
      refine (K1.out _).mono ?_
      rintro e w3 ⟨pa, pc, rfl, ho3, hb3⟩
      simp only at ho3
      have hbw : Below w.heap.size w w3 := by
        refine (hB2.trans ?_).trans (hb3.mono (by have := hgr.size; have := hB2.size; omega))
        exact ⟨hgr.os, hgr.tape, hgr.output, hgr.size, fun j hj => hgr.block j (by have := hB2.size; omega) (by intro x; cases x; omega)⟩
      cases he : (er == 0)
      · have n1 : (er != 0) = true := by simp [bne, he]
        have hd := HD.out
        rw [he, cond_false] at hd
        subst hd
        go_wp2
        go_ret2
        exact NamesPost.none hbw
      · have n1 : (er != 0) = false := by simp [bne, he]
        have hd := HD.out
        rw [he, cond_true] at hd
        have hd2 : tailO (namesPs acc ps) (vs.drop (k + 1)) = tot := hd
        obtain ⟨tp, htp⟩ : ∃ t, namesPs acc ps = t := ⟨_, rfl⟩
        rw [htp] at hd2
        have HD2 := Lib.hid hd2; have HTP := Lib.hid htp
        clear hd hd2 htp HD HT
        have hst : Hid (OwnS w2.heap.size u5 acc w3 ∧ Met M q f w3 ∧ Count f acc q ∧ Rd pa ps.length 1 (strsV ps) w3 ∧ Sep u5 pa ps.length) := by
          refine Lib.hid ⟨HO.out.1.below hb3, HO.out.2.1.below hb3, HO.out.2.2, ho3.rd.2, ?_⟩
          intro _ g o e x
          have h1 := (HO.out.1.lt g x).2
          have h2 := own_new ho3 g o e
          omega
        have hpm : 0 < ps.length → ∀ g o, pa = some ⟨g, o, none⟩ → some M ≠ some g := by
          intro hp
          obtain ⟨es, cl, hm⟩ := (HO.out.2.1.below hb3).map
          exact rd_not_map ho3.rd.2 (by decide) hm hp
        have HPM := Lib.hid hpm; clear hpm
        have hgr3 : w2.grownBy w3 (some M) := hgr.trans ⟨hb3.os, hb3.tape, hb3.output, hb3.size, fun j hj _ => hb3.block j hj⟩
        clear HO ho3 hb3 hbw hgr K1 c1
        go_wp2_with fail
        obtain ⟨wo, rfl⟩ : ∃ wo : World, wo = wr := ⟨_, rfl⟩
        go_loopw [31, 5] (fun j l wi => ∃ (m q2 : Nat) (ac : List (List UInt8)) (f2 : List UInt8 → Int), m ≤ ps.length ∧ j = .int .i64 m ∧ q2 ≤ q + m ∧ ac.length ≤ q2 ∧ Hid (OwnS w2.heap.size l ac wi ∧ Met M q2 f2 wi ∧ Count f2 ac q2 ∧ Rd pa ps.length 1 (strsV ps) wi ∧ Sep l pa ps.length) ∧ w2.grownBy wi (some M) ∧ Hid (namesPs ac (ps.drop m) = tp)) (fun j _ _ => ps.length - (intOf j).toNat)
        case atStart => exact ⟨0, q, acc, f, Nat.zero_le _, rfl, by omega, hacc, hst, hgr3, by rw [List.drop_zero]; exact HTP⟩
        case round =>
          clear hst hgr3 HTP
          obtain ⟨m, q2, ac, f2, hm, rfl, hq2, hac, HI, hgi, HTP⟩ := hrel
          by_cases hlm : m < ps.length
          · obtain ⟨b2, o2, rfl, hl2, c2⟩ := HI.out.2.2.2.1.str_at (k := m) hlm
            have hpp := Nat.le_trans (total_mem (List.getElem_mem hlm)) hpt
            have hdr := HTP.out
            rw [drop_consL ps m hlm, namesPs] at hdr
            generalize ps[m] = p at *
            have hll : (lowerL p).length ≤ 1000000 := by rw [lower_length]; exact hpp
            have k4 := fun w => lower_any ⟨p.toArray⟩ w (by rw [Lib.size_eq]; exact hpp)
            simp only at k4
            generalize lowerL p = nm at *
            have k5 := fun w => token_any ⟨nm.toArray⟩ w (by rw [Lib.size_eq]; exact hll)
            simp only at k5
            have hkey := keyStr (l := nm) (by omega)
            have K4 := Lib.hid k4; have K5 := Lib.hid k5; have HD := Lib.hid hdr; have HKEY := Lib.hid hkey
            clear k4 k5 hdr hkey hpp
            go_wp2_with fail
            refine (K4.out _).mono ?_
            rintro e w4 ⟨rfl, hb4⟩
            obtain ⟨D, hown, hmap, hval⟩ := HI.out.2.1.below hb4
            have hcnt := HI.out.2.2.1
            have hb1 := hcnt.1 nm
            have hst4 : Hid (OwnS w2.heap.size u5 ac w4 ∧ Rd (some ⟨b2, o2, none⟩) ps.length 1 (strsV ps) w4) := Lib.hid ⟨HI.out.1.below hb4, HI.out.2.2.2.1.below hb4⟩
            have hsep := HI.out.2.2.2.2
            have hne5 : some M ≠ u5.ownBlock := by
              obtain ⟨es, cl, hm⟩ := (HI.out.2.1.below hb4).map
              exact not_map hm hst4.out.1
            have hgr4 : w2.grownBy w4 (some M) := hgi.trans ⟨hb4.os, hb4.tape, hb4.output, hb4.size, fun j hj _ => hb4.block j hj⟩
            have HOWN := Lib.hid hown; have HVAL := Lib.hid hval; have HCNT := Lib.hid hcnt; have HSEP := Lib.hid hsep; have HNE5 := Lib.hid hne5
            clear hown hval hcnt hsep hne5 HI hgi hb4 c2
            go_wp2_with (at_lookup; refine wpList_lookup_own_int _ rfl _ _ 151 rfl 9 3 .i64 kStr Tryz.underlying151 Tryz.underlying3 (zInt _) M q2 D rfl HOWN.out _ _ rfl HKEY.out ?_)
            intro c0 hat hwc
            have hcf : c0 = f2 nm := by
              have := HVAL.out nm
              rw [hat] at this
              injection this with h
              injection h
            have hc1 : 0 ≤ c0 := by rw [hcf]; exact hb1.1
            have hc2 : c0 ≤ q2 := by rw [hcf]; exact hb1.2
            have HCF := Lib.hid hcf
            clear hat hwc hcf
            go_wp2_with (at_mapUpdate; refine wpList_mapUpdate_own _ rfl _ _ _ 151 rfl 9 3 kStr Tryz.underlying151 (plainElem Tryz.prog 3) M q2 D rfl HOWN.out (by unfold maxLen; omega) _ _ (.string nm) rfl rfl HKEY.out _ [] (plainElem_int Tryz.underlying3 (WalkArith.wf_i64 (by omega))) ?_)
            intro w5 hown5 hgrow5
            have hmet5 : Met M (q2 + 1) (bump f2 nm) w5 := by
              refine ⟨_, hown5, hmap.put _ _, fun l => ?_⟩
              unfold bump
              by_cases e : l = nm
              · subst e
                rw [if_pos rfl, atKey_put_same hmap (show WideAt.IsKeyLit (.string l) from trivial), HCF.out]
              · rw [if_neg e, atKey_put_other (by intro x; injection x with x; exact e x)]
                exact HVAL.out l
            have hcnt5 := HCNT.out.step nm
            have hst5 : Hid (OwnS w2.heap.size u5 ac w5 ∧ Rd (some ⟨b2, o2, none⟩) ps.length 1 (strsV ps) w5) := by
              refine Lib.hid ⟨own_grown hst4.out.1 hgrow5 (Or.inl HNE5.out), hst4.out.2.grown hgrow5 HPM.out⟩
            have hgr5 : w2.grownBy w5 (some M) := hgr4.trans hgrow5
            have HM5 := Lib.hid hmet5; have HC5 := Lib.hid hcnt5
            clear hmet5 hcnt5 hown5 hgrow5 hgr4 hst4 HOWN HVAL
            have hbw5 : Below w.heap.size w w5 := hB2.trans ⟨hgr5.os, hgr5.tape, hgr5.output, hgr5.size, fun j hj => hgr5.block j (by have := hB2.size; omega) (by intro x; cases x; omega)⟩
            cases htk : tokenL nm
            · have ht : tot = none := by
                have h1 := HD.out
                have : nameOk nm = false := by unfold nameOk; rw [htk]; rfl
                rw [this, cond_false] at h1
                have h2 := HD2.out
                rw [← h1] at h2
                exact h2.symm
              subst ht
              have HTK := Lib.hid htk; clear htk
              go_wp2_with (go_at_call 132; refine (K5.out _).mono ?_; rintro e w6 ⟨rfl, rfl⟩; rw [HTK.out])
              go_ret2
              exact NamesPost.none hbw5
            · cases hst : (nm == [42])
              · have hok : nameOk nm = true := by unfold nameOk; rw [htk, hst]; rfl
                have h1 := HD.out
                rw [hok, cond_true] at h1
                have HN := Lib.hid h1
                have HTK := Lib.hid htk
                clear htk h1 hok HD
                go_wp2_with (first | (go_at_call 132; refine (K5.out _).mono ?_; rintro e w6 ⟨rfl, rfl⟩; rw [HTK.out]) | (at_lookup; refine wpList_lookup_own_int _ rfl _ _ 151 rfl 9 3 .i64 kStr Tryz.underlying151 Tryz.underlying3 (zInt _) M (q2 + 1) (HM5.out).choose rfl (HM5.out).choose_spec.1 _ _ rfl HKEY.out ?_))
                intro c3 hat3 hwc3
                have hc3 : c3 = bump f2 nm nm := by
                  have := (HM5.out).choose_spec.2.2 nm
                  rw [hat3] at this
                  injection this with h
                  injection h
                have hbn : bump f2 nm nm = f2 nm + 1 := by unfold bump; rw [if_pos rfl]
                rw [hbn] at hc3
                have hz := HCNT.out.2 nm
                have HC3 := Lib.hid hc3
                clear hat3 hwc3 hc3 hbn
                cases hct : ac.contains nm
                · have h0 : f2 nm = 0 := hz.2 hct
                  have t1 : (c3 == 1) = true := by rw [HC3.out, h0]; rfl
                  have hadd : addN ac nm = ac ++ [nm] := by unfold addN; rw [hct]; rfl
                  have HADD := Lib.hid hadd
                  clear hz hct h0 hadd hst
                  go_wp2_with (at_builtin; refine app_str w2.heap.size nm hst5.out.1 hgr5.size (by omega) rfl _ _ rfl rfl rfl ?_)
                  intro v' w7 hO7 hb7 hfar7
                  have hI7 : Hid (OwnS w2.heap.size v' (addN ac nm) w7 ∧ Met M (q2 + 1) (bump f2 nm) w7 ∧ Count (bump f2 nm) (addN ac nm) (q2 + 1) ∧ Rd (some ⟨b2, o2, none⟩) ps.length 1 (strsV ps) w7 ∧ Sep v' (some ⟨b2, o2, none⟩) ps.length) := by
                    obtain ⟨r1, r2⟩ := hst5.out.2.far hfar7 HSEP.out
                    refine Lib.hid ⟨?_, HM5.out.far hst5.out.1 hfar7, HC5.out, r1, r2⟩
                    rw [HADD.out]; exact hO7
                  have hgr7 : w2.grownBy w7 (some M) := ⟨hb7.os.trans hgr5.os, hb7.tape.trans hgr5.tape, hb7.output.trans hgr5.output, Nat.le_trans hgr5.size hb7.size, fun j hj hne => (hb7.block j hj).trans (hgr5.block j hj hne)⟩
                  have hal := addN_le ac nm
                  clear hO7 hb7 hfar7 hst5 HM5
                  go_wp2
                  go_roundw
                  case rel => exact ⟨m + 1, q2 + 1, addN ac nm, bump f2 nm, by omega, by go_num, by omega, by omega, hI7, hgr7, HN⟩
                  case measure => simp [intOf]; omega
                · have h0 : f2 nm ≠ 0 := fun h => by have := hz.1 h; rw [hct] at this; cases this
                  have t1 : (c3 == 1) = false := by rw [beq_eq_false_iff_ne, HC3.out]; omega
                  have hadd : addN ac nm = ac := by unfold addN; rw [hct]; rfl
                  have hI7 : Hid (OwnS w2.heap.size u5 (addN ac nm) w5 ∧ Met M (q2 + 1) (bump f2 nm) w5 ∧ Count (bump f2 nm) (addN ac nm) (q2 + 1) ∧ Rd (some ⟨b2, o2, none⟩) ps.length 1 (strsV ps) w5 ∧ Sep u5 (some ⟨b2, o2, none⟩) ps.length) :=
                    Lib.hid ⟨by rw [hadd]; exact hst5.out.1, HM5.out, HC5.out, hst5.out.2, HSEP.out⟩
                  have hal := addN_le ac nm
                  clear hz hct h0 hadd hst hst5 HM5
                  go_wp2
                  go_roundw
                  case rel => exact ⟨m + 1, q2 + 1, addN ac nm, bump f2 nm, by omega, by go_num, by omega, by omega, hI7, hgr5, HN⟩
                  case measure => simp [intOf]; omega
              · have ht : tot = none := by
                  have h1 := HD.out
                  have : nameOk nm = false := by unfold nameOk; rw [htk, hst]; rfl
                  rw [this, cond_false] at h1
                  have h2 := HD2.out
                  rw [← h1] at h2
                  exact h2.symm
                subst ht
                have HTK := Lib.hid htk; clear htk
                go_wp2_with (go_at_call 132; refine (K5.out _).mono ?_; rintro e w6 ⟨rfl, rfl⟩; rw [HTK.out])
                go_ret2
                exact NamesPost.none hbw5
          · have hme : m = ps.length := by omega
            subst hme
            have h1 := HTP.out
            rw [List.drop_length, namesPs] at h1
            have h2 := HD2.out
            rw [← h1] at h2
            have HT2 : Hid (namesVs ac (vs.drop (k + 1)) = tot) := Lib.hid h2
            have hI : Hid (OwnS w2.heap.size u5 ac wr ∧ Met M q2 f2 wr ∧ Count f2 ac q2) := Lib.hid ⟨HI.out.1, HI.out.2.1, HI.out.2.2.1⟩
            clear HI h1 h2 HTP HD2
            go_wp2
            go_roundw
            case rel => exact ⟨k + 1, q2, ac, f2, by omega, by go_num, by omega, by omega, hI, hgi, HT2⟩
            case measure => simp [intOf]; omega
    · have hke : k = vs.length := by omega
      subst hke
      have ht := HT.out
      rw [List.drop_length, namesVs] at ht
      subst ht
      obtain ⟨la, lc, rfl⟩ := HO.out.1.shape
      have hbw : Below w.heap.size w wr := hB2.trans ⟨hgr.os, hgr.tape, hgr.output, hgr.size, fun j hj => hgr.block j (by have := hB2.size; omega) (by intro x; cases x; omega)⟩
      go_wp2
      go_ret2
      exact ⟨la, lc, rfl, HO.out.1.base hB2.size, hbw⟩
end Go.Proofs.YtcgdcbnhpbokfaaGreatDoor
/- The walks of storable.has, storable.valid and the closures of storable.May (printed by wip/tools/stor1.py). -/
namespace Go.Proofs.YtcgdcbnhpbokfaaGreatDoor
open Go.RowKit
set_option maxRecDepth 100000

set_option maxHeartbeats 4000000 in
theorem indexHas_any (p1 : Value) (q : List UInt8 → Bool) (A : Option Addr) (n c : Nat) (ls : List (List UInt8)) (w : World) (hr : Rd A n 1 (strsV ls) w) (hn : n ≤ 1000000)
    (hc : ∀ l ∈ ls, ∀ W, Below w.heap.size w W → Calls Tryz.prog 130 #[.string ⟨l.toArray⟩, p1] W fun e W' => e = .returned (.bool (q l)) ∧ Below W.heap.size W W') :
    Calls Tryz.prog 95 #[.slice A n c, .func (.func 130) #[] #[p1]] w (AnyPost q ls w) := by
  obtain rfl := hr.str
  have hB := Below.refl w.heap.size w
  have HR := Lib.hid hr; have HC := Lib.hid hc; clear hr hc
  go_enter Tryz.func95, Tryz.ntmps95
  go_wp2
  go_loopw [8] (fun i wr => ∃ k : Nat, k ≤ ls.length ∧ i = .int .i64 k ∧ Hid ((ls.take k).any q = false) ∧ Below w.heap.size w wr) (fun i _ => ls.length - (intOf i).toNat)
  case atStart => exact ⟨0, Nat.zero_le _, rfl, Lib.hid rfl, hB⟩
  case round =>
    clear hB
    obtain ⟨k, hk, rfl, HA, hbw⟩ := hrel
    by_cases hlt : k < ls.length
    · obtain ⟨b, o, rfl, hl, c1⟩ := (HR.out.below hbw).str_at (k := k) hlt
      have k1 := HC.out ls[k] (List.getElem_mem _) wr hbw
      have hbad : q ls[k] = true → Hid (decide ((0 : Int) ≤ (k : Int)) = ls.any q) := by
        intro h
        refine Lib.hid ?_
        have : ls.any q = true := by rw [List.any_eq_true]; exact ⟨ls[k], List.getElem_mem _, h⟩
        rw [this]; simp
      have hgood : q ls[k] = false → Hid ((ls.take (k + 1)).any q = false) := by
        intro h
        refine Lib.hid ?_
        rw [List.take_succ_eq_append_getElem hlt, List.any_append, HA.out]
        simp [h]
      generalize ls[k] = p at *
      have HBAD := Lib.hid hbad; have HGOOD := Lib.hid hgood; clear hbad hgood HA
      cases hq : q p
      · rw [hq] at k1
        have hf := HGOOD.out hq
        have K1 := Lib.hid k1; clear k1 hq
        go_wp2_with fail
        refine K1.out.mono ?_
        rintro e w1 ⟨rfl, hb1⟩
        go_wp2
        go_roundw
        case rel => exact ⟨k + 1, by omega, by go_num, hf, bt hbw hb1⟩
        case measure => simp [intOf]; omega
      · rw [hq] at k1
        have hf := HBAD.out hq
        have K1 := Lib.hid k1; clear k1 hq
        go_wp2_with fail
        refine K1.out.mono ?_
        rintro e w1 ⟨rfl, hb1⟩
        go_wp2
        go_ret
        exact ⟨k, rfl, hf.out, bt hbw hb1⟩
    · have hke : k = ls.length := by omega
      subst hke
      have ha := HA.out
      rw [List.take_length] at ha
      have HA2 := Lib.hid ha; clear ha HA
      go_wp2
      go_ret
      exact ⟨-1, rfl, by rw [HA2.out]; rfl, hbw⟩
set_option maxHeartbeats 1000000 in
theorem containsHas_any (p1 : Value) (q : List UInt8 → Bool) (A : Option Addr) (n c : Nat) (ls : List (List UInt8)) (w : World) (hr : Rd A n 1 (strsV ls) w) (hn : n ≤ 1000000)
    (hc : ∀ l ∈ ls, ∀ W, Below w.heap.size w W → Calls Tryz.prog 130 #[.string ⟨l.toArray⟩, p1] W fun e W' => e = .returned (.bool (q l)) ∧ Below W.heap.size W W') :
    Calls Tryz.prog 39 #[.slice A n c, .func (.func 130) #[] #[p1]] w fun e w' => e = .returned (.bool (ls.any q)) ∧ Below w.heap.size w w' := by
  have k1 := indexHas_any p1 q A n c ls w hr hn hc
  have K1 := Lib.hid k1; clear k1 hc
  go_enter Tryz.func39, Tryz.ntmps39
  go_wp2_with fail
  refine K1.out.mono ?_
  rintro e w1 ⟨i, rfl, hi, hb1⟩
  have HI := Lib.hid hi; clear hi
  go_wp2
  go_ret
  exact ⟨by rw [← HI.out]; rfl, hb1⟩

set_option maxHeartbeats 4000000 in
theorem hasOne_any (T : Nat) (nm : List UInt8) (A : Option Addr) (n c : Nat) (xs : List Dir) (w : World) (hT : w.cell? ⟨T, 0, none⟩ = some (.slice A n c)) (hr : Rd A n 4 (dirsV xs) w) (hn : n ≤ 1000000) (hx : ∀ d ∈ xs, d.name.length ≤ 140737488351232) (hnm : nm.length ≤ 1000000) :
    Calls Tryz.prog 130 #[.string ⟨nm.toArray⟩, .pointer (some ⟨T, 0, none⟩)] w fun e w' => e = .returned (.bool (findO xs nm).isSome) ∧ Below w.heap.size w w' := by
  have k1 := find_any A n c xs ⟨nm.toArray⟩ w hr hn hx (by rw [Lib.size_eq]; show nm.length ≤ _; omega)
  rw [show (⟨nm.toArray⟩ : ByteArray).data.toList = nm from rfl] at k1
  cases hf : findO xs nm with
  | none =>
    rw [hf] at k1
    unfold saidV at k1
    have K1 := Lib.hid k1; clear k1 hf hr hx
    go_enter Tryz.func130, Tryz.ntmps130
    go_wp2_with fail
    (with_reducible refine K1.out.mono ?_)
    rintro e w1 ⟨rfl, hb1⟩
    go_wp2
    go_ret
    exact ⟨rfl, hb1.alloc hb1.size _⟩
  | some d =>
    rw [hf] at k1
    unfold saidV at k1
    simp only at k1
    have K1 := Lib.hid k1; clear k1 hf hr hx
    go_enter Tryz.func130, Tryz.ntmps130
    go_wp2_with fail
    (with_reducible refine K1.out.mono ?_)
    rintro e w1 ⟨rfl, hb1⟩
    go_wp2
    go_ret
    exact ⟨rfl, hb1.alloc hb1.size _⟩
set_option maxHeartbeats 4000000 in
theorem has_any (A N : Option Addr) (n c m d : Nat) (xs : List Dir) (ls : List (List UInt8)) (w : World) (hr : Rd A n 4 (dirsV xs) w) (hn : n ≤ 1000000) (hx : ∀ d ∈ xs, d.name.length ≤ 140737488351232) (hN : Rd N m 1 (strsV ls) w) (hm : m ≤ 1000000) (hl : ∀ l ∈ ls, l.length ≤ 1000000) :
    Calls Tryz.prog 70 #[.slice A n c, .slice N m d] w fun e w' => e = .returned (.bool (hasD xs ls)) ∧ Below w.heap.size w w' := by
  obtain ⟨W1, hW1⟩ : ∃ W1, w.alloc (.cells #[.slice A n c] 81) = W1 := ⟨_, rfl⟩
  have b1 : Below w.heap.size w W1 := by rw [← hW1]; exact (Below.refl w.heap.size w).alloc (Nat.le_refl _) _
  have z1 : w.heap.size < W1.heap.size := by rw [← hW1]; simp
  have hc : W1.cell? ⟨w.heap.size, 0, none⟩ = some (.slice A n c) := by rw [← hW1]; exact World.cell?_alloc_mark w _ _ _ 0
  have k1 := containsHas_any (.pointer (some ⟨w.heap.size, 0, none⟩)) (fun nm => (findO xs nm).isSome) N m d ls W1 (hN.below b1) hm (fun l hl' W hb => hasOne_any w.heap.size l A n c xs W ((hb.cell (p := ⟨w.heap.size, 0, none⟩) z1).trans hc) ((hr.below b1).below hb) hn hx (hl l hl'))
  have hh : ls.any (fun nm => (findO xs nm).isSome) = hasD xs ls := rfl
  rw [hh] at k1
  have HW1 := Lib.hid hW1; have K1 := Lib.hid k1
  clear hW1 k1 hc hr hN hx hl hh
  go_enter Tryz.func70, Tryz.ntmps70
  go_wp2_with fail
  rw [HW1.out]
  (with_reducible refine K1.out.mono ?_)
  rintro e w2 ⟨rfl, hb2⟩
  go_wp2
  go_ret
  exact ⟨rfl, bt b1 hb2⟩
set_option maxHeartbeats 8000000 in
theorem valid_any (st mi asked got : Int) (re bo : ByteArray) (A V : Option Addr) (n c m d : Nat) (xs : List Fld) (w : World) (hE : DEnv w) (hr : Rd A n 2 (fldsV xs) w) (hn : n ≤ 100) (hs : sumF xs ≤ 7500) :
    Calls Tryz.prog 75 #[entV st re mi A n c bo asked got V m d] w fun e w' => e = .returned (.bool (validF xs got)) ∧ Below w.heap.size w w' := by
  obtain ⟨W1, hW1⟩ : ∃ W1, w.alloc (.cells #[.int .i64 st, .string re, .int .i64 mi, .slice A n c, .string bo, .int .i64 asked, .int .i64 got, .slice V m d] 30) = W1 := ⟨_, rfl⟩
  have b1 : Below w.heap.size w W1 := by rw [← hW1]; exact (Below.refl w.heap.size w).alloc (Nat.le_refl _) _
  have x1 : EntAt w.heap.size st re mi A n c bo asked got V m d W1 := by rw [← hW1]; exact heap_new w _ _ rfl
  have hfl := hr.fld
  have k1 := get_any A n c xs ⟨#[101, 116, 97, 103]⟩ W1 (hr.below b1) (by omega) (by omega) (by decide)
  rw [show (⟨#[101, 116, 97, 103]⟩ : ByteArray).data.toList = fETag from rfl] at k1
  have k3 := fun W (hb : Below w.heap.size w W) => get_any A n c xs ⟨#[108, 97, 115, 116, 45, 109, 111, 100, 105, 102, 105, 101, 100]⟩ W (hr.below hb) (by omega) (by omega) (by decide)
  rw [show (⟨#[108, 97, 115, 116, 45, 109, 111, 100, 105, 102, 105, 101, 100]⟩ : ByteArray).data.toList = fLast from rfl] at k3
  have hgl := getL_le xs fETag
  have k2 := fun W => parse_any ⟨(getL xs fETag).1.toArray⟩ W (by rw [Lib.size_eq]; show (getL xs fETag).1.length ≤ _; omega)
  have k4 := fun W (hb : Below w.heap.size w W) => dparse_any ⟨(getL xs fLast).1.toArray⟩ got W (hE.below hb)
  rw [show (⟨(getL xs fLast).1.toArray⟩ : ByteArray).data.toList = (getL xs fLast).1 from rfl] at k4
  unfold validF
  unfold getV at k1 k3
  generalize getL xs fETag = g at *
  generalize getL xs fLast = h at *
  obtain ⟨gv, gi⟩ := g
  obtain ⟨hv, hi⟩ := h
  simp only at k1 k2 k3 k4 ⊢
  generalize dateP hv got = r at *
  obtain ⟨t, er⟩ := r
  simp only at k4 ⊢
  unfold Ent.parse at k2
  generalize ent ⟨gv.toArray⟩ = en at *
  obtain ⟨ew, rt, et⟩ := en
  simp only at k2 ⊢
  obtain ⟨c0, c1, c2, c3, c4, c5, c6, c7, cl⟩ := x1.cells
  have HW1 := Lib.hid hW1; have K1 := Lib.hid k1; have K2 := Lib.hid k2; have K3 := Lib.hid k3; have K4 := Lib.hid k4; have B1 := Lib.hid b1; have X1 := Lib.hid x1
  clear hW1 k1 k3 k4 x1 hr hs hE b1 hgl hfl
  unfold entV
  cases rt
  · simp only [cond_false] at k2
    have K2 := Lib.hid k2; clear k2
    rw [Bool.false_or]
    go_enter Tryz.func75, Tryz.ntmps75
    go_wp2_with fail
    rw [HW1.out]
    (with_reducible refine K1.out.mono ?_)
    rintro e w1 ⟨rfl, hb1⟩
    clear c0 c1 c2 c3 c4 c5 c6 c7
    go_wp2_with fail
    (with_reducible refine (K2.out _).mono ?_)
    rintro e w2 ⟨rfl, hb2⟩
    have hB2 := bt hb1 hb2
    obtain ⟨c0, c1, c2, c3, c4, c5, c6, c7, _⟩ := (X1.out.below hB2).cells
    go_wp2_with fail
    (with_reducible refine (K3.out _ (bt B1.out hB2)).mono ?_)
    rintro e w3 ⟨rfl, hb3⟩
    have hB3 := bt hB2 hb3
    clear c0 c1 c2 c3 c4 c5 c6 c7
    obtain ⟨c0, c1, c2, c3, c4, c5, c6, c7, _⟩ := (X1.out.below hB3).cells
    go_wp2_with fail
    (with_reducible refine (K4.out _ (bt B1.out hB3)).mono ?_)
    rintro e w4 ⟨rfl, hb4⟩
    have hB4 := bt hB3 hb4
    clear c0 c1 c2 c3 c4 c5 c6 c7
    go_wp2
    go_ret
    exact ⟨rfl, bt B1.out hB4⟩
  · simp only [cond_true] at k2
    have K2 := Lib.hid k2; clear k2
    rw [Bool.true_or]
    go_enter Tryz.func75, Tryz.ntmps75
    go_wp2_with fail
    rw [HW1.out]
    (with_reducible refine K1.out.mono ?_)
    rintro e w1 ⟨rfl, hb1⟩
    clear c0 c1 c2 c3 c4 c5 c6 c7
    go_wp2_with fail
    (with_reducible refine (K2.out _).mono ?_)
    rintro e w2 ⟨rfl, hb2⟩
    have hB2 := bt hb1 hb2
    go_wp2
    go_ret
    exact ⟨rfl, bt B1.out hB2⟩

/-! The closures of May. -/
set_option maxHeartbeats 2000000 in
theorem may1_any (T : Nat) (me : ByteArray) (w : World) (hT : w.cell? ⟨T, 0, none⟩ = some (.string me)) :
    Calls Tryz.prog 66 #[.pointer (some ⟨T, 0, none⟩)] w fun e w' => e = .returned (.bool (me.data.toList == mGET)) ∧ Below w.heap.size w w' := by
  have e1 : (me.toList == [71, 69, 84]) = (me.data.toList == mGET) := by rw [Lib.toList_data]; rfl
  have E1 := Lib.hid e1; clear e1
  go_enter Tryz.func66, Tryz.ntmps66
  go_wp2
  go_ret
  exact ⟨by rw [← E1.out]; rfl, Below.refl _ _⟩
set_option maxHeartbeats 4000000 in
theorem may4_any (T : Nat) (st mi asked got : Int) (re bo : ByteArray) (A V : Option Addr) (n c m d : Nat) (xs : List Fld) (w : World) (hT : EntAt T st re mi A n c bo asked got V m d w) (hr : Rd A n 2 (fldsV xs) w) (hn : n ≤ 1000) (hs : sumF xs ≤ 1000000) :
    Calls Tryz.prog 71 #[.pointer (some ⟨T, 0, none⟩)] w fun e w' => e = .returned (.bool (namesO xs).isSome) ∧ Below w.heap.size w w' := by
  obtain ⟨c0, c1, c2, c3, c4, c5, c6, c7, cl⟩ := hT.cells
  have k1 := vnames_any st re mi A n c bo xs w hr hn (fun f hf => by have := sumF_mem hf; omega)
  unfold NamesPost repV at k1
  have K1 := Lib.hid k1
  clear k1 hT hr hs
  go_enter Tryz.func71, Tryz.ntmps71
  go_wp2_with fail
  (with_reducible refine K1.out.mono ?_)
  rintro e w1 ⟨a1, d1, rfl, ho, hb1⟩
  clear ho
  go_wp2
  go_ret
  exact ⟨rfl, hb1⟩
end Go.Proofs.YtcgdcbnhpbokfaaGreatDoor
/- May's closures 2, 3, 5, 6 (printed by wip/tools/stormay.py). -/
namespace Go.Proofs.YtcgdcbnhpbokfaaGreatDoor
open Go.RowKit
set_option maxRecDepth 100000

theorem Rd.newL (w : World) (ls : List (List UInt8)) (T : TypeId) : Rd (some ⟨w.heap.size, 0, none⟩) ls.length 1 (strsV ls) (w.alloc (.cells (strsV ls).toArray T)) := by
  refine ⟨by unfold strsV; simp, fun _ => ⟨w.heap.size, 0, rfl, by simp, fun j u hu => ?_⟩⟩
  rw [Nat.zero_add, World.cell?_alloc_mark]
  simpa using hu
def DirsIn (xs : List Dir) : Prop := xs.length ≤ 1000000 ∧ ∀ d ∈ xs, d.name.length ≤ 140737488351232
theorem hasL_any (A : Option Addr) (n c : Nat) (xs : List Dir) (ls : List (List UInt8)) (k : Nat) (w : World) (hr : Rd A n 4 (dirsV xs) w) (hx : DirsIn xs) (hk : ls.length = k) (hm : k ≤ 1000) (hl : ∀ l ∈ ls, l.length ≤ 1000000) (W : World) (hW : w.alloc (.cells (strsV ls).toArray 9) = W) :
    Calls Tryz.prog 70 #[.slice A n c, .slice (some ⟨w.heap.size, 0, none⟩) k k] W fun e w' => e = .returned (.bool (hasD xs ls)) ∧ Below w.heap.size w w' := by
  subst hk
  have hb : Below w.heap.size w W := by rw [← hW]; exact (Below.refl _ w).alloc (Nat.le_refl _) _
  have hN : Rd (some ⟨w.heap.size, 0, none⟩) ls.length 1 (strsV ls) W := by rw [← hW]; exact Rd.newL w ls 9
  refine (has_any A (some ⟨w.heap.size, 0, none⟩) n c ls.length ls.length xs ls W (hr.below hb) (by rw [hr.dir]; exact hx.1) hx.2 hN (by omega) hl).mono ?_
  rintro e w' ⟨rfl, h⟩
  exact ⟨rfl, bt hb h⟩
set_option maxHeartbeats 4000000 in
theorem may2_any (T : Nat) (st mi asked got : Int) (re bo : ByteArray) (A V : Option Addr) (n c m d : Nat) (w : World) (hT : EntAt T st re mi A n c bo asked got V m d w) :
    Calls Tryz.prog 67 #[.pointer (some ⟨T, 0, none⟩)] w fun e w' => e = .returned (.bool (okSt st)) ∧ Below w.heap.size w w' := by
  obtain ⟨c0, c1, c2, c3, c4, c5, c6, c7, cl⟩ := hT.cells
  obtain ⟨W1, hW1⟩ : ∃ W, w.alloc (.cells #[.int .i64 200, .int .i64 301, .int .i64 404, .int .i64 410] 3) = W := ⟨_, rfl⟩
  have b1 : Below w.heap.size w W1 := by rw [← hW1]; exact (Below.refl _ w).alloc (Nat.le_refl _) _
  have k1 := Tryz.slices_Contains_int w.heap.size 0 4 4 [200, 301, 404, 410] st W1 (by decide) (by decide) (fun j hj => by
    rw [Nat.zero_add, ← hW1, World.cell?_alloc_mark]
    match j, hj with
    | 0, _ => rfl
    | 1, _ => rfl
    | 2, _ => rfl
    | 3, _ => rfl)
  have hq : (([200, 301, 404, 410] : List Int).take 4).contains st = okSt st := by
    rw [Bool.eq_iff_iff]; simp [okSt, or_assoc]
  rw [hq] at k1
  have c0' := (b1.cell (p := ⟨T, 0, none⟩) cl).trans c0
  rw [← hW1] at c0'
  have K1 := Lib.hid k1; have HW1 := Lib.hid hW1
  clear k1 hW1 hT hq c0 c1 c2 c3 c4 c5 c6 c7
  go_enter Tryz.func67, Tryz.ntmps67
  go_wp2_with fail
  rw [HW1.out]
  go_wp2_with fail
  (with_reducible refine K1.out.mono ?_)
  rintro e w2 ⟨rfl, rfl⟩
  go_wp2
  go_ret
  exact ⟨rfl, b1⟩
set_option maxHeartbeats 8000000 in
theorem may3_any (P Q R : Nat) (A C : Option Addr) (n c m d : Nat) (qs ts : List Dir) (k : Ctl) (w : World) (hP : w.cell? ⟨P, 0, none⟩ = some (.slice A n c)) (hQ : w.cell? ⟨Q, 0, none⟩ = some (.slice C m d)) (hQl : Q < w.heap.size) (hR : CtlAt R k w) (hA : Rd A n 4 (dirsV qs) w) (hC : Rd C m 4 (dirsV ts) w) (hqs : DirsIn qs) (hts : DirsIn ts) :
    Calls Tryz.prog 69 #[.pointer (some ⟨P, 0, none⟩), .pointer (some ⟨Q, 0, none⟩), .pointer (some ⟨R, 0, none⟩)] w fun e w' => e = .returned (.bool (!hasD qs [noStore] && !hasD ts [noStore, sPriv] && !k.noStore)) ∧ Below w.heap.size w w' := by
  obtain ⟨W1, hW1⟩ : ∃ W, w.alloc (.cells #[.string ⟨#[110, 111, 45, 115, 116, 111, 114, 101]⟩] 9) = W := ⟨_, rfl⟩
  have k1 := hasL_any A n c qs [noStore] 1 w hA hqs rfl (by omega) (by decide) W1 hW1
  have k2 := fun w2 (hb : Below w.heap.size w w2) W hW => hasL_any C m d ts [noStore, sPriv] 2 w2 (hC.below hb) hts rfl (by omega) (by decide) W hW
  have k3 : ∀ w2, Below w.heap.size w w2 → w2.cell? ⟨Q, 0, none⟩ = some (.slice C m d) := fun w2 hb => (hb.cell (p := ⟨Q, 0, none⟩) hQl).trans hQ
  have k4 : ∀ w2, Below w.heap.size w w2 → w2.cell? ⟨R, 0, none⟩ = some (.bool k.noStore) := fun w2 hb => ((hR.below hb).cells).1
  generalize k.noStore = ns at *
  generalize hasD qs [noStore] = b1 at *
  generalize hasD ts [noStore, sPriv] = b2 at *
  have K1 := Lib.hid k1; have K2 := Lib.hid k2; have K3 := Lib.hid k3; have K4 := Lib.hid k4; have HW1 := Lib.hid hW1
  clear k1 k2 k3 k4 hW1 hQ hR hA hC hqs hts
  cases b1
  · go_enter Tryz.func69, Tryz.ntmps69
    go_wp2_with fail
    rw [HW1.out]
    (with_reducible refine K1.out.mono ?_)
    rintro e w2 ⟨rfl, hb2⟩
    have h3 := K3.out w2 hb2
    obtain ⟨W3, hW3⟩ : ∃ W, w2.alloc (.cells #[.string ⟨#[110, 111, 45, 115, 116, 111, 114, 101]⟩, .string ⟨#[112, 114, 105, 118, 97, 116, 101]⟩] 9) = W := ⟨_, rfl⟩
    have k2 := K2.out w2 hb2 W3 hW3
    have HW3 := Lib.hid hW3; have K2' := Lib.hid k2
    clear k2 hW3 hP
    go_wp2_with fail
    rw [HW3.out]
    (with_reducible refine K2'.out.mono ?_)
    rintro e w4 ⟨rfl, hb4⟩
    have hB4 := bt hb2 hb4
    have h4 := K4.out w4 hB4
    clear h3 HW3 K2'
    cases b2
    · cases ns
      · go_wp2
        go_ret
        exact ⟨rfl, hB4⟩
      · go_wp2
        go_ret
        exact ⟨rfl, hB4⟩
    · clear h4
      go_wp2
      go_ret
      exact ⟨rfl, hB4⟩
  · go_enter Tryz.func69, Tryz.ntmps69
    go_wp2_with fail
    rw [HW1.out]
    (with_reducible refine K1.out.mono ?_)
    rintro e w2 ⟨rfl, hb2⟩
    go_wp2
    go_ret
    exact ⟨rfl, hb2⟩
set_option maxHeartbeats 8000000 in
theorem may5_any (P Q R : Nat) (A C : Option Addr) (n c m d : Nat) (qs : List Fld) (ts : List Dir) (k : Ctl) (w : World) (hP : w.cell? ⟨P, 0, none⟩ = some (.slice A n c)) (hQ : w.cell? ⟨Q, 0, none⟩ = some (.slice C m d)) (hQl : Q < w.heap.size) (hR : CtlAt R k w) (hA : Rd A n 2 (fldsV qs) w) (hn : n ≤ 1000000) (hs : sumF qs ≤ 1000000) (hC : Rd C m 4 (dirsV ts) w) (hts : DirsIn ts) :
    Calls Tryz.prog 73 #[.pointer (some ⟨P, 0, none⟩), .pointer (some ⟨Q, 0, none⟩), .pointer (some ⟨R, 0, none⟩)] w fun e w' => e = .returned (.bool (!(getL qs fAuth).2 || hasD ts [sPub, fSMax, sMust] || k.hasAge)) ∧ Below w.heap.size w w' := by
  have k1 := get_any A n c qs ⟨#[97, 117, 116, 104, 111, 114, 105, 122, 97, 116, 105, 111, 110]⟩ w hA hn hs (by decide)
  rw [show (⟨#[97, 117, 116, 104, 111, 114, 105, 122, 97, 116, 105, 111, 110]⟩ : ByteArray).data.toList = fAuth from rfl] at k1
  have k2 := fun w2 (hb : Below w.heap.size w w2) W hW => hasL_any C m d ts [sPub, fSMax, sMust] 3 w2 (hC.below hb) hts rfl (by omega) (by decide) W hW
  have k3 : ∀ w2, Below w.heap.size w w2 → w2.cell? ⟨Q, 0, none⟩ = some (.slice C m d) := fun w2 hb => (hb.cell (p := ⟨Q, 0, none⟩) hQl).trans hQ
  have k4 : ∀ w2, Below w.heap.size w w2 → w2.cell? ⟨R, 3, none⟩ = some (.bool k.hasAge) := fun w2 hb => ((hR.below hb).cells).2.2.2.1
  generalize k.hasAge = ns at *
  unfold getV at k1
  generalize getL qs fAuth = g at *
  obtain ⟨gv, gi⟩ := g
  simp only at k1 ⊢
  generalize hasD ts [sPub, fSMax, sMust] = b2 at *
  have K1 := Lib.hid k1; have K2 := Lib.hid k2; have K3 := Lib.hid k3; have K4 := Lib.hid k4
  clear k1 k2 k3 k4 hQ hR hA hC hts
  cases gi
  · go_enter Tryz.func73, Tryz.ntmps73
    go_wp2_with fail
    (with_reducible refine K1.out.mono ?_)
    rintro e w2 ⟨rfl, hb2⟩
    go_wp2
    go_ret
    exact ⟨rfl, hb2⟩
  · go_enter Tryz.func73, Tryz.ntmps73
    go_wp2_with fail
    (with_reducible refine K1.out.mono ?_)
    rintro e w2 ⟨rfl, hb2⟩
    have h3 := K3.out w2 hb2
    obtain ⟨W3, hW3⟩ : ∃ W, w2.alloc (.cells #[.string ⟨#[112, 117, 98, 108, 105, 99]⟩, .string ⟨#[115, 45, 109, 97, 120, 97, 103, 101]⟩, .string ⟨#[109, 117, 115, 116, 45, 114, 101, 118, 97, 108, 105, 100, 97, 116, 101]⟩] 9) = W := ⟨_, rfl⟩
    have k2 := K2.out w2 hb2 W3 hW3
    have HW3 := Lib.hid hW3; have K2' := Lib.hid k2
    clear k2 hW3 hP
    go_wp2_with fail
    rw [HW3.out]
    (with_reducible refine K2'.out.mono ?_)
    rintro e w4 ⟨rfl, hb4⟩
    have hB4 := bt hb2 hb4
    have h4 := K4.out w4 hB4
    clear h3 HW3 K2'
    cases b2
    · cases ns
      · go_wp2
        go_ret
        exact ⟨rfl, hB4⟩
      · go_wp2
        go_ret
        exact ⟨rfl, hB4⟩
    · clear h4
      go_wp2
      go_ret
      exact ⟨rfl, hB4⟩
set_option maxHeartbeats 8000000 in
theorem may6_any (T U : Nat) (st mi asked got : Int) (re bo dev : ByteArray) (A V : Option Addr) (n c m d : Nat) (xs : List Fld) (w : World) (hE : DEnv w) (hT : EntAt T st re mi A n c bo asked got V m d w) (hU : w.cell? ⟨U, 0, none⟩ = some (.string dev)) (hr : Rd A n 2 (fldsV xs) w) (hn : n ≤ 100) (hs : sumF xs ≤ 7500) (hg : -9223372036854775808 ≤ got ∧ got ≤ 9223372036854775807) :
    Calls Tryz.prog 74 #[.pointer (some ⟨T, 0, none⟩), .pointer (some ⟨U, 0, none⟩)] w fun e w' => e = .returned (.bool (cond6 xs got dev.data.toList)) ∧ Below w.heap.size w w' := by
  have k1 := life_any st mi asked got re bo A V n c m d xs dev w hE hr (by omega) (by omega) hg
  have k2 := fun W (hb : Below w.heap.size w W) => valid_any st mi asked got re bo A V n c m d xs W (hE.below hb) (hr.below hb) hn hs
  have k3 := fun W (hb : Below w.heap.size w W) => (hT.below hb).cells
  obtain ⟨c0, c1, c2, c3, c4, c5, c6, c7, cl⟩ := hT.cells
  unfold cond6
  generalize lifeF xs got dev.data.toList = lf at *
  generalize validF xs got = vf at *
  have K1 := Lib.hid k1; have K2 := Lib.hid k2; have K3 := Lib.hid k3
  clear k1 k2 k3 hE hT hr hs
  unfold entV at *
  by_cases hl : 0 < lf
  · have t1 : decide (0 < lf) = true := by simpa using hl
    have t2 : decide (lf > 0) = true := t1
    rw [t1]
    go_enter Tryz.func74, Tryz.ntmps74
    go_wp2_with fail
    (with_reducible refine K1.out.mono ?_)
    rintro e w2 ⟨rfl, hb2⟩
    clear c0 c1 c2 c3 c4 c5 c6 c7
    go_wp2
    go_ret
    exact ⟨by rw [Bool.true_or]; rfl, hb2⟩
  · have t1 : decide (0 < lf) = false := by simpa using hl
    have t2 : decide (lf > 0) = false := t1
    rw [t1, Bool.false_or]
    go_enter Tryz.func74, Tryz.ntmps74
    go_wp2_with fail
    (with_reducible refine K1.out.mono ?_)
    rintro e w2 ⟨rfl, hb2⟩
    clear c0 c1 c2 c3 c4 c5 c6 c7
    obtain ⟨c0, c1, c2, c3, c4, c5, c6, c7, _⟩ := K3.out w2 hb2
    go_wp2_with fail
    (with_reducible refine (K2.out _ hb2).mono ?_)
    rintro e w3 ⟨rfl, hb3⟩
    clear c0 c1 c2 c3 c4 c5 c6 c7
    go_wp2
    go_ret
    exact ⟨rfl, bt hb2 hb3⟩
end Go.Proofs.YtcgdcbnhpbokfaaGreatDoor
/- storable.May (printed by wip/tools/stormay.py). -/
namespace Go.Proofs.YtcgdcbnhpbokfaaGreatDoor
open Go.RowKit
set_option maxRecDepth 100000

set_option maxHeartbeats 64000000 in
theorem stMay_any (me dev : ByteArray) (QA : Option Addr) (qn qc : Nat) (qs : List Fld) (st mi asked got : Int) (re bo : ByteArray) (A V : Option Addr) (n c m d : Nat) (xs : List Fld) (w : World) (hE : DEnv w) (hq : Rd QA qn 2 (fldsV qs) w) (hqn : qn ≤ 100) (hqs : sumF qs ≤ 7500) (hr : Rd A n 2 (fldsV xs) w) (hn : n ≤ 100) (hs : sumF xs ≤ 7500) (hg : -9223372036854775808 ≤ got ∧ got ≤ 9223372036854775807) :
    Calls Tryz.prog 25 #[.string me, .slice QA qn qc, entV st re mi A n c bo asked got V m d, .string dev] w fun e w' => e = .returned (.bool (mayF me.data.toList qs st xs got dev.data.toList)) ∧ Below w.heap.size w w' := by
  obtain ⟨Wa, hWa⟩ : ∃ W, w.alloc (.cells #[.string me] 9) = W := ⟨_, rfl⟩
  have ba : Below w.heap.size w Wa := by rw [← hWa]; exact (Below.refl w.heap.size w).alloc (Nat.le_refl _) _
  have za : Wa.heap.size = w.heap.size + 1 := by rw [← hWa]; simp
  have xa : Wa.cell? ⟨w.heap.size, 0, none⟩ = some (.string me) := by rw [← hWa]; exact World.cell?_alloc_mark w _ _ _ 0
  obtain ⟨Wb, hWb⟩ : ∃ W, Wa.alloc (.cells #[.slice QA qn qc] 22) = W := ⟨_, rfl⟩
  have bb : Below Wa.heap.size Wa Wb := by rw [← hWb]; exact (Below.refl Wa.heap.size Wa).alloc (Nat.le_refl _) _
  have zb : Wb.heap.size = w.heap.size + 2 := by rw [← hWb]; simp [za]
  have xb : Wb.cell? ⟨w.heap.size + 1, 0, none⟩ = some (.slice QA qn qc) := by rw [← hWb, ← za]; exact World.cell?_alloc_mark Wa _ _ _ 0
  obtain ⟨Wc, hWc⟩ : ∃ W, Wb.alloc (.cells #[.int .i64 st, .string re, .int .i64 mi, .slice A n c, .string bo, .int .i64 asked, .int .i64 got, .slice V m d] 30) = W := ⟨_, rfl⟩
  have bc : Below Wb.heap.size Wb Wc := by rw [← hWc]; exact (Below.refl Wb.heap.size Wb).alloc (Nat.le_refl _) _
  have zc : Wc.heap.size = w.heap.size + 3 := by rw [← hWc]; simp [zb]
  have xc : EntAt (w.heap.size + 2) st re mi A n c bo asked got V m d Wc := by rw [← hWc]; exact heap_new Wb _ _ zb
  obtain ⟨W1, hW1⟩ : ∃ W, Wc.alloc (.cells #[.string dev] 9) = W := ⟨_, rfl⟩
  have bd : Below Wc.heap.size Wc W1 := by rw [← hW1]; exact (Below.refl Wc.heap.size Wc).alloc (Nat.le_refl _) _
  have zd : W1.heap.size = w.heap.size + 4 := by rw [← hW1]; simp [zc]
  have xd : W1.cell? ⟨w.heap.size + 3, 0, none⟩ = some (.string dev) := by rw [← hW1, ← zc]; exact World.cell?_alloc_mark Wc _ _ _ 0
  have b1 : Below w.heap.size w W1 := bt (bt (bt ba bb) bc) bd
  have ya : W1.cell? ⟨w.heap.size, 0, none⟩ = some (.string me) := (bd.cell (p := ⟨w.heap.size, 0, none⟩) (by show w.heap.size < _; omega)).trans ((bc.cell (p := ⟨w.heap.size, 0, none⟩) (by show w.heap.size < _; omega)).trans ((bb.cell (p := ⟨w.heap.size, 0, none⟩) (by show w.heap.size < _; omega)).trans xa))
  have yb : W1.cell? ⟨w.heap.size + 1, 0, none⟩ = some (.slice QA qn qc) := (bd.cell (p := ⟨w.heap.size + 1, 0, none⟩) (by show w.heap.size + 1 < _; omega)).trans ((bc.cell (p := ⟨w.heap.size + 1, 0, none⟩) (by show w.heap.size + 1 < _; omega)).trans xb)
  have yc := xc.below bd
  have hWW : (((w.alloc (.cells #[.string me] 9)).alloc (.cells #[.slice QA qn qc] 22)).alloc (.cells #[.int .i64 st, .string re, .int .i64 mi, .slice A n c, .string bo, .int .i64 asked, .int .i64 got, .slice V m d] 30)).alloc (.cells #[.string dev] 9) = W1 := by rw [hWa, hWb, hWc, hW1]
  have hfl := hr.fld; have hqf := hq.fld
  have hM := hE.1
  have k1 := fun W (hb : Below w.heap.size w W) => values_any QA qn qc qs ⟨#[99, 97, 99, 104, 101, 45, 99, 111, 110, 116, 114, 111, 108]⟩ W (hq.below hb) (by omega) (fun f hf => by have := sumF_mem hf; omega) (by decide)
  have k3 := fun W (hb : Below w.heap.size w W) => values_any A n c xs ⟨#[99, 97, 99, 104, 101, 45, 99, 111, 110, 116, 114, 111, 108]⟩ W (hr.below hb) (by omega) (fun f hf => by have := sumF_mem hf; omega) (by decide)
  have k5 := fun W (hb : Below w.heap.size w W) => values_any A n c xs ⟨#[115, 117, 114, 114, 111, 103, 97, 116, 101, 45, 99, 111, 110, 116, 114, 111, 108]⟩ W (hr.below hb) (by omega) (fun f hf => by have := sumF_mem hf; omega) (by decide)
  rw [show (⟨#[99, 97, 99, 104, 101, 45, 99, 111, 110, 116, 114, 111, 108]⟩ : ByteArray).data.toList = fCC from rfl] at k1 k3
  rw [show (⟨#[115, 117, 114, 114, 111, 103, 97, 116, 101, 45, 99, 111, 110, 116, 114, 111, 108]⟩ : ByteArray).data.toList = fSC from rfl] at k5
  have l1 := valuesL_le qs fCC; have l3 := valuesL_le xs fCC; have l5 := valuesL_le xs fSC
  have m1 : ∀ v ∈ valuesL qs fCC, v.length ≤ 7500 := fun v hv => by have := valuesL_sum hv; omega
  have m3 : ∀ v ∈ valuesL xs fCC, v.length ≤ 7500 := fun v hv => by have := valuesL_sum hv; omega
  have m5 : ∀ v ∈ valuesL xs fSC, v.length ≤ 7500 := fun v hv => by have := valuesL_sum hv; omega
  have k2 := fun W (hb : Below w.heap.size w W) a c' (h : Rd a (valuesL qs fCC).length 1 (strsV (valuesL qs fCC)) W) => dlist_any a (valuesL qs fCC).length c' (valuesL qs fCC) W (hM.below hb) h (by omega) (fun v hv => by have := m1 v hv; omega)
  have k4 := fun W (hb : Below w.heap.size w W) a c' (h : Rd a (valuesL xs fCC).length 1 (strsV (valuesL xs fCC)) W) => dlist_any a (valuesL xs fCC).length c' (valuesL xs fCC) W (hM.below hb) h (by omega) (fun v hv => by have := m3 v hv; omega)
  have k6 := fun W (hb : Below w.heap.size w W) a c' (h : Rd a (valuesL xs fSC).length 1 (strsV (valuesL xs fSC)) W) => surOf_any a (valuesL xs fSC).length c' (valuesL xs fSC) dev W (hM.below hb) h (by omega) (fun v hv => by have := m5 v hv; omega)
  have d1 : DirsIn (ccD qs) := ⟨by have := dlistL_few (valuesL qs fCC); show (dlistL (valuesL qs fCC)).length ≤ _; omega, fun x hx => by have := (dlist_good m1 x hx).2.2.2.2; omega⟩
  have d2 : DirsIn (ccD xs) := ⟨by have := dlistL_few (valuesL xs fCC); show (dlistL (valuesL xs fCC)).length ≤ _; omega, fun x hx => by have := (dlist_good m3 x hx).2.2.2.2; omega⟩
  have e1 : dlistL (valuesL qs fCC) = ccD qs := rfl
  have e3 : dlistL (valuesL xs fCC) = ccD xs := rfl
  have e5 : ofL (valuesL xs fSC) dev.data.toList = ctlF xs dev.data.toList := rfl
  rw [e1] at k2; rw [e3] at k4; rw [e5] at k6
  have hmay : mayF me.data.toList qs st xs got dev.data.toList = ((me.data.toList == mGET) && (okSt st && (cond3 qs xs dev.data.toList && ((namesO xs).isSome && (cond5 qs xs dev.data.toList && cond6 xs got dev.data.toList))))) := rfl
  rw [hmay]
  -- the closures' contracts
  have f0 := fun W (hb : Below W1.heap.size W1 W) => may1_any (w.heap.size) me W ((hb.cell (p := ⟨w.heap.size, 0, none⟩) (by show w.heap.size < _; omega)).trans ya)
  have f1 := fun W (hb : Below W1.heap.size W1 W) => may2_any (w.heap.size + 2) st mi asked got re bo A V n c m d W (yc.below hb)
  have f2 := fun P1 P2 T a1 c1 a2 c2 W h1 h2 h2l h3 h4 h5 => may3_any P1 P2 T a1 a2 (ccD qs).length c1 (ccD xs).length c2 (ccD qs) (ccD xs) (ctlF xs dev.data.toList) W h1 h2 h2l h3 h4 h5 d1 d2
  have f3 := fun W (hb : Below W1.heap.size W1 W) => may4_any (w.heap.size + 2) st mi asked got re bo A V n c m d xs W (yc.below hb) ((hr.below b1).below hb) (by omega) (by omega)
  have f4 := fun P2 T a2 c2 W (hb : Below W1.heap.size W1 W) h2 h2l h3 h5 => may5_any (w.heap.size + 1) P2 T QA a2 qn qc (ccD xs).length c2 qs (ccD xs) (ctlF xs dev.data.toList) W ((hb.cell (p := ⟨w.heap.size + 1, 0, none⟩) (by show w.heap.size + 1 < _; omega)).trans yb) h2 h2l h3 ((hq.below b1).below hb) (by omega) (by omega) h5 d2
  have f5 := fun W (hb : Below W1.heap.size W1 W) => may6_any (w.heap.size + 2) (w.heap.size + 3) st mi asked got re bo dev A V n c m d xs W ((hE.below b1).below hb) (yc.below hb) ((hb.cell (p := ⟨w.heap.size + 3, 0, none⟩) (by show w.heap.size + 3 < _; omega)).trans xd) ((hr.below b1).below hb) hn hs hg
  have g2 : (!hasD (ccD qs) [noStore] && !hasD (ccD xs) [noStore, sPriv] && !(ctlF xs dev.data.toList).noStore) = cond3 qs xs dev.data.toList := rfl
  have g4 : (!(getL qs fAuth).2 || hasD (ccD xs) [sPub, fSMax, sMust] || (ctlF xs dev.data.toList).hasAge) = cond5 qs xs dev.data.toList := rfl
  rw [g2] at f2; rw [g4] at f4
  have yE := fun W (hb : Below W1.heap.size W1 W) => (yc.below hb).cells
  have yD := fun W (hb : Below W1.heap.size W1 W) => (hb.cell (p := ⟨w.heap.size + 3, 0, none⟩) (by show w.heap.size + 3 < _; omega)).trans xd
  clear g2 g4 hmay e1 e3 e5 m1 m3 m5 d1 d2 hWa hWb hWc hW1 ba bb bc bd za zb zc xa xb xc hq hr hs hqs hg hE hM hfl hqf
  generalize (me.data.toList == mGET) = i0 at *
  generalize okSt st = i1 at *
  generalize cond3 qs xs dev.data.toList = i2 at *
  generalize (namesO xs).isSome = i3 at *
  generalize cond5 qs xs dev.data.toList = i4 at *
  generalize cond6 xs got dev.data.toList = i5 at *
  generalize ctlF xs dev.data.toList = kk at *
  generalize ccD qs = dq at *
  generalize ccD xs = dx at *
  generalize valuesL qs fCC = v1 at *
  generalize valuesL xs fCC = v3 at *
  generalize valuesL xs fSC = v5 at *
  obtain ⟨L, hL⟩ : ∃ L, (i0 && (i1 && (i2 && (i3 && (i4 && i5))))) = L := ⟨_, rfl⟩
  rw [hL]
  have HL := Lib.hid hL
  have K1 := Lib.hid k1; have K2 := Lib.hid k2; have K3 := Lib.hid k3; have K4 := Lib.hid k4; have K5' := Lib.hid k5; have K6' := Lib.hid k6
  have F0 := Lib.hid f0; have F1 := Lib.hid f1; have F2 := Lib.hid f2; have F3 := Lib.hid f3; have F4 := Lib.hid f4; have F5 := Lib.hid f5
  have YE := Lib.hid yE; have YD := Lib.hid yD; have HWW := Lib.hid hWW; have B1 := Lib.hid b1
  clear hL k1 k2 k3 k4 k5 k6 f0 f1 f2 f3 f4 f5 yE yD hWW l1 l3 l5 xd yc
  have hZ : w.heap.size + 4 = W1.heap.size := zd.symm
  clear zd
  have HZ := Lib.hid hZ; clear hZ
  unfold entV
  go_enter Tryz.func25, Tryz.ntmps25
  go_wp2_with fail
  go_step3
  go_upto_region 1 with (fail)
  rw [HWW.out]
  go_wp2_with fail
  (with_reducible refine (K1.out _ B1.out).mono ?_)
  rintro e w1 ⟨a1, c1, rfl, ho1, hb1⟩
  have R1 := Lib.hid (OwnS.rd ho1).2
  clear ho1
  go_wp2_with fail
  (with_reducible refine (K2.out _ (bt B1.out hb1) _ _ R1.out).mono ?_)
  rintro e w2 ⟨a2, c2, rfl, ho2, hb2⟩
  have hB2 := bt hb1 hb2
  have R2 := Lib.hid (OwnD.rd ho2).2
  obtain ⟨W3, hW3⟩ : ∃ W, w2.alloc (.cells #[.slice a2 dq.length c2] 81) = W := ⟨_, rfl⟩
  have b3 : Below w2.heap.size w2 W3 := by rw [← hW3]; exact (Below.refl w2.heap.size w2).alloc (Nat.le_refl _) _
  have x3 : W3.cell? ⟨w2.heap.size, 0, none⟩ = some (.slice a2 dq.length c2) := by rw [← hW3]; exact World.cell?_alloc_mark w2 _ _ _ 0
  have z3 : w2.heap.size < W3.heap.size := by rw [← hW3]; simp
  have hB3 := bt hB2 b3
  have R3 := Lib.hid (R2.out.below b3)
  have HW3 := Lib.hid hW3; have X3 := Lib.hid x3
  clear ho2 hW3 R1 R2 yb x3 b3
  obtain ⟨c0, c1', c2', c3, c4, c5, c6, c7, _⟩ := YE.out W3 hB3
  go_upto_region 2 with (fail)
  rw [HW3.out]
  go_wp2_with fail
  (with_reducible refine (K3.out _ (bt B1.out hB3)).mono ?_)
  rintro e w4 ⟨a4, c4', rfl, ho4, hb4⟩
  have R4 := Lib.hid (OwnS.rd ho4).2
  clear ho4 c0 c1' c2' c3 c4 c5 c6 c7
  go_wp2_with fail
  (with_reducible refine (K4.out _ (bt B1.out (bt hB3 hb4)) _ _ R4.out).mono ?_)
  rintro e w5 ⟨a5, c5', rfl, ho5, hb5⟩
  have hC5 := bt hb4 hb5
  have hB5 := bt hB3 hC5
  have R5 := Lib.hid (OwnD.rd ho5).2
  obtain ⟨W6, hW6⟩ : ∃ W, w5.alloc (.cells #[.slice a5 dx.length c5'] 81) = W := ⟨_, rfl⟩
  have b6 : Below w5.heap.size w5 W6 := by rw [← hW6]; exact (Below.refl w5.heap.size w5).alloc (Nat.le_refl _) _
  have x6 : W6.cell? ⟨w5.heap.size, 0, none⟩ = some (.slice a5 dx.length c5') := by rw [← hW6]; exact World.cell?_alloc_mark w5 _ _ _ 0
  have z6 : w5.heap.size < W6.heap.size := by rw [← hW6]; simp
  have hC6 := bt hC5 b6
  have hB6 := bt hB3 hC6
  have R6 := Lib.hid (R5.out.below b6)
  have R3' := Lib.hid (R3.out.below hC6)
  have X3' := Lib.hid ((hC6.cell (p := ⟨w2.heap.size, 0, none⟩) z3).trans X3.out)
  have z3' := Nat.lt_of_lt_of_le z3 hC6.size
  have HW6 := Lib.hid hW6; have X6 := Lib.hid x6
  have k5 := fun W (hb : Below W6.heap.size W6 W) => K5'.out W (bt (bt B1.out hB6) hb)
  have k6 := fun W (hb : Below W6.heap.size W6 W) a c' h => K6'.out W (bt (bt B1.out hB6) hb) a c' h
  have kc : ∀ w', Below W6.heap.size W6 w' → w'.cell? ⟨w.heap.size + 2, 3, none⟩ = some (.slice A n c) ∧ w'.cell? ⟨w.heap.size + 3, 0, none⟩ = some (.string dev) ∧ Below W6.heap.size W6 w' := fun w' h => by
    obtain ⟨_, _, _, g3, _⟩ := YE.out w' (bt hB6 h)
    exact ⟨g3, YD.out w' (bt hB6 h), h⟩
  clear ho5 hW6 R5 R3 R4 X3 x6 b6 hb1 hb2 hB2 hb4 hb5 hC5 hB5 hC6 z3
  obtain ⟨o0, o1, o2, o3, o4, o5⟩ := kk
  unfold ctlV at k6
  simp only at k6
  have K5 := Lib.hid k5; have K6 := Lib.hid k6; have KC := Lib.hid kc
  clear k5 k6 kc
  have hd0 : Below W6.heap.size W6 W6.drew := (Below.refl _ _).drew
  go_upto_region 3 with (fail)
  rw [HW6.out]
  go_cut [11] (fun s11 wx => ∃ T : Nat, s11 = .pointer (some ⟨T, 0, none⟩) ∧ Hid (CtlAt T ⟨o0, o1, o2, o3, o4, o5⟩ wx) ∧ W6.heap.size ≤ T ∧ Below W6.heap.size W6 wx)
  case first =>
    go_wp2_with fail
    refine wp_region_held_drew (S := (fun w' => w'.cell? ⟨w.heap.size + 2, 3, .none⟩ = some (.slice A n c) ∧ w'.cell? ⟨w.heap.size + 3, 0, .none⟩ = some (.string dev) ∧ Below W6.heap.size W6 w')) (by kernel_rfl) (KC.out _ hd0) (fun hHeld => ?_)
    refine tkS 0 hHeld ?_
    try simp only [Act.put, ps1, ps2, ps3]
    refine tkS 1 hHeld ?_
    try simp only [Act.put, ps1, ps2, ps3]
    refine tkS 2 hHeld ?_
    try simp only [Act.put, ps1, ps2, ps3]
    refine tkS 4 hHeld ?_
    try simp only [Act.put, ps1, ps2, ps3]
    refine wpAnyH_ready (rs := [3, 6]) (by kernel_rfl) (by simp) (AllReadyH.cons (by simp only [List.getElem?_toArray, List.getElem?_cons_succ, List.getElem?_cons_zero]; exact rfl) (fun K hK => ?_) (AllReadyH.cons (by simp only [List.getElem?_toArray, List.getElem?_cons_succ, List.getElem?_cons_zero]; exact rfl) (fun K hK => ?_) AllReadyH.nil))
    · rw [if_pos (by rfl)]
      go_simp
      (with_reducible refine (K5.out _ hd0).mono ?_)
      rintro e w1 ⟨a1, c1, rfl, ho1, hb1⟩
      have hd1 := bt hd0 hb1
      have ho1 := (OwnS.rd ho1).2
      go_wp2_with fail
      refine hK.out _ _ (KC.out _ hd1) (fun hHeld => ?_)
      clear hK K
      try simp only [Act.put, ps1, ps2, ps3]
      refine wpAnyH_ready (rs := [5, 6]) (by kernel_rfl) (by simp) (AllReadyH.cons (by simp only [List.getElem?_toArray, List.getElem?_cons_succ, List.getElem?_cons_zero]; exact rfl) (fun K hK => ?_) (AllReadyH.cons (by simp only [List.getElem?_toArray, List.getElem?_cons_succ, List.getElem?_cons_zero]; exact rfl) (fun K hK => ?_) AllReadyH.nil))
      · rw [if_pos (by rfl)]
        go_simp
        (with_reducible refine (K6.out _ hd1 _ c1 (ho1)).mono ?_)
        rintro e w2 ⟨rfl, hb2⟩
        have hd2 := bt hd1 hb2
        go_wp2_with fail
        refine hK.out _ _ (KC.out _ hd2) (fun hHeld => ?_)
        clear hK K
        try simp only [Act.put, ps1, ps2, ps3]
        refine wpAnyH_ready (rs := [6]) (by kernel_rfl) (by simp) (AllReadyH.cons (by simp only [List.getElem?_toArray, List.getElem?_cons_succ, List.getElem?_cons_zero]; exact rfl) (fun K hK => ?_) AllReadyH.nil)
        rw [if_pos (by rfl)]
        go_simp
        have hal3 := hd2.alloc hd2.size (.cells #[.bool false, .bool false, .bool false, .bool false, .int .i64 0, .int .i64 0] 88)
        refine hK.out _ _ (KC.out _ hal3) (fun hHeld => ?_)
        clear hK K
        try simp only [Act.put, ps1, ps2, ps3]
        refine wpAnyH_ready (rs := [7]) (by kernel_rfl) (by simp) (AllReadyH.cons (by simp only [List.getElem?_toArray, List.getElem?_cons_succ, List.getElem?_cons_zero]; exact rfl) (fun K hK => ?_) AllReadyH.nil)
        rw [if_pos (by rfl)]
        go_simp
        have hfin := hd2.alloc hd2.size (.cells #[.bool o0, .bool o1, .bool o2, .bool o3, .int .i64 o4, .int .i64 o5] 88)
        refine hK.out _ _ (KC.out _ hfin) (fun hHeld => ?_)
        clear hK K
        try simp only [Act.put, ps1, ps2, ps3]
        have hx1 : CtlAt w2.heap.size ⟨o0, o1, o2, o3, o4, o5⟩ (w2.alloc (.cells #[.bool o0, .bool o1, .bool o2, .bool o3, .int .i64 o4, .int .i64 o5] 88)) := heap_new w2 _ _ rfl
        have hle := hd2.size
        refine wpAnyH_done (by kernel_rfl) ?_ _
        clear hHeld
        go_wp2
        go_meet
        exact ⟨_, rfl, Lib.hid hx1, hle, hfin⟩
      · rw [if_pos (by rfl)]
        go_simp
        have hdA : Below W6.heap.size W6 ((w1).alloc (.cells #[.bool false, .bool false, .bool false, .bool false, .int .i64 0, .int .i64 0] 88)) := hd1.alloc hd1.size _
        refine hK.out _ _ (KC.out _ hdA) (fun hHeld => ?_)
        clear hK K
        try simp only [Act.put, ps1, ps2, ps3]
        have hab : Below (w1).heap.size (w1) ((w1).alloc (.cells #[.bool false, .bool false, .bool false, .bool false, .int .i64 0, .int .i64 0] 88)) := (Below.refl (w1).heap.size (w1)).alloc (Nat.le_refl _) _
        have ho1 := ho1.below hab
        clear hab
        obtain ⟨bk, hbe⟩ : ∃ b, (w1).heap.size = b := ⟨_, rfl⟩
        have hbk : ((w1).alloc (.cells #[.bool false, .bool false, .bool false, .bool false, .int .i64 0, .int .i64 0] 88)).heap[bk]? = some (.cells #[.bool false, .bool false, .bool false, .bool false, .int .i64 0, .int .i64 0] 88 (0, 0)) := heap_new (w1) _ _ hbe
        have hbl : bk < ((w1).alloc (.cells #[.bool false, .bool false, .bool false, .bool false, .int .i64 0, .int .i64 0] 88)).heap.size := by rw [← hbe]; simp
        have hle : W6.heap.size ≤ bk := by rw [← hbe]; exact hd1.size
        obtain ⟨WA, hWA⟩ : ∃ W, ((w1).alloc (.cells #[.bool false, .bool false, .bool false, .bool false, .int .i64 0, .int .i64 0] 88)) = W := ⟨_, rfl⟩
        rw [hWA] at hdA ho1 hbk hbl ⊢
        rw [hWA] at hHeld
        have hbe : w1.heap.size = bk := hbe
        rw [hbe]
        clear hWA
        refine wpAnyH_ready (rs := [5]) (by kernel_rfl) (by simp) (AllReadyH.cons (by simp only [List.getElem?_toArray, List.getElem?_cons_succ, List.getElem?_cons_zero]; exact rfl) (fun K hK => ?_) AllReadyH.nil)
        rw [if_pos (by rfl)]
        go_simp
        (with_reducible refine (K6.out _ hdA _ c1 (ho1)).mono ?_)
        rintro e w2 ⟨rfl, hb2⟩
        have hd2 := bt hdA hb2
        go_wp2_with fail
        refine hK.out _ _ (KC.out _ hd2) (fun hHeld => ?_)
        clear hK K
        try simp only [Act.put, ps1, ps2, ps3]
        have hbk := (hb2.block bk hbl).trans hbk
        have hbl := Nat.lt_of_lt_of_le hbl hb2.size
        have q0 := (of_heap hbk 0).1
        have q1 := (of_heap hbk 1).1
        have q2 := (of_heap hbk 2).1
        have q3 := (of_heap hbk 3).1
        have q4 := (of_heap hbk 4).1
        have q5 := (of_heap hbk 5).1
        have p0 := (of_heap hbk 0).2.1
        have p1 := (of_heap hbk 1).2.1
        have p2 := (of_heap hbk 2).2.1
        have p3 := (of_heap hbk 3).2.1
        have p4 := (of_heap hbk 4).2.1
        have p5 := (of_heap hbk 5).2.1
        simp only [List.getElem?_toArray, List.getElem?_cons_succ, List.getElem?_cons_zero] at q0 q1 q2 q3 q4 q5
        refine wpAnyH_ready (rs := [7]) (by kernel_rfl) (by simp) (AllReadyH.cons (by simp only [List.getElem?_toArray, List.getElem?_cons_succ, List.getElem?_cons_zero]; exact rfl) (fun K hK => ?_) AllReadyH.nil)
        rw [if_pos (by rfl)]
        go_simp
        have hfin : Below W6.heap.size W6 ((((((w2.setCell ⟨bk, 0, .none⟩ (.bool o0)).setCell ⟨bk, 1, .none⟩ (.bool o1)).setCell ⟨bk, 2, .none⟩ (.bool o2)).setCell ⟨bk, 3, .none⟩ (.bool o3)).setCell ⟨bk, 4, .none⟩ (.int .i64 o4)).setCell ⟨bk, 5, .none⟩ (.int .i64 o5)) := ((((((hd2.setCell (p := ⟨bk, 0, .none⟩) hle _).setCell (p := ⟨bk, 1, .none⟩) hle _).setCell (p := ⟨bk, 2, .none⟩) hle _).setCell (p := ⟨bk, 3, .none⟩) hle _).setCell (p := ⟨bk, 4, .none⟩) hle _).setCell (p := ⟨bk, 5, .none⟩) hle _)
        refine hK.out _ _ (KC.out _ hfin) (fun hHeld => ?_)
        clear hK K
        try simp only [Act.put, ps1, ps2, ps3]
        have hx0 := (heap_setN (j := 5) (v := .int .i64 o5) (heap_setN (j := 4) (v := .int .i64 o4) (heap_setN (j := 3) (v := .bool o3) (heap_setN (j := 2) (v := .bool o2) (heap_setN (j := 1) (v := .bool o1) (heap_setN (j := 0) (v := .bool o0) hbk))))))
        simp only [List.setIfInBounds_toArray, List.set_cons_zero, List.set_cons_succ] at hx0
        have hx1 : CtlAt bk ⟨o0, o1, o2, o3, o4, o5⟩ ((((((w2.setCell ⟨bk, 0, .none⟩ (.bool o0)).setCell ⟨bk, 1, .none⟩ (.bool o1)).setCell ⟨bk, 2, .none⟩ (.bool o2)).setCell ⟨bk, 3, .none⟩ (.bool o3)).setCell ⟨bk, 4, .none⟩ (.int .i64 o4)).setCell ⟨bk, 5, .none⟩ (.int .i64 o5)) := hx0
        refine wpAnyH_done (by kernel_rfl) ?_ _
        clear hHeld
        go_wp2
        go_meet
        exact ⟨_, rfl, Lib.hid hx1, hle, hfin⟩
    · rw [if_pos (by rfl)]
      go_simp
      have hdA : Below W6.heap.size W6 ((W6.alloc (.cells #[.bool false, .bool false, .bool false, .bool false, .int .i64 0, .int .i64 0] 88)).drew) := hd0.alloc hd0.size _
      refine hK.out _ _ (KC.out _ hdA) (fun hHeld => ?_)
      clear hK K
      try simp only [Act.put, ps1, ps2, ps3]
      have hab : Below (W6.drew).heap.size (W6.drew) ((W6.alloc (.cells #[.bool false, .bool false, .bool false, .bool false, .int .i64 0, .int .i64 0] 88)).drew) := (Below.refl (W6.drew).heap.size (W6.drew)).alloc (Nat.le_refl _) _
      clear hab
      have hbk : ((W6.alloc (.cells #[.bool false, .bool false, .bool false, .bool false, .int .i64 0, .int .i64 0] 88)).drew).heap[W6.heap.size]? = some (.cells #[.bool false, .bool false, .bool false, .bool false, .int .i64 0, .int .i64 0] 88 (0, 0)) := heap_new (W6.drew) _ _ rfl
      have hbl : W6.heap.size < ((W6.alloc (.cells #[.bool false, .bool false, .bool false, .bool false, .int .i64 0, .int .i64 0] 88)).drew).heap.size := by simp
      have hle : W6.heap.size ≤ W6.heap.size := Nat.le_refl _
      obtain ⟨WA, hWA⟩ : ∃ W, ((W6.alloc (.cells #[.bool false, .bool false, .bool false, .bool false, .int .i64 0, .int .i64 0] 88)).drew) = W := ⟨_, rfl⟩
      rw [hWA] at hdA hbk hbl ⊢
      rw [hWA] at hHeld
      clear hWA
      refine wpAnyH_ready (rs := [3]) (by kernel_rfl) (by simp) (AllReadyH.cons (by simp only [List.getElem?_toArray, List.getElem?_cons_succ, List.getElem?_cons_zero]; exact rfl) (fun K hK => ?_) AllReadyH.nil)
      rw [if_pos (by rfl)]
      go_simp
      (with_reducible refine (K5.out _ hdA).mono ?_)
      rintro e w1 ⟨a1, c1, rfl, ho1, hb1⟩
      have hd1 := bt hdA hb1
      have ho1 := (OwnS.rd ho1).2
      go_wp2_with fail
      refine hK.out _ _ (KC.out _ hd1) (fun hHeld => ?_)
      clear hK K
      try simp only [Act.put, ps1, ps2, ps3]
      have hbk := (hb1.block W6.heap.size hbl).trans hbk
      have hbl := Nat.lt_of_lt_of_le hbl hb1.size
      refine wpAnyH_ready (rs := [5]) (by kernel_rfl) (by simp) (AllReadyH.cons (by simp only [List.getElem?_toArray, List.getElem?_cons_succ, List.getElem?_cons_zero]; exact rfl) (fun K hK => ?_) AllReadyH.nil)
      rw [if_pos (by rfl)]
      go_simp
      (with_reducible refine (K6.out _ hd1 _ c1 (ho1)).mono ?_)
      rintro e w2 ⟨rfl, hb2⟩
      have hd2 := bt hd1 hb2
      go_wp2_with fail
      refine hK.out _ _ (KC.out _ hd2) (fun hHeld => ?_)
      clear hK K
      try simp only [Act.put, ps1, ps2, ps3]
      have hbk := (hb2.block W6.heap.size hbl).trans hbk
      have hbl := Nat.lt_of_lt_of_le hbl hb2.size
      have q0 := (of_heap hbk 0).1
      have q1 := (of_heap hbk 1).1
      have q2 := (of_heap hbk 2).1
      have q3 := (of_heap hbk 3).1
      have q4 := (of_heap hbk 4).1
      have q5 := (of_heap hbk 5).1
      have p0 := (of_heap hbk 0).2.1
      have p1 := (of_heap hbk 1).2.1
      have p2 := (of_heap hbk 2).2.1
      have p3 := (of_heap hbk 3).2.1
      have p4 := (of_heap hbk 4).2.1
      have p5 := (of_heap hbk 5).2.1
      simp only [List.getElem?_toArray, List.getElem?_cons_succ, List.getElem?_cons_zero] at q0 q1 q2 q3 q4 q5
      refine wpAnyH_ready (rs := [7]) (by kernel_rfl) (by simp) (AllReadyH.cons (by simp only [List.getElem?_toArray, List.getElem?_cons_succ, List.getElem?_cons_zero]; exact rfl) (fun K hK => ?_) AllReadyH.nil)
      rw [if_pos (by rfl)]
      go_simp
      have hfin : Below W6.heap.size W6 ((((((w2.setCell ⟨W6.heap.size, 0, .none⟩ (.bool o0)).setCell ⟨W6.heap.size, 1, .none⟩ (.bool o1)).setCell ⟨W6.heap.size, 2, .none⟩ (.bool o2)).setCell ⟨W6.heap.size, 3, .none⟩ (.bool o3)).setCell ⟨W6.heap.size, 4, .none⟩ (.int .i64 o4)).setCell ⟨W6.heap.size, 5, .none⟩ (.int .i64 o5)) := ((((((hd2.setCell (p := ⟨W6.heap.size, 0, .none⟩) hle _).setCell (p := ⟨W6.heap.size, 1, .none⟩) hle _).setCell (p := ⟨W6.heap.size, 2, .none⟩) hle _).setCell (p := ⟨W6.heap.size, 3, .none⟩) hle _).setCell (p := ⟨W6.heap.size, 4, .none⟩) hle _).setCell (p := ⟨W6.heap.size, 5, .none⟩) hle _)
      refine hK.out _ _ (KC.out _ hfin) (fun hHeld => ?_)
      clear hK K
      try simp only [Act.put, ps1, ps2, ps3]
      have hx0 := (heap_setN (j := 5) (v := .int .i64 o5) (heap_setN (j := 4) (v := .int .i64 o4) (heap_setN (j := 3) (v := .bool o3) (heap_setN (j := 2) (v := .bool o2) (heap_setN (j := 1) (v := .bool o1) (heap_setN (j := 0) (v := .bool o0) hbk))))))
      simp only [List.setIfInBounds_toArray, List.set_cons_zero, List.set_cons_succ] at hx0
      have hx1 : CtlAt W6.heap.size ⟨o0, o1, o2, o3, o4, o5⟩ ((((((w2.setCell ⟨W6.heap.size, 0, .none⟩ (.bool o0)).setCell ⟨W6.heap.size, 1, .none⟩ (.bool o1)).setCell ⟨W6.heap.size, 2, .none⟩ (.bool o2)).setCell ⟨W6.heap.size, 3, .none⟩ (.bool o3)).setCell ⟨W6.heap.size, 4, .none⟩ (.int .i64 o4)).setCell ⟨W6.heap.size, 5, .none⟩ (.int .i64 o5)) := hx0
      refine wpAnyH_done (by kernel_rfl) ?_ _
      clear hHeld
      go_wp2
      go_meet
      exact ⟨_, rfl, Lib.hid hx1, hle, hfin⟩
  case rest =>
    obtain ⟨T, rfl, HT, hT6, hb7⟩ := hcut
    generalize w2.heap.size = P1 at *
    generalize w5.heap.size = P2 at *
    have hB7 := bt hB6 hb7
    have y3 := (hb7.cell (p := ⟨P1, 0, none⟩) z3').trans X3'.out
    have y6 := (hb7.cell (p := ⟨P2, 0, none⟩) z6).trans X6.out
    have l3 := Nat.lt_of_lt_of_le z3' hb7.size
    have l6 := Nat.lt_of_lt_of_le z6 hb7.size
    have S3 := Lib.hid (R3'.out.below hb7); have S6 := Lib.hid (R6.out.below hb7)
    have e2 := fun W (hb : Below wc.heap.size wc W) => F2.out P1 P2 T a2 c2 a5 c5' W ((hb.cell (p := ⟨P1, 0, none⟩) l3).trans y3) ((hb.cell (p := ⟨P2, 0, none⟩) l6).trans y6) (Nat.lt_of_lt_of_le l6 hb.size) (HT.out.below hb) (S3.out.below hb) (S6.out.below hb)
    have e4 := fun W (hb : Below wc.heap.size wc W) => F4.out P2 T a5 c5' W (bt hB7 hb) ((hb.cell (p := ⟨P2, 0, none⟩) l6).trans y6) (Nat.lt_of_lt_of_le l6 hb.size) (HT.out.below hb) (S6.out.below hb)
    have e0 := fun W (hb : Below wc.heap.size wc W) => F0.out W (bt hB7 hb)
    have e1 := fun W (hb : Below wc.heap.size wc W) => F1.out W (bt hB7 hb)
    have e3 := fun W (hb : Below wc.heap.size wc W) => F3.out W (bt hB7 hb)
    have e5 := fun W (hb : Below wc.heap.size wc W) => F5.out W (bt hB7 hb)
    have G0 := Lib.hid e0; have G1 := Lib.hid e1; have G2 := Lib.hid e2; have G3 := Lib.hid e3; have G4 := Lib.hid e4; have G5 := Lib.hid e5
    obtain ⟨W8, hW8⟩ : ∃ W, wc.alloc (.cells #[.func (.func 66) #[] #[.pointer (some ⟨w.heap.size, 0, none⟩)], .func (.func 67) #[] #[.pointer (some ⟨w.heap.size + 2, 0, none⟩)], .func (.func 69) #[] #[.pointer (some ⟨P1, 0, none⟩), .pointer (some ⟨P2, 0, none⟩), .pointer (some ⟨T, 0, none⟩)], .func (.func 71) #[] #[.pointer (some ⟨w.heap.size + 2, 0, none⟩)], .func (.func 73) #[] #[.pointer (some ⟨w.heap.size + 1, 0, none⟩), .pointer (some ⟨P2, 0, none⟩), .pointer (some ⟨T, 0, none⟩)], .func (.func 74) #[] #[.pointer (some ⟨w.heap.size + 2, 0, none⟩), .pointer (some ⟨w.heap.size + 3, 0, none⟩)]] 24) = W := ⟨_, rfl⟩
    have b8 : Below wc.heap.size wc W8 := by rw [← hW8]; exact (Below.refl wc.heap.size wc).alloc (Nat.le_refl _) _
    have x8 : W8.heap[wc.heap.size]? = some (.cells #[.func (.func 66) #[] #[.pointer (some ⟨w.heap.size, 0, none⟩)], .func (.func 67) #[] #[.pointer (some ⟨w.heap.size + 2, 0, none⟩)], .func (.func 69) #[] #[.pointer (some ⟨P1, 0, none⟩), .pointer (some ⟨P2, 0, none⟩), .pointer (some ⟨T, 0, none⟩)], .func (.func 71) #[] #[.pointer (some ⟨w.heap.size + 2, 0, none⟩)], .func (.func 73) #[] #[.pointer (some ⟨w.heap.size + 1, 0, none⟩), .pointer (some ⟨P2, 0, none⟩), .pointer (some ⟨T, 0, none⟩)], .func (.func 74) #[] #[.pointer (some ⟨w.heap.size + 2, 0, none⟩), .pointer (some ⟨w.heap.size + 3, 0, none⟩)]] 24 (0, 0)) := by rw [← hW8]; exact heap_new wc _ _ rfl
    have HW8 := Lib.hid hW8; have X8 := Lib.hid x8
    have hl8 := (of_heap x8 0).2.2
    have hB8 := bt (bt B1.out hB7) b8
    clear e0 e1 e2 e3 e4 e5 F0 F1 F2 F3 F4 F5 K1 K2 K3 K4 K5 K6 K5' K6' KC hW8 x8 y3 y6 S3 S6 X3' X6 R3' R6 HT YE YD hd0 HW3 HW6 HWW hb7
    go_wp2_with fail
    go_step3
    go_wp2_with fail
    rw [HW8.out]
    go_loopw [39, 13] (fun i mm wr => ∃ j : Nat, j ≤ 6 ∧ i = .int .i64 j ∧ mm = .bool true ∧ Hid (([i0, i1, i2, i3, i4, i5].drop j).foldr (fun a b => a && b) true = L) ∧ Below W8.heap.size W8 wr) (fun i _ _ => 6 - (intOf i).toNat)
    case atStart => exact ⟨0, by omega, rfl, rfl, Lib.hid (by rw [← HL.out]; simp), Below.refl _ _⟩
    case round =>
      clear HL
      obtain ⟨j, hj, rfl, rfl, HL, hbw⟩ := hrel
      rcases (by omega : j = 0 ∨ j = 1 ∨ j = 2 ∨ j = 3 ∨ j = 4 ∨ j = 5 ∨ j = 6) with rfl | rfl | rfl | rfl | rfl | rfl | rfl
      · have r0 := (hbw.cell (p := ⟨wc.heap.size, 0, none⟩) hl8).trans (of_heap X8.out 0).1
        simp only [List.getElem?_toArray, List.getElem?_cons_zero] at r0
        have k9 := G0.out wr (bt b8 hbw)
        have K9 := Lib.hid k9
        clear k9 G0 G1 G2 G3 G4 G5 X8
        cases i0
        · have hl2 : false = L := HL.out
          subst hl2
          clear HL
          go_wp2_with fail
          (with_reducible refine K9.out.mono ?_)
          rintro e w9 ⟨rfl, hb9⟩
          have hB9 := bt (bt hB8 hbw) hb9
          clear hb9 r0
          go_wp2
          rw [Exit.noGoto_ret]
          go_ret
          exact ⟨rfl, hB9⟩
        · have HL2 : Hid (([i1, i2, i3, i4, i5] : List Bool).foldr (fun a b => a && b) true = L) := Lib.hid (by have := HL.out; simpa using this)
          clear HL
          go_wp2_with fail
          (with_reducible refine K9.out.mono ?_)
          rintro e w9 ⟨rfl, hb9⟩
          have hB9 := bt hbw hb9
          clear hb9 r0
          go_wp2
          go_roundw
          case rel => exact ⟨1, by omega, by rfl, rfl, HL2, hB9⟩
          case measure => simp [intOf]
      · have r0 := (hbw.cell (p := ⟨wc.heap.size, 1, none⟩) hl8).trans (of_heap X8.out 1).1
        simp only [List.getElem?_toArray, List.getElem?_cons_succ, List.getElem?_cons_zero] at r0
        have k9 := G1.out wr (bt b8 hbw)
        have K9 := Lib.hid k9
        clear k9 G0 G1 G2 G3 G4 G5 X8
        cases i1
        · have hl2 : false = L := HL.out
          subst hl2
          clear HL
          go_wp2_with fail
          (with_reducible refine K9.out.mono ?_)
          rintro e w9 ⟨rfl, hb9⟩
          have hB9 := bt (bt hB8 hbw) hb9
          clear hb9 r0
          go_wp2
          rw [Exit.noGoto_ret]
          go_ret
          exact ⟨rfl, hB9⟩
        · have HL2 : Hid (([i2, i3, i4, i5] : List Bool).foldr (fun a b => a && b) true = L) := Lib.hid (by have := HL.out; simpa using this)
          clear HL
          go_wp2_with fail
          (with_reducible refine K9.out.mono ?_)
          rintro e w9 ⟨rfl, hb9⟩
          have hB9 := bt hbw hb9
          clear hb9 r0
          go_wp2
          go_roundw
          case rel => exact ⟨2, by omega, by rfl, rfl, HL2, hB9⟩
          case measure => simp [intOf]
      · have r0 := (hbw.cell (p := ⟨wc.heap.size, 2, none⟩) hl8).trans (of_heap X8.out 2).1
        simp only [List.getElem?_toArray, List.getElem?_cons_succ, List.getElem?_cons_zero] at r0
        have k9 := G2.out wr (bt b8 hbw)
        have K9 := Lib.hid k9
        clear k9 G0 G1 G2 G3 G4 G5 X8
        cases i2
        · have hl2 : false = L := HL.out
          subst hl2
          clear HL
          go_wp2_with fail
          (with_reducible refine K9.out.mono ?_)
          rintro e w9 ⟨rfl, hb9⟩
          have hB9 := bt (bt hB8 hbw) hb9
          clear hb9 r0
          go_wp2
          rw [Exit.noGoto_ret]
          go_ret
          exact ⟨rfl, hB9⟩
        · have HL2 : Hid (([i3, i4, i5] : List Bool).foldr (fun a b => a && b) true = L) := Lib.hid (by have := HL.out; simpa using this)
          clear HL
          go_wp2_with fail
          (with_reducible refine K9.out.mono ?_)
          rintro e w9 ⟨rfl, hb9⟩
          have hB9 := bt hbw hb9
          clear hb9 r0
          go_wp2
          go_roundw
          case rel => exact ⟨3, by omega, by rfl, rfl, HL2, hB9⟩
          case measure => simp [intOf]
      · have r0 := (hbw.cell (p := ⟨wc.heap.size, 3, none⟩) hl8).trans (of_heap X8.out 3).1
        simp only [List.getElem?_toArray, List.getElem?_cons_succ, List.getElem?_cons_zero] at r0
        have k9 := G3.out wr (bt b8 hbw)
        have K9 := Lib.hid k9
        clear k9 G0 G1 G2 G3 G4 G5 X8
        cases i3
        · have hl2 : false = L := HL.out
          subst hl2
          clear HL
          go_wp2_with fail
          (with_reducible refine K9.out.mono ?_)
          rintro e w9 ⟨rfl, hb9⟩
          have hB9 := bt (bt hB8 hbw) hb9
          clear hb9 r0
          go_wp2
          rw [Exit.noGoto_ret]
          go_ret
          exact ⟨rfl, hB9⟩
        · have HL2 : Hid (([i4, i5] : List Bool).foldr (fun a b => a && b) true = L) := Lib.hid (by have := HL.out; simpa using this)
          clear HL
          go_wp2_with fail
          (with_reducible refine K9.out.mono ?_)
          rintro e w9 ⟨rfl, hb9⟩
          have hB9 := bt hbw hb9
          clear hb9 r0
          go_wp2
          go_roundw
          case rel => exact ⟨4, by omega, by rfl, rfl, HL2, hB9⟩
          case measure => simp [intOf]
      · have r0 := (hbw.cell (p := ⟨wc.heap.size, 4, none⟩) hl8).trans (of_heap X8.out 4).1
        simp only [List.getElem?_toArray, List.getElem?_cons_succ, List.getElem?_cons_zero] at r0
        have k9 := G4.out wr (bt b8 hbw)
        have K9 := Lib.hid k9
        clear k9 G0 G1 G2 G3 G4 G5 X8
        cases i4
        · have hl2 : false = L := HL.out
          subst hl2
          clear HL
          go_wp2_with fail
          (with_reducible refine K9.out.mono ?_)
          rintro e w9 ⟨rfl, hb9⟩
          have hB9 := bt (bt hB8 hbw) hb9
          clear hb9 r0
          go_wp2
          rw [Exit.noGoto_ret]
          go_ret
          exact ⟨rfl, hB9⟩
        · have HL2 : Hid (([i5] : List Bool).foldr (fun a b => a && b) true = L) := Lib.hid (by have := HL.out; simpa using this)
          clear HL
          go_wp2_with fail
          (with_reducible refine K9.out.mono ?_)
          rintro e w9 ⟨rfl, hb9⟩
          have hB9 := bt hbw hb9
          clear hb9 r0
          go_wp2
          go_roundw
          case rel => exact ⟨5, by omega, by rfl, rfl, HL2, hB9⟩
          case measure => simp [intOf]
      · have r0 := (hbw.cell (p := ⟨wc.heap.size, 5, none⟩) hl8).trans (of_heap X8.out 5).1
        simp only [List.getElem?_toArray, List.getElem?_cons_succ, List.getElem?_cons_zero] at r0
        have k9 := G5.out wr (bt b8 hbw)
        have K9 := Lib.hid k9
        clear k9 G0 G1 G2 G3 G4 G5 X8
        cases i5
        · have hl2 : false = L := HL.out
          subst hl2
          clear HL
          go_wp2_with fail
          (with_reducible refine K9.out.mono ?_)
          rintro e w9 ⟨rfl, hb9⟩
          have hB9 := bt (bt hB8 hbw) hb9
          clear hb9 r0
          go_wp2
          rw [Exit.noGoto_ret]
          go_ret
          exact ⟨rfl, hB9⟩
        · have HL2 : Hid (([] : List Bool).foldr (fun a b => a && b) true = L) := Lib.hid (by have := HL.out; simpa using this)
          clear HL
          go_wp2_with fail
          (with_reducible refine K9.out.mono ?_)
          rintro e w9 ⟨rfl, hb9⟩
          have hB9 := bt hbw hb9
          clear hb9 r0
          go_wp2
          go_roundw
          case rel => exact ⟨6, by omega, by rfl, rfl, HL2, hB9⟩
          case measure => simp [intOf]
      · have hl2 : true = L := HL.out
        subst hl2
        clear HL G0 G1 G2 G3 G4 G5 X8
        go_wp2
        rw [Exit.noGoto_ret]
        go_ret
        exact ⟨rfl, bt hB8 hbw⟩
end Go.Proofs.YtcgdcbnhpbokfaaGreatDoor
/- The walk of the law's entry (layer 13): fields out of names and values. -/
namespace Go.Proofs.YtcgdcbnhpbokfaaGreatDoor
open Go.RowKit
set_option maxRecDepth 100000

/-- The entry that is made, in a block of its own. -/
def EntS (E : Nat) (fs : List Fld) (w : World) : Prop := ∃ v, w.heap[E]? = some (.cells #[.int .i64 0, .string ⟨#[]⟩, .int .i64 0, v, .string ⟨#[]⟩, .int .i64 100, .int .i64 110, .slice none 0 0] 30 (0, 0)) ∧ OwnF (E + 1) v fs w
theorem EntS.lt {E : Nat} {fs : List Fld} {w : World} (h : EntS E fs w) : E < w.heap.size := by
  obtain ⟨v, h, _⟩ := h
  exact (of_heap h 0).2.2
theorem EntS.below {E : Nat} {fs : List Fld} {w w' : World} (h : EntS E fs w) (hb : Below w.heap.size w w') : EntS E fs w' := by
  have hl := h.lt
  obtain ⟨v, h1, h2⟩ := h
  exact ⟨v, (hb.block E hl).trans h1, h2.below hb⟩
theorem set8_own {w : World} (E : Nat) {B : Nat} {v : Value} {fs : List Fld} {v0 v1 v2 v3 v4 v5 v6 v7 : Value} (h : OwnF (E + 1) v fs w) (hB : B = E) : OwnF B v fs (set8 w E v0 v1 v2 v3 v4 v5 v6 v7) := by
  subst hB
  have hl := Nat.lt_succ_self B
  unfold set8
  exact OwnF.base (ownsRow_setCell_below (a := ⟨B, 7, none⟩) (ownsRow_setCell_below (a := ⟨B, 6, none⟩) (ownsRow_setCell_below (a := ⟨B, 5, none⟩) (ownsRow_setCell_below (a := ⟨B, 4, none⟩) (ownsRow_setCell_below (a := ⟨B, 3, none⟩) (ownsRow_setCell_below (a := ⟨B, 2, none⟩) (ownsRow_setCell_below (a := ⟨B, 1, none⟩) (ownsRow_setCell_below (a := ⟨B, 0, none⟩) h hl _) hl _) hl _) hl _) hl _) hl _) hl _) hl _) (Nat.le_succ _)
set_option maxHeartbeats 8000000 in
theorem entry13_any (A : Option Addr) (n c : Nat) (fs : List Fld) (w : World) (hr : Rd A n 1 (fldsV fs) w) (hn : n ≤ 100) :
    Calls Tryz.prog 107 #[.slice A n c] w fun e w' => ∃ a c', e = .returned (entV 0 ⟨#[]⟩ 0 a fs.length c' ⟨#[]⟩ 100 110 none 0 0) ∧ OwnF w.heap.size (.slice a fs.length c') fs w' ∧ Below w.heap.size w w' := by
  have hnl : n = fs.length * 2 := by have := hr.1; rw [fldsV_len] at this; omega
  subst hnl
  have hat : ∀ k (h : k < fs.length), ∃ b o, A = some ⟨b, o, none⟩ ∧ b < w.heap.size ∧ w.cell? ⟨b, o + k * 2, none⟩ = some (.string ⟨(fs[k]).1.toArray⟩) ∧ w.cell? ⟨b, o + (k * 2 + 1), none⟩ = some (.string ⟨(fs[k]).2.toArray⟩) := by
    intro k h
    obtain ⟨b, o, e, hl, hc⟩ := hr.2 (by omega)
    have := fldsV_at fs k h
    exact ⟨b, o, e, hl, hc _ _ this.1, hc _ _ this.2⟩
  have hsn : ∀ k (h : k < fs.length), fs.take (k + 1) = fs.take k ++ [fs[k]] := fun k h => List.take_succ_eq_append_getElem h
  obtain ⟨W1, hW1⟩ : ∃ W1, w.alloc (.cells #[.int .i64 0, .string ⟨#[]⟩, .int .i64 0, .slice none 0 0, .string ⟨#[]⟩, .int .i64 0, .int .i64 0, .slice none 0 0] 30) = W1 := ⟨_, rfl⟩
  have b1 : Below w.heap.size w W1 := by rw [← hW1]; exact (Below.refl w.heap.size w).alloc (Nat.le_refl _) _
  have z1 : W1.heap.size = w.heap.size + 1 := by rw [← hW1]; simp
  have x1 : W1.heap[w.heap.size]? = some (.cells #[.int .i64 0, .string ⟨#[]⟩, .int .i64 0, .slice none 0 0, .string ⟨#[]⟩, .int .i64 0, .int .i64 0, .slice none 0 0] 30 (0, 0)) := by rw [← hW1]; exact heap_new w _ _ rfl
  obtain ⟨W2, hW2⟩ : ∃ W2, W1.alloc (.cells #[.int .i64 0, .string ⟨#[]⟩, .int .i64 0, .slice none 0 0, .string ⟨#[]⟩, .int .i64 100, .int .i64 110, .slice none 0 0] 30) = W2 := ⟨_, rfl⟩
  have b2 : Below W1.heap.size W1 W2 := by rw [← hW2]; exact (Below.refl W1.heap.size W1).alloc (Nat.le_refl _) _
  have z2 : W2.heap.size = w.heap.size + 2 := by rw [← hW2]; simp [z1]
  have x2 : EntS (w.heap.size + 1) [] W2 := by
    rw [← hW2]
    exact ⟨.slice none 0 0, heap_new W1 _ _ z1, OwnF.nil _ _⟩
  have y1 := (b2.block w.heap.size (by omega)).trans x1
  have hB2 : Below w.heap.size w W2 := bt b1 b2
  have HAT := Lib.hid hat; have HSN := Lib.hid hsn; have HW1 := Lib.hid hW1; have HW2 := Lib.hid hW2; have X2 := Lib.hid x2; have Y1 := Lib.hid y1; have HB2 := Lib.hid hB2
  clear hr hat hsn hW1 hW2 x1 x2 y1 hB2 b1 b2 z1
  go_enter Tryz.func107, Tryz.ntmps107
  go_wp2_with fail
  rw [HW1.out, HW2.out]
  go_loopw [4] (fun i wr => ∃ k : Nat, k ≤ fs.length ∧ i = .int .i64 (k * 2 : Nat) ∧ Hid (EntS (w.heap.size + 1) (fs.take k) wr) ∧ Below (w.heap.size + 1) W2 wr) (fun i _ => 2 * fs.length + 1 - (intOf i).toNat)
  case atStart => exact ⟨0, Nat.zero_le _, rfl, X2, Below.refl _ _⟩
  case round =>
    clear X2
    obtain ⟨k, hk, rfl, HO, hbw⟩ := hrel
    by_cases hlt : k < fs.length
    · obtain ⟨b, o, rfl, hl, c0, c1⟩ := HAT.out k hlt
      have hst := HSN.out k hlt
      have hlen : (fs.take k).length ≤ 1000000000 := by rw [List.length_take]; omega
      generalize fs[k] = f at *
      obtain ⟨fx, fy⟩ := f
      simp only at c0 c1 hst
      obtain ⟨v, o1, o2⟩ := HO.out
      obtain ⟨va, vc, rfl⟩ := o2.shape
      have e3 := (of_heap o1 3).1; have e3f := (of_heap o1 3).2.1; have hEl := (of_heap o1 3).2.2
      have hBw : Below w.heap.size w wr := HB2.out.trans (hbw.mono (Nat.le_succ _))
      have d0 := (hBw.cell (p := ⟨b, o + k * 2, none⟩) hl).trans c0
      have d1 := (hBw.cell (p := ⟨b, o + (k * 2 + 1), none⟩) hl).trans c1
      obtain ⟨j, hj⟩ : ∃ j, k * 2 = j := ⟨_, rfl⟩
      rw [hj] at d0 d1 ⊢
      have HJ := Lib.hid hj
      have j0 : (0 : Int) ≤ (j : Int) := by omega
      have j1 : (j : Int) < (fs.length : Int) * 2 := by omega
      have j2 : IntKind.i64.wrap ((j : Int) + 1) = (j : Int) + 1 := IntWalk.i64_in _ (by omega)
      have j3 : (0 : Int) ≤ (j : Int) + 1 := by omega
      have j4 : (j : Int) + 1 < (fs.length : Int) * 2 := by omega
      have j5 : ((j : Int) + 1).toNat = j + 1 := by omega
      have hjn : (k + 1) * 2 = j + 2 := by omega
      have HJN := Lib.hid hjn
      generalize hacc : fs.take k = acc at *
      have O1 := Lib.hid o1; have O2 := Lib.hid o2; have HST := Lib.hid hst
      have t1 : decide ((j : Int) + 1 < (fs.length : Int) * 2) = true := by simpa using j4
      clear hj hjn o1 o2 hst HO HAT HSN c0 c1 hacc
      go_wp2_with fail
      go_region_law (refine step_fld (w.heap.size + 2) (fx, fy) O2.out.drew (by simp; omega) hlen rfl _ _ rfl rfl rfl ?_; intro v' w3 hO3 hb4 hf4; obtain ⟨va', vc', rfl⟩ := hO3.shape; have g3 := (hb4.cell (p := ⟨w.heap.size + 1, 3, none⟩) (Nat.lt_succ_self _)).trans e3; have g3f := (hb4.frozen (p := ⟨w.heap.size + 1, 3, none⟩) (Nat.lt_succ_self _)).trans e3f)
      all_goals
        have H3 := (hb4.block (w.heap.size + 1) (Nat.lt_succ_self _)).trans O1.out
        have hB3 : Below (w.heap.size + 1) W2 (w3.setCell ⟨w.heap.size + 1, 3, none⟩ (.slice va' (acc ++ [(fx, fy)]).length vc')) := (hbw.drew.trans (hb4.mono (Nat.le_succ _))).setCell (Nat.le_refl _) _
        have hE3 : EntS (w.heap.size + 1) (acc ++ [(fx, fy)]) (w3.setCell ⟨w.heap.size + 1, 3, none⟩ (.slice va' (acc ++ [(fx, fy)]).length vc')) := by
          refine ⟨_, ?_, ownsRow_setCell_below (a := ⟨w.heap.size + 1, 3, none⟩) hO3 (Nat.lt_succ_self _) _⟩
          have := heap_setN (j := 3) (v := .slice va' (acc ++ [(fx, fy)]).length vc') H3
          simpa using this
        have hz : (acc ++ [(fx, fy)]).length = acc.length + 1 := by simp
        rw [hz, ← HST.out] at hE3
        rw [hz] at hB3
        have HE3 := Lib.hid hE3; have HB3 := Lib.hid hB3
        clear hE3 hB3 H3 hb4 hO3 hf4 hz
        go_wp2
        go_roundw
        case rel => exact ⟨k + 1, by omega, by rw [HJN.out]; go_num, HE3, HB3.out⟩
        case measure => simp [intOf]; omega
    · have hke : k = fs.length := by omega
      subst hke
      have ho := HO.out
      rw [List.take_length] at ho
      obtain ⟨v, o1, o2⟩ := ho
      obtain ⟨va, vc, rfl⟩ := o2.shape
      have e0 := (of_heap o1 0).1; have e1 := (of_heap o1 1).1; have e2 := (of_heap o1 2).1; have e3 := (of_heap o1 3).1; have e4 := (of_heap o1 4).1; have e5 := (of_heap o1 5).1; have e6 := (of_heap o1 6).1; have e7 := (of_heap o1 7).1
      have yr := (hbw.block w.heap.size (Nat.lt_succ_self _)).trans Y1.out
      have d0 := (of_heap yr 0).1; have d1 := (of_heap yr 1).1; have d2 := (of_heap yr 2).1; have d3 := (of_heap yr 3).1; have d4 := (of_heap yr 4).1; have d5 := (of_heap yr 5).1; have d6 := (of_heap yr 6).1; have d7 := (of_heap yr 7).1
      have l0 := (of_heap yr 0).2.1; have l1 := (of_heap yr 1).2.1; have l2 := (of_heap yr 2).2.1; have l3 := (of_heap yr 3).2.1; have l4 := (of_heap yr 4).2.1; have l5 := (of_heap yr 5).2.1; have l6 := (of_heap yr 6).2.1; have l7 := (of_heap yr 7).2.1
      simp only [List.getElem?_toArray, List.getElem?_cons_succ, List.getElem?_cons_zero] at e0 e1 e2 e3 e4 e5 e6 e7 d0 d1 d2 d3 d4 d5 d6 d7
      have hBw : Below w.heap.size w wr := HB2.out.trans (hbw.mono (Nat.le_succ _))
      have O2 := Lib.hid o2; have HBw := Lib.hid hBw
      clear o1 o2 yr HO HAT HSN hBw hbw
      go_wp2_with fail
      refine bodyPost_ret_by (v := .agg #[.int .i64 0, .string ⟨#[]⟩, .int .i64 0, .slice va fs.length vc, .string ⟨#[]⟩, .int .i64 100, .int .i64 110, .slice none 0 0]) ?_ rfl ?_
      · rw [results_cell_one rfl]
        go_simp
      · exact ⟨va, vc, rfl, set8_own w.heap.size (OwnF.base O2.out (Nat.le_succ _)) rfl, set8_below HBw.out _ _ _ _ _ _ _ _⟩
end Go.Proofs.YtcgdcbnhpbokfaaGreatDoor
/- The walks of the law's small questions (layer 13). -/
namespace Go.Proofs.YtcgdcbnhpbokfaaGreatDoor
open Go.RowKit
set_option maxRecDepth 100000

theorem Rd.newP (w : World) (fs : List Fld) (T : TypeId) : Rd (some ⟨w.heap.size, 0, none⟩) (fs.length * 2) 1 (fldsV fs) (w.alloc (.cells (fldsV fs).toArray T)) := by
  refine ⟨by rw [fldsV_len]; omega, fun _ => ⟨w.heap.size, 0, rfl, by simp, fun j u hu => ?_⟩⟩
  rw [Nat.zero_add, World.cell?_alloc_mark]
  simpa using hu
set_option maxHeartbeats 8000000 in
theorem is13_any (life age : Int) (A : Option Addr) (n c : Nat) (fs : List Fld) (w : World) (hE : DEnv w) (hr : Rd A n 1 (fldsV fs) w) (hn : n ≤ 100) (hs : sumF fs ≤ 800000) (h1 : lifeF fs 110 [100] = life) (h2 : ageF fs 100 110 130 = age) :
    Calls Tryz.prog 46 #[.int .i64 life, .int .i64 age, .slice A n c] w fun e w' => e = .returned (.bool true) ∧ Below w.heap.size w w' := by
  have hnl : n = fs.length * 2 := by have := hr.1; rw [fldsV_len] at this; omega
  have h3 : freshF fs 100 110 130 [100] = decide (age < life) := by unfold freshF; rw [h1, h2]
  have k1 := entry13_any A n c fs w hr hn
  have k2 := fun a c' W (hb : Below w.heap.size w W) (h : Rd a fs.length 2 (fldsV fs) W) => life_any 0 0 100 110 ⟨#[]⟩ ⟨#[]⟩ a none fs.length c' 0 0 fs ⟨#[100]⟩ W (hE.below hb) h (by omega) hs (by decide)
  have k3 := fun a c' W (hb : Below w.heap.size w W) (h : Rd a fs.length 2 (fldsV fs) W) => age_any 0 0 100 110 130 ⟨#[]⟩ ⟨#[]⟩ a none fs.length c' 0 0 fs W (hE.below hb) h (by omega) hs (by decide) (by decide) (by decide)
  have k4 := fun a c' W (hb : Below w.heap.size w W) (h : Rd a fs.length 2 (fldsV fs) W) => fresh_any 0 0 100 110 130 ⟨#[]⟩ ⟨#[]⟩ a none fs.length c' 0 0 fs ⟨#[100]⟩ W (hE.below hb) h (by omega) hs (by decide) (by decide) (by decide)
  rw [show (⟨#[100]⟩ : ByteArray).data.toList = [100] from rfl] at k2 k4
  rw [h1] at k2
  rw [h2] at k3
  rw [h3] at k4
  have K1 := Lib.hid k1; have K2 := Lib.hid k2; have K3 := Lib.hid k3; have K4 := Lib.hid k4
  have e1 : (life == life) = true := by simp
  have e2 : (age == age) = true := by simp
  have e3 : (decide (age < life) == decide (age < life)) = true := by simp
  clear k1 k2 k3 k4 hE hr h1 h2 h3 hs hnl
  go_enter Tryz.func46, Tryz.ntmps46
  go_wp2_with fail
  (with_reducible refine K1.out.mono ?_)
  rintro e w1 ⟨a, c', rfl, ho1, hb1⟩
  obtain ⟨W2, hW2⟩ : ∃ W2, w1.alloc (.cells #[.int .i64 0, .string ⟨#[]⟩, .int .i64 0, .slice a fs.length c', .string ⟨#[]⟩, .int .i64 100, .int .i64 110, .slice none 0 0] 30) = W2 := ⟨_, rfl⟩
  have b2 : Below w1.heap.size w1 W2 := by rw [← hW2]; exact (Below.refl w1.heap.size w1).alloc (Nat.le_refl _) _
  have x2 : EntAt w1.heap.size 0 ⟨#[]⟩ 0 a fs.length c' ⟨#[]⟩ 100 110 none 0 0 W2 := by rw [← hW2]; exact heap_new w1 _ _ rfl
  have r2 := ho1.rd.2.below b2
  have hB2 := bt hb1 b2
  have X2 := Lib.hid x2; have HW2 := Lib.hid hW2; have R2 := Lib.hid r2; have HB2 := Lib.hid hB2
  have K5 := Lib.hid (K2.out a c' W2 HB2.out R2.out)
  obtain ⟨c0, c1, c2, c3, c4, c5, c6, c7, cl⟩ := x2.cells
  clear hb1 ho1 b2 x2 r2 hB2 hW2 K1 K2
  unfold entV at *
  go_wp2_with fail
  rw [HW2.out]
  (with_reducible refine K5.out.mono ?_)
  rintro e w3 ⟨rfl, hb3⟩
  have HB3 := Lib.hid (bt HB2.out hb3)
  have X3 := Lib.hid (X2.out.below hb3)
  have R3 := Lib.hid (R2.out.below hb3)
  have K6 := Lib.hid (K3.out a c' w3 HB3.out R3.out)
  clear c0 c1 c2 c3 c4 c5 c6 c7 cl
  obtain ⟨c0, c1, c2, c3, c4, c5, c6, c7, cl⟩ := X3.out.cells
  clear hb3 K5 K3 X2 R2 HB2
  go_wp2_with fail
  (with_reducible refine K6.out.mono ?_)
  rintro e w4 ⟨rfl, hb4⟩
  have HB4 := Lib.hid (bt HB3.out hb4)
  have X4 := Lib.hid (X3.out.below hb4)
  have R4 := Lib.hid (R3.out.below hb4)
  have K7 := Lib.hid (K4.out a c' w4 HB4.out R4.out)
  clear c0 c1 c2 c3 c4 c5 c6 c7 cl
  obtain ⟨c0, c1, c2, c3, c4, c5, c6, c7, cl⟩ := X4.out.cells
  clear hb4 K6 K4 X3 R3 HB3
  go_wp2_with fail
  (with_reducible refine K7.out.mono ?_)
  rintro e w5 ⟨rfl, hb5⟩
  go_wp2
  go_ret
  exact ⟨by simp, bt HB4.out hb5⟩
theorem is13_new (life age : Int) (fs : List Fld) (n : Nat) (hn : fs.length * 2 = n) (w : World) (hE : DEnv w) (hn2 : n ≤ 100) (hs : sumF fs ≤ 800000) (h1 : lifeF fs 110 [100] = life) (h2 : ageF fs 100 110 130 = age) :
    Calls Tryz.prog 46 #[.int .i64 life, .int .i64 age, .slice (some ⟨w.heap.size, 0, none⟩) n n] (w.alloc (.cells (fldsV fs).toArray 9)) fun e w' => e = .returned (.bool true) ∧ Below w.heap.size w w' := by
  subst hn
  have hal := (Below.refl w.heap.size w).alloc (Nat.le_refl _) (.cells (fldsV fs).toArray 9)
  refine (is13_any life age _ _ (fs.length * 2) fs _ (hE.below hal) (Rd.newP w fs 9) hn2 hs h1 h2).mono ?_
  rintro e w' ⟨rfl, hb⟩
  exact ⟨rfl, bt hal hb⟩
end Go.Proofs.YtcgdcbnhpbokfaaGreatDoor
/- The walk of the law's awake (layer 13; printed by wip/tools/known13.py). -/
namespace Go.Proofs.YtcgdcbnhpbokfaaGreatDoor
open Go.RowKit
set_option maxRecDepth 100000

theorem aq13_0 (w : World) (hE : DEnv w) : Calls Tryz.prog 46 #[.int .i64 30, .int .i64 30, .slice (some ⟨w.heap.size, 0, none⟩) 2 2] (w.alloc (.cells #[.string ⟨#[99, 97, 99, 104, 101, 45, 99, 111, 110, 116, 114, 111, 108]⟩, .string ⟨#[109, 97, 120, 45, 97, 103, 101, 61, 51, 48]⟩] 9)) fun e w' => e = .returned (.bool true) ∧ Below w.heap.size w w' :=
  is13_new 30 30 [([99, 97, 99, 104, 101, 45, 99, 111, 110, 116, 114, 111, 108], [109, 97, 120, 45, 97, 103, 101, 61, 51, 48])] 2 rfl w hE (by decide) (by decide) (by kernel_rfl) (by kernel_rfl)
theorem aq13_1 (w : World) (hE : DEnv w) : Calls Tryz.prog 46 #[.int .i64 31, .int .i64 30, .slice (some ⟨w.heap.size, 0, none⟩) 2 2] (w.alloc (.cells #[.string ⟨#[67, 97, 99, 104, 101, 45, 67, 111, 110, 116, 114, 111, 108]⟩, .string ⟨#[109, 97, 120, 45, 97, 103, 101, 61, 51, 48, 44, 32, 115, 45, 109, 97, 120, 97, 103, 101, 61, 51, 49]⟩] 9)) fun e w' => e = .returned (.bool true) ∧ Below w.heap.size w w' :=
  is13_new 31 30 [([67, 97, 99, 104, 101, 45, 67, 111, 110, 116, 114, 111, 108], [109, 97, 120, 45, 97, 103, 101, 61, 51, 48, 44, 32, 115, 45, 109, 97, 120, 97, 103, 101, 61, 51, 49])] 2 rfl w hE (by decide) (by decide) (by kernel_rfl) (by kernel_rfl)
theorem aq13_2 (w : World) (hE : DEnv w) : Calls Tryz.prog 46 #[.int .i64 60, .int .i64 70, .slice (some ⟨w.heap.size, 0, none⟩) 6 6] (w.alloc (.cells #[.string ⟨#[97, 103, 101]⟩, .string ⟨#[53]⟩, .string ⟨#[101, 120, 112, 105, 114, 101, 115]⟩, .string ⟨#[84, 104, 117, 44, 32, 48, 49, 32, 74, 97, 110, 32, 49, 57, 55, 48, 32, 48, 48, 58, 48, 50, 58, 48, 48, 32, 71, 77, 84]⟩, .string ⟨#[100, 97, 116, 101]⟩, .string ⟨#[84, 104, 117, 44, 32, 48, 49, 32, 74, 97, 110, 32, 49, 57, 55, 48, 32, 48, 48, 58, 48, 49, 58, 48, 48, 32, 71, 77, 84]⟩] 9)) fun e w' => e = .returned (.bool true) ∧ Below w.heap.size w w' :=
  is13_new 60 70 [([97, 103, 101], [53]), ([101, 120, 112, 105, 114, 101, 115], [84, 104, 117, 44, 32, 48, 49, 32, 74, 97, 110, 32, 49, 57, 55, 48, 32, 48, 48, 58, 48, 50, 58, 48, 48, 32, 71, 77, 84]), ([100, 97, 116, 101], [84, 104, 117, 44, 32, 48, 49, 32, 74, 97, 110, 32, 49, 57, 55, 48, 32, 48, 48, 58, 48, 49, 58, 48, 48, 32, 71, 77, 84])] 6 rfl w hE (by decide) (by decide) (by kernel_rfl) (by kernel_rfl)
set_option maxHeartbeats 8000000 in
theorem awake13_any (w0 : World) (hE : DEnv w0) :
    Calls Tryz.prog 14 #[] w0 fun e w' => e = .returned (.bool true) ∧ Below w0.heap.size w0 w' := by
  have HB0 := Lib.hid (Below.refl w0.heap.size w0)
  go_enter Tryz.func14, Tryz.ntmps14
  have kk := aq13_0 w0 (hE.below HB0.out)
  have KK := Lib.hid kk
  clear kk
  go_wp2_with fail
  (with_reducible refine KK.out.mono ?_)
  rintro e w1 ⟨rfl, hb⟩
  have HB1 := Lib.hid (bt HB0.out hb)
  clear hb KK HB0
  have kk := aq13_1 w1 (hE.below HB1.out)
  have KK := Lib.hid kk
  clear kk
  go_wp2_with fail
  (with_reducible refine KK.out.mono ?_)
  rintro e w2 ⟨rfl, hb⟩
  have HB2 := Lib.hid (bt HB1.out hb)
  clear hb KK HB1
  have kk := aq13_2 w2 (hE.below HB2.out)
  have KK := Lib.hid kk
  clear kk
  go_wp2_with fail
  (with_reducible refine KK.out.mono ?_)
  rintro e w3 ⟨rfl, hb⟩
  have HB3 := Lib.hid (bt HB2.out hb)
  clear hb KK HB2
  go_wp2
  go_ret
  exact ⟨rfl, HB3.out⟩
end Go.Proofs.YtcgdcbnhpbokfaaGreatDoor
/- The walk of the law's few (layer 13). -/
namespace Go.Proofs.YtcgdcbnhpbokfaaGreatDoor
open Go.RowKit
set_option maxRecDepth 100000

def few13b (f : Fld) : Bool := decide (f.1.length + f.2.length ≤ 2000)
def few13 (xs : List Fld) : Bool := (xs.take 90).all few13b && decide (xs.length ≤ 80)
theorem few13_yes {xs : List Fld} (h : few13 xs = true) : xs.length ≤ 80 ∧ sumF xs ≤ 160000 := by
  unfold few13 at h
  rw [Bool.and_eq_true, decide_eq_true_eq, List.all_eq_true] at h
  obtain ⟨h1, h2⟩ := h
  rw [List.take_of_length_le (by omega)] at h1
  have key : ∀ l : List Fld, (∀ f ∈ l, few13b f = true) → sumF l ≤ 2000 * l.length := by
    intro l
    induction l with
    | nil => intro _; simp [sumF]
    | cons x r ih =>
      intro hx
      have a := ih (fun f hf => hx f (by simp [hf]))
      have b := hx x (by simp)
      unfold few13b at b
      rw [decide_eq_true_eq] at b
      unfold sumF at *
      rw [List.map_cons, List.sum_cons, List.length_cons]
      omega
  have := key xs h1
  omega

set_option maxHeartbeats 4000000 in
theorem few13_any (st mi asked got : Int) (re bo : ByteArray) (A V : Option Addr) (n c m d : Nat) (xs : List Fld) (w : World) (hr : Rd A n 2 (fldsV xs) w) (hs : ∀ f ∈ xs, f.1.length ≤ 140737488355328 ∧ f.2.length ≤ 140737488355328) :
    Calls Tryz.prog 13 #[entV st re mi A n c bo asked got V m d] w fun e w' => e = .returned (.bool (few13 xs)) ∧ Below w.heap.size w w' := by
  obtain rfl := hr.fld
  obtain ⟨W1, hW1⟩ : ∃ W1, w.alloc (.cells #[.int .i64 st, .string re, .int .i64 mi, .slice A xs.length c, .string bo, .int .i64 asked, .int .i64 got, .slice V m d] 30) = W1 := ⟨_, rfl⟩
  have b1 : Below w.heap.size w W1 := by rw [← hW1]; exact (Below.refl w.heap.size w).alloc (Nat.le_refl _) _
  have x1 : W1.heap[w.heap.size]? = some (.cells #[.int .i64 st, .string re, .int .i64 mi, .slice A xs.length c, .string bo, .int .i64 asked, .int .i64 got, .slice V m d] 30 (0, 0)) := by rw [← hW1]; exact heap_new w _ _ rfl
  have c3 := (of_heap x1 3).1
  have hbad : ∀ k (h : k < xs.length), k < 90 → few13b xs[k] = false → few13 xs = false := by
    intro k h h30 hl
    unfold few13
    rw [Bool.and_eq_false_iff]
    left
    rw [List.all_eq_false]
    refine ⟨xs[k], ?_, by simp [hl]⟩
    rw [List.mem_take_iff_getElem]
    exact ⟨k, by omega, rfl⟩
  have hgood : ∀ k, (∀ v ∈ xs.take k, few13b v = true) → (k = xs.length ∨ 90 ≤ k) → few13 xs = decide ((xs.length : Int) ≤ 80) := by
    intro k h hk
    unfold few13
    rw [show (xs.take 90).all few13b = true from by
      rw [List.all_eq_true]; intro v hv
      have : v ∈ xs.take k := by
        rw [List.mem_take_iff_getElem] at hv ⊢
        obtain ⟨i, hi, e⟩ := hv
        exact ⟨i, by omega, e⟩
      exact h v this, Bool.true_and]
    rw [Bool.eq_iff_iff]; simp; omega
  have hsn : ∀ k (h : k < xs.length), (∀ v ∈ xs.take k, few13b v = true) → few13b xs[k] = true → ∀ v ∈ xs.take (k + 1), few13b v = true := by
    intro k h h1 h2 v hv
    rw [List.take_succ_eq_append_getElem h, List.mem_append, List.mem_singleton] at hv
    rcases hv with hv | rfl
    · exact h1 v hv
    · exact h2
  have HR := Lib.hid (hr.below b1); have HS := Lib.hid hs; have HBAD := Lib.hid hbad; have HG := Lib.hid hgood; have HSN := Lib.hid hsn; have HW1 := Lib.hid hW1
  clear hr hs hbad hgood hsn x1 hW1
  generalize few13 xs = out at *
  unfold entV
  go_enter Tryz.func13, Tryz.ntmps13
  go_upto_region 1 with (fail)
  rw [HW1.out]
  go_wp2_with fail
  go_loopw [4] (fun i wr => ∃ k : Nat, k ≤ xs.length ∧ i = .int .i64 k ∧ Hid (∀ v ∈ xs.take k, few13b v = true) ∧ k ≤ 90 ∧ Below W1.heap.size W1 wr) (fun i _ => xs.length - (intOf i).toNat)
  case atStart => exact ⟨0, Nat.zero_le _, rfl, Lib.hid (by simp), by omega, Below.refl _ _⟩
  case round =>
    obtain ⟨k, hk, rfl, HE, h30, hbr⟩ := hrel
    have hB := b1.trans (hbr.mono b1.size)
    by_cases hlt : k < xs.length ∧ k < 90
    · obtain ⟨hlt, hk30⟩ := hlt
      obtain ⟨b, o, rfl, hl, e1, e2⟩ := (HR.out.below hbr).fld_at (k := k) hlt
      have hbd := HBAD.out k hlt hk30
      have hsn := HSN.out k hlt HE.out
      have hsz := HS.out xs[k] (List.getElem_mem _)
      generalize xs[k] = f at *
      obtain ⟨f1, f2⟩ := f
      simp only at e1 e2 hsz
      have z1 : (⟨f1.toArray⟩ : ByteArray).size = f1.length := by rw [Lib.size_eq]
      have z2 : (⟨f2.toArray⟩ : ByteArray).size = f2.length := by rw [Lib.size_eq]
      have q1 : IntKind.i64.wrap ((f1.length : Int) + (f2.length : Int)) = (f1.length : Int) + (f2.length : Int) := IntWalk.i64_in _ (by omega)
      by_cases hbig : 2000 < f1.length + f2.length
      · have ho := hbd (by simp [few13b]; omega)
        subst ho
        have t1 : decide ((f1.length : Int) + (f2.length : Int) > 2000) = true := by simp; omega
        clear HBAD HSN HG HE hsn hbd HS HR HW1
        go_wp2
        go_quiet (fail)
        go_wp2
        go_ret
        exact ⟨rfl, Go.below_drewN hB _⟩
      · have HE2 := Lib.hid (hsn (by simp [few13b]; omega))
        have t1 : decide ((f1.length : Int) + (f2.length : Int) > 2000) = false := by simp; omega
        clear HBAD HSN HG HE hsn hbd HS HR HW1
        go_wp2
        go_quiet (fail)
        go_wp2
        go_roundw
        case rel => exact ⟨k + 1, by omega, by go_num, HE2, by omega, Go.below_drewN hbr _⟩
        case measure => simp [intOf]; omega
    · have ho := HG.out k HE.out (by omega)
      subst ho
      clear HBAD HSN HG HE HS HR HW1
      by_cases hl : k < xs.length
      · go_wp2
        go_ret
        exact ⟨rfl, hB⟩
      · go_wp2
        go_ret
        exact ⟨rfl, hB⟩
end Go.Proofs.YtcgdcbnhpbokfaaGreatDoor
/- The walk of the law's few (layer 16). -/
namespace Go.Proofs.YtcgdcbnhpbokfaaGreatDoor
open Go.RowKit
set_option maxRecDepth 100000

def few16 (xs : List Fld) : Bool := decide (xs.length ≤ 60) && decide (sumF xs ≤ 6000)
theorem few16_yes {xs : List Fld} (h : few16 xs = true) : xs.length ≤ 60 ∧ sumF xs ≤ 6000 := by
  unfold few16 at h; simpa using h

set_option maxHeartbeats 4000000 in
theorem few16_any (A : Option Addr) (n c : Nat) (xs : List Fld) (w : World) (hr : Rd A n 2 (fldsV xs) w) (hn : n ≤ 140737488355328) (hs : ∀ f ∈ xs, f.1.length ≤ 140737488355328 ∧ f.2.length ≤ 140737488355328) :
    Calls Tryz.prog 23 #[.slice A n c] w fun e w' => e = .returned (.bool (few16 xs)) ∧ Below w.heap.size w w' := by
  obtain rfl := hr.fld
  have hB := Below.refl w.heap.size w
  by_cases h80 : xs.length ≤ 60
  · have hbad : ∀ k (h : k < xs.length), 6000 < sumF (xs.take k) + (xs[k].1.length + xs[k].2.length) → few16 xs = false := by
      intro k h h1
      have h2 := sumF_take xs (k + 1)
      rw [sumF_snoc xs k h] at h2
      unfold few16
      rw [show decide (sumF xs ≤ 6000) = false from by simp; omega, Bool.and_false]
    have hgood : sumF (xs.take xs.length) ≤ 6000 → few16 xs = true := by
      intro h; rw [List.take_length] at h; unfold few16; simp; exact ⟨h80, h⟩
    have hsn := sumF_snoc xs
    have h00 : sumF (xs.take 0) = 0 := rfl
    have HR := Lib.hid hr; have HS := Lib.hid hs; have HBAD := Lib.hid hbad; have HG := Lib.hid hgood; have HSN := Lib.hid hsn; have H00 := Lib.hid h00; clear hr hs hbad hgood hsn h00
    generalize few16 xs = out at *
    go_enter Tryz.func23, Tryz.ntmps23
    go_wp2
    go_loopw [4, 3] (fun i x wr => ∃ (k : Nat) (r : Int), k ≤ xs.length ∧ i = .int .i64 k ∧ x = .int .i64 r ∧ Hid (r = 6000 - (sumF (xs.take k) : Int)) ∧ 0 ≤ r ∧ r ≤ 6000 ∧ Below w.heap.size w wr) (fun i _ _ => xs.length - (intOf i).toNat)
    case atStart => exact ⟨0, 6000, Nat.zero_le _, rfl, rfl, Lib.hid (by rw [H00.out]; rfl), by omega, by omega, hB⟩
    case round =>
      clear hB H00
      obtain ⟨k, r, hk, rfl, rfl, HE, hr0, hr1, hbw⟩ := hrel
      by_cases hlt : k < xs.length
      · obtain ⟨b, o, rfl, hl, c1, c2⟩ := HR.out.fld_at (k := k) hlt
        have hf := HS.out xs[k] (List.getElem_mem _)
        have hbd := HBAD.out k hlt
        have hsn := HSN.out k hlt
        have he := HE.out
        generalize xs[k] = f at *
        obtain ⟨f1, f2⟩ := f
        simp only at c1 c2 hf hbd hsn
        have hn2 : sumF (xs.take (k + 1)) = sumF (xs.take k) + (f1.length + f2.length) := hsn
        clear hsn
        obtain ⟨s1, hs1⟩ : ∃ s1, sumF (xs.take (k + 1)) = s1 := ⟨_, rfl⟩
        rw [hs1] at hn2
        have HS1 := Lib.hid hs1; clear hs1
        generalize sumF (xs.take k) = s0 at *
        have d1 := (hbw.cell (p := ⟨b, o + k * 2, none⟩) hl).trans c1
        have d2 := (hbw.cell (p := ⟨b, o + k * 2 + 1, none⟩) hl).trans c2
        clear c1 c2 HBAD HSN HG HE
        have z1 : (⟨f1.toArray⟩ : ByteArray).size = f1.length := by rw [Lib.size_eq]
        have z2 : (⟨f2.toArray⟩ : ByteArray).size = f2.length := by rw [Lib.size_eq]
        obtain ⟨hf1, hf2⟩ := hf
        generalize f1.length = n1 at *
        generalize f2.length = n2 at *
        have hwid : (0 : Int) ≤ n1 ∧ (0 : Int) ≤ n2 := by omega
        cases t1 : decide ((n1 : Int) > r)
        · have q1 : IntKind.i64.wrap (r - (n1 : Int)) = r - (n1 : Int) := IntWalk.i64_in _ (by simp at t1; omega)
          cases t2 : decide ((n2 : Int) > r - (n1 : Int))
          · have q2 : IntKind.i64.wrap (r - (n1 : Int) - (n2 : Int)) = r - (n1 : Int) - (n2 : Int) := IntWalk.i64_in _ (by simp at t1 t2; omega)
            have hnx : r - (n1 : Int) - (n2 : Int) = 6000 - (s1 : Int) := by omega
            have hg0 : 0 ≤ r - (n1 : Int) - (n2 : Int) := by simp at t1 t2; omega
            have HNX := Lib.hid hnx; have HG0 := Lib.hid hg0
            clear hbd he hnx hn2 hg0
            go_wp2
            go_quiet (fail)
            go_wp2
            go_quiet (fail)
            go_wp2
            go_roundw
            case rel => exact ⟨k + 1, _, by omega, by go_num, rfl, by rw [HS1.out]; exact HNX, HG0.out, by omega, Go.below_drewN hbw _⟩
            case measure => simp [intOf]; omega
          · have hx := hbd (by simp at t1 t2; omega)
            have Hx := Lib.hid hx
            clear hx hbd he hn2
            go_wp2
            go_quiet (fail)
            go_wp2
            go_ret
            rw [Hx.out]
            exact ⟨rfl, Go.below_drewN hbw _⟩
        · have hx := hbd (by simp at t1; omega)
          have Hx := Lib.hid hx
          clear hx hbd he hn2
          go_wp2
          go_quiet (fail)
          go_wp2
          go_ret
          rw [Hx.out]
          exact ⟨rfl, Go.below_drewN hbw _⟩
      · have hke : k = xs.length := by omega
        subst hke
        have hx := HG.out (by have := HE.out; omega)
        have Hx := Lib.hid hx; clear hx HE
        go_wp2
        go_ret
        rw [Hx.out]
        exact ⟨rfl, hbw⟩
  · have hx : few16 xs = false := by unfold few16; rw [show decide (xs.length ≤ 60) = false from by simpa using h80, Bool.false_and]
    rw [hx]
    clear hx hs hr
    go_enter Tryz.func23, Tryz.ntmps23
    go_wp2
    go_ret
    exact ⟨rfl, hB⟩
end Go.Proofs.YtcgdcbnhpbokfaaGreatDoor
/- Slices of fields that came in, opened. -/
namespace Go.Proofs.YtcgdcbnhpbokfaaGreatDoor
open Go.ChangeShapes Go.WideShapes Go.RowKit
set_option maxRecDepth 100000

section
variable {H : Type} {enc : TypeId × Value → H} {W : World}

/-- A slice of fields that came in. -/
theorem open_flds {fuel : Nat} {cs : List Value} {x : DataW H × List MemPlace} (h : DataW.trod enc Tryz.prog W 0 (fun _ => true) true fuel 22 cs = some x) (hr : Reach 22 x.1) :
    ∃ A n c xs, cs = [.slice A n c] ∧ Rd A n 2 (fldsV xs) W ∧ n * 32 ≤ reachBytes ∧ ∀ f ∈ xs, f.1.length ≤ reachBytes ∧ f.2.length ≤ reachBytes := by
  rcases Go.Deep.open_slice Tryz.underlying22 h with ⟨rfl, rfl⟩ | ⟨a, len, cap, m, n, D, Pl, rfl, hb, hl, hm, hmm, rfl, hi⟩
  · exact ⟨none, 0, 0, [], rfl, Rd.nil, by decide, by simp⟩
  · simp only [if_true] at hmm
    subst hmm
    have hc2 : Tryz.prog.cellsOf 44 = 2 := by kernel_rfl
    have hc1 : Tryz.prog.cellsOf 9 = 1 := by kernel_rfl
    have key : ∀ i, i < len → ∃ f : Fld, W.cell? (a.add (i * 2)) = some (.string ⟨f.1.toArray⟩) ∧ W.cell? (a.add (i * 2 + 1)) = some (.string ⟨f.2.toArray⟩) ∧ D i = .agg [.lit (.string f.1), .lit (.string f.2)] := by
      intro i hi'
      obtain ⟨cs', hcs, ht⟩ := hi i (by omega)
      rw [hc2] at hcs
      obtain ⟨_, hlen, hat⟩ := World.cells?_some hcs
      obtain ⟨ys, n', _, hx, _, hyl, hg⟩ := DataW.trod_struct Tryz.underlying44 ht
      obtain ⟨u, v, rfl⟩ := two_of cs' hlen
      obtain ⟨y0, y1, rfl⟩ := two_of ys hyl
      have g0 : DataW.trod enc Tryz.prog W 0 (fun _ => true) true n' 9 (([u, v].drop 0).take (Tryz.prog.cellsOf 9)) = some y0 := hg 0 _ rfl
      have g1 : DataW.trod enc Tryz.prog W 0 (fun _ => true) true n' 9 (([u, v].drop 1).take (Tryz.prog.cellsOf 9)) = some y1 := hg 1 _ rfl
      rw [hc1] at g0 g1
      obtain ⟨s0, e0, z0, _⟩ := DataW.trod_string Tryz.underlying9 (cs := [u]) (x := y0) (by simpa using g0)
      obtain ⟨s1, e1, z1, _⟩ := DataW.trod_string Tryz.underlying9 (cs := [v]) (x := y1) (by simpa using g1)
      have e0' : u = .string s0 := (List.cons.inj e0).1
      have e1' : v = .string s1 := (List.cons.inj e1).1
      subst e0'; subst e1'; subst z0; subst z1
      have a0 : W.cell? ((a.add (i * 2)).add 0) = some (.string s0) := hat 0 (by omega)
      have a1 : W.cell? ((a.add (i * 2)).add 1) = some (.string s1) := hat 1 (by omega)
      have hD : D i = .agg [.lit (.string s0.data.toList), .lit (.string s1.data.toList)] := (Prod.mk.inj hx).1
      clear hx g0 g1 e0 e1 hat hcs ht hg
      refine ⟨(s0.data.toList, s1.data.toList), ?_, ?_, hD⟩
      · rw [Go.Deep.add_add] at a0
        show _ = some (Value.string ⟨s0.data.toList.toArray⟩)
        rw [str_of]; exact a0
      · rw [Go.Deep.add_add] at a1
        show _ = some (Value.string ⟨s1.data.toList.toArray⟩)
        rw [str_of]; exact a1
    obtain ⟨xs, hll, hls⟩ := exists_listL len _ key
    refine ⟨some a, len, _, xs, rfl, ⟨by rw [fldsV_len, hll], fun hn => ?_⟩, ?_, ?_⟩
    · have hspot : a.spot = none := by
        have := World.cell?_spot (hls 0 (by omega)).1
        simpa [Addr.add] using this
      obtain ⟨b, o, spot⟩ := a
      simp only at hspot
      subst hspot
      have e : ∀ j, (⟨b, o, none⟩ : Addr).add j = ⟨b, o + j, none⟩ := fun j => by unfold Addr.add; split <;> simp_all
      refine ⟨b, o, rfl, ?_, fun j u hu => ?_⟩
      · rcases Nat.lt_or_ge b W.heap.size with h' | h'
        · exact h'
        · have := (hls 0 (by omega)).1
          simp [World.cell?, Addr.add, Array.getElem?_eq_none h'] at this
      · have hj : j < xs.length * 2 := by have := (List.getElem?_eq_some_iff.1 hu).1; rwa [fldsV_len] at this
        have hk : j / 2 < xs.length := by omega
        have h1 := hls (j / 2) hk
        have h2 := fldsV_at xs (j / 2) hk
        rw [e, e] at h1
        rcases Nat.mod_two_eq_zero_or_one j with h0 | h0
        · have ej : j / 2 * 2 = j := by omega
          rw [ej] at h1 h2
          rw [h2.1] at hu
          cases hu
          exact h1.1
        · have ej : j / 2 * 2 + 1 = j := by omega
          rw [ej] at h1 h2
          rw [h2.2] at hu
          cases hu
          exact h1.2.1
    · have := reach_len Tryz.underlying22 hr
      rw [List.length_map, List.length_range, show Tryz.prog.bytesOf 44 = 32 from by kernel_rfl] at this
      exact this
    · intro f hf'
      obtain ⟨i, hi', e⟩ := List.mem_iff_getElem.1 hf'
      have h2 := (hls i hi').2.2
      rw [e] at h2
      have h3 := reach_elem Tryz.underlying22 hr (List.mem_map.2 ⟨i, List.mem_range.2 (by omega), h2⟩)
      exact ⟨reach_str (reach_part Tryz.underlying44 h3 (j := 0) rfl rfl), reach_str (reach_part Tryz.underlying44 h3 (j := 1) rfl rfl)⟩
end
end Go.Proofs.YtcgdcbnhpbokfaaGreatDoor
/- Slices of fields and of texts that came in, opened. -/
namespace Go.Proofs.YtcgdcbnhpbokfaaGreatDoor
open Go.ChangeShapes Go.WideShapes Go.RowKit
set_option maxRecDepth 100000

section
variable {H : Type} {enc : TypeId × Value → H} {W : World}
theorem open_flds_v {base : Nat} {v : Value} {d : DataW H} {p : List MemPlace} (hv : Value.okWide Tryz.prog W .any base 22 v) (h : DataW.Trod enc Tryz.prog W 0 (fun _ => true) true 22 v d p) (hr : Reach 22 d) :
    ∃ A n c xs, v = .slice A n c ∧ Rd A n 2 (fldsV xs) W ∧ n * 32 ≤ reachBytes ∧ ∀ f ∈ xs, f.1.length ≤ reachBytes ∧ f.2.length ≤ reachBytes := by
  obtain ⟨a0, len, cap, rfl⟩ := okWide_slice Tryz.underlying22 hv
  obtain ⟨fuel, hf⟩ := h
  have hf' : DataW.trod enc Tryz.prog W 0 (fun _ => true) true fuel 22 [.slice a0 len cap] = some (d, p) := hf
  obtain ⟨A, n, c, xs, e, r⟩ := open_flds hf' hr
  exact ⟨A, n, c, xs, (List.cons.inj e).1, r⟩
/-- A field that came in by value. -/
theorem open_fld_v {base : Nat} {v : Value} {d : DataW H} {p : List MemPlace} (hv : Value.okWide Tryz.prog W .any base 44 v) (h : DataW.Trod enc Tryz.prog W 0 (fun _ => true) true 44 v d p) (hr : Reach 44 d) :
    ∃ f : Fld, v = .agg #[.string ⟨f.1.toArray⟩, .string ⟨f.2.toArray⟩] ∧ f.1.length ≤ reachBytes ∧ f.2.length ≤ reachBytes := by
  obtain ⟨cs, rfl, hsz⟩ := okWide_struct Tryz.underlying44 hv
  obtain ⟨fuel, hf⟩ := h
  obtain ⟨l⟩ := cs
  have hf' : DataW.trod enc Tryz.prog W 0 (fun _ => true) true fuel 44 l = some (d, p) := hf
  have hc2 : Tryz.prog.cellsOf 44 = 2 := by kernel_rfl
  have hc1 : Tryz.prog.cellsOf 9 = 1 := by kernel_rfl
  obtain ⟨ys, n', _, hx, hcl, hyl, hg⟩ := DataW.trod_struct Tryz.underlying44 hf'
  obtain ⟨u, v, rfl⟩ := two_of l (hcl.trans hc2)
  obtain ⟨y0, y1, rfl⟩ := two_of ys hyl
  have g0 : DataW.trod enc Tryz.prog W 0 (fun _ => true) true n' 9 (([u, v].drop 0).take (Tryz.prog.cellsOf 9)) = some y0 := hg 0 _ rfl
  have g1 : DataW.trod enc Tryz.prog W 0 (fun _ => true) true n' 9 (([u, v].drop 1).take (Tryz.prog.cellsOf 9)) = some y1 := hg 1 _ rfl
  rw [hc1] at g0 g1
  obtain ⟨s0, e0, z0, _⟩ := DataW.trod_string Tryz.underlying9 (cs := [u]) (x := y0) (by simpa using g0)
  obtain ⟨s1, e1, z1, _⟩ := DataW.trod_string Tryz.underlying9 (cs := [v]) (x := y1) (by simpa using g1)
  have e0' : u = .string s0 := (List.cons.inj e0).1
  have e1' : v = .string s1 := (List.cons.inj e1).1
  subst e0'; subst e1'; subst z0; subst z1
  have hd : d = .agg [.lit (.string s0.data.toList), .lit (.string s1.data.toList)] := (Prod.mk.inj hx).1
  rw [hd] at hr
  refine ⟨(s0.data.toList, s1.data.toList), ?_, reach_str (reach_part Tryz.underlying44 hr (j := 0) rfl rfl), reach_str (reach_part Tryz.underlying44 hr (j := 1) rfl rfl)⟩
  simp only [str_of]
end
end Go.Proofs.YtcgdcbnhpbokfaaGreatDoor
/- Replies and entries that came in by value, opened. -/
namespace Go.Proofs.YtcgdcbnhpbokfaaGreatDoor
open Go.ChangeShapes Go.WideShapes Go.RowKit
set_option maxRecDepth 100000

theorem five_of {α : Type} : ∀ (l : List α), l.length = 5 → ∃ a b c d e, l = [a, b, c, d, e]
  | [a, b, c, d, e], _ => ⟨a, b, c, d, e, rfl⟩
theorem eight_of {α : Type} : ∀ (l : List α), l.length = 8 → ∃ a b c d e f g h, l = [a, b, c, d, e, f, g, h]
  | [a, b, c, d, e, f, g, h], _ => ⟨a, b, c, d, e, f, g, h, rfl⟩
theorem four_of {α : Type} : ∀ (l : List α), l.length = 4 → ∃ a b c d, l = [a, b, c, d]
  | [a, b, c, d], _ => ⟨a, b, c, d, rfl⟩

section
variable {H : Type} {enc : TypeId × Value → H} {W : World}
theorem open_reply_cs {fuel : Nat} {cs : List Value} {x : DataW H × List MemPlace} (h : DataW.trod enc Tryz.prog W 0 (fun _ => true) true fuel 26 cs = some x) (hr : Reach 26 x.1) :
    ∃ (st : Int) (re : ByteArray) (mi : Int) (A : Option Addr) (n c : Nat) (bo : ByteArray) (xs : List Fld), cs = [.int .i64 st, .string re, .int .i64 mi, .slice A n c, .string bo] ∧ Rd A n 2 (fldsV xs) W ∧ n * 32 ≤ reachBytes ∧ (∀ f ∈ xs, f.1.length ≤ reachBytes ∧ f.2.length ≤ reachBytes) ∧ re.size ≤ reachBytes ∧ bo.size ≤ reachBytes := by
  obtain ⟨ys, n', _, hx, hcl, hyl, hg⟩ := DataW.trod_struct Tryz.underlying26 h
  have hc5 : Tryz.prog.cellsOf 26 = 5 := by kernel_rfl
  have hcs : Tryz.prog.cellsOf 9 = 1 := by kernel_rfl
  have hci : Tryz.prog.cellsOf 3 = 1 := by kernel_rfl
  have hcf : Tryz.prog.cellsOf 22 = 1 := by kernel_rfl
  obtain ⟨c0, c1, c2, c3, c4, rfl⟩ := five_of cs (hcl.trans hc5)
  obtain ⟨y0, y1, y2, y3, y4, rfl⟩ := five_of ys hyl
  have g0 : DataW.trod enc Tryz.prog W 0 (fun _ => true) true n' 3 (([c0, c1, c2, c3, c4].drop 0).take (Tryz.prog.cellsOf 3)) = some y0 := hg 0 _ rfl
  have g1 : DataW.trod enc Tryz.prog W 0 (fun _ => true) true n' 9 (([c0, c1, c2, c3, c4].drop 1).take (Tryz.prog.cellsOf 9)) = some y1 := hg 1 _ rfl
  have g2 : DataW.trod enc Tryz.prog W 0 (fun _ => true) true n' 3 (([c0, c1, c2, c3, c4].drop 2).take (Tryz.prog.cellsOf 3)) = some y2 := hg 2 _ rfl
  have g3 : DataW.trod enc Tryz.prog W 0 (fun _ => true) true n' 22 (([c0, c1, c2, c3, c4].drop 3).take (Tryz.prog.cellsOf 22)) = some y3 := hg 3 _ rfl
  have g4 : DataW.trod enc Tryz.prog W 0 (fun _ => true) true n' 9 (([c0, c1, c2, c3, c4].drop 4).take (Tryz.prog.cellsOf 9)) = some y4 := hg 4 _ rfl
  rw [hci] at g0 g2
  rw [hcs] at g1 g4
  rw [hcf] at g3
  rw [hx] at hr
  have r1 : Reach 9 y1.1 := reach_part Tryz.underlying26 hr (j := 1) rfl rfl
  have r3 : Reach 22 y3.1 := reach_part Tryz.underlying26 hr (j := 3) rfl rfl
  have r4 : Reach 9 y4.1 := reach_part Tryz.underlying26 hr (j := 4) rfl rfl
  obtain ⟨a0, e0, _⟩ := DataW.trod_int Tryz.underlying3 (cs := [c0]) g0
  obtain ⟨s1, e1, z1, _⟩ := DataW.trod_string Tryz.underlying9 (cs := [c1]) g1
  obtain ⟨a2, e2, _⟩ := DataW.trod_int Tryz.underlying3 (cs := [c2]) g2
  obtain ⟨A, n, c, xs, e3, hR, hn, hl⟩ := open_flds (cs := [c3]) g3 r3
  obtain ⟨s4, e4, z4, _⟩ := DataW.trod_string Tryz.underlying9 (cs := [c4]) g4
  have e0' := (List.cons.inj e0).1
  have e1' := (List.cons.inj e1).1
  have e2' := (List.cons.inj e2).1
  have e3' := (List.cons.inj e3).1
  have e4' := (List.cons.inj e4).1
  subst e0'; subst e1'; subst e2'; subst e3'; subst e4'
  rw [z1] at r1
  rw [z4] at r4
  have q1 := reach_str r1
  have q4 := reach_str r4
  rw [← Lib.size_eq] at q1 q4
  exact ⟨a0, s1, a2, A, n, c, s4, xs, rfl, hR, hn, hl, q1, q4⟩
set_option maxRecDepth 100000 in
theorem open_reply {base : Nat} {v : Value} {d : DataW H} {p : List MemPlace} (hv : Value.okWide Tryz.prog W .any base 26 v) (h : DataW.Trod enc Tryz.prog W 0 (fun _ => true) true 26 v d p) (hr : Reach 26 d) :
    ∃ (st : Int) (re : ByteArray) (mi : Int) (A : Option Addr) (n c : Nat) (bo : ByteArray) (xs : List Fld), v = .agg #[.int .i64 st, .string re, .int .i64 mi, .slice A n c, .string bo] ∧ Rd A n 2 (fldsV xs) W ∧ n * 32 ≤ reachBytes ∧ (∀ f ∈ xs, f.1.length ≤ reachBytes ∧ f.2.length ≤ reachBytes) ∧ re.size ≤ reachBytes ∧ bo.size ≤ reachBytes := by
  obtain ⟨cs, rfl, hsz⟩ := okWide_struct Tryz.underlying26 hv
  obtain ⟨fuel, hf⟩ := h
  obtain ⟨l⟩ := cs
  have hf' : DataW.trod enc Tryz.prog W 0 (fun _ => true) true fuel 26 l = some (d, p) := hf
  have hr' : Reach 26 (d, p).1 := hr
  obtain ⟨st, re, mi, A, n, c, bo, xs, e, r⟩ := open_reply_cs hf' hr'
  have e' : l = _ := e
  subst e'
  exact ⟨st, re, mi, A, n, c, bo, xs, rfl, r⟩
theorem open_entry {base : Nat} {v : Value} {d : DataW H} {p : List MemPlace} (hv : Value.okWide Tryz.prog W .any base 30 v) (h : DataW.Trod enc Tryz.prog W 0 (fun _ => true) true 30 v d p) (hr : Reach 30 d) :
    ∃ (st : Int) (re : ByteArray) (mi : Int) (A : Option Addr) (n c : Nat) (bo : ByteArray) (xs : List Fld) (asd gt : Int) (va : Option Addr) (vn vc : Nat) (es : List Fld),
      v = .agg #[.int .i64 st, .string re, .int .i64 mi, .slice A n c, .string bo, .int .i64 asd, .int .i64 gt, .slice va vn vc] ∧
      (Rd A n 2 (fldsV xs) W ∧ n * 32 ≤ reachBytes ∧ (∀ f ∈ xs, f.1.length ≤ reachBytes ∧ f.2.length ≤ reachBytes) ∧ re.size ≤ reachBytes ∧ bo.size ≤ reachBytes) ∧
      (Lit.int .i64 asd).wf = true ∧ (Lit.int .i64 gt).wf = true ∧
      Rd va vn 2 (fldsV es) W ∧ vn * 32 ≤ reachBytes ∧ (∀ f ∈ es, f.1.length ≤ reachBytes ∧ f.2.length ≤ reachBytes) := by
  obtain ⟨cs, rfl, hsz⟩ := okWide_struct Tryz.underlying30 hv
  obtain ⟨fuel, hf⟩ := h
  obtain ⟨l⟩ := cs
  have hf' : DataW.trod enc Tryz.prog W 0 (fun _ => true) true fuel 30 l = some (d, p) := hf
  have hc8 : Tryz.prog.cellsOf 30 = 8 := by kernel_rfl
  have hc5 : Tryz.prog.cellsOf 26 = 5 := by kernel_rfl
  have hci : Tryz.prog.cellsOf 2 = 1 := by kernel_rfl
  have hcf : Tryz.prog.cellsOf 22 = 1 := by kernel_rfl
  obtain ⟨ys, n', _, hx, hcl, hyl, hg⟩ := DataW.trod_struct Tryz.underlying30 hf'
  obtain ⟨c0, c1, c2, c3, c4, c5, c6, c7, rfl⟩ := eight_of l (hcl.trans hc8)
  obtain ⟨y0, y1, y2, y3, rfl⟩ := four_of ys hyl
  have g0 : DataW.trod enc Tryz.prog W 0 (fun _ => true) true n' 26 (([c0, c1, c2, c3, c4, c5, c6, c7].drop 0).take (Tryz.prog.cellsOf 26)) = some y0 := hg 0 _ rfl
  have g1 : DataW.trod enc Tryz.prog W 0 (fun _ => true) true n' 2 (([c0, c1, c2, c3, c4, c5, c6, c7].drop 5).take (Tryz.prog.cellsOf 2)) = some y1 := hg 1 _ rfl
  have g2 : DataW.trod enc Tryz.prog W 0 (fun _ => true) true n' 2 (([c0, c1, c2, c3, c4, c5, c6, c7].drop 6).take (Tryz.prog.cellsOf 2)) = some y2 := hg 2 _ rfl
  have g3 : DataW.trod enc Tryz.prog W 0 (fun _ => true) true n' 22 (([c0, c1, c2, c3, c4, c5, c6, c7].drop 7).take (Tryz.prog.cellsOf 22)) = some y3 := hg 3 _ rfl
  rw [hc5] at g0
  rw [hci] at g1 g2
  rw [hcf] at g3
  have hd : d = .agg [y0.1, y1.1, y2.1, y3.1] := (Prod.mk.inj hx).1
  rw [hd] at hr
  have r0 : Reach 26 y0.1 := reach_part Tryz.underlying30 hr (j := 0) rfl rfl
  have r3 : Reach 22 y3.1 := reach_part Tryz.underlying30 hr (j := 3) rfl rfl
  obtain ⟨st, re, mi, A, n, c, bo, xs, e0, r⟩ := open_reply_cs (cs := [c0, c1, c2, c3, c4]) g0 r0
  obtain ⟨a1, e1, _, w1⟩ := DataW.trod_int Tryz.underlying2 (cs := [c5]) g1
  obtain ⟨a2, e2, _, w2⟩ := DataW.trod_int Tryz.underlying2 (cs := [c6]) g2
  obtain ⟨va, vn, vc, es, e3, hR, hn, hl⟩ := open_flds (cs := [c7]) g3 r3
  simp only [List.cons.injEq, and_true] at e0 e1 e2 e3
  obtain ⟨rfl, rfl, rfl, rfl, rfl⟩ := e0
  subst e1; subst e2; subst e3
  exact ⟨st, re, mi, A, n, c, bo, xs, a1, a2, va, vn, vc, es, rfl, r, w1, w2, hR, hn, hl⟩
end
end Go.Proofs.YtcgdcbnhpbokfaaGreatDoor
/- What a listed table gives: what a variable reads as, in cells. -/
namespace Go.Proofs.YtcgdcbnhpbokfaaGreatDoor
open Go.RowKit

theorem tab_of_reads {P : Program} {W : World} {name : String} {k : IntKind} {zs : List Int} {g : Nat} {t e : TypeId} {n : Nat}
    (hg : P.globalNamed name = some g) (hty : (P.globals[g]?).map (·.type) = some t) (ht : P.underlying t = some (.array n e)) (he : P.underlying e = some (.int k)) (hce : P.cellsOf e = 1) (hct : P.cellsOf t = n)
    (h : Lib.VarReads P W name (Lib.tabData k zs)) : Lib.TabIs P W name k zs := by
  obtain ⟨g', t', cs, fuel, p, hg', ht', hvar, hd⟩ := h
  obtain rfl := Option.some.inj (hg.symm.trans hg')
  obtain rfl := Option.some.inj (hty.symm.trans ht')
  unfold Lib.TabIs
  rw [hvar, ← Lib.cells_of_tab ht he hce hct hd]
end Go.Proofs.YtcgdcbnhpbokfaaGreatDoor
/- What the listed tables and the form's mark give the dates' walks. -/
namespace Go.Proofs.YtcgdcbnhpbokfaaGreatDoor
open Go.RowKit
set_option maxRecDepth 100000

theorem maxL_of {w : World} (h : w.ShapedOpen Tryz.prog) : MaxL w :=
  MaxL.of (Go.Proofs.cell_of_shapedOpen_int (zero := #[.int .i64 0]) (t := 3) h (of_decide_eq_true (by kernel_rfl)) (by kernel_rfl) rfl (by kernel_rfl) (by kernel_rfl) Tryz.underlying3)
theorem spaces_of {W : World} {l : List (String × DataW Unit)} (hp : (l.all fun x => x.2.handleName?.isNone) = true) (hm : ("strings.asciiSpace", Lib.tabData .u8 Lib.asciiSpaceTab) ∈ l) (h : laidMetH Tryz.prog l W) : Lib.TabIs Tryz.prog W "strings.asciiSpace" .u8 Lib.asciiSpaceTab := by
  rw [MakeChecks.laidMetH_plain _ _ _ hp] at h
  exact tab_of_reads (g := 0) (by kernel_rfl) (by kernel_rfl) Tryz.underlying154 Tryz.underlying5 (by kernel_rfl) (by kernel_rfl) (Lib.laidMet.reads h hm)
theorem var_lt {P : Program} {w : World} {name : String} {k : IntKind} {zs : List Int} {g : Nat} (hg : P.globalNamed name = some g) (h : Lib.TabIs P w name k zs) : g < w.heap.size := by
  unfold Lib.TabIs World.var? at h
  rw [hg] at h
  rcases Nat.lt_or_ge g w.heap.size with h' | h'
  · exact h'
  · simp [Array.getElem?_eq_none h'] at h
theorem dEnv_of {W : World} {l : List (String × DataW Unit)} (hp : (l.all fun x => x.2.handleName?.isNone) = true) (hm : ("strings.asciiSpace", Lib.tabData .u8 Lib.asciiSpaceTab) ∈ l) (h : laidMetH Tryz.prog l W) (hsh : W.ShapedOpen Tryz.prog) : DEnv W :=
  ⟨maxL_of hsh, var_lt (by kernel_rfl) (spaces_of hp hm h), spaces_of hp hm h⟩
end Go.Proofs.YtcgdcbnhpbokfaaGreatDoor
/- Dates: the walk of two. -/
namespace Go.Proofs.YtcgdcbnhpbokfaaGreatDoor
open Go.RowKit
set_option maxRecDepth 100000

def dtwo (n : Int) : List UInt8 := [UInt8.ofNat (48 + n / 10 % 10).toNat, UInt8.ofNat (48 + n % 10).toNat]
set_option maxHeartbeats 4000000 in
theorem dtwo_any (n : Int) (hn : 0 ≤ n ∧ n ≤ 9999) (w : World) :
    Calls Tryz.prog 86 #[.int .i64 n] w fun e w' => e = .returned (.string ⟨(dtwo n).toArray⟩) ∧ Below w.heap.size w w' := by
  have e1 : n.tdiv 10 = n / 10 := Int.tdiv_eq_ediv_of_nonneg hn.1
  have e2 : (n / 10).tmod 10 = n / 10 % 10 := Int.tmod_eq_emod_of_nonneg (by omega)
  have e3 : n.tmod 10 = n % 10 := Int.tmod_eq_emod_of_nonneg hn.1
  obtain ⟨a, ha⟩ : ∃ a : Nat, (a : Int) = n / 10 % 10 := ⟨(n / 10 % 10).toNat, by omega⟩
  obtain ⟨b, hb⟩ : ∃ b : Nat, (b : Int) = n % 10 := ⟨(n % 10).toNat, by omega⟩
  have ha9 : a ≤ 9 := by omega
  have hb9 : b ≤ 9 := by omega
  have hx : dtwo n = [UInt8.ofNat (48 + a), UInt8.ofNat (48 + b)] := by
    unfold dtwo
    rw [← ha, ← hb]
    congr 2
  rw [hx]
  have w0 : IntKind.i64.wrap (n / 10) = n / 10 := by rw [IntKind.wrap_i64]; omega
  have w1 : IntKind.i64.wrap (48 + (a : Int)) = 48 + (a : Int) := by rw [IntKind.wrap_i64]; omega
  have w2 : IntKind.i64.wrap (48 + (b : Int)) = 48 + (b : Int) := by rw [IntKind.wrap_i64]; omega
  have w3 : IntKind.u8.wrap (48 + (a : Int)) = 48 + (a : Int) := by rw [IntKind.wrap_u8]; omega
  have w4 : IntKind.u8.wrap (48 + (b : Int)) = 48 + (b : Int) := by rw [IntKind.wrap_u8]; omega
  have u1 : n / 10 % 10 = (a : Int) := ha.symm
  have u2 : n % 10 = (b : Int) := hb.symm
  rw [u1] at e2
  rw [u2] at e3
  clear hx ha hb
  have t1 : (UInt8.ofNat (48 + a)).toNat = 48 + a := by rw [UInt8.toNat_ofNat']; omega
  have t2 : (UInt8.ofNat (48 + b)).toNat = 48 + b := by rw [UInt8.toNat_ofNat']; omega
  generalize UInt8.ofNat (48 + a) = c1 at *
  generalize UInt8.ofNat (48 + b) = c2 at *
  have hcv : (convert 157 9 (.slice (some ⟨w.heap.size, 0, none⟩) 2 2)).run Tryz.prog (w.alloc (.cells #[.int .u8 (48 + (a : Int)), .int .u8 (48 + (b : Int))] 5 (0, 0))) = .ok (.string ⟨#[c1, c2]⟩) (w.alloc (.cells #[.int .u8 (48 + (a : Int)), .int .u8 (48 + (b : Int))] 5 (0, 0))) := by
    refine run_convert_bytes_back (P := Tryz.prog) _ 157 9 5 ⟨w.heap.size, 0, none⟩ 2 [c1, c2] Tryz.underlying157 Tryz.underlying5 Tryz.underlying9 ?_
    intro j hj
    rw [Addr.add_lit, Nat.zero_add, World.cell?_alloc_mark]
    match j, hj with
    | 0, _ => simp [t1]
    | 1, _ => simp [t2]
  clear t1 t2
  go_enter Tryz.func86, Tryz.ntmps86
  go_wp2
  go_ret
  exact ⟨rfl, (Below.refl _ w).alloc (Nat.le_refl _) _⟩
end Go.Proofs.YtcgdcbnhpbokfaaGreatDoor
/- Dates: what date.Put says, in plain words. -/
namespace Go.Proofs.YtcgdcbnhpbokfaaGreatDoor
open Go.RowKit
set_option maxRecDepth 100000

/-- The month of a day of a year, and what is left. -/
def dmon (y : Int) : Nat → Int → Int → Int × Int
  | 0, r, m => (r, m)
  | f + 1, r, m => if dlong y m ≤ r then dmon y f (r - dlong y m) (m + 1) else (r, m)
def dputD (d s : Int) : List UInt8 :=
  ((ddays.getD (d % 7).toNat []).take 3) ++ [44, 32] ++ dtwo ((dmon (dyearO d).1 12 (dyearO d).2 1).1 + 1) ++ [32] ++ ((dmonths.drop (3 * (dmon (dyearO d).1 12 (dyearO d).2 1).2.toNat - 3)).take 3) ++ [32] ++ dtwo ((dyearO d).1 / 100) ++ dtwo (dyearO d).1 ++ [32] ++ dtwo (s / 3600) ++ [58] ++ dtwo (s / 60 % 60) ++ [58] ++ dtwo (s % 60) ++ [32, 71, 77, 84]
/-- A tick's date. -/
def dputL (t : Int) : List UInt8 := if t < 0 ∨ 253402300799 < t then [] else dputD (t / 86400) (t % 86400)
theorem dyear_end : ∀ (f : Nat) (d y : Int), 1970 ≤ y → d < 365 * (y - 1970) + 365 * f → dahead y ≤ d → dahead (dyear f d y) ≤ d ∧ d < dahead (dyear f d y + 1) ∧ 1970 ≤ dyear f d y
  | 0, d, y, hy, hf, ha => by have := dahead_ge y hy; omega
  | f + 1, d, y, hy, hf, ha => by
    rw [dyear]
    split
    · rename_i h
      exact dyear_end f d (y + 1) (by omega) (by omega) h
    · exact ⟨ha, by omega, hy⟩
theorem dahead_leap (y : Int) : dahead (y + 1) - dahead y = 365 + (if dleap y = true then 1 else 0) := by
  unfold dahead dleap
  by_cases h4 : y % 4 = 0
  · by_cases h100 : y % 100 = 0
    · by_cases h400 : y % 400 = 0
      · simp [h4, h100, h400]; omega
      · simp [h4, h100, h400]; omega
    · simp [h4, h100]; omega
  · have h400 : ¬ y % 400 = 0 := by omega
    simp [h4, h400]; omega
theorem dmons_12 (y : Int) : dmons y 12 = 365 + (if dleap y = true then 1 else 0) := by
  simp only [dmons, dlong]
  cases dleap y <;> simp
/-- The year of a day, and what is left of it. -/
theorem dyearO_ok (d : Int) (hd : 0 ≤ d ∧ d ≤ 2932896) : 1970 ≤ (dyearO d).1 ∧ (dyearO d).1 ≤ 9999 ∧ 0 ≤ (dyearO d).2 ∧ (dyearO d).2 < dmons (dyearO d).1 12 := by
  have h := dyear_end 9000 d (1970 + d / 366) (by omega) (by omega) (by have := (dahead_ge (1970 + d / 366) (by omega)).2; omega)
  unfold dyearO
  simp only
  generalize dyear 9000 d (1970 + d / 366) = Y at *
  have hl := dahead_leap Y
  rw [dmons_12]
  have hY : Y ≤ 9999 := by
    have h10 : dahead 10000 = 2932897 := by decide
    rcases Int.lt_or_le Y 10000 with h' | h'
    · omega
    · have hm : dahead 10000 ≤ dahead Y := by unfold dahead; omega
      omega
  exact ⟨h.2.2, hY, by omega, by omega⟩
end Go.Proofs.YtcgdcbnhpbokfaaGreatDoor
/- The document's dates: the walks of Leap, Days, num. -/
namespace Go.Proofs.YtcgdcbnhpbokfaaGreatDoor
open Go.RowKit
set_option maxRecDepth 100000

set_option maxHeartbeats 2000000 in
theorem ileap_any (y : Int) (hy : 0 ≤ y ∧ y ≤ 100000) (w : World) :
    Calls Tryz.prog 187 #[.int .i64 y] w fun e w' => e = .returned (.bool (dleap y)) ∧ w' = w := by
  have e4 : y.tmod 4 = y % 4 := Int.tmod_eq_emod_of_nonneg hy.1
  have e100 : y.tmod 100 = y % 100 := Int.tmod_eq_emod_of_nonneg hy.1
  have e400 : y.tmod 400 = y % 400 := Int.tmod_eq_emod_of_nonneg hy.1
  obtain ⟨R, hR⟩ : ∃ R, dleap y = R := ⟨_, rfl⟩
  rw [hR]
  unfold dleap at hR
  have HR := Lib.hid hR
  clear hR
  by_cases h400 : y % 400 = 0
  · have h4 : y % 4 = 0 := by omega
    have hx : R = true := by rw [← HR.out]; simp [h4, h400]
    subst hx
    clear HR h4
    go_enter Tryz.func187, Tryz.ntmps187
    go_wp2
    go_ret
    exact ⟨rfl, rfl⟩
  · by_cases h4 : y % 4 = 0
    · by_cases h100 : y % 100 = 0
      · have hx : R = false := by rw [← HR.out]; simp [h4, h100, h400]
        subst hx
        clear HR
        go_enter Tryz.func187, Tryz.ntmps187
        go_wp2
        go_ret
        exact ⟨by first | rfl | simp [h400], rfl⟩
      · have hx : R = true := by rw [← HR.out]; simp [h4, h100]
        subst hx
        clear HR
        go_enter Tryz.func187, Tryz.ntmps187
        go_wp2
        go_ret
        exact ⟨by first | rfl | simp [h100], rfl⟩
    · have hx : R = false := by rw [← HR.out]; simp [h4, h400]
      subst hx
      clear HR
      go_enter Tryz.func187, Tryz.ntmps187
      go_wp2
      go_ret
      exact ⟨by first | rfl | simp [h400], rfl⟩

/-- The months' days, as the document lays them. -/
def mlens : Array Value := #[.int .i64 31, .int .i64 28, .int .i64 31, .int .i64 30, .int .i64 31, .int .i64 30, .int .i64 31, .int .i64 31, .int .i64 30, .int .i64 31, .int .i64 30, .int .i64 31]
theorem mlens_at (y m : Int) (hm : 1 ≤ m ∧ m ≤ 12) (h2 : m = 2 → dleap y = false) : mlens[(m - 1).toNat]? = some (.int .i64 (dlong y m)) := by
  have hm' : m = 1 ∨ m = 2 ∨ m = 3 ∨ m = 4 ∨ m = 5 ∨ m = 6 ∨ m = 7 ∨ m = 8 ∨ m = 9 ∨ m = 10 ∨ m = 11 ∨ m = 12 := by omega
  rcases hm' with rfl | rfl | rfl | rfl | rfl | rfl | rfl | rfl | rfl | rfl | rfl | rfl
  · rfl
  · have : dlong y 2 = 28 := by unfold dlong; rw [if_pos rfl, h2 rfl]; rfl
    rw [this]; rfl
  all_goals rfl
set_option maxHeartbeats 4000000 in
theorem idays_any (y m : Int) (hy : 0 ≤ y ∧ y ≤ 100000) (hm : 1 ≤ m ∧ m ≤ 12) (w : World) :
    Calls Tryz.prog 151 #[.int .i64 y, .int .i64 m] w fun e w' => e = .returned (.int .i64 (dlong y m)) ∧ Below w.heap.size w w' := by
  obtain ⟨W1, hW1⟩ : ∃ W1, w.alloc (.cells mlens 3) = W1 := ⟨_, rfl⟩
  have b1 : Below w.heap.size w W1 := by rw [← hW1]; exact (Below.refl w.heap.size w).alloc (Nat.le_refl _) _
  have x1 : W1.heap[w.heap.size]? = some (.cells mlens 3 (0, 0)) := by rw [← hW1]; exact heap_new w _ _ rfl
  have k := ileap_any y hy W1
  have hw1 : IntKind.i64.wrap (m - 1) = m - 1 := by rw [IntKind.wrap_i64]; omega
  have hi1 : decide ((m - 1 : Int) < 0) = false := by simp; omega
  have hi2 : decide ((m - 1 : Int) ≥ 12) = false := by simp; omega
  unfold mlens at hW1
  by_cases h2 : m = 2
  · subst h2
    have hx : dlong y 2 = if dleap y = true then 29 else 28 := by unfold dlong; rw [if_pos rfl]
    have c1 := (of_heap x1 1).1
    have c1' : W1.cell? ⟨w.heap.size, 1, none⟩ = some (.int .i64 28) := c1
    rw [hx]
    generalize dleap y = b at *
    have K := Lib.hid k; have HW1 := Lib.hid hW1
    clear k hx c1 x1 hW1
    cases b
    · go_enter Tryz.func151, Tryz.ntmps151
      go_upto_region 2 with (fail)
      rw [HW1.out]
      go_wp2_with fail
      (with_reducible refine K.out.mono ?_)
      rintro e w1 ⟨rfl, rfl⟩
      go_wp2
      go_ret
      exact ⟨rfl, b1⟩
    · go_enter Tryz.func151, Tryz.ntmps151
      go_upto_region 2 with (fail)
      rw [HW1.out]
      go_wp2_with fail
      (with_reducible refine K.out.mono ?_)
      rintro e w1 ⟨rfl, rfl⟩
      go_wp2
      go_ret
      exact ⟨rfl, b1⟩
  · have hc := (of_heap x1 (m - 1).toNat).1
    rw [mlens_at y m hm (fun h => absurd h h2)] at hc
    generalize dlong y m = out at *
    obtain ⟨q, hq⟩ : ∃ q : Nat, m = q + 1 := ⟨(m - 1).toNat, by omega⟩
    subst hq
    have e1 : ((q : Int) + 1 - 1).toNat = q := by omega
    rw [e1] at hc
    have t2 : ((q : Int) + 1 == 2) = false := by simp; omega
    have hq12 : q < 12 := by omega
    have hwq : IntKind.i64.wrap ((q : Int) + 1 - 1) = (q : Int) := by rw [IntKind.wrap_i64]; omega
    have HW1 := Lib.hid hW1
    clear k x1 hW1 hw1 hi1 hi2 e1
    go_enter Tryz.func151, Tryz.ntmps151
    go_upto_region 2 with (fail)
    rw [HW1.out]
    go_wp2
    go_ret
    exact ⟨rfl, b1⟩

theorem drop_snoc (s : ByteArray) (a j : Nat) (h : a + j < s.size) : (s.data.toList.drop a).take (j + 1) = (s.data.toList.drop a).take j ++ [s[a + j]] := by
  rw [List.take_succ_eq_append_getElem (by rw [List.length_drop, ← Lib.size_eq]; omega), List.getElem_drop]; rfl
set_option maxHeartbeats 4000000 in
theorem inum_any (s : ByteArray) (a n : Nat) (ha : a ≤ 1000000000) (hn : n ≤ 4) (w : World) :
    Calls Tryz.prog 98 #[.string s, .int .i64 a, .int .i64 n] w fun e w' => e = .returned (.int .i64 (rnum s.data.toList a n)) ∧ w' = w := by
  obtain ⟨R, hR⟩ : ∃ R, rnum s.data.toList a n = R := ⟨_, rfl⟩
  rw [hR]
  unfold rnum at hR
  rw [← Lib.size_eq] at hR
  have hwn : IntKind.i64.wrap ((a : Int) + n) = (a : Int) + n := by rw [IntKind.wrap_i64]; omega
  have t0 : decide ((a : Int) < 0) = false := by simp
  by_cases hlt : s.size < a + n
  · rw [if_pos hlt] at hR
    subst hR
    have t1 : decide ((a : Int) + n > s.size) = true := by simp; omega
    go_enter Tryz.func98, Tryz.ntmps98
    go_wp2
    go_ret
    exact ⟨rfl, rfl⟩
  · have t1 : decide ((a : Int) + n > s.size) = false := by simp; omega
    rw [if_neg hlt] at hR
    have HR := Lib.hid hR
    clear hR
    go_enter Tryz.func98, Tryz.ntmps98
    go_wp2_with fail
    go_loopw [7, 8] (fun k i wr => ∃ j : Nat, j ≤ n ∧ i = .int .i64 ((a + j : Nat) : Int) ∧ (∃ v, k = .int .i64 v ∧ Hid (v = dnum ((s.data.toList.drop a).take j) 0)) ∧ Hid (((s.data.toList.drop a).take j).all dg = true) ∧ wr = w) (fun _ i _ => a + n - (intD i).toNat)
    case atStart => exact ⟨0, Nat.zero_le _, rfl, ⟨0, rfl, Lib.hid (by simp [dnum])⟩, Lib.hid (by simp), rfl⟩
    case round =>
      obtain ⟨j, hj, rfl, ⟨v, rfl, HV⟩, HALL, rfl⟩ := hrel
      by_cases hjn : j < n
      · have hjs : a + j < s.size := by omega
        have hu := u8_lt s[a + j]
        have hts := drop_snoc s a j hjs
        have t3 : decide (((a + j : Nat) : Int) < (a : Int) + n) = true := by simp; omega
        cases hdg : dg s[a + j]
        · have hbad : ((s.data.toList.drop a).take n).all dg = false := by
            rw [List.all_eq_false]
            refine ⟨s[a + j], ?_, by simp [hdg]⟩
            rw [List.mem_take_iff_getElem]
            exact ⟨j, by rw [List.length_drop, ← Lib.size_eq]; omega, by rw [List.getElem_drop]; rfl⟩
          have hR2 : R = -1 := by rw [← HR.out, hbad]; rfl
          have hI := dgI s[a + j]
          rw [hdg] at hI
          subst hR2
          have hcase : (s[a + j].toNat : Int) < 48 ∨ (¬ (s[a + j].toNat : Int) < 48 ∧ 57 < (s[a + j].toNat : Int)) := by
            have := hI
            simp at this
            omega
          clear hI hdg hbad hts HR
          generalize hP : a + j = P at *
          rcases hcase with hc | ⟨hc1, hc2⟩
          · have t1 : decide ((s[P].toNat : Int) < 48) = true := by simpa using hc
            go_wp2
            go_ret
            exact ⟨rfl, rfl⟩
          · have t1 : decide ((s[P].toNat : Int) < 48) = false := by simpa using hc1
            have t2 : decide ((s[P].toNat : Int) > 57) = true := by simpa using hc2
            go_wp2
            go_ret
            exact ⟨rfl, rfl⟩
        · have hI := dgI s[a + j]
          rw [hdg] at hI
          have hc : 48 ≤ (s[a + j].toNat : Int) ∧ (s[a + j].toNat : Int) ≤ 57 := by
            have := hI.symm
            simp at this
            omega
          have hb := dnum_le ((s.data.toList.drop a).take j) HALL.out 0 (by omega)
          rw [← HV.out] at hb
          have hl4 : ((s.data.toList.drop a).take j).length ≤ 3 := by rw [List.length_take]; omega
          have hp : ((10 : Int)) ^ ((s.data.toList.drop a).take j).length ≤ 1000 := by
            generalize ((s.data.toList.drop a).take j).length = L at hl4
            have h4 : L = 0 ∨ L = 1 ∨ L = 2 ∨ L = 3 := by omega
            rcases h4 with rfl | rfl | rfl | rfl <;> decide
          have hv : 0 ≤ v ∧ v ≤ 1000 := by omega
          have hnext : 10 * v + ((s[a + j].toNat : Int) - 48) = dnum ((s.data.toList.drop a).take (j + 1)) 0 := by rw [hts, dnum_snoc, ← HV.out]
          have hall : ((s.data.toList.drop a).take (j + 1)).all dg = true := by rw [hts, List.all_append, HALL.out]; simp [hdg]
          have HN := Lib.hid hnext; have HA2 := Lib.hid hall
          clear hI hdg hb hp hl4 hnext hall hts HV HALL HR
          generalize hP : a + j = P at *
          have hP1 : ((a + (j + 1) : Nat) : Int) = ((P + 1 : Nat) : Int) := by omega
          have t1 : decide ((s[P].toNat : Int) < 48) = false := by simp; omega
          have t2 : decide ((s[P].toNat : Int) > 57) = false := by simp; omega
          have hw1 : IntKind.i64.wrap (10 * v) = 10 * v := by rw [IntKind.wrap_i64]; omega
          have hw2 : IntKind.u8.wrap ((s[P].toNat : Int) - 48) = (s[P].toNat : Int) - 48 := by rw [IntKind.wrap_u8]; omega
          have hw3 : IntKind.i64.wrap ((s[P].toNat : Int) - 48) = (s[P].toNat : Int) - 48 := by rw [IntKind.wrap_i64]; omega
          have hw4 : IntKind.i64.wrap (10 * v + ((s[P].toNat : Int) - 48)) = 10 * v + ((s[P].toNat : Int) - 48) := by rw [IntKind.wrap_i64]; omega
          have hw5 : IntKind.i64.wrap ((P : Int) + 1) = ((P + 1 : Nat) : Int) := by rw [IntKind.wrap_i64]; omega
          have HP := Lib.hid hP; have HP1 := Lib.hid hP1
          clear hP hP1
          go_wp2
          go_roundw
          case rel => exact ⟨j + 1, hjn, by rw [HP1.out]; rfl, ⟨_, rfl, HN⟩, HA2, trivial⟩
          case measure => have := HP.out; simp [intD]; omega
      · have hjn2 : j = n := by omega
        subst hjn2
        have hR2 : R = v := by rw [← HR.out, HALL.out, ← HV.out]; rfl
        have t3 : decide (((a + j : Nat) : Int) < (a : Int) + j) = false := by simp
        subst hR2
        clear HR HALL HV
        go_wp2
        go_ret
        exact ⟨rfl, rfl⟩
end Go.Proofs.YtcgdcbnhpbokfaaGreatDoor
