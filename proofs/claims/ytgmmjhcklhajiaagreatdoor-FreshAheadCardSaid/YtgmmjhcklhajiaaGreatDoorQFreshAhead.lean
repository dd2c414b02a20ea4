/- Joined out of the texts Without13, FreshAhead, LaidTab, AheadLaw (wip/tools/merge.py). -/
import Derived.Test.YtgmmjhcklhajiaaGreatDoorPa7
import Derived.IntWalk
/- The walk of the law's without (layer 13). -/
namespace Go.Proofs.YtgmmjhcklhajiaaGreatDoor
open Go.RowKit
set_option maxRecDepth 100000

theorem set8_ownW {w : World} {E B : Nat} {v : Value} {fs : List Fld} {v0 v1 v2 v3 v4 v5 v6 v7 : Value} (hl : E < B) (h : OwnF B v fs w) : OwnF B v fs (set8 w E v0 v1 v2 v3 v4 v5 v6 v7) := by
  unfold set8
  exact ownsRow_setCell_below (a := ⟨E, 7, none⟩) (ownsRow_setCell_below (a := ⟨E, 6, none⟩) (ownsRow_setCell_below (a := ⟨E, 5, none⟩) (ownsRow_setCell_below (a := ⟨E, 4, none⟩) (ownsRow_setCell_below (a := ⟨E, 3, none⟩) (ownsRow_setCell_below (a := ⟨E, 2, none⟩) (ownsRow_setCell_below (a := ⟨E, 1, none⟩) (ownsRow_setCell_below (a := ⟨E, 0, none⟩) h hl _) hl _) hl _) hl _) hl _) hl _) hl _) hl _
theorem set8_belowW {B : Nat} {w w1 : World} {E : Nat} {v0 v1 v2 v3 v4 v5 v6 v7 : Value} (hl : B ≤ E) (h : Below B w w1) : Below B w (set8 w1 E v0 v1 v2 v3 v4 v5 v6 v7) := by
  unfold set8
  exact (((((((h.setCell (p := ⟨E, 0, none⟩) hl _).setCell (p := ⟨E, 1, none⟩) hl _).setCell (p := ⟨E, 2, none⟩) hl _).setCell (p := ⟨E, 3, none⟩) hl _).setCell (p := ⟨E, 4, none⟩) hl _).setCell (p := ⟨E, 5, none⟩) hl _).setCell (p := ⟨E, 6, none⟩) hl _).setCell (p := ⟨E, 7, none⟩) hl _
def othP (nm : List UInt8) (f : Fld) : Bool := !(lowerL f.1 == lowerL nm)
set_option maxHeartbeats 16000000 in
theorem without_any (st mi asked got : Int) (re bo : ByteArray) (A V N : Option Addr) (n c m d nn nc : Nat) (xs : List Fld) (nm : List UInt8) (vals : List (List UInt8)) (w : World) (hr : Rd A n 2 (fldsV xs) w) (hv : Rd N nn 1 (strsV vals) w) (hn : n ≤ 1000) (hs : ∀ f ∈ xs, f.1.length ≤ 1000000) (hnn : nn ≤ 100) (hnm : nm.length ≤ 1000) :
    Calls Tryz.prog 44 #[entV st re mi A n c bo asked got V m d, .string ⟨nm.toArray⟩, .slice N nn nc] w fun e w' => ∃ a c', e = .returned (entV st re mi a (withoutL xs nm vals).length c' bo asked got V m d) ∧ OwnF w.heap.size (.slice a (withoutL xs nm vals).length c') (withoutL xs nm vals) w' ∧ Below w.heap.size w w' := by
  obtain rfl := hr.fld; obtain rfl := hv.str
  obtain ⟨W1, hW1⟩ : ∃ W1, w.alloc (.cells #[.int .i64 st, .string re, .int .i64 mi, .slice A xs.length c, .string bo, .int .i64 asked, .int .i64 got, .slice V m d] 26) = W1 := ⟨_, rfl⟩
  have b1 : Below w.heap.size w W1 := by rw [← hW1]; exact (Below.refl w.heap.size w).alloc (Nat.le_refl _) _
  have z1 : W1.heap.size = w.heap.size + 1 := by rw [← hW1]; simp
  have x1 : EntAt w.heap.size st re mi A xs.length c bo asked got V m d W1 := by rw [← hW1]; exact heap_new w _ _ rfl
  obtain ⟨W2, hW2⟩ : ∃ W2, W1.alloc (.cells #[.int .i64 0, .string ⟨#[]⟩, .int .i64 0, .slice none 0 0, .string ⟨#[]⟩, .int .i64 0, .int .i64 0, .slice none 0 0] 26) = W2 := ⟨_, rfl⟩
  have b2 : Below W1.heap.size W1 W2 := by rw [← hW2]; exact (Below.refl W1.heap.size W1).alloc (Nat.le_refl _) _
  have z2 : W2.heap.size = w.heap.size + 2 := by rw [← hW2]; simp [z1]
  have x2 : W2.heap[w.heap.size + 1]? = some (.cells #[.int .i64 0, .string ⟨#[]⟩, .int .i64 0, .slice none 0 0, .string ⟨#[]⟩, .int .i64 0, .int .i64 0, .slice none 0 0] 26 (0, 0)) := by rw [← hW2]; exact heap_new W1 _ _ z1
  have x1 := x1.below b2
  have hB2 := bt b1 b2
  have hsn : ∀ k (h : k < xs.length), (xs.take (k + 1)).filter (othP nm) = if othP nm xs[k] = true then (xs.take k).filter (othP nm) ++ [xs[k]] else (xs.take k).filter (othP nm) := by
    intro k h
    rw [List.take_succ_eq_append_getElem h, List.filter_append, List.filter_cons, List.filter_nil]
    split <;> simp
  have hle : ∀ k, ((xs.take k).filter (othP nm)).length ≤ 1000 := fun k => by
    have h1 := List.length_filter_le (othP nm) (xs.take k)
    rw [List.length_take] at h1
    omega
  have hend : withoutL xs nm vals = xs.filter (othP nm) ++ vals.map fun v => (nm, v) := rfl
  have hsn2 : ∀ k (h : k < vals.length), (xs.filter (othP nm) ++ (vals.take (k + 1)).map fun v => (nm, v)) = (xs.filter (othP nm) ++ (vals.take k).map fun v => (nm, v)) ++ [(nm, vals[k])] := by
    intro k h
    rw [List.take_succ_eq_append_getElem h, List.map_append, ← List.append_assoc]; rfl
  have hle2 : ∀ k, (xs.filter (othP nm) ++ (vals.take k).map fun v => (nm, v)).length ≤ 1100 := fun k => by
    have h1 := List.length_filter_le (othP nm) xs
    rw [List.length_append, List.length_map, List.length_take]
    omega
  rw [hend]
  have HR := Lib.hid (hr.below hB2); have HV := Lib.hid (hv.below hB2); have HS := Lib.hid hs; have HSN := Lib.hid hsn; have HLE := Lib.hid hle; have HSN2 := Lib.hid hsn2; have HLE2 := Lib.hid hle2
  have HW1 := Lib.hid hW1; have HW2 := Lib.hid hW2; have X1 := Lib.hid x1; have X2 := Lib.hid x2; have HB2 := Lib.hid hB2; have Z2 := Lib.hid z2
  clear hr hv hs hsn hle hsn2 hle2 hW1 hW2 x1 x2 b1 b2 z1 hB2 hend
  have hz2 : w.heap.size + 2 ≤ W2.heap.size := by have := Z2.out; omega
  clear z2
  unfold entV
  go_enter Tryz.func44, Tryz.ntmps44
  go_upto_region 1 with (fail)
  rw [HW1.out, HW2.out]
  go_wp2_with fail
  go_loopw [8, 7] (fun i l wr => ∃ k : Nat, k ≤ xs.length ∧ i = .int .i64 k ∧ Hid (OwnF W2.heap.size l ((xs.take k).filter (othP nm)) wr) ∧ Below W2.heap.size W2 wr) (fun i _ _ => xs.length - (intOf i).toNat)
  case atStart => exact ⟨0, Nat.zero_le _, rfl, Lib.hid (OwnF.nil _ _), Below.refl _ _⟩
  case round =>
    obtain ⟨k, hk, rfl, HO, hbw⟩ := hrel
    obtain ⟨oa, oc, rfl⟩ := HO.out.shape
    have c3 := (X1.out.below hbw).cells.2.2.2.1
    have hEw := (X1.out.below hbw).cells.2.2.2.2.2.2.2.2
    by_cases hlt : k < xs.length
    · obtain ⟨b, o, rfl, hl, e0, e1⟩ := (HR.out.below hbw).fld_at (k := k) hlt
      have hst := HSN.out k hlt
      have hll := HLE.out k
      have hf1 := HS.out xs[k] (List.getElem_mem _)
      generalize xs[k] = f at *
      obtain ⟨f1, f2⟩ := f
      simp only at e0 e1 hf1
      have ks := tsame_any ⟨f1.toArray⟩ ⟨nm.toArray⟩ wr (by rw [Lib.size_eq]; exact hf1) (by rw [Lib.size_eq]; show nm.length ≤ _; omega)
      simp only at ks
      have hoth : othP nm (f1, f2) = !(lowerL f1 == lowerL nm) := rfl
      rw [hoth] at hst
      clear hoth
      obtain ⟨acc, hacc⟩ : ∃ l, (xs.take k).filter (othP nm) = l := ⟨_, rfl⟩
      rw [hacc] at HO hll hst
      rw [hacc]
      clear hacc
      cases hsm : (lowerL f1 == lowerL nm)
      · rw [hsm] at ks hst
        have KS := Lib.hid ks; have HST := Lib.hid hst
        clear ks hst hsm HSN HLE HSN2 HLE2 HS
        go_wp2_with fail
        (with_reducible refine KS.out.mono ?_)
        rintro e w5 ⟨rfl, hb5⟩
        have hB5 := hbw.trans (hb5.mono hbw.size)
        have HO5 := Lib.hid (HO.out.below hb5)
        have g3 := (hb5.cell (p := ⟨w.heap.size, 3, none⟩) hEw).trans c3
        have g0 := (hb5.cell (p := ⟨b, o + k * 2, none⟩) hl).trans e0
        have g1 := (hb5.cell (p := ⟨b, o + k * 2 + 1, none⟩) hl).trans e1
        have hst2 : (xs.take (k + 1)).filter (othP nm) = acc ++ [(f1, f2)] := by rw [HST.out]; simp
        have HST2 := Lib.hid hst2
        have al6 := (Below.refl w5.heap.size w5).alloc (Nat.le_refl _) (.cells #[.string ⟨f1.toArray⟩, .string ⟨f2.toArray⟩] 55)
        have hs5 := hB5.size
        clear hst2 hb5 c3 e0 e1 KS HST
        go_wp2_with (at_builtin; refine app_fld W2.heap.size (f1, f2) HO5.out hs5 (by omega) rfl _ _ rfl rfl rfl ?_)
        intro v7 w7 hO7 hb7 hfar7
        obtain ⟨a7, c7, rfl⟩ := hO7.shape
        have hB7 := hB5.trans hb7
        have hO7' : OwnF W2.heap.size (.slice a7 (acc ++ [(f1, f2)]).length c7) ((xs.take (k + 1)).filter (othP nm)) w7 := by
          rw [HST2.out]
          exact hO7
        have HO7 := Lib.hid hO7'
        clear hO7 hO7' hb7 hfar7 al6
        go_wp2
        go_roundw
        case rel => exact ⟨k + 1, by omega, by go_num, HO7, hB7⟩
        case measure => simp [intOf]; omega
      · rw [hsm] at ks hst
        have KS := Lib.hid ks; have HST := Lib.hid hst
        clear ks hst hsm HSN HLE HSN2 HLE2 HS
        go_wp2_with fail
        (with_reducible refine KS.out.mono ?_)
        rintro e w5 ⟨rfl, hb5⟩
        have hB5 := hbw.trans (hb5.mono hbw.size)
        have HO5 := Lib.hid (HO.out.below hb5)
        have hst2 : (xs.take (k + 1)).filter (othP nm) = acc := by rw [HST.out]; simp
        have HST2 := Lib.hid hst2
        clear hst2 hb5 c3 e0 e1
        go_wp2
        go_roundw
        case rel => exact ⟨k + 1, by omega, by go_num, by rw [HST2.out]; exact HO5, hB5⟩
        case measure => simp [intOf]; omega
    · have hke : k = xs.length := by omega
      subst hke
      obtain ⟨lb, hlb⟩ : ∃ n, ((xs.take xs.length).filter (othP nm)).length = n := ⟨_, rfl⟩
      rw [hlb] at HO ⊢
      have ho := HO.out
      rw [List.take_length] at ho
      have HO0 := Lib.hid ho
      have h00 : (xs.filter (othP nm) ++ (vals.take 0).map fun v => (nm, v)) = xs.filter (othP nm) := by simp
      have H00 := Lib.hid h00
      obtain ⟨wo, hwo⟩ : ∃ wo : World, wo = wr := ⟨_, rfl⟩
      subst hwo
      clear ho h00 HO HSN HLE HS hlt hk hlb
      go_wp2_with fail
      go_loopw [9, 7] (fun i l wr => ∃ k : Nat, k ≤ vals.length ∧ i = .int .i64 k ∧ Hid (OwnF W2.heap.size l (xs.filter (othP nm) ++ (vals.take k).map fun v => (nm, v)) wr) ∧ Below W2.heap.size W2 wr) (fun i _ _ => vals.length - (intOf i).toNat)
      case atStart => exact ⟨0, Nat.zero_le _, rfl, by rw [H00.out]; exact HO0, hbw⟩
      case round =>
        clear HO0 H00 hbw c3 hEw
        obtain ⟨k, hk, rfl, HO, hbw⟩ := hrel
        obtain ⟨oa, oc, rfl⟩ := HO.out.shape
        by_cases hlt : k < vals.length
        · obtain ⟨b, o, rfl, hl, e0⟩ := (HV.out.below hbw).str_at (k := k) hlt
          have hst := HSN2.out k hlt
          have hll := HLE2.out k
          generalize vals[k] = y at *
          obtain ⟨acc, hacc⟩ : ∃ l, (xs.filter (othP nm) ++ (vals.take k).map fun v => (nm, v)) = l := ⟨_, rfl⟩
          rw [hacc] at HO hll hst
          rw [hacc]
          clear hacc
          have HST := Lib.hid hst
          have hs5 := hbw.size
          have HO5 := Lib.hid (HO.out.below ((Below.refl wr.heap.size wr).alloc (Nat.le_refl _) (.cells #[.string ⟨nm.toArray⟩, .string ⟨y.toArray⟩] 55)))
          clear hst HSN2 HLE2 HO5
          go_wp2_with (at_builtin; refine app_fld W2.heap.size (nm, y) HO.out hs5 (by omega) rfl _ _ rfl rfl rfl ?_)
          intro v7 w7 hO7 hb7 hfar7
          obtain ⟨a7, c7, rfl⟩ := hO7.shape
          have hB7 := hbw.trans hb7
          have hO7' : OwnF W2.heap.size (.slice a7 (acc ++ [(nm, y)]).length c7) (xs.filter (othP nm) ++ (vals.take (k + 1)).map fun v => (nm, v)) w7 := by
            rw [HST.out]
            exact hO7
          have HO7 := Lib.hid hO7'
          clear hO7 hO7' hb7 hfar7
          go_wp2
          go_roundw
          case rel => exact ⟨k + 1, by omega, by go_num, HO7, hB7⟩
          case measure => simp [intOf]; omega
        · have hke : k = vals.length := by omega
          subst hke
          obtain ⟨la, hla⟩ : ∃ n, ((xs.filter (othP nm) ++ (vals.take vals.length).map fun v => (nm, v))).length = n := ⟨_, rfl⟩
          rw [hla] at HO ⊢
          have ho := HO.out
          rw [List.take_length] at ho
          have hlf : la = (xs.filter (othP nm) ++ vals.map fun v => (nm, v)).length := by rw [← hla, List.take_length]
          have HO0 := Lib.hid ho; have HLF := Lib.hid hlf
          clear hlf hla ho HO
          obtain ⟨c0, c1, c2, c3, c4, c5, c6, c7, cl⟩ := (X1.out.below hbw).cells
          have l3 := (of_heap (X1.out.below hbw) 3).2.1
          have yr := (hbw.block (w.heap.size + 1) (by omega)).trans X2.out
          have d0 := (of_heap yr 0).1; have d1 := (of_heap yr 1).1; have d2 := (of_heap yr 2).1; have d3 := (of_heap yr 3).1; have d4 := (of_heap yr 4).1; have d5 := (of_heap yr 5).1; have d6 := (of_heap yr 6).1; have d7 := (of_heap yr 7).1
          have m0 := (of_heap yr 0).2.1; have m1 := (of_heap yr 1).2.1; have m2 := (of_heap yr 2).2.1; have m3 := (of_heap yr 3).2.1; have m4 := (of_heap yr 4).2.1; have m5 := (of_heap yr 5).2.1; have m6 := (of_heap yr 6).2.1; have m7 := (of_heap yr 7).2.1
          simp only [List.getElem?_toArray, List.getElem?_cons_succ, List.getElem?_cons_zero] at d0 d1 d2 d3 d4 d5 d6 d7
          have hBw := HB2.out.trans (hbw.mono (by omega))
          have HBw := Lib.hid hBw; have HBW := Lib.hid hbw
          clear yr HSN2 HLE2 hBw hbw
          go_wp2_with fail
          refine bodyPost_ret_by (v := .agg #[.int .i64 st, .string re, .int .i64 mi, .slice oa la oc, .string bo, .int .i64 asked, .int .i64 got, .slice V m d]) ?_ rfl ?_
          · rw [results_cell_one rfl]
            go_simp
          · refine ⟨oa, oc, by rw [HLF.out], ?_, ?_⟩
            · rw [← HLF.out]
              exact OwnF.base (set8_ownW (by omega) (ownsRow_setCell_below (a := ⟨w.heap.size, 3, none⟩) HO0.out (by show w.heap.size < _; omega) _)) (by omega)
            · exact set8_belowW (by omega) (HBw.out.setCell (p := ⟨w.heap.size, 3, none⟩) (Nat.le_refl _) _)
end Go.Proofs.YtgmmjhcklhajiaaGreatDoor
/- FreshAhead: the walk of the law (printed by wip/tools/ahead13.py). -/
namespace Go.Proofs.YtgmmjhcklhajiaaGreatDoor
open Go.RowKit
set_option maxRecDepth 100000

theorem without_len (xs : List Fld) (nm : List UInt8) (vals : List (List UInt8)) : (withoutL xs nm vals).length ≤ xs.length + vals.length := by
  unfold withoutL
  rw [List.length_append, List.length_map]
  have := List.length_filter_le (fun f : Fld => !(lowerL f.1 == lowerL nm)) xs
  omega
theorem sum_filter (p : Fld → Bool) (xs : List Fld) : sumF (xs.filter p) ≤ sumF xs := by
  unfold sumF
  induction xs with
  | nil => simp
  | cons x r ih =>
    rw [List.filter_cons, List.map_cons, List.sum_cons]
    split
    · rw [List.map_cons, List.sum_cons]; omega
    · omega
theorem sum_named (nm : List UInt8) (B : Nat) : ∀ vals : List (List UInt8), (∀ v ∈ vals, v.length ≤ B) → sumF (vals.map fun v => (nm, v)) ≤ vals.length * (nm.length + B)
  | [], _ => by simp [sumF]
  | v :: r, h => by
    have ih := sum_named nm B r (fun x hx => h x (by simp [hx]))
    have h1 := h v (by simp)
    unfold sumF at *
    rw [List.map_cons, List.map_cons, List.sum_cons, List.length_cons, Nat.succ_mul]
    show nm.length + v.length + _ ≤ _
    omega
theorem without_sum (xs : List Fld) (nm : List UInt8) (vals : List (List UInt8)) (B : Nat) (h : ∀ v ∈ vals, v.length ≤ B) : sumF (withoutL xs nm vals) ≤ sumF xs + vals.length * (nm.length + B) := by
  unfold withoutL
  rw [sumF_app]
  have h1 := sum_filter (fun f : Fld => !(lowerL f.1 == lowerL nm)) xs
  have h2 := sum_named nm B vals h
  omega
theorem dec_len : ∀ (k u : Nat), u < 10 ^ (k + 1) → (Lib.decDigits u).length ≤ k + 1
  | 0, u, h => by rw [Lib.decDigits, dif_pos (by omega)]; simp
  | k + 1, u, h => by
    rw [Lib.decDigits]
    split
    · simp
    · rw [List.length_append, List.length_singleton]
      have := dec_len k (u / 10) (by rw [Nat.div_lt_iff_lt_mul (by decide)]; rw [Nat.pow_succ] at h; exact h)
      omega
theorem without_lit (st mi asked got : Int) (re bo : ByteArray) (A V N : Option Addr) (n c m d nn nc : Nat) (xs : List Fld) (nm : List UInt8) (vals : List (List UInt8)) (res : List Fld) (hres : withoutL xs nm vals = res) (nb : ByteArray) (hnb : nb = ⟨nm.toArray⟩) (w : World) (hr : Rd A n 2 (fldsV xs) w) (hv : Rd N nn 1 (strsV vals) w) (hn : n ≤ 1000) (hs : ∀ f ∈ xs, f.1.length ≤ 1000000) (hnn : nn ≤ 100) (hnm : nm.length ≤ 1000) :
    Calls Tryz.prog 44 #[.agg #[.int .i64 st, .string re, .int .i64 mi, .slice A n c, .string bo, .int .i64 asked, .int .i64 got, .slice V m d], .string nb, .slice N nn nc] w fun e w' => ∃ a c', e = .returned (.agg #[.int .i64 st, .string re, .int .i64 mi, .slice a res.length c', .string bo, .int .i64 asked, .int .i64 got, .slice V m d]) ∧ Rd a res.length 2 (fldsV res) w' ∧ Below w.heap.size w w' := by
  subst hres; subst hnb
  refine (without_any st mi asked got re bo A V N n c m d nn nc xs nm vals w hr hv hn hs hnn hnm).mono ?_
  rintro e w' ⟨a, c', rfl, ho, hb⟩
  exact ⟨a, c', rfl, ho.rd.2, hb⟩
theorem life_lit (st mi asked got : Int) (re bo : ByteArray) (A V : Option Addr) (n c m d : Nat) (xs : List Fld) (L : Int) (hL : lifeF xs got [100] = L) (w : World) (hE : DEnv w) (hr : Rd A n 2 (fldsV xs) w) (hn : n ≤ 1000) (hs : sumF xs ≤ 800000) (hg : -9223372036854775808 ≤ got ∧ got ≤ 9223372036854775807) :
    Calls Tryz.prog 27 #[.agg #[.int .i64 st, .string re, .int .i64 mi, .slice A n c, .string bo, .int .i64 asked, .int .i64 got, .slice V m d], .string ⟨#[100]⟩] w fun e w' => e = .returned (.int .i64 L) ∧ Below w.heap.size w w' := by
  subst hL
  exact life_any st mi asked got re bo A V n c m d xs ⟨#[100]⟩ w hE hr hn hs hg
theorem age_lit (st mi asked got : Int) (re bo : ByteArray) (A V : Option Addr) (n c m d : Nat) (xs : List Fld) (G : Int) (hG : ageF xs asked got got = G) (w : World) (hE : DEnv w) (hr : Rd A n 2 (fldsV xs) w) (hn : n ≤ 1000) (hs : sumF xs ≤ 800000) (hg : -9223372036854775808 ≤ got ∧ got ≤ 9223372036854775807) (ha : -9223372036854775808 ≤ asked ∧ asked ≤ 9223372036854775807) :
    Calls Tryz.prog 21 #[.agg #[.int .i64 st, .string re, .int .i64 mi, .slice A n c, .string bo, .int .i64 asked, .int .i64 got, .slice V m d], .int .i64 got] w fun e w' => e = .returned (.int .i64 G) ∧ Below w.heap.size w w' := by
  subst hG
  exact age_any st mi asked got got re bo A V n c m d xs w hE hr hn hs hg ha hg
def few13v (vs : List (List UInt8)) : Bool := vs.all fun v => decide (v.length ≤ 300)
set_option maxHeartbeats 32000000 in
theorem freshAhead_any (st mi asked got ag : Int) (re bo : ByteArray) (A V N : Option Addr) (n c m d nn nc0 : Nat) (xs : List Fld) (vs : List (List UInt8)) (w : World) (hE : DEnv w) (hT : TabW w) (hr : Rd A n 2 (fldsV xs) w) (hv : Rd N nn 1 (strsV vs) w) (hs : ∀ f ∈ xs, f.1.length ≤ 140737488355328 ∧ f.2.length ≤ 140737488355328) (ha : -9223372036854775808 ≤ asked ∧ asked ≤ 9223372036854775807) (hg : -9223372036854775808 ≤ got ∧ got ≤ 9223372036854775807) (hag : 0 ≤ ag ∧ ag < 4294967296) :
    Calls Tryz.prog 11 #[entV st re mi A n c bo asked got V m d, .int .u32 ag, .slice N nn nc0] w fun e w' => e = .returned (.bool true) ∧ Below w.heap.size w w' := by
  have hvn := hv.str
  subst hvn
  obtain ⟨W1, hW1⟩ : ∃ W1, w.alloc (.cells #[.int .i64 st, .string re, .int .i64 mi, .slice A n c, .string bo, .int .i64 asked, .int .i64 got, .slice V m d] 26) = W1 := ⟨_, rfl⟩
  have b1 : Below w.heap.size w W1 := by rw [← hW1]; exact (Below.refl w.heap.size w).alloc (Nat.le_refl _) _
  have x1 : EntAt w.heap.size st re mi A n c bo asked got V m d W1 := by rw [← hW1]; exact heap_new w _ _ rfl
  have k0 := few13_any st mi asked got re bo A V n c m d xs W1 (hr.below b1) hs
  cases hf : few13 xs
  · rw [hf] at k0
    have K0 := Lib.hid k0; have HA := Lib.hid (fun W (hb : Below w.heap.size w W) => awake13_any W (hE.below hb)); have HW1 := Lib.hid hW1; have HB2 := Lib.hid b1
    obtain ⟨c0, c1, c2, c3, c4, c5, c6, c7, cl⟩ := x1.cells
    clear k0 hW1 x1 b1 hr hE hs hv hT
    unfold entV at *
    go_enter Tryz.func11, Tryz.ntmps11
    go_upto_region 1 with (fail)
    rw [HW1.out]
    go_wp2_with fail
    (with_reducible refine K0.out.mono ?_)
    rintro e w1 ⟨rfl, hb1⟩
    have HB := Lib.hid (bt HB2.out hb1)
    clear hb1
    go_wp2_with fail
    (with_reducible refine (HA.out _ HB.out).mono ?_)
    rintro e w2 ⟨rfl, hb2⟩
    go_wp2
    go_ret
    exact ⟨rfl, bt HB.out hb2⟩
  · rw [hf] at k0
    by_cases h3 : 3 < vs.length
    · have t1 : decide ((vs.length : Int) > 3) = true := by simp; omega
      have K0 := Lib.hid k0; have HA := Lib.hid (fun W (hb : Below w.heap.size w W) => awake13_any W (hE.below hb)); have HW1 := Lib.hid hW1; have HB2 := Lib.hid b1
      obtain ⟨c0, c1, c2, c3, c4, c5, c6, c7, cl⟩ := x1.cells
      clear k0 hW1 x1 b1 hr hE hs hv hT
      unfold entV at *
      go_enter Tryz.func11, Tryz.ntmps11
      go_upto_region 1 with (fail)
      rw [HW1.out]
      go_wp2_with fail
      (with_reducible refine K0.out.mono ?_)
      rintro e w1 ⟨rfl, hb1⟩
      have HB := Lib.hid (bt HB2.out hb1)
      clear hb1
      go_wp2_with fail
      (with_reducible refine (HA.out _ HB.out).mono ?_)
      rintro e w2 ⟨rfl, hb2⟩
      go_wp2
      go_ret
      exact ⟨rfl, bt HB.out hb2⟩
    · have t1 : decide ((vs.length : Int) > 3) = false := by simp; omega
      obtain ⟨hx80, hsum⟩ := few13_yes hf
      have hxn := hr.fld
      have hone := fun l : List UInt8 => Lib.size_eq ⟨l.toArray⟩
      have hHA := Lib.hid (fun W (hb : Below w.heap.size w W) => awake13_any W (hE.below hb))
      have HV := Lib.hid hv; have HR := Lib.hid hr; have HE := Lib.hid hE; have HT := Lib.hid hT
      have K0 := Lib.hid k0; have HW1 := Lib.hid hW1; have HB2 := Lib.hid b1; have X1 := Lib.hid x1
      have HXN := Lib.hid hxn; have HSUM := Lib.hid hsum; have HX80 := Lib.hid hx80
      have hsn : ∀ k (h : k < vs.length), (∀ v ∈ vs.take k, v.length ≤ 300) → vs[k].length ≤ 300 → ∀ v ∈ vs.take (k + 1), v.length ≤ 300 := by
        intro k h h1 h2 v hv
        rw [List.take_succ_eq_append_getElem h, List.mem_append, List.mem_singleton] at hv
        rcases hv with hv | rfl
        · exact h1 v hv
        · exact h2
      have HSN := Lib.hid hsn
      obtain ⟨c0, c1, c2, c3, c4, c5, c6, c7, cl⟩ := x1.cells
      clear k0 hW1 x1 b1 hr hE hs hv hT hf hxn hsum hx80 hone hsn
      unfold entV at *
      go_enter Tryz.func11, Tryz.ntmps11
      go_upto_region 1 with (fail)
      rw [HW1.out]
      go_wp2_with fail
      (with_reducible refine K0.out.mono ?_)
      rintro e w1 ⟨rfl, hb1⟩
      have X2 := Lib.hid (X1.out.below hb1)
      have HB := Lib.hid (bt HB2.out hb1)
      clear hb1 c0 c1 c2 c3 c4 c5 c6 c7 cl K0 HW1 X1 HB2
      go_wp2_with fail
      go_loopw [7] (fun i wr => ∃ k : Nat, k ≤ vs.length ∧ i = .int .i64 k ∧ Hid (∀ v ∈ vs.take k, v.length ≤ 300) ∧ wr = w1) (fun i _ => vs.length - (intOf i).toNat)
      case atStart => exact ⟨0, Nat.zero_le _, rfl, Lib.hid (by simp), rfl⟩
      case round =>
        obtain ⟨k, hk, rfl, HV3, rfl⟩ := hrel
        by_cases hlt : k < vs.length
        · obtain ⟨b, o, rfl, hl, e1⟩ := (HV.out.below HB.out).str_at (k := k) hlt
          have hsn := HSN.out k hlt HV3.out
          have z1 : (⟨(vs[k]).toArray⟩ : ByteArray).size = vs[k].length := by rw [Lib.size_eq]
          generalize vs[k] = v at *
          by_cases hbig : 300 < v.length
          · have t2 : decide ((v.length : Int) > 300) = true := by simp; omega
            clear HV3 hsn HSN
            go_wp2_with fail
            (with_reducible refine (hHA.out _ HB.out).mono ?_)
            rintro e w2 ⟨rfl, hb2⟩
            go_wp2
            go_ret
            exact ⟨rfl, bt HB.out hb2⟩
          · have t2 : decide ((v.length : Int) > 300) = false := by simp; omega
            have HE2 := Lib.hid (hsn (by omega))
            clear HV3 hsn HSN
            go_wp2
            go_roundw
            case rel => exact ⟨k + 1, by omega, by go_num, HE2, trivial⟩
            case measure => simp [intOf]; omega
        · have hke : k = vs.length := by omega
          subst hke
          have hvl : ∀ v ∈ vs, v.length ≤ 300 := by have := HV3.out; rwa [List.take_length] at this
          have HVL := Lib.hid hvl
          clear hvl HV3 HSN hk hlt
          have wag : IntKind.i64.wrap ag = ag := IntWalk.i64_in _ (by omega)
          have hdl : (putS ag).size ≤ 100 := by
            unfold putS
            rw [Lib.size_eq]
            have h1 := bnd_lo ag; have h2 := bnd_hi ag
            have := dec_len 9 (bnd ag).toNat (by have : (10 : Nat) ^ (9 + 1) = 10000000000 := rfl; omega)
            show (Lib.decDigits (bnd ag).toNat).length ≤ 100
            omega
          have hcat : (⟨#[109, 97, 120, 45, 97, 103, 101, 61]⟩ ++ putS ag : ByteArray) = ⟨(maxAgeT ag).toArray⟩ := by
            apply str_eq
            rw [app_list]
            rfl
          have hml : (maxAgeT ag).length ≤ 108 := by
            have := Lib.size_eq (putS ag)
            have e : (putS ag).data.toList = Lib.decDigits (bnd ag).toNat := rfl
            rw [e] at this
            have : (maxAgeT ag).length = 7 + (1 + (Lib.decDigits (bnd ag).toNat).length) := by unfold maxAgeT; rw [List.length_append, List.length_cons]; show 7 + _ = _; omega
            omega
          have KP := Lib.hid (put_any ag wr (HT.out.on HB.out))
          have HCAT := Lib.hid hcat
          clear hcat
          obtain ⟨c0, c1, c2, c3, c4, c5, c6, c7, cl⟩ := X2.out.cells
          go_wp2_with fail
          (with_reducible refine KP.out.mono ?_)
          rintro e w2 ⟨rfl, hb2⟩
          have HB2 := Lib.hid (bt HB.out hb2)
          have XE := Lib.hid (X2.out.below hb2)
          clear hb2 KP X2 HB c0 c1 c2 c3 c4 c5 c6 c7 cl
          obtain ⟨c0, c1, c2, c3, c4, c5, c6, c7, cl⟩ := XE.out.cells
          go_upto_region 9 with (fail)
          rw [HCAT.out]
          have hxn := HXN.out; have hsum := HSUM.out; have hx80 := HX80.out
          have hvl := HVL.out
          have hl1 : ∀ v ∈ [maxAgeT ag], v.length ≤ 300 := by intro v hv; rw [List.mem_singleton] at hv; subst hv; omega
          have n1 := without_len xs fSC [maxAgeT ag]
          have s1 := without_sum xs fSC [maxAgeT ag] 300 hl1
          have n2 := without_len (withoutL xs fSC [maxAgeT ag]) fCC vs
          have s2 := without_sum (withoutL xs fSC [maxAgeT ag]) fCC vs 300 hvl
          have n3 := without_len (withoutL (withoutL xs fSC [maxAgeT ag]) fCC vs) fExp vs
          have s3 := without_sum (withoutL (withoutL xs fSC [maxAgeT ag]) fCC vs) fExp vs 300 hvl
          have n4 := without_len xs fSC vs
          have s4 := without_sum xs fSC vs 300 hvl
          have q1 : [maxAgeT ag].length = 1 := rfl
          have q2 : fSC.length = 17 := rfl
          have q3 : fCC.length = 13 := rfl
          have q4 : fExp.length = 7 := rfl
          rw [q1] at n1 s1
          rw [q2] at s1 s4
          rw [q3] at s2
          rw [q4] at s3
          have hv3 : vs.length ≤ 3 := by simp at t1; omega
          have hm2 : vs.length * (13 + 300) ≤ 3 * (13 + 300) := Nat.mul_le_mul_right _ hv3
          have hm3 : vs.length * (7 + 300) ≤ 3 * (7 + 300) := Nat.mul_le_mul_right _ hv3
          have hm4 : vs.length * (17 + 300) ≤ 3 * (17 + 300) := Nat.mul_le_mul_right _ hv3
          have hca : ctlF (withoutL xs fSC [maxAgeT ag]) [100] = ⟨false, false, false, true, bnd ag, 0⟩ := by
            unfold ctlF
            rw [values_own, maxAge_tells]
          have la := life_maxAge xs ag got [100]
          have lb := life_maxAge2 (withoutL xs fSC [maxAgeT ag]) ag got [100] fCC vs (by decide) hca
          have lc := life_maxAge2 (withoutL (withoutL xs fSC [maxAgeT ag]) fCC vs) ag got [100] fExp vs (by decide) lb.1
          have ga := age_oth xs fSC [maxAgeT ag] asked got got (by decide) (by decide)
          have gd := age_oth xs fSC vs asked got got (by decide) (by decide)
          have lb := lb.2
          have lc := lc.2
          obtain ⟨xa, hxa⟩ : ∃ l, withoutL xs fSC [maxAgeT ag] = l := ⟨_, rfl⟩
          rw [hxa] at n1 s1 n2 s2 n3 s3 la lb lc ga
          obtain ⟨xb, hxb⟩ : ∃ l, withoutL xa fCC vs = l := ⟨_, rfl⟩
          rw [hxb] at n2 s2 n3 s3 lb lc
          obtain ⟨xc, hxc⟩ : ∃ l, withoutL xb fExp vs = l := ⟨_, rfl⟩
          rw [hxc] at n3 s3 lc
          obtain ⟨xd, hxd⟩ : ∃ l, withoutL xs fSC vs = l := ⟨_, rfl⟩
          rw [hxd] at n4 s4 gd
          have sxs : ∀ f ∈ xs, f.1.length ≤ 1000000 := fun f hf => by have := sumF_mem hf; omega
          have sxa : ∀ f ∈ xa, f.1.length ≤ 1000000 := fun f hf => by have := sumF_mem hf; omega
          have sxb : ∀ f ∈ xb, f.1.length ≤ 1000000 := fun f hf => by have := sumF_mem hf; omega
          have bna : xa.length ≤ 1000 := by omega
          have bnb : xb.length ≤ 1000 := by omega
          have bnc : xc.length ≤ 1000 := by omega
          have bnd' : xd.length ≤ 1000 := by omega
          have bsa : sumF xa ≤ 800000 := by omega
          have bsb : sumF xb ≤ 800000 := by omega
          have bsc : sumF xc ≤ 800000 := by omega
          have bsd : sumF xd ≤ 800000 := by omega
          have KW1 := Lib.hid (fun W h1 h2 h3 => without_lit st mi asked got re bo A V (some ⟨W, 0, none⟩) n c m d 1 1 xs fSC [maxAgeT ag] xa hxa ⟨#[115, 117, 114, 114, 111, 103, 97, 116, 101, 45, 99, 111, 110, 116, 114, 111, 108]⟩ rfl (h1 : World) h2 h3 (by omega) sxs (by omega) (by decide))
          have KW2 := Lib.hid (fun a c' W h2 h3 => without_lit st mi asked got re bo a V N xa.length c' m d vs.length nc0 xa fCC vs xb hxb ⟨#[99, 97, 99, 104, 101, 45, 99, 111, 110, 116, 114, 111, 108]⟩ rfl W h2 h3 bna sxa (by omega) (by decide))
          have KW3 := Lib.hid (fun a c' W h2 h3 => without_lit st mi asked got re bo a V N xb.length c' m d vs.length nc0 xb fExp vs xc hxc ⟨#[101, 120, 112, 105, 114, 101, 115]⟩ rfl W h2 h3 bnb sxb (by omega) (by decide))
          have KW4 := Lib.hid (fun W h2 h3 => without_lit st mi asked got re bo A V N n c m d vs.length nc0 xs fSC vs xd hxd ⟨#[115, 117, 114, 114, 111, 103, 97, 116, 101, 45, 99, 111, 110, 116, 114, 111, 108]⟩ rfl W h2 h3 (by omega) sxs (by omega) (by decide))
          have KLa := Lib.hid (fun a c' W hb h => life_lit st mi asked got re bo a V xa.length c' m d xa (bnd ag) la W (HE.out.below hb) h bna bsa hg)
          have KLb := Lib.hid (fun a c' W hb h => life_lit st mi asked got re bo a V xb.length c' m d xb (bnd ag) lb W (HE.out.below hb) h bnb bsb hg)
          have KLc := Lib.hid (fun a c' W hb h => life_lit st mi asked got re bo a V xc.length c' m d xc (bnd ag) lc W (HE.out.below hb) h bnc bsc hg)
          have KGa := Lib.hid (fun a c' W hb h => age_lit st mi asked got re bo a V xa.length c' m d xa (ageF xs asked got got) ga W (HE.out.below hb) h bna bsa hg ha)
          have KGd := Lib.hid (fun a c' W hb h => age_lit st mi asked got re bo a V xd.length c' m d xd (ageF xs asked got got) gd W (HE.out.below hb) h bnd' bsd hg ha)
          have KGe := Lib.hid (fun W hb h => age_lit st mi asked got re bo A V n c m d xs (ageF xs asked got got) rfl W (HE.out.below hb) h (by omega) (by omega) hg ha)
          have KO := Lib.hid (fun W => of_any ag W)
          generalize ageF xs asked got got = AG at *
          generalize bnd ag = L at *
          have e1 : (L != L) = false := by simp
          have e2 : (AG == AG) = true := by simp
          clear hxn hsum hx80 hvl hl1 n1 s1 n2 s2 n3 s3 n4 s4 q1 q2 q3 q4 hm2 hm3 hm4 hca la lb lc ga gd hxa hxb hxc hxd sxs sxa sxb bna bnb bnc bnd' bsa bsb bsc bsd hdl hml HVL HSUM HX80 HXN hag
          generalize maxAgeT ag = mx at *
          have al1 := (Below.refl w2.heap.size w2).alloc (Nat.le_refl _) (.cells #[.string ⟨mx.toArray⟩] 9)
          have KK := Lib.hid (KW1.out w2.heap.size (w2.alloc (.cells #[.string ⟨mx.toArray⟩] 9)) (HR.out.below (bt HB2.out al1)) (Rd.newS1 w2 mx 9))
          have HBx := Lib.hid (bt HB2.out al1)
          have XE := Lib.hid (XE.out.below al1)
          clear al1 HCAT
          go_wp2_with fail
          (with_reducible refine KK.out.mono ?_)
          rintro e u1 ⟨aa, ca, rfl, ra, hb⟩
          obtain ⟨Y1, hY⟩ : ∃ W, u1.alloc (.cells #[.int .i64 st, .string re, .int .i64 mi, .slice aa xa.length ca, .string bo, .int .i64 asked, .int .i64 got, .slice V m d] 26) = W := ⟨_, rfl⟩
          have bb : Below u1.heap.size u1 Y1 := by rw [← hY]; exact (Below.refl u1.heap.size u1).alloc (Nat.le_refl _) _
          have Xa : Hid (EntAt u1.heap.size st re mi aa xa.length ca bo asked got V m d Y1) := Lib.hid (by rw [← hY]; exact heap_new u1 _ _ rfl)
          have HB1 := Lib.hid (bt (bt HBx.out hb) bb)
          have HY := Lib.hid hY
          have XE := Lib.hid ((XE.out.below hb).below bb)
          have RA := Lib.hid (ra.below bb)
          have KK := Lib.hid (KW2.out aa ca Y1 RA.out (HV.out.below HB1.out))
          clear hb bb hY ra HBx c0 c1 c2 c3 c4 c5 c6 c7 cl
          obtain ⟨c0, c1, c2, c3, c4, c5, c6, c7, cl⟩ := Xa.out.cells
          go_upto_region 10 with (fail)
          rw [HY.out]
          go_wp2_with fail
          (with_reducible refine KK.out.mono ?_)
          rintro e u2 ⟨ab, cb, rfl, ra, hb⟩
          obtain ⟨Y2, hY⟩ : ∃ W, u2.alloc (.cells #[.int .i64 st, .string re, .int .i64 mi, .slice ab xb.length cb, .string bo, .int .i64 asked, .int .i64 got, .slice V m d] 26) = W := ⟨_, rfl⟩
          have bb : Below u2.heap.size u2 Y2 := by rw [← hY]; exact (Below.refl u2.heap.size u2).alloc (Nat.le_refl _) _
          have Xb : Hid (EntAt u2.heap.size st re mi ab xb.length cb bo asked got V m d Y2) := Lib.hid (by rw [← hY]; exact heap_new u2 _ _ rfl)
          have HB2 := Lib.hid (bt (bt HB1.out hb) bb)
          have HY := Lib.hid hY
          have XE := Lib.hid ((XE.out.below hb).below bb); have Xa := Lib.hid ((Xa.out.below hb).below bb); have RA := Lib.hid ((RA.out.below hb).below bb)
          have RB := Lib.hid (ra.below bb)
          have KK := Lib.hid (KW3.out ab cb Y2 RB.out (HV.out.below HB2.out))
          clear hb bb hY ra HB1 c0 c1 c2 c3 c4 c5 c6 c7 cl
          obtain ⟨c0, c1, c2, c3, c4, c5, c6, c7, cl⟩ := Xb.out.cells
          go_upto_region 11 with (fail)
          rw [HY.out]
          go_wp2_with fail
          (with_reducible refine KK.out.mono ?_)
          rintro e u3 ⟨ac, cc, rfl, ra, hb⟩
          obtain ⟨Y3, hY⟩ : ∃ W, u3.alloc (.cells #[.int .i64 st, .string re, .int .i64 mi, .slice ac xc.length cc, .string bo, .int .i64 asked, .int .i64 got, .slice V m d] 26) = W := ⟨_, rfl⟩
          have bb : Below u3.heap.size u3 Y3 := by rw [← hY]; exact (Below.refl u3.heap.size u3).alloc (Nat.le_refl _) _
          have Xc : Hid (EntAt u3.heap.size st re mi ac xc.length cc bo asked got V m d Y3) := Lib.hid (by rw [← hY]; exact heap_new u3 _ _ rfl)
          have HB3 := Lib.hid (bt (bt HB2.out hb) bb)
          have HY := Lib.hid hY
          have XE := Lib.hid ((XE.out.below hb).below bb); have Xa := Lib.hid ((Xa.out.below hb).below bb); have RA := Lib.hid ((RA.out.below hb).below bb); have Xb := Lib.hid ((Xb.out.below hb).below bb); have RB := Lib.hid ((RB.out.below hb).below bb)
          have RC := Lib.hid (ra.below bb)
          have KK := Lib.hid (KW4.out Y3 (HR.out.below HB3.out) (HV.out.below HB3.out))
          clear hb bb hY ra HB2 c0 c1 c2 c3 c4 c5 c6 c7 cl
          obtain ⟨c0, c1, c2, c3, c4, c5, c6, c7, cl⟩ := XE.out.cells
          go_upto_region 12 with (fail)
          rw [HY.out]
          go_wp2_with fail
          (with_reducible refine KK.out.mono ?_)
          rintro e u4 ⟨ad, cd, rfl, ra, hb⟩
          obtain ⟨Y, hY⟩ : ∃ W, u4.alloc (.cells #[.int .i64 st, .string re, .int .i64 mi, .slice ad xd.length cd, .string bo, .int .i64 asked, .int .i64 got, .slice V m d] 26) = W := ⟨_, rfl⟩
          have bb : Below u4.heap.size u4 Y := by rw [← hY]; exact (Below.refl u4.heap.size u4).alloc (Nat.le_refl _) _
          have Xd : Hid (EntAt u4.heap.size st re mi ad xd.length cd bo asked got V m d Y) := Lib.hid (by rw [← hY]; exact heap_new u4 _ _ rfl)
          have HB4 := Lib.hid (bt (bt HB3.out hb) bb)
          have HY := Lib.hid hY
          have XE := Lib.hid ((XE.out.below hb).below bb); have Xa := Lib.hid ((Xa.out.below hb).below bb); have RA := Lib.hid ((RA.out.below hb).below bb); have Xb := Lib.hid ((Xb.out.below hb).below bb); have RB := Lib.hid ((RB.out.below hb).below bb); have Xc := Lib.hid ((Xc.out.below hb).below bb); have RC := Lib.hid ((RC.out.below hb).below bb)
          have RD := Lib.hid (ra.below bb)
          clear hb bb hY ra HB3 c0 c1 c2 c3 c4 c5 c6 c7 cl KK KW1 KW2 KW3 KW4
          go_upto_region 13 with (fail)
          rw [HY.out]
          have hd0 : Below Y.heap.size Y Y.drew := (Below.refl _ _).drew
          have kc : ∀ w', Below Y.heap.size Y w' → w'.cell? ⟨u1.heap.size, 0, none⟩ = some (.int .i64 st) ∧ w'.cell? ⟨u1.heap.size, 1, none⟩ = some (.string re) ∧ w'.cell? ⟨u1.heap.size, 2, none⟩ = some (.int .i64 mi) ∧ w'.cell? ⟨u1.heap.size, 3, none⟩ = some (.slice aa xa.length ca) ∧ w'.cell? ⟨u1.heap.size, 4, none⟩ = some (.string bo) ∧ w'.cell? ⟨u1.heap.size, 5, none⟩ = some (.int .i64 asked) ∧ w'.cell? ⟨u1.heap.size, 6, none⟩ = some (.int .i64 got) ∧ w'.cell? ⟨u1.heap.size, 7, none⟩ = some (.slice V m d) ∧ w'.cell? ⟨u2.heap.size, 0, none⟩ = some (.int .i64 st) ∧ w'.cell? ⟨u2.heap.size, 1, none⟩ = some (.string re) ∧ w'.cell? ⟨u2.heap.size, 2, none⟩ = some (.int .i64 mi) ∧ w'.cell? ⟨u2.heap.size, 3, none⟩ = some (.slice ab xb.length cb) ∧ w'.cell? ⟨u2.heap.size, 4, none⟩ = some (.string bo) ∧ w'.cell? ⟨u2.heap.size, 5, none⟩ = some (.int .i64 asked) ∧ w'.cell? ⟨u2.heap.size, 6, none⟩ = some (.int .i64 got) ∧ w'.cell? ⟨u2.heap.size, 7, none⟩ = some (.slice V m d) ∧ w'.cell? ⟨u3.heap.size, 0, none⟩ = some (.int .i64 st) ∧ w'.cell? ⟨u3.heap.size, 1, none⟩ = some (.string re) ∧ w'.cell? ⟨u3.heap.size, 2, none⟩ = some (.int .i64 mi) ∧ w'.cell? ⟨u3.heap.size, 3, none⟩ = some (.slice ac xc.length cc) ∧ w'.cell? ⟨u3.heap.size, 4, none⟩ = some (.string bo) ∧ w'.cell? ⟨u3.heap.size, 5, none⟩ = some (.int .i64 asked) ∧ w'.cell? ⟨u3.heap.size, 6, none⟩ = some (.int .i64 got) ∧ w'.cell? ⟨u3.heap.size, 7, none⟩ = some (.slice V m d) ∧ Below Y.heap.size Y w' := fun w' hb => by
            obtain ⟨aq0, aq1, aq2, aq3, aq4, aq5, aq6, aq7, _⟩ := (Xa.out.below hb).cells
            obtain ⟨bq0, bq1, bq2, bq3, bq4, bq5, bq6, bq7, _⟩ := (Xb.out.below hb).cells
            obtain ⟨cq0, cq1, cq2, cq3, cq4, cq5, cq6, cq7, _⟩ := (Xc.out.below hb).cells
            exact ⟨aq0, aq1, aq2, aq3, aq4, aq5, aq6, aq7, bq0, bq1, bq2, bq3, bq4, bq5, bq6, bq7, cq0, cq1, cq2, cq3, cq4, cq5, cq6, cq7, hb⟩
          have KC := Lib.hid kc
          clear kc
          refine wp_region_held_drew (S := (fun w' => w'.cell? ⟨u1.heap.size, 0, none⟩ = some (.int .i64 st) ∧ w'.cell? ⟨u1.heap.size, 1, none⟩ = some (.string re) ∧ w'.cell? ⟨u1.heap.size, 2, none⟩ = some (.int .i64 mi) ∧ w'.cell? ⟨u1.heap.size, 3, none⟩ = some (.slice aa xa.length ca) ∧ w'.cell? ⟨u1.heap.size, 4, none⟩ = some (.string bo) ∧ w'.cell? ⟨u1.heap.size, 5, none⟩ = some (.int .i64 asked) ∧ w'.cell? ⟨u1.heap.size, 6, none⟩ = some (.int .i64 got) ∧ w'.cell? ⟨u1.heap.size, 7, none⟩ = some (.slice V m d) ∧ w'.cell? ⟨u2.heap.size, 0, none⟩ = some (.int .i64 st) ∧ w'.cell? ⟨u2.heap.size, 1, none⟩ = some (.string re) ∧ w'.cell? ⟨u2.heap.size, 2, none⟩ = some (.int .i64 mi) ∧ w'.cell? ⟨u2.heap.size, 3, none⟩ = some (.slice ab xb.length cb) ∧ w'.cell? ⟨u2.heap.size, 4, none⟩ = some (.string bo) ∧ w'.cell? ⟨u2.heap.size, 5, none⟩ = some (.int .i64 asked) ∧ w'.cell? ⟨u2.heap.size, 6, none⟩ = some (.int .i64 got) ∧ w'.cell? ⟨u2.heap.size, 7, none⟩ = some (.slice V m d) ∧ w'.cell? ⟨u3.heap.size, 0, none⟩ = some (.int .i64 st) ∧ w'.cell? ⟨u3.heap.size, 1, none⟩ = some (.string re) ∧ w'.cell? ⟨u3.heap.size, 2, none⟩ = some (.int .i64 mi) ∧ w'.cell? ⟨u3.heap.size, 3, none⟩ = some (.slice ac xc.length cc) ∧ w'.cell? ⟨u3.heap.size, 4, none⟩ = some (.string bo) ∧ w'.cell? ⟨u3.heap.size, 5, none⟩ = some (.int .i64 asked) ∧ w'.cell? ⟨u3.heap.size, 6, none⟩ = some (.int .i64 got) ∧ w'.cell? ⟨u3.heap.size, 7, none⟩ = some (.slice V m d) ∧ Below Y.heap.size Y w')) (by kernel_rfl) (KC.out _ hd0) (fun hHeld => ?_)
          refine wpAnyH_take (i := 0) (v := ?_) (by simp only [List.getElem?_toArray, List.getElem?_cons_zero]; exact rfl) (by kernel_rfl) (by kernel_rfl) (by kernel_rfl) (by intro _ _ _ h; exact h) (Or.inl ⟨by rfl, fun W hSw => ?_⟩) hHeld ?_
          rotate_left
          focus ((try dsimp only at hSw); first | (go_simp; done) | (go_simp; with_reducible rfl))
          try simp only [Act.put, List.setIfInBounds_toArray, List.set_cons_zero, List.set_cons_succ]
          refine wpAnyH_take (i := 2) (v := ?_) (by simp only [List.getElem?_toArray, List.getElem?_cons_succ, List.getElem?_cons_zero]; exact rfl) (by kernel_rfl) (by kernel_rfl) (by kernel_rfl) (by intro _ _ _ h; exact h) (Or.inl ⟨by rfl, fun W hSw => ?_⟩) hHeld ?_
          rotate_left
          focus ((try dsimp only at hSw); first | (go_simp; done) | (go_simp; with_reducible rfl))
          try simp only [Act.put, List.setIfInBounds_toArray, List.set_cons_zero, List.set_cons_succ]
          refine wpAnyH_take (i := 3) (v := ?_) (by simp only [List.getElem?_toArray, List.getElem?_cons_succ, List.getElem?_cons_zero]; exact rfl) (by kernel_rfl) (by kernel_rfl) (by kernel_rfl) (by intro _ _ _ h; exact h) (Or.inl ⟨by rfl, fun W hSw => ?_⟩) hHeld ?_
          rotate_left
          focus ((try dsimp only at hSw); first | (go_simp; done) | (go_simp; with_reducible rfl))
          try simp only [Act.put, List.setIfInBounds_toArray, List.set_cons_zero, List.set_cons_succ]
          refine wpAnyH_ready (rs := [1]) (by kernel_rfl) (by simp) (AllReadyH.cons (by simp only [List.getElem?_toArray, List.getElem?_cons_succ, List.getElem?_cons_zero]; exact rfl) (fun K hK => ?_) AllReadyH.nil)
          rw [if_pos (by rfl)]
          go_simp
          (with_reducible refine (KLa.out aa ca _ (bt HB4.out hd0) (RA.out.below hd0)).mono ?_); rintro e v1 ⟨rfl, hv1⟩; have hd1 := bt hd0 hv1; go_wp2_with fail
          refine hK.out _ _ (KC.out _ hd1) (fun hHeld => ?_)
          clear hK K
          try simp only [Act.put, List.setIfInBounds_toArray, List.set_cons_zero, List.set_cons_succ]
          refine wpAnyH_ready (rs := [4]) (by kernel_rfl) (by simp) (AllReadyH.cons (by simp only [List.getElem?_toArray, List.getElem?_cons_succ, List.getElem?_cons_zero]; exact rfl) (fun K hK => ?_) AllReadyH.nil)
          rw [if_pos (by rfl)]
          go_simp
          (with_reducible refine (KO.out _).mono ?_); rintro e v2 ⟨rfl, rfl⟩; go_wp2_with fail
          refine hK.out _ _ (KC.out _ hd1) (fun hHeld => ?_)
          clear hK K
          try simp only [Act.put, List.setIfInBounds_toArray, List.set_cons_zero, List.set_cons_succ]
          refine wpAnyH_take (i := 5) (v := ?_) (by simp only [List.getElem?_toArray, List.getElem?_cons_succ, List.getElem?_cons_zero]; exact rfl) (by kernel_rfl) (by kernel_rfl) (by kernel_rfl) (by intro _ _ _ h; exact h) (Or.inl ⟨by rfl, fun W hSw => ?_⟩) hHeld ?_
          rotate_left
          focus ((try dsimp only at hSw); first | (go_simp; done) | (go_simp; with_reducible rfl))
          try simp only [Act.put, List.setIfInBounds_toArray, List.set_cons_zero, List.set_cons_succ]
          refine wpAnyH_take (i := 6) (v := ?_) (by simp only [List.getElem?_toArray, List.getElem?_cons_succ, List.getElem?_cons_zero]; exact rfl) (by kernel_rfl) (by kernel_rfl) (by kernel_rfl) (by intro _ _ _ h; exact h) (Or.inl ⟨by rfl, fun W hSw => ?_⟩) hHeld ?_
          rotate_left
          focus ((try dsimp only at hSw); first | (go_simp; done) | (go_simp; with_reducible rfl))
          try simp only [Act.put, List.setIfInBounds_toArray, List.set_cons_zero, List.set_cons_succ]
          refine wpAnyH_take (i := 7) (v := ?_) (by simp only [List.getElem?_toArray, List.getElem?_cons_succ, List.getElem?_cons_zero]; exact rfl) (by kernel_rfl) (by kernel_rfl) (by kernel_rfl) (by intro _ _ _ h; exact h) (Or.inl ⟨by rfl, fun W hSw => ?_⟩) hHeld ?_
          rotate_left
          focus ((try dsimp only at hSw); first | (go_simp; done) | (go_simp; with_reducible rfl))
          try simp only [Act.put, List.setIfInBounds_toArray, List.set_cons_zero, List.set_cons_succ]
          refine wpAnyH_take (i := 9) (v := ?_) (by simp only [List.getElem?_toArray, List.getElem?_cons_succ, List.getElem?_cons_zero]; exact rfl) (by kernel_rfl) (by kernel_rfl) (by kernel_rfl) (by intro _ _ _ h; exact h) (Or.inl ⟨by rfl, fun W hSw => ?_⟩) hHeld ?_
          rotate_left
          focus ((try dsimp only at hSw); first | (go_simp; done) | (go_simp; with_reducible rfl))
          try simp only [Act.put, List.setIfInBounds_toArray, List.set_cons_zero, List.set_cons_succ]
          refine wpAnyH_ready (rs := [8]) (by kernel_rfl) (by simp) (AllReadyH.cons (by simp only [List.getElem?_toArray, List.getElem?_cons_succ, List.getElem?_cons_zero]; exact rfl) (fun K hK => ?_) AllReadyH.nil)
          rw [if_pos (by rfl)]
          go_simp
          (with_reducible refine (KLb.out ab cb _ (bt HB4.out hd1) (RB.out.below hd1)).mono ?_); rintro e v3 ⟨rfl, hv3⟩; have hd2 := bt hd1 hv3; go_wp2_with fail
          refine hK.out _ _ (KC.out _ hd2) (fun hHeld => ?_)
          clear hK K
          try simp only [Act.put, List.setIfInBounds_toArray, List.set_cons_zero, List.set_cons_succ]
          refine wpAnyH_ready (rs := [10]) (by kernel_rfl) (by simp) (AllReadyH.cons (by simp only [List.getElem?_toArray, List.getElem?_cons_succ, List.getElem?_cons_zero]; exact rfl) (fun K hK => ?_) AllReadyH.nil)
          rw [if_pos (by rfl)]
          go_simp
          (with_reducible refine (KLa.out aa ca _ (bt HB4.out hd2) (RA.out.below hd2)).mono ?_); rintro e v4 ⟨rfl, hv4⟩; have hd3 := bt hd2 hv4; go_wp2_with fail
          refine hK.out _ _ (KC.out _ hd3) (fun hHeld => ?_)
          clear hK K
          try simp only [Act.put, List.setIfInBounds_toArray, List.set_cons_zero, List.set_cons_succ]
          refine wpAnyH_take (i := 11) (v := ?_) (by simp only [List.getElem?_toArray, List.getElem?_cons_succ, List.getElem?_cons_zero]; exact rfl) (by kernel_rfl) (by kernel_rfl) (by kernel_rfl) (by intro _ _ _ h; exact h) (Or.inl ⟨by rfl, fun W hSw => ?_⟩) hHeld ?_
          rotate_left
          focus ((try dsimp only at hSw); first | (go_simp; done) | (go_simp; with_reducible rfl))
          try simp only [Act.put, List.setIfInBounds_toArray, List.set_cons_zero, List.set_cons_succ]
          refine wpAnyH_take (i := 12) (v := ?_) (by simp only [List.getElem?_toArray, List.getElem?_cons_succ, List.getElem?_cons_zero]; exact rfl) (by kernel_rfl) (by kernel_rfl) (by kernel_rfl) (by intro _ _ _ h; exact h) (Or.inl ⟨by rfl, fun W hSw => ?_⟩) hHeld ?_
          rotate_left
          focus ((try dsimp only at hSw); first | (go_simp; done) | (go_simp; with_reducible rfl))
          try simp only [Act.put, List.setIfInBounds_toArray, List.set_cons_zero, List.set_cons_succ]
          refine wpAnyH_take (i := 13) (v := ?_) (by simp only [List.getElem?_toArray, List.getElem?_cons_succ, List.getElem?_cons_zero]; exact rfl) (by kernel_rfl) (by kernel_rfl) (by kernel_rfl) (by intro _ _ _ h; exact h) (Or.inl ⟨by rfl, fun W hSw => ?_⟩) hHeld ?_
          rotate_left
          focus ((try dsimp only at hSw); first | (go_simp; done) | (go_simp; with_reducible rfl))
          try simp only [Act.put, List.setIfInBounds_toArray, List.set_cons_zero, List.set_cons_succ]
          refine wpAnyH_take (i := 14) (v := ?_) (by simp only [List.getElem?_toArray, List.getElem?_cons_succ, List.getElem?_cons_zero]; exact rfl) (by kernel_rfl) (by kernel_rfl) (by kernel_rfl) (by intro _ _ _ h; exact h) (Or.inl ⟨by rfl, fun W hSw => ?_⟩) hHeld ?_
          rotate_left
          focus ((try dsimp only at hSw); first | (go_simp; done) | (go_simp; with_reducible rfl))
          try simp only [Act.put, List.setIfInBounds_toArray, List.set_cons_zero, List.set_cons_succ]
          refine wpAnyH_take (i := 16) (v := ?_) (by simp only [List.getElem?_toArray, List.getElem?_cons_succ, List.getElem?_cons_zero]; exact rfl) (by kernel_rfl) (by kernel_rfl) (by kernel_rfl) (by intro _ _ _ h; exact h) (Or.inl ⟨by rfl, fun W hSw => ?_⟩) hHeld ?_
          rotate_left
          focus ((try dsimp only at hSw); first | (go_simp; done) | (go_simp; with_reducible rfl))
          try simp only [Act.put, List.setIfInBounds_toArray, List.set_cons_zero, List.set_cons_succ]
          refine wpAnyH_ready (rs := [15]) (by kernel_rfl) (by simp) (AllReadyH.cons (by simp only [List.getElem?_toArray, List.getElem?_cons_succ, List.getElem?_cons_zero]; exact rfl) (fun K hK => ?_) AllReadyH.nil)
          rw [if_pos (by rfl)]
          go_simp
          (with_reducible refine (KLc.out ac cc _ (bt HB4.out hd3) (RC.out.below hd3)).mono ?_); rintro e v5 ⟨rfl, hv5⟩; have hd5 := bt hd3 hv5; go_wp2_with fail
          refine hK.out _ _ (KC.out _ hd5) (fun hHeld => ?_)
          clear hK K
          try simp only [Act.put, List.setIfInBounds_toArray, List.set_cons_zero, List.set_cons_succ]
          refine wpAnyH_ready (rs := [17]) (by kernel_rfl) (by simp) (AllReadyH.cons (by simp only [List.getElem?_toArray, List.getElem?_cons_succ, List.getElem?_cons_zero]; exact rfl) (fun K hK => ?_) AllReadyH.nil)
          rw [if_pos (by rfl)]
          go_simp
          (with_reducible refine (KLa.out aa ca _ (bt HB4.out hd5) (RA.out.below hd5)).mono ?_); rintro e v6 ⟨rfl, hv6⟩; have hd6 := bt hd5 hv6; go_wp2_with fail
          refine hK.out _ _ (KC.out _ hd6) (fun hHeld => ?_)
          clear hK K
          try simp only [Act.put, List.setIfInBounds_toArray, List.set_cons_zero, List.set_cons_succ]
          refine wpAnyH_take (i := 18) (v := ?_) (by simp only [List.getElem?_toArray, List.getElem?_cons_succ, List.getElem?_cons_zero]; exact rfl) (by kernel_rfl) (by kernel_rfl) (by kernel_rfl) (by intro _ _ _ h; exact h) (Or.inl ⟨by rfl, fun W hSw => ?_⟩) hHeld ?_
          rotate_left
          focus ((try dsimp only at hSw); first | (go_simp; done) | (go_simp; with_reducible rfl))
          try simp only [Act.put, List.setIfInBounds_toArray, List.set_cons_zero, List.set_cons_succ]
          refine wpAnyH_take (i := 19) (v := ?_) (by simp only [List.getElem?_toArray, List.getElem?_cons_succ, List.getElem?_cons_zero]; exact rfl) (by kernel_rfl) (by kernel_rfl) (by kernel_rfl) (by intro _ _ _ h; exact h) (Or.inl ⟨by rfl, fun W hSw => ?_⟩) hHeld ?_
          rotate_left
          focus ((try dsimp only at hSw); first | (go_simp; done) | (go_simp; with_reducible rfl))
          try simp only [Act.put, List.setIfInBounds_toArray, List.set_cons_zero, List.set_cons_succ]
          refine wpAnyH_done (by kernel_rfl) ?_ _
          clear hHeld KC
          go_upto_region 15 with (fail)
          have hk0 := hd6.drew
          have kc : ∀ w', Below Y.heap.size Y w' → w'.cell? ⟨w.heap.size, 0, none⟩ = some (.int .i64 st) ∧ w'.cell? ⟨w.heap.size, 1, none⟩ = some (.string re) ∧ w'.cell? ⟨w.heap.size, 2, none⟩ = some (.int .i64 mi) ∧ w'.cell? ⟨w.heap.size, 3, none⟩ = some (.slice A n c) ∧ w'.cell? ⟨w.heap.size, 4, none⟩ = some (.string bo) ∧ w'.cell? ⟨w.heap.size, 5, none⟩ = some (.int .i64 asked) ∧ w'.cell? ⟨w.heap.size, 6, none⟩ = some (.int .i64 got) ∧ w'.cell? ⟨w.heap.size, 7, none⟩ = some (.slice V m d) ∧ w'.cell? ⟨u1.heap.size, 0, none⟩ = some (.int .i64 st) ∧ w'.cell? ⟨u1.heap.size, 1, none⟩ = some (.string re) ∧ w'.cell? ⟨u1.heap.size, 2, none⟩ = some (.int .i64 mi) ∧ w'.cell? ⟨u1.heap.size, 3, none⟩ = some (.slice aa xa.length ca) ∧ w'.cell? ⟨u1.heap.size, 4, none⟩ = some (.string bo) ∧ w'.cell? ⟨u1.heap.size, 5, none⟩ = some (.int .i64 asked) ∧ w'.cell? ⟨u1.heap.size, 6, none⟩ = some (.int .i64 got) ∧ w'.cell? ⟨u1.heap.size, 7, none⟩ = some (.slice V m d) ∧ w'.cell? ⟨u4.heap.size, 0, none⟩ = some (.int .i64 st) ∧ w'.cell? ⟨u4.heap.size, 1, none⟩ = some (.string re) ∧ w'.cell? ⟨u4.heap.size, 2, none⟩ = some (.int .i64 mi) ∧ w'.cell? ⟨u4.heap.size, 3, none⟩ = some (.slice ad xd.length cd) ∧ w'.cell? ⟨u4.heap.size, 4, none⟩ = some (.string bo) ∧ w'.cell? ⟨u4.heap.size, 5, none⟩ = some (.int .i64 asked) ∧ w'.cell? ⟨u4.heap.size, 6, none⟩ = some (.int .i64 got) ∧ w'.cell? ⟨u4.heap.size, 7, none⟩ = some (.slice V m d) ∧ Below Y.heap.size Y w' := fun w' hb => by
            obtain ⟨eq0, eq1, eq2, eq3, eq4, eq5, eq6, eq7, _⟩ := (XE.out.below hb).cells
            obtain ⟨aq0, aq1, aq2, aq3, aq4, aq5, aq6, aq7, _⟩ := (Xa.out.below hb).cells
            obtain ⟨dq0, dq1, dq2, dq3, dq4, dq5, dq6, dq7, _⟩ := (Xd.out.below hb).cells
            exact ⟨eq0, eq1, eq2, eq3, eq4, eq5, eq6, eq7, aq0, aq1, aq2, aq3, aq4, aq5, aq6, aq7, dq0, dq1, dq2, dq3, dq4, dq5, dq6, dq7, hb⟩
          have KC := Lib.hid kc
          clear kc
          refine wp_region_held_drew (S := (fun w' => w'.cell? ⟨w.heap.size, 0, none⟩ = some (.int .i64 st) ∧ w'.cell? ⟨w.heap.size, 1, none⟩ = some (.string re) ∧ w'.cell? ⟨w.heap.size, 2, none⟩ = some (.int .i64 mi) ∧ w'.cell? ⟨w.heap.size, 3, none⟩ = some (.slice A n c) ∧ w'.cell? ⟨w.heap.size, 4, none⟩ = some (.string bo) ∧ w'.cell? ⟨w.heap.size, 5, none⟩ = some (.int .i64 asked) ∧ w'.cell? ⟨w.heap.size, 6, none⟩ = some (.int .i64 got) ∧ w'.cell? ⟨w.heap.size, 7, none⟩ = some (.slice V m d) ∧ w'.cell? ⟨u1.heap.size, 0, none⟩ = some (.int .i64 st) ∧ w'.cell? ⟨u1.heap.size, 1, none⟩ = some (.string re) ∧ w'.cell? ⟨u1.heap.size, 2, none⟩ = some (.int .i64 mi) ∧ w'.cell? ⟨u1.heap.size, 3, none⟩ = some (.slice aa xa.length ca) ∧ w'.cell? ⟨u1.heap.size, 4, none⟩ = some (.string bo) ∧ w'.cell? ⟨u1.heap.size, 5, none⟩ = some (.int .i64 asked) ∧ w'.cell? ⟨u1.heap.size, 6, none⟩ = some (.int .i64 got) ∧ w'.cell? ⟨u1.heap.size, 7, none⟩ = some (.slice V m d) ∧ w'.cell? ⟨u4.heap.size, 0, none⟩ = some (.int .i64 st) ∧ w'.cell? ⟨u4.heap.size, 1, none⟩ = some (.string re) ∧ w'.cell? ⟨u4.heap.size, 2, none⟩ = some (.int .i64 mi) ∧ w'.cell? ⟨u4.heap.size, 3, none⟩ = some (.slice ad xd.length cd) ∧ w'.cell? ⟨u4.heap.size, 4, none⟩ = some (.string bo) ∧ w'.cell? ⟨u4.heap.size, 5, none⟩ = some (.int .i64 asked) ∧ w'.cell? ⟨u4.heap.size, 6, none⟩ = some (.int .i64 got) ∧ w'.cell? ⟨u4.heap.size, 7, none⟩ = some (.slice V m d) ∧ Below Y.heap.size Y w')) (by kernel_rfl) (KC.out _ hk0) (fun hHeld => ?_)
          refine wpAnyH_take (i := 0) (v := ?_) (by simp only [List.getElem?_toArray, List.getElem?_cons_zero]; exact rfl) (by kernel_rfl) (by kernel_rfl) (by kernel_rfl) (by intro _ _ _ h; exact h) (Or.inl ⟨by rfl, fun W hSw => ?_⟩) hHeld ?_
          rotate_left
          focus ((try dsimp only at hSw); first | (go_simp; done) | (go_simp; with_reducible rfl))
          try simp only [Act.put, List.setIfInBounds_toArray, List.set_cons_zero, List.set_cons_succ]
          refine wpAnyH_take (i := 1) (v := ?_) (by simp only [List.getElem?_toArray, List.getElem?_cons_succ, List.getElem?_cons_zero]; exact rfl) (by kernel_rfl) (by kernel_rfl) (by kernel_rfl) (by intro _ _ _ h; exact h) (Or.inl ⟨by rfl, fun W hSw => ?_⟩) hHeld ?_
          rotate_left
          focus ((try dsimp only at hSw); first | (go_simp; done) | (go_simp; with_reducible rfl))
          try simp only [Act.put, List.setIfInBounds_toArray, List.set_cons_zero, List.set_cons_succ]
          refine wpAnyH_take (i := 2) (v := ?_) (by simp only [List.getElem?_toArray, List.getElem?_cons_succ, List.getElem?_cons_zero]; exact rfl) (by kernel_rfl) (by kernel_rfl) (by kernel_rfl) (by intro _ _ _ h; exact h) (Or.inl ⟨by rfl, fun W hSw => ?_⟩) hHeld ?_
          rotate_left
          focus ((try dsimp only at hSw); first | (go_simp; done) | (go_simp; with_reducible rfl))
          try simp only [Act.put, List.setIfInBounds_toArray, List.set_cons_zero, List.set_cons_succ]
          refine wpAnyH_take (i := 4) (v := ?_) (by simp only [List.getElem?_toArray, List.getElem?_cons_succ, List.getElem?_cons_zero]; exact rfl) (by kernel_rfl) (by kernel_rfl) (by kernel_rfl) (by intro _ _ _ h; exact h) (Or.inl ⟨by rfl, fun W hSw => ?_⟩) hHeld ?_
          rotate_left
          focus ((try dsimp only at hSw); first | (go_simp; done) | (go_simp; with_reducible rfl))
          try simp only [Act.put, List.setIfInBounds_toArray, List.set_cons_zero, List.set_cons_succ]
          refine wpAnyH_take (i := 5) (v := ?_) (by simp only [List.getElem?_toArray, List.getElem?_cons_succ, List.getElem?_cons_zero]; exact rfl) (by kernel_rfl) (by kernel_rfl) (by kernel_rfl) (by intro _ _ _ h; exact h) (Or.inl ⟨by rfl, fun W hSw => ?_⟩) hHeld ?_
          rotate_left
          focus ((try dsimp only at hSw); first | (go_simp; done) | (go_simp; with_reducible rfl))
          try simp only [Act.put, List.setIfInBounds_toArray, List.set_cons_zero, List.set_cons_succ]
          refine wpAnyH_take (i := 6) (v := ?_) (by simp only [List.getElem?_toArray, List.getElem?_cons_succ, List.getElem?_cons_zero]; exact rfl) (by kernel_rfl) (by kernel_rfl) (by kernel_rfl) (by intro _ _ _ h; exact h) (Or.inl ⟨by rfl, fun W hSw => ?_⟩) hHeld ?_
          rotate_left
          focus ((try dsimp only at hSw); first | (go_simp; done) | (go_simp; with_reducible rfl))
          try simp only [Act.put, List.setIfInBounds_toArray, List.set_cons_zero, List.set_cons_succ]
          refine wpAnyH_ready (rs := [3]) (by kernel_rfl) (by simp) (AllReadyH.cons (by simp only [List.getElem?_toArray, List.getElem?_cons_succ, List.getElem?_cons_zero]; exact rfl) (fun K hK => ?_) AllReadyH.nil)
          rw [if_pos (by rfl)]
          go_simp
          (with_reducible refine (KGa.out aa ca _ (bt HB4.out hk0) (RA.out.below hk0)).mono ?_); rintro e x1 ⟨rfl, hx1⟩; have hk1 := bt hk0 hx1; go_wp2_with fail
          refine hK.out _ _ (KC.out _ hk1) (fun hHeld => ?_)
          clear hK K
          try simp only [Act.put, List.setIfInBounds_toArray, List.set_cons_zero, List.set_cons_succ]
          refine wpAnyH_ready (rs := [7]) (by kernel_rfl) (by simp) (AllReadyH.cons (by simp only [List.getElem?_toArray, List.getElem?_cons_succ, List.getElem?_cons_zero]; exact rfl) (fun K hK => ?_) AllReadyH.nil)
          rw [if_pos (by rfl)]
          go_simp
          (with_reducible refine (KGe.out _ (bt HB4.out hk1) (HR.out.below (bt HB4.out hk1))).mono ?_); rintro e x2 ⟨rfl, hx2⟩; have hk2 := bt hk1 hx2; go_wp2_with fail
          refine hK.out _ _ (KC.out _ hk2) (fun hHeld => ?_)
          clear hK K
          try simp only [Act.put, List.setIfInBounds_toArray, List.set_cons_zero, List.set_cons_succ]
          refine wpAnyH_take (i := 8) (v := ?_) (by simp only [List.getElem?_toArray, List.getElem?_cons_succ, List.getElem?_cons_zero]; exact rfl) (by kernel_rfl) (by kernel_rfl) (by kernel_rfl) (by intro _ _ _ h; exact h) (Or.inl ⟨by rfl, fun W hSw => ?_⟩) hHeld ?_
          rotate_left
          focus ((try dsimp only at hSw); first | (go_simp; done) | (go_simp; with_reducible rfl))
          try simp only [Act.put, List.setIfInBounds_toArray, List.set_cons_zero, List.set_cons_succ]
          refine wpAnyH_take (i := 9) (v := ?_) (by simp only [List.getElem?_toArray, List.getElem?_cons_succ, List.getElem?_cons_zero]; exact rfl) (by kernel_rfl) (by kernel_rfl) (by kernel_rfl) (by intro _ _ _ h; exact h) (Or.inl ⟨by rfl, fun W hSw => ?_⟩) hHeld ?_
          rotate_left
          focus ((try dsimp only at hSw); first | (go_simp; done) | (go_simp; with_reducible rfl))
          try simp only [Act.put, List.setIfInBounds_toArray, List.set_cons_zero, List.set_cons_succ]
          refine wpAnyH_take (i := 10) (v := ?_) (by simp only [List.getElem?_toArray, List.getElem?_cons_succ, List.getElem?_cons_zero]; exact rfl) (by kernel_rfl) (by kernel_rfl) (by kernel_rfl) (by intro _ _ _ h; exact h) (Or.inl ⟨by rfl, fun W hSw => ?_⟩) hHeld ?_
          rotate_left
          focus ((try dsimp only at hSw); first | (go_simp; done) | (go_simp; with_reducible rfl))
          try simp only [Act.put, List.setIfInBounds_toArray, List.set_cons_zero, List.set_cons_succ]
          refine wpAnyH_take (i := 11) (v := ?_) (by simp only [List.getElem?_toArray, List.getElem?_cons_succ, List.getElem?_cons_zero]; exact rfl) (by kernel_rfl) (by kernel_rfl) (by kernel_rfl) (by intro _ _ _ h; exact h) (Or.inl ⟨by rfl, fun W hSw => ?_⟩) hHeld ?_
          rotate_left
          focus ((try dsimp only at hSw); first | (go_simp; done) | (go_simp; with_reducible rfl))
          try simp only [Act.put, List.setIfInBounds_toArray, List.set_cons_zero, List.set_cons_succ]
          refine wpAnyH_take (i := 12) (v := ?_) (by simp only [List.getElem?_toArray, List.getElem?_cons_succ, List.getElem?_cons_zero]; exact rfl) (by kernel_rfl) (by kernel_rfl) (by kernel_rfl) (by intro _ _ _ h; exact h) (Or.inl ⟨by rfl, fun W hSw => ?_⟩) hHeld ?_
          rotate_left
          focus ((try dsimp only at hSw); first | (go_simp; done) | (go_simp; with_reducible rfl))
          try simp only [Act.put, List.setIfInBounds_toArray, List.set_cons_zero, List.set_cons_succ]
          refine wpAnyH_take (i := 14) (v := ?_) (by simp only [List.getElem?_toArray, List.getElem?_cons_succ, List.getElem?_cons_zero]; exact rfl) (by kernel_rfl) (by kernel_rfl) (by kernel_rfl) (by intro _ _ _ h; exact h) (Or.inl ⟨by rfl, fun W hSw => ?_⟩) hHeld ?_
          rotate_left
          focus ((try dsimp only at hSw); first | (go_simp; done) | (go_simp; with_reducible rfl))
          try simp only [Act.put, List.setIfInBounds_toArray, List.set_cons_zero, List.set_cons_succ]
          refine wpAnyH_take (i := 15) (v := ?_) (by simp only [List.getElem?_toArray, List.getElem?_cons_succ, List.getElem?_cons_zero]; exact rfl) (by kernel_rfl) (by kernel_rfl) (by kernel_rfl) (by intro _ _ _ h; exact h) (Or.inl ⟨by rfl, fun W hSw => ?_⟩) hHeld ?_
          rotate_left
          focus ((try dsimp only at hSw); first | (go_simp; done) | (go_simp; with_reducible rfl))
          try simp only [Act.put, List.setIfInBounds_toArray, List.set_cons_zero, List.set_cons_succ]
          refine wpAnyH_take (i := 16) (v := ?_) (by simp only [List.getElem?_toArray, List.getElem?_cons_succ, List.getElem?_cons_zero]; exact rfl) (by kernel_rfl) (by kernel_rfl) (by kernel_rfl) (by intro _ _ _ h; exact h) (Or.inl ⟨by rfl, fun W hSw => ?_⟩) hHeld ?_
          rotate_left
          focus ((try dsimp only at hSw); first | (go_simp; done) | (go_simp; with_reducible rfl))
          try simp only [Act.put, List.setIfInBounds_toArray, List.set_cons_zero, List.set_cons_succ]
          refine wpAnyH_ready (rs := [13]) (by kernel_rfl) (by simp) (AllReadyH.cons (by simp only [List.getElem?_toArray, List.getElem?_cons_succ, List.getElem?_cons_zero]; exact rfl) (fun K hK => ?_) AllReadyH.nil)
          rw [if_pos (by rfl)]
          go_simp
          (with_reducible refine (KGd.out ad cd _ (bt HB4.out hk2) (RD.out.below hk2)).mono ?_); rintro e x3 ⟨rfl, hx3⟩; have hk3 := bt hk2 hx3; go_wp2_with fail
          refine hK.out _ _ (KC.out _ hk3) (fun hHeld => ?_)
          clear hK K
          try simp only [Act.put, List.setIfInBounds_toArray, List.set_cons_zero, List.set_cons_succ]
          refine wpAnyH_ready (rs := [17]) (by kernel_rfl) (by simp) (AllReadyH.cons (by simp only [List.getElem?_toArray, List.getElem?_cons_succ, List.getElem?_cons_zero]; exact rfl) (fun K hK => ?_) AllReadyH.nil)
          rw [if_pos (by rfl)]
          go_simp
          (with_reducible refine (KGe.out _ (bt HB4.out hk3) (HR.out.below (bt HB4.out hk3))).mono ?_); rintro e x4 ⟨rfl, hx4⟩; have hk4 := bt hk3 hx4; go_wp2_with fail
          refine hK.out _ _ (KC.out _ hk4) (fun hHeld => ?_)
          clear hK K
          try simp only [Act.put, List.setIfInBounds_toArray, List.set_cons_zero, List.set_cons_succ]
          refine wpAnyH_take (i := 18) (v := ?_) (by simp only [List.getElem?_toArray, List.getElem?_cons_succ, List.getElem?_cons_zero]; exact rfl) (by kernel_rfl) (by kernel_rfl) (by kernel_rfl) (by intro _ _ _ h; exact h) (Or.inl ⟨by rfl, fun W hSw => ?_⟩) hHeld ?_
          rotate_left
          focus ((try dsimp only at hSw); first | (go_simp; done) | (go_simp; with_reducible rfl))
          try simp only [Act.put, List.setIfInBounds_toArray, List.set_cons_zero, List.set_cons_succ]
          refine wpAnyH_take (i := 19) (v := ?_) (by simp only [List.getElem?_toArray, List.getElem?_cons_succ, List.getElem?_cons_zero]; exact rfl) (by kernel_rfl) (by kernel_rfl) (by kernel_rfl) (by intro _ _ _ h; exact h) (Or.inl ⟨by rfl, fun W hSw => ?_⟩) hHeld ?_
          rotate_left
          focus ((try dsimp only at hSw); first | (go_simp; done) | (go_simp; with_reducible rfl))
          try simp only [Act.put, List.setIfInBounds_toArray, List.set_cons_zero, List.set_cons_succ]
          refine wpAnyH_take (i := 20) (v := ?_) (by simp only [List.getElem?_toArray, List.getElem?_cons_succ, List.getElem?_cons_zero]; exact rfl) (by kernel_rfl) (by kernel_rfl) (by kernel_rfl) (by intro _ _ _ h; exact h) (Or.inl ⟨by rfl, fun W hSw => ?_⟩) hHeld ?_
          rotate_left
          focus ((try dsimp only at hSw); first | (go_simp; done) | (go_simp; with_reducible rfl))
          try simp only [Act.put, List.setIfInBounds_toArray, List.set_cons_zero, List.set_cons_succ]
          refine wpAnyH_ready (rs := [21]) (by kernel_rfl) (by simp) (AllReadyH.cons (by simp only [List.getElem?_toArray, List.getElem?_cons_succ, List.getElem?_cons_zero]; exact rfl) (fun K hK => ?_) AllReadyH.nil)
          rw [if_pos (by rfl)]
          go_simp
          (with_reducible refine (hHA.out _ (bt HB4.out hk4)).mono ?_); rintro e x5 ⟨rfl, hx5⟩; have hk6 := bt hk4 hx5; go_wp2_with fail
          refine hK.out _ _ (KC.out _ hk6) (fun hHeld => ?_)
          clear hK K
          try simp only [Act.put, List.setIfInBounds_toArray, List.set_cons_zero, List.set_cons_succ]
          refine wpAnyH_take (i := 22) (v := ?_) (by simp only [List.getElem?_toArray, List.getElem?_cons_succ, List.getElem?_cons_zero]; exact rfl) (by kernel_rfl) (by kernel_rfl) (by kernel_rfl) (by intro _ _ _ h; exact h) (Or.inl ⟨by rfl, fun W hSw => ?_⟩) hHeld ?_
          rotate_left
          focus ((try dsimp only at hSw); first | (go_simp; done) | (go_simp; with_reducible rfl))
          try simp only [Act.put, List.setIfInBounds_toArray, List.set_cons_zero, List.set_cons_succ]
          refine wpAnyH_take (i := 23) (v := ?_) (by simp only [List.getElem?_toArray, List.getElem?_cons_succ, List.getElem?_cons_zero]; exact rfl) (by kernel_rfl) (by kernel_rfl) (by kernel_rfl) (by intro _ _ _ h; exact h) (Or.inl ⟨by rfl, fun W hSw => ?_⟩) hHeld ?_
          rotate_left
          focus ((try dsimp only at hSw); first | (go_simp; done) | (go_simp; with_reducible rfl))
          try simp only [Act.put, List.setIfInBounds_toArray, List.set_cons_zero, List.set_cons_succ]
          refine wpAnyH_done (by kernel_rfl) ?_ _
          clear hHeld KC
          go_wp2
          go_ret
          exact ⟨rfl, bt HB4.out hk6⟩
end Go.Proofs.YtgmmjhcklhajiaaGreatDoor
/- What the listed tables give the walks: strconv's table of powers. -/
namespace Go.Proofs.YtgmmjhcklhajiaaGreatDoor
open Go.RowKit

theorem tabW_of {W : World} {l : List (String × DataW Unit)} (hp : (l.all fun x => x.2.handleName?.isNone) = true) (hm : ("internal/strconv.uint64pow10", Lib.tabData .u64 Lib.pow10Tab) ∈ l) (h : laidMetH Tryz.prog l W) : TabW W := by
  rw [MakeChecks.laidMetH_plain _ _ _ hp] at h
  exact tab_of_reads (g := 2) (by kernel_rfl) (by kernel_rfl) Tryz.underlying244 Tryz.underlying38 (by kernel_rfl) (by kernel_rfl) (Lib.laidMet.reads h hm)
end Go.Proofs.YtgmmjhcklhajiaaGreatDoor
/- FreshAhead: the law as it is handed in. -/
namespace Go.Proofs.YtgmmjhcklhajiaaGreatDoor
open Go.RowKit Go.ChangeShapes Go.WideShapes
set_option maxRecDepth 100000

theorem freshAhead_law {H : Type} {enc : TypeId × Value → H} {W : World} {base0 base2 : Nat}
    (v0 : Value) (hv0 : Value.okWide Tryz.prog W .any base0 26 v0) {d0 : DataW H} {p0 : List MemPlace} (h0 : DataW.Trod enc Tryz.prog W 0 (fun _ => true) true 26 v0 d0 p0) (hr0 : Reach 26 d0) (ag : Int)
    (v2 : Value) (hv2 : Value.okWide Tryz.prog W .any base2 57 v2) {d2 : DataW H} {p2 : List MemPlace} (h2 : DataW.Trod enc Tryz.prog W 0 (fun _ => true) true 57 v2 d2 p2) (hr2 : Reach 57 d2) (wg2 : (Lit.int .u32 ag).wf = true)
    (w : World) (hw : w = W) (hE : DEnv W) (hT : TabW W) :
    Calls Tryz.prog 11 #[v0, .int .u32 ag, v2] w fun e w' => e = .returned (.bool true) ∧ Below w.heap.size w w' := by
  subst hw
  obtain ⟨st, re, mi, A, n, c, bo, xs, asd, gt, va, vn, vc, es, rfl, ⟨hR, hn, hl, _, _⟩, wa, wg, _⟩ := open_entry hv0 h0 hr0
  obtain ⟨N, nn, nc, vs, rfl, hV, _, _⟩ := open_texts_v hv2 h2 hr2
  have hwf : ∀ z : Int, (Lit.int .i64 z).wf = true → -9223372036854775808 ≤ z ∧ z ≤ 9223372036854775807 := by
    intro z hz
    have e1 : IntKind.i64.min = -9223372036854775808 := by decide
    have e2 : IntKind.i64.max = 9223372036854775807 := by decide
    simp [Lit.wf] at hz
    omega
  have hag : 0 ≤ ag ∧ ag < 4294967296 := by
    have e1 : IntKind.u32.min = 0 := by decide
    have e2 : IntKind.u32.max = 4294967295 := by decide
    simp [Lit.wf] at wg2
    omega
  exact freshAhead_any st mi asd gt ag re bo A va N n c vn vc nn nc xs vs w hE hT hR hV (fun f hf => by have := hl f hf; unfold reachBytes at this; omega) (hwf _ wa) (hwf _ wg) hag
end Go.Proofs.YtgmmjhcklhajiaaGreatDoor
