/- The walks of the document's Select, Matches (layer 15). -/
import Derived.Test.YtdlajobnnnmojaaDoorVarySel
import Derived.Test.YtdlajobnnnmojaaDoorRVaryValue
import Derived.Test.YtdlajobnnnmojaaDoorOwnF
import Derived.Deep.RegionHeld3
namespace Go.Proofs.YtdlajobnnnmojaaDoor
open Go.RowKit

set_option maxRecDepth 100000 in
set_option maxHeartbeats 2000000 in
theorem rselect_any (N : Option Addr) (nn nc : Nat) (names : List (List UInt8)) (A : Option Addr) (n c : Nat) (xs : List Fld) (w : World) (hN : Rd N nn 1 (strsV names) w) (hnn : nn ≤ 1000) (hnl : ∀ x ∈ names, x.length ≤ 1000000)
    (hr : Rd A n 2 (fldsV xs) w) (hn : n ≤ 1000) (hs : ∀ f ∈ xs, f.1.length ≤ 1000000 ∧ f.2.length ≤ 1000000) :
    Calls Tryd.prog 15 #[.slice N nn nc, .slice A n c] w (FieldsPost w (selectL names xs)) := by
  obtain rfl := hN.str
  have hB := Below.refl w.heap.size w
  have k1 : ∀ (w' : World) (nm : List UInt8), Below w.heap.size w w' → nm.length ≤ 1000000 → Calls Tryd.prog 34 #[.slice A n c, .string ⟨nm.toArray⟩] w' fun e w2 => e = .returned (.string ⟨(valueL xs nm).toArray⟩) ∧ Below w'.heap.size w' w2 :=
    fun w' nm hb hl => rvvalue_any A n c xs ⟨nm.toArray⟩ w' (hr.below hb) hn hs (by rw [Lib.size_eq]; exact hl)
  have K1 := Lib.hid k1; have HN := Lib.hid hN; have HL := Lib.hid hnl
  clear k1 hr hs hN hnl
  go_enter Tryd.func15, Tryd.ntmps15
  go_wp2
  go_loopw [6, 5] (fun i out wr => ∃ k : Nat, k ≤ names.length ∧ i = .int .i64 k ∧ Hid (OwnF w.heap.size out (selectL (names.take k) xs) wr) ∧ Below w.heap.size w wr) (fun i _ _ => names.length - (intOf i).toNat)
  case atStart => exact ⟨0, Nat.zero_le _, rfl, Lib.hid (OwnF.nil _ _), hB⟩
  case round =>
    clear hB
    obtain ⟨k, hk, rfl, HO, hbw⟩ := hrel
    by_cases hlt : k < names.length
    · obtain ⟨b, o, rfl, hl, c0⟩ := HN.out.str_at (k := k) hlt
      have hv := HL.out names[k] (List.getElem_mem _)
      have hsn : selectL (names.take (k + 1)) xs = selectL (names.take k) xs ++ [(names[k], valueL xs names[k])] := by rw [take_snocL names k hlt]; unfold selectL; rw [List.map_append]; rfl
      have hlen : (selectL (names.take k) xs).length ≤ 1000000000 := by unfold selectL; rw [List.length_map, List.length_take]; omega
      generalize names[k] = nm at *
      have Hsn := Lib.hid hsn; clear hsn
      have kc : ∀ w', Below w.heap.size w w' → w'.cell? ⟨b, o + k, none⟩ = some (.string ⟨nm.toArray⟩) ∧ Below w.heap.size w w' := fun w' h => ⟨(h.cell (p := ⟨b, o + k, none⟩) hl).trans c0, h⟩
      have KC := Lib.hid kc; clear kc c0
      have e2 := HO.out
      have E2 := Lib.hid e2
      clear e2 HO
      go_wp2_with fail
      go_region_held3 (fun w' => w'.cell? ⟨b, o + k, none⟩ = some (.string ⟨nm.toArray⟩) ∧ Below w.heap.size w w') (first | exact KC.out _ hbw | exact KC.out _ hbw.drew | exact KC.out _ d2 | exact KC.out _ d2.drew | exact KC.out _ (d2.alloc d2.size _) | exact KC.out _ hb5 | assumption) (first | (go_at_call 34; obtain ⟨g1, g2⟩ := ‹_ ∧ Below w.heap.size w _›; refine (K1.out _ nm g2 hv).mono ?_; rintro e w2 ⟨rfl, hb2⟩; have d2 := g2.trans (hb2.mono g2.size); have d3 := Lib.hid (E2.out.drew.below hb2)) | (refine step_fld w.heap.size (nm, valueL xs nm) d3.out d2.size hlen rfl _ _ rfl rfl rfl ?_; intro v' w3 hO3 hb4 _; have hb5 := d2.trans hb4) | fail)
      have HO3 : Hid (OwnF w.heap.size v' (selectL (names.take (k + 1)) xs) w3) := by rw [Hsn.out]; exact Lib.hid hO3
      clear hO3
      go_wp2
      go_roundw
      case rel => exact ⟨k + 1, by omega, by go_num, HO3, hb5⟩
      case measure => simp [intOf]; omega
    · have hke : k = names.length := by omega
      subst hke
      have ho := HO.out
      rw [List.take_length] at ho
      obtain ⟨la, lc, rfl⟩ := ho.shape
      have HO1 := Lib.hid ho; clear ho HO
      go_wp2
      go_ret
      exact ⟨la, lc, rfl, HO1.out, hbw⟩

set_option maxRecDepth 100000 in
set_option maxHeartbeats 4000000 in
theorem rmatches_any (st : Int) (re : ByteArray) (mi : Int) (fa : Option Addr) (fn fc : Nat) (bo : ByteArray) (asd gt : Int) (va : Option Addr) (vn vc : Nat) (es : List Fld) (A : Option Addr) (n c : Nat) (xs : List Fld) (w : World)
    (hE : Rd va vn 2 (fldsV es) w) (hvn : vn ≤ 1000) (hel : ∀ f ∈ es, f.1.length ≤ 1000000)
    (hr : Rd A n 2 (fldsV xs) w) (hn : n ≤ 1000) (hs : ∀ f ∈ xs, f.1.length ≤ 1000000 ∧ f.2.length ≤ 1000000) :
    Calls Tryd.prog 17 #[entV st re mi fa fn fc bo asd gt va vn vc, .slice A n c] w fun e w' => e = .returned (.bool (matchesL es xs)) ∧ Below w.heap.size w w' := by
  obtain rfl := hE.fld
  obtain ⟨W0, hW0⟩ : ∃ W0, w.alloc (.cells #[.int .i64 st, .string re, .int .i64 mi, .slice fa fn fc, .string bo, .int .i64 asd, .int .i64 gt, .slice va es.length vc] 33) = W0 := ⟨_, rfl⟩
  have hB : Below w.heap.size w W0 := by rw [← hW0]; exact (Below.refl w.heap.size w).alloc (Nat.le_refl _) _
  have hV0 : W0.cell? ⟨w.heap.size, 7, none⟩ = some (.slice va es.length vc) := by rw [← hW0]; exact World.cell?_alloc_mark w _ _ _ 7
  have hz0 : w.heap.size < W0.heap.size := by rw [← hW0]; simp
  have k1 : ∀ (w' : World) (nm : List UInt8), Below w.heap.size w w' → nm.length ≤ 1000000 → Calls Tryd.prog 34 #[.slice A n c, .string ⟨nm.toArray⟩] w' fun e w2 => e = .returned (.string ⟨(valueL xs nm).toArray⟩) ∧ Below w'.heap.size w' w2 :=
    fun w' nm hb hl => rvvalue_any A n c xs ⟨nm.toArray⟩ w' (hr.below hb) hn hs (by rw [Lib.size_eq]; exact hl)
  have hY : ∀ k (h : k < es.length), (valueL xs (es[k]).1 == (es[k]).2) = false → matchesL es xs = false := by
    intro k h hk
    unfold matchesL
    rw [List.all_eq_false]
    exact ⟨es[k], List.getElem_mem _, by simp [hk]⟩
  have hZ : (∀ k (h : k < es.length), (valueL xs (es[k]).1 == (es[k]).2) = true) → matchesL es xs = true := by
    intro h
    unfold matchesL
    rw [List.all_eq_true]
    intro f hf
    obtain ⟨k, hk, e⟩ := List.mem_iff_getElem.1 hf
    rw [← e]; exact h k hk
  have K1 := Lib.hid k1; have HE := Lib.hid hE; have HL := Lib.hid hel; have HY := Lib.hid hY; have HZ := Lib.hid hZ; have HW0 := Lib.hid hW0
  clear k1 hr hs hE hel hY hZ hW0
  generalize matchesL es xs = out at *
  unfold entV
  go_enter Tryd.func17, Tryd.ntmps17
  go_upto_region 1 with (fail)
  rw [HW0.out]
  go_wp2
  go_loopw [5] (fun i wr => ∃ k : Nat, k ≤ es.length ∧ i = .int .i64 k ∧ Hid (∀ j (h : j < es.length), j < k → (valueL xs (es[j]).1 == (es[j]).2) = true) ∧ wr.cell? ⟨w.heap.size, 7, none⟩ = some (.slice va es.length vc) ∧ w.heap.size < wr.heap.size ∧ Below w.heap.size w wr) (fun i _ => es.length - (intOf i).toNat)
  case atStart => exact ⟨0, Nat.zero_le _, rfl, Lib.hid (fun j h hj => absurd hj (by omega)), hV0, hz0, hB⟩
  case round =>
    clear hB hV0
    obtain ⟨k, hk, rfl, HA, hV, hz1, hbw⟩ := hrel
    by_cases hlt : k < es.length
    · obtain ⟨b, o, rfl, hl, c1, c2⟩ := HE.out.fld_at (k := k) hlt
      have hv := HL.out es[k] (List.getElem_mem _)
      have hy := HY.out k hlt
      have hz : (valueL xs (es[k]).1 == (es[k]).2) = true → Hid (∀ j (h : j < es.length), j < k + 1 → (valueL xs (es[j]).1 == (es[j]).2) = true) := by
        intro e
        refine Lib.hid fun j h hj => ?_
        by_cases hjk : j = k
        · subst hjk; exact e
        · exact HA.out j h (by omega)
      generalize es[k] = f at *
      obtain ⟨f1, f2⟩ := f
      simp only at c1 c2 hv hy hz
      have kc : ∀ w', Below w.heap.size w w' → w'.cell? ⟨b, o + k * 2, none⟩ = some (.string ⟨f1.toArray⟩) ∧ w'.cell? ⟨b, o + k * 2 + 1, none⟩ = some (.string ⟨f2.toArray⟩) := fun w' h => ⟨(h.cell (p := ⟨b, o + k * 2, none⟩) hl).trans c1, (h.cell (p := ⟨b, o + k * 2 + 1, none⟩) hl).trans c2⟩
      have Hy := Lib.hid hy; have Hz := Lib.hid hz; have KC := Lib.hid kc; clear hy hz HA kc c1 c2
      go_wp2_with fail
      cases hq : (valueL xs f1 == f2)
      · have hf := Hy.out hq
        have Hf := Lib.hid hf
        have q2 : (!valueL xs f1 == f2) = true := by rw [hq]; rfl
        clear hf
        go_region_held3 (fun w' => w'.cell? ⟨w.heap.size, 7, none⟩ = some (.slice (some ⟨b, o, none⟩) es.length vc) ∧ w'.cell? ⟨b, o + k * 2, none⟩ = some (.string ⟨f1.toArray⟩) ∧ w'.cell? ⟨b, o + k * 2 + 1, none⟩ = some (.string ⟨f2.toArray⟩) ∧ Below w.heap.size w w' ∧ w.heap.size < w'.heap.size) (first | exact ⟨hV, (KC.out _ hbw).1, (KC.out _ hbw).2, hbw, hz1⟩ | exact ⟨hV, (KC.out _ hbw).1, (KC.out _ hbw).2, hbw.drew, hz1⟩ | exact ⟨d1, (KC.out _ d3).1, (KC.out _ d3).2, d3, d4⟩ | exact ⟨d1, (KC.out _ d3).1, (KC.out _ d3).2, d3.drew, d4⟩) (first | (go_at_call 34; obtain ⟨g1, _, _, g3, g4⟩ := ‹_ ∧ _ ∧ _ ∧ Below w.heap.size w _ ∧ _ < _›; refine (K1.out _ f1 g3 hv).mono ?_; rintro e w2 ⟨rfl, hb2⟩; have d1 := (hb2.cell (p := ⟨w.heap.size, 7, none⟩) g4).trans g1; have d3 := g3.trans (hb2.mono g3.size); have d4 := Nat.lt_of_lt_of_le g4 hb2.size))
        obtain ⟨g1, _, _, g3, g4⟩ := ‹_ ∧ _ ∧ _ ∧ Below w.heap.size w _ ∧ _ < _›
        go_wp2
        go_ret
        rw [Hf.out]
        exact ⟨rfl, g3⟩
      · have hz := Hz.out hq
        have q2 : (!valueL xs f1 == f2) = false := by rw [hq]; rfl
        go_region_held3 (fun w' => w'.cell? ⟨w.heap.size, 7, none⟩ = some (.slice (some ⟨b, o, none⟩) es.length vc) ∧ w'.cell? ⟨b, o + k * 2, none⟩ = some (.string ⟨f1.toArray⟩) ∧ w'.cell? ⟨b, o + k * 2 + 1, none⟩ = some (.string ⟨f2.toArray⟩) ∧ Below w.heap.size w w' ∧ w.heap.size < w'.heap.size) (first | exact ⟨hV, (KC.out _ hbw).1, (KC.out _ hbw).2, hbw, hz1⟩ | exact ⟨hV, (KC.out _ hbw).1, (KC.out _ hbw).2, hbw.drew, hz1⟩ | exact ⟨d1, (KC.out _ d3).1, (KC.out _ d3).2, d3, d4⟩ | exact ⟨d1, (KC.out _ d3).1, (KC.out _ d3).2, d3.drew, d4⟩) (first | (go_at_call 34; obtain ⟨g1, _, _, g3, g4⟩ := ‹_ ∧ _ ∧ _ ∧ Below w.heap.size w _ ∧ _ < _›; refine (K1.out _ f1 g3 hv).mono ?_; rintro e w2 ⟨rfl, hb2⟩; have d1 := (hb2.cell (p := ⟨w.heap.size, 7, none⟩) g4).trans g1; have d3 := g3.trans (hb2.mono g3.size); have d4 := Nat.lt_of_lt_of_le g4 hb2.size))
        obtain ⟨g1, _, _, g3, g4⟩ := ‹_ ∧ _ ∧ _ ∧ Below w.heap.size w _ ∧ _ < _›
        go_wp2
        go_roundw
        case rel => exact ⟨k + 1, by omega, by go_num, hz, g1, g4, g3⟩
        case measure => simp [intOf]; omega
    · have hf := HZ.out (fun j h => HA.out j h (by omega))
      have Hf := Lib.hid hf
      clear hf
      go_wp2
      go_ret
      rw [Hf.out]
      exact ⟨rfl, hbw⟩
end Go.Proofs.YtdlajobnnnmojaaDoor
