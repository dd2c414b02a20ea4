/- The document's Set (layer 4). -/
import Derived.Test.YthppcaoldobocaaDoorSet04
namespace Go.Proofs.YthppcaoldobocaaDoor
open Go.RowKit
set_option maxRecDepth 100000

theorem setP_take (nm v : List UInt8) (xs : List Fld) (k : Nat) (h : k < xs.length) : setP nm v false (xs.take (k + 1)) = setP nm v false (xs.take k) ++ (bif sameN nm xs[k] then (bif (xs.take k).any (sameN nm) then [] else [(xs[k].1, v)]) else [xs[k]]) := by
  rw [List.take_succ_eq_append_getElem h, setP_snoc, Bool.false_or]
theorem any_take (nm : List UInt8) (xs : List Fld) (k : Nat) (h : k < xs.length) : (xs.take (k + 1)).any (sameN nm) = ((xs.take k).any (sameN nm) || sameN nm xs[k]) := by
  rw [List.take_succ_eq_append_getElem h, List.any_append]; simp

set_option maxHeartbeats 8000000 in
theorem rset_any (A : Option Addr) (n c : Nat) (xs : List Fld) (nm vl : List UInt8) (w : World) (hr : Rd A n 2 (fldsV xs) w) (hn : n ≤ 1000000) (hs : ∀ f ∈ xs, f.1.length ≤ 1000000) (hnm : nm.length ≤ 1000000) :
    Calls Tryd.prog 27 #[.slice A n c, .string ⟨nm.toArray⟩, .string ⟨vl.toArray⟩] w (FieldsPost w (setL xs nm vl)) := by
  obtain rfl := hr.fld
  have hB := Below.refl w.heap.size w
  have htk := setP_take nm vl xs
  have hta := any_take nm xs
  have hlen : ∀ k, (setP nm vl false (xs.take k)).length ≤ 1000000 := by
    intro k; have h1 := setP_le nm vl false (xs.take k); rw [List.length_take] at h1; omega
  have hfin : setL xs nm vl = setP nm vl false (xs.take xs.length) ++ (bif (xs.take xs.length).any (sameN nm) then [] else [(nm, vl)]) := by rw [List.take_length]; rfl
  have k2 := fun w => rlower_any ⟨nm.toArray⟩ w (by rw [Lib.size_eq]; exact hnm)
  simp only at k2
  have HR := Lib.hid hr; have HS := Lib.hid hs; have HTK := Lib.hid htk; have HTA := Lib.hid hta; have HLEN := Lib.hid hlen; have HFIN := Lib.hid hfin; have K2 := Lib.hid k2
  clear hr hs htk hta hlen hfin k2
  generalize setL xs nm vl = tot at *
  go_enter Tryd.func27, Tryd.ntmps27
  go_wp2
  go_loopw [9, 7, 8] (fun i out th wr => ∃ k : Nat, k ≤ xs.length ∧ i = .int .i64 k ∧ Hid (OwnF w.heap.size out (setP nm vl false (xs.take k)) wr) ∧ th = .bool ((xs.take k).any (sameN nm)) ∧ Below w.heap.size w wr) (fun i _ _ _ => xs.length - (intOf i).toNat)
  case atStart => exact ⟨0, Nat.zero_le _, rfl, Lib.hid (OwnF.nil _ _), rfl, hB⟩
  case round =>
    clear hB
    obtain ⟨k, hk, rfl, HO, rfl, hbw⟩ := hrel
    obtain ⟨oa, oc, rfl⟩ := HO.out.shape
    have hle := HLEN.out k
    by_cases hlt : k < xs.length
    · obtain ⟨b, o, rfl, hl, c1, c2⟩ := (HR.out.below hbw).fld_at (k := k) hlt
      have hf1 := HS.out xs[k] (List.getElem_mem _)
      have htk := HTK.out k hlt
      have hta := HTA.out k hlt
      generalize xs[k] = f at *
      obtain ⟨f1, f2⟩ := f
      simp only at c1 c2 hf1
      have k1 := fun w => rlower_any ⟨f1.toArray⟩ w (by rw [Lib.size_eq]; exact hf1)
      simp only at k1
      have hsn : sameN nm (f1, f2) = (lowerL f1 == lowerL nm) := rfl
      have K1 := Lib.hid k1
      have HTA2 := Lib.hid hta; have HTK2 := Lib.hid htk
      clear k1 hf1 HS HTK HTA HLEN HFIN hta htk
      generalize setP nm vl false (xs.take k) = dk at *
      have hfl : dk.length ≤ 1000000000 := by omega
      cases hq : (lowerL f1 == lowerL nm)
      · rw [hq] at hsn
        have hnx := HTK2.out; have hny := HTA2.out
        rw [hsn, cond_false] at hnx
        rw [hsn, Bool.or_false] at hny
        have HNX := Lib.hid hnx; have HNY := Lib.hid hny; have Hq := Lib.hid hq
        clear hnx hny hq HTK2 HTA2 hsn
        generalize (xs.take k).any (sameN nm) = th at *
        go_wp2_with fail
        refine (K1.out _).mono ?_
        rintro e w1 ⟨rfl, hb1⟩
        go_wp2_with fail
        refine (K2.out _).mono ?_
        rintro e w2 ⟨rfl, hb2⟩
        have hb12 := bt hb1 hb2
        have hB2 := bt hbw hb12
        have d1 := (hb12.cell (p := ⟨b, o + k * 2, none⟩) hl).trans c1
        have d2 := (hb12.cell (p := ⟨b, o + k * 2 + 1, none⟩) hl).trans c2
        have HO2 := Lib.hid (HO.out.below hb12)
        have q1 := Hq.out
        have q2 : (lowerL f1 != lowerL nm) = true := by simp [bne, q1]
        clear c1 c2 hb1 hb2 HO
        go_wp2_with (at_builtin; refine app_fld w.heap.size (f1, f2) HO2.out hB2.size hfl rfl _ _ rfl rfl rfl ?_)
        intro v' w3 hO3 hb3 _
        have HO3 : Hid (OwnF w.heap.size v' (setP nm vl false (xs.take (k + 1))) w3) := by rw [HNX.out]; exact Lib.hid hO3
        have hB3 := hB2.trans hb3
        clear hO3 hb3 d1 d2 q1 q2 HO2
        go_wp2
        go_roundw
        case rel => exact ⟨k + 1, by omega, by go_num, HO3, by rw [HNY.out], hB3⟩
        case measure => simp [intOf]; omega
      · rw [hq] at hsn
        have hnx := HTK2.out; have hny := HTA2.out
        rw [hsn, cond_true] at hnx
        rw [hsn, Bool.or_true] at hny
        have HNY := Lib.hid hny; have Hq := Lib.hid hq
        cases hth : (xs.take k).any (sameN nm)
        · rw [hth, cond_false] at hnx
          have HNX := Lib.hid hnx
          clear hnx hny hq HTK2 HTA2 hsn hth
          go_wp2_with fail
          refine (K1.out _).mono ?_
          rintro e w1 ⟨rfl, hb1⟩
          go_wp2_with fail
          refine (K2.out _).mono ?_
          rintro e w2 ⟨rfl, hb2⟩
          have hb12 := bt hb1 hb2
          have hB2 := bt hbw hb12
          have d1 := (hb12.cell (p := ⟨b, o + k * 2, none⟩) hl).trans c1
          have d2 := (hb12.cell (p := ⟨b, o + k * 2 + 1, none⟩) hl).trans c2
          have HO2 := Lib.hid (HO.out.below hb12)
          have q1 := Hq.out
          have q2 : (lowerL f1 != lowerL nm) = false := by simp [bne, q1]
          clear c1 c2 hb1 hb2 HO
          go_wp2_with (at_builtin; refine app_fld w.heap.size (f1, vl) HO2.out hB2.size hfl rfl _ _ rfl rfl rfl ?_)
          intro v' w3 hO3 hb3 _
          have HO3 : Hid (OwnF w.heap.size v' (setP nm vl false (xs.take (k + 1))) w3) := by rw [HNX.out]; exact Lib.hid hO3
          have hB3 := hB2.trans hb3
          clear hO3 hb3 d1 d2 q1 q2 HO2
          go_wp2
          go_roundw
          case rel => exact ⟨k + 1, by omega, by go_num, HO3, by rw [HNY.out], hB3⟩
          case measure => simp [intOf]; omega
        · rw [hth, cond_true, List.append_nil] at hnx
          have HNX := Lib.hid hnx
          clear hnx hny hq HTK2 HTA2 hsn hth
          go_wp2_with fail
          refine (K1.out _).mono ?_
          rintro e w1 ⟨rfl, hb1⟩
          go_wp2_with fail
          refine (K2.out _).mono ?_
          rintro e w2 ⟨rfl, hb2⟩
          have hb12 := bt hb1 hb2
          have hB2 := bt hbw hb12
          have HO2 : Hid (OwnF w.heap.size (.slice oa dk.length oc) (setP nm vl false (xs.take (k + 1))) w2) := by rw [HNX.out]; exact Lib.hid (HO.out.below hb12)
          have q1 := Hq.out
          have q2 : (lowerL f1 != lowerL nm) = false := by simp [bne, q1]
          clear c1 c2 hb1 hb2 HO
          go_wp2
          go_roundw
          case rel => exact ⟨k + 1, by omega, by go_num, HO2, by rw [HNY.out], hB2⟩
          case measure => simp [intOf]; omega
    · have hke : k = xs.length := by omega
      subst hke
      have hfin := HFIN.out
      clear HFIN HS HTK HTA HLEN
      generalize setP nm vl false (xs.take xs.length) = dk at *
      generalize (xs.take xs.length).any (sameN nm) = th at *
      have hfl : dk.length ≤ 1000000000 := by omega
      cases th
      · rw [cond_false] at hfin
        have HFIN := Lib.hid hfin; clear hfin
        go_wp2_with (at_builtin; refine app_fld w.heap.size (nm, vl) HO.out hbw.size hfl rfl _ _ rfl rfl rfl ?_)
        intro v' w3 hO3 hb3 _
        obtain ⟨a3, c3, rfl⟩ := hO3.shape
        have hO4 : OwnF w.heap.size (.slice a3 (dk ++ [(nm, vl)]).length c3) (dk ++ [(nm, vl)]) w3 := hO3
        rw [← HFIN.out] at hO4
        have hl2 : (dk ++ [(nm, vl)]).length = tot.length := by rw [HFIN.out]
        have HO3 := Lib.hid hO4; have HL2 := Lib.hid hl2
        have hB3 := hbw.trans hb3
        clear hO3 hO4 hb3 HO hl2
        go_wp2
        go_ret
        exact ⟨a3, c3, by simp [← HL2.out], HO3.out, hB3⟩
      · rw [cond_true, List.append_nil] at hfin
        subst hfin
        go_wp2
        go_ret
        exact ⟨oa, oc, rfl, HO.out, hbw⟩
end Go.Proofs.YthppcaoldobocaaDoor
