/- The walk of the document's Names (layer 15). -/
import Derived.Test.YtdlajobnnnmojaaDoorNames
import Derived.Test.YtdlajobnnnmojaaDoorRValues
import Derived.Test.YtdlajobnnnmojaaDoorSplitR
import Derived.Test.YtdlajobnnnmojaaDoorRTok
import Derived.Test.YtdlajobnnnmojaaDoorIn15
namespace Go.Proofs.YtdlajobnnnmojaaDoor
open Go.RowKit

theorem word_low (c : UInt8) : wordb (lowb c) = wordb c := by
  by_cases h : (decide (65 ≤ c.toNat) && decide (c.toNat ≤ 90)) = true
  · have h1 : lowb c = c + 32 := by unfold lowb; rw [h]; rfl
    have h2 : (c + 32).toNat = c.toNat + 32 := by
      simp at h; rw [UInt8.toNat_add]; simp; omega
    simp at h
    have h3 : letterb c = true := by unfold letterb; simp; omega
    have h4 : letterb (c + 32) = true := by unfold letterb; rw [h2]; simp; omega
    rw [h1]; unfold wordb; rw [h3, h4]; rfl
  · have h' : (decide (65 ≤ c.toNat) && decide (c.toNat ≤ 90)) = false := by simpa using h
    have h1 : lowb c = c := by unfold lowb; rw [h']; rfl
    rw [h1]
theorem token_low (l : List UInt8) : tokenL (lowerL l) = tokenL l := by
  unfold tokenL lowerL
  rw [List.all_map]
  congr 1
  · congr 1; funext c; exact word_low c
  · cases l <;> rfl
theorem low_42 (c : UInt8) : lowb c = 42 ↔ c = 42 := by
  by_cases h : (decide (65 ≤ c.toNat) && decide (c.toNat ≤ 90)) = true
  · have h1 : lowb c = c + 32 := by unfold lowb; rw [h]; rfl
    have h2 : (c + 32).toNat = c.toNat + 32 := by
      simp at h; rw [UInt8.toNat_add]; simp; omega
    simp at h
    rw [h1, ← UInt8.toNat_inj, ← UInt8.toNat_inj, h2]
    show c.toNat + 32 = 42 ↔ c.toNat = 42
    omega
  · have h' : (decide (65 ≤ c.toNat) && decide (c.toNat ≤ 90)) = false := by simpa using h
    have h1 : lowb c = c := by unfold lowb; rw [h']; rfl
    rw [h1]
theorem star_low (l : List UInt8) : (lowerL l == [42]) = (l == [42]) := by
  unfold lowerL
  match l with
  | [] => rfl
  | [c] =>
    rw [Bool.eq_iff_iff, beq_iff_eq, beq_iff_eq]
    simp [low_42]
  | a :: b :: r =>
    rw [Bool.eq_iff_iff, beq_iff_eq, beq_iff_eq]
    simp
theorem nameOk_eq (p : List UInt8) : nameOk (lowerL p) = (tokenL p && !(p == [42])) := by unfold nameOk; rw [token_low, star_low]

set_option maxRecDepth 100000 in
set_option maxHeartbeats 4000000 in
theorem rnames_any (st : Int) (re : ByteArray) (mi : Int) (A : Option Addr) (n c : Nat) (bo : ByteArray) (xs : List Fld) (w : World) (hr : Rd A n 2 (fldsV xs) w) (hn : n ≤ 1000) (hs : ∀ f ∈ xs, f.1.length ≤ 1000000 ∧ f.2.length ≤ 1000000) :
    Calls Tryd.prog 11 #[repV st re mi A n c bo] w (NamesPost w (namesO xs)) := by
  obtain ⟨W0, hW0⟩ : ∃ W0, w.alloc (.cells #[.int .i64 st, .string re, .int .i64 mi, .slice A n c, .string bo] 24) = W0 := ⟨_, rfl⟩
  have hB0 : Below w.heap.size w W0 := by rw [← hW0]; exact (Below.refl w.heap.size w).alloc (Nat.le_refl _) _
  have hV0 : W0.cell? ⟨w.heap.size, 3, none⟩ = some (.slice A n c) := by rw [← hW0]; exact World.cell?_alloc_mark w _ _ _ 3
  have k0 := rvalues_any A n c xs ⟨varyW.toArray⟩ W0 (hr.below hB0) (by omega) (fun f hf => (hs f hf).1) (by decide)
  have hvl := valuesL_le xs varyW
  have hxn := hr.fld
  have hvb : ∀ v ∈ valuesL xs varyW, v.length ≤ 1000000 := by
    intro v hv
    obtain ⟨f, hf, e⟩ := valuesL_mem hv
    rw [← e]; exact (hs f hf).2
  have hvn : (valuesL xs varyW).length ≤ 1000 := by omega
  simp only at k0
  obtain ⟨tot, htot⟩ : ∃ t, namesO xs = t := ⟨_, rfl⟩
  rw [htot]
  have ht2 : namesVs [] (valuesL xs varyW) = tot := htot
  clear hvl hxn hr hs htot
  generalize valuesL xs varyW = vs at *
  have K0 := Lib.hid k0; have HVB := Lib.hid hvb; have HT := Lib.hid ht2; have HW0 := Lib.hid hW0; clear k0 hvb ht2 hW0
  unfold repV
  go_enter Tryd.func11, Tryd.ntmps11
  go_upto_region 1 with (fail)
  rw [HW0.out]
  go_wp2_with fail
  refine K0.out.mono ?_
  rintro e w2 ⟨va, vc, rfl, ho2, hb2⟩
  have HV := Lib.hid ho2.rd.2
  have hB2 := hB0.trans (hb2.mono hB0.size)
  clear ho2 hb2 hB0 hV0
  have hg0 := Below.refl w2.heap.size w2
  go_wp2_with fail
  go_loopw [6, 4] (fun i l wr => ∃ (k : Nat) (acc : List (List UInt8)), k ≤ vs.length ∧ i = .int .i64 k ∧ acc.length ≤ 64 * k ∧ Hid (OwnS w2.heap.size l acc wr) ∧ Below w2.heap.size w2 wr ∧ Hid (namesVs acc (vs.drop k) = tot)) (fun i _ _ => vs.length - (intOf i).toNat)
  case atStart => exact ⟨0, [], Nat.zero_le _, rfl, by simp, Lib.hid (OwnS.nil _ _), hg0, by rw [List.drop_zero]; exact HT⟩
  case round =>
    clear hg0 HT
    obtain ⟨k, acc, hk, rfl, hacc, HO, hgr, HT⟩ := hrel
    by_cases hlt : k < vs.length
    · obtain ⟨b, o, rfl, hl, c1⟩ := (HV.out.below hgr).str_at (k := k) hlt
      have hv := HVB.out vs[k] (List.getElem_mem _)
      have hdr := HT.out
      rw [drop_consL vs k hlt] at hdr
      generalize vs[k] = v at *
      rw [namesVs] at hdr
      have hpl := splitL_le' 44 v
      have hpt := Nat.le_trans (split_total 44 v) hv
      have k1 := fun w => rsplit_any ⟨v.toArray⟩ 44 w (by rw [Lib.size_eq]; exact hv)
      simp only at k1
      generalize splitL 44 v = r at *
      obtain ⟨ps, er⟩ := r
      simp only at hpl hpt hdr
      have K1 := Lib.hid k1; have HD := Lib.hid hdr
      clear k1 hdr hv
      go_wp2_with fail
      refine (K1.out _).mono ?_
      rintro e w3 ⟨pa, pc, rfl, ho3, hb3⟩
      simp only at ho3
      have hgr3 : Below w2.heap.size w2 w3 := hgr.trans (hb3.mono hgr.size)
      have hbw : Below w.heap.size w w3 := hB2.trans (hgr3.mono hB2.size)
      cases he : (er == 0)
      · have n1 : (er != 0) = true := by simp [bne, he]
        have hd := HD.out
        rw [he, cond_false] at hd
        subst hd
        go_wp2
        go_ret2
        exact NamesPost.none hbw
      · have n1 : (er != 0) = false := by simp [bne, he]
        have hd := HD.out
        rw [he, cond_true] at hd
        have hd2 : tailO (namesPs acc ps) (vs.drop (k + 1)) = tot := hd
        obtain ⟨tp, htp⟩ : ∃ t, namesPs acc ps = t := ⟨_, rfl⟩
        rw [htp] at hd2
        have HD2 := Lib.hid hd2; have HTP := Lib.hid htp
        clear hd hd2 htp HD HT
        have hst : Hid (OwnS w2.heap.size u4 acc w3 ∧ Rd pa ps.length 1 (strsV ps) w3 ∧ Sep u4 pa ps.length) := by
          refine Lib.hid ⟨HO.out.below hb3, ho3.rd.2, ?_⟩
          intro _ g o e x
          have h1 := (HO.out.lt g x).2
          have h2 := own_new ho3 g o e
          omega
        clear HO ho3 hb3 hbw hgr K1 c1
        go_wp2_with fail
        obtain ⟨wo, rfl⟩ : ∃ wo : World, wo = wr := ⟨_, rfl⟩
        go_loopw [9, 4] (fun j l wi => ∃ (m : Nat) (ac : List (List UInt8)), m ≤ ps.length ∧ j = .int .i64 m ∧ ac.length ≤ 64 * k + m ∧ Hid (OwnS w2.heap.size l ac wi ∧ Rd pa ps.length 1 (strsV ps) wi ∧ Sep l pa ps.length) ∧ Below w2.heap.size w2 wi ∧ Hid (namesPs ac (ps.drop m) = tp)) (fun j _ _ => ps.length - (intOf j).toNat)
        case atStart => exact ⟨0, acc, Nat.zero_le _, rfl, hacc, hst, hgr3, by rw [List.drop_zero]; exact HTP⟩
        case round =>
          clear hst hgr3 HTP
          obtain ⟨m, ac, hm, rfl, hac, HI, hgi, HTP⟩ := hrel
          by_cases hlm : m < ps.length
          · obtain ⟨b2, o2, rfl, hl2, c2⟩ := HI.out.2.1.str_at (k := m) hlm
            have hpp := Nat.le_trans (total_mem (List.getElem_mem hlm)) hpt
            have hdr := HTP.out
            rw [drop_consL ps m hlm, namesPs, nameOk_eq] at hdr
            generalize ps[m] = p at *
            have k4 := fun w => rlower_any ⟨p.toArray⟩ w (by rw [Lib.size_eq]; exact hpp)
            have k5 := fun w => rtoken_any ⟨p.toArray⟩ w (by rw [Lib.size_eq]; exact hpp)
            simp only at k4 k5
            generalize lowerL p = nm at *
            have K4 := Lib.hid k4; have K5 := Lib.hid k5; have HD := Lib.hid hdr
            clear k4 k5 hdr hpp
            have hbw5 : Below w.heap.size w wr := hB2.trans (hgi.mono hB2.size)
            cases hst : (p == [42])
            · cases htk : tokenL p
              · have ht : tot = none := by
                  have h1 := HD.out
                  rw [htk, Bool.false_and, cond_false] at h1
                  have h2 := HD2.out
                  rw [← h1] at h2
                  exact h2.symm
                subst ht
                have HTK := Lib.hid htk; clear htk
                go_wp2_with (go_at_call 30; refine (K5.out _).mono ?_; rintro e w6 ⟨rfl, rfl⟩; rw [HTK.out])
                go_ret2
                exact NamesPost.none hbw5
              · have h1 := HD.out
                rw [htk, hst] at h1
                have HN := Lib.hid h1
                have HTK := Lib.hid htk
                clear htk h1 HD
                go_wp2_with fail
                refine (K5.out _).mono ?_
                rintro e w6 ⟨rfl, rfl⟩
                rw [HTK.out]
                go_wp2_with fail
                refine (K4.out _).mono ?_
                rintro e w4 ⟨rfl, hb4⟩
                have hgr4 := hgi.trans (hb4.mono hgi.size)
                have hst4 : Hid (OwnS w2.heap.size u4 ac w4 ∧ Rd (some ⟨b2, o2, none⟩) ps.length 1 (strsV ps) w4 ∧ Sep u4 (some ⟨b2, o2, none⟩) ps.length) := Lib.hid ⟨HI.out.1.below hb4, HI.out.2.1.below hb4, HI.out.2.2⟩
                clear HI hb4 c2
                obtain ⟨ua, uc, rfl⟩ := hst4.out.1.shape
                have k6 := in15_any ua ac.length uc ac nm w4 hst4.out.1.rd.2 (by omega)
                have K6 := Lib.hid k6; clear k6
                go_wp2_with fail
                refine K6.out.mono ?_
                rintro e w6 ⟨rfl, rfl⟩
                have hadd : addN ac nm = bif ac.contains nm then ac else ac ++ [nm] := rfl
                have hal := addN_le ac nm
                cases hct : ac.contains nm
                · rw [hct, cond_false] at hadd
                  have HADD := Lib.hid hadd
                  clear hct hadd hst
                  go_wp2_with (at_builtin; refine app_str w2.heap.size nm hst4.out.1 hgr4.size (by omega) rfl _ _ rfl rfl rfl ?_)
                  intro v' w7 hO7 hb7 hfar7
                  have hI7 : Hid (OwnS w2.heap.size v' (addN ac nm) w7 ∧ Rd (some ⟨b2, o2, none⟩) ps.length 1 (strsV ps) w7 ∧ Sep v' (some ⟨b2, o2, none⟩) ps.length) := by
                    obtain ⟨r1, r2⟩ := hst4.out.2.1.far hfar7 hst4.out.2.2
                    refine Lib.hid ⟨?_, r1, r2⟩
                    rw [HADD.out]; exact hO7
                  have hgr7 := hgr4.trans hb7
                  clear hO7 hb7 hfar7 hst4
                  go_wp2
                  go_roundw
                  case rel => exact ⟨m + 1, addN ac nm, by omega, by go_num, by omega, hI7, hgr7, HN⟩
                  case measure => simp [intOf]; omega
                · rw [hct, cond_true] at hadd
                  have hI7 : Hid (OwnS w2.heap.size (.slice ua ac.length uc) (addN ac nm) w4 ∧ Rd (some ⟨b2, o2, none⟩) ps.length 1 (strsV ps) w4 ∧ Sep (.slice ua ac.length uc) (some ⟨b2, o2, none⟩) ps.length) := by rw [hadd]; exact hst4
                  clear hct hadd hst hst4
                  go_wp2
                  go_roundw
                  case rel => exact ⟨m + 1, addN ac nm, by omega, by go_num, by omega, hI7, hgr4, HN⟩
                  case measure => simp [intOf]; omega
            · have ht : tot = none := by
                have h1 := HD.out
                rw [hst, Bool.not_true, Bool.and_false, cond_false] at h1
                have h2 := HD2.out
                rw [← h1] at h2
                exact h2.symm
              subst ht
              go_wp2_with (go_at_call 30; refine (K5.out _).mono ?_; rintro e w6 ⟨rfl, rfl⟩)
              go_ret2
              exact NamesPost.none hbw5
          · have hme : m = ps.length := by omega
            subst hme
            have h1 := HTP.out
            rw [List.drop_length, namesPs] at h1
            have h2 := HD2.out
            rw [← h1] at h2
            have HT2 : Hid (namesVs ac (vs.drop (k + 1)) = tot) := Lib.hid h2
            have hI : Hid (OwnS w2.heap.size u4 ac wr) := Lib.hid HI.out.1
            clear HI h1 h2 HTP HD2
            go_wp2
            go_roundw
            case rel => exact ⟨k + 1, ac, by omega, by go_num, by omega, hI, hgi, HT2⟩
            case measure => simp [intOf]; omega
    · have hke : k = vs.length := by omega
      subst hke
      have ht := HT.out
      rw [List.drop_length, namesVs] at ht
      subst ht
      obtain ⟨la, lc, rfl⟩ := HO.out.shape
      have hbw : Below w.heap.size w wr := hB2.trans (hgr.mono hB2.size)
      go_wp2
      go_ret2
      exact ⟨la, lc, rfl, HO.out.base hB2.size, hbw⟩
end Go.Proofs.YtdlajobnnnmojaaDoor
